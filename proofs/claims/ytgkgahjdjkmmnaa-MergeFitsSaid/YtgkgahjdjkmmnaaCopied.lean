/- An entry in new memory. -/
import Derived.Test.YtgkgahjdjkmmnaaSorted
import Derived.Deep.WholeRow
import Derived.Laws.CopyOwn
namespace Go.Proofs.Ytgkgahjdjkmmnaa
open Go.RowKit

set_option maxRecDepth 100000 in
set_option maxHeartbeats 800000 in
theorem clone_any (v : Value) (l : List UInt8) (w : World) (hv : Bs w v l) (hl : l.length ≤ 140737488355328) (R : Ending → World → Prop)
    (hR : ∀ ad c w', w'.ownsRow w.heap.size 5 1 (.slice ad l.length c) l.length (bv l) → Below w.heap.size w w' → R (.returned (.slice ad l.length c)) w') :
    Calls Try.prog 54 #[v] w R := by
  obtain ⟨ad, c, rfl, hr, h1, h2, h3⟩ := hv
  cases ad with
  | none =>
    have hc : c = 0 := h3 rfl
    subst hc
    have hl0 : l = [] := List.eq_nil_of_length_eq_zero (by omega)
    subst hl0
    have he : ∀ w : World, (binOp .eql 25 (.slice none 0 0) (.slice none 0 0)).run Try.prog w = .ok (.bool true) w := fun _ => rfl
    go_enter Try.func54, Try.ntmps54
    go_wp2
    exact hR _ _ _ (World.ownsRow_nil _ _ _ _) (Below.refl _ _)
  | some a =>
    have he : ∀ w : World, (binOp .eql 25 (.slice (some a) l.length c) (.slice none 0 0)).run Try.prog w = .ok (.bool false) w := fun _ => rfl
    have hown := (World.ownsRow_made (base := w.heap.size) (e := 5) (size := 1) w #[] 0 (Nat.le_refl _) (by unfold maxLen; omega) rfl)
    have hr1 := rd_alloc hr (.cells #[] 5)
    go_enter Try.func54, Try.ntmps54
    go_wp2_with (at_builtin; go_must (refine wpList_app (by rfl) (.tmp 5) (.tmp 6) 25 (by rfl) w.heap.size 5 (.int .u8 0) 1 1 Try.underlying25 Try.info5 rfl (by decide) _ _ _ _ rfl hown _ _ _ _ rfl hr1 (bv_oneCell _) h3 (by unfold maxLen; omega) (by omega) (by simp) ?_))
    intro ad2 c2 w2 hown2 hg2
    have hb2 := below_app ((Below.refl w.heap.size w).alloc (Nat.le_refl _) _) hg2 (by simp) hown
    clear hg2 hown hr1 hr
    go_wp2
    exact hR _ _ _ hown2 hb2

theorem grownBy_setRow (w : World) (g : Nat) (cs : Array Value) : w.grownBy (w.setRow g cs) (some g) :=
  ⟨rfl, rfl, rfl, by simp, fun k _ hk => setRow_other w g k cs (fun e => hk (by rw [e]))⟩
theorem Keeps.setRow {te K t : Nat} {c cs : Array Value} {fr : Nat × Nat} {w : World} (hK : w.heap[K]? = some (.cells c t fr)) (ht : t ≠ te) : Keeps te w (w.setRow K cs) := by
  intro base u n xs hu
  refine owns_grown hu (grownBy_setRow w K cs) fun k hk hc => ?_
  exact own_block_ne hK hu ht (by rw [hk]; first | exact hc | exact hc.symm)
theorem row_later2 {w w' : World} {g : Nat} {o : Obj} (h : w.heap[g]? = some o) (hb : Below w.heap.size w w') : w'.heap[g]? = some o := by
  rw [hb.block g (Array.getElem?_eq_some_iff.1 h).1]
  exact h

/-- An entry whose bytes are the call's own, from block B on. -/
structure EO (w : World) (B : Nat) (k v : Value) (e : Ent) : Prop where
  hk : w.ownsRow B 5 1 k e.key.length (bv e.key)
  hv : w.ownsRow B 5 1 v e.val.length (bv e.val)

set_option maxRecDepth 100000 in
set_option maxHeartbeats 4000000 in
theorem copied_any (k v : Value) (e : Ent) (w : World) (h : EC w k v e) (R : Ending → World → Prop)
    (hR : ∀ k' v' w', EO w' w.heap.size k' v' e → Below w.heap.size w w' → R (.returned (.agg #[k', v', .int .i64 e.seq, .bool e.dead])) w') :
    Calls Try.prog 34 #[.agg #[k, v, .int .i64 e.seq, .bool e.dead]] w R := by
  obtain ⟨K, V, s, d⟩ := e
  obtain ⟨hk, hv, lk, lv, s0, s1⟩ := h
  simp only at *
  have hk' := hk
  have hv' := hv
  obtain ⟨ka, kc, rfl, _⟩ := hk'
  obtain ⟨va, vc, rfl, _⟩ := hv'
  have hb0 := ((Below.refl w.heap.size w).alloc (Nat.le_refl _) (Obj.cells #[Value.slice ka K.length kc, Value.slice va V.length vc, Value.int .i64 s, Value.bool d] 27)).alloc (by simp) (Obj.cells #[Value.slice none 0 0, Value.slice none 0 0, Value.int .i64 0, Value.bool false] 27)
  go_enter Try.func34, Try.ntmps34
  go_wp2
  have n0 : ((w.alloc (Obj.cells #[Value.slice ka K.length kc, Value.slice va V.length vc, Value.int .i64 s, Value.bool d] 27)).alloc (Obj.cells #[Value.slice none 0 0, Value.slice none 0 0, Value.int .i64 0, Value.bool false] 27)).drew.heap[w.heap.size]? = some (Obj.cells #[Value.slice ka K.length kc, Value.slice va V.length vc, Value.int .i64 s, Value.bool d] 27) := block_alloc (heap_alloc_new w _)
  have n1 := heap_alloc_new (w.alloc (Obj.cells #[Value.slice ka K.length kc, Value.slice va V.length vc, Value.int .i64 s, Value.bool d] 27)) (Obj.cells #[Value.slice none 0 0, Value.slice none 0 0, Value.int .i64 0, Value.bool false] 27)
  rw [show (w.alloc (Obj.cells #[Value.slice ka K.length kc, Value.slice va V.length vc, Value.int .i64 s, Value.bool d] 27)).heap.size = w.heap.size + 1 by simp] at n1
  have N1 : Hid (((w.alloc (Obj.cells #[Value.slice ka K.length kc, Value.slice va V.length vc, Value.int .i64 s, Value.bool d] 27)).alloc (Obj.cells #[Value.slice none 0 0, Value.slice none 0 0, Value.int .i64 0, Value.bool false] 27)).drew.heap[w.heap.size + 1]? = some (Obj.cells #[Value.slice none 0 0, Value.slice none 0 0, Value.int .i64 0, Value.bool false] 27)) := n1
  have N0 := Lib.hid n0
  have hbd : Below w.heap.size w ((w.alloc (Obj.cells #[Value.slice ka K.length kc, Value.slice va V.length vc, Value.int .i64 s, Value.bool d] 27)).alloc (Obj.cells #[Value.slice none 0 0, Value.slice none 0 0, Value.int .i64 0, Value.bool false] 27)).drew := hb0.drew
  have hz0 : w.heap.size + 2 ≤ ((w.alloc (Obj.cells #[Value.slice ka K.length kc, Value.slice va V.length vc, Value.int .i64 s, Value.bool d] 27)).alloc (Obj.cells #[Value.slice none 0 0, Value.slice none 0 0, Value.int .i64 0, Value.bool false] 27)).drew.heap.size := by simp
  have hk0 := hk.below hbd
  have hv0 := hv.below hbd
  clear n0 n1 hb0 hk hv
  generalize ((w.alloc (Obj.cells #[Value.slice ka K.length kc, Value.slice va V.length vc, Value.int .i64 s, Value.bool d] 27)).alloc (Obj.cells #[Value.slice none 0 0, Value.slice none 0 0, Value.int .i64 0, Value.bool false] 27)) = w0 at N0 N1 hbd hz0 hk0 hv0 ⊢
  have c0 := cell_of_row _ w.heap.size 0 _ _ _ N0.out
  have c1 := cell_of_row _ w.heap.size 1 _ _ _ N0.out
  change _ = some (Value.slice ka K.length kc) at c0
  change _ = some (Value.slice va V.length vc) at c1
  go_region_with (first
    | (go_at_call_of 54 (Value.slice ka K.length kc); refine clone_any _ K _ hk0 (by omega) _ ?_; intro ad1 c1' w1 hown1 hb1; have M0 := row_later2 N0.out hb1; have M1 := Lib.hid (row_later2 N1.out hb1); have hx1 := below_then hbd hb1 (by omega); have hv1 := hv0.below hb1; have hz1 := Nat.le_trans hz0 hb1.size; have e0 := cell_of_row _ w.heap.size 0 _ _ _ M0; have e1 := cell_of_row _ w.heap.size 1 _ _ _ M0; change _ = some (Value.slice ka K.length kc) at e0; change _ = some (Value.slice va V.length vc) at e1; have MM0 := Lib.hid M0; clear M0 hb1)
    | (go_at_call_of 54 (Value.slice va V.length vc); refine clone_any _ V _ hv1 (by omega) _ ?_; intro ad2 c2' w2 hown2 hb2; have M0 := row_later2 MM0.out hb2; have M1' := Lib.hid (row_later2 M1.out hb2); have hx2 := below_then hx1 hb2 (by omega); have hz2 := Nat.le_trans hz1 hb2.size; have f0 := cell_of_row _ w.heap.size 0 _ _ _ M0; have f1 := cell_of_row _ w.heap.size 1 _ _ _ M0; change _ = some (Value.slice ka K.length kc) at f0; change _ = some (Value.slice va V.length vc) at f1; have hown3 := owns_below hown1 hb2; have g0 := frozen_block M0 0; have g1 := frozen_block M0 1; have MM1 := Lib.hid M0; clear M0 hb2))
  all_goals
    have P0 : (((w2.setCell ⟨w.heap.size, 0, none⟩ (Value.slice ad1 K.length c1')).setCell ⟨w.heap.size, 1, none⟩ (Value.slice ad2 V.length c2'))).heap[w.heap.size]? = some (Obj.cells #[Value.slice ad1 K.length c1', Value.slice ad2 V.length c2', Value.int .i64 s, Value.bool d] 27) := by
      have h1 := heap_setCell_same w2 w.heap.size 0 _ _ (Value.slice ad1 K.length c1') MM1.out
      rw [heap_setCell_same _ w.heap.size 1 _ _ (Value.slice ad2 V.length c2') h1]
      rfl
    have P1 : (((w2.setCell ⟨w.heap.size, 0, none⟩ (Value.slice ad1 K.length c1')).setCell ⟨w.heap.size, 1, none⟩ (Value.slice ad2 V.length c2'))).heap[w.heap.size + 1]? = some (Obj.cells #[Value.slice none 0 0, Value.slice none 0 0, Value.int .i64 0, Value.bool false] 27) := by
      rw [heap_setCell_other _ _ _ _ (by simp), heap_setCell_other _ _ _ _ (by simp)]
      exact M1'.out
    have hx3 : Below w.heap.size w ((w2.setCell ⟨w.heap.size, 0, none⟩ (Value.slice ad1 K.length c1')).setCell ⟨w.heap.size, 1, none⟩ (Value.slice ad2 V.length c2')) := (hx2.setCell (Nat.le_refl _) _).setCell (Nat.le_refl _) _
    have kp1 : Keeps 5 w2 (w2.setCell ⟨w.heap.size, 0, none⟩ (Value.slice ad1 K.length c1')) := Keeps.setK MM1.out (by decide)
    have kp2 : Keeps 5 (w2.setCell ⟨w.heap.size, 0, none⟩ (Value.slice ad1 K.length c1')) ((w2.setCell ⟨w.heap.size, 0, none⟩ (Value.slice ad1 K.length c1')).setCell ⟨w.heap.size, 1, none⟩ (Value.slice ad2 V.length c2')) := Keeps.setK (heap_setCell_same w2 w.heap.size 0 _ _ (Value.slice ad1 K.length c1') MM1.out) (by decide)
    have o1 := owns_mono (base' := w.heap.size) (kp2 _ _ _ _ (kp1 _ _ _ _ hown3)) (by omega)
    have o2 := owns_mono (base' := w.heap.size) (kp2 _ _ _ _ (kp1 _ _ _ _ hown2)) (by omega)
    clear kp1 kp2 hown1 hown2 hown3 MM1 M1' M1 MM0 N0 N1 hx2 hx1 hbd c0 c1 e0 e1 f0 f1 g0 g1 hk0 hv0 hv1
    generalize (w2.setCell ⟨w.heap.size, 0, none⟩ (Value.slice ad1 K.length c1')).setCell ⟨w.heap.size, 1, none⟩ (Value.slice ad2 V.length c2') = w3 at P0 P1 hx3 o1 o2 ⊢
    have HP0 := Lib.hid P0
    have HP1 := Lib.hid P1
    clear P0 P1
    go_wp2_with (first
      | (refine wpList_load_row (o := ⟨some 11, .load 27 (.tmp 1), _, _, _, _⟩) (by rfl) 27 (.tmp 1) (by rfl) w.heap.size (by rfl) _ _ _ _ HP0.out Try.underlying27 rfl (by kernel_rfl) ?_)
      | (refine wpList_store_row (o := ⟨none, .store 27 (.tmp 2) (.tmp 11), _, _, _, _⟩) (by rfl) 27 (.tmp 2) (.tmp 11) (by rfl) (w.heap.size + 1) _ (by rfl) (by rfl) 27 _ HP1.out (by kernel_rfl) (by rfl) (by simp [Value.oneCell']) ?_))
    have kp := Keeps.setRow (te := 5) (cs := #[Value.slice ad1 K.length c1', Value.slice ad2 V.length c2', Value.int .i64 s, Value.bool d]) HP1.out (by decide)
    refine bodyPost_ret (results_cell_row rfl _ _ (w.heap.size + 1) 27 #[Value.slice ad1 K.length c1', Value.slice ad2 V.length c2', Value.int .i64 s, Value.bool d] (0, 0) _ rfl (setRow_heap w3 (w.heap.size + 1) _ _ _ _ HP1.out) Try.underlying27 rfl (by kernel_rfl)) rfl ?_
    exact hR _ _ _ ⟨kp _ _ _ _ o1, kp _ _ _ _ o2⟩ (below_setRow hx3 (by omega) _)
end Go.Proofs.Ytgkgahjdjkmmnaa
