/- Rows of tables of a call's own, their keys its own too; a table in new memory (edit.copied). -/
import Derived.Test.YtpodgocmcnkfdaaOf
namespace Go.Proofs.Ytpodgocmcnkfdaa
open Go.RowKit

theorem grownBy_setRowP (w : World) (g : Nat) (cs : Array Value) : w.grownBy (w.setRow g cs) (some g) :=
  ⟨rfl, rfl, rfl, by simp, fun k _ hk => setRow_other w g k cs (fun e => hk (by rw [e]))⟩
theorem keeps_setRowP {te K t : Nat} {c cs : Array Value} {fr : Nat × Nat} {w : World} (hK : w.heap[K]? = some (.cells c t fr)) (ht : t ≠ te) : Keeps te w (w.setRow K cs) := by
  intro base u n xs hu
  refine owns_grown hu (grownBy_setRowP w K cs) fun k hk hc => ?_
  exact own_block_ne hK hu ht (by rw [hk]; first | exact hc | exact hc.symm)
/-- What grows one row of the call's own keeps the rows of other elements. -/
theorem keeps_grownP {te B e size n c : Nat} {ad : Option Addr} {xs : List Value} {w w' : World} (ho : w.ownsRow B e size (.slice ad n c) n xs) (hg : w.grownBy w' (Value.slice ad n c).ownBlock) (he : te ≠ e) : Keeps te w w' := by
  intro base v m ys hy
  refine owns_grown hy hg fun k hk hc => ?_
  rcases ho.2 with ⟨hn, _⟩ | ⟨g, cap, cur, hv, _, hgb, _⟩
  · simp only [Value.slice.injEq] at hn
    obtain ⟨rfl, _, _⟩ := hn
    simp [Value.ownBlock] at hc
  · simp only [Value.slice.injEq] at hv
    obtain ⟨rfl, _, _⟩ := hv
    simp only [Value.ownBlock, Option.some.injEq] at hc
    subst hc
    exact own_block_ne hgb hy (fun h => he h.symm) hk

/-- A table whose keys are the call's own, from block B on. -/
structure PlO (w : World) (B : Nat) (x y : Value) (p : Pl) : Prop where
  hx : w.ownsRow B 5 1 x p.least.length (bv p.least)
  hy : w.ownsRow B 5 1 y p.most.length (bv p.most)
  hb : PlB p
theorem PlO.keeps {w w' : World} {B : Nat} {x y : Value} {p : Pl} (h : PlO w B x y p) (hk : Keeps 5 w w') : PlO w' B x y p := ⟨hk _ _ _ _ h.hx, hk _ _ _ _ h.hy, h.hb⟩
theorem PlO.below {w w' : World} {B : Nat} {x y : Value} {p : Pl} (h : PlO w B x y p) (hb : Below w.heap.size w w') : PlO w' B x y p := ⟨owns_below h.hx hb, owns_below h.hy hb, h.hb⟩
theorem PlO.mono {w : World} {B B' : Nat} {x y : Value} {p : Pl} (h : PlO w B x y p) (hb : B' ≤ B) : PlO w B' x y p := ⟨owns_mono h.hx hb, owns_mono h.hy hb, h.hb⟩
theorem PlO.plc {w : World} {B : Nat} {x y : Value} {p : Pl} (h : PlO w B x y p) : PlC w x y p := by
  obtain ⟨xa, xc, rfl⟩ := owns_shape h.hx
  obtain ⟨ya, yc, rfl⟩ := owns_shape h.hy
  exact ⟨(bs_of_owns h.hx).2, (bs_of_owns h.hy).2, h.hb⟩

/-- The slice value v is a row of the call's own, from block B on: the tables l, their keys the call's own too. -/
def PlsO (w : World) (B : Nat) (v : Value) (l : List Pl) : Prop :=
  ∃ kv : List (Value × Value), ∃ _ : kv.length = l.length, w.ownsRow B 41 5 v l.length (plcs kv l) ∧ ∀ (i : Nat) (h : i < l.length), PlO w B (kv[i]'(by omega)).1 (kv[i]'(by omega)).2 l[i]
theorem PlsO.nil (w : World) (B : Nat) : PlsO w B (.slice none 0 0) [] := ⟨[], rfl, World.ownsRow_nil _ _ _ _, fun i hi => by simp at hi⟩
theorem PlsO.shape {w : World} {B : Nat} {v : Value} {l : List Pl} (h : PlsO w B v l) : ∃ ad c, v = .slice ad l.length c := by
  obtain ⟨kv, _, h2, _⟩ := h
  obtain ⟨ad, c, rfl⟩ := owns_shape h2
  exact ⟨ad, c, rfl⟩
theorem PlsO.below {w w' : World} {B : Nat} {v : Value} {l : List Pl} (h : PlsO w B v l) (hb : Below w.heap.size w w') : PlsO w' B v l := by
  obtain ⟨kv, h1, h2, h3⟩ := h
  exact ⟨kv, h1, owns_below h2 hb, fun i hi => (h3 i hi).below hb⟩
theorem PlsO.mono {w : World} {B B' : Nat} {v : Value} {l : List Pl} (h : PlsO w B v l) (hB : B' ≤ B) : PlsO w B' v l := by
  obtain ⟨kv, h1, h2, h3⟩ := h
  exact ⟨kv, h1, owns_mono h2 hB, fun i hi => (h3 i hi).mono hB⟩
theorem PlsO.pls {w : World} {B : Nat} {v : Value} {l : List Pl} (h : PlsO w B v l) : Pls w v l := by
  obtain ⟨kv, h1, h2, h3⟩ := h
  exact PlsR.pls (w0 := w) ⟨kv, h1, h2, fun i hi => (h3 i hi).plc⟩ (Below.refl _ _)
/-- One table more in a row of the call's own. -/
theorem PlsO.push {w w' : World} {B : Nat} {v' x y : Value} {l : List Pl} {p : Pl} {kv : List (Value × Value)} (hl : kv.length = l.length) (heach : ∀ (i : Nat) (h : i < l.length), PlO w B (kv[i]'(by omega)).1 (kv[i]'(by omega)).2 l[i])
    (hk : Keeps 5 w w') (hown : w'.ownsRow B 41 5 v' (l.length + 1) (plcs kv l ++ [.int .i64 p.num, .int .i64 p.level, .int .i64 p.count, x, y])) (he : PlO w B x y p) : PlsO w' B v' (l ++ [p]) := by
  refine ⟨kv ++ [(x, y)], by simp [hl], ?_, fun i hi => ?_⟩
  · rw [plcs_snoc kv l hl]
    simpa [plc] using hown
  · simp only [List.length_append, List.length_cons, List.length_nil] at hi
    by_cases h : i < l.length
    · rw [List.getElem_append_left h]
      have h1 : (kv ++ [(x, y)])[i]'(by simp; omega) = kv[i]'(by omega) := List.getElem_append_left (by omega)
      rw [h1]
      exact (heach i h).keeps hk
    · obtain rfl : i = l.length := by omega
      rw [List.getElem_append_right (Nat.le_refl _)]
      have h1 : (kv ++ [(x, y)])[l.length]'(by simp; omega) = (x, y) := by
        rw [List.getElem_append_right (by omega)]
        simp [hl]
      rw [h1]
      simpa using he.keeps hk

set_option maxRecDepth 100000 in
set_option maxHeartbeats 4000000 in
theorem copiedp_any (x y : Value) (p : Pl) (w : World) (h : PlC w x y p) (R : Ending → World → Prop)
    (hR : ∀ x' y' w', PlO w' w.heap.size x' y' p → Below w.heap.size w w' → R (.returned (.agg #[.int .i64 p.num, .int .i64 p.level, .int .i64 p.count, x', y'])) w') :
    Calls Try.prog 34 #[.agg #[.int .i64 p.num, .int .i64 p.level, .int .i64 p.count, x, y]] w R := by
  obtain ⟨n, l, c, K, V⟩ := p
  obtain ⟨hk, hv, hpb⟩ := h
  have lk : K.length ≤ 140737488351232 := hpb.la
  have lv : V.length ≤ 140737488351232 := hpb.lb
  have HPB := Lib.hid hpb
  have HR := Lib.hid hR
  clear hpb hR
  simp only at *
  have hk' := hk
  have hv' := hv
  obtain ⟨ka, kc, rfl, _⟩ := hk'
  obtain ⟨va, vc, rfl, _⟩ := hv'
  have hb0 := ((Below.refl w.heap.size w).alloc (Nat.le_refl _) (Obj.cells #[Value.int .i64 n, .int .i64 l, .int .i64 c, Value.slice ka K.length kc, Value.slice va V.length vc] 41)).alloc (by simp) (Obj.cells #[Value.int .i64 0, .int .i64 0, .int .i64 0, Value.slice none 0 0, Value.slice none 0 0] 41)
  go_enter Try.func34, Try.ntmps34
  go_wp2
  have n0 : ((w.alloc (Obj.cells #[Value.int .i64 n, .int .i64 l, .int .i64 c, Value.slice ka K.length kc, Value.slice va V.length vc] 41)).alloc (Obj.cells #[Value.int .i64 0, .int .i64 0, .int .i64 0, Value.slice none 0 0, Value.slice none 0 0] 41)).drew.heap[w.heap.size]? = some (Obj.cells #[Value.int .i64 n, .int .i64 l, .int .i64 c, Value.slice ka K.length kc, Value.slice va V.length vc] 41) := block_alloc (heap_alloc_new w _)
  have n1 := heap_alloc_new (w.alloc (Obj.cells #[Value.int .i64 n, .int .i64 l, .int .i64 c, Value.slice ka K.length kc, Value.slice va V.length vc] 41)) (Obj.cells #[Value.int .i64 0, .int .i64 0, .int .i64 0, Value.slice none 0 0, Value.slice none 0 0] 41)
  rw [show (w.alloc (Obj.cells #[Value.int .i64 n, .int .i64 l, .int .i64 c, Value.slice ka K.length kc, Value.slice va V.length vc] 41)).heap.size = w.heap.size + 1 by simp] at n1
  have N1 : Hid (((w.alloc (Obj.cells #[Value.int .i64 n, .int .i64 l, .int .i64 c, Value.slice ka K.length kc, Value.slice va V.length vc] 41)).alloc (Obj.cells #[Value.int .i64 0, .int .i64 0, .int .i64 0, Value.slice none 0 0, Value.slice none 0 0] 41)).drew.heap[w.heap.size + 1]? = some (Obj.cells #[Value.int .i64 0, .int .i64 0, .int .i64 0, Value.slice none 0 0, Value.slice none 0 0] 41)) := n1
  have N0 := Lib.hid n0
  have hbd : Below w.heap.size w ((w.alloc (Obj.cells #[Value.int .i64 n, .int .i64 l, .int .i64 c, Value.slice ka K.length kc, Value.slice va V.length vc] 41)).alloc (Obj.cells #[Value.int .i64 0, .int .i64 0, .int .i64 0, Value.slice none 0 0, Value.slice none 0 0] 41)).drew := hb0.drew
  have hz0 : w.heap.size + 2 ≤ ((w.alloc (Obj.cells #[Value.int .i64 n, .int .i64 l, .int .i64 c, Value.slice ka K.length kc, Value.slice va V.length vc] 41)).alloc (Obj.cells #[Value.int .i64 0, .int .i64 0, .int .i64 0, Value.slice none 0 0, Value.slice none 0 0] 41)).drew.heap.size := by simp
  have hk0 := hk.below hbd
  have hv0 := hv.below hbd
  clear n0 n1 hb0 hk hv
  generalize ((w.alloc (Obj.cells #[Value.int .i64 n, .int .i64 l, .int .i64 c, Value.slice ka K.length kc, Value.slice va V.length vc] 41)).alloc (Obj.cells #[Value.int .i64 0, .int .i64 0, .int .i64 0, Value.slice none 0 0, Value.slice none 0 0] 41)) = w0 at N0 N1 hbd hz0 hk0 hv0 ⊢
  have c0 := cell_of_row _ w.heap.size 3 _ _ _ N0.out
  have c1 := cell_of_row _ w.heap.size 4 _ _ _ N0.out
  change _ = some (Value.slice ka K.length kc) at c0
  change _ = some (Value.slice va V.length vc) at c1
  go_region_with (first
    | (go_at_call_of 62 (Value.slice ka K.length kc); refine cloneb_any _ K _ hk0 (by omega) _ ?_; intro ad1 c1' w1 hown1 hb1; have M0 := row_on N0.out hb1; have M1 := Lib.hid (row_on N1.out hb1); have hx1 := below_then hbd hb1 (by omega); have hv1 := hv0.below hb1; have hz1 := Nat.le_trans hz0 hb1.size; have e0 := cell_of_row _ w.heap.size 3 _ _ _ M0; have e1 := cell_of_row _ w.heap.size 4 _ _ _ M0; change _ = some (Value.slice ka K.length kc) at e0; change _ = some (Value.slice va V.length vc) at e1; have MM0 := Lib.hid M0; clear M0 hb1)
    | (go_at_call_of 62 (Value.slice va V.length vc); refine cloneb_any _ V _ hv1 (by omega) _ ?_; intro ad2 c2' w2 hown2 hb2; have M0 := row_on MM0.out hb2; have M1' := Lib.hid (row_on M1.out hb2); have hx2 := below_then hx1 hb2 (by omega); have hz2 := Nat.le_trans hz1 hb2.size; have f0 := cell_of_row _ w.heap.size 3 _ _ _ M0; have f1 := cell_of_row _ w.heap.size 4 _ _ _ M0; change _ = some (Value.slice ka K.length kc) at f0; change _ = some (Value.slice va V.length vc) at f1; have hown3 := owns_below hown1 hb2; have g0 := frozen_block M0 3; have g1 := frozen_block M0 4; have MM1 := Lib.hid M0; clear M0 hb2))
  all_goals
    have P0 : (((w2.setCell ⟨w.heap.size, 3, none⟩ (Value.slice ad1 K.length c1')).setCell ⟨w.heap.size, 4, none⟩ (Value.slice ad2 V.length c2'))).heap[w.heap.size]? = some (Obj.cells #[Value.int .i64 n, .int .i64 l, .int .i64 c, Value.slice ad1 K.length c1', Value.slice ad2 V.length c2'] 41) := by
      have h1 := heap_setCell_same w2 w.heap.size 3 _ _ (Value.slice ad1 K.length c1') MM1.out
      rw [heap_setCell_same _ w.heap.size 4 _ _ (Value.slice ad2 V.length c2') h1]
      rfl
    have P1 : (((w2.setCell ⟨w.heap.size, 3, none⟩ (Value.slice ad1 K.length c1')).setCell ⟨w.heap.size, 4, none⟩ (Value.slice ad2 V.length c2'))).heap[w.heap.size + 1]? = some (Obj.cells #[Value.int .i64 0, .int .i64 0, .int .i64 0, Value.slice none 0 0, Value.slice none 0 0] 41) := by
      rw [heap_setCell_other _ _ _ _ (by simp), heap_setCell_other _ _ _ _ (by simp)]
      exact M1'.out
    have hx3 : Below w.heap.size w ((w2.setCell ⟨w.heap.size, 3, none⟩ (Value.slice ad1 K.length c1')).setCell ⟨w.heap.size, 4, none⟩ (Value.slice ad2 V.length c2')) := (hx2.setCell (Nat.le_refl _) _).setCell (Nat.le_refl _) _
    have kp1 : Keeps 5 w2 (w2.setCell ⟨w.heap.size, 3, none⟩ (Value.slice ad1 K.length c1')) := Keeps.setK MM1.out (by decide)
    have kp2 : Keeps 5 (w2.setCell ⟨w.heap.size, 3, none⟩ (Value.slice ad1 K.length c1')) ((w2.setCell ⟨w.heap.size, 3, none⟩ (Value.slice ad1 K.length c1')).setCell ⟨w.heap.size, 4, none⟩ (Value.slice ad2 V.length c2')) := Keeps.setK (heap_setCell_same w2 w.heap.size 3 _ _ (Value.slice ad1 K.length c1') MM1.out) (by decide)
    have o1 := owns_mono (base' := w.heap.size) (kp2 _ _ _ _ (kp1 _ _ _ _ hown3)) (by omega)
    have o2 := owns_mono (base' := w.heap.size) (kp2 _ _ _ _ (kp1 _ _ _ _ hown2)) (by omega)
    clear kp1 kp2 hown1 hown2 hown3 MM1 M1' M1 MM0 N0 N1 hx2 hx1 hbd c0 c1 e0 e1 f0 f1 g0 g1 hk0 hv0 hv1
    generalize (w2.setCell ⟨w.heap.size, 3, none⟩ (Value.slice ad1 K.length c1')).setCell ⟨w.heap.size, 4, none⟩ (Value.slice ad2 V.length c2') = w3 at P0 P1 hx3 o1 o2 ⊢
    have HP0 := Lib.hid P0
    have HP1 := Lib.hid P1
    clear P0 P1
    go_wp2_with (first
      | (refine wpList_load_row (o := ⟨some 11, .load 41 (.tmp 1), _, _, _, _⟩) (by rfl) 41 (.tmp 1) (by rfl) w.heap.size (by rfl) _ _ _ _ HP0.out Try.underlying41 rfl (by kernel_rfl) ?_)
      | (refine wpList_store_row (o := ⟨none, .store 41 (.tmp 2) (.tmp 11), _, _, _, _⟩) (by rfl) 41 (.tmp 2) (.tmp 11) (by rfl) (w.heap.size + 1) _ (by rfl) (by rfl) 41 _ HP1.out (by kernel_rfl) (by rfl) (by simp [Value.oneCell']) ?_))
    have kp := keeps_setRowP (te := 5) (cs := #[Value.int .i64 n, .int .i64 l, .int .i64 c, Value.slice ad1 K.length c1', Value.slice ad2 V.length c2']) HP1.out (by decide)
    refine bodyPost_ret (results_cell_row rfl _ _ (w.heap.size + 1) 41 #[Value.int .i64 n, .int .i64 l, .int .i64 c, Value.slice ad1 K.length c1', Value.slice ad2 V.length c2'] (0, 0) _ rfl (setRow_heap w3 (w.heap.size + 1) _ _ _ _ HP1.out) Try.underlying41 rfl (by kernel_rfl)) rfl ?_
    exact HR.out _ _ _ ⟨kp _ _ _ _ o1, kp _ _ _ _ o2, HPB.out⟩ (below_setRow hx3 (by omega) _)
end Go.Proofs.Ytpodgocmcnkfdaa
