/- prop.copied, prop.Find, walked. -/
import Derived.Test.YtgimbocoamnkjaaGreatDoorM10
namespace Go.Proofs.YtgimbocoamnkjaaGreatDoor
open Go.RowKit

set_option maxRecDepth 100000 in
set_option maxHeartbeats 1600000 in
theorem pcopied_any (d : Value) (p : Pr) (w : World) (h : PC w d p) (R : Ending → World → Prop)
    (hR : ∀ a c w', w'.ownsRow w.heap.size 5 1 (.slice a p.data.length c) p.data.length (bv p.data) → Below w.heap.size w w' → R (.returned (.agg #[.int .i64 p.id, .int .i64 p.num, .string (str p.text), .string (str p.pair), .slice a p.data.length c])) w') :
    Calls Tryz.prog 222 #[.agg #[.int .i64 p.id, .int .i64 p.num, .string (str p.text), .string (str p.pair), d]] w R := by
  have HD := Lib.hid h.hd
  have hld := h.ld
  have HR := Lib.hid hR
  clear hR h
  obtain ⟨id, n, s, t, D⟩ := p
  simp only at *
  obtain ⟨da, dc, rfl, _⟩ := _root_.id HD.out
  have hbA := ((Below.refl w.heap.size w).alloc (Nat.le_refl _) (Obj.cells #[.int .i64 id, .int .i64 n, .string (str s), .string (str t), .slice da D.length dc] 147)).alloc (by simp) (Obj.cells #[Value.int .i64 0, Value.int .i64 0, Value.string ⟨#[]⟩, Value.string ⟨#[]⟩, Value.slice none 0 0] 147)
  have N0 : Hid (((w.alloc (Obj.cells #[.int .i64 id, .int .i64 n, .string (str s), .string (str t), .slice da D.length dc] 147)).alloc (Obj.cells #[Value.int .i64 0, Value.int .i64 0, Value.string ⟨#[]⟩, Value.string ⟨#[]⟩, Value.slice none 0 0] 147)).heap[w.heap.size]? = some (Obj.cells #[.int .i64 id, .int .i64 n, .string (str s), .string (str t), .slice da D.length dc] 147)) := Lib.hid (block_alloc (heap_alloc_new w _))
  have M0 : Hid (((w.alloc (Obj.cells #[.int .i64 id, .int .i64 n, .string (str s), .string (str t), .slice da D.length dc] 147)).alloc (Obj.cells #[Value.int .i64 0, Value.int .i64 0, Value.string ⟨#[]⟩, Value.string ⟨#[]⟩, Value.slice none 0 0] 147)).heap[w.heap.size + 1]? = some (Obj.cells #[Value.int .i64 0, Value.int .i64 0, Value.string ⟨#[]⟩, Value.string ⟨#[]⟩, Value.slice none 0 0] 147)) := by
    have := heap_alloc_new (w.alloc (Obj.cells #[.int .i64 id, .int .i64 n, .string (str s), .string (str t), .slice da D.length dc] 147)) (Obj.cells #[Value.int .i64 0, Value.int .i64 0, Value.string ⟨#[]⟩, Value.string ⟨#[]⟩, Value.slice none 0 0] 147)
    rw [show (w.alloc (Obj.cells #[.int .i64 id, .int .i64 n, .string (str s), .string (str t), .slice da D.length dc] 147)).heap.size = w.heap.size + 1 by simp] at this
    exact Lib.hid this
  have HBA := Lib.hid hbA
  clear hbA
  go_enter Tryz.func222, Tryz.ntmps222
  go_wp2_with (go_at_call 139; go_must (refine clone_any _ D _ (HD.out.below HBA.out) (by omega) _ ?_); intro ca cc w1 hown1 hb1; have nr := row_later2 N0.out hb1; have mr := row_later2 M0.out hb1; have ae0 := cell_of_row _ w.heap.size 0 _ _ _ nr; have ae1 := cell_of_row _ w.heap.size 1 _ _ _ nr; have ae2 := cell_of_row _ w.heap.size 2 _ _ _ nr; have ae3 := cell_of_row _ w.heap.size 3 _ _ _ nr; have ae4 := cell_of_row _ w.heap.size 4 _ _ _ nr; have af0 := frozen_block nr 0; have af1 := frozen_block nr 1; have af2 := frozen_block nr 2; have af3 := frozen_block nr 3; have af4 := frozen_block nr 4; have be0 := cell_of_row _ (w.heap.size + 1) 0 _ _ _ mr; have be1 := cell_of_row _ (w.heap.size + 1) 1 _ _ _ mr; have be2 := cell_of_row _ (w.heap.size + 1) 2 _ _ _ mr; have be3 := cell_of_row _ (w.heap.size + 1) 3 _ _ _ mr; have be4 := cell_of_row _ (w.heap.size + 1) 4 _ _ _ mr; have bf0 := frozen_block mr 0; have bf1 := frozen_block mr 1; have bf2 := frozen_block mr 2; have bf3 := frozen_block mr 3; have bf4 := frozen_block mr 4; have N1 := Lib.hid nr; have M1 := Lib.hid mr; have hx1 := below_then HBA.out hb1 (by simp; omega); clear nr mr N0 M0)
  have p1 := heap_setCell_same _ _ 4 _ _ (.slice ca D.length cc) N1.out
  have p2 : (w1.setCell ⟨w.heap.size, 4, none⟩ (.slice ca D.length cc)).heap[w.heap.size + 1]? = some (Obj.cells #[Value.int .i64 0, Value.int .i64 0, Value.string ⟨#[]⟩, Value.string ⟨#[]⟩, Value.slice none 0 0] 147) := by
    rw [heap_setCell_other _ _ _ _ (by simp)]
    exact M1.out
  refine bodyPost_ret (results_cell_row rfl _ _ (w.heap.size + 1) 147 #[.int .i64 id, .int .i64 n, .string (str s), .string (str t), .slice ca D.length cc] (0, 0) _ rfl (done5 p2 rfl _ _ _ _ _) Tryz.underlying147 rfl (by kernel_rfl)) rfl ?_
  exact HR.out _ _ _ (keeps5 p2 (by decide) _ _ _ _ _ _ _ _ _ (Keeps.setK N1.out (by decide) _ _ _ _ (owns_mono hown1 (by simp; omega)))) (below_set5 (hx1.setCell (Nat.le_refl _) _) (by omega) _ _ _ _ _)

theorem hasL_find (id : Int) (l : List Pr) : (l.find? fun p => decide (p.id = id)).isSome = hasL id l := by
  unfold hasL
  induction l with
  | nil => rfl
  | cons a l ih =>
    rw [List.find?_cons, List.any_cons]
    cases h : decide (a.id = id) with
    | true => rfl
    | false => simpa using ih
def findL (id : Int) (l : List Pr) : Option Pr := l.find? fun p => decide (p.id = id)

set_option maxRecDepth 100000 in
set_option maxHeartbeats 3200000 in
theorem pfind_any (id : Int) (v : Value) (l : List Pr) (p : Pr) (q : Bool) (hp : (findL id l).getD zeroP = p) (hq : (findL id l).isSome = q) (w : World) (hv : Ps w v l) (R : Ending → World → Prop)
    (hR : ∀ a c w', w'.ownsRow w.heap.size 5 1 (.slice a p.data.length c) p.data.length (bv p.data) → Below w.heap.size w w' → R (.returned (.tuple #[.agg #[.int .i64 p.id, .int .i64 p.num, .string (str p.text), .string (str p.pair), .slice a p.data.length c], .bool q])) w') :
    Calls Tryz.prog 213 #[.int .i64 id, v] w R := by
  have HR := Lib.hid hR
  have HV := Lib.hid hv
  have hst : Hid ((findL id (l.drop 0)).getD zeroP = p ∧ (findL id (l.drop 0)).isSome = q) := by rw [List.drop_zero]; exact Lib.hid ⟨hp, hq⟩
  clear hR hp hq
  obtain ⟨va, vc, rfl, _⟩ := hv
  obtain ⟨w0, hw0⟩ : ∃ w0, w.alloc (Obj.cells #[Value.int .i64 0, Value.int .i64 0, Value.string ⟨#[]⟩, Value.string ⟨#[]⟩, Value.slice none 0 0] 147) = w0 := ⟨_, rfl⟩
  have hb0 : Below w.heap.size w w0 := by rw [← hw0]; exact (Below.refl _ _).alloc (Nat.le_refl _) _
  have n0 : w0.heap[w.heap.size]? = some (Obj.cells #[Value.int .i64 0, Value.int .i64 0, Value.string ⟨#[]⟩, Value.string ⟨#[]⟩, Value.slice none 0 0] 147) := by rw [← hw0]; exact heap_alloc_new w _
  have hz0 : w.heap.size + 1 ≤ w0.heap.size := by rw [← hw0]; simp
  have N0 := Lib.hid n0
  clear n0
  go_enter Tryz.func213, Tryz.ntmps213
  go_wp2
  clear hw0
  go_loopg [10] l.length (fun gn i wr => ∃ k : Nat, k ≤ l.length ∧ gn = l.length - k ∧ i = .int .i64 k ∧ Below w0.heap.size w0 wr ∧ Hid ((findL id (l.drop k)).getD zeroP = p ∧ (findL id (l.drop k)).isSome = q))
  case atStart => exact ⟨0, Nat.zero_le _, by omega, rfl, Below.refl _ _, hst⟩
  case round =>
    obtain ⟨k, hk, rfl, rfl, hb, HS⟩ := hrel
    have hbw := below_then hb0 hb hb0.size
    have nr := row_later2 N0.out hb
    have NR := Lib.hid nr
    have hzr := hb.size
    clear nr
    by_cases hlt : k < l.length
    · have hkk : (k : Int) < (l.length : Int) := by omega
      obtain ⟨va', vc', ee, _, _, _, v4⟩ := HV.out.below hbw
      simp only [Value.slice.injEq] at ee
      obtain ⟨rfl, -, rfl⟩ := ee
      obtain ⟨vb, vo, rfl, v5⟩ := v4 (by omega)
      obtain ⟨d0, ⟨p0, p1, p2, p3, p4⟩, hec⟩ := v5 k hlt
      obtain ⟨y, hy⟩ : ∃ y, l[k] = y := ⟨_, rfl⟩
      rw [hy] at p0 p1 p2 p3 hec
      have hss := HS.out
      rw [List.drop_eq_getElem_cons hlt, hy, findL, List.find?_cons] at hss
      obtain ⟨d1, d2, d3, rfl⟩ : ∃ a n c, d0 = .slice a n c := by obtain ⟨a, c, h, _⟩ := hec.hd; exact ⟨_, _, _, h⟩
      have HEC := Lib.hid hec
      have hyE : Below wr.heap.size wr (wr.alloc (Obj.cells #[.int .i64 y.id, .int .i64 y.num, .string (str y.text), .string (str y.pair), .slice d1 d2 d3] 147)) := (Below.refl _ _).alloc (Nat.le_refl _) _
      have HYE := Lib.hid hyE
      have hbE := below_tr hb hyE
      have HBE := Lib.hid hbE
      have NE := Lib.hid (row_later2 NR.out hyE)
      have HSS := Lib.hid hss
      clear v4 v5 hy hss hec hbE HS hyE
      by_cases hid : y.id = id
      · have hpq : y = p ∧ true = q := by
          have := HSS.out
          rw [decide_eq_true hid] at this
          exact this
        obtain ⟨rfl, rfl⟩ := hpq
        clear HSS
        subst hid
        go_wp2_with (go_at_call 222; go_must (refine pcopied_any _ y _ (HEC.out.below HYE.out) _ ?_); intro ca cc w5 hown5 hy5; have n5 := row_later2 NE.out hy5; have ae0 := cell_of_row _ w.heap.size 0 _ _ _ n5; have ae1 := cell_of_row _ w.heap.size 1 _ _ _ n5; have ae2 := cell_of_row _ w.heap.size 2 _ _ _ n5; have ae3 := cell_of_row _ w.heap.size 3 _ _ _ n5; have ae4 := cell_of_row _ w.heap.size 4 _ _ _ n5; have af0 := frozen_block n5 0; have af1 := frozen_block n5 1; have af2 := frozen_block n5 2; have af3 := frozen_block n5 3; have af4 := frozen_block n5 4; have N5 := Lib.hid n5; clear n5)
        have hx5 := below_tr HBE.out hy5
        have hxx := below_then hb0 hx5 (by omega)
        refine bodyPost_ret (results_cell_one rfl _ _ w.heap.size 147 #[.int .i64 y.id, .int .i64 y.num, .string (str y.text), .string (str y.pair), .slice ca y.data.length cc] (0, 0) _ (Value.bool true) rfl rfl (done5 N5.out rfl _ _ _ _ _) Tryz.underlying147 rfl (by kernel_rfl)) rfl ?_
        exact HR.out _ _ _ (keeps5 N5.out (by decide) _ _ _ _ _ _ _ _ _ (owns_mono hown5 (by have := HYE.out.size; have := hbw.size; omega))) (below_set5 hxx (Nat.le_refl _) _ _ _ _ _)
      · have hnx : Hid ((findL id (l.drop (k + 1))).getD zeroP = p ∧ (findL id (l.drop (k + 1))).isSome = q) := by
          have := HSS.out
          rw [decide_eq_false hid] at this
          exact this
        clear HSS
        go_wp2
        go_roundg (l.length - (k + 1))
        case measure => omega
        case rel => exact ⟨k + 1, by omega, rfl, by go_num, HBE.out, hnx⟩
    · have hkk : ¬ (k : Int) < (l.length : Int) := by omega
      have hpq : zeroP = p ∧ false = q := by
        have := HS.out
        rw [List.drop_of_length_le (by omega)] at this
        exact this
      obtain ⟨rfl, rfl⟩ := hpq
      have ae0 := cell_of_row _ w.heap.size 0 _ _ _ NR.out; have ae1 := cell_of_row _ w.heap.size 1 _ _ _ NR.out; have ae2 := cell_of_row _ w.heap.size 2 _ _ _ NR.out; have ae3 := cell_of_row _ w.heap.size 3 _ _ _ NR.out; have ae4 := cell_of_row _ w.heap.size 4 _ _ _ NR.out; have af0 := frozen_block NR.out 0; have af1 := frozen_block NR.out 1; have af2 := frozen_block NR.out 2; have af3 := frozen_block NR.out 3; have af4 := frozen_block NR.out 4
      clear HS
      go_wp2
      refine bodyPost_ret (results_cell_one rfl _ _ w.heap.size 147 #[Value.int .i64 0, Value.int .i64 0, Value.string ⟨#[]⟩, Value.string ⟨#[]⟩, Value.slice none 0 0] (0, 0) _ (Value.bool false) rfl rfl (done5 NR.out rfl _ _ _ _ _) Tryz.underlying147 rfl (by kernel_rfl)) rfl ?_
      exact HR.out _ _ _ (World.ownsRow_nil _ _ _ _) (below_set5 hbw (Nat.le_refl _) _ _ _ _ _)
end Go.Proofs.YtgimbocoamnkjaaGreatDoor
