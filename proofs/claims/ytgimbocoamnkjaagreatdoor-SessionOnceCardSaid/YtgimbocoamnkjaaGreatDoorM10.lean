/- prop.value, walked. -/
import Derived.Test.YtgimbocoamnkjaaGreatDoorM09
namespace Go.Proofs.YtgimbocoamnkjaaGreatDoor
open Go.RowKit

theorem str_nil : str [] = ⟨#[]⟩ := rfl

theorem val1 (id : Int) (hk : kindL id = 1) (b : List UInt8) : valueL id b = if b.length < 1 then none else some (⟨id, getU (b.take 1), [], [], []⟩, 1) := by unfold valueL; rw [hk]; rfl
set_option maxRecDepth 100000 in
set_option maxHeartbeats 1600000 in
theorem value_1 (id : Int) (hk : kindL id = 1) (v : Value) (b : List UInt8) (r : Option (Pr × Int)) (hr : valueL id b = r) (w : World) (hv : Bs w v b) (hT : Tabs w) (R : Ending → World → Prop)
    (hR : ∀ p u d w', r = some (p, u) → w'.ownsRow w.heap.size 5 1 d p.data.length (bv p.data) → Below w.heap.size w w' → R (.returned (.tuple #[.agg #[.int .i64 p.id, .int .i64 p.num, .string (str p.text), .string (str p.pair), d], .int .i64 u, .bool true])) w')
    (hF : ∀ n s t a m c u q w', r = none → q = false → Below w.heap.size w w' → R (.returned (.tuple #[.agg #[.int .i64 id, .int .i64 n, .string s, .string t, .slice a m c], .int .i64 u, .bool q])) w') :
    Calls Tryz.prog 212 #[.int .i64 id, v] w R := by
  rw [val1 id hk] at hr
  have HR := Lib.hid hR
  have HF := Lib.hid hF
  have HK := Lib.hid hk
  have HT := Lib.hid hT
  have HV := Lib.hid hv
  obtain ⟨ba, bc, rfl, _, hbl, hbm, _⟩ := _root_.id hv
  clear hR hF hk hT hv
  by_cases hs : b.length < 1
  · have hsi : (b.length : Int) < 1 := by omega
    obtain rfl : r = none := by rw [← hr, if_pos hs]
    clear hr
    have N0 : Hid ((w.alloc (Obj.cells #[.int .i64 id, .int .i64 0, .string ⟨#[]⟩, .string ⟨#[]⟩, .slice none 0 0] 147)).heap[w.heap.size]? = some (Obj.cells #[.int .i64 id, .int .i64 0, .string ⟨#[]⟩, .string ⟨#[]⟩, .slice none 0 0] 147)) := Lib.hid (heap_alloc_new w _)
    have hbA := (Below.refl w.heap.size w).alloc (Nat.le_refl _) (Obj.cells #[.int .i64 id, .int .i64 0, .string ⟨#[]⟩, .string ⟨#[]⟩, .slice none 0 0] 147)
    go_enter Tryz.func212, Tryz.ntmps212
    go_wp2_with (first
      | (go_at_call 189; go_must (refine kind_any id 1 HK.out _ _ ?_); intro w1 hb1; have nr := row_later2 N0.out hb1; have e0 := cell_of_row _ w.heap.size 0 _ _ _ nr; have e1 := cell_of_row _ w.heap.size 1 _ _ _ nr; have e2 := cell_of_row _ w.heap.size 2 _ _ _ nr; have e3 := cell_of_row _ w.heap.size 3 _ _ _ nr; have e4 := cell_of_row _ w.heap.size 4 _ _ _ nr; have f0 := frozen_block nr 0; have f1 := frozen_block nr 1; have f2 := frozen_block nr 2; have f3 := frozen_block nr 3; have f4 := frozen_block nr 4; have N1 := Lib.hid nr; clear nr; have hx1 := below_tr hbA hb1; have HB1 := Lib.hid hb1; clear N0 hb1)
      | (go_at_call 189; go_must (refine kind_any id 1 HK.out _ _ ?_); intro w2 hb2; clear e0 e1 e2 e3 e4 f0 f1 f2 f3 f4; have nr := row_later2 N1.out hb2; have e0 := cell_of_row _ w.heap.size 0 _ _ _ nr; have e1 := cell_of_row _ w.heap.size 1 _ _ _ nr; have e2 := cell_of_row _ w.heap.size 2 _ _ _ nr; have e3 := cell_of_row _ w.heap.size 3 _ _ _ nr; have e4 := cell_of_row _ w.heap.size 4 _ _ _ nr; have f0 := frozen_block nr 0; have f1 := frozen_block nr 1; have f2 := frozen_block nr 2; have f3 := frozen_block nr 3; have f4 := frozen_block nr 4; have N2 := Lib.hid nr; clear nr; have hx2 := below_tr hx1 hb2; clear N1 hb2))
    refine bodyPost_ret (results_cell_two rfl _ _ w.heap.size 147 #[.int .i64 id, .int .i64 0, .string ⟨#[]⟩, .string ⟨#[]⟩, .slice none 0 0] (0, 0) _ _ _ rfl rfl rfl (done5 N2.out rfl _ _ _ _ _) Tryz.underlying147 rfl (by kernel_rfl)) rfl ?_
    exact HF.out _ _ _ _ _ _ _ _ _ (by first | rfl | trivial) rfl (below_set5 hx2 (Nat.le_refl _) _ _ _ _ _)
  · have hsi : ¬ (b.length : Int) < 1 := by omega
    have hsc : (1 : Int) ≤ (bc : Int) := by omega
    have hnb := (num_bytes b 1 ⟨by omega, by omega⟩ (by omega)).1
    obtain ⟨x, hx⟩ : ∃ x, getU (b.take 1) = x := ⟨_, rfl⟩
    rw [if_neg hs, hx] at hr
    rw [hx] at hnb
    have ew : wrap64 (x : Int) = (x : Int) := by unfold wrap64; omega
    have hfin : ∀ w', w'.ownsRow w.heap.size 5 1 (.slice none 0 0) 0 (bv []) → Below w.heap.size w w' → R (.returned (.tuple #[.agg #[.int .i64 id, .int .i64 (wrap64 (x : Int)), .string ⟨#[]⟩, .string ⟨#[]⟩, .slice none 0 0], .int .i64 1, .bool true])) w' := fun w' h1 h2 => by
      rw [ew]
      exact HR.out ⟨id, x, [], [], []⟩ 1 _ w' hr.symm h1 h2
    have HFIN := Lib.hid hfin
    have HX := Lib.hid hx
    have hcut := HV.out.cut (k := 1) (by omega)
    have HC := Lib.hid hcut
    clear hx hcut hr hnb ew hfin HR HF
    have N0 : Hid ((w.alloc (Obj.cells #[.int .i64 id, .int .i64 0, .string ⟨#[]⟩, .string ⟨#[]⟩, .slice none 0 0] 147)).heap[w.heap.size]? = some (Obj.cells #[.int .i64 id, .int .i64 0, .string ⟨#[]⟩, .string ⟨#[]⟩, .slice none 0 0] 147)) := Lib.hid (heap_alloc_new w _)
    have hbA := (Below.refl w.heap.size w).alloc (Nat.le_refl _) (Obj.cells #[.int .i64 id, .int .i64 0, .string ⟨#[]⟩, .string ⟨#[]⟩, .slice none 0 0] 147)
    go_enter Tryz.func212, Tryz.ntmps212
    go_wp2_with (first
      | (go_at_call 189; go_must (refine kind_any id 1 HK.out _ _ ?_); intro w1 hb1; have nr := row_later2 N0.out hb1; have e0 := cell_of_row _ w.heap.size 0 _ _ _ nr; have e1 := cell_of_row _ w.heap.size 1 _ _ _ nr; have e2 := cell_of_row _ w.heap.size 2 _ _ _ nr; have e3 := cell_of_row _ w.heap.size 3 _ _ _ nr; have e4 := cell_of_row _ w.heap.size 4 _ _ _ nr; have f0 := frozen_block nr 0; have f1 := frozen_block nr 1; have f2 := frozen_block nr 2; have f3 := frozen_block nr 3; have f4 := frozen_block nr 4; have N1 := Lib.hid nr; clear nr; have hx1 := below_tr hbA hb1; have HB1 := Lib.hid hb1; clear N0 hb1)
      | (go_at_call 189; go_must (refine kind_any id 1 HK.out _ _ ?_); intro w2 hb2; clear e0 e1 e2 e3 e4 f0 f1 f2 f3 f4; have nr := row_later2 N1.out hb2; have e0 := cell_of_row _ w.heap.size 0 _ _ _ nr; have e1 := cell_of_row _ w.heap.size 1 _ _ _ nr; have e2 := cell_of_row _ w.heap.size 2 _ _ _ nr; have e3 := cell_of_row _ w.heap.size 3 _ _ _ nr; have e4 := cell_of_row _ w.heap.size 4 _ _ _ nr; have f0 := frozen_block nr 0; have f1 := frozen_block nr 1; have f2 := frozen_block nr 2; have f3 := frozen_block nr 3; have f4 := frozen_block nr 4; have N2 := Lib.hid nr; clear nr; have hx2 := below_tr hx1 hb2; clear N1 hb2)
      | (go_at_call 109; go_must (refine get_at _ _ x HX.out _ (HC.out.below hx2) _ ?_)))
    refine bodyPost_ret (results_cell_two rfl _ _ w.heap.size 147 #[.int .i64 id, .int .i64 (wrap64 (x : Int)), .string ⟨#[]⟩, .string ⟨#[]⟩, .slice none 0 0] (0, 0) _ _ _ rfl rfl rfl (done5 (heap_setCell_same _ _ 1 _ _ (.int .i64 (wrap64 (x : Int))) N2.out) rfl _ _ _ _ _) Tryz.underlying147 rfl (by kernel_rfl)) rfl ?_
    exact HFIN.out _ (World.ownsRow_nil _ _ _ _) (below_set5 (hx2.setCell (Nat.le_refl _) _) (Nat.le_refl _) _ _ _ _ _)

theorem val2 (id : Int) (hk : kindL id = 2) (b : List UInt8) : valueL id b = if b.length < 2 then none else some (⟨id, getU (b.take 2), [], [], []⟩, 2) := by unfold valueL; rw [hk]; rfl
set_option maxRecDepth 100000 in
set_option maxHeartbeats 1600000 in
theorem value_2 (id : Int) (hk : kindL id = 2) (v : Value) (b : List UInt8) (r : Option (Pr × Int)) (hr : valueL id b = r) (w : World) (hv : Bs w v b) (hT : Tabs w) (R : Ending → World → Prop)
    (hR : ∀ p u d w', r = some (p, u) → w'.ownsRow w.heap.size 5 1 d p.data.length (bv p.data) → Below w.heap.size w w' → R (.returned (.tuple #[.agg #[.int .i64 p.id, .int .i64 p.num, .string (str p.text), .string (str p.pair), d], .int .i64 u, .bool true])) w')
    (hF : ∀ n s t a m c u q w', r = none → q = false → Below w.heap.size w w' → R (.returned (.tuple #[.agg #[.int .i64 id, .int .i64 n, .string s, .string t, .slice a m c], .int .i64 u, .bool q])) w') :
    Calls Tryz.prog 212 #[.int .i64 id, v] w R := by
  rw [val2 id hk] at hr
  have HR := Lib.hid hR
  have HF := Lib.hid hF
  have HK := Lib.hid hk
  have HT := Lib.hid hT
  have HV := Lib.hid hv
  obtain ⟨ba, bc, rfl, _, hbl, hbm, _⟩ := _root_.id hv
  clear hR hF hk hT hv
  by_cases hs : b.length < 2
  · have hsi : (b.length : Int) < 2 := by omega
    obtain rfl : r = none := by rw [← hr, if_pos hs]
    clear hr
    have N0 : Hid ((w.alloc (Obj.cells #[.int .i64 id, .int .i64 0, .string ⟨#[]⟩, .string ⟨#[]⟩, .slice none 0 0] 147)).heap[w.heap.size]? = some (Obj.cells #[.int .i64 id, .int .i64 0, .string ⟨#[]⟩, .string ⟨#[]⟩, .slice none 0 0] 147)) := Lib.hid (heap_alloc_new w _)
    have hbA := (Below.refl w.heap.size w).alloc (Nat.le_refl _) (Obj.cells #[.int .i64 id, .int .i64 0, .string ⟨#[]⟩, .string ⟨#[]⟩, .slice none 0 0] 147)
    go_enter Tryz.func212, Tryz.ntmps212
    go_wp2_with (first
      | (go_at_call 189; go_must (refine kind_any id 2 HK.out _ _ ?_); intro w1 hb1; have nr := row_later2 N0.out hb1; have e0 := cell_of_row _ w.heap.size 0 _ _ _ nr; have e1 := cell_of_row _ w.heap.size 1 _ _ _ nr; have e2 := cell_of_row _ w.heap.size 2 _ _ _ nr; have e3 := cell_of_row _ w.heap.size 3 _ _ _ nr; have e4 := cell_of_row _ w.heap.size 4 _ _ _ nr; have f0 := frozen_block nr 0; have f1 := frozen_block nr 1; have f2 := frozen_block nr 2; have f3 := frozen_block nr 3; have f4 := frozen_block nr 4; have N1 := Lib.hid nr; clear nr; have hx1 := below_tr hbA hb1; have HB1 := Lib.hid hb1; clear N0 hb1)
      | (go_at_call 189; go_must (refine kind_any id 2 HK.out _ _ ?_); intro w2 hb2; clear e0 e1 e2 e3 e4 f0 f1 f2 f3 f4; have nr := row_later2 N1.out hb2; have e0 := cell_of_row _ w.heap.size 0 _ _ _ nr; have e1 := cell_of_row _ w.heap.size 1 _ _ _ nr; have e2 := cell_of_row _ w.heap.size 2 _ _ _ nr; have e3 := cell_of_row _ w.heap.size 3 _ _ _ nr; have e4 := cell_of_row _ w.heap.size 4 _ _ _ nr; have f0 := frozen_block nr 0; have f1 := frozen_block nr 1; have f2 := frozen_block nr 2; have f3 := frozen_block nr 3; have f4 := frozen_block nr 4; have N2 := Lib.hid nr; clear nr; have hx2 := below_tr hx1 hb2; clear N1 hb2))
    refine bodyPost_ret (results_cell_two rfl _ _ w.heap.size 147 #[.int .i64 id, .int .i64 0, .string ⟨#[]⟩, .string ⟨#[]⟩, .slice none 0 0] (0, 0) _ _ _ rfl rfl rfl (done5 N2.out rfl _ _ _ _ _) Tryz.underlying147 rfl (by kernel_rfl)) rfl ?_
    exact HF.out _ _ _ _ _ _ _ _ _ (by first | rfl | trivial) rfl (below_set5 hx2 (Nat.le_refl _) _ _ _ _ _)
  · have hsi : ¬ (b.length : Int) < 2 := by omega
    have hsc : (2 : Int) ≤ (bc : Int) := by omega
    have hnb := (num_bytes b 2 ⟨by omega, by omega⟩ (by omega)).1
    obtain ⟨x, hx⟩ : ∃ x, getU (b.take 2) = x := ⟨_, rfl⟩
    rw [if_neg hs, hx] at hr
    rw [hx] at hnb
    have ew : wrap64 (x : Int) = (x : Int) := by unfold wrap64; omega
    have hfin : ∀ w', w'.ownsRow w.heap.size 5 1 (.slice none 0 0) 0 (bv []) → Below w.heap.size w w' → R (.returned (.tuple #[.agg #[.int .i64 id, .int .i64 (wrap64 (x : Int)), .string ⟨#[]⟩, .string ⟨#[]⟩, .slice none 0 0], .int .i64 2, .bool true])) w' := fun w' h1 h2 => by
      rw [ew]
      exact HR.out ⟨id, x, [], [], []⟩ 2 _ w' hr.symm h1 h2
    have HFIN := Lib.hid hfin
    have HX := Lib.hid hx
    have hcut := HV.out.cut (k := 2) (by omega)
    have HC := Lib.hid hcut
    clear hx hcut hr hnb ew hfin HR HF
    have N0 : Hid ((w.alloc (Obj.cells #[.int .i64 id, .int .i64 0, .string ⟨#[]⟩, .string ⟨#[]⟩, .slice none 0 0] 147)).heap[w.heap.size]? = some (Obj.cells #[.int .i64 id, .int .i64 0, .string ⟨#[]⟩, .string ⟨#[]⟩, .slice none 0 0] 147)) := Lib.hid (heap_alloc_new w _)
    have hbA := (Below.refl w.heap.size w).alloc (Nat.le_refl _) (Obj.cells #[.int .i64 id, .int .i64 0, .string ⟨#[]⟩, .string ⟨#[]⟩, .slice none 0 0] 147)
    go_enter Tryz.func212, Tryz.ntmps212
    go_wp2_with (first
      | (go_at_call 189; go_must (refine kind_any id 2 HK.out _ _ ?_); intro w1 hb1; have nr := row_later2 N0.out hb1; have e0 := cell_of_row _ w.heap.size 0 _ _ _ nr; have e1 := cell_of_row _ w.heap.size 1 _ _ _ nr; have e2 := cell_of_row _ w.heap.size 2 _ _ _ nr; have e3 := cell_of_row _ w.heap.size 3 _ _ _ nr; have e4 := cell_of_row _ w.heap.size 4 _ _ _ nr; have f0 := frozen_block nr 0; have f1 := frozen_block nr 1; have f2 := frozen_block nr 2; have f3 := frozen_block nr 3; have f4 := frozen_block nr 4; have N1 := Lib.hid nr; clear nr; have hx1 := below_tr hbA hb1; have HB1 := Lib.hid hb1; clear N0 hb1)
      | (go_at_call 189; go_must (refine kind_any id 2 HK.out _ _ ?_); intro w2 hb2; clear e0 e1 e2 e3 e4 f0 f1 f2 f3 f4; have nr := row_later2 N1.out hb2; have e0 := cell_of_row _ w.heap.size 0 _ _ _ nr; have e1 := cell_of_row _ w.heap.size 1 _ _ _ nr; have e2 := cell_of_row _ w.heap.size 2 _ _ _ nr; have e3 := cell_of_row _ w.heap.size 3 _ _ _ nr; have e4 := cell_of_row _ w.heap.size 4 _ _ _ nr; have f0 := frozen_block nr 0; have f1 := frozen_block nr 1; have f2 := frozen_block nr 2; have f3 := frozen_block nr 3; have f4 := frozen_block nr 4; have N2 := Lib.hid nr; clear nr; have hx2 := below_tr hx1 hb2; clear N1 hb2)
      | (go_at_call 109; go_must (refine get_at _ _ x HX.out _ (HC.out.below hx2) _ ?_)))
    refine bodyPost_ret (results_cell_two rfl _ _ w.heap.size 147 #[.int .i64 id, .int .i64 (wrap64 (x : Int)), .string ⟨#[]⟩, .string ⟨#[]⟩, .slice none 0 0] (0, 0) _ _ _ rfl rfl rfl (done5 (heap_setCell_same _ _ 1 _ _ (.int .i64 (wrap64 (x : Int))) N2.out) rfl _ _ _ _ _) Tryz.underlying147 rfl (by kernel_rfl)) rfl ?_
    exact HFIN.out _ (World.ownsRow_nil _ _ _ _) (below_set5 (hx2.setCell (Nat.le_refl _) _) (Nat.le_refl _) _ _ _ _ _)

theorem val3 (id : Int) (hk : kindL id = 3) (b : List UInt8) : valueL id b = if b.length < 4 then none else some (⟨id, getU (b.take 4), [], [], []⟩, 4) := by unfold valueL; rw [hk]; rfl
set_option maxRecDepth 100000 in
set_option maxHeartbeats 1600000 in
theorem value_3 (id : Int) (hk : kindL id = 3) (v : Value) (b : List UInt8) (r : Option (Pr × Int)) (hr : valueL id b = r) (w : World) (hv : Bs w v b) (hT : Tabs w) (R : Ending → World → Prop)
    (hR : ∀ p u d w', r = some (p, u) → w'.ownsRow w.heap.size 5 1 d p.data.length (bv p.data) → Below w.heap.size w w' → R (.returned (.tuple #[.agg #[.int .i64 p.id, .int .i64 p.num, .string (str p.text), .string (str p.pair), d], .int .i64 u, .bool true])) w')
    (hF : ∀ n s t a m c u q w', r = none → q = false → Below w.heap.size w w' → R (.returned (.tuple #[.agg #[.int .i64 id, .int .i64 n, .string s, .string t, .slice a m c], .int .i64 u, .bool q])) w') :
    Calls Tryz.prog 212 #[.int .i64 id, v] w R := by
  rw [val3 id hk] at hr
  have HR := Lib.hid hR
  have HF := Lib.hid hF
  have HK := Lib.hid hk
  have HT := Lib.hid hT
  have HV := Lib.hid hv
  obtain ⟨ba, bc, rfl, _, hbl, hbm, _⟩ := _root_.id hv
  clear hR hF hk hT hv
  by_cases hs : b.length < 4
  · have hsi : (b.length : Int) < 4 := by omega
    obtain rfl : r = none := by rw [← hr, if_pos hs]
    clear hr
    have N0 : Hid ((w.alloc (Obj.cells #[.int .i64 id, .int .i64 0, .string ⟨#[]⟩, .string ⟨#[]⟩, .slice none 0 0] 147)).heap[w.heap.size]? = some (Obj.cells #[.int .i64 id, .int .i64 0, .string ⟨#[]⟩, .string ⟨#[]⟩, .slice none 0 0] 147)) := Lib.hid (heap_alloc_new w _)
    have hbA := (Below.refl w.heap.size w).alloc (Nat.le_refl _) (Obj.cells #[.int .i64 id, .int .i64 0, .string ⟨#[]⟩, .string ⟨#[]⟩, .slice none 0 0] 147)
    go_enter Tryz.func212, Tryz.ntmps212
    go_wp2_with (first
      | (go_at_call 189; go_must (refine kind_any id 3 HK.out _ _ ?_); intro w1 hb1; have nr := row_later2 N0.out hb1; have e0 := cell_of_row _ w.heap.size 0 _ _ _ nr; have e1 := cell_of_row _ w.heap.size 1 _ _ _ nr; have e2 := cell_of_row _ w.heap.size 2 _ _ _ nr; have e3 := cell_of_row _ w.heap.size 3 _ _ _ nr; have e4 := cell_of_row _ w.heap.size 4 _ _ _ nr; have f0 := frozen_block nr 0; have f1 := frozen_block nr 1; have f2 := frozen_block nr 2; have f3 := frozen_block nr 3; have f4 := frozen_block nr 4; have N1 := Lib.hid nr; clear nr; have hx1 := below_tr hbA hb1; have HB1 := Lib.hid hb1; clear N0 hb1)
      | (go_at_call 189; go_must (refine kind_any id 3 HK.out _ _ ?_); intro w2 hb2; clear e0 e1 e2 e3 e4 f0 f1 f2 f3 f4; have nr := row_later2 N1.out hb2; have e0 := cell_of_row _ w.heap.size 0 _ _ _ nr; have e1 := cell_of_row _ w.heap.size 1 _ _ _ nr; have e2 := cell_of_row _ w.heap.size 2 _ _ _ nr; have e3 := cell_of_row _ w.heap.size 3 _ _ _ nr; have e4 := cell_of_row _ w.heap.size 4 _ _ _ nr; have f0 := frozen_block nr 0; have f1 := frozen_block nr 1; have f2 := frozen_block nr 2; have f3 := frozen_block nr 3; have f4 := frozen_block nr 4; have N2 := Lib.hid nr; clear nr; have hx2 := below_tr hx1 hb2; clear N1 hb2))
    refine bodyPost_ret (results_cell_two rfl _ _ w.heap.size 147 #[.int .i64 id, .int .i64 0, .string ⟨#[]⟩, .string ⟨#[]⟩, .slice none 0 0] (0, 0) _ _ _ rfl rfl rfl (done5 N2.out rfl _ _ _ _ _) Tryz.underlying147 rfl (by kernel_rfl)) rfl ?_
    exact HF.out _ _ _ _ _ _ _ _ _ (by first | rfl | trivial) rfl (below_set5 hx2 (Nat.le_refl _) _ _ _ _ _)
  · have hsi : ¬ (b.length : Int) < 4 := by omega
    have hsc : (4 : Int) ≤ (bc : Int) := by omega
    have hnb := (num_bytes b 4 ⟨by omega, by omega⟩ (by omega)).1
    obtain ⟨x, hx⟩ : ∃ x, getU (b.take 4) = x := ⟨_, rfl⟩
    rw [if_neg hs, hx] at hr
    rw [hx] at hnb
    have ew : wrap64 (x : Int) = (x : Int) := by unfold wrap64; omega
    have hfin : ∀ w', w'.ownsRow w.heap.size 5 1 (.slice none 0 0) 0 (bv []) → Below w.heap.size w w' → R (.returned (.tuple #[.agg #[.int .i64 id, .int .i64 (wrap64 (x : Int)), .string ⟨#[]⟩, .string ⟨#[]⟩, .slice none 0 0], .int .i64 4, .bool true])) w' := fun w' h1 h2 => by
      rw [ew]
      exact HR.out ⟨id, x, [], [], []⟩ 4 _ w' hr.symm h1 h2
    have HFIN := Lib.hid hfin
    have HX := Lib.hid hx
    have hcut := HV.out.cut (k := 4) (by omega)
    have HC := Lib.hid hcut
    clear hx hcut hr hnb ew hfin HR HF
    have N0 : Hid ((w.alloc (Obj.cells #[.int .i64 id, .int .i64 0, .string ⟨#[]⟩, .string ⟨#[]⟩, .slice none 0 0] 147)).heap[w.heap.size]? = some (Obj.cells #[.int .i64 id, .int .i64 0, .string ⟨#[]⟩, .string ⟨#[]⟩, .slice none 0 0] 147)) := Lib.hid (heap_alloc_new w _)
    have hbA := (Below.refl w.heap.size w).alloc (Nat.le_refl _) (Obj.cells #[.int .i64 id, .int .i64 0, .string ⟨#[]⟩, .string ⟨#[]⟩, .slice none 0 0] 147)
    go_enter Tryz.func212, Tryz.ntmps212
    go_wp2_with (first
      | (go_at_call 189; go_must (refine kind_any id 3 HK.out _ _ ?_); intro w1 hb1; have nr := row_later2 N0.out hb1; have e0 := cell_of_row _ w.heap.size 0 _ _ _ nr; have e1 := cell_of_row _ w.heap.size 1 _ _ _ nr; have e2 := cell_of_row _ w.heap.size 2 _ _ _ nr; have e3 := cell_of_row _ w.heap.size 3 _ _ _ nr; have e4 := cell_of_row _ w.heap.size 4 _ _ _ nr; have f0 := frozen_block nr 0; have f1 := frozen_block nr 1; have f2 := frozen_block nr 2; have f3 := frozen_block nr 3; have f4 := frozen_block nr 4; have N1 := Lib.hid nr; clear nr; have hx1 := below_tr hbA hb1; have HB1 := Lib.hid hb1; clear N0 hb1)
      | (go_at_call 189; go_must (refine kind_any id 3 HK.out _ _ ?_); intro w2 hb2; clear e0 e1 e2 e3 e4 f0 f1 f2 f3 f4; have nr := row_later2 N1.out hb2; have e0 := cell_of_row _ w.heap.size 0 _ _ _ nr; have e1 := cell_of_row _ w.heap.size 1 _ _ _ nr; have e2 := cell_of_row _ w.heap.size 2 _ _ _ nr; have e3 := cell_of_row _ w.heap.size 3 _ _ _ nr; have e4 := cell_of_row _ w.heap.size 4 _ _ _ nr; have f0 := frozen_block nr 0; have f1 := frozen_block nr 1; have f2 := frozen_block nr 2; have f3 := frozen_block nr 3; have f4 := frozen_block nr 4; have N2 := Lib.hid nr; clear nr; have hx2 := below_tr hx1 hb2; clear N1 hb2)
      | (go_at_call 109; go_must (refine get_at _ _ x HX.out _ (HC.out.below hx2) _ ?_)))
    refine bodyPost_ret (results_cell_two rfl _ _ w.heap.size 147 #[.int .i64 id, .int .i64 (wrap64 (x : Int)), .string ⟨#[]⟩, .string ⟨#[]⟩, .slice none 0 0] (0, 0) _ _ _ rfl rfl rfl (done5 (heap_setCell_same _ _ 1 _ _ (.int .i64 (wrap64 (x : Int))) N2.out) rfl _ _ _ _ _) Tryz.underlying147 rfl (by kernel_rfl)) rfl ?_
    exact HFIN.out _ (World.ownsRow_nil _ _ _ _) (below_set5 (hx2.setCell (Nat.le_refl _) _) (Nat.le_refl _) _ _ _ _ _)

theorem val4 (id : Int) (hk : kindL id = 4) (b : List UInt8) : valueL id b = if (gvL b).2.2 = 0 then some ((⟨id, (gvL b).1, [], [], []⟩ : Pr), ((gvL b).2.1 : Int)) else none := by unfold valueL; rw [hk]; rfl
set_option maxRecDepth 100000 in
set_option maxHeartbeats 1600000 in
theorem value_4 (id : Int) (hk : kindL id = 4) (v : Value) (b : List UInt8) (r : Option (Pr × Int)) (hr : valueL id b = r) (w : World) (hv : Bs w v b) (hT : Tabs w) (R : Ending → World → Prop)
    (hR : ∀ p u d w', r = some (p, u) → w'.ownsRow w.heap.size 5 1 d p.data.length (bv p.data) → Below w.heap.size w w' → R (.returned (.tuple #[.agg #[.int .i64 p.id, .int .i64 p.num, .string (str p.text), .string (str p.pair), d], .int .i64 u, .bool true])) w')
    (hF : ∀ n s t a m c u q w', r = none → q = false → Below w.heap.size w w' → R (.returned (.tuple #[.agg #[.int .i64 id, .int .i64 n, .string s, .string t, .slice a m c], .int .i64 u, .bool q])) w') :
    Calls Tryz.prog 212 #[.int .i64 id, v] w R := by
  rw [val4 id hk] at hr
  have HR := Lib.hid hR
  have HF := Lib.hid hF
  have HK := Lib.hid hk
  have HT := Lib.hid hT
  have HV := Lib.hid hv
  obtain ⟨ba, bc, rfl, _, hbl, hbm, _⟩ := _root_.id hv
  clear hR hF hk hT hv
  obtain ⟨⟨x, y, z⟩, hg⟩ : ∃ g, gvL b = g := ⟨_, rfl⟩
  rw [hg] at hr
  simp only at hr
  have HG := Lib.hid hg
  have HRR := Lib.hid hr
  clear hg hr
  have N0 : Hid ((w.alloc (Obj.cells #[.int .i64 id, .int .i64 0, .string ⟨#[]⟩, .string ⟨#[]⟩, .slice none 0 0] 147)).heap[w.heap.size]? = some (Obj.cells #[.int .i64 id, .int .i64 0, .string ⟨#[]⟩, .string ⟨#[]⟩, .slice none 0 0] 147)) := Lib.hid (heap_alloc_new w _)
  have hbA := (Below.refl w.heap.size w).alloc (Nat.le_refl _) (Obj.cells #[.int .i64 id, .int .i64 0, .string ⟨#[]⟩, .string ⟨#[]⟩, .slice none 0 0] 147)
  go_enter Tryz.func212, Tryz.ntmps212
  go_wp2_with (first
    | (go_at_call 189; go_must (refine kind_any id 4 HK.out _ _ ?_); intro w1 hb1; have nr := row_later2 N0.out hb1; have e0 := cell_of_row _ w.heap.size 0 _ _ _ nr; have e1 := cell_of_row _ w.heap.size 1 _ _ _ nr; have e2 := cell_of_row _ w.heap.size 2 _ _ _ nr; have e3 := cell_of_row _ w.heap.size 3 _ _ _ nr; have e4 := cell_of_row _ w.heap.size 4 _ _ _ nr; have f0 := frozen_block nr 0; have f1 := frozen_block nr 1; have f2 := frozen_block nr 2; have f3 := frozen_block nr 3; have f4 := frozen_block nr 4; have N1 := Lib.hid nr; clear nr; have hx1 := below_tr hbA hb1; have HB1 := Lib.hid hb1; clear N0 hb1)
    | (go_at_call 190; go_must (refine getvar_any _ b x y z HG.out _ (HV.out.below hx1) _ ?_)))
  refine bodyPost_ret (results_cell_two rfl _ _ w.heap.size 147 #[.int .i64 id, .int .i64 (x : Int), .string ⟨#[]⟩, .string ⟨#[]⟩, .slice none 0 0] (0, 0) _ _ _ rfl rfl rfl (done5 (heap_setCell_same _ _ 1 _ _ (.int .i64 (x : Int)) N1.out) rfl _ _ _ _ _) Tryz.underlying147 rfl (by kernel_rfl)) rfl ?_
  by_cases hz : z = 0
  · subst hz
    exact HR.out ⟨id, x, [], [], []⟩ y (.slice none 0 0) _ (by have := HRR.out; rw [if_pos rfl] at this; exact this.symm) (World.ownsRow_nil _ _ _ _) (below_set5 (hx1.setCell (Nat.le_refl _) _) (Nat.le_refl _) _ _ _ _ _)
  · exact HF.out _ _ _ _ _ _ _ _ _ (by have := HRR.out; rw [if_neg hz] at this; exact this.symm) (by simp [hz]) (below_set5 (hx1.setCell (Nat.le_refl _) _) (Nat.le_refl _) _ _ _ _ _)

theorem val5 (id : Int) (hk : kindL id = 5) (b : List UInt8) : valueL id b = if (getTextL b).2.2 = 0 then some (⟨id, 0, (getTextL b).1, [], []⟩, (getTextL b).2.1) else none := by unfold valueL; rw [hk]; rfl
set_option maxRecDepth 100000 in
set_option maxHeartbeats 1600000 in
theorem value_5 (id : Int) (hk : kindL id = 5) (v : Value) (b : List UInt8) (r : Option (Pr × Int)) (hr : valueL id b = r) (w : World) (hv : Bs w v b) (hT : Tabs w) (R : Ending → World → Prop)
    (hR : ∀ p u d w', r = some (p, u) → w'.ownsRow w.heap.size 5 1 d p.data.length (bv p.data) → Below w.heap.size w w' → R (.returned (.tuple #[.agg #[.int .i64 p.id, .int .i64 p.num, .string (str p.text), .string (str p.pair), d], .int .i64 u, .bool true])) w')
    (hF : ∀ n s t a m c u q w', r = none → q = false → Below w.heap.size w w' → R (.returned (.tuple #[.agg #[.int .i64 id, .int .i64 n, .string s, .string t, .slice a m c], .int .i64 u, .bool q])) w') :
    Calls Tryz.prog 212 #[.int .i64 id, v] w R := by
  rw [val5 id hk] at hr
  have HR := Lib.hid hR
  have HF := Lib.hid hF
  have HK := Lib.hid hk
  have HT := Lib.hid hT
  have HV := Lib.hid hv
  obtain ⟨ba, bc, rfl, _, hbl, hbm, _⟩ := _root_.id hv
  clear hR hF hk hT hv
  obtain ⟨⟨S, u, z⟩, hg⟩ : ∃ g, getTextL b = g := ⟨_, rfl⟩
  rw [hg] at hr
  simp only at hr
  have HG := Lib.hid hg
  have HRR := Lib.hid hr
  clear hg hr
  have N0 : Hid ((w.alloc (Obj.cells #[.int .i64 id, .int .i64 0, .string ⟨#[]⟩, .string ⟨#[]⟩, .slice none 0 0] 147)).heap[w.heap.size]? = some (Obj.cells #[.int .i64 id, .int .i64 0, .string ⟨#[]⟩, .string ⟨#[]⟩, .slice none 0 0] 147)) := Lib.hid (heap_alloc_new w _)
  have hbA := (Below.refl w.heap.size w).alloc (Nat.le_refl _) (Obj.cells #[.int .i64 id, .int .i64 0, .string ⟨#[]⟩, .string ⟨#[]⟩, .slice none 0 0] 147)
  go_enter Tryz.func212, Tryz.ntmps212
  go_wp2_with (first
    | (go_at_call 189; go_must (refine kind_any id 5 HK.out _ _ ?_); intro w1 hb1; have nr := row_later2 N0.out hb1; have e0 := cell_of_row _ w.heap.size 0 _ _ _ nr; have e1 := cell_of_row _ w.heap.size 1 _ _ _ nr; have e2 := cell_of_row _ w.heap.size 2 _ _ _ nr; have e3 := cell_of_row _ w.heap.size 3 _ _ _ nr; have e4 := cell_of_row _ w.heap.size 4 _ _ _ nr; have f0 := frozen_block nr 0; have f1 := frozen_block nr 1; have f2 := frozen_block nr 2; have f3 := frozen_block nr 3; have f4 := frozen_block nr 4; have N1 := Lib.hid nr; clear nr; have hx1 := below_tr hbA hb1; have HB1 := Lib.hid hb1; clear N0 hb1)
    | (go_at_call 108; go_must (refine gettext_any _ b S u z HG.out _ (HV.out.below hx1) (HT.out.below hx1) _ ?_); intro w2 hb2; clear e0 e1 e2 e3 e4 f0 f1 f2 f3 f4; have nr := row_later2 N1.out hb2; have e0 := cell_of_row _ w.heap.size 0 _ _ _ nr; have e1 := cell_of_row _ w.heap.size 1 _ _ _ nr; have e2 := cell_of_row _ w.heap.size 2 _ _ _ nr; have e3 := cell_of_row _ w.heap.size 3 _ _ _ nr; have e4 := cell_of_row _ w.heap.size 4 _ _ _ nr; have f0 := frozen_block nr 0; have f1 := frozen_block nr 1; have f2 := frozen_block nr 2; have f3 := frozen_block nr 3; have f4 := frozen_block nr 4; have N2 := Lib.hid nr; clear nr; have hx2 := below_tr hx1 hb2; clear N1 hb2))
  refine bodyPost_ret (results_cell_two rfl _ _ w.heap.size 147 #[.int .i64 id, .int .i64 0, .string (str S), .string ⟨#[]⟩, .slice none 0 0] (0, 0) _ _ _ rfl rfl rfl (done5 (heap_setCell_same _ _ 2 _ _ (.string (str S)) N2.out) rfl _ _ _ _ _) Tryz.underlying147 rfl (by kernel_rfl)) rfl ?_
  by_cases hz : z = 0
  · subst hz
    exact HR.out ⟨id, 0, S, [], []⟩ u (.slice none 0 0) _ (by have := HRR.out; rw [if_pos rfl] at this; exact this.symm) (World.ownsRow_nil _ _ _ _) (below_set5 (hx2.setCell (Nat.le_refl _) _) (Nat.le_refl _) _ _ _ _ _)
  · exact HF.out _ _ _ _ _ _ _ _ _ (by have := HRR.out; rw [if_neg hz] at this; exact this.symm) (by simp [hz]) (below_set5 (hx2.setCell (Nat.le_refl _) _) (Nat.le_refl _) _ _ _ _ _)

theorem val6 (id : Int) (hk : kindL id = 6) (b : List UInt8) : valueL id b = if (getDataL b).2.2 = 0 then some (⟨id, 0, [], [], (getDataL b).1⟩, (getDataL b).2.1) else none := by unfold valueL; rw [hk]; rfl
set_option maxRecDepth 100000 in
set_option maxHeartbeats 1600000 in
theorem value_6 (id : Int) (hk : kindL id = 6) (v : Value) (b : List UInt8) (r : Option (Pr × Int)) (hr : valueL id b = r) (w : World) (hv : Bs w v b) (hT : Tabs w) (R : Ending → World → Prop)
    (hR : ∀ p u d w', r = some (p, u) → w'.ownsRow w.heap.size 5 1 d p.data.length (bv p.data) → Below w.heap.size w w' → R (.returned (.tuple #[.agg #[.int .i64 p.id, .int .i64 p.num, .string (str p.text), .string (str p.pair), d], .int .i64 u, .bool true])) w')
    (hF : ∀ n s t a m c u q w', r = none → q = false → Below w.heap.size w w' → R (.returned (.tuple #[.agg #[.int .i64 id, .int .i64 n, .string s, .string t, .slice a m c], .int .i64 u, .bool q])) w') :
    Calls Tryz.prog 212 #[.int .i64 id, v] w R := by
  rw [val6 id hk] at hr
  have HR := Lib.hid hR
  have HF := Lib.hid hF
  have HK := Lib.hid hk
  have HT := Lib.hid hT
  have HV := Lib.hid hv
  obtain ⟨ba, bc, rfl, _, hbl, hbm, _⟩ := _root_.id hv
  clear hR hF hk hT hv
  obtain ⟨⟨S, u, z⟩, hg⟩ : ∃ g, getDataL b = g := ⟨_, rfl⟩
  rw [hg] at hr
  simp only at hr
  have HG := Lib.hid hg
  have HRR := Lib.hid hr
  clear hg hr
  have N0 : Hid ((w.alloc (Obj.cells #[.int .i64 id, .int .i64 0, .string ⟨#[]⟩, .string ⟨#[]⟩, .slice none 0 0] 147)).heap[w.heap.size]? = some (Obj.cells #[.int .i64 id, .int .i64 0, .string ⟨#[]⟩, .string ⟨#[]⟩, .slice none 0 0] 147)) := Lib.hid (heap_alloc_new w _)
  have hbA := (Below.refl w.heap.size w).alloc (Nat.le_refl _) (Obj.cells #[.int .i64 id, .int .i64 0, .string ⟨#[]⟩, .string ⟨#[]⟩, .slice none 0 0] 147)
  go_enter Tryz.func212, Tryz.ntmps212
  go_wp2_with (first
    | (go_at_call 189; go_must (refine kind_any id 6 HK.out _ _ ?_); intro w1 hb1; have nr := row_later2 N0.out hb1; have e0 := cell_of_row _ w.heap.size 0 _ _ _ nr; have e1 := cell_of_row _ w.heap.size 1 _ _ _ nr; have e2 := cell_of_row _ w.heap.size 2 _ _ _ nr; have e3 := cell_of_row _ w.heap.size 3 _ _ _ nr; have e4 := cell_of_row _ w.heap.size 4 _ _ _ nr; have f0 := frozen_block nr 0; have f1 := frozen_block nr 1; have f2 := frozen_block nr 2; have f3 := frozen_block nr 3; have f4 := frozen_block nr 4; have N1 := Lib.hid nr; clear nr; have hx1 := below_tr hbA hb1; have HB1 := Lib.hid hb1; clear N0 hb1)
    | (go_at_call 112; go_must (refine getdata_any _ b S u z HG.out _ (HV.out.below hx1) _ ?_); intro da dc w2 hown2 hb2; clear e0 e1 e2 e3 e4 f0 f1 f2 f3 f4; have nr := row_later2 N1.out hb2; have e0 := cell_of_row _ w.heap.size 0 _ _ _ nr; have e1 := cell_of_row _ w.heap.size 1 _ _ _ nr; have e2 := cell_of_row _ w.heap.size 2 _ _ _ nr; have e3 := cell_of_row _ w.heap.size 3 _ _ _ nr; have e4 := cell_of_row _ w.heap.size 4 _ _ _ nr; have f0 := frozen_block nr 0; have f1 := frozen_block nr 1; have f2 := frozen_block nr 2; have f3 := frozen_block nr 3; have f4 := frozen_block nr 4; have N2 := Lib.hid nr; clear nr; have hx2 := below_tr hx1 hb2; have hown3 := owns_mono (base' := w.heap.size) hown2 hx1.size; clear N1 hb2 hown2))
  refine bodyPost_ret (results_cell_two rfl _ _ w.heap.size 147 #[.int .i64 id, .int .i64 0, .string ⟨#[]⟩, .string ⟨#[]⟩, .slice da S.length dc] (0, 0) _ _ _ rfl rfl rfl (done5 (heap_setCell_same _ _ 4 _ _ (.slice da S.length dc) N2.out) rfl _ _ _ _ _) Tryz.underlying147 rfl (by kernel_rfl)) rfl ?_
  by_cases hz : z = 0
  · subst hz
    exact HR.out ⟨id, 0, [], [], S⟩ u (.slice da S.length dc) _ (by have := HRR.out; rw [if_pos rfl] at this; exact this.symm) (keeps5 (heap_setCell_same _ _ 4 _ _ _ N2.out) (by decide) _ _ _ _ _ _ _ _ _ (Keeps.setK N2.out (by decide) _ _ _ _ hown3)) (below_set5 (hx2.setCell (Nat.le_refl _) _) (Nat.le_refl _) _ _ _ _ _)
  · exact HF.out _ _ _ _ _ _ _ _ _ (by have := HRR.out; rw [if_neg hz] at this; exact this.symm) (by simp [hz]) (below_set5 (hx2.setCell (Nat.le_refl _) _) (Nat.le_refl _) _ _ _ _ _)

theorem val7 (id : Int) (hk : kindL id = 7) (b : List UInt8) : valueL id b = if (getTextL b).2.2 = 0 then (if (getTextL (b.drop (getTextL b).2.1.toNat)).2.2 = 0 then some (⟨id, 0, (getTextL b).1, (getTextL (b.drop (getTextL b).2.1.toNat)).1, []⟩, (getTextL b).2.1 + (getTextL (b.drop (getTextL b).2.1.toNat)).2.1) else none) else none := by unfold valueL; rw [hk]; rfl
set_option maxRecDepth 100000 in
set_option maxHeartbeats 1600000 in
theorem value_7 (id : Int) (hk : kindL id = 7) (v : Value) (b : List UInt8) (r : Option (Pr × Int)) (hr : valueL id b = r) (w : World) (hv : Bs w v b) (hT : Tabs w) (R : Ending → World → Prop)
    (hR : ∀ p u d w', r = some (p, u) → w'.ownsRow w.heap.size 5 1 d p.data.length (bv p.data) → Below w.heap.size w w' → R (.returned (.tuple #[.agg #[.int .i64 p.id, .int .i64 p.num, .string (str p.text), .string (str p.pair), d], .int .i64 u, .bool true])) w')
    (hF : ∀ n s t a m c u q w', r = none → q = false → Below w.heap.size w w' → R (.returned (.tuple #[.agg #[.int .i64 id, .int .i64 n, .string s, .string t, .slice a m c], .int .i64 u, .bool q])) w') :
    Calls Tryz.prog 212 #[.int .i64 id, v] w R := by
  rw [val7 id hk] at hr
  have HR := Lib.hid hR
  have HF := Lib.hid hF
  have HK := Lib.hid hk
  have HT := Lib.hid hT
  have HV := Lib.hid hv
  obtain ⟨ba, bc, rfl, _, hbl, hbm, _⟩ := _root_.id hv
  clear hR hF hk hT hv
  obtain ⟨⟨S, u, z⟩, hg⟩ : ∃ g, getTextL b = g := ⟨_, rfl⟩
  rw [hg] at hr
  simp only at hr
  have HG := Lib.hid hg
  by_cases hz : z = 0
  · subst hz
    obtain ⟨t1, t2, t3, _, _⟩ := text_bytes b S u hg
    obtain ⟨j, rfl⟩ : ∃ j : Nat, u = (j : Int) := ⟨S.length + 2, by omega⟩
    rw [if_pos rfl, Int.toNat_natCast] at hr
    obtain ⟨⟨S', u', z'⟩, hg'⟩ : ∃ g, getTextL (b.drop j) = g := ⟨_, rfl⟩
    rw [hg'] at hr
    simp only at hr
    have HG' := Lib.hid hg'
    have HRR := Lib.hid hr
    have hj : j ≤ b.length := by omega
    have hj2 : (j : Int) ≤ 70000 := by omega
    obtain ⟨La, hsl, hbs⟩ := bs_from HV.out hj
    have HBS := Lib.hid hbs
    have hu : z' = 0 → 0 ≤ u' ∧ u' ≤ 70000 := fun h => by
      subst h
      obtain ⟨q1, q2, _⟩ := text_bytes _ S' u' hg'
      omega
    have HU := Lib.hid hu
    clear hg hr hg' t1 t2 t3 hbs hu
    have N0 : Hid ((w.alloc (Obj.cells #[.int .i64 id, .int .i64 0, .string ⟨#[]⟩, .string ⟨#[]⟩, .slice none 0 0] 147)).heap[w.heap.size]? = some (Obj.cells #[.int .i64 id, .int .i64 0, .string ⟨#[]⟩, .string ⟨#[]⟩, .slice none 0 0] 147)) := Lib.hid (heap_alloc_new w _)
    have hbA := (Below.refl w.heap.size w).alloc (Nat.le_refl _) (Obj.cells #[.int .i64 id, .int .i64 0, .string ⟨#[]⟩, .string ⟨#[]⟩, .slice none 0 0] 147)
    go_enter Tryz.func212, Tryz.ntmps212
    go_wp2_with (first
      | (go_at_call 189; go_must (refine kind_any id 7 HK.out _ _ ?_); intro w1 hb1; have nr := row_later2 N0.out hb1; have e0 := cell_of_row _ w.heap.size 0 _ _ _ nr; have e1 := cell_of_row _ w.heap.size 1 _ _ _ nr; have e2 := cell_of_row _ w.heap.size 2 _ _ _ nr; have e3 := cell_of_row _ w.heap.size 3 _ _ _ nr; have e4 := cell_of_row _ w.heap.size 4 _ _ _ nr; have f0 := frozen_block nr 0; have f1 := frozen_block nr 1; have f2 := frozen_block nr 2; have f3 := frozen_block nr 3; have f4 := frozen_block nr 4; have N1 := Lib.hid nr; clear nr; have hx1 := below_tr hbA hb1; have HB1 := Lib.hid hb1; clear N0 hb1)
      | (go_at_call_of 108 (Value.slice ba b.length bc); go_must (refine gettext_any _ b S j 0 HG.out _ (HV.out.below hx1) (HT.out.below hx1) _ ?_); intro w2 hb2; clear e0 e1 e2 e3 e4 f0 f1 f2 f3 f4; have nr := row_later2 N1.out hb2; have e0 := cell_of_row _ w.heap.size 0 _ _ _ nr; have e1 := cell_of_row _ w.heap.size 1 _ _ _ nr; have e2 := cell_of_row _ w.heap.size 2 _ _ _ nr; have e3 := cell_of_row _ w.heap.size 3 _ _ _ nr; have e4 := cell_of_row _ w.heap.size 4 _ _ _ nr; have f0 := frozen_block nr 0; have f1 := frozen_block nr 1; have f2 := frozen_block nr 2; have f3 := frozen_block nr 3; have f4 := frozen_block nr 4; have N2 := Lib.hid nr; clear nr; have hx2 := below_tr hx1 hb2; clear N1 hb2)
      | (go_at_call 108; have hx3 := hx2.setCell (p := ⟨w.heap.size, 2, none⟩) (Nat.le_refl _) (.string (str S)); go_must (refine gettext_any _ (b.drop j) S' u' z' HG'.out _ (HBS.out.below hx3) (HT.out.below hx3) _ ?_); intro w4 hb4; clear e0 e1 e2 e3 e4 f0 f1 f2 f3 f4; have nr := row_later2 (heap_setCell_same _ _ 2 _ _ (.string (str S)) N2.out) hb4; have e0 := cell_of_row _ w.heap.size 0 _ _ _ nr; have e1 := cell_of_row _ w.heap.size 1 _ _ _ nr; have e2 := cell_of_row _ w.heap.size 2 _ _ _ nr; have e3 := cell_of_row _ w.heap.size 3 _ _ _ nr; have e4 := cell_of_row _ w.heap.size 4 _ _ _ nr; have f0 := frozen_block nr 0; have f1 := frozen_block nr 1; have f2 := frozen_block nr 2; have f3 := frozen_block nr 3; have f4 := frozen_block nr 4; have N4 := Lib.hid nr; clear nr; have hx4 := below_tr hx3 hb4; clear N2 hb4))
    refine bodyPost_ret (results_cell_two rfl _ _ w.heap.size 147 #[.int .i64 id, .int .i64 0, .string (str S), .string (str S'), .slice none 0 0] (0, 0) _ _ _ rfl rfl rfl (done5 (heap_setCell_same _ _ 3 _ _ (.string (str S')) N4.out) rfl _ _ _ _ _) Tryz.underlying147 rfl (by kernel_rfl)) rfl ?_
    by_cases hz : z' = 0
    · subst hz
      have hu' := HU.out rfl
      have ew : wrap64 ((j : Int) + u') = (j : Int) + u' := by unfold wrap64; omega
      rw [ew]
      exact HR.out ⟨id, 0, S, S', []⟩ (j + u') (.slice none 0 0) _ (by have := HRR.out; rw [if_pos rfl] at this; exact this.symm) (World.ownsRow_nil _ _ _ _) (below_set5 (hx4.setCell (Nat.le_refl _) _) (Nat.le_refl _) _ _ _ _ _)
    · exact HF.out _ _ _ _ _ _ _ _ _ (by have := HRR.out; rw [if_neg hz] at this; exact this.symm) (by simp [hz]) (below_set5 (hx4.setCell (Nat.le_refl _) _) (Nat.le_refl _) _ _ _ _ _)
  · obtain rfl : r = none := by rw [← hr, if_neg hz]
    clear hg hr
    have N0 : Hid ((w.alloc (Obj.cells #[.int .i64 id, .int .i64 0, .string ⟨#[]⟩, .string ⟨#[]⟩, .slice none 0 0] 147)).heap[w.heap.size]? = some (Obj.cells #[.int .i64 id, .int .i64 0, .string ⟨#[]⟩, .string ⟨#[]⟩, .slice none 0 0] 147)) := Lib.hid (heap_alloc_new w _)
    have hbA := (Below.refl w.heap.size w).alloc (Nat.le_refl _) (Obj.cells #[.int .i64 id, .int .i64 0, .string ⟨#[]⟩, .string ⟨#[]⟩, .slice none 0 0] 147)
    go_enter Tryz.func212, Tryz.ntmps212
    go_wp2_with (first
      | (go_at_call 189; go_must (refine kind_any id 7 HK.out _ _ ?_); intro w1 hb1; have nr := row_later2 N0.out hb1; have e0 := cell_of_row _ w.heap.size 0 _ _ _ nr; have e1 := cell_of_row _ w.heap.size 1 _ _ _ nr; have e2 := cell_of_row _ w.heap.size 2 _ _ _ nr; have e3 := cell_of_row _ w.heap.size 3 _ _ _ nr; have e4 := cell_of_row _ w.heap.size 4 _ _ _ nr; have f0 := frozen_block nr 0; have f1 := frozen_block nr 1; have f2 := frozen_block nr 2; have f3 := frozen_block nr 3; have f4 := frozen_block nr 4; have N1 := Lib.hid nr; clear nr; have hx1 := below_tr hbA hb1; have HB1 := Lib.hid hb1; clear N0 hb1)
      | (go_at_call_of 108 (Value.slice ba b.length bc); go_must (refine gettext_any _ b S u z HG.out _ (HV.out.below hx1) (HT.out.below hx1) _ ?_); intro w2 hb2; clear e0 e1 e2 e3 e4 f0 f1 f2 f3 f4; have nr := row_later2 N1.out hb2; have e0 := cell_of_row _ w.heap.size 0 _ _ _ nr; have e1 := cell_of_row _ w.heap.size 1 _ _ _ nr; have e2 := cell_of_row _ w.heap.size 2 _ _ _ nr; have e3 := cell_of_row _ w.heap.size 3 _ _ _ nr; have e4 := cell_of_row _ w.heap.size 4 _ _ _ nr; have f0 := frozen_block nr 0; have f1 := frozen_block nr 1; have f2 := frozen_block nr 2; have f3 := frozen_block nr 3; have f4 := frozen_block nr 4; have N2 := Lib.hid nr; clear nr; have hx2 := below_tr hx1 hb2; clear N1 hb2))
    refine bodyPost_ret (results_cell_two rfl _ _ w.heap.size 147 #[.int .i64 id, .int .i64 0, .string (str S), .string ⟨#[]⟩, .slice none 0 0] (0, 0) _ _ _ rfl rfl rfl (done5 (heap_setCell_same _ _ 2 _ _ (.string (str S)) N2.out) rfl _ _ _ _ _) Tryz.underlying147 rfl (by kernel_rfl)) rfl ?_
    exact HF.out _ _ _ _ _ _ _ _ _ (by first | rfl | trivial) (by first | rfl | simp [hz]) (below_set5 (hx2.setCell (Nat.le_refl _) _) (Nat.le_refl _) _ _ _ _ _)

theorem kind_cases (id : Int) : kindL id = 0 ∨ kindL id = 1 ∨ kindL id = 2 ∨ kindL id = 3 ∨ kindL id = 4 ∨ kindL id = 5 ∨ kindL id = 6 ∨ kindL id = 7 := by
  unfold kindL
  repeat' split
  all_goals omega
theorem kind_pos (id : Int) (h : kindL id = 0) : clsL id = 0 := by
  unfold kindL at h
  unfold clsL
  repeat' split at h
  all_goals first | omega | skip
  repeat' split
  all_goals omega
theorem may_kind {id wh : Int} (h : mayL id wh = true) : kindL id ≠ 0 := by
  intro h0
  have := kind_pos id h0
  unfold mayL at h
  rw [this] at h
  cases h
theorem value_any (id : Int) (hk : kindL id ≠ 0) (v : Value) (b : List UInt8) (r : Option (Pr × Int)) (hr : valueL id b = r) (w : World) (hv : Bs w v b) (hT : Tabs w) (R : Ending → World → Prop)
    (hR : ∀ p u d w', r = some (p, u) → w'.ownsRow w.heap.size 5 1 d p.data.length (bv p.data) → Below w.heap.size w w' → R (.returned (.tuple #[.agg #[.int .i64 p.id, .int .i64 p.num, .string (str p.text), .string (str p.pair), d], .int .i64 u, .bool true])) w')
    (hF : ∀ n s t a m c u q w', r = none → q = false → Below w.heap.size w w' → R (.returned (.tuple #[.agg #[.int .i64 id, .int .i64 n, .string s, .string t, .slice a m c], .int .i64 u, .bool q])) w') :
    Calls Tryz.prog 212 #[.int .i64 id, v] w R := by
  rcases kind_cases id with h | h | h | h | h | h | h | h
  · exact absurd h hk
  · exact value_1 id h v b r hr w hv hT R hR hF
  · exact value_2 id h v b r hr w hv hT R hR hF
  · exact value_3 id h v b r hr w hv hT R hR hF
  · exact value_4 id h v b r hr w hv hT R hR hF
  · exact value_5 id h v b r hr w hv hT R hR hF
  · exact value_6 id h v b r hr w hv hT R hR hF
  · exact value_7 id h v b r hr w hv hT R hR hF
end Go.Proofs.YtgimbocoamnkjaaGreatDoor
