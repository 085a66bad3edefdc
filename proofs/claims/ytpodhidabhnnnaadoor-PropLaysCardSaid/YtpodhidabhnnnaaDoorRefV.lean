/- tidingsref11.value, walked. (Printed by genrv.py.) -/
import Derived.Test.YtpodhidabhnnnaaDoorPropTable
import Derived.Test.YtpodhidabhnnnaaDoorRText
namespace Go.Proofs.YtpodhidabhnnnaaDoor
open Go.RowKit

set_option maxRecDepth 100000 in
set_option maxHeartbeats 1000000 in
theorem rvalue_1 (id : Int) (hk : kindL id = 1) (v : Value) (b : List UInt8) (r : Option (Pr × Int)) (hr : valueL id b = r) (w : World) (hv : Bs w v b) (R : Ending → World → Prop)
    (hR : ∀ p u d w', r = some (p, u) → w'.ownsRow w.heap.size 5 1 d p.data.length (bv p.data) → Below w.heap.size w w' → R (.returned (.tuple #[.agg #[.int .i64 p.id, .int .i64 p.num, .string (str p.text), .string (str p.pair), d], .int .i64 u, .bool true])) w')
    (hF : ∀ n s t a m c u q w', r = none → q = false → Below w.heap.size w w' → R (.returned (.tuple #[.agg #[.int .i64 id, .int .i64 n, .string s, .string t, .slice a m c], .int .i64 u, .bool q])) w') :
    Calls Tryd.prog 37 #[.int .i64 id, v] w R := by
  rw [val1 id hk] at hr
  have HR := Lib.hid hR
  have HF := Lib.hid hF
  have HK := Lib.hid hk
  have HV := Lib.hid hv
  obtain ⟨ba, bc, rfl, _, hbl, hbm, _⟩ := _root_.id hv
  have HBA : Hid (∀ c1 c2 : Array Value, Below w.heap.size w ((w.alloc (Obj.cells c1 43)).alloc (Obj.cells c2 43))) := Lib.hid fun c1 c2 => ((Below.refl _ _).alloc (Nat.le_refl _) _).alloc (by simp) _
  clear hR hF hk hv
  by_cases hs : b.length < 1
  · have hsi : (b.length : Int) < 1 := by omega
    obtain rfl : r = none := by rw [← hr, if_pos hs]
    clear hr
    go_enter Tryd.func37, Tryd.ntmps37
    go_wp2_with (go_at_call 15; go_must (refine rkind_at id 1 HK.out _ _ ?_))
    refine bodyPost_ret (results_cell_two rfl _ _ w.heap.size 43 #[.int .i64 id, .int .i64 0, .string ⟨#[]⟩, .string ⟨#[]⟩, .slice none 0 0] (0, 0) _ _ _ rfl rfl rfl (block_alloc (heap_alloc_new w _)) Tryd.underlying43 rfl (by kernel_rfl)) rfl ?_
    exact HF.out _ _ _ _ _ _ _ _ _ (by first | rfl | trivial) rfl (((Below.refl _ _).alloc (Nat.le_refl _) _).alloc (by simp) _)
  · have hsi : ¬ (b.length : Int) < 1 := by omega
    have hsc : (1 : Int) ≤ (bc : Int) := by omega
    have hnb := (num_bytes b 1 ⟨by omega, by omega⟩ (by omega)).1
    obtain ⟨x, hx⟩ : ∃ x, getU (b.take 1) = x := ⟨_, rfl⟩
    rw [if_neg hs, hx] at hr
    rw [hx] at hnb
    have ew : wrap64 (x : Int) = (x : Int) := by unfold wrap64; omega
    have hfin : ∀ w', w'.ownsRow w.heap.size 5 1 (.slice none 0 0) 0 (bv []) → Below w.heap.size w w' → R (.returned (.tuple #[.agg #[.int .i64 id, .int .i64 (wrap64 (x : Int)), .string ⟨#[]⟩, .string ⟨#[]⟩, .slice none 0 0], .int .i64 1, .bool true])) w' := fun w' h1 h2 => by
      rw [ew]
      exact HR.out ⟨id, x, [], [], []⟩ 1 _ w' hr.symm h1 h2
    have HFIN := Lib.hid hfin
    have HX := Lib.hid hx
    have hcut := HV.out.cut (k := 1) (by omega)
    have HC := Lib.hid hcut
    clear hx hcut hr hnb ew hfin HR HF
    go_enter Tryd.func37, Tryd.ntmps37
    go_wp2_with (first
      | (go_at_call 15; go_must (refine rkind_at id 1 HK.out _ _ ?_))
      | (go_at_call 58; go_must (refine rget_at _ _ x HX.out _ (HC.out.below (HBA.out _ _)) _ ?_)))
    refine bodyPost_ret (results_cell_two rfl _ _ w.heap.size 43 #[.int .i64 id, .int .i64 (wrap64 (x : Int)), .string ⟨#[]⟩, .string ⟨#[]⟩, .slice none 0 0] (0, 0) _ _ _ rfl rfl rfl (block_alloc (heap_alloc_new w _)) Tryd.underlying43 rfl (by kernel_rfl)) rfl ?_
    exact HFIN.out _ (World.ownsRow_nil _ _ _ _) (((Below.refl _ _).alloc (Nat.le_refl _) _).alloc (by simp) _)

set_option maxRecDepth 100000 in
set_option maxHeartbeats 1000000 in
theorem rvalue_2 (id : Int) (hk : kindL id = 2) (v : Value) (b : List UInt8) (r : Option (Pr × Int)) (hr : valueL id b = r) (w : World) (hv : Bs w v b) (R : Ending → World → Prop)
    (hR : ∀ p u d w', r = some (p, u) → w'.ownsRow w.heap.size 5 1 d p.data.length (bv p.data) → Below w.heap.size w w' → R (.returned (.tuple #[.agg #[.int .i64 p.id, .int .i64 p.num, .string (str p.text), .string (str p.pair), d], .int .i64 u, .bool true])) w')
    (hF : ∀ n s t a m c u q w', r = none → q = false → Below w.heap.size w w' → R (.returned (.tuple #[.agg #[.int .i64 id, .int .i64 n, .string s, .string t, .slice a m c], .int .i64 u, .bool q])) w') :
    Calls Tryd.prog 37 #[.int .i64 id, v] w R := by
  rw [val2 id hk] at hr
  have HR := Lib.hid hR
  have HF := Lib.hid hF
  have HK := Lib.hid hk
  have HV := Lib.hid hv
  obtain ⟨ba, bc, rfl, _, hbl, hbm, _⟩ := _root_.id hv
  have HBA : Hid (∀ c1 c2 : Array Value, Below w.heap.size w ((w.alloc (Obj.cells c1 43)).alloc (Obj.cells c2 43))) := Lib.hid fun c1 c2 => ((Below.refl _ _).alloc (Nat.le_refl _) _).alloc (by simp) _
  clear hR hF hk hv
  by_cases hs : b.length < 2
  · have hsi : (b.length : Int) < 2 := by omega
    obtain rfl : r = none := by rw [← hr, if_pos hs]
    clear hr
    go_enter Tryd.func37, Tryd.ntmps37
    go_wp2_with (go_at_call 15; go_must (refine rkind_at id 2 HK.out _ _ ?_))
    refine bodyPost_ret (results_cell_two rfl _ _ w.heap.size 43 #[.int .i64 id, .int .i64 0, .string ⟨#[]⟩, .string ⟨#[]⟩, .slice none 0 0] (0, 0) _ _ _ rfl rfl rfl (block_alloc (heap_alloc_new w _)) Tryd.underlying43 rfl (by kernel_rfl)) rfl ?_
    exact HF.out _ _ _ _ _ _ _ _ _ (by first | rfl | trivial) rfl (((Below.refl _ _).alloc (Nat.le_refl _) _).alloc (by simp) _)
  · have hsi : ¬ (b.length : Int) < 2 := by omega
    have hsc : (2 : Int) ≤ (bc : Int) := by omega
    have hnb := (num_bytes b 2 ⟨by omega, by omega⟩ (by omega)).1
    obtain ⟨x, hx⟩ : ∃ x, getU (b.take 2) = x := ⟨_, rfl⟩
    rw [if_neg hs, hx] at hr
    rw [hx] at hnb
    have ew : wrap64 (x : Int) = (x : Int) := by unfold wrap64; omega
    have hfin : ∀ w', w'.ownsRow w.heap.size 5 1 (.slice none 0 0) 0 (bv []) → Below w.heap.size w w' → R (.returned (.tuple #[.agg #[.int .i64 id, .int .i64 (wrap64 (x : Int)), .string ⟨#[]⟩, .string ⟨#[]⟩, .slice none 0 0], .int .i64 2, .bool true])) w' := fun w' h1 h2 => by
      rw [ew]
      exact HR.out ⟨id, x, [], [], []⟩ 2 _ w' hr.symm h1 h2
    have HFIN := Lib.hid hfin
    have HX := Lib.hid hx
    have hcut := HV.out.cut (k := 2) (by omega)
    have HC := Lib.hid hcut
    clear hx hcut hr hnb ew hfin HR HF
    go_enter Tryd.func37, Tryd.ntmps37
    go_wp2_with (first
      | (go_at_call 15; go_must (refine rkind_at id 2 HK.out _ _ ?_))
      | (go_at_call 58; go_must (refine rget_at _ _ x HX.out _ (HC.out.below (HBA.out _ _)) _ ?_)))
    refine bodyPost_ret (results_cell_two rfl _ _ w.heap.size 43 #[.int .i64 id, .int .i64 (wrap64 (x : Int)), .string ⟨#[]⟩, .string ⟨#[]⟩, .slice none 0 0] (0, 0) _ _ _ rfl rfl rfl (block_alloc (heap_alloc_new w _)) Tryd.underlying43 rfl (by kernel_rfl)) rfl ?_
    exact HFIN.out _ (World.ownsRow_nil _ _ _ _) (((Below.refl _ _).alloc (Nat.le_refl _) _).alloc (by simp) _)

set_option maxRecDepth 100000 in
set_option maxHeartbeats 1000000 in
theorem rvalue_3 (id : Int) (hk : kindL id = 3) (v : Value) (b : List UInt8) (r : Option (Pr × Int)) (hr : valueL id b = r) (w : World) (hv : Bs w v b) (R : Ending → World → Prop)
    (hR : ∀ p u d w', r = some (p, u) → w'.ownsRow w.heap.size 5 1 d p.data.length (bv p.data) → Below w.heap.size w w' → R (.returned (.tuple #[.agg #[.int .i64 p.id, .int .i64 p.num, .string (str p.text), .string (str p.pair), d], .int .i64 u, .bool true])) w')
    (hF : ∀ n s t a m c u q w', r = none → q = false → Below w.heap.size w w' → R (.returned (.tuple #[.agg #[.int .i64 id, .int .i64 n, .string s, .string t, .slice a m c], .int .i64 u, .bool q])) w') :
    Calls Tryd.prog 37 #[.int .i64 id, v] w R := by
  rw [val3 id hk] at hr
  have HR := Lib.hid hR
  have HF := Lib.hid hF
  have HK := Lib.hid hk
  have HV := Lib.hid hv
  obtain ⟨ba, bc, rfl, _, hbl, hbm, _⟩ := _root_.id hv
  have HBA : Hid (∀ c1 c2 : Array Value, Below w.heap.size w ((w.alloc (Obj.cells c1 43)).alloc (Obj.cells c2 43))) := Lib.hid fun c1 c2 => ((Below.refl _ _).alloc (Nat.le_refl _) _).alloc (by simp) _
  clear hR hF hk hv
  by_cases hs : b.length < 4
  · have hsi : (b.length : Int) < 4 := by omega
    obtain rfl : r = none := by rw [← hr, if_pos hs]
    clear hr
    go_enter Tryd.func37, Tryd.ntmps37
    go_wp2_with (go_at_call 15; go_must (refine rkind_at id 3 HK.out _ _ ?_))
    refine bodyPost_ret (results_cell_two rfl _ _ w.heap.size 43 #[.int .i64 id, .int .i64 0, .string ⟨#[]⟩, .string ⟨#[]⟩, .slice none 0 0] (0, 0) _ _ _ rfl rfl rfl (block_alloc (heap_alloc_new w _)) Tryd.underlying43 rfl (by kernel_rfl)) rfl ?_
    exact HF.out _ _ _ _ _ _ _ _ _ (by first | rfl | trivial) rfl (((Below.refl _ _).alloc (Nat.le_refl _) _).alloc (by simp) _)
  · have hsi : ¬ (b.length : Int) < 4 := by omega
    have hsc : (4 : Int) ≤ (bc : Int) := by omega
    have hnb := (num_bytes b 4 ⟨by omega, by omega⟩ (by omega)).1
    obtain ⟨x, hx⟩ : ∃ x, getU (b.take 4) = x := ⟨_, rfl⟩
    rw [if_neg hs, hx] at hr
    rw [hx] at hnb
    have ew : wrap64 (x : Int) = (x : Int) := by unfold wrap64; omega
    have hfin : ∀ w', w'.ownsRow w.heap.size 5 1 (.slice none 0 0) 0 (bv []) → Below w.heap.size w w' → R (.returned (.tuple #[.agg #[.int .i64 id, .int .i64 (wrap64 (x : Int)), .string ⟨#[]⟩, .string ⟨#[]⟩, .slice none 0 0], .int .i64 4, .bool true])) w' := fun w' h1 h2 => by
      rw [ew]
      exact HR.out ⟨id, x, [], [], []⟩ 4 _ w' hr.symm h1 h2
    have HFIN := Lib.hid hfin
    have HX := Lib.hid hx
    have hcut := HV.out.cut (k := 4) (by omega)
    have HC := Lib.hid hcut
    clear hx hcut hr hnb ew hfin HR HF
    go_enter Tryd.func37, Tryd.ntmps37
    go_wp2_with (first
      | (go_at_call 15; go_must (refine rkind_at id 3 HK.out _ _ ?_))
      | (go_at_call 58; go_must (refine rget_at _ _ x HX.out _ (HC.out.below (HBA.out _ _)) _ ?_)))
    refine bodyPost_ret (results_cell_two rfl _ _ w.heap.size 43 #[.int .i64 id, .int .i64 (wrap64 (x : Int)), .string ⟨#[]⟩, .string ⟨#[]⟩, .slice none 0 0] (0, 0) _ _ _ rfl rfl rfl (block_alloc (heap_alloc_new w _)) Tryd.underlying43 rfl (by kernel_rfl)) rfl ?_
    exact HFIN.out _ (World.ownsRow_nil _ _ _ _) (((Below.refl _ _).alloc (Nat.le_refl _) _).alloc (by simp) _)

set_option maxRecDepth 100000 in
set_option maxHeartbeats 1000000 in
theorem rvalue_4 (id : Int) (hk : kindL id = 4) (v : Value) (b : List UInt8) (r : Option (Pr × Int)) (hr : valueL id b = r) (w : World) (hv : Bs w v b) (R : Ending → World → Prop)
    (hR : ∀ p u d w', r = some (p, u) → w'.ownsRow w.heap.size 5 1 d p.data.length (bv p.data) → Below w.heap.size w w' → R (.returned (.tuple #[.agg #[.int .i64 p.id, .int .i64 p.num, .string (str p.text), .string (str p.pair), d], .int .i64 u, .bool true])) w')
    (hF : ∀ n s t a m c u q w', r = none → q = false → Below w.heap.size w w' → R (.returned (.tuple #[.agg #[.int .i64 id, .int .i64 n, .string s, .string t, .slice a m c], .int .i64 u, .bool q])) w') :
    Calls Tryd.prog 37 #[.int .i64 id, v] w R := by
  rw [val4 id hk] at hr
  have HR := Lib.hid hR
  have HF := Lib.hid hF
  have HK := Lib.hid hk
  have HV := Lib.hid hv
  obtain ⟨ba, bc, rfl, _, hbl, hbm, _⟩ := _root_.id hv
  have HBA : Hid (∀ c1 c2 : Array Value, Below w.heap.size w ((w.alloc (Obj.cells c1 43)).alloc (Obj.cells c2 43))) := Lib.hid fun c1 c2 => ((Below.refl _ _).alloc (Nat.le_refl _) _).alloc (by simp) _
  clear hR hF hk hv
  obtain ⟨⟨x, y, z⟩, hg⟩ : ∃ g, gvL b = g := ⟨_, rfl⟩
  rw [hg] at hr
  simp only at hr
  have HG := Lib.hid hg
  have HRR := Lib.hid hr
  clear hg hr
  go_enter Tryd.func37, Tryd.ntmps37
  go_wp2_with (first
    | (go_at_call 15; go_must (refine rkind_at id 4 HK.out _ _ ?_))
    | (go_at_call 36; go_must (refine rgetvar_any _ b x y z HG.out _ (HV.out.below (HBA.out _ _)) _ ?_)))
  refine bodyPost_ret (results_cell_two rfl _ _ w.heap.size 43 #[.int .i64 id, .int .i64 (x : Int), .string ⟨#[]⟩, .string ⟨#[]⟩, .slice none 0 0] (0, 0) _ _ _ rfl rfl rfl (block_alloc (heap_alloc_new w _)) Tryd.underlying43 rfl (by kernel_rfl)) rfl ?_
  by_cases hz : z = 0
  · subst hz
    exact HR.out ⟨id, x, [], [], []⟩ y (.slice none 0 0) _ (by have := HRR.out; rw [if_pos rfl] at this; exact this.symm) (World.ownsRow_nil _ _ _ _) (((Below.refl _ _).alloc (Nat.le_refl _) _).alloc (by simp) _)
  · exact HF.out _ _ _ _ _ _ _ _ _ (by have := HRR.out; rw [if_neg hz] at this; exact this.symm) (by simp [hz]) (((Below.refl _ _).alloc (Nat.le_refl _) _).alloc (by simp) _)

set_option maxRecDepth 100000 in
set_option maxHeartbeats 1000000 in
theorem rvalue_5 (id : Int) (hk : kindL id = 5) (v : Value) (b : List UInt8) (r : Option (Pr × Int)) (hr : valueL id b = r) (w : World) (hv : Bs w v b) (R : Ending → World → Prop)
    (hR : ∀ p u d w', r = some (p, u) → w'.ownsRow w.heap.size 5 1 d p.data.length (bv p.data) → Below w.heap.size w w' → R (.returned (.tuple #[.agg #[.int .i64 p.id, .int .i64 p.num, .string (str p.text), .string (str p.pair), d], .int .i64 u, .bool true])) w')
    (hF : ∀ n s t a m c u q w', r = none → q = false → Below w.heap.size w w' → R (.returned (.tuple #[.agg #[.int .i64 id, .int .i64 n, .string s, .string t, .slice a m c], .int .i64 u, .bool q])) w') :
    Calls Tryd.prog 37 #[.int .i64 id, v] w R := by
  rw [val5 id hk] at hr
  have HR := Lib.hid hR
  have HF := Lib.hid hF
  have HK := Lib.hid hk
  have HV := Lib.hid hv
  obtain ⟨ba, bc, rfl, _, hbl, hbm, _⟩ := _root_.id hv
  have HBA : Hid (∀ c1 c2 : Array Value, Below w.heap.size w ((w.alloc (Obj.cells c1 43)).alloc (Obj.cells c2 43))) := Lib.hid fun c1 c2 => ((Below.refl _ _).alloc (Nat.le_refl _) _).alloc (by simp) _
  clear hR hF hk hv
  obtain ⟨⟨S, u, z⟩, hg⟩ : ∃ g, getTextL b = g := ⟨_, rfl⟩
  rw [hg] at hr
  simp only at hr
  have HG := Lib.hid hg
  have HRR := Lib.hid hr
  clear hg hr
  go_enter Tryd.func37, Tryd.ntmps37
  go_wp2_with (first
    | (go_at_call 15; go_must (refine rkind_at id 5 HK.out _ _ ?_))
    | (go_at_call 56; go_must (refine rgettext_any _ b S u z HG.out _ (HV.out.below (HBA.out _ _)) _ ?_)))
  refine bodyPost_ret (results_cell_two rfl _ _ w.heap.size 43 #[.int .i64 id, .int .i64 0, .string (str S), .string ⟨#[]⟩, .slice none 0 0] (0, 0) _ _ _ rfl rfl rfl (block_alloc (heap_alloc_new w _)) Tryd.underlying43 rfl (by kernel_rfl)) rfl ?_
  by_cases hz : z = 0
  · subst hz
    exact HR.out ⟨id, 0, S, [], []⟩ u (.slice none 0 0) _ (by have := HRR.out; rw [if_pos rfl] at this; exact this.symm) (World.ownsRow_nil _ _ _ _) (((Below.refl _ _).alloc (Nat.le_refl _) _).alloc (by simp) _)
  · exact HF.out _ _ _ _ _ _ _ _ _ (by have := HRR.out; rw [if_neg hz] at this; exact this.symm) (by simp [hz]) (((Below.refl _ _).alloc (Nat.le_refl _) _).alloc (by simp) _)

set_option maxRecDepth 100000 in
set_option maxHeartbeats 1000000 in
theorem rvalue_7 (id : Int) (hk : kindL id = 7) (v : Value) (b : List UInt8) (r : Option (Pr × Int)) (hr : valueL id b = r) (w : World) (hv : Bs w v b) (R : Ending → World → Prop)
    (hR : ∀ p u d w', r = some (p, u) → w'.ownsRow w.heap.size 5 1 d p.data.length (bv p.data) → Below w.heap.size w w' → R (.returned (.tuple #[.agg #[.int .i64 p.id, .int .i64 p.num, .string (str p.text), .string (str p.pair), d], .int .i64 u, .bool true])) w')
    (hF : ∀ n s t a m c u q w', r = none → q = false → Below w.heap.size w w' → R (.returned (.tuple #[.agg #[.int .i64 id, .int .i64 n, .string s, .string t, .slice a m c], .int .i64 u, .bool q])) w') :
    Calls Tryd.prog 37 #[.int .i64 id, v] w R := by
  rw [val7 id hk] at hr
  have HR := Lib.hid hR
  have HF := Lib.hid hF
  have HK := Lib.hid hk
  have HV := Lib.hid hv
  obtain ⟨ba, bc, rfl, _, hbl, hbm, _⟩ := _root_.id hv
  have HBA : Hid (∀ c1 c2 : Array Value, Below w.heap.size w ((w.alloc (Obj.cells c1 43)).alloc (Obj.cells c2 43))) := Lib.hid fun c1 c2 => ((Below.refl _ _).alloc (Nat.le_refl _) _).alloc (by simp) _
  clear hR hF hk hv
  obtain ⟨⟨S, u, z⟩, hg⟩ : ∃ g, getTextL b = g := ⟨_, rfl⟩
  rw [hg] at hr
  simp only at hr
  have HG := Lib.hid hg
  by_cases hz : z = 0
  · subst hz
    obtain ⟨t1, t2, t3, _, _⟩ := text_bytes b S u hg
    obtain ⟨j, rfl⟩ : ∃ j : Nat, u = (j : Int) := ⟨S.length + 2, by omega⟩
    rw [if_pos rfl, Int.toNat_natCast] at hr
    obtain ⟨⟨S', u', z'⟩, hg'⟩ : ∃ g, getTextL (b.drop j) = g := ⟨_, rfl⟩
    rw [hg'] at hr
    simp only at hr
    have HG' := Lib.hid hg'
    have HRR := Lib.hid hr
    have hj : j ≤ b.length := by omega
    have hj2 : (j : Int) ≤ 70000 := by omega
    obtain ⟨La, hsl, hbs⟩ := bs_from HV.out hj
    have HBS := Lib.hid hbs
    have hu : z' = 0 → 0 ≤ u' ∧ u' ≤ 70000 := fun h => by
      subst h
      obtain ⟨q1, q2, _⟩ := text_bytes _ S' u' hg'
      omega
    have HU := Lib.hid hu
    clear hg hr hg' t1 t2 t3 hbs hu
    go_enter Tryd.func37, Tryd.ntmps37
    go_wp2_with (first
      | (go_at_call 15; go_must (refine rkind_at id 7 HK.out _ _ ?_))
      | (go_at_call_of 56 (Value.slice ba b.length bc); go_must (refine rgettext_any _ b S j 0 HG.out _ (HV.out.below (HBA.out _ _)) _ ?_))
      | (go_at_call 56; go_must (refine rgettext_any _ (b.drop j) S' u' z' HG'.out _ (HBS.out.below (HBA.out _ _)) _ ?_)))
    refine bodyPost_ret (results_cell_two rfl _ _ w.heap.size 43 #[.int .i64 id, .int .i64 0, .string (str S), .string (str S'), .slice none 0 0] (0, 0) _ _ _ rfl rfl rfl (block_alloc (heap_alloc_new w _)) Tryd.underlying43 rfl (by kernel_rfl)) rfl ?_
    by_cases hz : z' = 0
    · subst hz
      have hu' := HU.out rfl
      have ew : wrap64 ((j : Int) + u') = (j : Int) + u' := by unfold wrap64; omega
      rw [ew]
      exact HR.out ⟨id, 0, S, S', []⟩ (j + u') (.slice none 0 0) _ (by have := HRR.out; rw [if_pos rfl] at this; exact this.symm) (World.ownsRow_nil _ _ _ _) (((Below.refl _ _).alloc (Nat.le_refl _) _).alloc (by simp) _)
    · exact HF.out _ _ _ _ _ _ _ _ _ (by have := HRR.out; rw [if_neg hz] at this; exact this.symm) (by simp [hz]) (((Below.refl _ _).alloc (Nat.le_refl _) _).alloc (by simp) _)
  · obtain rfl : r = none := by rw [← hr, if_neg hz]
    have hzb : (z != 0) = true := by simp [hz]
    clear hg hr
    go_enter Tryd.func37, Tryd.ntmps37
    go_wp2_with (first
      | (go_at_call 15; go_must (refine rkind_at id 7 HK.out _ _ ?_))
      | (go_at_call_of 56 (Value.slice ba b.length bc); go_must (refine rgettext_any _ b S u z HG.out _ (HV.out.below (HBA.out _ _)) _ ?_)))
    refine bodyPost_ret (results_cell_two rfl _ _ w.heap.size 43 #[.int .i64 id, .int .i64 0, .string ⟨#[]⟩, .string ⟨#[]⟩, .slice none 0 0] (0, 0) _ _ _ rfl rfl rfl (block_alloc (heap_alloc_new w _)) Tryd.underlying43 rfl (by kernel_rfl)) rfl ?_
    exact HF.out _ _ _ _ _ _ _ _ _ (by first | rfl | trivial) (by first | rfl | simp [hz]) (((Below.refl _ _).alloc (Nat.le_refl _) _).alloc (by simp) _)

theorem own_none0 {B e K : Nat} (X : World) (hK : K = X.heap.size) (hB : B ≤ K) : (X.alloc (.cells #[] e)).ownsRow B e 1 (.slice (some ⟨K, 0, none⟩) 0 0) 0 (bv []) := by
  subst hK
  exact World.ownsRow_made X #[] 0 hB (by unfold maxLen; omega) (by simp)

set_option maxRecDepth 100000 in
set_option maxHeartbeats 1000000 in
theorem rvalue_6 (id : Int) (hk : kindL id = 6) (v : Value) (b : List UInt8) (r : Option (Pr × Int)) (hr : valueL id b = r) (w : World) (hv : Bs w v b) (R : Ending → World → Prop)
    (hR : ∀ p u d w', r = some (p, u) → w'.ownsRow w.heap.size 5 1 d p.data.length (bv p.data) → Below w.heap.size w w' → R (.returned (.tuple #[.agg #[.int .i64 p.id, .int .i64 p.num, .string (str p.text), .string (str p.pair), d], .int .i64 u, .bool true])) w')
    (hF : ∀ n s t a m c u q w', r = none → q = false → Below w.heap.size w w' → R (.returned (.tuple #[.agg #[.int .i64 id, .int .i64 n, .string s, .string t, .slice a m c], .int .i64 u, .bool q])) w') :
    Calls Tryd.prog 37 #[.int .i64 id, v] w R := by
  rw [val6 id hk] at hr
  have HR := Lib.hid hR
  have HF := Lib.hid hF
  have HK := Lib.hid hk
  have HV := Lib.hid hv
  obtain ⟨ba, bc, rfl, _, hbl, hbm, _⟩ := _root_.id hv
  have HBA : Hid (∀ c1 c2 : Array Value, Below w.heap.size w ((w.alloc (Obj.cells c1 43)).alloc (Obj.cells c2 43))) := Lib.hid fun c1 c2 => ((Below.refl _ _).alloc (Nat.le_refl _) _).alloc (by simp) _
  clear hR hF hk hv
  obtain ⟨⟨S, u, z⟩, hg⟩ : ∃ g, getDataL b = g := ⟨_, rfl⟩
  have hSl := getDataL_len b S u z hg
  rw [hg] at hr
  simp only at hr
  have HG := Lib.hid hg
  have HRR := Lib.hid hr
  obtain ⟨X2, hX2⟩ : ∃ X2, (w.alloc (Obj.cells #[Value.int .i64 0, Value.int .i64 0, Value.string ⟨#[]⟩, Value.string ⟨#[]⟩, Value.slice none 0 0] 43)).alloc (Obj.cells #[.int .i64 id, .int .i64 0, .string ⟨#[]⟩, .string ⟨#[]⟩, .slice none 0 0] 43) = X2 := ⟨_, rfl⟩
  have hxA : Below w.heap.size w X2 := by rw [← hX2]; exact HBA.out _ _
  have n0 : X2.heap[w.heap.size]? = some (Obj.cells #[Value.int .i64 0, Value.int .i64 0, Value.string ⟨#[]⟩, Value.string ⟨#[]⟩, Value.slice none 0 0] 43) := by rw [← hX2]; exact block_alloc (heap_alloc_new w _)
  have n1 : X2.heap[w.heap.size + 1]? = some (Obj.cells #[.int .i64 id, .int .i64 0, .string ⟨#[]⟩, .string ⟨#[]⟩, .slice none 0 0] 43) := by
    rw [← hX2]
    have := heap_alloc_new (w.alloc (Obj.cells #[Value.int .i64 0, Value.int .i64 0, Value.string ⟨#[]⟩, Value.string ⟨#[]⟩, Value.slice none 0 0] 43)) (Obj.cells #[.int .i64 id, .int .i64 0, .string ⟨#[]⟩, .string ⟨#[]⟩, .slice none 0 0] 43)
    rw [show (w.alloc (Obj.cells #[Value.int .i64 0, Value.int .i64 0, Value.string ⟨#[]⟩, Value.string ⟨#[]⟩, Value.slice none 0 0] 43)).heap.size = w.heap.size + 1 by simp] at this
    exact this
  have N0 := Lib.hid n0
  have N1 := Lib.hid n1
  have HX2 := Lib.hid hX2
  clear hg hr n0 n1 hX2
  go_enter Tryd.func37, Tryd.ntmps37
  go_wp2_with fail
  rw [HX2.out]
  clear HX2
  go_wp2_with (first
    | (go_at_call 15; go_must (refine rkind_at id 6 HK.out _ _ ?_))
    | (go_at_call 57; go_must (refine rgetdata_any _ b S u z HG.out _ (HV.out.below hxA) _ ?_); intro ga gc hgb; have hlit := own_none0 (B := X2.heap.size) (e := 5) X2 rfl (Nat.le_refl _); have hyA : Below X2.heap.size X2 (X2.alloc (Obj.cells #[] 5)) := (Below.refl X2.heap.size X2).alloc (Nat.le_refl _) _; obtain ⟨s1, s2, se, hrd1, _, _, hnil1⟩ := hgb.below hyA; simp only [Value.slice.injEq] at se; obtain ⟨rfl, -, rfl⟩ := se; clear hgb)
    | (at_builtin; go_must (refine wpList_app (by rfl) (.tmp 69) (.tmp 70) 22 (by rfl) X2.heap.size 5 (.int .u8 0) 1 1 Tryd.underlying22 Tryd.info5 rfl (by decide) _ _ _ _ rfl hlit _ _ _ _ rfl hrd1 (bv_oneCell _) hnil1 (by unfold maxLen; omega) (by omega) (by simp) ?_); intro ad7 c7 w7 hown7 hg7; rw [Nat.zero_add] at hown7; have hy7 := below_app hyA hg7 (by simp) hlit; have m0 := row_later2 N0.out hy7; have m1 := row_later2 N1.out hy7; have ae0 := cell_of_row _ w.heap.size 0 _ _ _ m0; have ae1 := cell_of_row _ w.heap.size 1 _ _ _ m0; have ae2 := cell_of_row _ w.heap.size 2 _ _ _ m0; have ae3 := cell_of_row _ w.heap.size 3 _ _ _ m0; have ae4 := cell_of_row _ w.heap.size 4 _ _ _ m0; have af0 := frozen_block m0 0; have af1 := frozen_block m0 1; have af2 := frozen_block m0 2; have af3 := frozen_block m0 3; have af4 := frozen_block m0 4; have ee0 := cell_of_row _ (w.heap.size + 1) 0 _ _ _ m1; have ee1 := cell_of_row _ (w.heap.size + 1) 1 _ _ _ m1; have ee2 := cell_of_row _ (w.heap.size + 1) 2 _ _ _ m1; have ee3 := cell_of_row _ (w.heap.size + 1) 3 _ _ _ m1; have ee4 := cell_of_row _ (w.heap.size + 1) 4 _ _ _ m1; have ef0 := frozen_block m1 0; have ef1 := frozen_block m1 1; have ef2 := frozen_block m1 2; have ef3 := frozen_block m1 3; have ef4 := frozen_block m1 4; have M0 := Lib.hid m0; have M1 := Lib.hid m1; have hx7 := below_then hxA hy7 hxA.size; have HO7 := Lib.hid (owns_mono (base' := w.heap.size) hown7 hxA.size); clear hlit hrd1 hnil1 hg7 hyA hown7 hy7 m0 m1 N0 N1))
  have p1 := heap_setCell_same _ _ 4 _ _ (.slice ad7 S.length c7) M1.out
  have p0 : (w7.setCell ⟨w.heap.size + 1, 4, none⟩ (.slice ad7 S.length c7)).heap[w.heap.size]? = some (Obj.cells #[Value.int .i64 0, Value.int .i64 0, Value.string ⟨#[]⟩, Value.string ⟨#[]⟩, Value.slice none 0 0] 43) := by
    rw [heap_setCell_other _ _ _ _ (by simp)]
    exact M0.out
  refine bodyPost_ret (results_cell_two rfl _ _ w.heap.size 43 #[.int .i64 id, .int .i64 0, .string ⟨#[]⟩, .string ⟨#[]⟩, .slice ad7 S.length c7] (0, 0) _ _ _ rfl rfl rfl (done5 p0 rfl _ _ _ _ _) Tryd.underlying43 rfl (by kernel_rfl)) rfl ?_
  by_cases hz : z = 0
  · subst hz
    refine HR.out ⟨id, 0, [], [], S⟩ u (.slice ad7 S.length c7) _ (by have := HRR.out; rw [if_pos rfl] at this; exact this.symm) (keeps5 p0 (by decide) _ _ _ _ _ _ _ _ _ (Keeps.setK M1.out (by decide) _ _ _ _ ?_)) (below_set5 (hx7.setCell (by show w.heap.size ≤ w.heap.size + 1; omega) _) (Nat.le_refl _) _ _ _ _ _)
    have := HO7.out
    simpa [bv] using this
  · exact HF.out _ _ _ _ _ _ _ _ _ (by have := HRR.out; rw [if_neg hz] at this; exact this.symm) (by simp [hz]) (below_set5 (hx7.setCell (by show w.heap.size ≤ w.heap.size + 1; omega) _) (Nat.le_refl _) _ _ _ _ _)

theorem rvalue_any (id : Int) (hk : kindL id ≠ 0) (v : Value) (b : List UInt8) (r : Option (Pr × Int)) (hr : valueL id b = r) (w : World) (hv : Bs w v b) (R : Ending → World → Prop)
    (hR : ∀ p u d w', r = some (p, u) → w'.ownsRow w.heap.size 5 1 d p.data.length (bv p.data) → Below w.heap.size w w' → R (.returned (.tuple #[.agg #[.int .i64 p.id, .int .i64 p.num, .string (str p.text), .string (str p.pair), d], .int .i64 u, .bool true])) w')
    (hF : ∀ n s t a m c u q w', r = none → q = false → Below w.heap.size w w' → R (.returned (.tuple #[.agg #[.int .i64 id, .int .i64 n, .string s, .string t, .slice a m c], .int .i64 u, .bool q])) w') :
    Calls Tryd.prog 37 #[.int .i64 id, v] w R := by
  rcases kind_cases id with h | h | h | h | h | h | h | h
  · exact absurd h hk
  · exact rvalue_1 id h v b r hr w hv R hR hF
  · exact rvalue_2 id h v b r hr w hv R hR hF
  · exact rvalue_3 id h v b r hr w hv R hR hF
  · exact rvalue_4 id h v b r hr w hv R hR hF
  · exact rvalue_5 id h v b r hr w hv R hR hF
  · exact rvalue_6 id h v b r hr w hv R hR hF
  · exact rvalue_7 id h v b r hr w hv R hR hF
end Go.Proofs.YtpodhidabhnnnaaDoor
