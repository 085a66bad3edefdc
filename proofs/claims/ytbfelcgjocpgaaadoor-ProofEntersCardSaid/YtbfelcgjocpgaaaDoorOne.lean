
import Derived.Test.YtbfelcgjocpgaaaDoorCheck
namespace Go.Proofs.YtbfelcgjocpgaaaDoor
open Go.RowKit

theorem below_at {n : Nat} {w w' : World} (h : Below n w w') (e : n = w.heap.size) : Below w.heap.size w w' := e ▸ h

set_option maxHeartbeats 800000 in
theorem config_any (v : Value) (S : List UInt8) (w : World) (hv : Bs w v S) (R : Ending → World → Prop)
    (hR : ∀ u w', Us w' u [([117], S)] → Below w.heap.size w w' → R (.returned (.agg #[.int .i64 1, .bool false, u])) w') :
    Calls Tryd.prog 22 #[v] w R := by
  have hv' := hv
  obtain ⟨ad, c, rfl, _, _, _, _⟩ := hv'
  go_enter Tryd.func22, Tryd.ntmps22
  go_wp2
  have hb2 := ((Below.refl w.heap.size w).alloc (Nat.le_refl _) (Obj.cells #[Value.int .i64 1, Value.bool false, Value.slice (some ⟨w.heap.size + 1, 0, none⟩) 1 1] 24)).alloc (by simp) (Obj.cells #[Value.string ⟨#[117]⟩, Value.slice ad S.length c] 58)
  refine bodyPost_ret (results_cell_row rfl _ _ w.heap.size 24 #[Value.int .i64 1, Value.bool false, Value.slice (some ⟨w.heap.size + 1, 0, none⟩) 1 1] (0, 0) _ rfl (block_alloc (heap_alloc_new w _)) Tryd.underlying24 rfl (by kernel_rfl)) rfl ?_
  refine hR _ _ ?_ hb2
  have hn := heap_alloc_new (w.alloc (Obj.cells #[Value.int .i64 1, Value.bool false, Value.slice (some ⟨w.heap.size + 1, 0, none⟩) 1 1] 24)) (Obj.cells #[Value.string ⟨#[117]⟩, Value.slice ad S.length c] 58)
  rw [show (w.alloc (Obj.cells #[Value.int .i64 1, Value.bool false, Value.slice (some ⟨w.heap.size + 1, 0, none⟩) 1 1] 24)).heap.size = w.heap.size + 1 by simp] at hn
  refine ⟨some ⟨w.heap.size + 1, 0, none⟩, 1, rfl, by simp, by omega, by simp, fun _ => ⟨_, _, rfl, fun i hi => ?_⟩⟩
  obtain rfl : i = 0 := by simp at hi; omega
  exact ⟨by simp, cell_of_row _ _ 0 _ _ _ hn, _, cell_of_row _ _ 1 _ _ _ hn, hv.below hb2⟩

/-- Who comes in by a password. -/
def enterL (op : Bool) (us : List (List UInt8 × List UInt8)) (hu : Bool) (N : List UInt8) (hp : Bool) (W : List UInt8) : Int :=
  if hu then (match lookU us N with | some S => if hp && S == W then 0 else 134 | none => 134) else if hp then 134 else if op then 0 else 135

set_option maxRecDepth 100000 in
set_option maxHeartbeats 4000000 in
theorem enter_any (k : IntKind) (m : Int) (op : Bool) (uv : Value) (us : List (List UInt8 × List UInt8)) (hl : ∀ u ∈ us, u.2.length ≤ 140737488355328) (x0 x1 x2 x3 x4 x5 x6 x7 x8 x9 x10 x11 x12 x13 x14 x15 x16 x17 x18 x19 x20 : Value) (hu hp : Bool) (N W : List UInt8) (pv : Value) (pr : Bool) (t : Int) (ht : enterL op us hu N hp W = t) (w : World) (hU : Us w uv us) (hW : Bs w pv W) (R : Ending → World → Prop)
    (hR : ∀ w', Below w.heap.size w w' → R (.returned (.int .i64 t)) w') :
    Calls Tryd.prog 13 #[.agg #[.int k m, .bool op, uv], .agg #[x0, x1, x2, x3, x4, x5, x6, x7, x8, x9, x10, x11, x12, x13, x14, x15, x16, x17, x18, x19, x20, .bool hu, .string (str N), .bool hp, pv, .bool pr]] w R := by
  have hU' := hU
  obtain ⟨ad, c, rfl, h1, h2, h3, h4⟩ := hU'
  clear h4
  have hb0 := ((Below.refl w.heap.size w).alloc (Nat.le_refl _) (Obj.cells #[Value.int k m, Value.bool op, Value.slice ad us.length c] 24)).alloc (by simp) (Obj.cells #[x0, x1, x2, x3, x4, x5, x6, x7, x8, x9, x10, x11, x12, x13, x14, x15, x16, x17, x18, x19, x20, Value.bool hu, Value.string (str N), Value.bool hp, pv, Value.bool pr] 34)
  have hU1 := hU.below hb0
  have hW1 := hW.below hb0
  have hz0 := hb0.size
  cases hu with
  | false =>
    have HT : Hid ((if hp then 134 else if op then 0 else 135 : Int) = t) := by rw [← ht]; exact Lib.hid rfl
    clear ht hU hW hU1 hW1
    cases hp with
    | true =>
      obtain rfl : t = 134 := HT.out.symm
      go_enter Tryd.func13, Tryd.ntmps13
      go_wp2
      all_goals first | exact hb0 | exact hR _ hb0
    | false =>
      cases op with
      | true =>
        obtain rfl : t = 0 := HT.out.symm
        go_enter Tryd.func13, Tryd.ntmps13
        go_wp2
        all_goals first | exact hb0 | exact hR _ hb0
      | false =>
        obtain rfl : t = 135 := HT.out.symm
        go_enter Tryd.func13, Tryd.ntmps13
        go_wp2
        all_goals first | exact hb0 | exact hR _ hb0
  | true =>
    obtain ⟨r, hr⟩ : ∃ r, lookU us N = r := ⟨_, rfl⟩
    have HR := Lib.hid hr
    cases r with
    | none =>
      obtain rfl : t = 134 := by rw [← ht]; unfold enterL; rw [hr]; rfl
      clear ht hr hU hW hW1
      go_enter Tryd.func13, Tryd.ntmps13
      go_wp2_with (go_at_call 8; go_must (refine secret_none _ _ _ us N HR.out hl _ hU1 _ ?_))
      intro ad1 c1 w1 hown1 hb1
      have hb2 := below_then hb0 hb1 (by omega)
      clear hown1 hb1 hU1 hb0
      go_wp2
      all_goals first | exact hb2 | exact hR _ hb2
    | some S =>
      obtain ⟨w0, hw0⟩ : ∃ w0, (w.alloc (Obj.cells #[Value.int k m, Value.bool op, Value.slice ad us.length c] 24)).alloc (Obj.cells #[x0, x1, x2, x3, x4, x5, x6, x7, x8, x9, x10, x11, x12, x13, x14, x15, x16, x17, x18, x19, x20, Value.bool true, Value.string (str N), Value.bool hp, pv, Value.bool pr] 34) = w0 := ⟨_, rfl⟩
      have hn := heap_alloc_new (w.alloc (Obj.cells #[Value.int k m, Value.bool op, Value.slice ad us.length c] 24)) (Obj.cells #[x0, x1, x2, x3, x4, x5, x6, x7, x8, x9, x10, x11, x12, x13, x14, x15, x16, x17, x18, x19, x20, Value.bool true, Value.string (str N), Value.bool hp, pv, Value.bool pr] 34)
      rw [show (w.alloc (Obj.cells #[Value.int k m, Value.bool op, Value.slice ad us.length c] 24)).heap.size = w.heap.size + 1 by simp, hw0] at hn
      have C19 := Lib.hid (cell_of_row w0 (w.heap.size + 1) 23 _ _ _ hn)
      have C20 := Lib.hid (cell_of_row w0 (w.heap.size + 1) 24 _ _ _ hn)
      have W0 : Hid (Bs w0 pv W) := by rw [← hw0]; exact Lib.hid hW1
      have HW0 := Lib.hid hw0
      clear hn hw0
      have ht2 : (if hp && S == W then (0 : Int) else 134) = t := by rw [← ht]; unfold enterL; rw [hr]; rfl
      clear ht hr hU hW
      obtain ⟨q, hq⟩ : ∃ q, (S == W) = q := ⟨_, rfl⟩
      rw [hq] at ht2
      have HQ := Lib.hid hq
      have HT := Lib.hid ht2
      clear hq ht2
      go_enter Tryd.func13, Tryd.ntmps13
      go_wp2_with (go_at_call 8; go_must (refine secret_some _ _ _ us N S HR.out hl _ hU1 _ ?_))
      intro ad1 c1 w1 hown1 hb1
      have hb2 := below_then hb0 hb1 (by omega)
      have hbs := (bs_of_owns hown1).2
      have hb1' : Below w0.heap.size w0 w1 := by rw [← HW0.out]; simpa using hb1
      have hc19 : w1.cell? ⟨w.heap.size + 1, 23, none⟩ = some (.bool hp) := cell_later hb1' C19.out
      have hc20 : w1.cell? ⟨w.heap.size + 1, 24, none⟩ = some pv := cell_later hb1' C20.out
      have hW2 : Bs w1 pv W := W0.out.below hb1'
      clear hown1 hb1 hU1 hb0 hW1
      cases hp with
      | false =>
        obtain rfl : t = 134 := HT.out.symm
        go_wp2
        all_goals first | exact hb2 | exact hR _ hb2
      | true =>
        cases q with
        | true =>
          obtain rfl : t = 0 := HT.out.symm
          have hq := HQ.out
          go_wp2_with (go_at_call 28; go_must (refine equal_any _ _ S W _ hbs hW2 _ ?_))
          all_goals first | exact hb2 | exact hR _ hb2
        | false =>
          obtain rfl : t = 134 := HT.out.symm
          have hq := HQ.out
          go_wp2_with (go_at_call 28; go_must (refine equal_any _ _ S W _ hbs hW2 _ ?_))
          all_goals first | exact hb2 | exact hR _ hb2
end Go.Proofs.YtbfelcgjocpgaaaDoor
