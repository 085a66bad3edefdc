/- The law PropTable, walked. -/
import Derived.Test.YtpodhidabhnnnaaDoorWakes11
import Derived.Test.YtpodhidabhnnnaaDoorKindR
namespace Go.Proofs.YtpodhidabhnnnaaDoor
open Go.RowKit

theorem rmay_at (id wh : Int) (m : Bool) (hm : mayL id wh = m) (w : World) (R : Ending → World → Prop) (hR : ∀ w', Below w.heap.size w w' → R (.returned (.bool m)) w') :
    Calls Tryd.prog 17 #[.int .i64 id, .int .i64 wh] w R := by
  subst hm
  exact rmay_any id wh w R hR
theorem rkind_at (id : Int) (k : Nat) (hk : kindL id = k) (w : World) (R : Ending → World → Prop) (hR : R (.returned (.int .i64 k)) w) :
    Calls Tryd.prog 15 #[.int .i64 id] w R := by
  subst hk
  exact rkind_any id w R hR

def partC (x : Int) (j : Nat) : Nat := ((List.range j).filter fun (k : Nat) => mayL x ((k : Int) - 1)).length
def totC (i : Nat) : Nat := ((List.range i).map fun (k : Nat) => partC ((k : Int) - 1) 19).sum
theorem partC_succ (x : Int) (j : Nat) : partC x (j + 1) = partC x j + if mayL x ((j : Int) - 1) = true then 1 else 0 := by
  unfold partC
  rw [List.range_succ, List.filter_append, List.length_append, List.filter_cons]
  split <;> simp
theorem totC_succ (i : Nat) : totC (i + 1) = totC i + partC ((i : Int) - 1) 19 := by
  unfold totC
  rw [List.range_succ, List.map_append, List.sum_append]
  simp
theorem partC_le (x : Int) (j : Nat) : partC x j ≤ j := by
  have := List.length_filter_le (fun (k : Nat) => mayL x ((k : Int) - 1)) (List.range j)
  rw [List.length_range] at this
  exact this
theorem totC_le (i : Nat) : totC i ≤ 19 * i := by
  induction i with
  | zero => simp [totC]
  | succ i ih =>
    rw [totC_succ]
    have := partC_le ((i : Int) - 1) 19
    omega
theorem totC_all : totC 61 = 64 := by decide +kernel

set_option maxRecDepth 100000 in
set_option maxHeartbeats 4000000 in
theorem table_law (w : World) (hT : Tabs w) (R : Ending → World → Prop) (hR : ∀ w', Below w.heap.size w w' → R (.returned (.bool true)) w') :
    Calls Tryd.prog 6 #[] w R := by
  have HR := Lib.hid hR
  have HT := Lib.hid hT
  clear hR hT
  go_enter Tryd.func6, Tryd.ntmps6
  go_wp2_with fail
  go_loopg [1, 2, 3] 61 (fun gn n id _ wr => ∃ (i : Nat) (x : Int) (t : Nat), i ≤ 61 ∧ gn = 61 - i ∧ id = .int .i64 x ∧ n = .int .i64 t ∧ Hid (x = (i : Int) - 1) ∧ -1 ≤ x ∧ x ≤ 60 ∧ Hid (t = totC i) ∧ t ≤ 2000 ∧ Below w.heap.size w wr)
  case atStart => exact ⟨0, -1, 0, by omega, by omega, rfl, rfl, Lib.hid (by decide), by omega, by omega, Lib.hid (by decide +kernel), by omega, Below.refl _ _⟩
  case round =>
    obtain ⟨i, x, t, hi, rfl, rfl, rfl, HX, hx0, hx1, HTT, ht, hb⟩ := hrel
    obtain ⟨wo, rfl⟩ : ∃ y, y = wr := ⟨_, rfl⟩
    by_cases hlt : x < 60
    · have hi61 : i < 61 := by have := HX.out; omega
      go_wp2_with fail
      go_loopg [1, 3] 19 (fun gn n wh wr => ∃ (j : Nat) (y : Int) (s : Nat), j ≤ 19 ∧ gn = 19 - j ∧ wh = .int .i64 y ∧ n = .int .i64 s ∧ Hid (y = (j : Int) - 1) ∧ -1 ≤ y ∧ y ≤ 18 ∧ Hid (s = totC i + partC x j) ∧ s ≤ 2000 ∧ Below w.heap.size w wr)
      case atStart => exact ⟨0, -1, t, by omega, by omega, rfl, rfl, Lib.hid (by decide), by omega, by omega, Lib.hid (by rw [HTT.out]; rfl), by omega, hb⟩
      case round =>
        obtain ⟨j, y, s, hj, rfl, rfl, rfl, HY, hy0, hy1, HSS, hs, hbi⟩ := hrel
        obtain ⟨wp, rfl⟩ : ∃ y, y = wr := ⟨_, rfl⟩
        by_cases hyt : y < 18
        · have hj19 : j < 19 := by have := HY.out; omega
          have hpc := partC_succ x j
          rw [← HY.out] at hpc
          have htl := totC_le i
          have hpl := partC_le x (j + 1)
          obtain ⟨m, hm⟩ : ∃ m, mayL x y = m := ⟨_, rfl⟩
          rw [hm] at hpc
          have HM := Lib.hid hm
          have hmm : (m != m) = false := by simp
          have HN : Hid (s + (if m = true then 1 else 0) = totC i + partC x (j + 1)) := Lib.hid (by rw [hpc, HSS.out]; omega)
          have hs1 : s + (if m = true then 1 else 0) ≤ 2000 := by rw [HN.out]; omega
          clear hm hpc htl hpl
          cases m with
          | true =>
            go_wp2_with (first
              | (go_at_call 16; go_must (refine may_any x y true HM.out _ _ ?_); intro w5 hb5; have hx5 := below_then hbi hb5 hbi.size; clear hb5 hbi)
              | (go_at_call 17; go_must (refine rmay_at x y true HM.out _ _ ?_); intro w6 hb6; have hx6 := below_then hx5 hb6 hx5.size)
              | (go_at_call 16; go_must (refine may_any x y true HM.out _ _ ?_); intro w7 hb7; have hx7 := below_then hx6 hb7 hx6.size))
            go_roundg (19 - (j + 1))
            case measure => omega
            case rel => exact ⟨j + 1, y + 1, s + 1, by omega, rfl, by go_num, by go_num, Lib.hid (by have := HY.out; omega), by omega, by omega, HN, hs1, hx7⟩
          | false =>
            go_wp2_with (first
              | (go_at_call 16; go_must (refine may_any x y false HM.out _ _ ?_); intro w5 hb5; have hx5 := below_then hbi hb5 hbi.size; clear hb5 hbi)
              | (go_at_call 17; go_must (refine rmay_at x y false HM.out _ _ ?_); intro w6 hb6; have hx6 := below_then hx5 hb6 hx5.size)
              | (go_at_call 16; go_must (refine may_any x y false HM.out _ _ ?_); intro w7 hb7; have hx7 := below_then hx6 hb7 hx6.size))
            go_roundg (19 - (j + 1))
            case measure => omega
            case rel => exact ⟨j + 1, y + 1, s, by omega, rfl, by go_num, rfl, Lib.hid (by have := HY.out; omega), by omega, by omega, Lib.hid (by have := HN.out; simpa using this), hs, hx7⟩
        · have hj19 : j = 19 := by have := HY.out; omega
          subst hj19
          obtain ⟨k, hk⟩ : ∃ k, kindL x = k := ⟨_, rfl⟩
          have HK := Lib.hid hk
          have hkk : ((k : Int) != (k : Int)) = false := by simp
          have HN : Hid (s = totC (i + 1)) := Lib.hid (by rw [totC_succ, HSS.out, HX.out])
          clear hk
          go_wp2_with (first
            | (go_at_call 14; go_must (refine kind_any x k HK.out _ _ ?_); intro w5 hb5; have hx5 := below_then hbi hb5 hbi.size)
            | (go_at_call 15; go_must (refine rkind_at x k HK.out _ _ ?_)))
          go_roundg (61 - (i + 1))
          case measure => omega
          case rel => exact ⟨i + 1, x + 1, s, by omega, rfl, by go_num, rfl, Lib.hid (by have := HX.out; omega), by omega, by omega, HN, hs, hx5⟩
    · have hi61 : i = 61 := by have := HX.out; omega
      have ht64 : t = 64 := by rw [HTT.out, hi61]; exact totC_all
      subst ht64
      go_wp2_with (go_at_call 21; go_must (refine wakes_any _ (HT.out.below hb) _ ?_); intro w5 hb5; have hx5 := below_then hb hb5 hb.size)
      exact HR.out _ hx5
end Go.Proofs.YtpodhidabhnnnaaDoor
