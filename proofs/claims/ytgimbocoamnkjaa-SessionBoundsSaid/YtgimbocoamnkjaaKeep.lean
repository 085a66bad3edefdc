
import Derived.Test.YtgimbocoamnkjaaProg
import Derived.Test.YtgimbocoamnkjaaBase
namespace Go.Proofs.Ytgimbocoamnkjaa
open Go.RowKit

theorem Try.info5 : (Try.prog.info? 5).map (fun i => (i.zero, i.size, i.bytes)) = some (some (.int .u8 0), 1, 1) := by kernel_rfl
set_option maxHeartbeats 400000 in
theorem cut_any (v : Value) (l C : List UInt8) (n : Int) (hC : l.take n.toNat = C) (w : World) (hv : Bs w v l) (h0 : 0 ≤ n) (R : Ending → World → Prop)
    (hR : ∀ ad c, Bs w (.slice ad C.length c) C → R (.returned (.slice ad C.length c)) w) :
    Calls Try.prog 22 #[v, .int .i64 n] w R := by
  subst hC
  have hv' := hv
  obtain ⟨ad, c, rfl, hr, hc, hm, hnil⟩ := hv'
  clear hr
  go_enter Try.func22, Try.ntmps22
  by_cases hlt : n < l.length
  · have hB := hv.cut (k := n.toNat) (by omega)
    go_wp2
    have e : (l.take n.toNat).length = n.toNat := by rw [List.length_take]; omega
    have := hR ad c
    rw [e] at this
    exact this hB
  · have hB : l.take n.toNat = l := List.take_of_length_le (by omega)
    go_wp2
    have := hR ad c
    rw [hB] at this
    exact this hv


/-- 'Within': n brought between lo and hi. -/
def within (n lo hi : Int) : Int := lo + n % (hi - lo + 1)

theorem within_bounds (n lo hi : Int) (h : lo ≤ hi) : lo ≤ within n lo hi ∧ within n lo hi ≤ hi := by
  unfold within
  have h1 := Int.emod_nonneg n (show hi - lo + 1 ≠ 0 by omega)
  have h2 := Int.emod_lt_of_pos n (show 0 < hi - lo + 1 by omega)
  omega

theorem within_tmod (n m : Int) (hm : 0 < m) : n % m = if n.tmod m < 0 then n.tmod m + m else n.tmod m := by
  rw [Int.tmod_eq_emod]
  have h1 := Int.emod_nonneg n (show m ≠ 0 by omega)
  have h2 := Int.emod_lt_of_pos n hm
  have e : (m.natAbs : Int) = m := by omega
  split <;> split <;> omega

set_option maxHeartbeats 400000 in
theorem within_any (n lo hi : Int) (w : World) (h0 : -1000000000 ≤ lo) (h1 : lo ≤ hi) (h2 : hi ≤ 1000000000) (R : Ending → World → Prop)
    (hR : R (.returned (.int .i64 (within n lo hi))) w) :
    Calls Try.prog 8 #[.int .i64 n, .int .i64 lo, .int .i64 hi] w R := by
  have hm : 0 < hi - lo + 1 := by omega
  have hx := within_tmod n (hi - lo + 1) hm
  have b1 : n.tmod (hi - lo + 1) < hi - lo + 1 := Int.tmod_lt_of_pos n hm
  have b2 : -(hi - lo + 1) < n.tmod (hi - lo + 1) := by
    have q1 := Int.emod_nonneg n (show hi - lo + 1 ≠ 0 by omega)
    rw [Int.tmod_eq_emod]
    split <;> omega
  have HX := Lib.hid hx
  clear hx
  unfold within at hR
  rw [HX.out] at hR
  by_cases hneg : n.tmod (hi - lo + 1) < 0
  · rw [if_pos hneg] at hR
    go_enter Try.func8, Try.ntmps8
    go_wp2
    exact hR
  · rw [if_neg hneg] at hR
    go_enter Try.func8, Try.ntmps8
    go_wp2
    exact hR


end Go.Proofs.Ytgimbocoamnkjaa
