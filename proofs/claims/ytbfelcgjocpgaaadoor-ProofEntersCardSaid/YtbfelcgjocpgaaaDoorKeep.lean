
import Derived.Test.YtbfelcgjocpgaaaDoorProg
import Derived.Test.YtbfelcgjocpgaaaDoorBase
namespace Go.Proofs.YtbfelcgjocpgaaaDoor
open Go.RowKit

theorem Tryd.info5 : (Tryd.prog.info? 5).map (fun i => (i.zero, i.size, i.bytes)) = some (some (.int .u8 0), 1, 1) := by kernel_rfl
set_option maxHeartbeats 400000 in
theorem cut_any (v : Value) (l C : List UInt8) (n : Int) (hC : l.take n.toNat = C) (w : World) (hv : Bs w v l) (h0 : 0 ≤ n) (R : Ending → World → Prop)
    (hR : ∀ ad c, Bs w (.slice ad C.length c) C → R (.returned (.slice ad C.length c)) w) :
    Calls Tryd.prog 7 #[v, .int .i64 n] w R := by
  subst hC
  have hv' := hv
  obtain ⟨ad, c, rfl, hr, hc, hm, hnil⟩ := hv'
  clear hr
  go_enter Tryd.func7, Tryd.ntmps7
  by_cases hlt : n < l.length
  · have hB := hv.cut (k := n.toNat) (by omega)
    go_wp2
    have e : (l.take n.toNat).length = n.toNat := by rw [List.length_take]; omega
    have := hR ad c
    rw [e] at this
    exact this hB
  · have hB : l.take n.toNat = l := List.take_of_length_le (by omega)
    go_wp2
    have := hR ad c
    rw [hB] at this
    exact this hv


set_option maxHeartbeats 400000 in
theorem same_any (v u : Value) (l m : List UInt8) (w : World) (hv : Bs w v l) (hu : Bs w u m) (R : Ending → World → Prop)
    (hR : R (.returned (.bool (l == m))) w) :
    Calls Tryd.prog 12 #[v, u] w R := by
  have h1 := run_conv_bs (P := Tryd.prog) Tryd.underlying25 Tryd.underlying5 Tryd.underlying9 hv
  have h2 := run_conv_bs (P := Tryd.prog) Tryd.underlying25 Tryd.underlying5 Tryd.underlying9 hu
  clear hv hu
  go_enter Tryd.func12, Tryd.ntmps12
  go_wp2
  exact hR

set_option maxHeartbeats 400000 in
theorem twin_any (v : Value) (l : List UInt8) (w : World) (hv : Bs w v l) (hl : l.length ≤ 140737488355328) (R : Ending → World → Prop)
    (hR : ∀ ad c w', w'.ownsRow w.heap.size 5 1 (.slice ad l.length c) l.length (bv l) → Below w.heap.size w w' → R (.returned (.slice ad l.length c)) w') :
    Calls Tryd.prog 33 #[v] w R := by
  obtain ⟨ad, c, rfl, hr, h1, h2, h3⟩ := hv
  have hown : w.ownsRow w.heap.size 5 1 (.slice none 0 0) 0 (bv []) := World.ownsRow_nil _ _ _ _
  go_enter Tryd.func33, Tryd.ntmps33
  go_wp2_with (at_builtin; go_must (refine wpList_app (by rfl) (.tmp 4) (.tmp 5) 25 (by rfl) w.heap.size 5 (.int .u8 0) 1 1 Tryd.underlying25 Tryd.info5 rfl (by decide) _ _ _ _ rfl hown _ _ _ _ rfl hr (bv_oneCell _) h3 (by unfold maxLen; omega) (by omega) (Nat.le_refl _) ?_))
  intro ad3 c3 w3 hown3 hg3
  have hb3 := below_app (Below.refl _ _) hg3 (Nat.le_refl _) hown
  go_wp2
  exact hR _ _ _ hown3 hb3

/-- 'Within': n brought between lo and hi. -/
def within (n lo hi : Int) : Int := lo + n % (hi - lo + 1)

theorem within_bounds (n lo hi : Int) (h : lo ≤ hi) : lo ≤ within n lo hi ∧ within n lo hi ≤ hi := by
  unfold within
  have h1 := Int.emod_nonneg n (show hi - lo + 1 ≠ 0 by omega)
  have h2 := Int.emod_lt_of_pos n (show 0 < hi - lo + 1 by omega)
  omega

theorem within_tmod (n m : Int) (hm : 0 < m) : n % m = if n.tmod m < 0 then n.tmod m + m else n.tmod m := by
  rw [Int.tmod_eq_emod]
  have h1 := Int.emod_nonneg n (show m ≠ 0 by omega)
  have h2 := Int.emod_lt_of_pos n hm
  have e : (m.natAbs : Int) = m := by omega
  split <;> split <;> omega

end Go.Proofs.YtbfelcgjocpgaaaDoor
