
import Derived.Test.YtpodgocmcnkfdaaProg
import Derived.Test.YtpodgocmcnkfdaaBase
namespace Go.Proofs.Ytpodgocmcnkfdaa
open Go.RowKit

theorem Try.info5 : (Try.prog.info? 5).map (fun i => (i.zero, i.size, i.bytes)) = some (some (.int .u8 0), 1, 1) := by kernel_rfl
set_option maxHeartbeats 400000 in
theorem cut_any (v : Value) (l C : List UInt8) (n : Int) (hC : l.take n.toNat = C) (w : World) (hv : Bs w v l) (h0 : 0 ≤ n) (R : Ending → World → Prop)
    (hR : ∀ ad c, Bs w (.slice ad C.length c) C → R (.returned (.slice ad C.length c)) w) :
    Calls Try.prog 22 #[v, .int .i64 n] w R := by
  subst hC
  have hv' := hv
  obtain ⟨ad, c, rfl, hr, hc, hm, hnil⟩ := hv'
  clear hr
  go_enter Try.func22, Try.ntmps22
  by_cases hlt : n < l.length
  · have hB := hv.cut (k := n.toNat) (by omega)
    go_wp2
    have e : (l.take n.toNat).length = n.toNat := by rw [List.length_take]; omega
    have := hR ad c
    rw [e] at this
    exact this hB
  · have hB : l.take n.toNat = l := List.take_of_length_le (by omega)
    go_wp2
    have := hR ad c
    rw [hB] at this
    exact this hv


set_option maxHeartbeats 400000 in
theorem same_any (v u : Value) (l m : List UInt8) (w : World) (hv : Bs w v l) (hu : Bs w u m) (R : Ending → World → Prop)
    (hR : R (.returned (.bool (l == m))) w) :
    Calls Try.prog 28 #[v, u] w R := by
  have h1 := run_conv_bs (P := Try.prog) Try.underlying39 Try.underlying5 Try.underlying9 hv
  have h2 := run_conv_bs (P := Try.prog) Try.underlying39 Try.underlying5 Try.underlying9 hu
  clear hv hu
  go_enter Try.func28, Try.ntmps28
  go_wp2
  exact hR

set_option maxHeartbeats 400000 in
theorem twin_any (v : Value) (l : List UInt8) (w : World) (hv : Bs w v l) (hl : l.length ≤ 140737488355328) (R : Ending → World → Prop)
    (hR : ∀ ad c w', w'.ownsRow w.heap.size 5 1 (.slice ad l.length c) l.length (bv l) → Below w.heap.size w w' → R (.returned (.slice ad l.length c)) w') :
    Calls Try.prog 33 #[v] w R := by
  obtain ⟨ad, c, rfl, hr, h1, h2, h3⟩ := hv
  have hown : w.ownsRow w.heap.size 5 1 (.slice none 0 0) 0 (bv []) := World.ownsRow_nil _ _ _ _
  go_enter Try.func33, Try.ntmps33
  go_wp2_with (at_builtin; go_must (refine wpList_app (by rfl) (.tmp 4) (.tmp 5) 39 (by rfl) w.heap.size 5 (.int .u8 0) 1 1 Try.underlying39 Try.info5 rfl (by decide) _ _ _ _ rfl hown _ _ _ _ rfl hr (bv_oneCell _) h3 (by unfold maxLen; omega) (by omega) (Nat.le_refl _) ?_))
  intro ad3 c3 w3 hown3 hg3
  have hb3 := below_app (Below.refl _ _) hg3 (Nat.le_refl _) hown
  go_wp2
  exact hR _ _ _ hown3 hb3

set_option maxHeartbeats 400000 in
theorem lend_any (v : Value) (l : List UInt8) (w : World) (hv : Bs w v l) (hl : l.length + 2 ≤ 140737488355328) (R : Ending → World → Prop)
    (hR : ∀ g c w', w'.ownsRow w.heap.size 5 1 (.slice (some ⟨g, 0, none⟩) (l ++ [165, 90]).length c) (l ++ [165, 90]).length (bv (l ++ [165, 90])) → Below w.heap.size w w' → R (.returned (.slice (some ⟨g, 0, none⟩) l.length c)) w') :
    Calls Try.prog 25 #[v] w R := by
  obtain ⟨ad, c, rfl, hr, h1, h2, h3⟩ := hv
  go_enter Try.func25, Try.ntmps25
  obtain ⟨i, hi, hz, hi1, hi2⟩ := info_parts Try.info5
  go_wp2_with (at_make; go_must (refine wpList_make_own _ (by rfl) _ _ 39 (by rfl) w.heap.size 5 i (.int .u8 0) 1 Try.underlying39 hi hz hi1 _ _ _ (l.length + 2) rfl rfl (by omega) (by rw [hi2]; omega) (by unfold maxLen; omega) (Nat.le_refl _) ?_))
  intro w1 hown1 hg1
  have hb1 : Below w.heap.size w w1 := (Below.refl _ _).grown hg1 (Nat.le_refl _) (fun k hk => by cases hk)
  have hr1 := hr.below hb1
  go_wp2_with (at_builtin; go_must (refine wpList_app (by rfl) (.tmp 8) (.tmp 9) 39 (by rfl) w.heap.size 5 (.int .u8 0) 1 1 Try.underlying39 Try.info5 rfl (by decide) _ _ _ _ rfl hown1 _ _ _ _ rfl hr1 (bv_oneCell _) h3 (by unfold maxLen; omega) (by omega) hb1.size ?_))
  intro ad2 c2 w2 hown2 hg2
  have hb2 := below_app hb1 hg2 hb1.size hown1
  go_wp2_with (at_builtin; go_must (refine wpList_app (by rfl) (.tmp 11) (.tmp 12) 39 (by rfl) w.heap.size 5 (.int .u8 0) 1 1 Try.underlying39 Try.info5 rfl (by decide) _ _ _ _ rfl (hown2.alloc _) _ _ _ _ rfl (show Rd _ 1 _ 2 (bv [165, 90]) from rd_lit _ _ _ 1 2 rfl) (bv_oneCell _) (by simp) (by unfold maxLen; omega) (by omega) (by have := hb2.size; simp; omega) ?_))
  intro ad3 c3 w3 hown3 hg3
  have hb3 := below_app (hb2.alloc hb2.size _) hg3 (by have := hb2.size; simp; omega) (hown2.alloc _)
  have hln : (l ++ [165, 90]).length = l.length + 2 := by simp
  obtain ⟨g, rfl⟩ := owns_head hown3 (by omega)
  rw [← bv_append] at hown3
  have hcc := (owns_cap hown3).1
  have hcm := (owns_cap hown3).2
  unfold maxLen at hcm
  rw [hln] at hR
  clear hln
  go_wp2
  exact hR _ _ _ hown3 hb3

set_option maxHeartbeats 400000 in
theorem back_any (g n c base : Nat) (u : Value) (l : List UInt8) (w : World) (hn : n = l.length) (hown : w.ownsRow base 5 1 (.slice (some ⟨g, 0, none⟩) (n + 2) c) (n + 2) (bv (l ++ [165, 90]))) (hu : Bs w u l) (R : Ending → World → Prop)
    (hR : ∀ w', w.grownBy w' (some g) → R (.returned (.bool true)) w') :
    Calls Try.prog 30 #[.slice (some ⟨g, 0, none⟩) n c, u] w R := by
  have hc := owns_cap hown
  unfold maxLen at hc
  have hlen : (l ++ [165, 90]).length = n + 2 := by simp [hn]
  have hbs : Bs w (.slice (some ⟨g, 0, none⟩) n c) l := by
    have h1 := (bs_of_owns hown).2
    have h2 := Bs.cut (k := n) (by rw [hlen] at h1; exact h1) (by omega)
    have e : (l ++ [165, 90]).take n = l := by rw [hn]; simp
    rw [e] at h2
    exact h2
  have hx := hu
  obtain ⟨ad2, c2, rfl, hr2, h1, h2, h3⟩ := hx
  have m1 : w.cell? ⟨g, n, none⟩ = some (.int .u8 165) := by
    have := own_cell8 hown n (by omega)
    rw [this]
    simp [hn]
  have m2 : w.cell? ⟨g, n + 1, none⟩ = some (.int .u8 90) := by
    have := own_cell8 hown (n + 1) (by omega)
    rw [this]
    simp [hn]
  subst hn
  have heq : (l == l) = true := by simp
  go_enter Try.func30, Try.ntmps30
  go_wp2_with (go_at_call 28; go_must (refine same_any _ _ l l _ hbs hu _ ?_))
  clear m1 m2 hu hbs hr2
  go_loopw [6] (fun i wr => ∃ k : Nat, k ≤ l.length ∧ i = .int .i64 k ∧ ∃ m : List UInt8, m.length = l.length + 2 ∧ wr.ownsRow base 5 1 (.slice (some ⟨g, 0, none⟩) (l.length + 2) c) (l.length + 2) (bv m) ∧ w.grownBy wr (some g)) (fun i _ => l.length - (intOf i).toNat)
  case atStart => exact ⟨0, Nat.zero_le _, rfl, _, hlen, hown, World.grownBy.refl _ _⟩
  case round =>
    obtain ⟨k, hk, rfl, m, hm, hown2, hg2⟩ := hrel
    have hml : l.length + 2 ≤ m.length := by omega
    by_cases hlt : k < l.length
    · have hkl : k < m.length := by omega
      have hcell := own_cell8 hown2 k hkl
      have hfz := hown2.frozenAt k
      have hst := own_store8 hown2 k (b8 (m[k].toNat + 77))
      rw [b8_toNat] at hst
      have hs1 := hst.1
      have hs2 := grownBy_trans hg2 hst.2
      have hm2 := hm
      rw [← List.length_set (i := k) (a := b8 (m[k].toNat + 77))] at hm2
      have HM := Lib.hid hm2
      clear hst hown hown2 hg2 hm hm2 hlen
      go_wp2
      go_roundw
      case rel => exact ⟨k + 1, by omega, by go_num, _, HM.out, hs1, hs2⟩
      case measure => simp [intOf]; omega
    · go_wp2
      exact hg2

/-- 'Within': n brought between lo and hi. -/
def within (n lo hi : Int) : Int := lo + n % (hi - lo + 1)

theorem within_bounds (n lo hi : Int) (h : lo ≤ hi) : lo ≤ within n lo hi ∧ within n lo hi ≤ hi := by
  unfold within
  have h1 := Int.emod_nonneg n (show hi - lo + 1 ≠ 0 by omega)
  have h2 := Int.emod_lt_of_pos n (show 0 < hi - lo + 1 by omega)
  omega

theorem within_tmod (n m : Int) (hm : 0 < m) : n % m = if n.tmod m < 0 then n.tmod m + m else n.tmod m := by
  rw [Int.tmod_eq_emod]
  have h1 := Int.emod_nonneg n (show m ≠ 0 by omega)
  have h2 := Int.emod_lt_of_pos n hm
  have e : (m.natAbs : Int) = m := by omega
  split <;> split <;> omega

end Go.Proofs.Ytpodgocmcnkfdaa
