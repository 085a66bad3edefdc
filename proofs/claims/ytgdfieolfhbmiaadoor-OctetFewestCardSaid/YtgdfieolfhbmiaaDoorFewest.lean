import Derived.Test.YtgdfieolfhbmiaaDoorWakes1
import Derived.Test.YtgdfieolfhbmiaaDoorVarLaws
namespace Go.Proofs.YtgdfieolfhbmiaaDoor
open Go.RowKit

set_option maxRecDepth 100000 in
set_option maxHeartbeats 4000000 in
theorem fewest_any (n : Int) (v : Value) (b : List UInt8) (w : World) (hv : Bs w v b) (hT : Tabs w) (R : Ending → World → Prop)
    (hR : ∀ w', Below w.heap.size w w' → R (.returned (.bool true)) w') :
    Calls Tryd.prog 4 #[.int .i64 n, v] w R := by
  obtain ⟨N, hN⟩ := Int.eq_ofNat_of_zero_le (within_bounds n 0 268435455 (by omega)).1
  have hN2 : N < 268435456 := by have := (within_bounds n 0 268435455 (by omega)).2; omega
  have HN := Lib.hid hN
  clear hN
  obtain ⟨V, hV⟩ : ∃ V, V = varL N := ⟨_, rfl⟩
  have HV := Lib.hid hV
  have hVl : 1 ≤ V.length ∧ V.length ≤ 4 := by rw [hV]; exact varF_length 3 N
  have HR1 : Hid (varR (N : Int) = (V, 0)) := by rw [hV]; exact varR_of N hN2
  clear hV
  have hv' := hv
  obtain ⟨ad, c, rfl, hr, hc, hm, hnil⟩ := hv'
  clear hr
  go_enter Tryd.func4, Tryd.ntmps4
  go_wp2_with (go_at_call 17; go_must (refine within_any n 0 268435455 _ (by omega) (by omega) (by omega) _ ?_))
  rw [HN.out]
  go_wp2_with (go_at_call 18; go_must (refine var_any (N : Int) V 0 HR1.out _ _ ?_))
  intro ad1 c1 w1 hown1 hb1
  have hbsV := (bs_of_owns hown1).2
  have hv1 := hv.below hb1
  have hT1 := hT.below hb1
  clear hown1 hT hv
  go_wp2_with fail
  go_loop [7, 8] (fun s x => ∃ f cur : Nat, cur < 128 ^ (f + 1) ∧ cur < 268435456 ∧ x = .int .i64 cur ∧ ∃ sz : Nat, 1 ≤ sz ∧ Hid (sz + (varF f cur).length = V.length + 1) ∧ sz ≤ 4 ∧ s = .int .i64 sz) (fun _ x => (intOf x).toNat)
  case atStart => exact ⟨3, N, by omega, hN2, rfl, 1, by omega, by rw [HV.out]; unfold varL; exact Nat.add_comm 1 _, by omega, rfl⟩
  case round =>
    obtain ⟨f, cur, hf, hc2, rfl, sz, hsz1, hsz, hsz4, rfl⟩ := hrel
    by_cases hlt : cur < 128
    · have hs : sz = V.length := by
        have := hsz.out
        rw [varF_small f cur hlt] at this
        simpa using this
      subst hs
      clear hsz hf
      go_wp2_with (go_at_call 19; go_in)
      go_loop [9] (fun i => ∃ k : Nat, k ≤ V.length ∧ i = .int .i64 k) (fun i => V.length - (intOf i).toNat)
      case atStart => exact ⟨0, Nat.zero_le _, rfl⟩
      case round =>
        obtain ⟨k, hk, rfl⟩ := hrel
        by_cases hlt2 : k < V.length
        · have hbk := hbsV.cut (k := k) (by omega)
          have hgk : Hid (gvL (V.take k) = (0, 0, 11)) := by
            have h := hlt2
            rw [HV.out] at h ⊢
            exact gvL_take N k hN2 h
          have hcap := hbsV.parts.2.2.1
          have hcap2 := hbsV.parts.2.2.2.1
          clear hbsV
          go_wp2_with (first | (go_at_call 19; go_in) | (go_at_call 20; go_must (refine getvar_any _ _ 0 0 11 hgk.out _ hbk _ ?_)))
          go_round
          case rel => exact ⟨k + 1, by omega, by go_num⟩
          case measure => simp [intOf]; omega
        · obtain ⟨l, hl⟩ : ∃ l, b.take (6 : Int).toNat = l := ⟨_, rfl⟩
          have HL := Lib.hid hl
          obtain ⟨⟨m, u, e⟩, hg⟩ : ∃ g, gvL l = g := ⟨_, rfl⟩
          have HG := Lib.hid hg
          have HE : Hid (e ≠ 0 → m = 0 ∧ u = 0) := gvL_err l m u e hg
          have HK : Hid (e = 0 → m < 268435456 ∧ u ≤ l.length ∧ varL m = l.take u) := by rintro rfl; exact gvL_ok l m u hg
          clear hl hg hbsV
          go_wp2_with (go_at_call 21; go_must (refine cut_any _ b l 6 HL.out _ hv1 (by omega) _ ?_))
          intro ad2 c2 hb2
          clear hv1 HL
          by_cases he : e = 0
          · subst he
            obtain ⟨hm2, hu, hvl⟩ := HK.out rfl
            have HVL : Hid (varR (m : Int) = (l.take u, 0)) := by rw [← hvl]; exact varR_of m hm2
            have hul : Hid ((l.take u).length = u) := by rw [List.length_take]; exact Lib.hid (Nat.min_eq_left hu)
            have hbu := hb2.cut (k := u) hu
            have hcap := hb2.parts.2.2.1
            have hcap2 := hb2.parts.2.2.2.1
            obtain ⟨q, hq⟩ : ∃ q, l.take u = q := ⟨_, rfl⟩
            rw [hq] at HVL hul hbu
            clear HK HE hvl hq
            go_wp2_with (first | (go_at_call 19; go_in) | (go_at_call 20; go_must (refine getvar_any _ _ m u 0 HG.out _ hb2 _ ?_)) | (go_at_call 18; go_must (refine var_any (m : Int) q 0 HVL.out _ _ ?_)))
            intro ad3 c3 w3 hown3 hb3
            have hbq := (bs_of_owns hown3).2
            have hbu3 := hbu.below hb3
            have hT3 := hT1.below hb3
            have hb4 := below_then hb1 hb3 hb1.size
            have hqq : (q == q) = true := by simp
            have hq2 : ((u : Int) == (q.length : Int)) = true := by rw [beq_iff_eq, hul.out]
            clear hown3 hbu hb1 hb3 hb2 hT1
            go_wp2_with (first | (go_at_call 19; go_in) | (go_at_call 13; go_must (refine same_any _ _ q q _ hbq hbu3 _ ?_)) | (go_at_call 16; go_must (refine wakes_any _ hT3 _ ?_)))
            intro w5 hb5
            have hb6 := below_then hb4 hb5 hb4.size
            go_wp2
            exact hb6
          · obtain ⟨rfl, rfl⟩ := HE.out he
            have he2 : ((e : Int) != 0) = true := by rw [bne_iff_ne]; omega
            clear HE HK
            go_wp2_with (first | (go_at_call 19; go_in) | (go_at_call 20; go_must (refine getvar_any _ _ 0 0 e HG.out _ hb2 _ ?_)) | (go_at_call 16; go_must (refine wakes_any _ hT1 _ ?_)))
            intro w5 hb5
            have hb6 := below_then hb1 hb5 hb1.size
            go_wp2
            exact hb6
    · cases f with
      | zero => omega
      | succ f =>
        have h2 := hsz.out
        rw [varF_big f cur hlt, List.length_cons] at h2
        have h3 := varF_length f (cur / 128)
        have HS : Hid (sz + 1 + (varF f (cur / 128)).length = V.length + 1) := by rw [← h2]; show _ = _; omega
        have hsz5 : sz + 1 ≤ 4 := by omega
        have hf2 : Hid (cur / 128 < 128 ^ (f + 1)) := by
          rw [Nat.pow_succ] at hf
          exact Nat.div_lt_of_lt_mul (by rw [Nat.mul_comm]; exact hf)
        clear h2 h3 hsz hf
        go_wp2
        go_round
        case rel => exact ⟨f, cur / 128, hf2.out, by omega, by go_num, sz + 1, by omega, HS, hsz5, by go_num⟩
        case measure => simp [intOf]; omega
end Go.Proofs.YtgdfieolfhbmiaaDoor
