
import Derived.Test.YtbfelcgjocpgaaaDoorRef22
namespace Go.Proofs.YtbfelcgjocpgaaaDoor
open Go.RowKit

theorem twiceL_step (us : List (List UInt8 × List UInt8)) (n : List UInt8) (j : Nat) (h : j < us.length) : twiceL (us.take (j + 1)) n = (twiceL (us.take j) n || us[j].1 == n) := by
  unfold twiceL
  rw [List.take_succ_eq_append_getElem h, List.any_append]
  simp
theorem twiceL_mono (us : List (List UInt8 × List UInt8)) (n : List UInt8) (j k : Nat) (h : j < k) (hk : k ≤ us.length) (e : (us[j]'(by omega)).1 == n) : twiceL (us.take k) n = true := by
  unfold twiceL
  rw [List.any_eq_true]
  refine ⟨us[j]'(by omega), ?_, e⟩
  rw [List.mem_iff_getElem]
  exact ⟨j, by rw [List.length_take]; omega, by rw [List.getElem_take]⟩

set_option maxRecDepth 100000 in
set_option maxHeartbeats 4000000 in
theorem rcheck_any (og : Int) (bo : Bool) (uv : Value) (us : List (List UInt8 × List UInt8)) (t : Bool) (ht : checkL og us = t) (w : World) (hu : Us w uv us) (R : Ending → World → Prop)
    (hR : ∀ w', Below w.heap.size w w' → R (.returned (.bool t)) w') :
    Calls Tryd.prog 11 #[.agg #[.int .i64 og, .bool bo, uv]] w R := by
  have hu' := hu
  obtain ⟨ad, c, rfl, h1, h2, h3, h4⟩ := hu'
  clear h4
  by_cases hg : 1 ≤ og ∧ og ≤ 255 ∧ us.length ≤ 8
  · obtain ⟨g1, g2, g3⟩ := hg
    have hst0 : Hid (ckF (us.take 0) (us.drop 0) = t) := by
      show _ = t
      rw [← ht]
      unfold checkL
      rw [decide_eq_true ⟨g1, g2, g3⟩]
      simp
    have HU := Lib.hid hu
    clear ht hu
    go_enter Tryd.func11, Tryd.ntmps11
    go_wp2
    have hb1 := (Below.refl w.heap.size w).alloc (Nat.le_refl _) (Obj.cells #[Value.int IntKind.i64 og, Value.bool bo, Value.slice ad us.length c] 24)
    have q9 : (w.alloc (Obj.cells #[Value.int IntKind.i64 og, Value.bool bo, Value.slice ad us.length c] 24)).cell? ⟨w.heap.size, 2, none⟩ = some (Value.slice ad us.length c) := cell_of_row _ w.heap.size 2 _ _ _ (heap_alloc_new w _)
    generalize w.alloc (Obj.cells #[Value.int IntKind.i64 og, Value.bool bo, Value.slice ad us.length c] 24) = w1 at hb1 q9 ⊢
    have HQ9 := Lib.hid q9
    clear q9
    go_loopw [3, 4, 5] (fun i _ _ wr => ∃ k : Nat, k ≤ us.length ∧ i = .int .i64 k ∧ Below w1.heap.size w1 wr ∧ Hid (ckF (us.take k) (us.drop k) = t)) (fun i _ _ _ => us.length - (intOf i).toNat)
    case atStart => exact ⟨0, Nat.zero_le _, rfl, Below.refl _ _, hst0⟩
    case round =>
      obtain ⟨k, hk, rfl, hb, hlk⟩ := hrel
      have hz1 := hb1.size
      have hz := hb.size
      have hbb := below_then hb1 hb hz1
      have hzw := hbb.size
      have q9 := cell_later hb HQ9.out
      clear hst0
      by_cases hlt : k < us.length
      · have hkk : (k : Int) < (us.length : Int) := by omega
        have hUw := HU.out.below hbb
        obtain ⟨ad', c', e, _, _, _, h4⟩ := hUw
        simp only [Value.slice.injEq] at e
        obtain ⟨rfl, -, rfl⟩ := e
        obtain ⟨b, o, rfl, h5⟩ := h4 (by omega)
        obtain ⟨q0, q1, s, q2, q3⟩ := h5 k hlt
        obtain ⟨sa, sc, rfl, _, _, _, _⟩ := q3
        obtain ⟨N, hN⟩ : ∃ N, us[k].1 = N := ⟨_, rfl⟩
        obtain ⟨S, hS⟩ : ∃ S, us[k].2 = S := ⟨_, rfl⟩
        have hst := ckF_step us k hlt
        rw [hlk.out] at hst
        unfold okU at hst
        rw [hN, hS] at hst
        rw [hN] at q0 q1
        rw [hS] at q2
        have H5 := Lib.hid h5
        clear h5 h4 hlk hN hS
        obtain ⟨tw, htw⟩ : ∃ x, twiceL (us.take k) N = x := ⟨_, rfl⟩
        obtain ⟨it, hit⟩ : ∃ x, isTextL N = x := ⟨_, rfl⟩
        rw [htw, hit] at hst
        have HST := Lib.hid hst
        have HTW := Lib.hid htw
        have HIT := Lib.hid hit
        have hms := str_size N
        have htext : ∀ w' R', R' (.returned (.bool it)) w' → Calls Tryd.prog 27 #[.string (str N)] w' R' := fun w' R' h => ristext_any N w' q0 R' (by rw [HIT.out]; exact h)
        have HTX := Lib.hid htext
        clear hst htw hit htext
        cases it with
        | false =>
          have hf : t = false := by rw [HST.out]; simp
          subst hf
          go_wp2_with (go_at_call 27; go_must (refine HTX.out _ _ ?_))
          all_goals exact hbb.alloc (by omega) _
        | true =>
          by_cases k1 : 1 ≤ N.length ∧ N.length ≤ 23 ∧ 1 ≤ S.length ∧ S.length ≤ 32
          · obtain ⟨l1, l2, l3, l4⟩ := k1
            have hn : Hid ((!tw && ckF (us.take (k + 1)) (us.drop (k + 1))) = t) := by
              show _ = t
              rw [HST.out]
              simp [l1, l2, l3, l4]
            clear HST
            go_wp2_with (go_at_call 27; go_must (refine HTX.out _ _ ?_))
            have hbc := hb.alloc hz (Obj.cells #[Value.string (str N), Value.slice sa S.length sc] 58)
            have p0 : (wr.alloc (Obj.cells #[Value.string (str N), Value.slice sa S.length sc] 58)).cell? ⟨wr.heap.size, 0, none⟩ = some (Value.string (str N)) := cell_of_row _ wr.heap.size 0 _ _ _ (heap_alloc_new wr _)
            obtain ⟨W0, hW0⟩ : ∃ x, wr.heap.size = x := ⟨_, rfl⟩
            rw [hW0] at p0 ⊢
            generalize wr.alloc (Obj.cells #[Value.string (str N), Value.slice sa S.length sc] 58) = w2 at hbc p0 ⊢
            have hzc := hbc.size
            have hbd := below_then hb1 hbc hz1
            have hzd := hbd.size
            have QC := Lib.hid (cell_later hbc HQ9.out)
            have P0 := Lib.hid p0
            clear q1 q2 q9 p0 hb hbb H5 hW0 hzw hz
            go_loopw [5] (fun j wi => ∃ i : Nat, i ≤ k ∧ j = .int .i64 i ∧ Below w2.heap.size w2 wi ∧ Hid (twiceL (us.take i) N = false)) (fun j _ => k - (intOf j).toNat)
            case atStart => exact ⟨0, Nat.zero_le _, rfl, Below.refl _ _, rfl⟩
            case round =>
              obtain ⟨i, hi, rfl, hbi, hli⟩ := hrel
              have hbj := below_then hbd hbi hzd
              have hzi := hbi.size
              have q9 := cell_later hbi QC.out
              have p0 := cell_later hbi P0.out
              by_cases hlt2 : i < k
              · have hii : (i : Int) < (k : Int) := by omega
                have hil : (i : Int) < (us.length : Int) := by omega
                have hUi := HU.out.below hbj
                obtain ⟨ad', c', e, _, _, _, h4⟩ := hUi
                simp only [Value.slice.injEq] at e
                obtain ⟨e1, -, e2⟩ := e
                subst e1 e2
                obtain ⟨b2, o2, e, h5⟩ := h4 (by omega)
                simp only [Option.some.injEq, Addr.mk.injEq, and_true] at e
                obtain ⟨rfl, rfl⟩ := e
                obtain ⟨r0, r1, _⟩ := h5 i (by omega)
                clear h4 h5
                obtain ⟨M, hM⟩ : ∃ M, us[i].1 = M := ⟨_, rfl⟩
                obtain ⟨v, hv⟩ : ∃ v, (M == N) = v := ⟨_, rfl⟩
                have hst := twiceL_step us N i (by omega)
                rw [hli.out, hM, hv, Bool.false_or] at hst
                have hmo := twiceL_mono us N i k hlt2 hk
                rw [hM, hv, HTW.out] at hmo
                have HS2 := Lib.hid hst
                have HMO := Lib.hid hmo
                rw [hM] at r0 r1
                clear hst hmo hM hli
                cases v with
                | true =>
                  have hf : t = false := by rw [← hn.out, HMO.out rfl]; rfl
                  subst hf
                  clear hn
                  go_wp2
                  go_quiet (fail)
                  go_wp2
                  all_goals exact below_drewN hbj
                | false =>
                  go_wp2
                  go_quiet (fail)
                  go_wp2
                  go_roundw
                  case rel => exact ⟨i + 1, by omega, by go_num, below_drewN hbi, HS2⟩
                  case measure => simp [intOf]; omega
              · have hii : ¬ ((i : Int) < (k : Int)) := by omega
                obtain rfl : i = k := by omega
                have hn2 : Hid (ckF (us.take (i + 1)) (us.drop (i + 1)) = t) := by
                  have h1 := hn.out
                  have h2 := hli.out
                  rw [HTW.out] at h2
                  rw [h2] at h1
                  simpa [Hid] using h1
                clear hn hli
                go_wp2
                go_roundw
                case rel => exact ⟨i + 1, by omega, by go_num, below_then hbc hbi hzc, hn2⟩
                case measure => simp [intOf]; omega
          · have hf : t = false := by
              rw [HST.out]
              cases tw <;> simp only [Bool.not_false, Bool.not_true, Bool.false_and, Bool.true_and]
              simp only [Bool.and_eq_false_imp, Bool.and_eq_true, decide_eq_true_eq]
              intro hh
              exact absurd ⟨hh.1.1.1, hh.1.1.2, hh.1.2, hh.2⟩ k1
            subst hf
            clear HST
            have k2 : N.length < 1 ∨ (1 ≤ N.length ∧ 23 < N.length) ∨ (1 ≤ N.length ∧ N.length ≤ 23 ∧ S.length < 1) ∨ (1 ≤ N.length ∧ N.length ≤ 23 ∧ 1 ≤ S.length ∧ 32 < S.length) := by omega
            clear k1
            rcases k2 with k2 | ⟨k2, k3⟩ | ⟨k2, k3, k4⟩ | ⟨k2, k3, k4, k5⟩
            all_goals
              go_wp2_with (go_at_call 27; go_must (refine HTX.out _ _ ?_))
              all_goals exact hbb.alloc (by omega) _
      · have hkk : ¬ ((k : Int) < (us.length : Int)) := by omega
        have ht : true = t := by rw [← hlk.out, List.drop_of_length_le (by omega)]; rfl
        subst ht
        clear hlk
        go_wp2
        all_goals exact hbb
  · have hf : t = false := by rw [← ht]; unfold checkL; rw [decide_eq_false hg]; rfl
    subst hf
    have hcase : og < 1 ∨ (1 ≤ og ∧ 255 < og) ∨ (1 ≤ og ∧ og ≤ 255 ∧ 8 < us.length) := by omega
    clear ht hg
    rcases hcase with h | ⟨h, h'⟩ | ⟨h, h', h''⟩
    all_goals
      go_enter Tryd.func11, Tryd.ntmps11
      go_wp2
      all_goals exact (Below.refl _ _).alloc (Nat.le_refl _) _
end Go.Proofs.YtbfelcgjocpgaaaDoor
