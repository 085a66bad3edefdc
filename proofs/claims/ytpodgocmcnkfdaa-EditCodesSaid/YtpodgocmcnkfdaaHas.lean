/- Is a number among them? Walked. -/
import Derived.Test.YtpodgocmcnkfdaaAppP
import Derived.Test.YtpodgocmcnkfdaaIs
import Derived.Deep.LoopGhost
namespace Go.Proofs.Ytpodgocmcnkfdaa
open Go.RowKit

theorem hasI_succ (l : List Int) (n : Int) (k : Nat) (hk : k < l.length) : hasI (l.take (k + 1)) n = (hasI (l.take k) n || decide (l[k] = n)) := by
  unfold hasI
  rw [List.take_succ_eq_append_getElem hk, List.any_append]
  simp

set_option maxRecDepth 100000 in
set_option maxHeartbeats 1600000 in
theorem rhas_any (v : Value) (l : List Int) (n : Int) (t : Bool) (ht : hasI l n = t) (w : World) (hv : Is w v l) (R : Ending → World → Prop) (hR : R (.returned (.bool t)) w) :
    Calls Try.prog 37 #[v, .int .i64 n] w R := by
  have HR := Lib.hid hR
  have HT := Lib.hid ht
  have HV := Lib.hid hv
  have hlen := hv.len
  obtain ⟨va, vc, rfl, _⟩ := hv
  clear hR ht
  go_enter Try.func37, Try.ntmps37
  go_wp2
  go_loopg [5] l.length (fun gn i wr => ∃ k : Nat, k ≤ l.length ∧ gn = l.length - k ∧ i = .int .i64 k ∧ wr = w ∧ Hid (hasI (l.take k) n = false))
  case atStart => exact ⟨0, Nat.zero_le _, by omega, rfl, rfl, rfl⟩
  case round =>
    obtain ⟨k, hk, rfl, rfl, rfl, HF⟩ := hrel
    by_cases hlt : k < l.length
    · have hkk : (k : Int) < (l.length : Int) := by omega
      obtain ⟨b, o, rfl, hc⟩ := HV.out.at k hlt
      have hs := hasI_succ l n k hlt
      rw [HF.out] at hs
      obtain ⟨m, hm⟩ : ∃ m, l[k] = m := ⟨_, rfl⟩
      rw [hm] at hc hs
      have HS := Lib.hid hs
      have HM := Lib.hid hm
      clear hs hm
      by_cases h : m = n
      · subst h
        obtain rfl : t = true := by
          rw [← HT.out]
          exact (hasI_mem _ _).2 (by rw [← HM.out]; exact List.getElem_mem _)
        go_wp2
        exact HR.out
      · have hd : (m == n) = false := by simpa using h
        have hf : Hid (hasI (l.take (k + 1)) n = false) := by
          show _ = _
          rw [HS.out, decide_eq_false h]
          rfl
        clear h
        go_wp2
        go_roundg (l.length - (k + 1))
        case measure => omega
        case rel => exact ⟨k + 1, by omega, rfl, by go_num, rfl, hf⟩
    · have hkk : ¬ (k : Int) < (l.length : Int) := by omega
      obtain rfl : t = false := by rw [← HT.out, ← HF.out, List.take_of_length_le (by omega)]
      go_wp2
      exact HR.out

end Go.Proofs.Ytpodgocmcnkfdaa
