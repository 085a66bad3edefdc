/- Kinds and places of properties: the sets of places. -/
import Derived.Test.YtpodhidabhnnnaaDoorKeep
import Derived.Test.YtpodhidabhnnnaaDoorKindL
import Derived.Deep.RegionHeld
namespace Go.Proofs.YtpodhidabhnnnaaDoor
open Go.RowKit

set_option maxHeartbeats 400000 in
theorem at_any (ps : List Int) (z : Int) (hz : orL ps = z) (hp : ∀ p ∈ ps, 0 ≤ p ∧ p ≤ 64) (ad : Option Addr) (n c : Nat) (hn : n = ps.length) (hm : ps.length ≤ 1000) (w : World) (cs : List Value) (hr : Rd w 1 ad n cs) (hcs : cs = ps.map (Value.int .i64)) (R : Ending → World → Prop)
    (hR : R (.returned (.int .i64 z)) w) :
    Calls Tryd.prog 59 #[.slice ad n c] w R := by
  subst hz
  subst hn
  subst hcs
  go_enter Tryd.func59, Tryd.ntmps59
  go_wp2
  go_loop [3, 5, 8] (fun s _ i => ∃ k : Nat, k ≤ ps.length ∧ i = .int .i64 k ∧ ∃ z : Int, Hid (z = orL (ps.take k)) ∧ s = .int .i64 z) (fun _ _ i => ps.length - (intOf i).toNat)
  case atStart => exact ⟨0, Nat.zero_le _, rfl, 0, rfl, rfl⟩
  case round =>
    obtain ⟨k, hk, rfl, z, hz, rfl⟩ := hrel
    by_cases hlt : k < ps.length
    · have hkk : (k : Int) < (ps.length : Int) := by omega
      obtain ⟨b, o, rfl, hcell⟩ := hr.2 (by omega)
      have hck := hcell k (by omega)
      rw [List.getElem?_map, List.getElem?_eq_getElem hlt, Option.map_some] at hck
      obtain ⟨h0, h64⟩ := hp _ (List.getElem_mem hlt)
      have HG : Hid (bits .or .i64 z (wrap64 (2 ^ (ps[k]).toNat)) = orL (ps.take (k + 1))) := by rw [List.take_succ_eq_append_getElem hlt, orL_snoc, ← hz.out]; exact Lib.hid rfl
      obtain ⟨p, hpp⟩ : ∃ p, ps[k] = p := ⟨_, rfl⟩
      rw [hpp] at HG h0 h64 hck
      clear hcell hr hz hpp
      go_wp2
      go_round
      case rel => exact ⟨k + 1, by omega, by go_num, _, Lib.hid HG.out, by simp⟩
      case measure => simp [intOf]; omega
    · have hkk : ¬ (k : Int) < (ps.length : Int) := by omega
      have hf : z = orL ps := by rw [hz.out, List.take_of_length_le (by omega)]
      clear hz
      subst hf
      go_wp2
      exact hR
/-- 'at' at places that are written out. -/
theorem at_lit (ps : List Int) (z : Int) (hz : orL ps = z) (hp : ∀ p ∈ ps, 0 ≤ p ∧ p ≤ 64) (n : Nat) (hn : n = ps.length) (hm : ps.length ≤ 1000) (vs : Array Value) (hs : vs.toList = ps.map (Value.int .i64)) (t K : Nat) (w : World) (hK : K = w.heap.size) (R : Ending → World → Prop)
    (hR : R (.returned (.int .i64 z)) (w.alloc (.cells vs t))) :
    Calls Tryd.prog 59 #[.slice (some ⟨K, 0, none⟩) n n] (w.alloc (.cells vs t)) R := by
  subst hK
  refine at_any ps z hz hp _ n n hn hm _ vs.toList (rd_lit w vs t 1 n ?_) hs R hR
  have := congrArg List.length hs
  simp only [List.length_map] at this
  rw [Nat.mul_one, hn, ← this]
  simp
end Go.Proofs.YtpodhidabhnnnaaDoor
