
import Derived.Test.YtpodgocmcnkfdaaBook
namespace Go.Proofs.Ytpodgocmcnkfdaa
open Go.RowKit

set_option maxRecDepth 100000 in
set_option maxHeartbeats 4000000 in
theorem look_any (B K : Nat) (vs us : List Value) (ps : List (List UInt8)) (w : World) (hB : Bk 69 39 5 w B K vs us ps) (R : Ending → World → Prop)
    (hR : ∀ w', Below w.heap.size w w' → R (.returned (.bool true)) w') :
    Calls Try.prog 58 #[.pointer (some ⟨K, 0, none⟩)] w R := by
  have HB := Lib.hid hB
  obtain ⟨hKB, ⟨v0, v1, h0, h1, h2, h3⟩, he, ha, ha2⟩ := hB
  obtain ⟨a0, c0, rfl⟩ := owns_shape h1
  obtain ⟨a1, c1, rfl⟩ := owns_shape h2
  have hKlt : K < w.heap.size := (Array.getElem?_eq_some_iff.1 h0).1
  have hcell : ∀ (wx : World), Below w.heap.size w wx → wx.cell? ⟨K, 0, none⟩ = some (.slice a0 ps.length c0) ∧ wx.cell? ⟨K, 1, none⟩ = some (.slice a1 ps.length c1) ∧ wx.cell? ⟨K, 2, none⟩ = some (.slice none 0 0) ∧ wx.cell? ⟨K, 3, none⟩ = some (.slice none 0 0) ∧ wx.cell? ⟨K, 4, none⟩ = some (.slice none 0 0) ∧ wx.cell? ⟨K, 5, none⟩ = some (.slice none 0 0) := by
    intro wx hb
    have hx : wx.heap[K]? = some (.cells (BkCells (.slice a0 ps.length c0) (.slice a1 ps.length c1)) 69 (0, 0)) := (hb.block K hKlt).trans h0
    exact ⟨cell_of_row wx K 0 _ _ _ hx, cell_of_row wx K 1 _ _ _ hx, cell_of_row wx K 2 _ _ _ hx, cell_of_row wx K 3 _ _ _ hx, cell_of_row wx K 4 _ _ _ hx, cell_of_row wx K 5 _ _ _ hx⟩
  have HC := Lib.hid hcell
  have hcap0 := owns_cap h1
  have hcap1 := owns_cap h2
  unfold maxLen at hcap0
  have H1 := Lib.hid h1
  have H2 := Lib.hid h2
  have HE := Lib.hid he
  clear hcell h1 h2 he ha ha2 h0 h3 hcap1
  go_enter Try.func58, Try.ntmps58
  go_wp2
  go_loopw [3] (fun i wr => ∃ k : Nat, k ≤ ps.length ∧ i = .int .i64 k ∧ Below w.heap.size w wr) (fun i _ => ps.length - (intOf i).toNat)
  case atStart => exact ⟨0, Nat.zero_le _, rfl, Below.refl _ _⟩
  case round =>
    obtain ⟨k, hk, rfl, hb⟩ := hrel
    obtain ⟨q0, q1, q2, q3, q4, q5⟩ := HC.out wr hb
    by_cases hlt : k < ps.length
    · obtain ⟨v, u, e1, e2, e3, e4⟩ := HE.out k hlt
      obtain ⟨g0, rfl⟩ := owns_head H1.out (by omega)
      obtain ⟨g1, rfl⟩ := owns_head H2.out (by omega)
      have r0 := (owns_below H1.out hb).cellAt k (by omega)
      have r1 := (owns_below H2.out hb).cellAt k (by omega)
      rw [e1] at r0
      rw [e2] at r1
      obtain ⟨p, hp⟩ : ∃ p, p = ps[k] := ⟨_, rfl⟩
      rw [← hp] at e3 e4
      obtain ⟨av, cv, rfl⟩ := owns_shape e3
      obtain ⟨au, cu, rfl⟩ := owns_shape e4
      have hbv := (bs_of_owns (owns_below e3 hb)).2
      have hbu := (bs_of_owns (owns_below e4 hb)).2
      have hkk : (k : Int) < (ps.length : Int) := by omega
      have hpp : (p == p) = true := by simp
      clear e1 e2 e3 e4 q2 q3 q4 q5 hp
      go_wp2
      go_still_tail 14, (by kernel_rfl)
      change wpList _ _ _ _ _ wr.drew
      have hb2 := hb.drew
      have hbv2 := hbv.drew
      have hbu2 := hbu.drew
      generalize wr.drew = w2 at hb2 hbv2 hbu2
      clear q0 q1 r0 r1 hbv hbu hb
      go_wp2_with (go_at_call 28; go_must (refine same_any _ _ p p _ hbv2 hbu2 _ ?_))
      go_roundw
      case rel => exact ⟨k + 1, by omega, by go_num, hb2⟩
      case measure => simp [intOf]; omega
    · have hkk : ¬ (k : Int) < (ps.length : Int) := by omega
      go_wp2
      go_loop [4] (fun i => i = .int .i64 0) (fun _ => 0)
      case atStart => rfl
      case round =>
        obtain rfl := hrel
        go_wp2
        go_loop [5] (fun i => i = .int .i64 0) (fun _ => 0)
        case atStart => rfl
        case round =>
          obtain rfl := hrel
          go_wp2
end Go.Proofs.Ytpodgocmcnkfdaa
