/- The library's stable sort at tables: exchanges of ranges, rotations, walked. -/
import Derived.Test.YtpodgocmcnkfdaaSymP
import Derived.Test.YtpodgocmcnkfdaaPlcT
import Derived.Shelf.SlSortCmp.PdqK
import Derived.Deep.LoopGhost
import Derived.BigQuiet
namespace Go.Proofs.Ytpodgocmcnkfdaa
open Go.RowKit Go.Sort Go.Shelf

section
variable {α : Type} [Inhabited α]

/-- What a sort's walk is told of the elements' type: its size is k, a letter. -/
theorem size5 (w : World) : (Go.sizeOf 41).run Try.prog w = .ok 5 w := by kernel_rfl

set_option maxRecDepth 1000000 in
set_option maxHeartbeats 4000000 in
theorem swaprange_any (enc : α → List Value) (k : Nat) (hk5 : k = 5) (fv : Value) (blk off len cap a b n : Nat) (d0 d : Array α) (w0 w : World) (R0 : RowK enc k w0 blk off d0) (hs0 : d0.size = len) (hs : d.size = len) (S : SWK enc k w0 blk off d w) (hab : a + n ≤ b) (hb : b + n ≤ len) (hsz : len ≤ 1000000) (R : Ending → World → Prop)
    (hR : ∀ w', SWK enc k w0 blk off (swpN d a b n) w' → R (.returned (.tuple #[])) w') :
    Calls Try.prog 77 #[.slice (some ⟨blk, off, none⟩) len cap, .int .i64 a, .int .i64 b, .int .i64 n, fv] w R := by
  have HR := Lib.hid hR
  have S0 := Lib.hid S
  obtain ⟨Y, hY⟩ : ∃ Y, Go.sizeOf 41 = Y := ⟨_, rfl⟩
  have hYr : ∀ w, Sem.run Try.prog Y w = .ok k w := fun w => by rw [← hY, hk5]; exact size5 w
  clear hR S hk5
  go_enter Try.func77, Try.ntmps77
  go_wp2
  go_loopg [10] n (fun gn i wr => ∃ j : Nat, j ≤ n ∧ gn = n - j ∧ i = .int .i64 j ∧ Hid (SWK enc k w0 blk off (swpN d a b j) wr))
  case atStart => exact ⟨0, Nat.zero_le _, by omega, rfl, S0⟩
  case round =>
    obtain ⟨j, hj, rfl, rfl, S1⟩ := hrel
    clear S0
    by_cases hlt : j < n
    · have hjz : (j : Int) < (n : Int) := by omega
      go_wp2_with fail
      have hsz1 := size_swpN d a b j
      obtain ⟨x, hx⟩ : ∃ x, a + j = x := ⟨_, rfl⟩
      obtain ⟨y, hy⟩ : ∃ y, b + j = y := ⟨_, rfl⟩
      have ex : ((a : Int) + (j : Int)) = (x : Int) := by omega
      have ey : ((b : Int) + (j : Int)) = (y : Int) := by omega
      have wx : IntKind.i64.wrap (x : Int) = (x : Int) := by rw [IntKind.wrap_i64]; omega
      have wy : IntKind.i64.wrap (y : Int) = (y : Int) := by rw [IntKind.wrap_i64]; omega
      have bx : (x : Int) < (len : Int) := by omega
      have bz : (y : Int) < (len : Int) := by omega
      have px : (0 : Int) ≤ (x : Int) := by omega
      have py : (0 : Int) ≤ (y : Int) := by omega
      have tx : ((x : Int)).toNat = x := by omega
      have ty : ((y : Int)).toNat = y := by omega
      obtain ⟨dk, hdk⟩ : ∃ dk, swpN d a b j = dk := ⟨_, rfl⟩
      rw [hdk] at S1 hsz1
      have S2 := Lib.hid (S1.out.swapped R0 x y (by omega) (by omega))
      have l1 := S1.out.ld1 R0 (by omega) Try.prog x (by omega)
      have l2 := S1.out.ld1 R0 (by omega) Try.prog y (by omega)
      have s1 := S1.out.st1 R0 (by omega) Try.prog x (by omega) dk[y]!
      have s2 := S1.out.st2 R0 (by omega) Try.prog x y (by omega) (by omega) dk[y]! dk[x]!
      have n1 : (enc dk[x]!).length = k := R0.hk _
      have n2 : (enc dk[y]!).length = k := R0.hk _
      generalize enc dk[x]! = cI at S2 l1 s2 n1
      generalize enc dk[y]! = cJ at S2 l2 s1 s2 n2
      have HX := Lib.hid hx
      have HYY := Lib.hid hy
      have HDK := Lib.hid hdk
      clear S1 hx hy hdk
      go_big_region
      clear l1 l2 s1 s2
      generalize (wr.drew.setCells blk (off + x * k) cJ).setCells blk (off + y * k) cI = w2 at S2 ⊢
      go_wp2
      go_roundg (n - (j + 1))
      case measure => omega
      case rel =>
        refine ⟨j + 1, by omega, rfl, by go_num, ?_⟩
        rw [swpN, HDK.out, HX.out, HYY.out]
        exact S2
    · obtain rfl : j = n := by omega
      go_wp2
      go_end0
      exact HR.out _ S1.out

set_option maxRecDepth 1000000 in
set_option maxHeartbeats 4000000 in
theorem rotate_any (enc : α → List Value) (k : Nat) (hk5 : k = 5) (fv : Value) (blk off len cap a m b : Nat) (d0 d : Array α) (w0 w : World) (R0 : RowK enc k w0 blk off d0) (hs0 : d0.size = len) (hs : d.size = len) (S : SWK enc k w0 blk off d w) (ham : a < m) (hmb : m < b) (hb : b ≤ len) (hsz : len ≤ 1000000) (R : Ending → World → Prop)
    (hR : ∀ d' w', RotOf a m b d d' → SWK enc k w0 blk off d' w' → R (.returned (.tuple #[])) w') :
    Calls Try.prog 76 #[.slice (some ⟨blk, off, none⟩) len cap, .int .i64 a, .int .i64 m, .int .i64 b, fv] w R := by
  have HR := Lib.hid hR
  have S0 := Lib.hid S
  have e1 : (m : Int) - (a : Int) = ((m - a : Nat) : Int) := by omega
  have e2 : (b : Int) - (m : Int) = ((b - m : Nat) : Int) := by omega
  have w1 : IntKind.i64.wrap ((m - a : Nat) : Int) = ((m - a : Nat) : Int) := by rw [IntKind.wrap_i64]; omega
  have w2 : IntKind.i64.wrap ((b - m : Nat) : Int) = ((b - m : Nat) : Int) := by rw [IntKind.wrap_i64]; omega
  have hrel0 : Hid (∀ d', RotOf (m - (m - a)) m (m + (b - m)) d d' → RotOf a m b d d') := by
    intro d' h
    rw [show m - (m - a) = a by omega, show m + (b - m) = b by omega] at h
    exact h
  obtain ⟨i0, hi0⟩ : ∃ i, m - a = i := ⟨_, rfl⟩
  obtain ⟨j0, hj0⟩ : ∃ j, b - m = j := ⟨_, rfl⟩
  rw [hi0] at e1 w1 hrel0
  rw [hj0] at e2 w2 hrel0
  clear hR S
  go_enter Try.func76, Try.ntmps76
  go_wp2
  go_loopg [10, 11] (i0 + j0) (fun gn s10 s11 wr => ∃ (i j : Nat) (dk : Array α), s10 = .int .i64 i ∧ s11 = .int .i64 j ∧ 1 ≤ i ∧ 1 ≤ j ∧ i ≤ i0 ∧ j ≤ j0 ∧ i + j ≤ gn ∧ dk.size = len ∧ Hid (SWK enc k w0 blk off dk wr) ∧ Hid (∀ d', RotOf (m - i) m (m + j) dk d' → RotOf a m b d d'))
  case atStart => exact ⟨i0, j0, d, rfl, rfl, by omega, by omega, Nat.le_refl _, Nat.le_refl _, Nat.le_refl _, hs, S0, hrel0⟩
  case round =>
    obtain ⟨i, j, dk, rfl, rfl, hi1, hj1, hii, hjj, hgn, hds, S1, HRO⟩ := hrel
    clear S0 hrel0 e1 e2 w1 w2
    have f1 : (m : Int) - (i : Int) = ((m - i : Nat) : Int) := by omega
    have g1 : IntKind.i64.wrap ((m - i : Nat) : Int) = ((m - i : Nat) : Int) := by rw [IntKind.wrap_i64]; omega
    obtain ⟨x, hx⟩ : ∃ x, m - i = x := ⟨_, rfl⟩
    rw [hx] at f1 g1
    have HX := Lib.hid hx
    clear hx
    by_cases hij : i = j
    · subst hij
      go_wp2_with (go_at_call 77; go_must (refine swaprange_any enc k hk5 fv blk off len cap x m i d0 dk w0 _ R0 hs0 hds S1.out (by have := HX.out; omega) (by omega) hsz _ ?_); intro w5 S5)
      go_end0
      refine HR.out _ _ (HRO.out _ ?_) S5
      have := HX.out
      rw [← this]
      exact RotOf.same (by omega) (by omega)
    · have hnij : ¬ (i : Int) = (j : Int) := by omega
      have hdec : (i == j) = false := by simpa using hij
      by_cases hlt : j < i
      · have hltz : (j : Int) < (i : Int) := by omega
        go_wp2_with (go_at_call 77; go_must (refine swaprange_any enc k hk5 fv blk off len cap x m j d0 dk w0 _ R0 hs0 hds S1.out (by have := HX.out; omega) (by omega) hsz _ ?_); intro w5 S5)
        go_roundg (i - j + j)
        case measure => omega
        case rel =>
          refine ⟨i - j, j, _, by go_num, rfl, by omega, hj1, by omega, hjj, Nat.le_refl _, by rw [size_swpN]; exact hds, S5, fun d' h => HRO.out _ ?_⟩
          have hx := HX.out
          rw [show m - (i - j) = m - i + j by omega, ← hx] at h
          exact RotOf.left hlt (by omega) (by omega) h
      · have hltz : ¬ (j : Int) < (i : Int) := by omega
        have f2 : (m : Int) + (j : Int) - (i : Int) = ((m + j - i : Nat) : Int) := by omega
        have g2 : IntKind.i64.wrap ((m + j - i : Nat) : Int) = ((m + j - i : Nat) : Int) := by rw [IntKind.wrap_i64]; omega
        obtain ⟨y, hy⟩ : ∃ y, m + j - i = y := ⟨_, rfl⟩
        rw [hy] at f2 g2
        have HYY := Lib.hid hy
        clear hy
        go_wp2_with (go_at_call 77; go_must (refine swaprange_any enc k hk5 fv blk off len cap x y i d0 dk w0 _ R0 hs0 hds S1.out (by have := HX.out; have := HYY.out; omega) (by have := HYY.out; omega) hsz _ ?_); intro w5 S5)
        go_roundg (i + (j - i))
        case measure => omega
        case rel =>
          refine ⟨i, j - i, _, rfl, by go_num, hi1, by omega, hii, by omega, Nat.le_refl _, by rw [size_swpN]; exact hds, S5, fun d' h => HRO.out _ ?_⟩
          have hx := HX.out
          have hy := HYY.out
          rw [show m + (j - i) = m + j - i by omega, ← hx, ← hy] at h
          exact RotOf.right (by omega) (by omega) (by omega) h
end
end Go.Proofs.Ytpodgocmcnkfdaa
