
import Derived.Test.YtpodhidabhnnnaaDoorCharLaws
namespace Go.Proofs.YtpodhidabhnnnaaDoor
open Go.RowKit

theorem str_get (l : List UInt8) (i : Nat) (h : i < l.length) : ((str l)[i]'(by rw [str_size]; exact h)).toNat = (l.getD i 0).toNat := by
  have e : (str l)[i]'(by rw [str_size]; exact h) = l[i] := rfl
  rw [e, List.getD_eq_getElem?_getD, List.getElem?_eq_getElem h]
  rfl

/-- What 'char' says: there is no character (0, 0), or which it is and how many bytes it takes. -/
def okChar (l : List UInt8) (c k : Nat) : Prop := (k = 0 ∧ c = 0 ∧ Lib.decodeL l = (65533, 1)) ∨ (0 < k ∧ Lib.decodeL l = (c, k) ∧ ¬ (c = 65533 ∧ k = 1))

set_option maxRecDepth 100000 in
set_option maxHeartbeats 8000000 in
theorem char_any (l : List UInt8) (hl0 : 0 < l.length) (hl : l.length ≤ 9223372036854775807) (w : World) (R : Ending → World → Prop)
    (hR : ∀ c k : Nat, okChar l c k → R (.returned (.tuple #[.int .i64 c, .int .i64 k])) w) :
    Calls Tryd.prog 77 #[.string (str l)] w R := by
  have hsz := str_size l
  have hdec := Lib.decodeL_N l
  have g0 := str_get l 0 hl0
  have g1 := str_get l 1
  have g2 := str_get l 2
  have g3 := str_get l 3
  obtain ⟨b0, hb0, k0⟩ : ∃ b, (l.getD 0 0).toNat = b ∧ b < 256 := ⟨_, rfl, (l.getD 0 0).toNat_lt⟩
  obtain ⟨b1, hb1, k1⟩ : ∃ b, (l.getD 1 0).toNat = b ∧ b < 256 := ⟨_, rfl, (l.getD 1 0).toNat_lt⟩
  obtain ⟨b2, hb2, k2⟩ : ∃ b, (l.getD 2 0).toNat = b ∧ b < 256 := ⟨_, rfl, (l.getD 2 0).toNat_lt⟩
  obtain ⟨b3, hb3, k3⟩ : ∃ b, (l.getD 3 0).toNat = b ∧ b < 256 := ⟨_, rfl, (l.getD 3 0).toNat_lt⟩
  rw [hb0] at g0
  rw [hb1] at g1
  rw [hb2] at g2
  rw [hb3] at g3
  rw [hb0, hb1, hb2, hb3] at hdec
  obtain ⟨n, hn⟩ : ∃ n, l.length = n := ⟨_, rfl⟩
  rw [hn] at hsz hdec hl
  clear hb0 hb1 hb2 hb3
  have HR : Hid (∀ c k : Nat, (k = 0 ∧ c = 0 ∧ Lib.decodeN n b0 b1 b2 b3 = (65533, 1)) ∨ (0 < k ∧ Lib.decodeN n b0 b1 b2 b3 = (c, k) ∧ ¬ (c = 65533 ∧ k = 1)) → R (.returned (.tuple #[.int .i64 c, .int .i64 k])) w) := by
    intro c k h
    rw [← hdec] at h
    exact hR c k h
  clear hR hdec
  by_cases q1 : b0 < 128
  · clear g1 g2 g3
    go_enter Tryd.func77, Tryd.ntmps77
    go_wp2
    exact HR.out b0 1 (.inr ⟨by decide, Lib.decodeN_ascii _ _ _ _ _ q1, by omega⟩)
  by_cases q2 : b0 < 192 ∨ 248 ≤ b0
  · clear g1 g2 g3
    rcases q2 with q2 | q2
    · go_enter Tryd.func77, Tryd.ntmps77
      go_wp2
      exact HR.out 0 0 (.inl ⟨rfl, rfl, dD _ _ _ _ _ (by omega) (.inl q2) k0⟩)
    · go_enter Tryd.func77, Tryd.ntmps77
      go_wp2
      exact HR.out 0 0 (.inl ⟨rfl, rfl, dD _ _ _ _ _ (by omega) (.inr q2) k0⟩)
  by_cases q3 : b0 < 224
  · by_cases hs : n ≤ 1
    · clear g1 g2 g3
      have hsi : (n : Int) ≤ 1 := by omega
      go_enter Tryd.func77, Tryd.ntmps77
      go_wp2
      exact HR.out 0 0 (.inl ⟨rfl, rfl, dA1 _ _ _ _ _ (by omega) hs⟩)
    have g1 := g1 (by omega)
    clear g2
    clear g3
    have hsi : ¬ ((n : Int) ≤ 1) := by omega
    go_enter Tryd.func77, Tryd.ntmps77
    go_wp2
    go_loop [4, 7] (fun x i => ∃ c j : Nat, x = .int .i64 c ∧ i = .int .i64 j ∧ c < 100000000 ∧ ((j = 1 ∧ c = (b0 - 192)) ∨ (j = 2 ∧ c = ((b0 - 192) * 64 + b1 - 128) ∧ (128 ≤ b1 ∧ b1 < 192)))) (fun _ i => 2 - (intOf i).toNat)
    case atStart => exact ⟨b0 - 192, 1, congrArg (Value.int .i64) (by omega), rfl, by omega, .inl ⟨rfl, rfl⟩⟩
    case round =>
      obtain ⟨c, j, rfl, rfl, hc8, hj⟩ := hrel
      rcases hj with ⟨rfl, hc⟩ | ⟨rfl, hc, m1⟩
      · by_cases ok : 128 ≤ b1 ∧ b1 < 192
        · obtain ⟨ok1, ok2⟩ := ok
          go_wp2
          go_round
          case rel => exact ⟨c * 64 + b1 - 128, 2, congrArg (Value.int .i64) (by omega), rfl, by omega, .inr (⟨rfl, by omega, ok1, ok2⟩)⟩
          case measure => simp [intOf]
        · replace ok : b1 < 128 ∨ 192 ≤ b1 := by omega
          rcases ok with ok | ok
          · go_wp2
            exact HR.out 0 0 (.inl ⟨rfl, rfl, dB1 _ _ _ _ _ (by omega) (by omega)⟩)
          · go_wp2
            exact HR.out 0 0 (.inl ⟨rfl, rfl, dB1 _ _ _ _ _ (by omega) (by omega)⟩)
      · have hend := dC1 n b0 b1 b2 b3 c (by omega) (by omega) m1 hc
        have HE := Lib.hid hend
        clear hend hc
        by_cases z1 : c < 128
        · go_wp2
          exact HR.out 0 0 (.inl ⟨rfl, rfl, HE.out.1 (.inl z1)⟩)
        by_cases z2 : 1114111 < c
        · go_wp2
          exact HR.out 0 0 (.inl ⟨rfl, rfl, HE.out.1 (.inr (.inl z2))⟩)
        by_cases z3 : 55296 ≤ c
        · by_cases z4 : c < 57344
          · go_wp2
            exact HR.out 0 0 (.inl ⟨rfl, rfl, HE.out.1 (.inr (.inr ⟨z3, z4⟩))⟩)
          · go_wp2
            exact HR.out c 2 (.inr ⟨by decide, HE.out.2 (by unfold badC; omega), by omega⟩)
        · go_wp2
          exact HR.out c 2 (.inr ⟨by decide, HE.out.2 (by unfold badC; omega), by omega⟩)
  by_cases q4 : b0 < 240
  · by_cases hs : n ≤ 2
    · clear g1 g2 g3
      have hsi : (n : Int) ≤ 2 := by omega
      go_enter Tryd.func77, Tryd.ntmps77
      go_wp2
      exact HR.out 0 0 (.inl ⟨rfl, rfl, dA2 _ _ _ _ _ (by omega) hs⟩)
    have g1 := g1 (by omega)
    have g2 := g2 (by omega)
    clear g3
    have hsi : ¬ ((n : Int) ≤ 2) := by omega
    go_enter Tryd.func77, Tryd.ntmps77
    go_wp2
    go_loop [4, 7] (fun x i => ∃ c j : Nat, x = .int .i64 c ∧ i = .int .i64 j ∧ c < 100000000 ∧ ((j = 1 ∧ c = (b0 - 224)) ∨ (j = 2 ∧ c = ((b0 - 224) * 64 + b1 - 128) ∧ (128 ≤ b1 ∧ b1 < 192)) ∨ (j = 3 ∧ c = (((b0 - 224) * 64 + b1 - 128) * 64 + b2 - 128) ∧ (128 ≤ b1 ∧ b1 < 192) ∧ (128 ≤ b2 ∧ b2 < 192)))) (fun _ i => 3 - (intOf i).toNat)
    case atStart => exact ⟨b0 - 224, 1, congrArg (Value.int .i64) (by omega), rfl, by omega, .inl ⟨rfl, rfl⟩⟩
    case round =>
      obtain ⟨c, j, rfl, rfl, hc8, hj⟩ := hrel
      rcases hj with ⟨rfl, hc⟩ | ⟨rfl, hc, m1⟩ | ⟨rfl, hc, m1, m2⟩
      · by_cases ok : 128 ≤ b1 ∧ b1 < 192
        · obtain ⟨ok1, ok2⟩ := ok
          go_wp2
          go_round
          case rel => exact ⟨c * 64 + b1 - 128, 2, congrArg (Value.int .i64) (by omega), rfl, by omega, .inr (.inl ⟨rfl, by omega, ok1, ok2⟩)⟩
          case measure => simp [intOf]
        · replace ok : b1 < 128 ∨ 192 ≤ b1 := by omega
          rcases ok with ok | ok
          · go_wp2
            exact HR.out 0 0 (.inl ⟨rfl, rfl, dB2 _ _ _ _ _ (by omega) (by omega)⟩)
          · go_wp2
            exact HR.out 0 0 (.inl ⟨rfl, rfl, dB2 _ _ _ _ _ (by omega) (by omega)⟩)
      · by_cases ok : 128 ≤ b2 ∧ b2 < 192
        · obtain ⟨ok1, ok2⟩ := ok
          go_wp2
          go_round
          case rel => exact ⟨c * 64 + b2 - 128, 3, congrArg (Value.int .i64) (by omega), rfl, by omega, .inr (.inr (⟨rfl, by omega, m1, ok1, ok2⟩))⟩
          case measure => simp [intOf]
        · replace ok : b2 < 128 ∨ 192 ≤ b2 := by omega
          rcases ok with ok | ok
          · go_wp2
            exact HR.out 0 0 (.inl ⟨rfl, rfl, dB2 _ _ _ _ _ (by omega) (by omega)⟩)
          · go_wp2
            exact HR.out 0 0 (.inl ⟨rfl, rfl, dB2 _ _ _ _ _ (by omega) (by omega)⟩)
      · have hend := dC2 n b0 b1 b2 b3 c (by omega) (by omega) m1 m2 hc
        have HE := Lib.hid hend
        clear hend hc
        by_cases z1 : c < 2048
        · go_wp2
          exact HR.out 0 0 (.inl ⟨rfl, rfl, HE.out.1 (.inl z1)⟩)
        by_cases z2 : 1114111 < c
        · go_wp2
          exact HR.out 0 0 (.inl ⟨rfl, rfl, HE.out.1 (.inr (.inl z2))⟩)
        by_cases z3 : 55296 ≤ c
        · by_cases z4 : c < 57344
          · go_wp2
            exact HR.out 0 0 (.inl ⟨rfl, rfl, HE.out.1 (.inr (.inr ⟨z3, z4⟩))⟩)
          · go_wp2
            exact HR.out c 3 (.inr ⟨by decide, HE.out.2 (by unfold badC; omega), by omega⟩)
        · go_wp2
          exact HR.out c 3 (.inr ⟨by decide, HE.out.2 (by unfold badC; omega), by omega⟩)
  by_cases hs : n ≤ 3
  · clear g1 g2 g3
    have hsi : (n : Int) ≤ 3 := by omega
    go_enter Tryd.func77, Tryd.ntmps77
    go_wp2
    exact HR.out 0 0 (.inl ⟨rfl, rfl, dA3 _ _ _ _ _ (by omega) hs⟩)
  have g1 := g1 (by omega)
  have g2 := g2 (by omega)
  have g3 := g3 (by omega)
  have hsi : ¬ ((n : Int) ≤ 3) := by omega
  go_enter Tryd.func77, Tryd.ntmps77
  go_wp2
  go_loop [4, 7] (fun x i => ∃ c j : Nat, x = .int .i64 c ∧ i = .int .i64 j ∧ c < 100000000 ∧ ((j = 1 ∧ c = (b0 - 240)) ∨ (j = 2 ∧ c = ((b0 - 240) * 64 + b1 - 128) ∧ (128 ≤ b1 ∧ b1 < 192)) ∨ (j = 3 ∧ c = (((b0 - 240) * 64 + b1 - 128) * 64 + b2 - 128) ∧ (128 ≤ b1 ∧ b1 < 192) ∧ (128 ≤ b2 ∧ b2 < 192)) ∨ (j = 4 ∧ c = ((((b0 - 240) * 64 + b1 - 128) * 64 + b2 - 128) * 64 + b3 - 128) ∧ (128 ≤ b1 ∧ b1 < 192) ∧ (128 ≤ b2 ∧ b2 < 192) ∧ (128 ≤ b3 ∧ b3 < 192)))) (fun _ i => 4 - (intOf i).toNat)
  case atStart => exact ⟨b0 - 240, 1, congrArg (Value.int .i64) (by omega), rfl, by omega, .inl ⟨rfl, rfl⟩⟩
  case round =>
    obtain ⟨c, j, rfl, rfl, hc8, hj⟩ := hrel
    rcases hj with ⟨rfl, hc⟩ | ⟨rfl, hc, m1⟩ | ⟨rfl, hc, m1, m2⟩ | ⟨rfl, hc, m1, m2, m3⟩
    · by_cases ok : 128 ≤ b1 ∧ b1 < 192
      · obtain ⟨ok1, ok2⟩ := ok
        go_wp2
        go_round
        case rel => exact ⟨c * 64 + b1 - 128, 2, congrArg (Value.int .i64) (by omega), rfl, by omega, .inr (.inl ⟨rfl, by omega, ok1, ok2⟩)⟩
        case measure => simp [intOf]
      · replace ok : b1 < 128 ∨ 192 ≤ b1 := by omega
        rcases ok with ok | ok
        · go_wp2
          exact HR.out 0 0 (.inl ⟨rfl, rfl, dB3 _ _ _ _ _ (by omega) (by omega)⟩)
        · go_wp2
          exact HR.out 0 0 (.inl ⟨rfl, rfl, dB3 _ _ _ _ _ (by omega) (by omega)⟩)
    · by_cases ok : 128 ≤ b2 ∧ b2 < 192
      · obtain ⟨ok1, ok2⟩ := ok
        go_wp2
        go_round
        case rel => exact ⟨c * 64 + b2 - 128, 3, congrArg (Value.int .i64) (by omega), rfl, by omega, .inr (.inr (.inl ⟨rfl, by omega, m1, ok1, ok2⟩))⟩
        case measure => simp [intOf]
      · replace ok : b2 < 128 ∨ 192 ≤ b2 := by omega
        rcases ok with ok | ok
        · go_wp2
          exact HR.out 0 0 (.inl ⟨rfl, rfl, dB3 _ _ _ _ _ (by omega) (by omega)⟩)
        · go_wp2
          exact HR.out 0 0 (.inl ⟨rfl, rfl, dB3 _ _ _ _ _ (by omega) (by omega)⟩)
    · by_cases ok : 128 ≤ b3 ∧ b3 < 192
      · obtain ⟨ok1, ok2⟩ := ok
        go_wp2
        go_round
        case rel => exact ⟨c * 64 + b3 - 128, 4, congrArg (Value.int .i64) (by omega), rfl, by omega, .inr (.inr (.inr (⟨rfl, by omega, m1, m2, ok1, ok2⟩)))⟩
        case measure => simp [intOf]
      · replace ok : b3 < 128 ∨ 192 ≤ b3 := by omega
        rcases ok with ok | ok
        · go_wp2
          exact HR.out 0 0 (.inl ⟨rfl, rfl, dB3 _ _ _ _ _ (by omega) (by omega)⟩)
        · go_wp2
          exact HR.out 0 0 (.inl ⟨rfl, rfl, dB3 _ _ _ _ _ (by omega) (by omega)⟩)
    · have hend := dC3 n b0 b1 b2 b3 c (by omega) (by omega) m1 m2 m3 hc
      have HE := Lib.hid hend
      clear hend hc
      by_cases z1 : c < 65536
      · go_wp2
        exact HR.out 0 0 (.inl ⟨rfl, rfl, HE.out.1 (.inl z1)⟩)
      by_cases z2 : 1114111 < c
      · go_wp2
        exact HR.out 0 0 (.inl ⟨rfl, rfl, HE.out.1 (.inr (.inl z2))⟩)
      by_cases z3 : 55296 ≤ c
      · by_cases z4 : c < 57344
        · go_wp2
          all_goals exact HR.out 0 0 (.inl ⟨rfl, rfl, HE.out.1 (.inr (.inr ⟨z3, z4⟩))⟩)
        · go_wp2
          exact HR.out c 4 (.inr ⟨by decide, HE.out.2 (by unfold badC; omega), by omega⟩)
      · go_wp2
        all_goals exact HR.out c 4 (.inr ⟨by decide, HE.out.2 (by unfold badC; omega), by omega⟩)
end Go.Proofs.YtpodhidabhnnnaaDoor
