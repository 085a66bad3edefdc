
import Derived.Test.YtpodhidabhnnnaaDoorGet
import Derived.Test.YtpodhidabhnnnaaDoorVarLaws
namespace Go.Proofs.YtpodhidabhnnnaaDoor
open Go.RowKit

theorem getU_putL (n x : Nat) (hn : n ≤ 8) (hx : x < 256 ^ n) : getU (putL x n) = x := by
  induction n generalizing x with
  | zero => simp at hx; subst hx; rfl
  | succ n ih =>
    have h1 : x / 256 < 256 ^ n := by rw [Nat.pow_succ] at hx; exact Nat.div_lt_of_lt_mul (by rw [Nat.mul_comm]; exact hx)
    have h2 : (256 : Nat) ^ (n + 1) ≤ 256 ^ 8 := Nat.pow_le_pow_right (by decide) hn
    have h3 : (b8 (x : Int)).toNat = x % 256 := by have := b8_toNat (x : Int); omega
    show getU (putL (x / 256) n ++ [b8 x]) = x
    rw [getU_snoc, ih _ (by omega) h1, h3]
    have : (256:Nat) ^ 8 = 18446744073709551616 := by decide
    rw [this] at h2
    have h4 := Nat.lt_of_lt_of_le hx h2
    omega

theorem getU_putW (x : Nat) (hx : x < 18446744073709551616) : getU (putW x 8) = x := by
  unfold putW
  rw [if_neg (by omega)]
  exact getU_putL 8 x (Nat.le_refl _) hx

theorem dataL_of (b : List UInt8) (h : b.length ≤ 65535) : dataL b = (putL b.length 2 ++ b, 0) := by unfold dataL; rw [if_neg (by omega)]
theorem getDataL_back' (p b t : List UInt8) (hl : p.length = 2) (hp : getU p = b.length) : getDataL (p ++ b ++ t) = (b, (b.length : Int) + 2, 0) := by
  have h1 : (p ++ b ++ t).take 2 = p := by
    rw [List.append_assoc, ← hl, List.take_left]
  unfold getDataL
  rw [h1, hp, if_neg (by simp only [List.length_append, hl]; omega)]
  have h3 : ((p ++ b ++ t).take (2 + b.length)).drop 2 = b := by
    have e : 2 + b.length = (p ++ b).length := by rw [List.length_append, hl]
    rw [e, List.take_left]
    conv => lhs; rw [← hl]
    exact List.drop_left
  rw [h3]
  congr 2
  omega
theorem getDataL_back (b t : List UInt8) (h : b.length ≤ 65535) : getDataL (putL b.length 2 ++ b ++ t) = (b, (b.length : Int) + 2, 0) :=
  getDataL_back' _ b t (putL_length _ _) (getU_putL 2 b.length (by omega) (by omega))
theorem textL_of (b : List UInt8) (h : b.length ≤ 65535) (ht : isTextL b = true) : textL b = (putL b.length 2 ++ b, 0) := by
  unfold textL
  rw [if_pos ht, dataL_of b h]
theorem textL_not (b : List UInt8) (ht : isTextL b = false) : textL b = ([], 13) := by
  unfold textL
  rw [ht]
  rfl
theorem getTextL_back (b t : List UInt8) (h : b.length ≤ 65535) (ht : isTextL b = true) : getTextL (putL b.length 2 ++ b ++ t) = (b, (b.length : Int) + 2, 0) := by
  unfold getTextL
  rw [getDataL_back b t h]
  simp [ht]
end Go.Proofs.YtpodhidabhnnnaaDoor
