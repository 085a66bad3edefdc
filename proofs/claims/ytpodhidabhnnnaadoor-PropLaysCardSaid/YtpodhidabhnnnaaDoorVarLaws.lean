
import Derived.Test.YtpodhidabhnnnaaDoorVar
namespace Go.Proofs.YtpodhidabhnnnaaDoor
open Go.RowKit

theorem b8_nat (n : Nat) (h : n < 256) : (b8 (n : Int)).toNat = n := by
  have := b8_toNat (n : Int)
  omega
theorem b8_of (c : UInt8) : b8 ((c.toNat : Nat) : Int) = c := by
  have h := c.toNat_lt
  apply UInt8.toNat_inj.1
  exact b8_nat _ (by omega)

theorem gvF_err (g i z : Nat) (l : List UInt8) (m u e : Nat) (h : gvF g i z l = (m, u, e)) (he : e ≠ 0) : m = 0 ∧ u = 0 := by
  induction g generalizing i z l with
  | zero => simp only [gvF, Prod.mk.injEq] at h; omega
  | succ g ih =>
    cases l with
    | nil => simp only [gvF, Prod.mk.injEq] at h; omega
    | cons c r =>
      simp only [gvF] at h
      split at h
      · split at h
        · simp only [Prod.mk.injEq] at h; omega
        · simp only [Prod.mk.injEq] at h; omega
      · exact ih _ _ _ h

theorem gvF_take (f g i z n k : Nat) (hn : n < 128 ^ (f + 1)) (hg : f + 1 ≤ g) (hk : k < (varF f n).length) : gvF g i z ((varF f n).take k) = (0, 0, 11) := by
  induction f generalizing g i z n k with
  | zero =>
    obtain rfl : k = 0 := by simpa [varF] using hk
    obtain ⟨g, rfl⟩ : ∃ g', g = g' + 1 := ⟨g - 1, by omega⟩
    rfl
  | succ f ih =>
    obtain ⟨g, rfl⟩ : ∃ g', g = g' + 1 := ⟨g - 1, by omega⟩
    cases k with
    | zero => rfl
    | succ k =>
      by_cases h : n < 128
      · rw [varF_small _ _ h] at hk
        simp at hk
      · rw [varF_big _ _ h] at hk ⊢
        have hc : (b8 ((n % 128 + 128 : Nat) : Int)).toNat = n % 128 + 128 := b8_nat _ (by omega)
        rw [List.take_succ_cons, gvF, if_neg (by omega)]
        refine ih g (i + 1) _ (n / 128) k ?_ (by omega) (by simpa using hk)
        rw [Nat.pow_succ] at hn
        exact Nat.div_lt_of_lt_mul (by rw [Nat.mul_comm]; exact hn)

theorem gvF_back (f g i z n : Nat) (t : List UInt8) (hn : n < 128 ^ (f + 1)) (hg : f + 1 ≤ g) (h0 : 0 < n ∨ i = 0) :
    gvF g i z (varF f n ++ t) = (z + n * 128 ^ i, i + (varF f n).length, 0) := by
  induction f generalizing g i z n with
  | zero =>
    obtain ⟨g, rfl⟩ : ∃ g', g = g' + 1 := ⟨g - 1, by omega⟩
    have hn' : n < 128 := by simpa using hn
    have hc : (b8 (n : Int)).toNat = n := b8_nat _ (by omega)
    simp only [varF, List.cons_append, List.nil_append, gvF, hc]
    rw [if_pos hn', if_neg (by omega), Nat.mod_eq_of_lt hn']
    rfl
  | succ f ih =>
    obtain ⟨g, rfl⟩ : ∃ g', g = g' + 1 := ⟨g - 1, by omega⟩
    by_cases h : n < 128
    · have hc : (b8 (n : Int)).toNat = n := b8_nat _ (by omega)
      rw [varF_small _ _ h]
      simp only [List.cons_append, List.nil_append, gvF, hc]
      rw [if_pos h, if_neg (by omega), Nat.mod_eq_of_lt h]
      rfl
    · have hc : (b8 ((n % 128 + 128 : Nat) : Int)).toNat = n % 128 + 128 := b8_nat _ (by omega)
      rw [varF_big _ _ h]
      simp only [List.cons_append, gvF, hc]
      rw [if_neg (by omega), ih g (i + 1) _ (n / 128) (by rw [Nat.pow_succ] at hn; exact Nat.div_lt_of_lt_mul (by rw [Nat.mul_comm]; exact hn)) (by omega) (by left; omega)]
      have e1 : (n % 128 + 128) % 128 = n % 128 := by omega
      rw [e1]
      have e2 : z + n % 128 * 128 ^ i + n / 128 * 128 ^ (i + 1) = z + n * 128 ^ i := by
        rw [Nat.pow_succ, Nat.mul_comm (128 ^ i) 128, ← Nat.mul_assoc, Nat.add_assoc, ← Nat.add_mul]
        congr 2
        omega
      rw [e2, List.length_cons]
      congr 2
      omega

theorem gvF_ok (g i z : Nat) (l : List UInt8) (m u : Nat) (h : gvF g i z l = (m, u, 0)) :
    ∃ n k, m = z + n * 128 ^ i ∧ u = i + k ∧ k ≤ l.length ∧ n < 128 ^ g ∧ varF (g - 1) n = l.take k ∧ (0 < i → 0 < n) := by
  induction g generalizing i z l with
  | zero => simp only [gvF, Prod.mk.injEq] at h; omega
  | succ g ih =>
    cases l with
    | nil => simp only [gvF, Prod.mk.injEq] at h; omega
    | cons c r =>
      simp only [gvF] at h
      split at h
      · rename_i hc
        split at h
        · simp only [Prod.mk.injEq] at h; omega
        · rename_i hc0
          simp only [Prod.mk.injEq] at h
          refine ⟨c.toNat, 1, ?_, by omega, by simp, ?_, ?_, by omega⟩
          · rw [← h.1, Nat.mod_eq_of_lt hc]
          · exact Nat.lt_of_lt_of_le hc (by rw [Nat.pow_succ]; exact Nat.le_mul_of_pos_left _ (Nat.pow_pos (by decide)))
          · rw [varF_small _ _ hc, b8_of]
            rfl
      · rename_i hc
        obtain ⟨n, k, h1, h2, h3, h4, h5, h6⟩ := ih _ _ _ h
        have hn0 := h6 (by omega)
        have hcb := c.toNat_lt
        refine ⟨c.toNat % 128 + 128 * n, k + 1, ?_, by omega, by simpa using h3, ?_, ?_, by omega⟩
        · rw [h1, Nat.pow_succ, Nat.add_mul, Nat.add_assoc]
          congr 2
          rw [Nat.mul_comm (128 ^ i) 128, ← Nat.mul_assoc, Nat.mul_comm n 128]
        · rw [Nat.pow_succ]
          omega
        · cases g with
          | zero => simp only [gvF, Prod.mk.injEq] at h; omega
          | succ g =>
            simp only [Nat.add_sub_cancel] at h5 ⊢
            rw [varF_big _ _ (by omega), show (c.toNat % 128 + 128 * n) / 128 = n by omega, h5, show (c.toNat % 128 + 128 * n) % 128 + 128 = c.toNat by omega, b8_of]
            rfl

/-- A number that was laid is read again, with anything behind. -/
theorem gvL_back (n : Nat) (hn : n < 268435456) (t : List UInt8) : gvL (varL n ++ t) = (n, (varL n).length, 0) := by
  have := gvF_back 3 4 0 0 n t hn (by omega) (by right; rfl)
  simpa [gvL, varL] using this
theorem gvL_take (n k : Nat) (hn : n < 268435456) (hk : k < (varL n).length) : gvL ((varL n).take k) = (0, 0, 11) := gvF_take 3 4 0 0 n k hn (by omega) hk
theorem gvL_ok (l : List UInt8) (m u : Nat) (h : gvL l = (m, u, 0)) : m < 268435456 ∧ u ≤ l.length ∧ varL m = l.take u := by
  obtain ⟨n, k, h1, h2, h3, h4, h5, _⟩ := gvF_ok 4 0 0 l m u h
  simp only [Nat.zero_add, Nat.pow_zero, Nat.mul_one] at h1 h2
  subst h1 h2
  exact ⟨h4, h3, h5⟩
theorem gvL_err (l : List UInt8) (m u e : Nat) (h : gvL l = (m, u, e)) (he : e ≠ 0) : m = 0 ∧ u = 0 := gvF_err 4 0 0 l m u e h he
theorem varF_length (f n : Nat) : 1 ≤ (varF f n).length ∧ (varF f n).length ≤ f + 1 := by
  induction f generalizing n with
  | zero => simp [varF]
  | succ f ih =>
    by_cases h : n < 128
    · rw [varF_small _ _ h]; simp
    · rw [varF_big _ _ h]
      have := ih (n / 128)
      simp only [List.length_cons]
      omega
theorem varR_of (n : Nat) (hn : n < 268435456) : varR (n : Int) = (varL n, 0) := by
  unfold varR
  rw [if_neg (by omega)]
  rfl

end Go.Proofs.YtpodhidabhnnnaaDoor
