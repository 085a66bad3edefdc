
import Derived.Test.YtgimbocoamnkjaaGreatDoorM05
import Derived.Test.YtgimbocoamnkjaaGreatDoorM06
import Derived.Test.YtgimbocoamnkjaaGreatDoorM02
import Derived.Deep.RegionHeld
namespace Go.Proofs.YtgimbocoamnkjaaGreatDoor
open Go.RowKit

theorem getU_putL (n x : Nat) (hn : n ≤ 8) (hx : x < 256 ^ n) : getU (putL x n) = x := by
  induction n generalizing x with
  | zero => simp at hx; subst hx; rfl
  | succ n ih =>
    have h1 : x / 256 < 256 ^ n := by rw [Nat.pow_succ] at hx; exact Nat.div_lt_of_lt_mul (by rw [Nat.mul_comm]; exact hx)
    have h2 : (256 : Nat) ^ (n + 1) ≤ 256 ^ 8 := Nat.pow_le_pow_right (by decide) hn
    have h3 : (b8 (x : Int)).toNat = x % 256 := by have := b8_toNat (x : Int); omega
    show getU (putL (x / 256) n ++ [b8 x]) = x
    rw [getU_snoc, ih _ (by omega) h1, h3]
    have : (256:Nat) ^ 8 = 18446744073709551616 := by decide
    rw [this] at h2
    have h4 := Nat.lt_of_lt_of_le hx h2
    omega

theorem getU_putW (x : Nat) (hx : x < 18446744073709551616) : getU (putW x 8) = x := by
  unfold putW
  rw [if_neg (by omega)]
  exact getU_putL 8 x (Nat.le_refl _) hx

theorem dataL_of (b : List UInt8) (h : b.length ≤ 65535) : dataL b = (putL b.length 2 ++ b, 0) := by unfold dataL; rw [if_neg (by omega)]
theorem getDataL_back' (p b t : List UInt8) (hl : p.length = 2) (hp : getU p = b.length) : getDataL (p ++ b ++ t) = (b, (b.length : Int) + 2, 0) := by
  have h1 : (p ++ b ++ t).take 2 = p := by
    rw [List.append_assoc, ← hl, List.take_left]
  unfold getDataL
  rw [h1, hp, if_neg (by simp only [List.length_append, hl]; omega)]
  have h3 : ((p ++ b ++ t).take (2 + b.length)).drop 2 = b := by
    have e : 2 + b.length = (p ++ b).length := by rw [List.length_append, hl]
    rw [e, List.take_left]
    conv => lhs; rw [← hl]
    exact List.drop_left
  rw [h3]
  congr 2
  omega
theorem getDataL_back (b t : List UInt8) (h : b.length ≤ 65535) : getDataL (putL b.length 2 ++ b ++ t) = (b, (b.length : Int) + 2, 0) :=
  getDataL_back' _ b t (putL_length _ _) (getU_putL 2 b.length (by omega) (by omega))
theorem textL_of (b : List UInt8) (h : b.length ≤ 65535) (ht : isTextL b = true) : textL b = (putL b.length 2 ++ b, 0) := by
  unfold textL
  rw [if_pos ht, dataL_of b h]
theorem textL_not (b : List UInt8) (ht : isTextL b = false) : textL b = ([], 13) := by
  unfold textL
  rw [ht]
  rfl
theorem getTextL_back (b t : List UInt8) (h : b.length ≤ 65535) (ht : isTextL b = true) : getTextL (putL b.length 2 ++ b ++ t) = (b, (b.length : Int) + 2, 0) := by
  unfold getTextL
  rw [getDataL_back b t h]
  simp [ht]
end Go.Proofs.YtgimbocoamnkjaaGreatDoor

/- Properties, plain laws: what is read is laid just so, with anything behind. -/
namespace Go.Proofs.YtgimbocoamnkjaaGreatDoor
open Go.RowKit

theorem snoc_ind {P : List UInt8 → Prop} (h0 : P []) (h1 : ∀ l c, P l → P (l ++ [c])) (l : List UInt8) : P l := by
  have h : ∀ r : List UInt8, P r.reverse := by
    intro r
    induction r with
    | nil => exact h0
    | cons a r ih => rw [List.reverse_cons]; exact h1 _ _ ih
  have := h l.reverse
  rwa [List.reverse_reverse] at this
theorem getU_bound (l : List UInt8) (h : l.length ≤ 8) : getU l < 256 ^ l.length := by
  revert h
  induction l using snoc_ind with
  | h0 => intro _; simp [getU]
  | h1 l c ih =>
    intro h
    rw [List.length_append, List.length_singleton] at h
    have h1 := ih (by omega)
    rw [getU_snoc, List.length_append, List.length_singleton, Nat.pow_succ]
    have hc := c.toNat_lt
    have := Nat.mod_le (getU l * 256 + c.toNat) 18446744073709551616
    omega
theorem putL_getU (l : List UInt8) (h : l.length ≤ 8) : putL (getU l) l.length = l := by
  revert h
  induction l using snoc_ind with
  | h0 => intro _; rfl
  | h1 l c ih =>
    intro h
    rw [List.length_append, List.length_singleton] at h
    have h1 := getU_bound l (by omega)
    have h2 : (256 : Nat) ^ l.length ≤ 256 ^ 7 := Nat.pow_le_pow_right (by decide) (by omega)
    have h3 : (256 : Nat) ^ 7 = 72057594037927936 := by decide
    have hc := c.toNat_lt
    have e : getU (l ++ [c]) = getU l * 256 + c.toNat := by rw [getU_snoc]; omega
    rw [List.length_append, List.length_singleton, e]
    show putL ((getU l * 256 + c.toNat) / 256) l.length ++ [b8 ((getU l * 256 + c.toNat : Nat) : Int)] = l ++ [c]
    rw [show (getU l * 256 + c.toNat) / 256 = getU l by omega, ih (by omega)]
    congr 2
    have h4 : b8 ((getU l * 256 + c.toNat : Nat) : Int) = b8 ((c.toNat : Nat) : Int) := by
      unfold b8
      congr 1
      omega
    rw [h4, b8_of]

/-- The bytes of a property's value. -/
def valB (p : Pr) : List UInt8 :=
  if kindL p.id = 1 then putW (u64 p.num) 1
   else if kindL p.id = 2 then putW (u64 p.num) 2
   else if kindL p.id = 3 then putW (u64 p.num) 4
   else if kindL p.id = 4 then (varR p.num).1
   else if kindL p.id = 5 then (textL p.text).1
   else if kindL p.id = 6 then (dataL p.data).1
   else if kindL p.id = 7 then (textL p.text).1 ++ (textL p.pair).1
   else []
theorem laidL_eq (p : Pr) : laidL p = (varR p.id).1 ++ valB p := rfl

/-- What is read of a property's value is within bounds, its texts are texts. -/
structure GoodP (p : Pr) : Prop where
  ld : p.data.length ≤ 65535
  lt : p.text.length ≤ 65535
  lp : p.pair.length ≤ 65535
  n0 : 0 ≤ p.num
  n1 : p.num < 4294967296
  k1 : kindL p.id = 1 → p.num < 256
  k2 : kindL p.id = 2 → p.num < 65536
  k4 : kindL p.id = 4 → p.num < 268435456
  tt : isTextL p.text = true
  tp : isTextL p.pair = true

theorem u64_nat (n : Nat) (h : n < 18446744073709551616) : u64 (n : Int) = n := by
  unfold u64
  omega
theorem isTextL_nil : isTextL [] = true := by decide +kernel

theorem getDataL_ok (l d : List UInt8) (u : Int) (h : getDataL l = (d, u, 0)) : d.length ≤ 65535 ∧ u = (d.length : Int) + 2 ∧ d.length + 2 ≤ l.length ∧ l.take (d.length + 2) = putL d.length 2 ++ d := by
  unfold getDataL at h
  split at h
  · simp at h
  · rename_i hc
    have h2 : 2 ≤ l.length := by omega
    have hb : getU (l.take 2) < 65536 := by
      have := getU_bound (l.take 2) (by rw [List.length_take]; omega)
      rw [List.length_take, Nat.min_eq_left h2] at this
      exact this
    obtain ⟨n, hn⟩ : ∃ n, getU (l.take 2) = n := ⟨_, rfl⟩
    rw [hn] at h hb hc
    simp only [Prod.mk.injEq, and_true] at h
    obtain ⟨rfl, rfl⟩ := h
    have hl : ((l.take (2 + n)).drop 2).length = n := by rw [List.length_drop, List.length_take]; omega
    rw [hl]
    refine ⟨by omega, by omega, by omega, ?_⟩
    have e : putL n 2 = l.take 2 := by
      have := putL_getU (l.take 2) (by rw [List.length_take]; omega)
      rw [List.length_take, Nat.min_eq_left h2, hn] at this
      exact this
    rw [e, Nat.add_comm n 2]
    have : l.take 2 = (l.take (2 + n)).take 2 := by rw [List.take_take]; congr 1; omega
    rw [this, List.take_append_drop]
theorem getDataL_pre (l d : List UInt8) (u : Int) (h : getDataL l = (d, u, 0)) (t : List UInt8) : getDataL (l ++ t) = (d, u, 0) := by
  obtain ⟨h1, rfl, h3, h4⟩ := getDataL_ok l d u h
  have : l ++ t = putL d.length 2 ++ d ++ (l.drop (d.length + 2) ++ t) := by
    rw [← h4, ← List.append_assoc, List.take_append_drop]
  rw [this]
  exact getDataL_back d _ h1
theorem getTextL_ok (l d : List UInt8) (u : Int) (h : getTextL l = (d, u, 0)) : getDataL l = (d, u, 0) ∧ isTextL d = true := by
  unfold getTextL at h
  obtain ⟨⟨a, b, c⟩, hg⟩ : ∃ g, getDataL l = g := ⟨_, rfl⟩
  rw [hg] at h ⊢
  simp only at h
  split at h
  · simp only [Prod.mk.injEq] at h
    omega
  · rename_i hc
    split at h
    · rename_i ht
      simp only [Prod.mk.injEq] at h
      obtain ⟨rfl, rfl, -⟩ := h
      simp only [ne_eq, Decidable.not_not] at hc
      rw [hc]
      exact ⟨rfl, ht⟩
    · simp only [Prod.mk.injEq] at h
      omega
theorem getTextL_pre (l d : List UInt8) (u : Int) (h : getTextL l = (d, u, 0)) (t : List UInt8) : getTextL (l ++ t) = (d, u, 0) := by
  obtain ⟨h1, h2⟩ := getTextL_ok l d u h
  unfold getTextL
  rw [getDataL_pre l d u h1 t]
  simp [h2]
theorem gvL_pre (l : List UInt8) (m u : Nat) (h : gvL l = (m, u, 0)) (t : List UInt8) : gvL (l ++ t) = (m, u, 0) := by
  obtain ⟨h1, h2, h3⟩ := gvL_ok l m u h
  have : l ++ t = varL m ++ (l.drop u ++ t) := by rw [h3, ← List.append_assoc, List.take_append_drop]
  rw [this, gvL_back m h1]
  congr 2
  rw [h3, List.length_take]
  omega
theorem text_bytes (l d : List UInt8) (u : Int) (h : getTextL l = (d, u, 0)) : d.length ≤ 65535 ∧ u = (d.length : Int) + 2 ∧ d.length + 2 ≤ l.length ∧ isTextL d = true ∧ (textL d).1 = l.take (d.length + 2) := by
  obtain ⟨h1, h2⟩ := getTextL_ok l d u h
  obtain ⟨h3, h4, h5, h6⟩ := getDataL_ok l d u h1
  exact ⟨h3, h4, h5, h2, by rw [textL_of d h3 h2, h6]⟩

theorem num_bytes (b : List UInt8) (k : Nat) (hk : 1 ≤ k ∧ k ≤ 4) (hl : k ≤ b.length) : getU (b.take k) < 256 ^ k ∧ putW (u64 ((getU (b.take k) : Nat) : Int)) k = b.take k ∧ ∀ t : List UInt8, getU ((b ++ t).take k) = getU (b.take k) := by
  have hlen : (b.take k).length = k := by rw [List.length_take]; omega
  have h1 := getU_bound (b.take k) (by omega)
  rw [hlen] at h1
  refine ⟨h1, ?_, fun t => by rw [List.take_append_of_le_length hl]⟩
  rw [u64_nat _ (getU_lt _)]
  unfold putW
  rw [if_neg (by omega), Int.toNat_natCast]
  have := putL_getU (b.take k) (by omega)
  rwa [hlen] at this

theorem valueL_ok {id : Int} {b : List UInt8} {p : Pr} {m : Int} (h : valueL id b = some (p, m)) : ∃ u : Nat, m = (u : Int) ∧ u ≤ b.length ∧ p.id = id ∧ valB p = b.take u ∧ GoodP p ∧ ∀ t, valueL id (b ++ t) = some (p, m) := by
  obtain ⟨k, hk⟩ : ∃ k, kindL id = k := ⟨_, rfl⟩
  unfold valueL at h
  rw [hk] at h
  have hT := isTextL_nil
  by_cases e1 : k = 1
  · subst e1
    simp only [if_true] at h
    split at h
    · cases h
    · rename_i hl
      simp only [Option.some.injEq, Prod.mk.injEq] at h
      obtain ⟨rfl, rfl⟩ := h
      obtain ⟨h1, h2, h3⟩ := num_bytes b 1 ⟨by omega, by omega⟩ (by omega)
      refine ⟨1, rfl, by omega, rfl, by unfold valB; simp only [hk, if_true]; exact h2, ⟨by simp, by simp, by simp, by simp, by simp only; omega, fun _ => by simp only; omega, fun hh => by simp only at hh; omega, fun hh => by simp only at hh; omega, hT, hT⟩, fun t => ?_⟩
      unfold valueL
      rw [hk, if_pos rfl, if_neg (by rw [List.length_append]; omega), h3 t]
  by_cases e2 : k = 2
  · subst e2
    simp only [Nat.reduceEqDiff, if_false, if_true] at h
    split at h
    · cases h
    · rename_i hl
      simp only [Option.some.injEq, Prod.mk.injEq] at h
      obtain ⟨rfl, rfl⟩ := h
      obtain ⟨h1, h2, h3⟩ := num_bytes b 2 ⟨by omega, by omega⟩ (by omega)
      refine ⟨2, rfl, by omega, rfl, by unfold valB; simp only [hk, Nat.reduceEqDiff, if_false, if_true]; exact h2, ⟨by simp, by simp, by simp, by simp, by simp only; omega, fun hh => by simp only at hh; omega, fun _ => by simp only; omega, fun hh => by simp only at hh; omega, hT, hT⟩, fun t => ?_⟩
      unfold valueL
      rw [hk, if_neg (by omega), if_pos rfl, if_neg (by rw [List.length_append]; omega), h3 t]
  by_cases e3 : k = 3
  · subst e3
    simp only [Nat.reduceEqDiff, if_false, if_true] at h
    split at h
    · cases h
    · rename_i hl
      simp only [Option.some.injEq, Prod.mk.injEq] at h
      obtain ⟨rfl, rfl⟩ := h
      obtain ⟨h1, h2, h3⟩ := num_bytes b 4 ⟨by omega, by omega⟩ (by omega)
      refine ⟨4, rfl, by omega, rfl, by unfold valB; simp only [hk, Nat.reduceEqDiff, if_false, if_true]; exact h2, ⟨by simp, by simp, by simp, by simp, by simp only; omega, fun hh => by simp only at hh; omega, fun hh => by simp only at hh; omega, fun hh => by simp only at hh; omega, hT, hT⟩, fun t => ?_⟩
      unfold valueL
      rw [hk, if_neg (by omega), if_neg (by omega), if_pos rfl, if_neg (by rw [List.length_append]; omega), h3 t]
  by_cases e4 : k = 4
  · subst e4
    simp only [Nat.reduceEqDiff, if_false, if_true] at h
    obtain ⟨⟨x, y, z⟩, hg⟩ : ∃ g, gvL b = g := ⟨_, rfl⟩
    rw [hg] at h
    simp only at h
    split at h
    · rename_i hz
      subst hz
      simp only [Option.some.injEq, Prod.mk.injEq] at h
      obtain ⟨rfl, rfl⟩ := h
      obtain ⟨h1, h2, h3⟩ := gvL_ok b x y hg
      refine ⟨y, rfl, h2, rfl, by unfold valB; simp only [hk, Nat.reduceEqDiff, if_false, if_true]; rw [varR_of x h1]; exact h3, ⟨by simp, by simp, by simp, by simp, by simp only; omega, fun hh => by simp only at hh; omega, fun hh => by simp only at hh; omega, fun _ => by simp only; omega, hT, hT⟩, fun t => ?_⟩
      unfold valueL
      rw [hk, if_neg (by omega), if_neg (by omega), if_neg (by omega), if_pos rfl, gvL_pre b x y hg t]
      rfl
    · cases h
  by_cases e5 : k = 5
  · subst e5
    simp only [Nat.reduceEqDiff, if_false, if_true] at h
    obtain ⟨⟨x, y, z⟩, hg⟩ : ∃ g, getTextL b = g := ⟨_, rfl⟩
    rw [hg] at h
    simp only at h
    split at h
    · rename_i hz
      subst hz
      simp only [Option.some.injEq, Prod.mk.injEq] at h
      obtain ⟨rfl, rfl⟩ := h
      obtain ⟨h1, h2, h3, h4, h5⟩ := text_bytes b x y hg
      refine ⟨x.length + 2, by omega, h3, rfl, by unfold valB; simp only [hk, Nat.reduceEqDiff, if_false, if_true]; exact h5, ⟨by simp, h1, by simp, by simp, by simp, fun hh => by simp only at hh; omega, fun hh => by simp only at hh; omega, fun hh => by simp only at hh; omega, h4, hT⟩, fun t => ?_⟩
      unfold valueL
      rw [hk, if_neg (by omega), if_neg (by omega), if_neg (by omega), if_neg (by omega), if_pos rfl, getTextL_pre b x y hg t]
      rfl
    · cases h
  by_cases e6 : k = 6
  · subst e6
    simp only [Nat.reduceEqDiff, if_false, if_true] at h
    obtain ⟨⟨x, y, z⟩, hg⟩ : ∃ g, getDataL b = g := ⟨_, rfl⟩
    rw [hg] at h
    simp only at h
    split at h
    · rename_i hz
      subst hz
      simp only [Option.some.injEq, Prod.mk.injEq] at h
      obtain ⟨rfl, rfl⟩ := h
      obtain ⟨h1, h2, h3, h4⟩ := getDataL_ok b x y hg
      refine ⟨x.length + 2, by omega, h3, rfl, by unfold valB; simp only [hk, Nat.reduceEqDiff, if_false, if_true]; rw [dataL_of x h1]; exact h4.symm, ⟨h1, by simp, by simp, by simp, by simp, fun hh => by simp only at hh; omega, fun hh => by simp only at hh; omega, fun hh => by simp only at hh; omega, hT, hT⟩, fun t => ?_⟩
      unfold valueL
      rw [hk, if_neg (by omega), if_neg (by omega), if_neg (by omega), if_neg (by omega), if_neg (by omega), if_pos rfl, getDataL_pre b x y hg t]
      rfl
    · cases h
  by_cases e7 : k = 7
  · subst e7
    simp only [Nat.reduceEqDiff, if_false, if_true] at h
    obtain ⟨⟨x, y, z⟩, hg⟩ : ∃ g, getTextL b = g := ⟨_, rfl⟩
    rw [hg] at h
    simp only at h
    split at h
    · rename_i hz
      subst hz
      obtain ⟨⟨x', y', z'⟩, hg'⟩ : ∃ g, getTextL (b.drop y.toNat) = g := ⟨_, rfl⟩
      rw [hg'] at h
      simp only at h
      split at h
      · rename_i hz
        subst hz
        simp only [Option.some.injEq, Prod.mk.injEq] at h
        obtain ⟨rfl, rfl⟩ := h
        obtain ⟨h1, h2, h3, h4, h5⟩ := text_bytes b x y hg
        obtain ⟨h1', h2', h3', h4', h5'⟩ := text_bytes _ x' y' hg'
        have hy : y.toNat = x.length + 2 := by omega
        rw [hy] at h3' h5'
        rw [List.length_drop] at h3'
        refine ⟨x.length + 2 + (x'.length + 2), by omega, by omega, rfl, by unfold valB; simp only [hk, Nat.reduceEqDiff, if_false, if_true]; rw [h5, h5', ← List.take_add], ⟨by simp, h1, h1', by simp, by simp, fun hh => by simp only at hh; omega, fun hh => by simp only at hh; omega, fun hh => by simp only at hh; omega, h4, h4'⟩, fun t => ?_⟩
        unfold valueL
        have e : (b ++ t).drop y.toNat = b.drop y.toNat ++ t := by rw [List.drop_append_of_le_length (by omega)]
        rw [hk, if_neg (by omega), if_neg (by omega), if_neg (by omega), if_neg (by omega), if_neg (by omega), if_neg (by omega), if_pos rfl, getTextL_pre b x y hg t]
        simp only [if_true]
        rw [e, getTextL_pre _ x' y' hg' t]
        rfl
      · cases h
    · cases h
  · simp only [e1, e2, e3, e4, e5, e6, e7, if_false, Option.some.injEq, Prod.mk.injEq] at h
    obtain ⟨rfl, rfl⟩ := h
    refine ⟨0, rfl, Nat.zero_le _, rfl, by unfold valB; simp only [hk, e1, e2, e3, e4, e5, e6, e7, if_false, List.take_zero], ⟨by simp, by simp, by simp, by simp, by simp, fun hh => by simp only at hh; omega, fun hh => by simp only at hh; omega, fun hh => by simp only at hh; omega, hT, hT⟩, fun t => ?_⟩
    unfold valueL
    rw [hk, if_neg e1, if_neg e2, if_neg e3, if_neg e4, if_neg e5, if_neg e6, if_neg e7]

/-- One step that succeeds. -/
theorem stepL_ok {wh : Int} {l : List Pr} {b : List UInt8} {p : Pr} {m : Int} (h : stepL wh l b = (0, p, m)) : ∃ u : Nat, m = (u : Int) ∧ 1 ≤ u ∧ u ≤ b.length ∧ laidL p = b.take u ∧ GoodP p ∧ mayL p.id wh = true ∧ numL p = 0 ∧ 0 ≤ p.id ∧ p.id < 268435456 ∧ (hasL p.id l = true → oftenL p.id wh = true) ∧
    ∀ t l', stepL wh l' (b ++ t) = if hasL p.id l' = true ∧ oftenL p.id wh = false then (130, zeroP, 0) else (0, p, m) := by
  unfold stepL at h
  obtain ⟨⟨x, y, z⟩, hg⟩ : ∃ g, gvL b = g := ⟨_, rfl⟩
  rw [hg] at h
  simp only at h
  split at h
  · simp only [Prod.mk.injEq] at h
    omega
  · rename_i hc
    have hz : z = 0 := by
      by_cases hz : z = 0
      · exact hz
      · exact absurd (Or.inl hz) hc
    have hm : mayL (x : Int) wh = true := by
      cases hq : mayL (x : Int) wh with
      | true => rfl
      | false => exact absurd (Or.inr hq) hc
    subst hz
    obtain ⟨g1, g2, g3⟩ := gvL_ok b x y hg
    split at h
    · simp only [Prod.mk.injEq] at h
      omega
    · rename_i p' m' hv
      obtain ⟨u, rfl, v2, v3, v4, v5, v6⟩ := valueL_ok hv
      split at h
      · simp only [Prod.mk.injEq] at h
        omega
      · rename_i hh
        split at h
        · rename_i hn
          simp only [Prod.mk.injEq] at h
          omega
        · rename_i hn
          simp only [Prod.mk.injEq, true_and] at h
          obtain ⟨rfl, rfl⟩ := h
          rw [List.length_drop] at v2
          have hy1 : 1 ≤ y := by
            have h1 := (varF_length 3 x).1
            have h2 : (varL x).length = (b.take y).length := by rw [g3]
            rw [List.length_take] at h2
            have : (varL x).length = (varF 3 x).length := rfl
            omega
          refine ⟨y + u, by omega, by omega, by omega, ?_, v5, by rw [v3]; exact hm, by simpa using hn, by omega, by omega, ?_, ?_⟩
          · rw [laidL_eq, v3, v4, varR_of x g1]
            show varL x ++ _ = _
            rw [g3, ← List.take_add]
          · intro hhas
            rw [v3] at hhas ⊢
            cases ho : oftenL (x : Int) wh with
            | true => rfl
            | false => exact absurd ⟨hhas, ho⟩ hh
          · intro t l'
            unfold stepL
            rw [gvL_pre b x y hg t]
            simp only
            rw [if_neg hc, List.drop_append_of_le_length g2, v6 t]
            simp only
            rw [v3, if_neg hn]

theorem readF_ok {f : Nat} {wh : Int} {l l' : List Pr} {b : List UInt8} (h : readF f wh l b = (l', 0)) (hf : b.length ≤ f) : ∃ q, l' = l ++ q ∧ q.flatMap laidL = b ∧ ∀ p ∈ q, GoodP p ∧ mayL p.id wh = true ∧ numL p = 0 ∧ 0 ≤ p.id ∧ p.id < 268435456 := by
  induction f generalizing l b with
  | zero =>
    have hb : b = [] := List.eq_nil_of_length_eq_zero (by omega)
    subst hb
    simp only [readF, Prod.mk.injEq, and_true] at h
    exact ⟨[], by simp [h], rfl, fun p hp => by cases hp⟩
  | succ f ih =>
    unfold readF at h
    split at h
    · rename_i hb
      subst hb
      simp only [Prod.mk.injEq, and_true] at h
      exact ⟨[], by simp [h], rfl, fun p hp => by cases hp⟩
    · split at h
      · rename_i hc
        simp only [Prod.mk.injEq] at h
        omega
      · rename_i hb hc
        obtain ⟨⟨c, p, m⟩, hs⟩ : ∃ s, stepL wh l b = s := ⟨_, rfl⟩
        rw [hs] at h hc
        simp only [ne_eq, Decidable.not_not] at h hc
        subst hc
        obtain ⟨u, rfl, s2, s3, s4, s5, s6, s7, s8, s9, _, _⟩ := stepL_ok hs
        rw [Int.toNat_natCast] at h
        obtain ⟨q, rfl, q2, q3⟩ := ih h (by rw [List.length_drop]; omega)
        refine ⟨p :: q, by simp, ?_, fun x hx => ?_⟩
        · rw [List.flatMap_cons, s4, q2, List.take_append_drop]
        · rcases List.mem_cons.1 hx with rfl | hx
          · exact ⟨s5, s6, s7, s8, s9⟩
          · exact q3 x hx
/-- What is read, of bytes that are read. -/
theorem readL_ok {wh : Int} {b : List UInt8} {l : List Pr} {used : Int} (h : readL wh b = (l, used, 0)) : ∃ n y : Nat, gvL b = (n, y, 0) ∧ used = (y : Int) + n ∧ y + n ≤ b.length ∧ n < 268435456 ∧ varL n = b.take y ∧ l.flatMap laidL = (b.drop y).take n ∧ readF n wh [] ((b.drop y).take n) = (l, 0) ∧
    (∀ p ∈ l, GoodP p ∧ mayL p.id wh = true ∧ numL p = 0 ∧ 0 ≤ p.id ∧ p.id < 268435456) ∧ ∀ t, readL wh (b.take (y + n) ++ t) = (l, used, 0) := by
  unfold readL at h
  obtain ⟨⟨n, y, z⟩, hg⟩ : ∃ g, gvL b = g := ⟨_, rfl⟩
  rw [hg] at h
  simp only at h
  split at h
  · simp only [Prod.mk.injEq] at h
    omega
  · rename_i hc
    have hz : z = 0 := by omega
    subst hz
    obtain ⟨g1, g2, g3⟩ := gvL_ok b n y hg
    split at h
    · rename_i hn
      simp only [Prod.mk.injEq] at h
      omega
    · rename_i hn
      obtain ⟨⟨l', c⟩, hr⟩ : ∃ r, readF n wh [] ((b.drop y).take n) = r := ⟨_, rfl⟩
      rw [hr] at h hn
      simp only [ne_eq, Decidable.not_not, Prod.mk.injEq, and_true] at h hn
      subst hn
      obtain ⟨rfl, rfl⟩ := h
      have hlen : ((b.drop y).take n).length = n := by rw [List.length_take, List.length_drop]; omega
      obtain ⟨q, rfl, q2, q3⟩ := readF_ok hr (by omega)
      refine ⟨n, y, hg, rfl, by omega, g1, g3, q2, hr, q3, fun t => ?_⟩
      have e1 : gvL (b.take (y + n) ++ t) = (n, y, 0) := by
        have : b.take (y + n) ++ t = varL n ++ ((b.drop y).take n ++ t) := by rw [g3, ← List.append_assoc, ← List.take_add]
        rw [this, gvL_back n g1]
        congr 2
        rw [g3, List.length_take]
        omega
      have e2 : ((b.take (y + n) ++ t).drop y).take n = (b.drop y).take n := by
        rw [List.drop_append_of_le_length (by rw [List.length_take]; omega), List.take_append_of_le_length (by rw [List.length_drop, List.length_take]; omega), List.drop_take]
        rw [show y + n - y = n by omega, List.take_take, Nat.min_self]
      unfold readL
      rw [e1]
      simp only
      rw [if_neg (by rw [List.length_append, List.length_take]; omega), e2, hr]
      simp

theorem layL_ok {wh : Int} {l : List Pr} {x : List UInt8} (h : layL wh l = (x, 0)) : ∃ n : Nat, n = (l.flatMap laidL).length ∧ n < 268435456 ∧ x = varL n ++ l.flatMap laidL ∧ readL wh x = (l, (x.length : Int), 0) := by
  unfold layL at h
  split at h
  · simp only [Prod.mk.injEq] at h
    omega
  · rename_i hc
    split at h
    · rename_i hr
      have hn : (l.flatMap laidL).length < 268435456 := by
        by_cases hq : (l.flatMap laidL).length < 268435456
        · exact hq
        · exact absurd (by unfold varR; rw [if_pos (by omega)]; decide) hc
      simp only [Prod.mk.injEq, and_true] at h
      rw [h] at hr
      rw [varR_of _ hn] at h
      exact ⟨_, rfl, hn, h.symm, hr⟩
    · simp only [Prod.mk.injEq] at h
      omega
theorem layL_bad {wh : Int} {l : List Pr} {x : List UInt8} {c : Nat} (h : layL wh l = (x, c)) (hc : c ≠ 0) : x = [] ∧ c = 129 := by
  unfold layL at h
  split at h
  · simp only [Prod.mk.injEq] at h
    exact ⟨h.1.symm, h.2.symm⟩
  · split at h
    · simp only [Prod.mk.injEq] at h
      omega
    · simp only [Prod.mk.injEq] at h
      exact ⟨h.1.symm, h.2.symm⟩

/-- P11.3: what was laid is read, with anything behind. -/
theorem back_law {wh : Int} {l : List Pr} {x : List UInt8} (h : layL wh l = (x, 0)) (t : List UInt8) : readL wh (x ++ t) = (l, (x.length : Int), 0) := by
  obtain ⟨n, hn, hn2, hx, hr⟩ := layL_ok h
  obtain ⟨n', y, h1, h2, h3, h4, h5, h6, h7, h8, h9⟩ := readL_ok hr
  have e : x.take (y + n') = x := List.take_of_length_le (by omega)
  have := h9 t
  rwa [e] at this
/-- What is read can be laid again, just so. -/
theorem again_law {wh : Int} {l : List Pr} {b : List UInt8} {used : Int} (h : readL wh b = (l, used, 0)) : ∃ y, layL wh l = (y, 0) ∧ (y.length : Int) ≤ used := by
  obtain ⟨n, y, h1, h2, h3, h4, h5, h6, h7, h8, h9⟩ := readL_ok h
  have hlen : ((b.drop y).take n).length = n := by rw [List.length_take, List.length_drop]; omega
  have e : varL n ++ l.flatMap laidL = b.take (y + n) := by rw [h5, h6, ← List.take_add]
  have e2 : (b.take (y + n)).length = y + n := by rw [List.length_take]; omega
  refine ⟨b.take (y + n), ?_, by omega⟩
  have h10 := h9 []
  rw [List.append_nil] at h10
  unfold layL
  rw [h6, hlen, varR_of n h4]
  simp only
  rw [← h6, e, h10, e2, h2]
  simp

/-- P11.2: a property twice. -/
theorem twice_law {wh : Int} {p : Pr} {n : UInt8} {body : List UInt8} (h : layL wh [p] = (n :: body, 0)) (h2 : 1 ≤ body.length) (h60 : body.length ≤ 59) :
    readL wh (b8 (2 * body.length) :: (body ++ body)) = if oftenL p.id wh = true then ([p, p], 1 + 2 * (body.length : Int), 0) else ([], 0, 130) := by
  obtain ⟨k, hk, hk2, hx, hr⟩ := layL_ok h
  obtain ⟨n', y, h1, r2, r3, r4, r5, r6, r7, r8, r9⟩ := readL_ok hr
  have hkl : k ≤ 59 := by
    have := congrArg List.length hx
    rw [List.length_append, ← hk, List.length_cons] at this
    have h3 := (varF_length 3 k).1
    have h4 : (varL k).length = (varF 3 k).length := rfl
    omega
  have hv : varL k = [b8 k] := varF_small 3 k (by omega)
  rw [hv] at hx
  simp only [List.singleton_append, List.cons.injEq] at hx
  obtain ⟨hn, hb⟩ := hx
  rw [← hb] at hk
  subst hk
  have hg : gvL (n :: body) = (body.length, 1, 0) := by
    have := gvL_back body.length hk2 body
    rw [hv] at this
    rw [hn]
    exact this
  rw [hg] at h1
  simp only [Prod.mk.injEq, and_true] at h1
  obtain ⟨rfl, rfl⟩ := h1
  have e0 : ((n :: body).drop 1).take body.length = body := by simp
  rw [e0] at r7
  obtain ⟨f, hf⟩ : ∃ f, body.length = f + 1 := ⟨body.length - 1, by omega⟩
  have hne : body ≠ [] := fun hc => by rw [hc] at hf; simp at hf
  rw [hf] at r7
  unfold readF at r7
  rw [if_neg hne] at r7
  split at r7
  · rename_i hc
    simp only [Prod.mk.injEq] at r7
    omega
  · rename_i hc
    obtain ⟨⟨c, q, m⟩, hs⟩ : ∃ s, stepL wh [] body = s := ⟨_, rfl⟩
    rw [hs] at r7 hc
    simp only [ne_eq, Decidable.not_not] at r7 hc
    subst hc
    obtain ⟨u, rfl, s2, s3, s4, s5, s6, s7, s8, s9, s10, s11⟩ := stepL_ok hs
    rw [Int.toNat_natCast] at r7
    obtain ⟨q', q1, q2, _⟩ := readF_ok r7 (by rw [List.length_drop]; omega)
    simp only [List.nil_append, List.cons_append, List.cons.injEq] at q1
    obtain ⟨rfl, rfl⟩ := q1
    have hu : u = body.length := by
      have := congrArg List.length q2
      simp only [List.flatMap_nil, List.length_nil, List.length_drop] at this
      omega
    subst hu
    have t1 := s11 body []
    rw [if_neg (by simp [hasL])] at t1
    have t2 := s11 [] [p]
    rw [List.append_nil] at t2
    have hg2 : gvL (b8 (2 * body.length) :: (body ++ body)) = (2 * body.length, 1, 0) := by
      have := gvL_back (2 * body.length) (by omega) (body ++ body)
      have hv2 : varL (2 * body.length) = [b8 ((2 * body.length : Nat) : Int)] := varF_small 3 _ (by omega)
      rw [hv2] at this
      simpa using this
    have e1 : ((b8 (2 * body.length) :: (body ++ body)).drop 1).take (2 * body.length) = body ++ body := by
      rw [List.drop_one, List.tail_cons, List.take_of_length_le (by rw [List.length_append]; omega)]
    have hne2 : body ++ body ≠ [] := by simp [hne]
    have hhas : hasL p.id [p] = true := by simp [hasL]
    have e2 : (body ++ body).drop body.length = body := List.drop_left
    obtain ⟨g, hg3⟩ : ∃ g, 2 * body.length = g + 2 := ⟨2 * body.length - 2, by omega⟩
    have e3 : readF (2 * body.length) wh [] (body ++ body) = if oftenL p.id wh = true then ([p, p], 0) else ([], 130) := by
      rw [hg3]
      unfold readF
      rw [if_neg hne2, t1]
      simp only [ne_eq, not_true_eq_false, if_false, Int.toNat_natCast, List.nil_append]
      rw [e2]
      unfold readF
      rw [if_neg hne, t2]
      cases ho : oftenL p.id wh with
      | false => simp [hhas]
      | true =>
        simp only [Bool.true_eq_false, and_false, if_false, ne_eq, not_true_eq_false, Int.toNat_natCast, if_true]
        rw [List.drop_of_length_le (Nat.le_refl _)]
        cases g <;> simp [readF]
    unfold readL
    rw [hg2]
    simp only
    rw [if_neg (by rw [List.length_cons, List.length_append]; omega), e1, e3]
    cases ho : oftenL p.id wh with
    | false => simp
    | true =>
      simp
end Go.Proofs.YtgimbocoamnkjaaGreatDoor

/- Kinds and places of properties: the sets of places. -/
namespace Go.Proofs.YtgimbocoamnkjaaGreatDoor
open Go.RowKit

set_option maxHeartbeats 400000 in
theorem at_any (ps : List Int) (z : Int) (hz : orL ps = z) (hp : ∀ p ∈ ps, 0 ≤ p ∧ p ≤ 64) (ad : Option Addr) (n c : Nat) (hn : n = ps.length) (hm : ps.length ≤ 1000) (w : World) (cs : List Value) (hr : Rd w 1 ad n cs) (hcs : cs = ps.map (Value.int .i64)) (R : Ending → World → Prop)
    (hR : R (.returned (.int .i64 z)) w) :
    Calls Tryz.prog 223 #[.slice ad n c] w R := by
  subst hz
  subst hn
  subst hcs
  go_enter Tryz.func223, Tryz.ntmps223
  go_wp2
  go_loop [3, 5, 8] (fun s _ i => ∃ k : Nat, k ≤ ps.length ∧ i = .int .i64 k ∧ ∃ z : Int, Hid (z = orL (ps.take k)) ∧ s = .int .i64 z) (fun _ _ i => ps.length - (intOf i).toNat)
  case atStart => exact ⟨0, Nat.zero_le _, rfl, 0, rfl, rfl⟩
  case round =>
    obtain ⟨k, hk, rfl, z, hz, rfl⟩ := hrel
    by_cases hlt : k < ps.length
    · have hkk : (k : Int) < (ps.length : Int) := by omega
      obtain ⟨b, o, rfl, hcell⟩ := hr.2 (by omega)
      have hck := hcell k (by omega)
      rw [List.getElem?_map, List.getElem?_eq_getElem hlt, Option.map_some] at hck
      obtain ⟨h0, h64⟩ := hp _ (List.getElem_mem hlt)
      have HG : Hid (bits .or .i64 z (wrap64 (2 ^ (ps[k]).toNat)) = orL (ps.take (k + 1))) := by rw [List.take_succ_eq_append_getElem hlt, orL_snoc, ← hz.out]; exact Lib.hid rfl
      obtain ⟨p, hpp⟩ : ∃ p, ps[k] = p := ⟨_, rfl⟩
      rw [hpp] at HG h0 h64 hck
      clear hcell hr hz hpp
      go_wp2
      go_round
      case rel => exact ⟨k + 1, by omega, by go_num, _, Lib.hid HG.out, by simp⟩
      case measure => simp [intOf]; omega
    · have hkk : ¬ (k : Int) < (ps.length : Int) := by omega
      have hf : z = orL ps := by rw [hz.out, List.take_of_length_le (by omega)]
      clear hz
      subst hf
      go_wp2
      exact hR
/-- 'at' at places that are written out. -/
theorem at_lit (ps : List Int) (z : Int) (hz : orL ps = z) (hp : ∀ p ∈ ps, 0 ≤ p ∧ p ≤ 64) (n : Nat) (hn : n = ps.length) (hm : ps.length ≤ 1000) (vs : Array Value) (hs : vs.toList = ps.map (Value.int .i64)) (t K : Nat) (w : World) (hK : K = w.heap.size) (R : Ending → World → Prop)
    (hR : R (.returned (.int .i64 z)) (w.alloc (.cells vs t))) :
    Calls Tryz.prog 223 #[.slice (some ⟨K, 0, none⟩) n n] (w.alloc (.cells vs t)) R := by
  subst hK
  refine at_any ps z hz hp _ n n hn hm _ vs.toList (rd_lit w vs t 1 n ?_) hs R hR
  have := congrArg List.length hs
  simp only [List.length_map] at this
  rw [Nat.mul_one, hn, ← this]
  simp
end Go.Proofs.YtgimbocoamnkjaaGreatDoor
