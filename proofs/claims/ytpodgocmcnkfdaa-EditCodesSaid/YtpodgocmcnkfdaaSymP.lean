/- The library's stable sort, its plain half: rotations by exchanges of ranges, the merge in place, blocks that are sorted and merged: a permutation, sorted. -/
import Derived.Test.YtpodgocmcnkfdaaKeep
import Derived.Sort.LotD2
namespace Go.Proofs.Ytpodgocmcnkfdaa
open Go.Sort
section
variable {α : Type} [Inhabited α]

/-- The exchange of two ranges of n places. -/
def swpN (d : Array α) (a b : Nat) : Nat → Array α
  | 0 => d
  | n + 1 => swp (swpN d a b n) (a + n) (b + n)
def swIx (a b n p : Nat) : Nat := if a ≤ p ∧ p < a + n then p + (b - a) else if b ≤ p ∧ p < b + n then p - (b - a) else p
theorem size_swpN (d : Array α) (a b n : Nat) : (swpN d a b n).size = d.size := by
  induction n with
  | zero => rfl
  | succ n ih => rw [swpN, size_swp, ih]
theorem swpN_at (d : Array α) (a b n : Nat) (hab : a + n ≤ b) (hb : b + n ≤ d.size) (p : Nat) : (swpN d a b n)[p]! = d[swIx a b n p]! := by
  induction n generalizing p with
  | zero => unfold swIx; rw [if_neg (by omega), if_neg (by omega)]; rfl
  | succ n ih =>
    have hs := size_swpN d a b n
    rw [swpN]
    by_cases h1 : p = a + n
    · subst h1
      rw [swp_left _ _ _ (by omega) (by omega), ih (by omega) (by omega)]
      congr 1
      unfold swIx
      rw [if_neg (by omega), if_neg (by omega), if_pos (by omega)]
      omega
    · by_cases h2 : p = b + n
      · subst h2
        rw [swp_right _ _ _ (by omega), ih (by omega) (by omega)]
        congr 1
        unfold swIx
        rw [if_neg (by omega), if_neg (by omega), if_neg (by omega), if_pos (by omega)]
        omega
      · rw [swp_other _ _ _ _ h1 h2, ih (by omega) (by omega)]
        congr 1
        unfold swIx
        (repeat' split) <;> omega
theorem swpN_perm (d : Array α) (a b n : Nat) (x y : Nat) (hx : x ≤ a) (hab : a + n ≤ b) (hy : b + n ≤ y) (hd : y ≤ d.size) : PermIn x y d (swpN d a b n) := by
  induction n with
  | zero => exact permIn_refl d x y
  | succ n ih =>
    rw [swpN]
    exact permIn_trans _ _ _ _ _ (ih (by omega) (by omega)) (swp_permIn _ _ _ _ _ (by omega) (by omega) (by omega) (by omega) (by rw [size_swpN]; omega))

/-- Two ranges that touch change places. -/
def rotIx (a m b p : Nat) : Nat := if a ≤ p ∧ p < a + (b - m) then p + (m - a) else if a + (b - m) ≤ p ∧ p < b then p - (b - m) else p
structure RotOf (a m b : Nat) (d d' : Array α) : Prop where
  size : d'.size = d.size
  at_ : ∀ p, d'[p]! = d[rotIx a m b p]!
  perm : PermIn a b d d'
theorem RotOf.eqn (d : Array α) (a m b : Nat) (h : a = m ∨ m = b) (hm : a ≤ m) (hb : m ≤ b) : RotOf a m b d d := by
  refine ⟨rfl, fun p => ?_, permIn_refl d a b⟩
  congr 1
  unfold rotIx
  split
  · omega
  · split <;> omega
theorem permIn_mono' {d d' : Array α} {a b a' b' : Nat} (h1 : a' ≤ a) (h2 : b ≤ b') (h3 : b' ≤ d.size) (h : PermIn a b d d') : PermIn a' b' d d' := permIn_mono d d' a b a' b' h1 h2 h3 h
/-- The longer range is on the left. -/
theorem RotOf.left {d d' : Array α} {m i j : Nat} (hij : j < i) (hi : i ≤ m) (hj : m + j ≤ d.size) (h : RotOf (m - i + j) m (m + j) (swpN d (m - i) m j) d') : RotOf (m - i) m (m + j) d d' := by
  refine ⟨by rw [h.size, size_swpN], fun p => ?_, permIn_trans _ _ _ _ _ (swpN_perm d (m - i) m j _ _ (Nat.le_refl _) (by omega) (Nat.le_refl _) hj) (permIn_mono' (by omega) (Nat.le_refl _) (by rw [size_swpN]; omega) h.perm)⟩
  rw [h.at_, swpN_at d (m - i) m j (by omega) hj]
  congr 1
  unfold rotIx swIx
  (repeat' split) <;> omega
/-- The longer range is on the right. -/
theorem RotOf.right {d d' : Array α} {m i j : Nat} (hij : i < j) (hi : i ≤ m) (hj : m + j ≤ d.size) (h : RotOf (m - i) m (m + j - i) (swpN d (m - i) (m + j - i) i) d') : RotOf (m - i) m (m + j) d d' := by
  refine ⟨by rw [h.size, size_swpN], fun p => ?_, permIn_trans _ _ _ _ _ (swpN_perm d (m - i) (m + j - i) i _ _ (Nat.le_refl _) (by omega) (by omega) hj) (permIn_mono' (Nat.le_refl _) (by omega) (by rw [size_swpN]; omega) h.perm)⟩
  rw [h.at_, swpN_at d (m - i) (m + j - i) i (by omega) (by omega)]
  congr 1
  unfold rotIx swIx
  (repeat' split) <;> omega
theorem RotOf.same {d : Array α} {m i : Nat} (hi : i ≤ m) (hj : m + i ≤ d.size) : RotOf (m - i) m (m + i) d (swpN d (m - i) m i) := by
  refine ⟨size_swpN _ _ _ _, fun p => ?_, swpN_perm d (m - i) m i _ _ (Nat.le_refl _) (by omega) (Nat.le_refl _) hj⟩
  rw [swpN_at d (m - i) m i (by omega) hj]
  congr 1
  unfold rotIx swIx
  (repeat' split) <;> omega

variable {lt : α → α → Bool}

/-- A merge in place: a permutation of the range, sorted. -/
def SMof (lt : α → α → Bool) (a b : Nat) (d d' : Array α) : Prop := PermIn a b d d' ∧ SortedIn lt a b d'

theorem sorted_le (S : SWO lt) {a b i j : Nat} {d : Array α} (h : SortedIn lt a b d) (hi : a ≤ i) (hij : i ≤ j) (hj : j < b) : lt d[j]! d[i]! = false := by
  rcases Nat.lt_or_ge i j with h1 | h1
  · exact h i j hi h1 hj
  · obtain rfl : i = j := by omega
    exact S.irrefl _

/-- An element moved to the right, from a to behind k places. -/
def upTo (d : Array α) (a : Nat) : Nat → Array α
  | 0 => d
  | k + 1 => swp (upTo d a k) (a + k) (a + k + 1)
theorem size_upTo (d : Array α) (a k : Nat) : (upTo d a k).size = d.size := by
  induction k with
  | zero => rfl
  | succ k ih => rw [upTo, size_swp, ih]
def upIx (a k p : Nat) : Nat := if a ≤ p ∧ p < a + k then p + 1 else if p = a + k then a else p
theorem upTo_at (d : Array α) (a k : Nat) (hk : a + k < d.size) (p : Nat) : (upTo d a k)[p]! = d[upIx a k p]! := by
  induction k generalizing p with
  | zero =>
    show d[p]! = _
    congr 1
    unfold upIx
    split
    · omega
    · split <;> omega
  | succ k ih =>
    have hs := size_upTo d a k
    rw [upTo]
    by_cases h1 : p = a + k
    · subst h1
      rw [swp_left _ _ _ (by omega) (by omega), ih (by omega)]
      congr 1
      unfold upIx
      rw [if_neg (by omega), if_neg (by omega), if_pos (by omega)]
    · by_cases h2 : p = a + k + 1
      · subst h2
        rw [swp_right _ _ _ (by omega), ih (by omega)]
        congr 1
        unfold upIx
        rw [if_neg (by omega), if_pos rfl, if_neg (by omega), if_pos (by omega)]
      · rw [swp_other _ _ _ _ h1 h2, ih (by omega)]
        congr 1
        unfold upIx
        (repeat' split) <;> omega
theorem upTo_perm (d : Array α) (a k x y : Nat) (hx : x ≤ a) (hy : a + k < y) (hd : y ≤ d.size) : PermIn x y d (upTo d a k) := by
  induction k with
  | zero => exact permIn_refl d x y
  | succ k ih =>
    rw [upTo]
    exact permIn_trans _ _ _ _ _ (ih (by omega)) (swp_permIn _ _ _ _ _ (by omega) (by omega) (by omega) (by omega) (by rw [size_upTo]; omega))
/-- One element ahead of a sorted range, laid in by its place. -/
theorem up_sorted (S : SWO lt) {d : Array α} {a b i : Nat} (hai : a < i) (hib : i ≤ b) (hb : b ≤ d.size) (hs : SortedIn lt (a + 1) b d) (hl : ∀ k, a < k → k < i → lt d[k]! d[a]! = true) (hr : ∀ k, i ≤ k → k < b → lt d[k]! d[a]! = false) :
    SMof lt a b d (upTo d a (i - 1 - a)) := by
  refine ⟨upTo_perm d a _ _ _ (Nat.le_refl _) (by omega) hb, fun p q hp hpq hq => ?_⟩
  rw [upTo_at d a _ (by omega), upTo_at d a _ (by omega)]
  unfold upIx
  by_cases h1 : p < a + (i - 1 - a)
  · rw [if_pos (show a ≤ p ∧ p < a + (i - 1 - a) from ⟨hp, h1⟩)]
    by_cases h2 : q < a + (i - 1 - a)
    · rw [if_pos ⟨by omega, h2⟩]
      exact hs _ _ (by omega) (by omega) (by omega)
    · rw [if_neg (by omega)]
      by_cases h3 : q = a + (i - 1 - a)
      · rw [if_pos h3]
        exact S.asymm (hl _ (by omega) (by omega))
      · rw [if_neg h3]
        exact hs _ _ (by omega) (by omega) (by omega)
  · rw [if_neg (show ¬ (a ≤ p ∧ p < a + (i - 1 - a)) by omega)]
    by_cases h3 : p = a + (i - 1 - a)
    · rw [if_pos h3, if_neg (by omega), if_neg (by omega)]
      exact hr _ (by omega) (by omega)
    · rw [if_neg h3, if_neg (by omega), if_neg (by omega)]
      exact hs _ _ (by omega) (by omega) (by omega)

/-- An element moved to the left, from m over k places. -/
def downTo (d : Array α) (m : Nat) : Nat → Array α
  | 0 => d
  | k + 1 => swp (downTo d m k) (m - k) (m - k - 1)
theorem size_downTo (d : Array α) (m k : Nat) : (downTo d m k).size = d.size := by
  induction k with
  | zero => rfl
  | succ k ih => rw [downTo, size_swp, ih]
def downIx (m k p : Nat) : Nat := if m - k < p ∧ p ≤ m then p - 1 else if p = m - k then m else p
theorem downTo_at (d : Array α) (m k : Nat) (hk : k ≤ m) (hm : m < d.size) (p : Nat) : (downTo d m k)[p]! = d[downIx m k p]! := by
  induction k generalizing p with
  | zero =>
    show d[p]! = _
    congr 1
    unfold downIx
    split
    · omega
    · split <;> omega
  | succ k ih =>
    have hs := size_downTo d m k
    rw [downTo]
    by_cases h1 : p = m - k
    · subst h1
      rw [swp_left _ _ _ (by omega) (by omega), ih (by omega)]
      congr 1
      unfold downIx
      rw [if_neg (by omega), if_neg (by omega), if_pos (by omega)]
    · by_cases h2 : p = m - k - 1
      · subst h2
        rw [swp_right _ _ _ (by omega), ih (by omega)]
        congr 1
        unfold downIx
        rw [if_neg (by omega), if_pos rfl, if_neg (by omega), if_pos (by omega)]
      · rw [swp_other _ _ _ _ h1 h2, ih (by omega)]
        congr 1
        unfold downIx
        (repeat' split) <;> omega
theorem downTo_perm (d : Array α) (m k x y : Nat) (hk : k ≤ m) (hx : x ≤ m - k) (hy : m < y) (hd : y ≤ d.size) : PermIn x y d (downTo d m k) := by
  induction k with
  | zero => exact permIn_refl d x y
  | succ k ih =>
    rw [downTo]
    exact permIn_trans _ _ _ _ _ (ih (by omega) (by omega)) (swp_permIn _ _ _ _ _ (by omega) (by omega) (by omega) (by omega) (by rw [size_downTo]; omega))
/-- One element behind a sorted range, laid in by its place. -/
theorem down_sorted (S : SWO lt) {d : Array α} {a m i : Nat} (hai : a ≤ i) (him : i ≤ m) (hb : m < d.size) (hs : SortedIn lt a m d) (hl : ∀ k, a ≤ k → k < i → lt d[m]! d[k]! = false) (hr : ∀ k, i ≤ k → k < m → lt d[m]! d[k]! = true) :
    SMof lt a (m + 1) d (downTo d m (m - i)) := by
  refine ⟨downTo_perm d m _ _ _ (by omega) (by omega) (by omega) hb, fun p q hp hpq hq => ?_⟩
  rw [downTo_at d m _ (by omega) hb, downTo_at d m _ (by omega) hb]
  unfold downIx
  have e : m - (m - i) = i := by omega
  rw [e]
  by_cases h1 : i < p
  · rw [if_pos (show i < p ∧ p ≤ m by omega), if_pos (show i < q ∧ q ≤ m by omega)]
    exact hs _ _ (by omega) (by omega) (by omega)
  · rw [if_neg (show ¬ (i < p ∧ p ≤ m) by omega)]
    by_cases h3 : p = i
    · rw [if_pos h3, if_pos (show i < q ∧ q ≤ m by omega)]
      exact S.asymm (hr _ (by omega) (by omega))
    · rw [if_neg h3]
      by_cases h4 : i < q
      · rw [if_pos (show i < q ∧ q ≤ m by omega)]
        exact hs _ _ (by omega) (by omega) (by omega)
      · rw [if_neg (show ¬ (i < q ∧ q ≤ m) by omega)]
        by_cases h5 : q = i
        · rw [if_pos h5]
          exact hl _ (by omega) (by omega)
        · rw [if_neg h5]
          exact hs _ _ (by omega) (by omega) (by omega)

/-- Where the merge cuts: what its search has found. -/
structure CutAt (lt : α → α → Bool) (d : Array α) (a m b mid s : Nat) : Prop where
  am : a < m
  mb : m < b
  hmid : mid = (a + b) / 2
  lo : a ≤ s
  sm : s ≤ m
  smid : s ≤ mid
  eb : mid + m - s ≤ b
  me : m ≤ mid + m - s
  ge : ∀ c, a < s → mid + m - s < b → c = s - 1 → lt d[mid + m - s]! d[c]! = false
  lt_ : s < m → m < mid + m - s → lt d[mid + m - 1 - s]! d[s]! = true

theorem CutAt.all (S : SWO lt) {d d1 : Array α} {a m b mid s : Nat} (h : CutAt lt d a m b mid s) (h1 : SortedIn lt a m d) (h2 : SortedIn lt m b d) (hr : RotOf s m (mid + m - s) d d1) :
    SortedIn lt a s d1 ∧ SortedIn lt s mid d1 ∧ SortedIn lt mid (mid + m - s) d1 ∧ SortedIn lt (mid + m - s) b d1 ∧ ∀ i j, a ≤ i → i < mid → mid ≤ j → j < b → lt d1[j]! d1[i]! = false := by
  obtain ⟨am, mb, hmid, lo, sm, smid, eb, me, ge, lt_⟩ := h
  have i1 : ∀ p, p < s → rotIx s m (mid + m - s) p = p := fun p hp => by unfold rotIx; rw [if_neg (by omega), if_neg (by omega)]
  have i2 : ∀ p, s ≤ p → p < mid → rotIx s m (mid + m - s) p = p + (m - s) := fun p hp hq => by unfold rotIx; rw [if_pos (by omega)]
  have i3 : ∀ p, mid ≤ p → p < mid + m - s → rotIx s m (mid + m - s) p = p - (mid - s) := fun p hp hq => by unfold rotIx; rw [if_neg (by omega), if_pos (by omega)]; omega
  have i4 : ∀ p, mid + m - s ≤ p → rotIx s m (mid + m - s) p = p := fun p hp => by unfold rotIx; rw [if_neg (by omega), if_neg (by omega)]
  refine ⟨fun p q hp hpq hq => ?_, fun p q hp hpq hq => ?_, fun p q hp hpq hq => ?_, fun p q hp hpq hq => ?_, fun i j hi him hj hjb => ?_⟩
  · rw [hr.at_, hr.at_, i1 p (by omega), i1 q hq]
    exact h1 _ _ hp hpq (by omega)
  · rw [hr.at_, hr.at_, i2 p hp (by omega), i2 q (by omega) hq]
    exact h2 _ _ (by omega) (by omega) (by omega)
  · rw [hr.at_, hr.at_, i3 p hp (by omega), i3 q (by omega) hq]
    exact h1 _ _ (by omega) (by omega) (by omega)
  · rw [hr.at_, hr.at_, i4 p hp, i4 q (by omega)]
    exact h2 _ _ (by omega) (by omega) (by omega)
  · rw [hr.at_, hr.at_]
    by_cases hs : i < s
    · rw [i1 i hs]
      by_cases he : j < mid + m - s
      · rw [i3 j hj he]
        exact h1 _ _ hi (by omega) (by omega)
      · rw [i4 j (by omega)]
        have g := ge (s - 1) (by omega) (by omega) rfl
        have a1 : lt d[j]! d[mid + m - s]! = false := sorted_le S h2 (by omega) (by omega) (by omega)
        have a2 : lt d[s - 1]! d[i]! = false := sorted_le S h1 hi (by omega) (by omega)
        exact S.ntrans _ _ _ (S.ntrans _ _ _ a1 g) a2
    · rw [i2 i (by omega) him]
      by_cases he : j < mid + m - s
      · rw [i3 j hj he]
        have l := S.asymm (lt_ (by omega) (by omega))
        have a1 : lt d[j - (mid - s)]! d[s]! = false := sorted_le S h1 (by omega) (by omega) (by omega)
        have a2 : lt d[mid + m - 1 - s]! d[i + (m - s)]! = false := sorted_le S h2 (by omega) (by omega) (by omega)
        exact S.ntrans _ _ _ (S.ntrans _ _ _ a1 l) a2
      · rw [i4 j (by omega)]
        exact h2 _ _ (by omega) (by omega) (by omega)

/-- The two halves merged: the whole is. -/
theorem halves (S : SWO lt) {d d1 d2 d3 : Array α} {a m b mid s : Nat} (hb : b ≤ d.size) (h : CutAt lt d a m b mid s) (h1 : SortedIn lt a m d) (h2 : SortedIn lt m b d) (hr : RotOf s m (mid + m - s) d d1)
    (hL : (a < s ∧ s < mid ∧ SMof lt a mid d1 d2) ∨ (¬ (a < s ∧ s < mid) ∧ d2 = d1)) (hR : (mid < mid + m - s ∧ mid + m - s < b ∧ SMof lt mid b d2 d3) ∨ (¬ (mid < mid + m - s ∧ mid + m - s < b) ∧ d3 = d2)) : SMof lt a b d d3 := by
  obtain ⟨q1, q2, q3, q4, q5⟩ := h.all S h1 h2 hr
  obtain ⟨am, mb, hmid, lo, sm, smid, eb, me, _, _⟩ := h
  have hz1 := hr.size
  have L : SMof lt a mid d1 d2 := by
    rcases hL with ⟨_, _, h⟩ | ⟨h, rfl⟩
    · exact h
    · refine ⟨permIn_refl _ _ _, ?_⟩
      rcases Nat.lt_or_ge a s with h' | h'
      · obtain rfl : s = mid := by omega
        exact q1
      · obtain rfl : a = s := by omega
        exact q2
  have hz2 := L.1.1
  have keep : ∀ p, mid ≤ p → d2[p]! = d1[p]! := fun p hp => L.1.2.1 p (.inr hp)
  have R : SMof lt mid b d2 d3 := by
    rcases hR with ⟨_, _, h⟩ | ⟨h, rfl⟩
    · exact h
    · refine ⟨permIn_refl _ _ _, ?_⟩
      rcases Nat.lt_or_ge mid (mid + m - s) with h' | h'
      · have e : mid + m - s = b := by omega
        rw [e] at q3
        exact q3.congr fun p hp _ => keep p hp
      · have e : mid + m - s = mid := by omega
        rw [e] at q4
        exact q4.congr fun p hp _ => keep p hp
  have keep3 : ∀ p, p < mid → d3[p]! = d2[p]! := fun p hp => R.1.2.1 p (.inl hp)
  refine ⟨permIn_trans _ _ _ _ _ (permIn_trans _ _ _ _ _ (permIn_mono' lo eb hb hr.perm) (permIn_mono' (Nat.le_refl _) (by omega) (by omega) L.1)) (permIn_mono' (by omega) (Nat.le_refl _) (by omega) R.1), fun i j hi hij hj => ?_⟩
  have c1 : ∀ i, a ≤ i → i < mid → ∀ j, mid ≤ j → j < b → lt d1[j]! d2[i]! = false := permIn_all d1 d2 a mid (fun x => ∀ j, mid ≤ j → j < b → lt d1[j]! x = false) (by omega) L.1 fun i hi him j hj hjb => q5 i j hi him hj hjb
  have c2 : ∀ j, mid ≤ j → j < b → ∀ i, a ≤ i → i < mid → lt d3[j]! d2[i]! = false := permIn_all d2 d3 mid b (fun y => ∀ i, a ≤ i → i < mid → lt y d2[i]! = false) (by omega) R.1 fun j hj hjb i hi him => by rw [keep j hj]; exact c1 i hi him j hj hjb
  rcases Nat.lt_or_ge j mid with hjm | hjm
  · rw [keep3 i (by omega), keep3 j hjm]
    exact L.2 i j hi hij hjm
  · rcases Nat.lt_or_ge i mid with him | him
    · rw [keep3 i him]
      exact c2 j hjm hj i hi him
    · exact R.2 i j him hij hj

/-- What the search knows between two looks. -/
structure Seek (lt : α → α → Bool) (d : Array α) (lo hi p s r : Nat) : Prop where
  ls : lo ≤ s
  sr : s ≤ r
  rh : r ≤ hi
  ge : ∀ c, lo ≤ c → c < s → lt d[p - c]! d[c]! = false
  lt_ : ∀ c, r ≤ c → c < hi → lt d[p - c]! d[c]! = true
theorem Seek.go (S : SWO lt) {d : Array α} {a m b lo hi p s r c : Nat} (h : Seek lt d lo hi p s r) (h1 : SortedIn lt a m d) (h2 : SortedIn lt m b d) (hal : a ≤ lo) (hhm : hi ≤ m) (hp : ∀ c, lo ≤ c → c < hi → m ≤ p - c ∧ p - c < b ∧ c ≤ p) (hs : s ≤ c) (hr : c < r) (ht : lt d[p - c]! d[c]! = false) : Seek lt d lo hi p (c + 1) r := by
  have := h.ls; have := h.rh
  refine ⟨by omega, by omega, h.rh, fun x hx hxc => ?_, h.lt_⟩
  have a0 := hp x hx (by omega)
  have a1 := hp c (by omega) (by omega)
  have e1 : lt d[p - x]! d[p - c]! = false := sorted_le S h2 (by omega) (by omega) (by omega)
  have e2 : lt d[c]! d[x]! = false := sorted_le S h1 (by omega) (by omega) (by omega)
  exact S.ntrans _ _ _ (S.ntrans _ _ _ e1 ht) e2
theorem Seek.back (S : SWO lt) {d : Array α} {a m b lo hi p s r c : Nat} (h : Seek lt d lo hi p s r) (h1 : SortedIn lt a m d) (h2 : SortedIn lt m b d) (hal : a ≤ lo) (hhm : hi ≤ m) (hp : ∀ c, lo ≤ c → c < hi → m ≤ p - c ∧ p - c < b ∧ c ≤ p) (hs : s ≤ c) (hr : c < r) (ht : lt d[p - c]! d[c]! = true) : Seek lt d lo hi p s c := by
  have := h.ls; have := h.rh
  refine ⟨h.ls, by omega, by omega, h.ge, fun x hx hxh => ?_⟩
  have a0 := hp x (by omega) hxh
  have a1 := hp c (by omega) (by omega)
  have e1 : lt d[p - c]! d[p - x]! = false := sorted_le S h2 (by omega) (by omega) (by omega)
  have e2 : lt d[x]! d[c]! = false := sorted_le S h1 (by omega) (by omega) (by omega)
  cases hx' : lt d[p - x]! d[x]! with
  | true => rfl
  | false =>
    rw [S.ntrans _ _ _ (S.ntrans _ _ _ e1 hx') e2] at ht
    cases ht
/-- The bounds between which it looks. -/
def seekLo (a m b mid : Nat) : Nat := if mid < m then mid + m - b else a
def seekHi (m mid : Nat) : Nat := if mid < m then mid else m
theorem seek_at {a m b mid c : Nat} (am : a < m) (mb : m < b) (hmid : mid = (a + b) / 2) (h1 : seekLo a m b mid ≤ c) (h2 : c < seekHi m mid) : m ≤ mid + m - 1 - c ∧ mid + m - 1 - c < b ∧ c ≤ mid + m - 1 := by
  unfold seekLo at h1
  unfold seekHi at h2
  by_cases h : mid < m
  · rw [if_pos h] at h1 h2
    omega
  · rw [if_neg h] at h1 h2
    omega
theorem seek_lo {a m b mid : Nat} (am : a < m) (mb : m < b) (hmid : mid = (a + b) / 2) : a ≤ seekLo a m b mid ∧ seekLo a m b mid ≤ seekHi m mid ∧ seekHi m mid ≤ m := by
  unfold seekLo seekHi
  split <;> omega
theorem Seek.cut {d : Array α} {a m b mid s : Nat} (am : a < m) (mb : m < b) (hmid : mid = (a + b) / 2) (h : Seek lt d (seekLo a m b mid) (seekHi m mid) (mid + m - 1) s s) : CutAt lt d a m b mid s := by
  obtain ⟨ls, _, rh, ge, lt_⟩ := h
  have g1 := seek_lo am mb hmid
  have e1 : (mid < m ∧ seekLo a m b mid = mid + m - b ∧ seekHi m mid = mid) ∨ (m ≤ mid ∧ seekLo a m b mid = a ∧ seekHi m mid = m) := by
    unfold seekLo seekHi
    by_cases h : mid < m
    · exact .inl ⟨h, if_pos h, if_pos h⟩
    · exact .inr ⟨by omega, if_neg h, if_neg h⟩
  generalize seekLo a m b mid = lo at *
  generalize seekHi m mid = hi at *
  refine ⟨am, mb, hmid, by omega, by omega, by omega, by omega, by omega, fun c h1 h2 h3 => ?_, fun h1 h2 => lt_ s (Nat.le_refl _) (by omega)⟩
  subst h3
  have := ge (s - 1) (by omega) (by omega)
  rw [show mid + m - 1 - (s - 1) = mid + m - s by omega] at this
  exact this

/-- Blocks of so many places, each sorted; the last one may be shorter. -/
def BlkS (lt : α → α → Bool) (d : Array α) (n bs x : Nat) : Prop := SortedIn lt x (min (x + bs) n) d
theorem smof_keeps {d d' : Array α} {a b x y : Nat} (h : SMof lt a b d d') (hx : y ≤ a ∨ b ≤ x) (hs : SortedIn lt x y d) : SortedIn lt x y d' :=
  hs.congr fun p hp hq => h.1.2.1 p (by omega)
end
end Go.Proofs.Ytpodgocmcnkfdaa
