/- Versions and edits in plain words: what an edit makes of a version; what many make, one behind the other. -/
import Derived.Test.YtpodgocmcnkfdaaRChk
import Derived.Sort.Statements
namespace Go.Proofs.Ytpodgocmcnkfdaa

/-- A version; an edit. -/
structure Vn where
  log : Int
  next : Int
  seq : Int
  tabs : List Pl
structure Ed where
  log : Int
  next : Int
  seq : Int
  add : List Pl
  drop : List Int
def vn0 : Vn := ⟨0, 0, 0, []⟩
def checkV (v : Vn) : Bool := checkL apartL v.log v.next v.seq v.tabs

/-! ### the order of tables -/
theorem compareBytes_irr (x : List UInt8) : ¬ Lib.compareBytes x x < 0 := by
  rw [(compareBytes_zero x x).2 rfl]
  omega
theorem compareBytes_ntr (x y z : List UInt8) (h1 : ¬ Lib.compareBytes x y < 0) (h2 : ¬ Lib.compareBytes y z < 0) : ¬ Lib.compareBytes x z < 0 := by
  intro h
  have a1 := compareBytes_anti x y
  have a2 := compareBytes_anti y z
  have h3 : Lib.compareBytes y x ≤ 0 := by omega
  have h4 := compareBytes_le_lt h3 h
  exact h2 h4

theorem sortsL_irr (p : Pl) : sortsL p p = false := by
  unfold sortsL
  rw [if_neg (by simp)]
  split
  · simp
  · simpa using compareBytes_irr _
theorem sortsL_tr (p q r : Pl) (h1 : sortsL p q = true) (h2 : sortsL q r = true) : sortsL p r = true := by
  unfold sortsL at h1 h2 ⊢
  by_cases e1 : p.level = q.level
  · rw [if_neg (by simpa using e1)] at h1
    by_cases e2 : q.level = r.level
    · rw [if_neg (by simpa using e2)] at h2
      rw [if_neg (by simpa using e1.trans e2)]
      by_cases e3 : p.level = 0
      · rw [if_pos e3] at h1 ⊢
        rw [if_pos (by omega)] at h2
        simp only [decide_eq_true_eq] at *
        omega
      · rw [if_neg e3] at h1 ⊢
        rw [if_neg (by omega)] at h2
        simp only [decide_eq_true_eq] at *
        exact compareBytes_trans _ _ _ h1 h2
    · rw [if_pos e2] at h2
      rw [if_pos (by omega)]
      simp only [decide_eq_true_eq] at *
      omega
  · rw [if_pos e1] at h1
    simp only [decide_eq_true_eq] at h1
    by_cases e2 : q.level = r.level
    · rw [if_pos (by omega)]
      simp only [decide_eq_true_eq]
      omega
    · rw [if_pos e2] at h2
      simp only [decide_eq_true_eq] at h2
      rw [if_pos (by omega)]
      simp only [decide_eq_true_eq]
      omega
theorem sortsL_ntr (p q r : Pl) (h1 : sortsL p q = false) (h2 : sortsL q r = false) : sortsL p r = false := by
  unfold sortsL at h1 h2 ⊢
  by_cases e1 : p.level = q.level
  · rw [if_neg (by simpa using e1)] at h1
    by_cases e2 : q.level = r.level
    · rw [if_neg (by simpa using e2)] at h2
      rw [if_neg (by simpa using e1.trans e2)]
      by_cases e3 : p.level = 0
      · rw [if_pos e3] at h1 ⊢
        rw [if_pos (by omega)] at h2
        simp only [decide_eq_false_iff_not] at *
        omega
      · rw [if_neg e3] at h1 ⊢
        rw [if_neg (by omega)] at h2
        simp only [decide_eq_false_iff_not] at *
        exact compareBytes_ntr _ _ _ h1 h2
    · rw [if_pos e2] at h2
      simp only [decide_eq_false_iff_not] at h2
      rw [if_pos (by omega)]
      simp only [decide_eq_false_iff_not]
      omega
  · rw [if_pos e1] at h1
    simp only [decide_eq_false_iff_not] at h1
    by_cases e2 : q.level = r.level
    · rw [if_pos (by omega)]
      simp only [decide_eq_false_iff_not]
      omega
    · rw [if_pos e2] at h2
      simp only [decide_eq_false_iff_not] at h2
      rw [if_pos (by omega)]
      simp only [decide_eq_false_iff_not]
      omega
theorem sortsL_swo : Go.Sort.SWO sortsL := ⟨sortsL_irr, sortsL_tr, sortsL_ntr⟩
theorem sortsL_asym {p q : Pl} (h : sortsL p q = true) : sortsL q p = false := by
  cases h2 : sortsL q p with
  | false => rfl
  | true => have := sortsL_tr _ _ _ h h2; rw [sortsL_irr] at this; cases this

/-- Sorted: none stands behind one that comes to stand behind it. Strictly: each stands ahead. -/
def SortedL (l : List Pl) : Prop := l.Pairwise fun p q => sortsL q p = false
def StrictL (l : List Pl) : Prop := l.Pairwise fun p q => sortsL p q = true
theorem StrictL.sorted {l : List Pl} (h : StrictL l) : SortedL l := h.imp fun h => sortsL_asym h

theorem apart_sorts {p q : Pl} (h : apartL p q = true) : sortsL p q = true := by
  unfold apartL at h
  rw [ordL_sorts] at h
  simp only [Bool.and_eq_true] at h
  exact h.1
/-- The tables of a version that may be: each may be, no number stands twice, each may stand behind the one ahead of it. -/
theorem tabsK_strict (next : Int) : ∀ (r d : List Pl), tabsK apartL next d r = true → StrictL r ∧ ∀ q, d.getLast? = some q → ∀ p ∈ r, sortsL q p = true
  | [], d, _ => ⟨List.Pairwise.nil, fun _ _ _ h => by cases h⟩
  | p :: r, d, h => by
    rw [tabsK] at h
    simp only [Bool.and_eq_true] at h
    obtain ⟨h1, h2, h3, h4⟩ := h
    obtain ⟨i1, i2⟩ := tabsK_strict next r (d ++ [p]) h4
    have hp := i2 p (by simp)
    refine ⟨List.pairwise_cons.2 ⟨hp, i1⟩, fun q hq x hx => ?_⟩
    have hqp : sortsL q p = true := by
      unfold behindP at h3
      rw [hq] at h3
      exact apart_sorts h3
    rcases List.mem_cons.1 hx with rfl | hx
    · exact hqp
    · exact sortsL_tr _ _ _ hqp (hp x hx)
theorem checkL_strict {log next seq : Int} {l : List Pl} (h : checkL apartL log next seq l = true) : StrictL l := by
  unfold checkL at h
  simp only [Bool.and_eq_true] at h
  exact (tabsK_strict next l [] h.2).1

/-- Two rows of the same tables, both sorted: may one be, they are the same. -/
theorem strict_ext {S T : List Pl} (hp : S.Perm T) (hS : StrictL S) (hT : SortedL T) : S = T := by
  refine hp.eq_of_pairwise (le := fun a b => sortsL b a = false) (fun a b ha hb h1 h2 => ?_) hS.sorted hT
  have hb' : b ∈ S := hp.mem_iff.2 hb
  obtain ⟨i, hi, rfl⟩ := List.getElem_of_mem ha
  obtain ⟨j, hj, rfl⟩ := List.getElem_of_mem hb'
  rcases Nat.lt_trichotomy i j with h | h | h
  · have := List.pairwise_iff_getElem.1 hS i j hi hj h
    rw [this] at h2
    cases h2
  · subst h; rfl
  · have := List.pairwise_iff_getElem.1 hS j i hj hi h
    rw [this] at h1
    cases h1
theorem sorted_check {S T : List Pl} (log next seq : Int) (hp : S.Perm T) (hS : SortedL S) (hT : SortedL T) : checkL apartL log next seq S = checkL apartL log next seq T ∧ (checkL apartL log next seq T = true → S = T) := by
  cases h1 : checkL apartL log next seq S with
  | true =>
    have e := strict_ext hp (checkL_strict h1) hT
    rw [← e, h1]
    exact ⟨rfl, fun _ => rfl⟩
  | false =>
    cases h2 : checkL apartL log next seq T with
    | true =>
      have e := strict_ext hp.symm (checkL_strict h2) hS
      rw [e, h1] at h2
      cases h2
    | false => exact ⟨rfl, fun h => by cases h⟩

/-! ### an edit -/
def hasI (l : List Int) (n : Int) : Bool := l.any fun m => decide (m = n)
theorem hasI_mem (l : List Int) (n : Int) : hasI l n = true ↔ n ∈ l := by
  unfold hasI
  simp
/-- No number stands twice (d: those ahead). -/
def onceK : List Int → List Int → Bool
  | _, [] => true
  | d, n :: r => !(hasI d n) && onceK (d ++ [n]) r
theorem onceK_at (l : List Int) (k : Nat) (hk : k < l.length) : onceK (l.take k) (l.drop k) = (!(hasI (l.take k) l[k]) && onceK (l.take (k + 1)) (l.drop (k + 1))) := by
  rw [List.drop_eq_getElem_cons hk, onceK, List.take_succ_eq_append_getElem hk]
theorem onceK_end (l : List Int) (k : Nat) (hk : l.length ≤ k) : onceK (l.take k) (l.drop k) = true := by
  rw [List.drop_of_length_le hk, onceK]
theorem onceK_iff : ∀ (r d : List Int), onceK d r = true ↔ r.Nodup ∧ ∀ n ∈ r, n ∉ d
  | [], d => by simp [onceK]
  | n :: r, d => by
    rw [onceK, Bool.and_eq_true, onceK_iff r (d ++ [n]), List.nodup_cons]
    have : (!hasI d n) = true ↔ n ∉ d := by
      rw [← hasI_mem]
      cases hasI d n <;> simp
    rw [this]
    constructor
    · rintro ⟨h1, h2, h3⟩
      refine ⟨⟨fun h => h3 n h (by simp), h2⟩, fun m hm => ?_⟩
      rcases List.mem_cons.1 hm with rfl | hm
      · exact h1
      · exact fun h => h3 m hm (by simp [h])
    · rintro ⟨⟨h1, h2⟩, h3⟩
      refine ⟨h3 n List.mem_cons_self, h2, fun m hm h => ?_⟩
      rcases List.mem_append.1 h with h | h
      · exact h3 m (List.mem_cons_of_mem _ hm) h
      · rw [List.mem_singleton.1 h] at hm
        exact h1 hm
def keptL (drop : List Int) (l : List Pl) : List Pl := l.filter fun p => !(hasI drop p.num)
theorem keptL_succ (drop : List Int) (l : List Pl) (k : Nat) (hk : k < l.length) : keptL drop (l.take (k + 1)) = if hasI drop l[k].num = true then keptL drop (l.take k) else keptL drop (l.take k) ++ [l[k]] := by
  unfold keptL
  rw [List.take_succ_eq_append_getElem hk, List.filter_append]
  cases h : hasI drop l[k].num <;> simp [h]
theorem keptL_le (drop : List Int) (l : List Pl) : (keptL drop l).length ≤ l.length := List.length_filter_le _ _
/-- A table laid ahead of the first one that comes to stand behind it. -/
def insT (p : Pl) : List Pl → List Pl
  | [] => [p]
  | q :: r => if sortsL p q = true then p :: q :: r else q :: insT p r
/-- How many of a row stand ahead of a table. -/
def placeT (p : Pl) : List Pl → Nat
  | [] => 0
  | q :: r => if sortsL p q = true then 0 else placeT p r + 1
theorem placeT_le (p : Pl) : ∀ l : List Pl, placeT p l ≤ l.length
  | [] => Nat.le_refl _
  | q :: r => by
    unfold placeT
    have := placeT_le p r
    split <;> simp <;> omega
theorem placeT_lt (p : Pl) : ∀ (l : List Pl) (k : Nat) (hk : k < l.length), k < placeT p l → sortsL p l[k] = false
  | q :: r, k, hk, h => by
    unfold placeT at h
    by_cases hq : sortsL p q = true
    · rw [if_pos hq] at h; omega
    · rw [if_neg hq] at h
      match k with
      | 0 => simpa using hq
      | k + 1 => simpa using placeT_lt p r k (by simpa using hk) (by omega)
theorem placeT_at (p : Pl) : ∀ (l : List Pl) (h : placeT p l < l.length), sortsL p l[placeT p l] = true
  | q :: r, h => by
    unfold placeT at h ⊢
    by_cases hq : sortsL p q = true
    · simpa [if_pos hq] using hq
    · simp only [if_neg hq] at h ⊢
      simpa using placeT_at p r (by simpa using h)
theorem placeT_of (p : Pl) (l : List Pl) (k : Nat) (hk : k ≤ l.length) (h1 : ∀ i (hi : i < l.length), i < k → sortsL p l[i] = false) (h2 : ∀ h : k < l.length, sortsL p l[k] = true) : placeT p l = k := by
  rcases Nat.lt_trichotomy (placeT p l) k with h | h | h
  · have a := placeT_at p l (by omega)
    have b := h1 (placeT p l) (by omega) h
    rw [a] at b; cases b
  · exact h
  · have hl := placeT_le p l
    have a := placeT_lt p l k (by omega) h
    have b := h2 (by omega)
    rw [a] at b; cases b
theorem insT_eq (p : Pl) : ∀ l : List Pl, insT p l = l.take (placeT p l) ++ [p] ++ l.drop (placeT p l)
  | [] => rfl
  | q :: r => by
    unfold insT placeT
    by_cases hq : sortsL p q = true
    · rw [if_pos hq, if_pos hq]; rfl
    · rw [if_neg hq, if_neg hq, insT_eq p r]; simp
theorem insT_perm (p : Pl) : ∀ l : List Pl, (insT p l).Perm (p :: l)
  | [] => List.Perm.refl _
  | q :: r => by
    unfold insT
    by_cases hq : sortsL p q = true
    · rw [if_pos hq]
    · rw [if_neg hq]
      exact ((insT_perm p r).cons q).trans (List.Perm.swap p q r)
theorem insT_sorted (p : Pl) : ∀ l : List Pl, SortedL l → SortedL (insT p l)
  | [], _ => List.pairwise_singleton _ _
  | q :: r, h => by
    obtain ⟨h1, h2⟩ := List.pairwise_cons.1 h
    unfold insT
    by_cases hq : sortsL p q = true
    · rw [if_pos hq]
      refine List.pairwise_cons.2 ⟨fun x hx => ?_, h⟩
      rcases List.mem_cons.1 hx with rfl | hx
      · exact sortsL_asym hq
      · cases h3 : sortsL x p with
        | false => rfl
        | true => have := sortsL_tr _ _ _ h3 hq; rw [h1 x hx] at this; cases this
    · rw [if_neg hq]
      refine List.pairwise_cons.2 ⟨fun x hx => ?_, insT_sorted p r h2⟩
      rcases List.mem_cons.1 ((insT_perm p r).mem_iff.1 hx) with rfl | hx
      · simpa using hq
      · exact h1 x hx
def sortT (l add : List Pl) : List Pl := add.foldl (fun l p => insT p l) l
theorem sortT_succ (l add : List Pl) (k : Nat) (hk : k < add.length) : sortT l (add.take (k + 1)) = insT add[k] (sortT l (add.take k)) := by
  unfold sortT
  rw [List.take_succ_eq_append_getElem hk, List.foldl_append]
  rfl
theorem sortT_perm : ∀ (add l : List Pl), (sortT l add).Perm (l ++ add)
  | [], l => by simp [sortT]
  | p :: add, l => by
    refine (sortT_perm add (insT p l)).trans (((insT_perm p l).append_right add).trans ?_)
    exact List.perm_middle.symm
theorem sortT_length (l add : List Pl) : (sortT l add).length = l.length + add.length := by
  rw [(sortT_perm add l).length_eq, List.length_append]
theorem sortT_sorted : ∀ (add l : List Pl), SortedL l → SortedL (sortT l add)
  | [], _, h => h
  | p :: add, l, h => sortT_sorted add _ (insT_sorted p l h)

/-- What an edit makes of a version, with the error's number. -/
def okE (v : Vn) (e : Ed) : Bool := decide (v.log ≤ e.log) && (decide (v.next ≤ e.next) && (decide (v.seq ≤ e.seq) && (onceK [] e.drop && decide ((keptL e.drop v.tabs).length + e.drop.length = v.tabs.length))))
def madeE (v : Vn) (e : Ed) : Vn := ⟨e.log, e.next, e.seq, sortT (keptL e.drop v.tabs) e.add⟩
def applyL (v : Vn) (e : Ed) : Vn × Int := if checkV v = true then if okE v e = true ∧ checkV (madeE v e) = true then (madeE v e, 0) else (vn0, 81) else (vn0, 80)
theorem kept_sorted {v : Vn} (h : checkV v = true) (drop : List Int) : StrictL (keptL drop v.tabs) := (checkL_strict h).filter _
/-- The program's way to it: the kept tables and those that are added, sorted as it likes. -/
theorem applyL_sorted {v : Vn} {e : Ed} (h1 : checkV v = true) {S : List Pl} (hp : S.Perm (keptL e.drop v.tabs ++ e.add)) (hS : SortedL S) :
    checkL apartL e.log e.next e.seq S = checkV (madeE v e) ∧ (checkV (madeE v e) = true → S = (madeE v e).tabs) := by
  exact sorted_check _ _ _ (hp.trans (sortT_perm _ _).symm) hS (sortT_sorted _ _ (kept_sorted h1 _).sorted)
theorem applyL_bad {v : Vn} {e : Ed} (h : checkV v = false) : applyL v e = (vn0, 80) := by
  unfold applyL
  rw [if_neg (by simp [h])]
theorem applyL_no {v : Vn} {e : Ed} (h1 : checkV v = true) (h : okE v e = false) : applyL v e = (vn0, 81) := by
  unfold applyL
  rw [if_pos h1, if_neg (by simp [h])]
theorem applyL_not {v : Vn} {e : Ed} (h1 : checkV v = true) (h : checkV (madeE v e) = false) : applyL v e = (vn0, 81) := by
  unfold applyL
  rw [if_pos h1, if_neg (by simp [h])]
theorem applyL_ok {v : Vn} {e : Ed} (h1 : checkV v = true) (h2 : okE v e = true) (h : checkV (madeE v e) = true) : applyL v e = (madeE v e, 0) := by
  unfold applyL
  rw [if_pos h1, if_pos ⟨h2, h⟩]
theorem applyL_cases (v : Vn) (e : Ed) : (applyL v e).2 = 0 ∧ checkV v = true ∧ okE v e = true ∧ checkV (madeE v e) = true ∧ (applyL v e).1 = madeE v e ∨ (applyL v e).2 ≠ 0 ∧ (applyL v e).1 = vn0 := by
  cases h1 : checkV v with
  | false => rw [applyL_bad h1]; exact .inr ⟨by decide, rfl⟩
  | true =>
    cases h2 : okE v e with
    | false => rw [applyL_no h1 h2]; exact .inr ⟨by decide, rfl⟩
    | true =>
      cases h3 : checkV (madeE v e) with
      | false => rw [applyL_not h1 h3]; exact .inr ⟨by decide, rfl⟩
      | true => rw [applyL_ok h1 h2 h3]; exact .inl ⟨rfl, rfl, rfl, rfl, rfl⟩
theorem checkV0 : checkV vn0 = true := by decide
theorem applyL_check (v : Vn) (e : Ed) : checkV (applyL v e).1 = true := by
  rcases applyL_cases v e with ⟨_, _, _, h, h'⟩ | ⟨_, h⟩
  · rw [h']; exact h
  · rw [h]; exact checkV0
theorem okE_once {v : Vn} {e : Ed} (h : onceK [] e.drop = false) : okE v e = false := by
  unfold okE
  rw [h]
  simp
theorem okE_len {v : Vn} {e : Ed} (h : (keptL e.drop v.tabs).length + e.drop.length ≠ v.tabs.length) : okE v e = false := by
  unfold okE
  rw [decide_eq_false h]
  simp
theorem okE_log {v : Vn} {e : Ed} (h : e.log < v.log) : okE v e = false := by
  unfold okE
  rw [decide_eq_false (show ¬ v.log ≤ e.log by omega)]
  simp
theorem okE_next {v : Vn} {e : Ed} (h : e.next < v.next) : okE v e = false := by
  unfold okE
  rw [decide_eq_false (show ¬ v.next ≤ e.next by omega)]
  simp
theorem okE_seq {v : Vn} {e : Ed} (h : e.seq < v.seq) : okE v e = false := by
  unfold okE
  rw [decide_eq_false (show ¬ v.seq ≤ e.seq by omega)]
  simp
theorem okE_all {v : Vn} {e : Ed} (h1 : ¬ e.log < v.log) (h2 : ¬ e.next < v.next) (h3 : ¬ e.seq < v.seq) (h4 : onceK [] e.drop = true) (h5 : (keptL e.drop v.tabs).length + e.drop.length = v.tabs.length) : okE v e = true := by
  unfold okE
  rw [decide_eq_true (show v.log ≤ e.log by omega), decide_eq_true (show v.next ≤ e.next by omega), decide_eq_true (show v.seq ≤ e.seq by omega), h4, decide_eq_true h5]
  rfl

/-- Edits, one behind the other. -/
def allL : Vn → List Ed → Vn × Int
  | v, [] => (v, 0)
  | v, e :: l => if (applyL v e).2 = 0 then allL (applyL v e).1 l else (vn0, (applyL v e).2)
theorem allL_check : ∀ (l : List Ed) (v : Vn), checkV v = true → checkV (allL v l).1 = true
  | [], v, h => h
  | e :: l, v, h => by
    unfold allL
    split
    · exact allL_check l _ (applyL_check v e)
    · exact checkV0
end Go.Proofs.Ytpodgocmcnkfdaa
