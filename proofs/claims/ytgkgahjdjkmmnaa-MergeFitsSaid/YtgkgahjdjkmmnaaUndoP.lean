/- Which versions may be, in plain words: every table may be, no number stands twice, each stands apart from all behind it. What is added and then dropped leaves the version as it was; on a level above 0 no two tables have a key in common. -/
import Derived.Test.YtgkgahjdjkmmnaaAppP
import Derived.Test.YtgkgahjdjkmmnaaOver
namespace Go.Proofs.Ytgkgahjdjkmmnaa

theorem tableL_le {p : Pl} {next : Int} (h : tableL p next = true) : Lib.compareBytes p.least p.most ≤ 0 := by
  unfold tableL at h
  simp only [Bool.and_eq_true, decide_eq_true_eq] at h
  exact h.2.2.2.2.2.2.2.2
theorem tableL_mono {p : Pl} {n m : Int} (h : tableL p n = true) (hm : n ≤ m) : tableL p m = true := by
  unfold tableL at h ⊢
  simp only [Bool.and_eq_true, decide_eq_true_eq] at h ⊢
  exact ⟨h.1, by omega, h.2.2⟩
theorem sorts_level {p q : Pl} (h : sortsL p q = true) : p.level ≤ q.level := by
  unfold sortsL at h
  by_cases e : p.level = q.level
  · omega
  · rw [if_pos e] at h
    simp at h
    omega
theorem apart_most {p q : Pl} (h : apartL p q = true) (h1 : p.level = q.level) (h2 : p.level ≠ 0) : Lib.compareBytes p.most q.least < 0 := by
  unfold apartL at h
  simp only [Bool.and_eq_true, Bool.or_eq_true, decide_eq_true_eq] at h
  rcases h.2 with h3 | h3 | h3
  · exact absurd h1 h3
  · exact absurd h3 h2
  · exact h3
theorem apart_of {p q : Pl} (h1 : sortsL p q = true) (h2 : p.level = q.level → p.level ≠ 0 → Lib.compareBytes p.most q.least < 0) : apartL p q = true := by
  unfold apartL
  rw [ordL_sorts, h1, Bool.true_and]
  by_cases e : p.level = q.level
  · by_cases e0 : p.level = 0
    · simp [e0]
    · simp [h2 e e0]
  · simp [e]
theorem apart_trans {p q r : Pl} {next : Int} (h1 : apartL p q = true) (h2 : apartL q r = true) (hq : tableL q next = true) : apartL p r = true := by
  have s1 := apart_sorts h1
  have s2 := apart_sorts h2
  refine apart_of (sortsL_tr _ _ _ s1 s2) fun e e0 => ?_
  have l1 := sorts_level s1
  have l2 := sorts_level s2
  have a1 := apart_most h1 (by omega) e0
  have a2 := apart_most h2 (by omega) (by omega)
  exact compareBytes_trans _ _ _ a1 (compareBytes_le_lt (tableL_le hq) a2)

theorem tabsK_all (next : Int) : ∀ (r d : List Pl), tabsK apartL next d r = true → (∀ q, d.getLast? = some q → tableL q next = true) →
    (∀ p ∈ r, tableL p next = true) ∧ (r.map (·.num)).Nodup ∧ (∀ p ∈ r, ∀ q ∈ d, q.num ≠ p.num) ∧ r.Pairwise (fun p q => apartL p q = true) ∧ ∀ q, d.getLast? = some q → ∀ p ∈ r, apartL q p = true
  | [], d, _, _ => ⟨(fun p hp => by simp at hp), by simp, (fun p hp => by simp at hp), List.Pairwise.nil, fun q _ p hp => by simp at hp⟩
  | p :: r, d, h, hd => by
    rw [tabsK] at h
    simp only [Bool.and_eq_true] at h
    obtain ⟨h1, h2, h3, h4⟩ := h
    obtain ⟨i1, i2, i3, i4, i5⟩ := tabsK_all next r (d ++ [p]) h4 (fun q hq => by simp at hq; rw [← hq]; exact h2)
    have hpr := i5 p (by simp)
    have hdp : ∀ q ∈ d, q.num ≠ p.num := fun q hq e => by
      simp only [Bool.not_eq_true', List.any_eq_false, decide_eq_true_eq] at h1
      exact h1 q hq e
    refine ⟨fun x hx => ?_, ?_, fun x hx q hq => ?_, List.pairwise_cons.2 ⟨hpr, i4⟩, fun q hq x hx => ?_⟩
    · rcases List.mem_cons.1 hx with rfl | hx
      · exact h2
      · exact i1 x hx
    · rw [List.map_cons, List.nodup_cons]
      refine ⟨fun hm => ?_, i2⟩
      obtain ⟨x, hx, e⟩ := List.mem_map.1 hm
      exact i3 x hx p (by simp) e.symm
    · rcases List.mem_cons.1 hx with rfl | hx
      · exact hdp q hq
      · exact i3 x hx q (List.mem_append_left _ hq)
    · have hqp : apartL q p = true := by
        unfold behindP at h3
        rw [hq] at h3
        exact h3
      rcases List.mem_cons.1 hx with rfl | hx
      · exact hqp
      · exact apart_trans hqp (hpr x hx) h2
theorem tabsK_of (next : Int) : ∀ (r d : List Pl), (∀ p ∈ r, tableL p next = true) → (r.map (·.num)).Nodup → (∀ p ∈ r, ∀ q ∈ d, q.num ≠ p.num) → r.Pairwise (fun p q => apartL p q = true) → (∀ q, d.getLast? = some q → ∀ p ∈ r, apartL q p = true) → tabsK apartL next d r = true
  | [], d, _, _, _, _, _ => by rw [tabsK]
  | p :: r, d, h1, h2, h3, h4, h5 => by
    rw [tabsK]
    obtain ⟨p1, p2⟩ := List.pairwise_cons.1 h4
    rw [List.map_cons, List.nodup_cons] at h2
    have a1 : (!(d.any fun q => decide (q.num = p.num))) = true := by
      simp only [Bool.not_eq_true', List.any_eq_false, decide_eq_true_eq]
      exact fun q hq e => h3 p List.mem_cons_self q hq e
    have a3 : behindP apartL d p = true := by
      unfold behindP
      cases hq : d.getLast? with
      | none => rfl
      | some q => exact h5 q hq p List.mem_cons_self
    rw [a1, h1 p List.mem_cons_self, a3, tabsK_of next r (d ++ [p]) (fun x hx => h1 x (List.mem_cons_of_mem _ hx)) h2.2 (fun x hx q hq => ?_) p2 (fun q hq x hx => ?_)]
    · rfl
    · rcases List.mem_append.1 hq with hq | hq
      · exact h3 x (List.mem_cons_of_mem _ hx) q hq
      · rw [List.mem_singleton.1 hq]
        exact fun e => h2.1 (List.mem_map.2 ⟨x, hx, e.symm⟩)
    · simp at hq
      rw [← hq]
      exact p1 x hx
theorem checkL_iff (log next seq : Int) (l : List Pl) : checkL apartL log next seq l = true ↔ headL log next seq = true ∧ (∀ p ∈ l, tableL p next = true) ∧ (l.map (·.num)).Nodup ∧ l.Pairwise (fun p q => apartL p q = true) := by
  unfold checkL
  rw [Bool.and_eq_true]
  constructor
  · rintro ⟨h1, h2⟩
    obtain ⟨i1, i2, _, i4, _⟩ := tabsK_all next l [] h2 (fun q hq => by cases hq)
    exact ⟨h1, i1, i2, i4⟩
  · rintro ⟨h1, i1, i2, i4⟩
    exact ⟨h1, tabsK_of next l [] i1 i2 (fun p _ q hq => by cases hq) i4 (fun q hq => by cases hq)⟩

/-- On a level above 0 no two tables have a key in common. -/
theorem over_one {log next seq : Int} {l : List Pl} (h : checkL apartL log next seq l = true) (level : Int) (hl : 1 ≤ level) (key : List UInt8) : (overL l level key key).length ≤ 1 := by
  obtain ⟨_, h1, _, h3⟩ := (checkL_iff _ _ _ _).1 h
  unfold overL
  rw [List.length_map]
  have hf := h3.filter (overB level key key)
  have hm : ∀ p ∈ l.filter (overB level key key), overB level key key p = true := fun p hp => (List.mem_filter.1 hp).2
  generalize l.filter (overB level key key) = f at hf hm
  match f, hf, hm with
  | [], _, _ => exact Nat.zero_le _
  | [_], _, _ => exact Nat.le_refl _
  | p :: q :: _, hf, hm =>
    exfalso
    have ha := (List.pairwise_cons.1 hf).1 q List.mem_cons_self
    have hp := hm p List.mem_cons_self
    have hq := hm q (List.mem_cons_of_mem _ List.mem_cons_self)
    unfold overB at hp hq
    simp only [Bool.and_eq_true, decide_eq_true_eq] at hp hq
    have hx := apart_most ha (by omega) (by omega)
    have hy := compareBytes_le_lt hp.2.2 hx
    have hz := compareBytes_anti key q.least
    omega

/-- What is added by one edit and dropped by the next. -/
theorem undo_law {v : Vn} (hv : checkV v = true) (add : List Pl) (h : (applyL v ⟨v.log, v.next + 100, v.seq, add, []⟩).2 = 0) :
    let w := (applyL v ⟨v.log, v.next + 100, v.seq, add, []⟩).1
    let r := applyL w ⟨w.log, w.next, w.seq, [], add.map (·.num)⟩
    r.2 = 0 ∧ r.1.tabs = v.tabs := by
  intro w r
  rcases applyL_cases v ⟨v.log, v.next + 100, v.seq, add, []⟩ with ⟨_, _, _, h4, h5⟩ | ⟨h6, _⟩
  rotate_left
  · exact absurd h h6
  have hw : w = madeE v ⟨v.log, v.next + 100, v.seq, add, []⟩ := h5
  have hwc : checkV w = true := by rw [hw]; exact h4
  have hkl : keptL [] v.tabs = v.tabs := List.filter_eq_self.2 fun _ _ => rfl
  have hwt : w.tabs = sortT v.tabs add := by
    rw [hw]
    show sortT (keptL [] v.tabs) add = _
    rw [hkl]
  have hwl : w.log = v.log := by rw [hw]; rfl
  have hwn : w.next = v.next + 100 := by rw [hw]; rfl
  have hws : w.seq = v.seq := by rw [hw]; rfl
  obtain ⟨c1, c2, c3, c4⟩ := (checkL_iff _ _ _ _).1 hwc
  obtain ⟨d1, d2, d3, d4⟩ := (checkL_iff _ _ _ _).1 hv
  have hperm : w.tabs.Perm (v.tabs ++ add) := by rw [hwt]; exact sortT_perm add v.tabs
  have hnd : ((v.tabs ++ add).map (·.num)).Nodup := (hperm.map _).nodup_iff.1 c3
  rw [List.map_append, List.nodup_append] at hnd
  obtain ⟨n1, n2, n3⟩ := hnd
  have hk : (keptL (add.map (·.num)) w.tabs) = v.tabs := by
    have hp : (keptL (add.map (·.num)) w.tabs).Perm v.tabs := by
      refine (hperm.filter _).trans ?_
      rw [List.filter_append]
      have e1 : v.tabs.filter (fun p => !(hasI (add.map (·.num)) p.num)) = v.tabs := List.filter_eq_self.2 fun p hp => by
        cases hh : hasI (add.map (·.num)) p.num with
        | false => rfl
        | true => exact absurd rfl (n3 p.num (List.mem_map.2 ⟨p, hp, rfl⟩) p.num ((hasI_mem _ _).1 hh))
      have e2 : add.filter (fun p => !(hasI (add.map (·.num)) p.num)) = [] := List.filter_eq_nil_iff.2 fun p hp => by
        have : hasI (add.map (·.num)) p.num = true := (hasI_mem _ _).2 (List.mem_map.2 ⟨p, hp, rfl⟩)
        simp [this]
      rw [e1, e2, List.append_nil]
    exact strict_ext hp ((checkL_strict hwc).filter _) (checkL_strict hv).sorted
  have hok : okE w ⟨w.log, w.next, w.seq, [], add.map (·.num)⟩ = true := by
    refine okE_all (by show ¬ w.log < w.log; omega) (by show ¬ w.next < w.next; omega) (by show ¬ w.seq < w.seq; omega) ((onceK_iff _ _).2 ⟨n2, fun _ _ h => by cases h⟩) ?_
    show (keptL (add.map (·.num)) w.tabs).length + (add.map (·.num)).length = w.tabs.length
    rw [hk, List.length_map, hperm.length_eq, List.length_append]
  have hm : madeE w ⟨w.log, w.next, w.seq, [], add.map (·.num)⟩ = ⟨w.log, w.next, w.seq, v.tabs⟩ := by
    unfold madeE
    show (⟨w.log, w.next, w.seq, sortT (keptL (add.map (·.num)) w.tabs) []⟩ : Vn) = _
    rw [hk]
    rfl
  have hmc : checkV (madeE w ⟨w.log, w.next, w.seq, [], add.map (·.num)⟩) = true := by
    rw [hm]
    exact (checkL_iff _ _ _ _).2 ⟨c1, fun p hp => tableL_mono (d2 p hp) (by show v.next ≤ w.next; omega), d3, d4⟩
  have hr : r = (madeE w ⟨w.log, w.next, w.seq, [], add.map (·.num)⟩, 0) := applyL_ok hwc hok hmc
  rw [hr, hm]
  exact ⟨rfl, rfl⟩
end Go.Proofs.Ytgkgahjdjkmmnaa
