/- The law MergeFits, walked. -/
import Derived.Test.YtgkgahjdjkmmnaaUndoP
import Derived.Test.YtgkgahjdjkmmnaaPick
import Derived.Test.YtgkgahjdjkmmnaaHas
import Derived.Test.YtgkgahjdjkmmnaaV4
import Derived.Test.YtgkgahjdjkmmnaaAppW
import Derived.Test.YtgkgahjdjkmmnaaWakes09
/- What is picked for a merge may go one level lower: in plain words. -/
namespace Go.Proofs.Ytgkgahjdjkmmnaa

theorem compareBytes_le_le {a b c : List UInt8} (h1 : Lib.compareBytes a b ≤ 0) (h2 : Lib.compareBytes b c ≤ 0) : Lib.compareBytes a c ≤ 0 := by
  rcases Int.lt_or_eq_of_le h2 with h | h
  · exact Int.le_of_lt (compareBytes_le_lt h1 h)
  · rw [← (compareBytes_zero b c).1 h]
    exact h1
theorem filter_len_eq {α : Type} {f g : α → Bool} : ∀ (l : List α), (∀ p ∈ l, f p = true → g p = true) → (l.filter f).length = (l.filter g).length → ∀ p ∈ l, g p = true → f p = true
  | [], _, _, p, hp, _ => by cases hp
  | x :: l, h, hl, p, hp, hg => by
    have hle : (l.filter f).length ≤ (l.filter g).length := by
      have : ∀ l : List α, (∀ p ∈ l, f p = true → g p = true) → (l.filter f).length ≤ (l.filter g).length := fun l => by
        induction l with
        | nil => intro _; exact Nat.le_refl _
        | cons y l ih =>
          intro h
          have i := ih fun p hp => h p (List.mem_cons_of_mem _ hp)
          have hy := h y List.mem_cons_self
          rw [List.filter_cons, List.filter_cons]
          cases hf : f y with
          | true => rw [if_pos rfl, if_pos (hy hf)]; simp; exact i
          | false =>
            rw [if_neg (by simp)]
            split
            · simp; omega
            · exact i
      exact this l fun p hp => h p (List.mem_cons_of_mem _ hp)
    have hx := h x List.mem_cons_self
    rw [List.filter_cons, List.filter_cons] at hl
    cases hf : f x with
    | true =>
      rw [hf, if_pos rfl, if_pos (hx hf)] at hl
      rcases List.mem_cons.1 hp with rfl | hp
      · exact hf
      · exact filter_len_eq l (fun p hp => h p (List.mem_cons_of_mem _ hp)) (by simpa using hl) p hp hg
    | false =>
      rw [hf, if_neg (by simp)] at hl
      cases hgx : g x with
      | true =>
        rw [hgx, if_pos rfl] at hl
        simp at hl
        omega
      | false =>
        rw [hgx, if_neg (by simp)] at hl
        rcases List.mem_cons.1 hp with rfl | hp
        · rw [hgx] at hg; cases hg
        · exact filter_len_eq l (fun p hp => h p (List.mem_cons_of_mem _ hp)) hl p hp hg
theorem num_inj : ∀ {l : List Pl}, (l.map (·.num)).Nodup → ∀ p ∈ l, ∀ q ∈ l, p.num = q.num → p = q
  | [], _, p, hp, _, _, _ => by cases hp
  | x :: l, h, p, hp, q, hq, e => by
    rw [List.map_cons, List.nodup_cons] at h
    rcases List.mem_cons.1 hp with e1 | hp'
    · rcases List.mem_cons.1 hq with e2 | hq'
      · rw [e1, e2]
      · exact absurd (List.mem_map.2 ⟨q, hq', by rw [← e, e1]⟩) h.1
    · rcases List.mem_cons.1 hq with e2 | hq'
      · exact absurd (List.mem_map.2 ⟨p, hp', by rw [e, e2]⟩) h.1
      · exact num_inj h.2 p hp' q hq' e
theorem filter_split {α : Type} (f : α → Bool) : ∀ l : List α, l.length = (l.filter f).length + (l.filter fun x => !f x).length
  | [] => rfl
  | x :: l => by
    have := filter_split f l
    rw [List.filter_cons, List.filter_cons]
    cases f x <;> simp <;> omega

/-- What is picked: tables of one level, with those of the next that have keys in common with them. -/
theorem pick_shape {l : List Pl} {level : Int} {nums : List Int} (h : pickL true l = (level, nums, true)) :
    1 ≤ level ∧ level ≤ 3 ∧ ∃ T : List Pl, T.Sublist l ∧ T ≠ [] ∧ (∀ p ∈ T, p.level ≠ level) ∧ nums = joinedL l T level := by
  have key : ∀ (a : Int) (n : Nat), 0 < n → 0 < (ofL l a).length → ((ofL l a).take n).Sublist l ∧ (ofL l a).take n ≠ [] ∧ ∀ p ∈ (ofL l a).take n, p.level = a := fun a n hn hl => by
    refine ⟨(List.take_sublist _ _).trans List.filter_sublist, fun e => ?_, fun p hp => ?_⟩
    · have := congrArg List.length e
      simp only [List.length_take, List.length_nil] at this
      omega
    · have := (List.mem_filter.1 (List.mem_of_mem_take hp)).2
      simpa using this
  unfold pickL at h
  rw [if_neg (by simp)] at h
  by_cases h1 : 4 ≤ (ofL l 0).length
  · rw [if_pos h1] at h
    simp only [Prod.mk.injEq, and_true] at h
    obtain ⟨rfl, rfl⟩ := h
    obtain ⟨k1, k2, k3⟩ := key 0 (ofL l 0).length (by omega) (by omega)
    rw [List.take_length] at k1 k2 k3
    exact ⟨by omega, by omega, _, k1, k2, fun p hp => by rw [k3 p hp]; omega, rfl⟩
  · rw [if_neg h1] at h
    by_cases h2 : 4 < (ofL l 1).length
    · rw [if_pos h2] at h
      simp only [Prod.mk.injEq, and_true] at h
      obtain ⟨rfl, rfl⟩ := h
      obtain ⟨k1, k2, k3⟩ := key 1 1 (by omega) (by omega)
      exact ⟨by omega, by omega, _, k1, k2, fun p hp => by rw [k3 p hp]; omega, rfl⟩
    · rw [if_neg h2] at h
      by_cases h3 : 16 < (ofL l 2).length
      · rw [if_pos h3] at h
        simp only [Prod.mk.injEq, and_true] at h
        obtain ⟨rfl, rfl⟩ := h
        obtain ⟨k1, k2, k3⟩ := key 2 1 (by omega) (by omega)
        exact ⟨by omega, by omega, _, k1, k2, fun p hp => by rw [k3 p hp]; omega, rfl⟩
      · rw [if_neg h3] at h
        simp at h

def pickedL (nums : List Int) (l : List Pl) : List Pl := l.filter fun p => hasI nums p.num
theorem picked_all {l : List Pl} (hn : (l.map (·.num)).Nodup) {level : Int} {nums : List Int} (h : pickL true l = (level, nums, true)) :
    nums.Nodup ∧ (pickedL nums l).length = nums.length ∧ pickedL nums l ≠ [] := by
  obtain ⟨_, _, T, h1, h2, h3, rfl⟩ := pick_shape h
  have hU : (l.filter (overB level (leastOf T) (mostOf T))).Sublist l := List.filter_sublist
  have hperm : (joinedL l T level).Perm (T.map (·.num) ++ (l.filter (overB level (leastOf T) (mostOf T))).map (·.num)) := sortI_perm _
  have hmem : ∀ n, n ∈ joinedL l T level → ∃ p ∈ l, p.num = n := fun n hm => by
    rcases List.mem_append.1 (hperm.mem_iff.1 hm) with hm | hm
    · obtain ⟨p, hp, e⟩ := List.mem_map.1 hm
      exact ⟨p, h1.subset hp, e⟩
    · obtain ⟨p, hp, e⟩ := List.mem_map.1 hm
      exact ⟨p, hU.subset hp, e⟩
  have hnd : (joinedL l T level).Nodup := by
    refine hperm.nodup_iff.2 (List.nodup_append.2 ⟨(h1.map _).nodup hn, (hU.map _).nodup hn, fun a ha b hb e => ?_⟩)
    obtain ⟨p, hp, e1⟩ := List.mem_map.1 ha
    obtain ⟨q, hq, e2⟩ := List.mem_map.1 hb
    have hpq := num_inj hn p (h1.subset hp) q (hU.subset hq) (by omega)
    subst hpq
    have hq2 := (List.mem_filter.1 hq).2
    unfold overB at hq2
    simp only [Bool.and_eq_true, decide_eq_true_eq] at hq2
    exact h3 p hp hq2.1
  have hpp : ((pickedL (joinedL l T level) l).map (·.num)).Perm (joinedL l T level) := by
    refine (List.perm_ext_iff_of_nodup (((List.filter_sublist (l := l)).map _).nodup hn) hnd).2 fun n => ?_
    constructor
    · intro hm
      obtain ⟨p, hp, e⟩ := List.mem_map.1 hm
      have := (List.mem_filter.1 hp).2
      rw [← e]
      exact (hasI_mem _ _).1 this
    · intro hm
      obtain ⟨p, hp, e⟩ := hmem n hm
      exact List.mem_map.2 ⟨p, List.mem_filter.2 ⟨hp, (hasI_mem _ _).2 (by rw [e]; exact hm)⟩, e⟩
  have hlen : (pickedL (joinedL l T level) l).length = (joinedL l T level).length := by
    rw [← hpp.length_eq, List.length_map]
  refine ⟨hnd, hlen, fun e => ?_⟩
  rw [e] at hlen
  have h4 := hperm.length_eq
  rw [← hlen, List.length_append, List.length_map] at h4
  have : 0 < T.length := List.length_pos_iff.2 h2
  simp at h4
  omega

set_option maxHeartbeats 1600000 in
theorem fit_law {v : Vn} (hv : checkV v = true) (hn : v.next < 1099511627776) {level : Int} {nums : List Int} (hp : pickL true v.tabs = (level, nums, true)) (least most : List UInt8)
    (h1 : ∃ g ∈ pickedL nums v.tabs, least = g.least) (h2 : ∃ g ∈ pickedL nums v.tabs, most = g.most) (h3 : ∀ g ∈ pickedL nums v.tabs, Lib.compareBytes least g.least ≤ 0 ∧ Lib.compareBytes g.most most ≤ 0)
    (h4 : (overL v.tabs level least most).length = (v.tabs.filter fun p => decide (p.level = level) && hasI nums p.num).length) :
    (applyL v ⟨v.log, v.next + 1, v.seq, [⟨v.next, level, 1, least, most⟩], nums⟩).2 = 0 := by
  obtain ⟨l1, l3, _⟩ := pick_shape hp
  obtain ⟨c1, c2, c3, c4⟩ := (checkL_iff _ _ _ _).1 hv
  obtain ⟨n1, n2, n3⟩ := picked_all c3 hp
  obtain ⟨g, hg, rfl⟩ := h1
  obtain ⟨g', hg', rfl⟩ := h2
  have hgl : g ∈ v.tabs := (List.mem_filter.1 hg).1
  have hgl' : g' ∈ v.tabs := (List.mem_filter.1 hg').1
  have hlm : Lib.compareBytes g.least g'.most ≤ 0 := compareBytes_le_le ((h3 g' hg').1) (tableL_le (c2 g' hgl'))
  have hover : ∀ q ∈ v.tabs, q.level = level → hasI nums q.num = false → overB level g.least g'.most q = false := fun q hq hl hh => by
    unfold overL at h4
    rw [List.length_map] at h4
    have := filter_len_eq v.tabs (f := fun p => decide (p.level = level) && hasI nums p.num) (g := overB level g.least g'.most) (fun p hp hf => ?_) h4.symm q hq
    · cases ho : overB level g.least g'.most q with
      | false => rfl
      | true =>
        have := this ho
        rw [hh] at this
        simp at this
    · simp only [Bool.and_eq_true, decide_eq_true_eq] at hf
      have hpg : p ∈ pickedL nums v.tabs := List.mem_filter.2 ⟨hp, hf.2⟩
      have hpt := tableL_le (c2 p hp)
      unfold overB
      simp only [Bool.and_eq_true, decide_eq_true_eq]
      exact ⟨hf.1, compareBytes_le_le hpt (h3 p hpg).2, compareBytes_le_le (h3 p hpg).1 hpt⟩
  have hnext : 1 ≤ v.next := by
    have := c2 g hgl
    unfold tableL at this
    simp only [Bool.and_eq_true, decide_eq_true_eq] at this
    omega
  have hok : okE v ⟨v.log, v.next + 1, v.seq, [⟨v.next, level, 1, g.least, g'.most⟩], nums⟩ = true := by
    refine okE_all (by show ¬ v.log < v.log; omega) (by show ¬ v.next + 1 < v.next; omega) (by show ¬ v.seq < v.seq; omega) ((onceK_iff _ _).2 ⟨n1, fun _ _ h => by cases h⟩) ?_
    show (keptL nums v.tabs).length + nums.length = v.tabs.length
    have := filter_split (fun p => hasI nums p.num) v.tabs
    unfold pickedL at n2
    unfold keptL
    omega
  have hkept := kept_sorted hv nums
  have hmade : checkV (madeE v ⟨v.log, v.next + 1, v.seq, [⟨v.next, level, 1, g.least, g'.most⟩], nums⟩) = true := by
    refine (checkL_iff _ _ _ _).2 ⟨?_, fun p hp => ?_, ?_, ?_⟩
    · show headL v.log (v.next + 1) v.seq = true
      unfold headL numberL at c1 ⊢
      simp only [Bool.and_eq_true, decide_eq_true_eq, Bool.not_eq_true', Bool.and_eq_false_iff, decide_eq_false_iff_not] at c1 ⊢
      refine ⟨c1.1, ⟨by omega, by omega⟩, c1.2.2.1, ?_⟩
      rcases c1.2.2.2 with h | h
      · exact .inl (by omega)
      · exact .inr h
    · have hp2 : p ∈ insT ⟨v.next, level, 1, g.least, g'.most⟩ (keptL nums v.tabs) := hp
      rcases List.mem_cons.1 ((insT_perm _ _).mem_iff.1 hp2) with rfl | hp2
      · have hq := c2 g hgl
        have hq' := c2 g' hgl'
        show tableL _ (v.next + 1) = true
        unfold tableL at hq hq' ⊢
        simp only [Bool.and_eq_true, decide_eq_true_eq] at hq hq' ⊢
        exact ⟨hnext, by omega, by omega, l3, by omega, by omega, hq.2.2.2.2.2.2.1, hq'.2.2.2.2.2.2.2.1, hlm⟩
      · exact tableL_mono (c2 p (List.mem_filter.1 hp2).1) (by show v.next ≤ v.next + 1; omega)
    · show ((insT ⟨v.next, level, 1, g.least, g'.most⟩ (keptL nums v.tabs)).map (·.num)).Nodup
      refine ((insT_perm _ _).map _).nodup_iff.2 ?_
      rw [List.map_cons, List.nodup_cons]
      refine ⟨fun hm => ?_, ((List.filter_sublist (l := v.tabs)).map _).nodup c3⟩
      obtain ⟨p, hp, e⟩ := List.mem_map.1 hm
      have := c2 p (List.mem_filter.1 hp).1
      unfold tableL at this
      simp only [Bool.and_eq_true, decide_eq_true_eq] at this
      simp only at e
      omega
    · show (insT ⟨v.next, level, 1, g.least, g'.most⟩ (keptL nums v.tabs)).Pairwise (fun p q => apartL p q = true)
      have hka : (keptL nums v.tabs).Pairwise (fun p q => apartL p q = true) := c4.filter _
      have hkt : ∀ q ∈ keptL nums v.tabs, q ∈ v.tabs ∧ hasI nums q.num = false := fun q hq => by
        obtain ⟨a, b⟩ := List.mem_filter.1 hq
        exact ⟨a, by simpa using b⟩
      have behind : ∀ q ∈ keptL nums v.tabs, sortsL ⟨v.next, level, 1, g.least, g'.most⟩ q = true → apartL ⟨v.next, level, 1, g.least, g'.most⟩ q = true := fun q hq hs => by
        obtain ⟨q1, q2⟩ := hkt q hq
        refine apart_of hs fun e e0 => ?_
        simp only at e e0
        have ho := hover q q1 e.symm q2
        have hqt := tableL_le (c2 q q1)
        unfold sortsL at hs
        rw [if_neg (by simpa using e), if_neg e0] at hs
        simp only [decide_eq_true_eq] at hs
        have hx : Lib.compareBytes g.least q.most ≤ 0 := compareBytes_le_le (Int.le_of_lt hs) hqt
        unfold overB at ho
        rw [decide_eq_true e.symm, decide_eq_true hx] at ho
        simp only [Bool.true_and, Bool.and_true, decide_eq_false_iff_not] at ho
        have := compareBytes_anti q.least g'.most
        show Lib.compareBytes g'.most q.least < 0
        omega
      have ahead : ∀ q ∈ keptL nums v.tabs, sortsL ⟨v.next, level, 1, g.least, g'.most⟩ q = false → apartL q ⟨v.next, level, 1, g.least, g'.most⟩ = true := fun q hq hs => by
        obtain ⟨q1, q2⟩ := hkt q hq
        by_cases e : level = q.level
        · have e0 : level ≠ 0 := by omega
          have ho := hover q q1 e.symm q2
          have hqt := tableL_le (c2 q q1)
          unfold sortsL at hs
          rw [if_neg (by simpa using e), if_neg (by simpa using e0)] at hs
          simp only [decide_eq_false_iff_not] at hs
          have ha := compareBytes_anti g.least q.least
          have hx : Lib.compareBytes q.least g'.most ≤ 0 := compareBytes_le_le (by omega) hlm
          unfold overB at ho
          rw [decide_eq_true e.symm, decide_eq_true hx] at ho
          simp only [Bool.true_and, decide_eq_false_iff_not] at ho
          have hb := compareBytes_anti g.least q.most
          have hy : Lib.compareBytes q.most g.least < 0 := by omega
          refine apart_of ?_ fun _ _ => hy
          unfold sortsL
          rw [if_neg (by simpa using e.symm), if_neg (by omega)]
          simp only [decide_eq_true_eq]
          exact compareBytes_le_lt hqt hy
        · unfold sortsL at hs
          rw [if_pos (by simpa using e)] at hs
          simp only [decide_eq_false_iff_not] at hs
          refine apart_of ?_ fun e' _ => absurd e'.symm e
          unfold sortsL
          rw [if_pos (fun h => e h.symm)]
          simp only [decide_eq_true_eq]
          omega
      rw [insT_eq]
      have hj := placeT_le ⟨v.next, level, 1, g.least, g'.most⟩ (keptL nums v.tabs)
      have hlt := placeT_lt ⟨v.next, level, 1, g.least, g'.most⟩ (keptL nums v.tabs)
      have hat := placeT_at ⟨v.next, level, 1, g.least, g'.most⟩ (keptL nums v.tabs)
      generalize placeT ⟨v.next, level, 1, g.least, g'.most⟩ (keptL nums v.tabs) = j at hj hlt hat
      have hA : ∀ q ∈ (keptL nums v.tabs).take j, apartL q ⟨v.next, level, 1, g.least, g'.most⟩ = true := fun q hq => by
        obtain ⟨i, hi, rfl⟩ := List.getElem_of_mem hq
        rw [List.length_take] at hi
        rw [List.getElem_take]
        exact ahead _ (List.getElem_mem _) (hlt i (by omega) (by omega))
      have hB : ∀ q ∈ (keptL nums v.tabs).drop j, apartL ⟨v.next, level, 1, g.least, g'.most⟩ q = true := fun q hq => by
        obtain ⟨i, hi, rfl⟩ := List.getElem_of_mem hq
        rw [List.length_drop] at hi
        rw [List.getElem_drop]
        refine behind _ (List.getElem_mem _) ?_
        cases i with
        | zero => exact hat (by omega)
        | succ i => exact sortsL_tr _ _ _ (hat (by omega)) (List.pairwise_iff_getElem.1 hkept j (j + (i + 1)) (by omega) (by omega) (by omega))
      have hsplit := hka
      rw [← List.take_append_drop j (keptL nums v.tabs)] at hsplit
      obtain ⟨s1, s2, s3⟩ := List.pairwise_append.1 hsplit
      refine List.pairwise_append.2 ⟨List.pairwise_append.2 ⟨s1, List.pairwise_singleton _ _, fun a ha b hb => by rw [List.mem_singleton.1 hb]; exact hA a ha⟩, s2, fun a ha b hb => ?_⟩
      rcases List.mem_append.1 ha with ha | ha
      · exact s3 a ha b hb
      · rw [List.mem_singleton.1 ha]
        exact hB b hb
  rw [applyL_ok hv hok hmade]
end Go.Proofs.Ytgkgahjdjkmmnaa

/- The whole range of what is picked, in plain words; how many of the picked tables are of a level (under): walked. -/
namespace Go.Proofs.Ytgkgahjdjkmmnaa
open Go.RowKit

/-- The least and the most key of some tables. -/
def SpanB (P : List Pl) (bl bm : List UInt8) : Prop := P ≠ [] → (∃ g ∈ P, bl = g.least) ∧ (∃ g ∈ P, bm = g.most) ∧ ∀ g ∈ P, Lib.compareBytes bl g.least ≤ 0 ∧ Lib.compareBytes g.most bm ≤ 0
theorem compareBytes_refl (x : List UInt8) : Lib.compareBytes x x ≤ 0 := by
  have := (compareBytes_zero x x).2 rfl
  omega
theorem SpanB.nil (bl bm : List UInt8) : SpanB [] bl bm := fun h => absurd rfl h
theorem SpanB.one (p : Pl) : SpanB [p] p.least p.most := fun _ => ⟨⟨p, by simp, rfl⟩, ⟨p, by simp, rfl⟩, fun g hg => by
  rw [List.mem_singleton.1 hg]
  exact ⟨compareBytes_refl _, compareBytes_refl _⟩⟩
theorem SpanB.push {P : List Pl} {p : Pl} {bl bm bl' bm' : List UInt8} (h : SpanB P bl bm) (hP : P ≠ []) (h1 : bl' = if Op.bytesLess p.least bl then p.least else bl) (h2 : bm' = if Op.bytesLess p.most bm || p.most == bm then bm else p.most) : SpanB (P ++ [p]) bl' bm' := fun _ => by
  obtain ⟨⟨g1, m1, e1⟩, ⟨g2, m2, e2⟩, h3⟩ := h hP
  rw [bytesLess_eq] at h1
  rw [← compareBytes_le] at h2
  have hl : Lib.compareBytes bl' bl ≤ 0 ∧ Lib.compareBytes bl' p.least ≤ 0 ∧ ∃ g ∈ P ++ [p], bl' = g.least := by
    by_cases c : Lib.compareBytes p.least bl < 0
    · rw [if_pos (by simpa using c)] at h1
      rw [h1]
      exact ⟨by omega, compareBytes_refl _, p, by simp, rfl⟩
    · rw [if_neg (by simpa using c)] at h1
      rw [h1]
      have := compareBytes_anti p.least bl
      exact ⟨compareBytes_refl _, by omega, g1, by simp [m1], e1⟩
  have hm : Lib.compareBytes bm bm' ≤ 0 ∧ Lib.compareBytes p.most bm' ≤ 0 ∧ ∃ g ∈ P ++ [p], bm' = g.most := by
    by_cases c : Lib.compareBytes p.most bm ≤ 0
    · rw [if_pos (by simpa using c)] at h2
      rw [h2]
      exact ⟨compareBytes_refl _, c, g2, by simp [m2], e2⟩
    · rw [if_neg (by simpa using c)] at h2
      rw [h2]
      have := compareBytes_anti p.most bm
      exact ⟨by omega, compareBytes_refl _, p, by simp, rfl⟩
  refine ⟨hl.2.2, hm.2.2, fun g hg => ?_⟩
  rcases List.mem_append.1 hg with hg | hg
  · exact ⟨compareBytes_le_le hl.1 (h3 g hg).1, compareBytes_le_le (h3 g hg).2 hm.1⟩
  · rw [List.mem_singleton.1 hg]
    exact ⟨hl.2.1, hm.2.1⟩
theorem pickedL_succ (nums : List Int) (l : List Pl) (k : Nat) (hk : k < l.length) : pickedL nums (l.take (k + 1)) = if hasI nums l[k].num = true then pickedL nums (l.take k) ++ [l[k]] else pickedL nums (l.take k) := by
  unfold pickedL
  rw [List.take_succ_eq_append_getElem hk, List.filter_append]
  by_cases h : hasI nums l[k].num = true
  · rw [if_pos h, List.filter_cons, if_pos h]
    rfl
  · rw [if_neg h, List.filter_cons, if_neg h]
    simp
theorem picked_mem {l : List Pl} {level : Int} {nums : List Int} (h : pickL true l = (level, nums, true)) (n : Int) (hm : n ∈ nums) : ∃ p ∈ l, p.num = n := by
  obtain ⟨_, _, T, h1, _, _, rfl⟩ := pick_shape h
  have hperm : (joinedL l T level).Perm (T.map (·.num) ++ (l.filter (overB level (leastOf T) (mostOf T))).map (·.num)) := sortI_perm _
  rcases List.mem_append.1 (hperm.mem_iff.1 hm) with hm | hm
  · obtain ⟨p, hp, e⟩ := List.mem_map.1 hm
    exact ⟨p, h1.subset hp, e⟩
  · obtain ⟨p, hp, e⟩ := List.mem_map.1 hm
    exact ⟨p, List.filter_sublist.subset hp, e⟩
theorem pick_none {ok : Bool} {l : List Pl} {level : Int} {nums : List Int} (h : pickL ok l = (level, nums, false)) : level = 0 ∧ nums = [] := by
  unfold pickL at h
  split at h
  · cases h; exact ⟨rfl, rfl⟩
  · split at h
    · cases h
    · split at h
      · cases h
      · split at h
        · cases h
        · cases h; exact ⟨rfl, rfl⟩

def underL (l : List Pl) (level : Int) (nums : List Int) : Nat := (l.filter fun p => decide (p.level = level) && hasI nums p.num).length
theorem underL_succ (l : List Pl) (level : Int) (nums : List Int) (k : Nat) (hk : k < l.length) :
    underL (l.take (k + 1)) level nums = if (decide (l[k].level = level) && hasI nums l[k].num) = true then underL (l.take k) level nums + 1 else underL (l.take k) level nums := by
  unfold underL
  rw [List.take_succ_eq_append_getElem hk, List.filter_append, List.length_append, List.filter_cons]
  by_cases h : (decide (l[k].level = level) && hasI nums l[k].num) = true
  · rw [if_pos h, if_pos h]; rfl
  · rw [if_neg h, if_neg h]; rfl

set_option maxRecDepth 100000 in
set_option maxHeartbeats 3200000 in
theorem under_any (log next seq level : Int) (v x : Value) (l : List Pl) (nums : List Int) (n : Nat) (hn : underL l level nums = n) (hl : l.length ≤ 1000000) (w : World) (hv : Pls w v l) (hx : Is w x nums) (R : Ending → World → Prop)
    (hR : ∀ w', Below w.heap.size w w' → R (.returned (.int .i64 n)) w') :
    Calls Try.prog 28 #[.agg #[.int .i64 log, .int .i64 next, .int .i64 seq, v], .int .i64 level, x] w R := by
  have HR := Lib.hid hR
  have HV := Lib.hid hv
  have HX := Lib.hid hx
  have HN := Lib.hid hn
  obtain ⟨va, vc, rfl, _⟩ := hv
  obtain ⟨xa, xc, rfl, _⟩ := hx
  have hw1 : Below w.heap.size w (w.alloc (vnO log next seq (.slice va l.length vc))) := (Below.refl w.heap.size w).alloc (Nat.le_refl _) _
  have N0 := heap_alloc_new w (vnO log next seq (.slice va l.length vc))
  unfold vnO at hw1 N0
  clear hR hn
  go_enter Try.func28, Try.ntmps28
  go_wp2
  generalize w.alloc (Obj.cells #[.int .i64 log, .int .i64 next, .int .i64 seq, .slice va l.length vc] 52) = w1 at hw1 N0 ⊢
  have g3 : _ = some (Value.slice va l.length vc) := cell_of_row _ w.heap.size 3 _ _ _ N0
  have HW1 := Lib.hid hw1
  clear N0 hw1
  go_loopg [7, 8] l.length (fun gn c i wr => ∃ k O : Nat, k ≤ l.length ∧ gn = l.length - k ∧ i = .int .i64 k ∧ c = .int .i64 O ∧ O ≤ k ∧ Hid (underL (l.take k) level nums = O) ∧ wr = w1)
  case atStart => exact ⟨0, 0, Nat.zero_le _, by omega, rfl, rfl, Nat.le_refl _, rfl, rfl⟩
  case round =>
    obtain ⟨k, O, hk, rfl, rfl, rfl, hO, HO, rfl⟩ := hrel
    by_cases hlt : k < l.length
    · have hkk : (k : Int) < (l.length : Int) := by omega
      obtain ⟨va', vc', ee, _, _, _, v4⟩ := HV.out.below HW1.out
      simp only [Value.slice.injEq] at ee
      obtain ⟨rfl, -, rfl⟩ := ee
      obtain ⟨vb, vo, rfl, v5⟩ := v4 (by omega)
      obtain ⟨px, py, ⟨p0, p1, p2, p3, p4⟩, hpc⟩ := v5 k hlt
      have hsu := underL_succ l level nums k hlt
      rw [HO.out] at hsu
      obtain ⟨pn, hpn⟩ : ∃ n, l[k].num = n := ⟨_, rfl⟩
      obtain ⟨pl, hpl⟩ : ∃ n, l[k].level = n := ⟨_, rfl⟩
      rw [hpn, hpl] at hsu
      rw [hpn] at p0
      rw [hpl] at p1
      obtain ⟨hb, hhb⟩ : ∃ b, hasI nums pn = b := ⟨_, rfl⟩
      rw [hhb] at hsu
      have HHB := Lib.hid hhb
      have HSU := Lib.hid hsu
      have HXW := Lib.hid (HX.out.below HW1.out)
      clear v4 v5 hpc hsu hhb hpn hpl p2 p3 p4
      by_cases h1 : pl = level
      · have hd : (pl == level) = true := by simpa using h1
        have hso : Hid (underL (l.take (k + 1)) level nums = if hb = true then O + 1 else O) := by
          have := HSU.out
          rw [decide_eq_true h1, Bool.true_and] at this
          exact this
        clear HSU h1
        cases hb with
        | true =>
          have hso2 : Hid (underL (l.take (k + 1)) level nums = O + 1) := hso
          clear hso
          go_wp2_with (go_at_call 26; go_must (refine lhas_any _ nums pn true HHB.out _ HXW.out _ ?_))
          go_roundg (l.length - (k + 1))
          case measure => omega
          case rel => exact ⟨k + 1, O + 1, by omega, rfl, by go_num, by go_num, by omega, hso2, rfl⟩
        | false =>
          have hso2 : Hid (underL (l.take (k + 1)) level nums = O) := hso
          clear hso
          go_wp2_with (go_at_call 26; go_must (refine lhas_any _ nums pn false HHB.out _ HXW.out _ ?_))
          go_roundg (l.length - (k + 1))
          case measure => omega
          case rel => exact ⟨k + 1, O, by omega, rfl, by go_num, rfl, by omega, hso2, rfl⟩
      · have hd : (pl == level) = false := by simpa using h1
        have hso : Hid (underL (l.take (k + 1)) level nums = O) := by
          have := HSU.out
          rw [decide_eq_false h1, if_neg (by simp)] at this
          exact this
        clear HSU h1
        go_wp2_with fail
        go_roundg (l.length - (k + 1))
        case measure => omega
        case rel => exact ⟨k + 1, O, by omega, rfl, by go_num, rfl, by omega, hso, rfl⟩
    · have hkk : ¬ (k : Int) < (l.length : Int) := by omega
      obtain rfl : O = n := by rw [← HO.out, ← HN.out, List.take_of_length_le (by omega)]
      clear HO HN
      go_wp2
      exact HR.out _ HW1.out
end Go.Proofs.Ytgkgahjdjkmmnaa

namespace Go.Proofs.Ytgkgahjdjkmmnaa
open Go.RowKit

theorem check_next9 {log next seq : Int} {l : List Pl} (h : checkL apartL log next seq l = true) : 0 ≤ next ∧ next ≤ 1099511627776 := by
  obtain ⟨h1, _⟩ := (checkL_iff _ _ _ _).1 h
  unfold headL numberL at h1
  simp only [Bool.and_eq_true, decide_eq_true_eq] at h1
  exact ⟨h1.2.1.1, h1.2.1.2⟩
theorem pls_one9 {w : World} {g t : Nat} {x y : Value} {p : Pl} (h : w.heap[g]? = some (.cells #[.int .i64 p.num, .int .i64 p.level, .int .i64 p.count, x, y] t (0, 0))) (hp : PlC w x y p) : Pls w (.slice (some ⟨g, 0, none⟩) 1 1) [p] := by
  refine ⟨some ⟨g, 0, none⟩, 1, rfl, Nat.le_refl _, by omega, (fun h => by cases h), fun _ => ⟨g, 0, rfl, fun i hi => ?_⟩⟩
  obtain rfl : i = 0 := by simp at hi; omega
  exact ⟨x, y, pb_of_row h, hp⟩

set_option maxRecDepth 100000 in
set_option maxHeartbeats 6400000 in
theorem fits_law (log next seq : Int) (v : Value) (l : List Pl) (w : World) (hv : Pls w v l) (R : Ending → World → Prop) (hR : ∀ w', Below w.heap.size w w' → R (.returned (.bool true)) w') :
    Calls Try.prog 8 #[.agg #[.int .i64 log, .int .i64 next, .int .i64 seq, v]] w R := by
  have HR := Lib.hid hR
  have HV := Lib.hid hv
  obtain ⟨va, vc, rfl, v1, v2, v3, _⟩ := hv
  have hw1 : Below w.heap.size w (w.alloc (vnO log next seq (.slice va l.length vc))) := (Below.refl w.heap.size w).alloc (Nat.le_refl _) _
  have N0 := Lib.hid (heap_alloc_new w (vnO log next seq (.slice va l.length vc)))
  have hz0 : w.heap.size + 1 ≤ (w.alloc (vnO log next seq (.slice va l.length vc))).heap.size := by simp
  unfold vnO at hw1 N0 hz0
  clear hR
  by_cases h60 : 60 < l.length
  · have h60z : (60 : Int) < (l.length : Int) := by omega
    have hvl : (l.take 60).length = 60 := by rw [List.length_take]; omega
    have hvt : Pls w (.slice va 60 vc) (l.take 60) := HV.out.take (by omega)
    have hcz : (60 : Int) ≤ (vc : Int) := by omega
    obtain ⟨vb, vo, rfl⟩ := HV.out.head (by omega)
    have HV2 := Lib.hid hvt
    have hp1 : Below w.heap.size w (w.alloc (vnO log next seq (.slice (some ⟨vb, vo, none⟩) 60 vc))) := (Below.refl w.heap.size w).alloc (Nat.le_refl _) _
    have np1 := heap_alloc_new w (vnO log next seq (.slice (some ⟨vb, vo, none⟩) 60 vc))
    have hz1 : w.heap.size + 1 ≤ (w.alloc (vnO log next seq (.slice (some ⟨vb, vo, none⟩) 60 vc))).heap.size := by simp
    unfold vnO at hp1 np1 hz1
    have HP1 := Lib.hid hp1
    have NP1 := Lib.hid np1
    clear hp1 np1 hvt
    have hll : (l.take 60).length ≤ 1000000 := by omega
    have HLEN : Hid ((l.take 60).length = 60) := hvl
    obtain ⟨T, hT⟩ : ∃ T, l.take 60 = T := ⟨_, rfl⟩
    rw [hT] at HV2 hll HLEN
    clear hT hvl
    have h60T : T.length ≤ 60 := by have := HLEN.out; omega
    obtain ⟨ok, hok⟩ : ∃ ok, checkL apartL log next seq T = ok := ⟨_, rfl⟩
    obtain ⟨⟨z, L, t⟩, hpk⟩ : ∃ q, pickL ok T = q := ⟨_, rfl⟩
    have HOK := Lib.hid hok
    have HPK := Lib.hid hpk
    clear hok hpk
    have HFIRST : Hid True := trivial
    cases ok with
    | false =>
      obtain rfl : false = t := by
        have := HPK.out
        unfold pickL at this
        rw [if_pos rfl] at this
        cases this
        rfl
      go_enter Try.func8, Try.ntmps8
      go_wp2_with (first | (go_at_call 22; go_must (refine pick_any log next seq _ T _ HOK.out _ _ _ HPK.out hll _ (HV2.out.below HP1.out) _ ?_); intro a3 c3 w3 hown3 hb3; have HX3 := Lib.hid (HP1.out.trans (hb3.mono (by omega))); have HIS3 := Lib.hid (is_of_owns hown3 rfl); have n3 := row_on NP1.out hb3; have HN3 := Lib.hid n3; obtain ⟨g0, g1, g2, g3⟩ := v4_of_row n3; clear hown3 hb3 n3) | (have hq := HFIRST; go_at_call 25; go_must (refine echeck_any log next seq _ T _ HOK.out hll _ (HV2.out.below HX3.out) _ ?_); intro w4 hb4; unfold errI; have HX4 := Lib.hid (below_then HX3.out hb4 HX3.out.size); have HIS4 := Lib.hid (HIS3.out.below hb4); have n4 := row_on HN3.out hb4; have HN4 := Lib.hid n4; obtain ⟨i0, i1, i2, i3⟩ := v4_of_row n4; have HSECOND : Hid True := trivial; clear hb4 n4 HFIRST) | (go_at_call 13; go_in) | (go_at_call 15; go_must (refine wakes_any _ _ ?_); intro w9 hb9; have HX9 := Lib.hid (below_then HX4.out hb9 (HX4.out).size); clear hb9))
      all_goals exact HR.out _ HX9.out
    | true =>
      have hnx := check_next9 HOK.out
      by_cases hbig : (1099511627776 : Int) ≤ next
      · have hbg : decide ((1099511627776 : Int) ≤ next) = true := decide_eq_true hbig
        cases t with
        | false =>
          go_enter Try.func8, Try.ntmps8
          go_wp2_with (first | (go_at_call 22; go_must (refine pick_any log next seq _ T _ HOK.out _ _ _ HPK.out hll _ (HV2.out.below HP1.out) _ ?_); intro a3 c3 w3 hown3 hb3; have HX3 := Lib.hid (HP1.out.trans (hb3.mono (by omega))); have HIS3 := Lib.hid (is_of_owns hown3 rfl); have n3 := row_on NP1.out hb3; have HN3 := Lib.hid n3; obtain ⟨g0, g1, g2, g3⟩ := v4_of_row n3; clear hown3 hb3 n3) | (have hq := HFIRST; go_at_call 25; go_must (refine echeck_any log next seq _ T _ HOK.out hll _ (HV2.out.below HX3.out) _ ?_); intro w4 hb4; unfold errI; have HX4 := Lib.hid (below_then HX3.out hb4 HX3.out.size); have HIS4 := Lib.hid (HIS3.out.below hb4); have n4 := row_on HN3.out hb4; have HN4 := Lib.hid n4; obtain ⟨i0, i1, i2, i3⟩ := v4_of_row n4; have HSECOND : Hid True := trivial; clear hb4 n4 HFIRST) | (go_at_call 13; go_in) | (go_at_call 15; go_must (refine wakes_any _ _ ?_); intro w9 hb9; have HX9 := Lib.hid (below_then HX4.out hb9 (HX4.out).size); clear hb9))
          all_goals exact HR.out _ HX9.out
        | true =>
          go_enter Try.func8, Try.ntmps8
          go_wp2_with (first | (go_at_call 22; go_must (refine pick_any log next seq _ T _ HOK.out _ _ _ HPK.out hll _ (HV2.out.below HP1.out) _ ?_); intro a3 c3 w3 hown3 hb3; have HX3 := Lib.hid (HP1.out.trans (hb3.mono (by omega))); have HIS3 := Lib.hid (is_of_owns hown3 rfl); have n3 := row_on NP1.out hb3; have HN3 := Lib.hid n3; obtain ⟨g0, g1, g2, g3⟩ := v4_of_row n3; clear hown3 hb3 n3) | (have hq := HFIRST; go_at_call 25; go_must (refine echeck_any log next seq _ T _ HOK.out hll _ (HV2.out.below HX3.out) _ ?_); intro w4 hb4; unfold errI; have HX4 := Lib.hid (below_then HX3.out hb4 HX3.out.size); have HIS4 := Lib.hid (HIS3.out.below hb4); have n4 := row_on HN3.out hb4; have HN4 := Lib.hid n4; obtain ⟨i0, i1, i2, i3⟩ := v4_of_row n4; have HSECOND : Hid True := trivial; clear hb4 n4 HFIRST) | (have hq := HSECOND; go_at_call 25; go_must (refine echeck_any log next seq _ T _ HOK.out hll _ (HV2.out.below HX4.out) _ ?_); intro w5 hb5; unfold errI; have HX5 := Lib.hid (below_then HX4.out hb5 HX4.out.size); clear hb5 HSECOND) | (go_at_call 13; go_in) | (go_at_call 15; go_must (refine wakes_any _ _ ?_); intro w9 hb9; have HX9 := Lib.hid (below_then HX5.out hb9 (HX5.out).size); clear hb9))
          all_goals exact HR.out _ HX9.out
      · have hbg : decide ((1099511627776 : Int) ≤ next) = false := decide_eq_false hbig
        cases t with
        | false =>
          obtain ⟨rfl, rfl⟩ := pick_none HPK.out
          go_enter Try.func8, Try.ntmps8
          go_wp2_with (first | (go_at_call 22; go_must (refine pick_any log next seq _ T _ HOK.out _ _ _ HPK.out hll _ (HV2.out.below HP1.out) _ ?_); intro a3 c3 w3 hown3 hb3; have HX3 := Lib.hid (HP1.out.trans (hb3.mono (by omega))); have HIS3 := Lib.hid (is_of_owns hown3 rfl); have n3 := row_on NP1.out hb3; have HN3 := Lib.hid n3; obtain ⟨g0, g1, g2, g3⟩ := v4_of_row n3; clear hown3 hb3 n3) | (have hq := HFIRST; go_at_call 25; go_must (refine echeck_any log next seq _ T _ HOK.out hll _ (HV2.out.below HX3.out) _ ?_); intro w4 hb4; unfold errI; have HX4 := Lib.hid (below_then HX3.out hb4 HX3.out.size); have HIS4 := Lib.hid (HIS3.out.below hb4); have n4 := row_on HN3.out hb4; have HN4 := Lib.hid n4; obtain ⟨i0, i1, i2, i3⟩ := v4_of_row n4; have HSECOND : Hid True := trivial; clear hb4 n4 HFIRST) | (go_at_call 13; go_in) | (go_at_call 15; go_must (refine wakes_any _ _ ?_); intro w9 hb9; have HX9 := Lib.hid (below_then HX4.out hb9 (HX4.out).size); clear hb9))
          all_goals exact HR.out _ HX9.out
        | true =>
          obtain ⟨hz1, hz2⟩ : 1 ≤ z ∧ z ≤ 3 := ⟨(pick_shape HPK.out).1, (pick_shape HPK.out).2.1⟩
          go_enter Try.func8, Try.ntmps8
          go_wp2_with (first | (go_at_call 22; go_must (refine pick_any log next seq _ T _ HOK.out _ _ _ HPK.out hll _ (HV2.out.below HP1.out) _ ?_); intro a3 c3 w3 hown3 hb3; have HX3 := Lib.hid (HP1.out.trans (hb3.mono (by omega))); have HIS3 := Lib.hid (is_of_owns hown3 rfl); have n3 := row_on NP1.out hb3; have HN3 := Lib.hid n3; obtain ⟨g0, g1, g2, g3⟩ := v4_of_row n3; clear hown3 hb3 n3) | (have hq := HFIRST; go_at_call 25; go_must (refine echeck_any log next seq _ T _ HOK.out hll _ (HV2.out.below HX3.out) _ ?_); intro w4 hb4; unfold errI; have HX4 := Lib.hid (below_then HX3.out hb4 HX3.out.size); have HIS4 := Lib.hid (HIS3.out.below hb4); have n4 := row_on HN3.out hb4; have HN4 := Lib.hid n4; obtain ⟨i0, i1, i2, i3⟩ := v4_of_row n4; have HSECOND : Hid True := trivial; clear hb4 n4 HFIRST) | (go_at_call 13; go_in))
          clear g0 g1 g2 g3 i0 i1 i2 i3 HSECOND
          go_loopg [6, 7, 8, 9] (T).length (fun gn sl sm ab i wr => ∃ (k : Nat) (la ma : Option Addr) (lc mc : Nat) (bl bm : List UInt8) (P : List Pl) (O : Nat), k ≤ (T).length ∧ gn = (T).length - k ∧ i = .int .i64 k ∧ ab = .int .i64 O ∧ O ≤ k ∧ sl = .slice la bl.length lc ∧ sm = .slice ma bm.length mc ∧ Hid (pickedL L ((T).take k) = P) ∧ Hid (O = P.length) ∧ Hid (Bs w (.slice la bl.length lc) bl) ∧ Hid (Bs w (.slice ma bm.length mc) bm) ∧ Hid (SpanB P bl bm) ∧ Hid (Below w4.heap.size w4 wr))
          case atStart => exact ⟨0, none, none, 0, 0, [], [], [], 0, Nat.zero_le _, by omega, rfl, rfl, Nat.le_refl _, rfl, rfl, rfl, rfl, bs_none w, bs_none w, SpanB.nil _ _, Below.refl _ _⟩
          case round =>
            obtain ⟨k, la, ma, lc, mc, bl, bm, P, O, hk, rfl, rfl, rfl, hO, rfl, rfl, HP, HO, HBL, HBM, HSP, HB⟩ := hrel
            obtain ⟨wo, rfl⟩ : ∃ x, x = wr := ⟨_, rfl⟩
            have hbw : Below w.heap.size w wo := below_then HX4.out HB.out HX4.out.size
            have hrow := row_on HN4.out HB.out
            by_cases hlt : k < (T).length
            · have hkk : (k : Int) < ((60 : Nat) : Int) := by first | exact_mod_cast hlt | (have := HLEN.out; omega)
              have hk0 : (0 : Int) ≤ (k : Int) := by omega
              have f3 : wo.cell? ⟨w.heap.size, 3, none⟩ = some (Value.slice ((some ⟨vb, vo, none⟩)) (60) vc) := cell_of_row _ w.heap.size 3 _ _ _ hrow
              obtain ⟨vb', vo', px, py, hva, q5, hpc⟩ : ∃ (b o : Nat) (x y : Value), ((some ⟨vb, vo, none⟩)) = some (⟨b, o, none⟩ : Addr) ∧ PL5 w b (o + k * 5) x y (T)[k] ∧ PlC w x y (T)[k] := by
                obtain ⟨va', vc', ee, _, _, _, v4⟩ := HV2.out
                simp only [Value.slice.injEq] at ee
                obtain ⟨e1, -, -⟩ := ee
                obtain ⟨b, o, e2, v5⟩ := v4 (by omega)
                obtain ⟨x, y, q5, hpc⟩ := v5 k hlt
                exact ⟨b, o, x, y, by rw [e1, e2], q5, hpc⟩
              obtain ⟨p0, p1, p2, p3, p4⟩ := q5.below hbw
              have hsu := pickedL_succ L (T) k hlt
              rw [HP.out] at hsu
              obtain ⟨p, hp⟩ : ∃ p, (T)[k] = p := ⟨_, rfl⟩
              rw [hp] at p0 p1 p2 hpc hsu
              have s1 := hpc.shape
              have HPC := Lib.hid hpc
              have HSU := Lib.hid hsu
              clear hp hpc hsu HP q5
              obtain ⟨pn, pl, pc, pa, pb⟩ := p
              simp only at *
              obtain ⟨⟨a1, a2, rfl⟩, b1, b2, rfl⟩ := s1
              rw [hva] at f3
              first | (obtain rfl := hva) | (simp only [Option.some.injEq, Addr.mk.injEq, and_true] at hva; obtain ⟨rfl, rfl⟩ := hva)
              have hya : Below wo.heap.size wo (wo.alloc (Obj.cells #[Value.int .i64 pn, .int .i64 pl, .int .i64 pc, .slice a1 pa.length a2, .slice b1 pb.length b2] 59)) := (Below.refl _ _).alloc (Nat.le_refl _) _
              have HYW := Lib.hid (below_then hbw hya hbw.size)
              have HB2 := Lib.hid (below_tra HB.out hya)
              have HISW := Lib.hid (HIS4.out.below HB2.out)
              obtain ⟨hb, hhb⟩ : ∃ b, hasI L pn = b := ⟨_, rfl⟩
              have HHB := Lib.hid hhb
              clear hbw hrow hya hhb
              cases hb with
              | false =>
                have hso : Hid (pickedL L ((T).take (k + 1)) = P) := by
                  have := HSU.out
                  rw [HHB.out, if_neg (by simp)] at this
                  exact this
                clear HSU
                go_wp2_with (go_at_call 26; go_must (refine lhas_any _ L pn false HHB.out _ HISW.out _ ?_))
                go_roundg ((T).length - (k + 1))
                case measure => omega
                case rel => exact ⟨k + 1, la, ma, lc, mc, bl, bm, P, O, by omega, rfl, by go_num, rfl, by omega, rfl, rfl, hso, HO, HBL, HBM, HSP, HB2⟩
              | true =>
                have hso : Hid (pickedL L ((T).take (k + 1)) = P ++ [⟨pn, pl, pc, pa, pb⟩]) := by
                  have := HSU.out
                  rw [HHB.out, if_pos rfl] at this
                  exact this
                have HON : Hid (O + 1 = (P ++ [(⟨pn, pl, pc, pa, pb⟩ : Pl)]).length) := by show _ = _; rw [HO.out, List.length_append]; rfl
                clear HSU
                by_cases hO0 : O = 0
                · obtain rfl : P = [] := List.eq_nil_of_length_eq_zero (by rw [← HO.out]; exact hO0)
                  have hd0 : ((O : Int) == 0) = true := by simpa using hO0
                  have hsp := SpanB.one ⟨pn, pl, pc, pa, pb⟩
                  have HSP2 : Hid (SpanB ([] ++ [(⟨pn, pl, pc, pa, pb⟩ : Pl)]) pa pb) := hsp
                  clear hsp
                  go_wp2_with (go_at_call 26; go_must (refine lhas_any _ L pn true HHB.out _ HISW.out _ ?_))
                  go_roundg ((T).length - (k + 1))
                  case measure => omega
                  case rel => exact ⟨k + 1, a1, b1, a2, b2, pa, pb, _, O + 1, by omega, rfl, by go_num, by go_num, by omega, rfl, rfl, hso, HON, HPC.out.hx, HPC.out.hy, HSP2, HB2⟩
                · have hPn : P ≠ [] := fun e => hO0 (by rw [HO.out, e]; rfl)
                  have hd0 : ((O : Int) == 0) = false := by simpa using hO0
                  have c1 := run_conv_bs (P := Try.prog) Try.underlying25 Try.underlying5 Try.underlying9 (HPC.out.hx.below HYW.out)
                  have c2 := run_conv_bs (P := Try.prog) Try.underlying25 Try.underlying5 Try.underlying9 (HPC.out.hy.below HYW.out)
                  have c3 := run_conv_bs (P := Try.prog) Try.underlying25 Try.underlying5 Try.underlying9 (HBL.out.below HYW.out)
                  have c4 := run_conv_bs (P := Try.prog) Try.underlying25 Try.underlying5 Try.underlying9 (HBM.out.below HYW.out)
                  obtain ⟨l1, hl1⟩ : ∃ b, Op.bytesLess pa bl = b := ⟨_, rfl⟩
                  obtain ⟨l2, hl2⟩ : ∃ b, Op.bytesLess pb bm = b := ⟨_, rfl⟩
                  obtain ⟨e2, he2⟩ : ∃ b, (pb == bm) = b := ⟨_, rfl⟩
                  have HPUSH : Hid (∀ bl' bm', bl' = (if l1 then pa else bl) → bm' = (if l2 || e2 then bm else pb) → SpanB (P ++ [(⟨pn, pl, pc, pa, pb⟩ : Pl)]) bl' bm') := fun bl' bm' h1 h2 => HSP.out.push hPn (by rw [hl1]; exact h1) (by rw [hl2, he2]; exact h2)
                  clear hPn hO0
                  cases l1 with
                  | true =>
                    cases l2 with
                    | true =>
                      have HSP2 : Hid (SpanB (P ++ [(⟨pn, pl, pc, pa, pb⟩ : Pl)]) pa bm) := HPUSH.out _ _ rfl rfl
                      clear HPUSH
                      go_wp2_with (go_at_call 26; go_must (refine lhas_any _ L pn true HHB.out _ HISW.out _ ?_))
                      go_roundg ((T).length - (k + 1))
                      case measure => omega
                      case rel => exact ⟨k + 1, a1, ma, a2, mc, pa, bm, _, O + 1, by omega, rfl, by go_num, by go_num, by omega, rfl, rfl, hso, HON, HPC.out.hx, HBM, HSP2, HB2⟩
                    | false =>
                      cases e2 with
                      | true =>
                        have HSP2 : Hid (SpanB (P ++ [(⟨pn, pl, pc, pa, pb⟩ : Pl)]) pa bm) := HPUSH.out _ _ rfl rfl
                        clear HPUSH
                        go_wp2_with (go_at_call 26; go_must (refine lhas_any _ L pn true HHB.out _ HISW.out _ ?_))
                        go_roundg ((T).length - (k + 1))
                        case measure => omega
                        case rel => exact ⟨k + 1, a1, ma, a2, mc, pa, bm, _, O + 1, by omega, rfl, by go_num, by go_num, by omega, rfl, rfl, hso, HON, HPC.out.hx, HBM, HSP2, HB2⟩
                      | false =>
                        have HSP2 : Hid (SpanB (P ++ [(⟨pn, pl, pc, pa, pb⟩ : Pl)]) pa pb) := HPUSH.out _ _ rfl rfl
                        clear HPUSH
                        go_wp2_with (go_at_call 26; go_must (refine lhas_any _ L pn true HHB.out _ HISW.out _ ?_))
                        go_roundg ((T).length - (k + 1))
                        case measure => omega
                        case rel => exact ⟨k + 1, a1, b1, a2, b2, pa, pb, _, O + 1, by omega, rfl, by go_num, by go_num, by omega, rfl, rfl, hso, HON, HPC.out.hx, HPC.out.hy, HSP2, HB2⟩
                  | false =>
                    cases l2 with
                    | true =>
                      have HSP2 : Hid (SpanB (P ++ [(⟨pn, pl, pc, pa, pb⟩ : Pl)]) bl bm) := HPUSH.out _ _ rfl rfl
                      clear HPUSH
                      go_wp2_with (go_at_call 26; go_must (refine lhas_any _ L pn true HHB.out _ HISW.out _ ?_))
                      go_roundg ((T).length - (k + 1))
                      case measure => omega
                      case rel => exact ⟨k + 1, la, ma, lc, mc, bl, bm, _, O + 1, by omega, rfl, by go_num, by go_num, by omega, rfl, rfl, hso, HON, HBL, HBM, HSP2, HB2⟩
                    | false =>
                      cases e2 with
                      | true =>
                        have HSP2 : Hid (SpanB (P ++ [(⟨pn, pl, pc, pa, pb⟩ : Pl)]) bl bm) := HPUSH.out _ _ rfl rfl
                        clear HPUSH
                        go_wp2_with (go_at_call 26; go_must (refine lhas_any _ L pn true HHB.out _ HISW.out _ ?_))
                        go_roundg ((T).length - (k + 1))
                        case measure => omega
                        case rel => exact ⟨k + 1, la, ma, lc, mc, bl, bm, _, O + 1, by omega, rfl, by go_num, by go_num, by omega, rfl, rfl, hso, HON, HBL, HBM, HSP2, HB2⟩
                      | false =>
                        have HSP2 : Hid (SpanB (P ++ [(⟨pn, pl, pc, pa, pb⟩ : Pl)]) bl pb) := HPUSH.out _ _ rfl rfl
                        clear HPUSH
                        go_wp2_with (go_at_call 26; go_must (refine lhas_any _ L pn true HHB.out _ HISW.out _ ?_))
                        go_roundg ((T).length - (k + 1))
                        case measure => omega
                        case rel => exact ⟨k + 1, la, b1, lc, b2, bl, pb, _, O + 1, by omega, rfl, by go_num, by go_num, by omega, rfl, rfl, hso, HON, HBL, HPC.out.hy, HSP2, HB2⟩
            · have hkk : ¬ (k : Int) < ((60 : Nat) : Int) := by first | exact_mod_cast hlt | (have := HLEN.out; omega)
              have hPT : pickedL L (T) = P := by rw [← HP.out, List.take_of_length_le (by omega)]
              obtain ⟨_, _, c3', _⟩ := (checkL_iff _ _ _ _).1 HOK.out
              obtain ⟨n1, n2, n3⟩ := picked_all c3' HPK.out
              have hOL : O = L.length := by rw [HO.out, ← hPT, n2]
              have hPn : P ≠ [] := by rw [← hPT]; exact n3
              have hLl : L.length ≤ 60 := by rw [← n2]; exact Nat.le_trans (List.length_filter_le _ _) h60T
              have hL0 : L.length ≠ 0 := fun e => n3 (List.eq_nil_of_length_eq_zero (by rw [n2]; exact e))
              obtain ⟨⟨ga, gam, gae⟩, ⟨gb, gbm, gbe⟩, hall⟩ := HSP.out hPn
              have hgaT : ga ∈ (T) := (List.mem_filter.1 (show ga ∈ pickedL L (T) by rw [hPT]; exact gam)).1
              have hgbT : gb ∈ (T) := (List.mem_filter.1 (show gb ∈ pickedL L (T) by rw [hPT]; exact gbm)).1
              have hbll : bl.length ≤ 140737488351232 := by rw [gae]; exact (HV2.out.pb ga hgaT).la
              have hbml : bm.length ≤ 140737488351232 := by rw [gbe]; exact (HV2.out.pb gb hgbT).lb
              obtain ⟨OV, hov⟩ : ∃ o, overL (T) z bl bm = o := ⟨_, rfl⟩
              obtain ⟨un, hun⟩ : ∃ u, underL (T) z L = u := ⟨_, rfl⟩
              have hfit : OV.length = un → (applyL ⟨log, next, seq, (T)⟩ ⟨log, next + 1, seq, [⟨next, z, 1, bl, bm⟩], L⟩).2 = 0 := fun e =>
                fit_law (v := ⟨log, next, seq, (T)⟩) HOK.out (by show next < _; omega) HPK.out bl bm ⟨ga, by rw [hPT]; exact gam, gae⟩ ⟨gb, by rw [hPT]; exact gbm, gbe⟩ (fun g hg => hall g (by rw [← hPT]; exact hg)) (by show (overL (T) z bl bm).length = underL (T) z L; rw [hov, hun]; exact e)
              have HWF : Hid (∀ n ∈ L, (Lit.int .i64 n).wf = true) := fun n hn => by
                obtain ⟨p, hp, rfl⟩ := picked_mem HPK.out n hn
                have := HV2.out.pb p hp
                exact WalkArith.wf_i64 ⟨this.n0, this.n1⟩
              have HFIT := Lib.hid hfit
              have HOV := Lib.hid hov
              have HUN := Lib.hid hun
              subst hOL
              have hd0 : ((L.length : Int) == 0) = false := by simpa using hL0
              have hwrap : IntKind.i64.wrap (next + 1) = next + 1 := by rw [IntKind.wrap_i64]; omega
              have HBW := Lib.hid hbw
              have HRW : Hid (wo.drew.heap[w.heap.size]? = some _) := hrow
              have hbd : Below w.heap.size w wo.drew := hbw.drew
              have s7 : (wo.drew.cell? ⟨w.heap.size, 0, none⟩ = some (Value.int .i64 log) ∧ wo.drew.cell? ⟨w.heap.size, 1, none⟩ = some (Value.int .i64 next) ∧ wo.drew.cell? ⟨w.heap.size, 2, none⟩ = some (Value.int .i64 seq) ∧ wo.drew.cell? ⟨w.heap.size, 3, none⟩ = some (Value.slice ((some ⟨vb, vo, none⟩)) (60) vc)) := v4_of_row (w := wo.drew) hrow
              have f3 : wo.cell? ⟨w.heap.size, 3, none⟩ = some (Value.slice ((some ⟨vb, vo, none⟩)) (60) vc) := cell_of_row _ w.heap.size 3 _ _ _ hrow
              have PT := Lib.hid (HV2.out.below hbd)
              have PL := Lib.hid (HBL.out.below hbd)
              have PM := Lib.hid (HBM.out.below hbd)
              have PI := Lib.hid ((HIS4.out.below HB.out).below (Below.refl wo.heap.size wo).drew)
              have HZ1 := Lib.hid hz1
              have HZ2 := Lib.hid hz2
              clear hPT c3' n1 n2 n3 hPn gae gbe hall hgaT hgbT hov hun hfit hbw hrow hbd hL0 hz1 hz2 gam gbm
              by_cases hq : OV.length = un
              · have hqq : ((OV.length : Int) != (un : Int)) = false := by
                  have h : (OV.length : Int) = (un : Int) := by omega
                  rw [h]
                  simp
                obtain ⟨X, hX⟩ : ∃ X, applyL ⟨log, next, seq, (T)⟩ ⟨log, next + 1, seq, [⟨next, z, 1, bl, bm⟩], L⟩ = (X, 0) := ⟨_, Prod.ext rfl (HFIT.out hq)⟩
                have HX := Lib.hid hX
                obtain ⟨on, hon⟩ : ∃ n, OV.length = n := ⟨_, rfl⟩
                clear hX hq
                go_wp2_with fail
                clear f3
                go_region_held3 (fun x => (x.cell? ⟨w.heap.size, 0, none⟩ = some (Value.int .i64 log) ∧ x.cell? ⟨w.heap.size, 1, none⟩ = some (Value.int .i64 next) ∧ x.cell? ⟨w.heap.size, 2, none⟩ = some (Value.int .i64 seq) ∧ x.cell? ⟨w.heap.size, 3, none⟩ = some (Value.slice ((some ⟨vb, vo, none⟩)) (60) vc)))
                  (first | exact s7 | exact v4_later hk1 s7 | exact v4_later hk2 s7 | go_keep)
                  (first
                    | (go_at_call 27; refine over_any log next seq z _ _ _ (T) bl bm OV HOV.out hll _ PT.out PL.out PM.out _ ?_; intro oa oc wq hown hk1)
                    | (go_at_call 28; refine under_any log next seq z _ _ (T) L un HUN.out hll _ (PT.out.below hk1) (PI.out.below hk1) _ ?_; intro wq2 hkb; have hk2 := below_tra hk1 hkb))
                have HK2 := Lib.hid hk2
                have hr2 := row_on HRW.out hk2
                have HWQ := Lib.hid (below_then (HBW.out.drew) hk2 HBW.out.size)
                have PT2 := Lib.hid (PT.out.below hk2)
                have PI2 := Lib.hid (PI.out.below hk2)
                have PL2 := Lib.hid (PL.out.below hk2)
                have PM2 := Lib.hid (PM.out.below hk2)
                clear hk1 hkb hk2 s7
                obtain ⟨q0, q1, q2, q3⟩ := v4_of_row hr2
                clear hr2
                go_wp2_with (first
                  | (go_at_call 29; have hx5 : Below wq2.heap.size wq2 (wq2.alloc (Obj.cells #[Value.int .i64 next, .int .i64 z, .int .i64 1, .slice la bl.length lc, .slice ma bm.length mc] 59)) := (Below.refl _ _).alloc (Nat.le_refl _) _; go_must (refine eapply_any log next seq log (next + 1) seq _ _ _ (T) [⟨next, z, 1, bl, bm⟩] L X _ HX.out (by omega) (by simp) (by omega) HWF.out _ (PT2.out.below hx5) (pls_one9 (p := ⟨next, z, 1, bl, bm⟩) (heap_alloc_new wq2 (Obj.cells #[Value.int .i64 next, .int .i64 z, .int .i64 1, .slice la bl.length lc, .slice ma bm.length mc] 59)) ⟨PL2.out.below hx5, PM2.out.below hx5, ⟨hbll, hbml, by show _ ≤ next; omega, by show next ≤ _; omega, by have := HZ1.out; show _ ≤ z; omega, by have := HZ2.out; show z ≤ _; omega, by show (-9223372036854775808 : Int) ≤ 1; omega, by show (1 : Int) ≤ 9223372036854775807; omega⟩⟩) (PI2.out.below hx5) _ ?_); intro xv w6 hp6 hb6; obtain ⟨xa, xc, rfl⟩ := hp6.shape; have HX6 := Lib.hid (below_then HWQ.out (below_tra (below_tra hx5 hb6) ((Below.refl w6.heap.size w6).alloc (Nat.le_refl _) (Obj.cells #[Value.int .i64 X.log, .int .i64 X.next, .int .i64 X.seq, .slice xa X.tabs.length xc] 52))) HWQ.out.size); clear hx5 hp6 hb6)
                  | (go_at_call 13; go_in)
                  | (go_at_call 15; go_must (refine wakes_any _ _ ?_); intro w9 hb9; have HX9 := Lib.hid (below_then HX6.out hb9 (HX6.out).size); clear hb9))
                all_goals exact HR.out _ HX9.out
              · have hqq : ((OV.length : Int) != (un : Int)) = true := by
                  have h : (OV.length : Int) ≠ (un : Int) := by omega
                  simpa using h
                have hz1 := HZ1.out
                clear hq
                go_wp2_with fail
                clear f3
                go_region_held3 (fun x => (x.cell? ⟨w.heap.size, 0, none⟩ = some (Value.int .i64 log) ∧ x.cell? ⟨w.heap.size, 1, none⟩ = some (Value.int .i64 next) ∧ x.cell? ⟨w.heap.size, 2, none⟩ = some (Value.int .i64 seq) ∧ x.cell? ⟨w.heap.size, 3, none⟩ = some (Value.slice ((some ⟨vb, vo, none⟩)) (60) vc)))
                  (first | exact s7 | exact v4_later hk1 s7 | exact v4_later hk2 s7 | go_keep)
                  (first
                    | (go_at_call 27; refine over_any log next seq z _ _ _ (T) bl bm OV HOV.out hll _ PT.out PL.out PM.out _ ?_; intro oa oc wq hown hk1)
                    | (go_at_call 28; refine under_any log next seq z _ _ (T) L un HUN.out hll _ (PT.out.below hk1) (PI.out.below hk1) _ ?_; intro wq2 hkb; have hk2 := below_tra hk1 hkb))
                have HWQ := Lib.hid (below_then (HBW.out.drew) hk2 HBW.out.size)
                clear hk1 hkb hk2 s7
                go_wp2_with (go_at_call 15; go_must (refine wakes_any _ _ ?_); intro w9 hb9; have HX9 := Lib.hid (below_then HWQ.out hb9 (HWQ.out).size); clear hb9)
                all_goals exact HR.out _ HX9.out
  · have h60z : ¬ (60 : Int) < (l.length : Int) := by omega
    obtain ⟨ok, hok⟩ : ∃ ok, checkL apartL log next seq l = ok := ⟨_, rfl⟩
    obtain ⟨⟨z, L, t⟩, hpk⟩ : ∃ q, pickL ok l = q := ⟨_, rfl⟩
    have HOK := Lib.hid hok
    have HPK := Lib.hid hpk
    have HLEN : Hid (l.length = l.length) := rfl
    have h60T : l.length ≤ 60 := by omega
    clear hok hpk
    have hll : l.length ≤ 1000000 := by omega
    have HFIRST : Hid True := trivial
    cases ok with
    | false =>
      obtain rfl : false = t := by
        have := HPK.out
        unfold pickL at this
        rw [if_pos rfl] at this
        cases this
        rfl
      go_enter Try.func8, Try.ntmps8
      go_wp2_with (first | (go_at_call 22; go_must (refine pick_any log next seq _ l _ HOK.out _ _ _ HPK.out hll _ (HV.out.below hw1) _ ?_); intro a3 c3 w3 hown3 hb3; have HX3 := Lib.hid (hw1.trans (hb3.mono (by omega))); have HIS3 := Lib.hid (is_of_owns hown3 rfl); have n3 := row_on N0.out hb3; have HN3 := Lib.hid n3; obtain ⟨g0, g1, g2, g3⟩ := v4_of_row n3; clear hown3 hb3 n3) | (have hq := HFIRST; go_at_call 25; go_must (refine echeck_any log next seq _ l _ HOK.out hll _ (HV.out.below HX3.out) _ ?_); intro w4 hb4; unfold errI; have HX4 := Lib.hid (below_then HX3.out hb4 HX3.out.size); have HIS4 := Lib.hid (HIS3.out.below hb4); have n4 := row_on HN3.out hb4; have HN4 := Lib.hid n4; obtain ⟨i0, i1, i2, i3⟩ := v4_of_row n4; have HSECOND : Hid True := trivial; clear hb4 n4 HFIRST) | (go_at_call 13; go_in) | (go_at_call 15; go_must (refine wakes_any _ _ ?_); intro w9 hb9; have HX9 := Lib.hid (below_then HX4.out hb9 (HX4.out).size); clear hb9))
      all_goals exact HR.out _ HX9.out
    | true =>
      have hnx := check_next9 HOK.out
      by_cases hbig : (1099511627776 : Int) ≤ next
      · have hbg : decide ((1099511627776 : Int) ≤ next) = true := decide_eq_true hbig
        cases t with
        | false =>
          go_enter Try.func8, Try.ntmps8
          go_wp2_with (first | (go_at_call 22; go_must (refine pick_any log next seq _ l _ HOK.out _ _ _ HPK.out hll _ (HV.out.below hw1) _ ?_); intro a3 c3 w3 hown3 hb3; have HX3 := Lib.hid (hw1.trans (hb3.mono (by omega))); have HIS3 := Lib.hid (is_of_owns hown3 rfl); have n3 := row_on N0.out hb3; have HN3 := Lib.hid n3; obtain ⟨g0, g1, g2, g3⟩ := v4_of_row n3; clear hown3 hb3 n3) | (have hq := HFIRST; go_at_call 25; go_must (refine echeck_any log next seq _ l _ HOK.out hll _ (HV.out.below HX3.out) _ ?_); intro w4 hb4; unfold errI; have HX4 := Lib.hid (below_then HX3.out hb4 HX3.out.size); have HIS4 := Lib.hid (HIS3.out.below hb4); have n4 := row_on HN3.out hb4; have HN4 := Lib.hid n4; obtain ⟨i0, i1, i2, i3⟩ := v4_of_row n4; have HSECOND : Hid True := trivial; clear hb4 n4 HFIRST) | (go_at_call 13; go_in) | (go_at_call 15; go_must (refine wakes_any _ _ ?_); intro w9 hb9; have HX9 := Lib.hid (below_then HX4.out hb9 (HX4.out).size); clear hb9))
          all_goals exact HR.out _ HX9.out
        | true =>
          go_enter Try.func8, Try.ntmps8
          go_wp2_with (first | (go_at_call 22; go_must (refine pick_any log next seq _ l _ HOK.out _ _ _ HPK.out hll _ (HV.out.below hw1) _ ?_); intro a3 c3 w3 hown3 hb3; have HX3 := Lib.hid (hw1.trans (hb3.mono (by omega))); have HIS3 := Lib.hid (is_of_owns hown3 rfl); have n3 := row_on N0.out hb3; have HN3 := Lib.hid n3; obtain ⟨g0, g1, g2, g3⟩ := v4_of_row n3; clear hown3 hb3 n3) | (have hq := HFIRST; go_at_call 25; go_must (refine echeck_any log next seq _ l _ HOK.out hll _ (HV.out.below HX3.out) _ ?_); intro w4 hb4; unfold errI; have HX4 := Lib.hid (below_then HX3.out hb4 HX3.out.size); have HIS4 := Lib.hid (HIS3.out.below hb4); have n4 := row_on HN3.out hb4; have HN4 := Lib.hid n4; obtain ⟨i0, i1, i2, i3⟩ := v4_of_row n4; have HSECOND : Hid True := trivial; clear hb4 n4 HFIRST) | (have hq := HSECOND; go_at_call 25; go_must (refine echeck_any log next seq _ l _ HOK.out hll _ (HV.out.below HX4.out) _ ?_); intro w5 hb5; unfold errI; have HX5 := Lib.hid (below_then HX4.out hb5 HX4.out.size); clear hb5 HSECOND) | (go_at_call 13; go_in) | (go_at_call 15; go_must (refine wakes_any _ _ ?_); intro w9 hb9; have HX9 := Lib.hid (below_then HX5.out hb9 (HX5.out).size); clear hb9))
          all_goals exact HR.out _ HX9.out
      · have hbg : decide ((1099511627776 : Int) ≤ next) = false := decide_eq_false hbig
        cases t with
        | false =>
          obtain ⟨rfl, rfl⟩ := pick_none HPK.out
          go_enter Try.func8, Try.ntmps8
          go_wp2_with (first | (go_at_call 22; go_must (refine pick_any log next seq _ l _ HOK.out _ _ _ HPK.out hll _ (HV.out.below hw1) _ ?_); intro a3 c3 w3 hown3 hb3; have HX3 := Lib.hid (hw1.trans (hb3.mono (by omega))); have HIS3 := Lib.hid (is_of_owns hown3 rfl); have n3 := row_on N0.out hb3; have HN3 := Lib.hid n3; obtain ⟨g0, g1, g2, g3⟩ := v4_of_row n3; clear hown3 hb3 n3) | (have hq := HFIRST; go_at_call 25; go_must (refine echeck_any log next seq _ l _ HOK.out hll _ (HV.out.below HX3.out) _ ?_); intro w4 hb4; unfold errI; have HX4 := Lib.hid (below_then HX3.out hb4 HX3.out.size); have HIS4 := Lib.hid (HIS3.out.below hb4); have n4 := row_on HN3.out hb4; have HN4 := Lib.hid n4; obtain ⟨i0, i1, i2, i3⟩ := v4_of_row n4; have HSECOND : Hid True := trivial; clear hb4 n4 HFIRST) | (go_at_call 13; go_in) | (go_at_call 15; go_must (refine wakes_any _ _ ?_); intro w9 hb9; have HX9 := Lib.hid (below_then HX4.out hb9 (HX4.out).size); clear hb9))
          all_goals exact HR.out _ HX9.out
        | true =>
          obtain ⟨hz1, hz2⟩ : 1 ≤ z ∧ z ≤ 3 := ⟨(pick_shape HPK.out).1, (pick_shape HPK.out).2.1⟩
          go_enter Try.func8, Try.ntmps8
          go_wp2_with (first | (go_at_call 22; go_must (refine pick_any log next seq _ l _ HOK.out _ _ _ HPK.out hll _ (HV.out.below hw1) _ ?_); intro a3 c3 w3 hown3 hb3; have HX3 := Lib.hid (hw1.trans (hb3.mono (by omega))); have HIS3 := Lib.hid (is_of_owns hown3 rfl); have n3 := row_on N0.out hb3; have HN3 := Lib.hid n3; obtain ⟨g0, g1, g2, g3⟩ := v4_of_row n3; clear hown3 hb3 n3) | (have hq := HFIRST; go_at_call 25; go_must (refine echeck_any log next seq _ l _ HOK.out hll _ (HV.out.below HX3.out) _ ?_); intro w4 hb4; unfold errI; have HX4 := Lib.hid (below_then HX3.out hb4 HX3.out.size); have HIS4 := Lib.hid (HIS3.out.below hb4); have n4 := row_on HN3.out hb4; have HN4 := Lib.hid n4; obtain ⟨i0, i1, i2, i3⟩ := v4_of_row n4; have HSECOND : Hid True := trivial; clear hb4 n4 HFIRST) | (go_at_call 13; go_in))
          clear g0 g1 g2 g3 i0 i1 i2 i3 HSECOND
          go_loopg [6, 7, 8, 9] (l).length (fun gn sl sm ab i wr => ∃ (k : Nat) (la ma : Option Addr) (lc mc : Nat) (bl bm : List UInt8) (P : List Pl) (O : Nat), k ≤ (l).length ∧ gn = (l).length - k ∧ i = .int .i64 k ∧ ab = .int .i64 O ∧ O ≤ k ∧ sl = .slice la bl.length lc ∧ sm = .slice ma bm.length mc ∧ Hid (pickedL L ((l).take k) = P) ∧ Hid (O = P.length) ∧ Hid (Bs w (.slice la bl.length lc) bl) ∧ Hid (Bs w (.slice ma bm.length mc) bm) ∧ Hid (SpanB P bl bm) ∧ Hid (Below w4.heap.size w4 wr))
          case atStart => exact ⟨0, none, none, 0, 0, [], [], [], 0, Nat.zero_le _, by omega, rfl, rfl, Nat.le_refl _, rfl, rfl, rfl, rfl, bs_none w, bs_none w, SpanB.nil _ _, Below.refl _ _⟩
          case round =>
            obtain ⟨k, la, ma, lc, mc, bl, bm, P, O, hk, rfl, rfl, rfl, hO, rfl, rfl, HP, HO, HBL, HBM, HSP, HB⟩ := hrel
            obtain ⟨wo, rfl⟩ : ∃ x, x = wr := ⟨_, rfl⟩
            have hbw : Below w.heap.size w wo := below_then HX4.out HB.out HX4.out.size
            have hrow := row_on HN4.out HB.out
            by_cases hlt : k < (l).length
            · have hkk : (k : Int) < ((l.length : Nat) : Int) := by first | exact_mod_cast hlt | (have := HLEN.out; omega)
              have hk0 : (0 : Int) ≤ (k : Int) := by omega
              have f3 : wo.cell? ⟨w.heap.size, 3, none⟩ = some (Value.slice (va) (l.length) vc) := cell_of_row _ w.heap.size 3 _ _ _ hrow
              obtain ⟨vb', vo', px, py, hva, q5, hpc⟩ : ∃ (b o : Nat) (x y : Value), (va) = some (⟨b, o, none⟩ : Addr) ∧ PL5 w b (o + k * 5) x y (l)[k] ∧ PlC w x y (l)[k] := by
                obtain ⟨va', vc', ee, _, _, _, v4⟩ := HV.out
                simp only [Value.slice.injEq] at ee
                obtain ⟨e1, -, -⟩ := ee
                obtain ⟨b, o, e2, v5⟩ := v4 (by omega)
                obtain ⟨x, y, q5, hpc⟩ := v5 k hlt
                exact ⟨b, o, x, y, by rw [e1, e2], q5, hpc⟩
              obtain ⟨p0, p1, p2, p3, p4⟩ := q5.below hbw
              have hsu := pickedL_succ L (l) k hlt
              rw [HP.out] at hsu
              obtain ⟨p, hp⟩ : ∃ p, (l)[k] = p := ⟨_, rfl⟩
              rw [hp] at p0 p1 p2 hpc hsu
              have s1 := hpc.shape
              have HPC := Lib.hid hpc
              have HSU := Lib.hid hsu
              clear hp hpc hsu HP q5
              obtain ⟨pn, pl, pc, pa, pb⟩ := p
              simp only at *
              obtain ⟨⟨a1, a2, rfl⟩, b1, b2, rfl⟩ := s1
              rw [hva] at f3
              first | (obtain rfl := hva) | (simp only [Option.some.injEq, Addr.mk.injEq, and_true] at hva; obtain ⟨rfl, rfl⟩ := hva)
              have hya : Below wo.heap.size wo (wo.alloc (Obj.cells #[Value.int .i64 pn, .int .i64 pl, .int .i64 pc, .slice a1 pa.length a2, .slice b1 pb.length b2] 59)) := (Below.refl _ _).alloc (Nat.le_refl _) _
              have HYW := Lib.hid (below_then hbw hya hbw.size)
              have HB2 := Lib.hid (below_tra HB.out hya)
              have HISW := Lib.hid (HIS4.out.below HB2.out)
              obtain ⟨hb, hhb⟩ : ∃ b, hasI L pn = b := ⟨_, rfl⟩
              have HHB := Lib.hid hhb
              clear hbw hrow hya hhb
              cases hb with
              | false =>
                have hso : Hid (pickedL L ((l).take (k + 1)) = P) := by
                  have := HSU.out
                  rw [HHB.out, if_neg (by simp)] at this
                  exact this
                clear HSU
                go_wp2_with (go_at_call 26; go_must (refine lhas_any _ L pn false HHB.out _ HISW.out _ ?_))
                go_roundg ((l).length - (k + 1))
                case measure => omega
                case rel => exact ⟨k + 1, la, ma, lc, mc, bl, bm, P, O, by omega, rfl, by go_num, rfl, by omega, rfl, rfl, hso, HO, HBL, HBM, HSP, HB2⟩
              | true =>
                have hso : Hid (pickedL L ((l).take (k + 1)) = P ++ [⟨pn, pl, pc, pa, pb⟩]) := by
                  have := HSU.out
                  rw [HHB.out, if_pos rfl] at this
                  exact this
                have HON : Hid (O + 1 = (P ++ [(⟨pn, pl, pc, pa, pb⟩ : Pl)]).length) := by show _ = _; rw [HO.out, List.length_append]; rfl
                clear HSU
                by_cases hO0 : O = 0
                · obtain rfl : P = [] := List.eq_nil_of_length_eq_zero (by rw [← HO.out]; exact hO0)
                  have hd0 : ((O : Int) == 0) = true := by simpa using hO0
                  have hsp := SpanB.one ⟨pn, pl, pc, pa, pb⟩
                  have HSP2 : Hid (SpanB ([] ++ [(⟨pn, pl, pc, pa, pb⟩ : Pl)]) pa pb) := hsp
                  clear hsp
                  go_wp2_with (go_at_call 26; go_must (refine lhas_any _ L pn true HHB.out _ HISW.out _ ?_))
                  go_roundg ((l).length - (k + 1))
                  case measure => omega
                  case rel => exact ⟨k + 1, a1, b1, a2, b2, pa, pb, _, O + 1, by omega, rfl, by go_num, by go_num, by omega, rfl, rfl, hso, HON, HPC.out.hx, HPC.out.hy, HSP2, HB2⟩
                · have hPn : P ≠ [] := fun e => hO0 (by rw [HO.out, e]; rfl)
                  have hd0 : ((O : Int) == 0) = false := by simpa using hO0
                  have c1 := run_conv_bs (P := Try.prog) Try.underlying25 Try.underlying5 Try.underlying9 (HPC.out.hx.below HYW.out)
                  have c2 := run_conv_bs (P := Try.prog) Try.underlying25 Try.underlying5 Try.underlying9 (HPC.out.hy.below HYW.out)
                  have c3 := run_conv_bs (P := Try.prog) Try.underlying25 Try.underlying5 Try.underlying9 (HBL.out.below HYW.out)
                  have c4 := run_conv_bs (P := Try.prog) Try.underlying25 Try.underlying5 Try.underlying9 (HBM.out.below HYW.out)
                  obtain ⟨l1, hl1⟩ : ∃ b, Op.bytesLess pa bl = b := ⟨_, rfl⟩
                  obtain ⟨l2, hl2⟩ : ∃ b, Op.bytesLess pb bm = b := ⟨_, rfl⟩
                  obtain ⟨e2, he2⟩ : ∃ b, (pb == bm) = b := ⟨_, rfl⟩
                  have HPUSH : Hid (∀ bl' bm', bl' = (if l1 then pa else bl) → bm' = (if l2 || e2 then bm else pb) → SpanB (P ++ [(⟨pn, pl, pc, pa, pb⟩ : Pl)]) bl' bm') := fun bl' bm' h1 h2 => HSP.out.push hPn (by rw [hl1]; exact h1) (by rw [hl2, he2]; exact h2)
                  clear hPn hO0
                  cases l1 with
                  | true =>
                    cases l2 with
                    | true =>
                      have HSP2 : Hid (SpanB (P ++ [(⟨pn, pl, pc, pa, pb⟩ : Pl)]) pa bm) := HPUSH.out _ _ rfl rfl
                      clear HPUSH
                      go_wp2_with (go_at_call 26; go_must (refine lhas_any _ L pn true HHB.out _ HISW.out _ ?_))
                      go_roundg ((l).length - (k + 1))
                      case measure => omega
                      case rel => exact ⟨k + 1, a1, ma, a2, mc, pa, bm, _, O + 1, by omega, rfl, by go_num, by go_num, by omega, rfl, rfl, hso, HON, HPC.out.hx, HBM, HSP2, HB2⟩
                    | false =>
                      cases e2 with
                      | true =>
                        have HSP2 : Hid (SpanB (P ++ [(⟨pn, pl, pc, pa, pb⟩ : Pl)]) pa bm) := HPUSH.out _ _ rfl rfl
                        clear HPUSH
                        go_wp2_with (go_at_call 26; go_must (refine lhas_any _ L pn true HHB.out _ HISW.out _ ?_))
                        go_roundg ((l).length - (k + 1))
                        case measure => omega
                        case rel => exact ⟨k + 1, a1, ma, a2, mc, pa, bm, _, O + 1, by omega, rfl, by go_num, by go_num, by omega, rfl, rfl, hso, HON, HPC.out.hx, HBM, HSP2, HB2⟩
                      | false =>
                        have HSP2 : Hid (SpanB (P ++ [(⟨pn, pl, pc, pa, pb⟩ : Pl)]) pa pb) := HPUSH.out _ _ rfl rfl
                        clear HPUSH
                        go_wp2_with (go_at_call 26; go_must (refine lhas_any _ L pn true HHB.out _ HISW.out _ ?_))
                        go_roundg ((l).length - (k + 1))
                        case measure => omega
                        case rel => exact ⟨k + 1, a1, b1, a2, b2, pa, pb, _, O + 1, by omega, rfl, by go_num, by go_num, by omega, rfl, rfl, hso, HON, HPC.out.hx, HPC.out.hy, HSP2, HB2⟩
                  | false =>
                    cases l2 with
                    | true =>
                      have HSP2 : Hid (SpanB (P ++ [(⟨pn, pl, pc, pa, pb⟩ : Pl)]) bl bm) := HPUSH.out _ _ rfl rfl
                      clear HPUSH
                      go_wp2_with (go_at_call 26; go_must (refine lhas_any _ L pn true HHB.out _ HISW.out _ ?_))
                      go_roundg ((l).length - (k + 1))
                      case measure => omega
                      case rel => exact ⟨k + 1, la, ma, lc, mc, bl, bm, _, O + 1, by omega, rfl, by go_num, by go_num, by omega, rfl, rfl, hso, HON, HBL, HBM, HSP2, HB2⟩
                    | false =>
                      cases e2 with
                      | true =>
                        have HSP2 : Hid (SpanB (P ++ [(⟨pn, pl, pc, pa, pb⟩ : Pl)]) bl bm) := HPUSH.out _ _ rfl rfl
                        clear HPUSH
                        go_wp2_with (go_at_call 26; go_must (refine lhas_any _ L pn true HHB.out _ HISW.out _ ?_))
                        go_roundg ((l).length - (k + 1))
                        case measure => omega
                        case rel => exact ⟨k + 1, la, ma, lc, mc, bl, bm, _, O + 1, by omega, rfl, by go_num, by go_num, by omega, rfl, rfl, hso, HON, HBL, HBM, HSP2, HB2⟩
                      | false =>
                        have HSP2 : Hid (SpanB (P ++ [(⟨pn, pl, pc, pa, pb⟩ : Pl)]) bl pb) := HPUSH.out _ _ rfl rfl
                        clear HPUSH
                        go_wp2_with (go_at_call 26; go_must (refine lhas_any _ L pn true HHB.out _ HISW.out _ ?_))
                        go_roundg ((l).length - (k + 1))
                        case measure => omega
                        case rel => exact ⟨k + 1, la, b1, lc, b2, bl, pb, _, O + 1, by omega, rfl, by go_num, by go_num, by omega, rfl, rfl, hso, HON, HBL, HPC.out.hy, HSP2, HB2⟩
            · have hkk : ¬ (k : Int) < ((l.length : Nat) : Int) := by first | exact_mod_cast hlt | (have := HLEN.out; omega)
              have hPT : pickedL L (l) = P := by rw [← HP.out, List.take_of_length_le (by omega)]
              obtain ⟨_, _, c3', _⟩ := (checkL_iff _ _ _ _).1 HOK.out
              obtain ⟨n1, n2, n3⟩ := picked_all c3' HPK.out
              have hOL : O = L.length := by rw [HO.out, ← hPT, n2]
              have hPn : P ≠ [] := by rw [← hPT]; exact n3
              have hLl : L.length ≤ 60 := by rw [← n2]; exact Nat.le_trans (List.length_filter_le _ _) h60T
              have hL0 : L.length ≠ 0 := fun e => n3 (List.eq_nil_of_length_eq_zero (by rw [n2]; exact e))
              obtain ⟨⟨ga, gam, gae⟩, ⟨gb, gbm, gbe⟩, hall⟩ := HSP.out hPn
              have hgaT : ga ∈ (l) := (List.mem_filter.1 (show ga ∈ pickedL L (l) by rw [hPT]; exact gam)).1
              have hgbT : gb ∈ (l) := (List.mem_filter.1 (show gb ∈ pickedL L (l) by rw [hPT]; exact gbm)).1
              have hbll : bl.length ≤ 140737488351232 := by rw [gae]; exact (HV.out.pb ga hgaT).la
              have hbml : bm.length ≤ 140737488351232 := by rw [gbe]; exact (HV.out.pb gb hgbT).lb
              obtain ⟨OV, hov⟩ : ∃ o, overL (l) z bl bm = o := ⟨_, rfl⟩
              obtain ⟨un, hun⟩ : ∃ u, underL (l) z L = u := ⟨_, rfl⟩
              have hfit : OV.length = un → (applyL ⟨log, next, seq, (l)⟩ ⟨log, next + 1, seq, [⟨next, z, 1, bl, bm⟩], L⟩).2 = 0 := fun e =>
                fit_law (v := ⟨log, next, seq, (l)⟩) HOK.out (by show next < _; omega) HPK.out bl bm ⟨ga, by rw [hPT]; exact gam, gae⟩ ⟨gb, by rw [hPT]; exact gbm, gbe⟩ (fun g hg => hall g (by rw [← hPT]; exact hg)) (by show (overL (l) z bl bm).length = underL (l) z L; rw [hov, hun]; exact e)
              have HWF : Hid (∀ n ∈ L, (Lit.int .i64 n).wf = true) := fun n hn => by
                obtain ⟨p, hp, rfl⟩ := picked_mem HPK.out n hn
                have := HV.out.pb p hp
                exact WalkArith.wf_i64 ⟨this.n0, this.n1⟩
              have HFIT := Lib.hid hfit
              have HOV := Lib.hid hov
              have HUN := Lib.hid hun
              subst hOL
              have hd0 : ((L.length : Int) == 0) = false := by simpa using hL0
              have hwrap : IntKind.i64.wrap (next + 1) = next + 1 := by rw [IntKind.wrap_i64]; omega
              have HBW := Lib.hid hbw
              have HRW : Hid (wo.drew.heap[w.heap.size]? = some _) := hrow
              have hbd : Below w.heap.size w wo.drew := hbw.drew
              have s7 : (wo.drew.cell? ⟨w.heap.size, 0, none⟩ = some (Value.int .i64 log) ∧ wo.drew.cell? ⟨w.heap.size, 1, none⟩ = some (Value.int .i64 next) ∧ wo.drew.cell? ⟨w.heap.size, 2, none⟩ = some (Value.int .i64 seq) ∧ wo.drew.cell? ⟨w.heap.size, 3, none⟩ = some (Value.slice (va) (l.length) vc)) := v4_of_row (w := wo.drew) hrow
              have f3 : wo.cell? ⟨w.heap.size, 3, none⟩ = some (Value.slice (va) (l.length) vc) := cell_of_row _ w.heap.size 3 _ _ _ hrow
              have PT := Lib.hid (HV.out.below hbd)
              have PL := Lib.hid (HBL.out.below hbd)
              have PM := Lib.hid (HBM.out.below hbd)
              have PI := Lib.hid ((HIS4.out.below HB.out).below (Below.refl wo.heap.size wo).drew)
              have HZ1 := Lib.hid hz1
              have HZ2 := Lib.hid hz2
              clear hPT c3' n1 n2 n3 hPn gae gbe hall hgaT hgbT hov hun hfit hbw hrow hbd hL0 hz1 hz2 gam gbm
              by_cases hq : OV.length = un
              · have hqq : ((OV.length : Int) != (un : Int)) = false := by
                  have h : (OV.length : Int) = (un : Int) := by omega
                  rw [h]
                  simp
                obtain ⟨X, hX⟩ : ∃ X, applyL ⟨log, next, seq, (l)⟩ ⟨log, next + 1, seq, [⟨next, z, 1, bl, bm⟩], L⟩ = (X, 0) := ⟨_, Prod.ext rfl (HFIT.out hq)⟩
                have HX := Lib.hid hX
                obtain ⟨on, hon⟩ : ∃ n, OV.length = n := ⟨_, rfl⟩
                clear hX hq
                go_wp2_with fail
                clear f3
                go_region_held3 (fun x => (x.cell? ⟨w.heap.size, 0, none⟩ = some (Value.int .i64 log) ∧ x.cell? ⟨w.heap.size, 1, none⟩ = some (Value.int .i64 next) ∧ x.cell? ⟨w.heap.size, 2, none⟩ = some (Value.int .i64 seq) ∧ x.cell? ⟨w.heap.size, 3, none⟩ = some (Value.slice (va) (l.length) vc)))
                  (first | exact s7 | exact v4_later hk1 s7 | exact v4_later hk2 s7 | go_keep)
                  (first
                    | (go_at_call 27; refine over_any log next seq z _ _ _ (l) bl bm OV HOV.out hll _ PT.out PL.out PM.out _ ?_; intro oa oc wq hown hk1)
                    | (go_at_call 28; refine under_any log next seq z _ _ (l) L un HUN.out hll _ (PT.out.below hk1) (PI.out.below hk1) _ ?_; intro wq2 hkb; have hk2 := below_tra hk1 hkb))
                have HK2 := Lib.hid hk2
                have hr2 := row_on HRW.out hk2
                have HWQ := Lib.hid (below_then (HBW.out.drew) hk2 HBW.out.size)
                have PT2 := Lib.hid (PT.out.below hk2)
                have PI2 := Lib.hid (PI.out.below hk2)
                have PL2 := Lib.hid (PL.out.below hk2)
                have PM2 := Lib.hid (PM.out.below hk2)
                clear hk1 hkb hk2 s7
                obtain ⟨q0, q1, q2, q3⟩ := v4_of_row hr2
                clear hr2
                go_wp2_with (first
                  | (go_at_call 29; have hx5 : Below wq2.heap.size wq2 (wq2.alloc (Obj.cells #[Value.int .i64 next, .int .i64 z, .int .i64 1, .slice la bl.length lc, .slice ma bm.length mc] 59)) := (Below.refl _ _).alloc (Nat.le_refl _) _; go_must (refine eapply_any log next seq log (next + 1) seq _ _ _ (l) [⟨next, z, 1, bl, bm⟩] L X _ HX.out (by omega) (by simp) (by omega) HWF.out _ (PT2.out.below hx5) (pls_one9 (p := ⟨next, z, 1, bl, bm⟩) (heap_alloc_new wq2 (Obj.cells #[Value.int .i64 next, .int .i64 z, .int .i64 1, .slice la bl.length lc, .slice ma bm.length mc] 59)) ⟨PL2.out.below hx5, PM2.out.below hx5, ⟨hbll, hbml, by show _ ≤ next; omega, by show next ≤ _; omega, by have := HZ1.out; show _ ≤ z; omega, by have := HZ2.out; show z ≤ _; omega, by show (-9223372036854775808 : Int) ≤ 1; omega, by show (1 : Int) ≤ 9223372036854775807; omega⟩⟩) (PI2.out.below hx5) _ ?_); intro xv w6 hp6 hb6; obtain ⟨xa, xc, rfl⟩ := hp6.shape; have HX6 := Lib.hid (below_then HWQ.out (below_tra (below_tra hx5 hb6) ((Below.refl w6.heap.size w6).alloc (Nat.le_refl _) (Obj.cells #[Value.int .i64 X.log, .int .i64 X.next, .int .i64 X.seq, .slice xa X.tabs.length xc] 52))) HWQ.out.size); clear hx5 hp6 hb6)
                  | (go_at_call 13; go_in)
                  | (go_at_call 15; go_must (refine wakes_any _ _ ?_); intro w9 hb9; have HX9 := Lib.hid (below_then HX6.out hb9 (HX6.out).size); clear hb9))
                all_goals exact HR.out _ HX9.out
              · have hqq : ((OV.length : Int) != (un : Int)) = true := by
                  have h : (OV.length : Int) ≠ (un : Int) := by omega
                  simpa using h
                have hz1 := HZ1.out
                clear hq
                go_wp2_with fail
                clear f3
                go_region_held3 (fun x => (x.cell? ⟨w.heap.size, 0, none⟩ = some (Value.int .i64 log) ∧ x.cell? ⟨w.heap.size, 1, none⟩ = some (Value.int .i64 next) ∧ x.cell? ⟨w.heap.size, 2, none⟩ = some (Value.int .i64 seq) ∧ x.cell? ⟨w.heap.size, 3, none⟩ = some (Value.slice (va) (l.length) vc)))
                  (first | exact s7 | exact v4_later hk1 s7 | exact v4_later hk2 s7 | go_keep)
                  (first
                    | (go_at_call 27; refine over_any log next seq z _ _ _ (l) bl bm OV HOV.out hll _ PT.out PL.out PM.out _ ?_; intro oa oc wq hown hk1)
                    | (go_at_call 28; refine under_any log next seq z _ _ (l) L un HUN.out hll _ (PT.out.below hk1) (PI.out.below hk1) _ ?_; intro wq2 hkb; have hk2 := below_tra hk1 hkb))
                have HWQ := Lib.hid (below_then (HBW.out.drew) hk2 HBW.out.size)
                clear hk1 hkb hk2 s7
                go_wp2_with (go_at_call 15; go_must (refine wakes_any _ _ ?_); intro w9 hb9; have HX9 := Lib.hid (below_then HWQ.out hb9 (HWQ.out).size); clear hb9)
                all_goals exact HR.out _ HX9.out
end Go.Proofs.Ytgkgahjdjkmmnaa
