/- merge.See; what is seen of a thinned row, in plain lists. -/
import Derived.Test.YtgkgahjdjkmmnaaMergeThins
namespace Go.Proofs.Ytgkgahjdjkmmnaa
open Go.RowKit

/-- The newest entry of a key up to a number. -/
def seeL (l : List Ent) (key : List UInt8) (s : Int) : Option Ent := l.find? fun e => e.key == key && decide (e.seq ≤ s)
/-- A dead one is none. -/
def liveO (b : Bool) (o : Option Ent) : Option Ent := match o with
  | some e => if b && e.dead then none else some e
  | none => none

theorem seeL_append (a b : List Ent) (key : List UInt8) (s : Int) : seeL (a ++ b) key s = (seeL a key s).or (seeL b key s) := by
  unfold seeL
  rw [List.find?_append]
theorem seeL_none {l : List Ent} {key : List UInt8} {s : Int} (h : ∀ e ∈ l, e.key = key → ¬ e.seq ≤ s) : seeL l key s = none := by
  unfold seeL
  rw [List.find?_eq_none]
  intro e he
  by_cases hk : e.key = key
  · simp [h e he hk]
  · simp [hk]

/-- Of a part of one key's entries: the first that is seen. -/
theorem seeL_at {g : List Ent} {key : List UInt8} {s : Int} (hk : ∀ x ∈ g, x.key = key) (k : Nat) (h : k < g.length) (h1 : ∀ t (ht : t < g.length), t < k → s < g[t].seq) (h2 : g[k].seq ≤ s) : seeL g key s = some g[k] := by
  have e : g = g.take k ++ g[k] :: g.drop (k + 1) := by
    rw [← List.drop_eq_getElem_cons h, List.take_append_drop]
  conv => lhs; rw [e]
  rw [seeL_append, seeL_none, Option.none_or]
  · unfold seeL
    rw [List.find?_cons]
    have : (g[k].key == key && decide (g[k].seq ≤ s)) = true := by simp [hk _ (List.getElem_mem h), h2]
    rw [this]
  · intro x hx _
    obtain ⟨i, hi, rfl⟩ := List.getElem_of_mem hx
    rw [List.length_take] at hi
    rw [List.getElem_take]
    have := h1 i (by omega) (by omega)
    omega

theorem pickK_split (g : List Ent) (m : List Bool) (k : Nat) (hk : k < g.length) (hm : m.length = g.length) : pickK g m g.length = pickK g m k ++ (if m[k]'(by omega) then [g[k]] else []) ++ (((g.zip m).drop (k + 1)).filterMap fun p => if p.2 then some p.1 else none) := by
  rw [← pickK_succ g m k hk (by omega)]
  unfold pickK
  rw [← List.filterMap_append]
  congr 1
  rw [List.take_append_drop, List.take_of_length_le (by rw [List.length_zip]; omega)]

theorem snoc_ind {α : Type} {p : List α → Prop} (h0 : p []) (h1 : ∀ l x, p l → p (l ++ [x])) (l : List α) : p l := by
  have h : ∀ r : List α, p r.reverse := by
    intro r
    induction r with
    | nil => exact h0
    | cons a r ih => rw [List.reverse_cons]; exact h1 _ _ ih
  have := h l.reverse
  rwa [List.reverse_reverse] at this
theorem dropDead_app (a b : List Ent) : dropDead (a ++ b) = a ++ dropDead b ∨ (dropDead (a ++ b) = dropDead a ∧ ∀ e ∈ b, e.dead = true) := by
  refine snoc_ind (p := fun b => dropDead (a ++ b) = a ++ dropDead b ∨ (dropDead (a ++ b) = dropDead a ∧ ∀ e ∈ b, e.dead = true)) (by right; simp) (fun b x ih => ?_) b
  · show dropDead (a ++ (b ++ [x])) = a ++ dropDead (b ++ [x]) ∨ (dropDead (a ++ (b ++ [x])) = dropDead a ∧ ∀ e ∈ b ++ [x], e.dead = true)
    rw [← List.append_assoc, dropDead_snoc, dropDead_snoc]
    by_cases hx : x.dead = true
    · rw [if_pos hx, if_pos hx]
      rcases ih with h | ⟨h1, h2⟩
      · exact .inl h
      · refine .inr ⟨h1, fun e he => ?_⟩
        rcases List.mem_append.1 he with he | he
        · exact h2 e he
        · obtain rfl := List.mem_singleton.1 he
          exact hx
    · rw [if_neg hx, if_neg hx, List.append_assoc]
      exact .inl rfl
theorem dropDead_prefix (a : List Ent) : ∃ c, a = dropDead a ++ c ∧ ∀ e ∈ c, e.dead = true := by
  refine snoc_ind (p := fun a => ∃ c, a = dropDead a ++ c ∧ ∀ e ∈ c, e.dead = true) ⟨[], by simp [dropDead_nil], by simp⟩ (fun a x ih => ?_) a
  · show ∃ c, a ++ [x] = dropDead (a ++ [x]) ++ c ∧ ∀ e ∈ c, e.dead = true
    rw [dropDead_snoc]
    by_cases hx : x.dead = true
    · rw [if_pos hx]
      obtain ⟨c, h1, h2⟩ := ih
      refine ⟨c ++ [x], by rw [← List.append_assoc, ← h1], fun e he => ?_⟩
      rcases List.mem_append.1 he with he | he
      · exact h2 e he
      · obtain rfl := List.mem_singleton.1 he
        exact hx
    · rw [if_neg hx]
      exact ⟨[], by simp, by simp⟩

/-- What is seen of what is kept of one key's entries. -/
theorem see_kept {g : List Ent} {key : List UInt8} {s : Int} {b : Bool} {ss : List Int} (hne : g ≠ []) (hk : ∀ x ∈ g, x.key = key) (hm : ∀ s a b (_ : a ≤ b) (hb : b < g.length) (ha : a < g.length), (g[a]).seq ≤ s → (g[b]).seq ≤ s) (hs : s ∈ ss ∨ ∀ e ∈ g, e.seq ≤ s) :
    liveO b (seeL (keptG g b ss) key s) = liveO b (seeL g key s) := by
  have hmem : ∀ e ∈ keptG g b ss, e ∈ g := fun e he => keptG_mem he
  have hpos : 0 < g.length := List.length_pos_iff.2 hne
  by_cases hz : searchL g s < g.length
  · obtain ⟨k, hkz⟩ : ∃ k, searchL g s = k := ⟨_, rfl⟩
    rw [hkz] at hz
    have hat : (∀ t (ht : t < g.length), t < k → s < g[t].seq) ∧ g[k].seq ≤ s := by
      by_cases h0 : k = 0
      · subst h0
        refine ⟨fun t ht h => by omega, ?_⟩
        by_cases hc : g[0].seq ≤ s
        · exact hc
        · have : searchL g s ≠ 0 := by
            unfold searchL
            match g, hpos with
            | a :: r, _ =>
              simp only [List.getElem_cons_zero] at hc
              rw [List.takeWhile_cons, if_pos (by simp; omega)]
              simp
          omega
      · have h1 := (searchL_iff hz (by omega) (hm s)).1 hkz
        refine ⟨fun t ht h => ?_, h1.1⟩
        by_cases hc : g[t].seq ≤ s
        · have := hm s t (k - 1) (by omega) (by omega) ht hc
          omega
        · omega
    have hgs := seeL_at hk k hz hat.1 hat.2
    have hml : (seenL g ss).length = g.length := by rw [seenL, seenK_len]
    have hmk : (seenL g ss)[k]'(by omega) = true := by
      rw [seenK_get ss hm k hz]
      unfold staysL
      by_cases h0 : k = 0
      · simp [h0]
      · have hss : s ∈ ss := by
          rcases hs with h | h
          · exact h
          · have := h g[k - 1] (List.getElem_mem (by omega))
            have := hat.1 (k - 1) (by omega) (by omega)
            omega
        have h1 := (searchL_iff hz (by omega) (hm s)).1 hkz
        rw [Bool.or_eq_true, List.any_eq_true]
        right
        refine ⟨s, hss, ?_⟩
        have d1 : g.getD k default = g[k] := by simp [List.getD, hz]
        have d2 : g.getD (k - 1) default = g[k - 1]'(by omega) := by simp [List.getD, show k - 1 < g.length by omega]
        rw [d1, d2]
        simp [h1.1, h1.2]
    have hsplit := pickK_split g (seenL g ss) k hz hml
    rw [hmk, if_pos rfl] at hsplit
    have hpre : ∀ e ∈ pickK g (seenL g ss) k, e.key = key → ¬ e.seq ≤ s := by
      intro e he _
      unfold pickK at he
      obtain ⟨p, hp, hpe⟩ := List.mem_filterMap.1 he
      split at hpe
      · simp only [Option.some.injEq] at hpe
        subst hpe
        obtain ⟨i, hi, rfl⟩ := List.getElem_of_mem hp
        rw [List.length_take, List.length_zip] at hi
        rw [List.getElem_take, List.getElem_zip]
        have := hat.1 i (by omega) (by omega)
        show ¬ g[i].seq ≤ s
        omega
      · cases hpe
    have hfirst : ∀ c, seeL (pickK g (seenL g ss) k ++ g[k] :: c) key s = some g[k] := by
      intro c
      rw [seeL_append, seeL_none hpre, Option.none_or]
      unfold seeL
      rw [List.find?_cons]
      have : (g[k].key == key && decide (g[k].seq ≤ s)) = true := by simp [hk _ (List.getElem_mem hz), hat.2]
      rw [this]
    rw [hgs]
    unfold keptG
    cases b with
    | false =>
      rw [if_neg (by simp), hsplit, List.append_assoc, List.singleton_append, hfirst]
    | true =>
      rw [if_pos rfl, hsplit, List.append_assoc, List.singleton_append]
      obtain ⟨c, hc⟩ : ∃ c, (((g.zip (seenL g ss)).drop (k + 1)).filterMap fun p => if p.2 then some p.1 else none) = c := ⟨_, rfl⟩
      rw [hc, show pickK g (seenL g ss) k ++ g[k] :: c = (pickK g (seenL g ss) k ++ [g[k]]) ++ c by simp]
      rcases dropDead_app (pickK g (seenL g ss) k ++ [g[k]]) c with h | ⟨h, _⟩
      · rw [h, List.append_assoc, List.singleton_append, hfirst]
      · rw [h, dropDead_snoc]
        by_cases hd : g[k].dead = true
        · rw [if_pos hd]
          have : seeL (dropDead (pickK g (seenL g ss) k)) key s = none := by
            refine seeL_none fun e he => ?_
            obtain ⟨c', h1, _⟩ := dropDead_prefix (pickK g (seenL g ss) k)
            exact hpre e (by rw [h1]; exact List.mem_append_left _ he)
          rw [this]
          simp [liveO, hd]
        · rw [if_neg hd, hfirst]
  · have hall : ∀ e ∈ g, ¬ e.seq ≤ s := by
      intro e he hc
      obtain ⟨i, hi, rfl⟩ := List.getElem_of_mem he
      have hl := (List.takeWhile_sublist (fun e : Ent => decide (s < e.seq)) (l := g)).length_le
      have hlen : (g.takeWhile fun e => decide (s < e.seq)).length = g.length := by unfold searchL at hz; omega
      have heq := (List.takeWhile_sublist (fun e : Ent => decide (s < e.seq)) (l := g)).eq_of_length hlen
      have := List.all_eq_true.1 (List.all_takeWhile (p := fun e : Ent => decide (s < e.seq)) (l := g)) g[i] (by rw [heq]; exact he)
      simp at this
      omega
    rw [seeL_none fun e he _ => hall e (hmem e he), seeL_none fun e he _ => hall e he]

theorem keyRun_split {a : Ent} {r : List Ent} (hs : Srt lessE (a :: r)) : (∀ x ∈ (a :: r).take (keyRun (a :: r)), x.key = a.key) ∧ (∀ x ∈ (a :: r).drop (keyRun (a :: r)), x.key ≠ a.key) := by
  have hs1 := List.pairwise_cons.1 hs
  have e := List.takeWhile_append_dropWhile (p := fun e : Ent => e.key == a.key) (l := r)
  have hk : keyRun (a :: r) = (r.takeWhile fun e => e.key == a.key).length + 1 := by show 1 + _ = _; omega
  have ht : (a :: r).take (keyRun (a :: r)) = a :: r.takeWhile fun e => e.key == a.key := by
    rw [hk, List.take_succ_cons]
    congr 1
    have h := List.take_left (l₁ := r.takeWhile fun e => e.key == a.key) (l₂ := r.dropWhile fun e => e.key == a.key)
    rwa [e] at h
  have hd : (a :: r).drop (keyRun (a :: r)) = r.dropWhile fun e => e.key == a.key := by
    rw [hk, List.drop_succ_cons]
    have h := List.drop_left (l₁ := r.takeWhile fun e => e.key == a.key) (l₂ := r.dropWhile fun e => e.key == a.key)
    rwa [e] at h
  rw [ht, hd]
  refine ⟨fun x hx => ?_, fun x hx hc => ?_⟩
  · rcases List.mem_cons.1 hx with rfl | hx
    · rfl
    · have := List.all_eq_true.1 (List.all_takeWhile (p := fun e : Ent => e.key == a.key) (l := r)) x hx
      simpa using this
  · have hne : (r.dropWhile fun e => e.key == a.key) ≠ [] := List.ne_nil_of_mem hx
    obtain ⟨y, t, hy⟩ := List.exists_cons_of_ne_nil hne
    have hyk : (y.key == a.key) = false := by
      have := List.head_dropWhile_not (fun e : Ent => e.key == a.key) hne
      simp only [hy, List.head_cons] at this
      exact this
    have hsub : (y :: t).Sublist r := by rw [← hy]; exact List.dropWhile_sublist _
    have hyr : y ∈ r := hsub.mem List.mem_cons_self
    have h1 := hs1.1 y hyr
    have h2 := List.pairwise_cons.1 (hs1.2.sublist hsub)
    have hyk2 : y.key ≠ a.key := by simpa using hyk
    have c1 : Lib.compareBytes a.key y.key < 0 := by
      rcases (lessE_iff _ _).1 h1 with h | ⟨h, _⟩
      · exact h
      · exact absurd h.symm hyk2
    rw [hy] at hx
    rcases List.mem_cons.1 hx with rfl | hx
    · exact hyk2 hc
    · rcases (lessE_iff _ _).1 (h2.1 x hx) with h | ⟨h, _⟩
      · rw [hc] at h
        exact cb_irr _ (cb_trans _ _ _ c1 h)
      · exact hyk2 (h.trans hc)

theorem thinF_app (b : Bool) (ss : List Int) : ∀ (n : Nat) (l out : List Ent), thinF b ss n l out = out ++ thinF b ss n l []
  | 0, l, out => by simp [thinF]
  | n + 1, l, out => by
    unfold thinF
    by_cases h : l = []
    · rw [if_pos h, if_pos h, List.append_nil]
    · rw [if_neg h, if_neg h, thinF_app b ss n _ (out ++ _), thinF_app b ss n _ ([] ++ _), List.nil_append, List.append_assoc]
theorem keptG_len (g : List Ent) (b : Bool) (ss : List Int) : (keptG g b ss).length ≤ g.length := by
  have h1 := pickK_len g (seenL g ss) g.length
  unfold keptG
  split
  · have h2 := (List.dropWhile_sublist (fun e : Ent => e.dead) (l := (pickK g (seenL g ss) g.length).reverse)).length_le
    unfold dropDead
    rw [List.length_reverse]
    rw [List.length_reverse] at h2
    omega
  · exact h1
theorem thinF_len (b : Bool) (ss : List Int) : ∀ (n : Nat) (l : List Ent), (thinF b ss n l []).length ≤ l.length
  | 0, l => by simp [thinF]
  | n + 1, l => by
    unfold thinF
    by_cases h : l = []
    · rw [if_pos h]; simp
    · rw [if_neg h, thinF_app, List.length_append, List.nil_append]
      have h1 := keptG_len (l.take (keyRun l)) b ss
      have h2 := thinF_len b ss n (l.drop (keyRun l))
      have h3 := keyRun_le l
      rw [List.length_take] at h1
      rw [List.length_drop] at h2
      omega

theorem see_thin {key : List UInt8} {s : Int} {b : Bool} {ss : List Int} : ∀ (n : Nat) (l : List Ent), l.length ≤ n → Srt lessE l → (s ∈ ss ∨ ∀ e ∈ l, e.seq ≤ s) → liveO b (seeL (thinF b ss n l []) key s) = liveO b (seeL l key s)
  | 0, l, hn, _, _ => by
    have : l = [] := List.eq_nil_of_length_eq_zero (by omega)
    subst this
    rfl
  | n + 1, [], _, _, _ => rfl
  | n + 1, a :: r, hn, hs, hss => by
    obtain ⟨hk1, hk2⟩ := keyRun_split hs
    have hkpos : 0 < keyRun (a :: r) := by show 0 < 1 + _; omega
    have hkle := keyRun_le (a :: r)
    obtain ⟨k, hk⟩ : ∃ k, keyRun (a :: r) = k := ⟨_, rfl⟩
    rw [hk] at hk1 hk2 hkpos hkle
    have hsplit : a :: r = (a :: r).take k ++ (a :: r).drop k := (List.take_append_drop _ _).symm
    have hth : thinF b ss (n + 1) (a :: r) [] = keptG ((a :: r).take k) b ss ++ thinF b ss n ((a :: r).drop k) [] := by
      conv => lhs; unfold thinF
      rw [if_neg (by simp), hk, thinF_app, List.nil_append]
    have hsg := hs.sublist (List.take_sublist k (a :: r))
    have hsr := hs.sublist (List.drop_sublist k (a :: r))
    have hssr : s ∈ ss ∨ ∀ e ∈ (a :: r).drop k, e.seq ≤ s := hss.imp id fun h e he => h e (List.mem_of_mem_drop he)
    have hssg : s ∈ ss ∨ ∀ e ∈ (a :: r).take k, e.seq ≤ s := hss.imp id fun h e he => h e (List.mem_of_mem_take he)
    have hgm := group_mono hsg (fun x hx y hy => (hk1 x hx).trans (hk1 y hy).symm)
    have hne : (a :: r).take k ≠ [] := by
      intro h
      have := congrArg List.length h
      rw [List.length_take] at this
      simp at this
      omega
    have ih := see_thin (key := key) (b := b) n ((a :: r).drop k) (by rw [List.length_drop]; simp at hn ⊢; omega) hsr hssr
    have hsl : seeL (a :: r) key s = (seeL ((a :: r).take k) key s).or (seeL ((a :: r).drop k) key s) := by
      conv => lhs; rw [hsplit]
      exact seeL_append _ _ _ _
    rw [hth, seeL_append, hsl]
    by_cases hkey : key = a.key
    · have e1 : seeL ((a :: r).drop k) key s = none := seeL_none fun e he hc => absurd (hc.trans hkey) (hk2 e he)
      have e2 : seeL (thinF b ss n ((a :: r).drop k) []) key s = none := seeL_none fun e he hc => by
        rcases thinF_mem n _ _ he with h | h
        · cases h
        · exact absurd (hc.trans hkey) (hk2 e h)
      rw [e1, e2, Option.or_none, Option.or_none]
      exact see_kept hne (fun x hx => (hk1 x hx).trans hkey.symm) hgm hssg
    · have e1 : seeL ((a :: r).take k) key s = none := seeL_none fun e he hc => absurd (hc.symm.trans (hk1 e he)) hkey
      have e2 : seeL (keptG ((a :: r).take k) b ss) key s = none := seeL_none fun e he hc => absurd (hc.symm.trans (hk1 e (keptG_mem he))) hkey
      rw [e1, e2, Option.none_or, Option.none_or]
      exact ih
end Go.Proofs.Ytgkgahjdjkmmnaa
