/- Merging rows in order comes to the same as putting their entries one by one: in plain lists. -/
import Derived.Test.YtgkgahjdjkmmnaaMergeL
import Derived.Test.YtgkgahjdjkmmnaaOrd
namespace Go.Proofs.Ytgkgahjdjkmmnaa
open Go.RowKit

theorem cb_irr : ∀ a : List UInt8, ¬ Lib.compareBytes a a < 0
  | [] => by simp [Lib.compareBytes]
  | x :: a => by
    unfold Lib.compareBytes
    rw [if_neg (UInt8.lt_irrefl x), if_neg (UInt8.lt_irrefl x)]
    exact cb_irr a
theorem cb_total : ∀ a b : List UInt8, Lib.compareBytes a b < 0 ∨ a = b ∨ Lib.compareBytes b a < 0
  | [], [] => .inr (.inl rfl)
  | [], _ :: _ => .inl (by simp [Lib.compareBytes])
  | _ :: _, [] => .inr (.inr (by simp [Lib.compareBytes]))
  | x :: a, y :: b => by
    unfold Lib.compareBytes
    by_cases h1 : x < y
    · exact .inl (by rw [if_pos h1]; omega)
    · by_cases h2 : y < x
      · exact .inr (.inr (by rw [if_pos h2]; omega))
      · have hxy : x = y := UInt8.le_antisymm (UInt8.not_lt.1 h2) (UInt8.not_lt.1 h1)
        subst hxy
        rw [if_neg h1, if_neg h1, if_neg h1, if_neg h1]
        rcases cb_total a b with h | h | h
        · exact .inl h
        · exact .inr (.inl (by rw [h]))
        · exact .inr (.inr h)
theorem cb_trans : ∀ a b c : List UInt8, Lib.compareBytes a b < 0 → Lib.compareBytes b c < 0 → Lib.compareBytes a c < 0
  | [], _, [], h1, h2 => by
    rename_i b
    cases b with
    | nil => exact h1
    | cons y b => simp [Lib.compareBytes] at h2
  | [], _, _ :: _, _, _ => by simp [Lib.compareBytes]
  | x :: a, [], _, h1, _ => by simp [Lib.compareBytes] at h1
  | x :: a, y :: b, [], _, h2 => by simp [Lib.compareBytes] at h2
  | x :: a, y :: b, z :: c, h1, h2 => by
    unfold Lib.compareBytes at h1 h2 ⊢
    by_cases a1 : x < y
    · by_cases b1 : y < z
      · rw [if_pos (UInt8.lt_trans a1 b1)]; omega
      · rw [if_neg b1] at h2
        by_cases b2 : z < y
        · rw [if_pos b2] at h2; omega
        · have hyz : y = z := UInt8.le_antisymm (UInt8.not_lt.1 b2) (UInt8.not_lt.1 b1)
          subst hyz
          rw [if_pos a1]; omega
    · rw [if_neg a1] at h1
      by_cases a2 : y < x
      · rw [if_pos a2] at h1; omega
      · rw [if_neg a2] at h1
        have hxy : x = y := UInt8.le_antisymm (UInt8.not_lt.1 a2) (UInt8.not_lt.1 a1)
        subst hxy
        by_cases b1 : x < z
        · rw [if_pos b1]; omega
        · rw [if_neg b1] at h2 ⊢
          by_cases b2 : z < x
          · rw [if_pos b2] at h2; omega
          · rw [if_neg b2] at h2 ⊢
            exact cb_trans a b c h1 h2

theorem lessE_iff (a b : Ent) : lessE a b = true ↔ Lib.compareBytes a.key b.key < 0 ∨ (a.key = b.key ∧ b.seq < a.seq) := by
  unfold lessE lessL
  by_cases h : a.key = b.key
  · have hn := cb_irr b.key
    simp only [h, beq_self_eq_true, if_true, decide_eq_true_eq, true_and]
    exact ⟨.inr, fun h1 => h1.elim (fun h2 => absurd h2 hn) id⟩
  · rw [if_neg (by simpa using h)]
    simp only [decide_eq_true_eq]
    exact ⟨.inl, fun h1 => h1.elim id fun h2 => absurd h2.1 h⟩

theorem swo : SWO lessE where
  irr a := by
    cases h : lessE a a with
    | false => rfl
    | true =>
      rcases (lessE_iff a a).1 h with h | h
      · exact absurd h (cb_irr _)
      · omega
  tr a b c h1 h2 := by
    rw [lessE_iff] at *
    rcases h1 with h1 | ⟨h1, h1'⟩ <;> rcases h2 with h2 | ⟨h2, h2'⟩
    · exact .inl (cb_trans _ _ _ h1 h2)
    · exact .inl (by rw [← h2]; exact h1)
    · exact .inl (by rw [h1]; exact h2)
    · exact .inr ⟨h1.trans h2, by omega⟩
  ntr a b c h := by
    rw [lessE_iff] at *
    rw [lessE_iff]
    rcases cb_total a.key b.key with h1 | h1 | h1
    · exact .inl (.inl h1)
    · rw [h1] at h ⊢
      rcases h with h | ⟨h, h'⟩
      · exact .inr (.inl h)
      · by_cases hs : b.seq < a.seq
        · exact .inl (.inr ⟨rfl, hs⟩)
        · exact .inr (.inr ⟨h, by omega⟩)
    · rcases h with h | ⟨h, _⟩
      · exact .inr (.inl (cb_trans _ _ _ h1 h))
      · exact .inr (.inl (by rw [← h]; exact h1))

theorem sortedL_srt : ∀ l : List Ent, sortedL l = true ↔ Srt lessE l
  | [] => by simp [sortedL]
  | [a] => by simp [sortedL]
  | a :: b :: r => by
    rw [sortedL, Bool.and_eq_true, sortedL_srt (b :: r)]
    constructor
    · rintro ⟨h1, h2⟩
      refine List.pairwise_cons.2 ⟨fun x hx => ?_, h2⟩
      rcases List.mem_cons.1 hx with rfl | hx
      · exact h1
      · exact swo.tr _ _ _ h1 ((List.pairwise_cons.1 h2).1 x hx)
    · intro h
      exact ⟨(List.pairwise_cons.1 h).1 b List.mem_cons_self, (List.pairwise_cons.1 h).2⟩

/-- Entries put one by one. -/
abbrev putE (l : List Ent) (e : Ent) : List Ent := putG lessE l e

theorem firstK_min (ls : List (List Ent)) : ∀ k b, k ≤ ls.length → firstK ls k = some b → ∃ e t, ls.getD b [] = e :: t ∧ ∀ i, i < k → ∀ h r, ls.getD i [] = h :: r → lessE h e = false ∧ (i < b → lessE e h = true)
  | 0, b, _, h => by simp [firstK] at h
  | k + 1, b, hk, h => by
    unfold firstK at h
    split at h
    · rename_i hl
      obtain ⟨e, t, h1, h2⟩ := firstK_min ls k b (by omega) h
      refine ⟨e, t, h1, fun i hi x r hx => ?_⟩
      by_cases hik : i = k
      · subst hik; rw [hl] at hx; cases hx
      · exact h2 i (by omega) x r hx
    · rename_i a l hl hb
      simp only [Option.some.injEq] at h
      subst h
      refine ⟨a, l, hl, fun i hi x r hx => ?_⟩
      by_cases hik : i = k
      · subst hik
        rw [hl] at hx
        simp only [List.cons.injEq] at hx
        obtain ⟨rfl, rfl⟩ := hx
        exact ⟨swo.irr _, fun h => by omega⟩
      · rw [firstK_none ls k (by omega) hb i (by omega)] at hx
        cases hx
    · rename_i a l b' hl hb
      obtain ⟨e, t, h1, h2⟩ := firstK_min ls k b' (by omega) hb
      have hb' := (firstK_lt ls k b' hb).1
      rw [h1] at h
      unfold takesF at h
      by_cases hlt : lessE a e = true
      · simp only [hlt, if_true, Option.some.injEq] at h
        subst h
        refine ⟨a, l, hl, fun i hi x r hx => ?_⟩
        by_cases hik : i = k
        · subst hik
          rw [hl] at hx
          simp only [List.cons.injEq] at hx
          obtain ⟨rfl, rfl⟩ := hx
          exact ⟨swo.irr _, fun h => by omega⟩
        · have h3 := (h2 i (by omega) x r hx).1
          refine ⟨?_, fun _ => ?_⟩
          · cases hc : lessE x a with
            | false => rfl
            | true => have := swo.tr _ _ _ hc hlt; rw [h3] at this; cases this
          · rcases swo.ntr a x e hlt with h4 | h4
            · exact h4
            · rw [h3] at h4; cases h4
      · simp only [hlt, Bool.false_eq_true, if_false, Option.some.injEq] at h
        subst h
        refine ⟨e, t, h1, fun i hi x r hx => ?_⟩
        by_cases hik : i = k
        · subst hik
          rw [hl] at hx
          simp only [List.cons.injEq] at hx
          obtain ⟨rfl, rfl⟩ := hx
          exact ⟨by simpa using hlt, fun h => by omega⟩
        · exact h2 i (by omega) x r hx

theorem getD_mem {ls : List (List Ent)} {b : Nat} (h : b < ls.length) : ls.getD b [] = ls[b] := by simp [List.getD, h]

theorem flatten_nil_of (ls : List (List Ent)) (h : ∀ i, i < ls.length → ls.getD i [] = []) : ls.flatten = [] := by
  rw [List.flatten_eq_nil_iff]
  intro l hl
  obtain ⟨i, hi, rfl⟩ := List.getElem_of_mem hl
  rw [← getD_mem hi]
  exact h i hi

theorem le_total {ls : List (List Ent)} {l : List Ent} (h : l ∈ ls) : l.length ≤ totalL ls := by
  unfold totalL
  induction ls with
  | nil => cases h
  | cons x r ih =>
    rw [List.map_cons, List.sum_cons]
    rcases List.mem_cons.1 h with rfl | h
    · omega
    · have := ih h
      omega

theorem mergeF_put : ∀ (n : Nat) (ls : List (List Ent)) (out : List Ent), totalL ls ≤ n → (∀ l ∈ ls, Srt lessE l) → Srt lessE out → (∀ y ∈ out, ∀ l ∈ ls, ∀ x ∈ l, lessE x y = false) → mergeF n ls out = ls.flatten.foldl putE out
  | 0, ls, out, hn, _, _, _ => by
    have : ls.flatten = [] := by
      rw [List.flatten_eq_nil_iff]
      intro l hl
      have h1 : l.length ≤ totalL ls := le_total hl
      exact List.eq_nil_of_length_eq_zero (by omega)
    rw [this]
    rfl
  | n + 1, ls, out, hn, hs, ho, hy => by
    unfold mergeF
    cases hf : firstK ls ls.length with
    | none =>
      rw [flatten_nil_of ls fun i hi => firstK_none ls ls.length (Nat.le_refl _) hf i hi]
      rfl
    | some b =>
      obtain ⟨e, t, he, hmin⟩ := firstK_min ls ls.length b (Nat.le_refl _) hf
      have hb := (firstK_lt ls ls.length b hf).1
      have heb : ls[b] = e :: t := by rw [← getD_mem hb]; exact he
      have hrow := List.pairwise_cons.1 (heb ▸ hs _ (List.getElem_mem hb))
      have hmem : ∀ l ∈ ls, ∀ x ∈ l, lessE x e = false := by
        intro l hl x hx
        obtain ⟨i, hi, rfl⟩ := List.getElem_of_mem hl
        cases hli : ls[i] with
        | nil => rw [hli] at hx; cases hx
        | cons h r =>
          have h1 := (hmin i hi h r (by rw [getD_mem hi]; exact hli)).1
          rw [hli] at hx
          rcases List.mem_cons.1 hx with rfl | hx
          · exact h1
          · have h2 := (List.pairwise_cons.1 (hli ▸ hs _ (List.getElem_mem hi))).1 x hx
            cases hc : lessE x e with
            | false => rfl
            | true => have := swo.tr _ _ _ h2 hc; rw [h1] at this; cases this
      have hput : putE out e = if behindL out e then out ++ [e] else out := by
        have h1 := putG_last swo out e ho fun y hy' => hy y hy' _ (List.getElem_mem hb) e (by rw [heb]; exact List.mem_cons_self)
        unfold behindL
        cases h2 : out.getLast? with
        | none => rw [h2] at h1; exact h1
        | some a => rw [h2] at h1; exact h1
      simp only [he]
      rw [← hput]
      have hsub : ∀ l ∈ ls.set b t, ∃ l' ∈ ls, ∀ x ∈ l, x ∈ l' := by
        intro l hl
        rcases List.mem_or_eq_of_mem_set hl with h | rfl
        · exact ⟨l, h, fun _ h => h⟩
        · exact ⟨_, List.getElem_mem hb, fun x hx => by rw [heb]; exact List.mem_cons_of_mem _ hx⟩
      rw [mergeF_put n (ls.set b t) (putE out e) (by have := totalL_set ls b e t hb heb; omega) (by
        intro l hl
        rcases List.mem_or_eq_of_mem_set hl with h | rfl
        · exact hs l h
        · exact hrow.2) (srt_putG swo _ _ ho) (by
        intro y hy' l hl x hx
        obtain ⟨l', hl', hx'⟩ := hsub l hl
        rcases (mem_putG swo _ _ ho y).1 hy' with h | ⟨rfl, _⟩
        · exact hy y h l' hl' x (hx' x hx)
        · exact hmem l' hl' x (hx' x hx))]
      have e1 : ls = ls.take b ++ (e :: t) :: ls.drop (b + 1) := by
        conv => lhs; rw [← List.take_append_drop b ls]
        rw [List.drop_eq_getElem_cons hb, heb]
      have e2 : ls.set b t = ls.take b ++ t :: ls.drop (b + 1) := List.set_eq_take_append_cons_drop.trans (if_pos hb)
      have e3 : ls.flatten = (ls.take b).flatten ++ e :: (t ++ (ls.drop (b + 1)).flatten) := by
        conv => lhs; rw [e1]
        simp
      have e4 : (ls.set b t).flatten = (ls.take b).flatten ++ (t ++ (ls.drop (b + 1)).flatten) := by
        rw [e2]
        simp
      rw [e3, e4, foldl_front swo _ _ _ e ho]
      intro a ha
      obtain ⟨l, hl, hal⟩ := List.mem_flatten.1 ha
      obtain ⟨i, hi, rfl⟩ := List.getElem_of_mem hl
      rw [List.length_take] at hi
      rw [List.getElem_take] at hal
      have hi2 : i < ls.length := by omega
      cases hli : ls[i] with
      | nil => rw [hli] at hal; cases hal
      | cons h r =>
        have h1 := (hmin i hi2 h r (by rw [getD_mem hi2]; exact hli)).2 (by omega)
        rw [hli] at hal
        rcases List.mem_cons.1 hal with rfl | hal
        · exact .inr h1
        · have h2 := (List.pairwise_cons.1 (hli ▸ hs _ (List.getElem_mem hi2))).1 a hal
          exact .inr (swo.tr _ _ _ h1 h2)

theorem merge_put (ls : List (List Ent)) (hs : ∀ l ∈ ls, Srt lessE l) : mergeF (totalL ls) ls [] = ls.flatten.foldl putE [] :=
  mergeF_put _ _ _ (Nat.le_refl _) hs List.Pairwise.nil (fun y hy => by cases hy)
end Go.Proofs.Ytgkgahjdjkmmnaa
