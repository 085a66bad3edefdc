/- Rows in order, in plain lists: put, and what decides a row. -/
namespace Go.Proofs.Ytgkgahjdjkmmnaa

/-- A weak order, strict. -/
structure SWO {α : Type} (lt : α → α → Bool) : Prop where
  irr : ∀ a, lt a a = false
  tr : ∀ a b c, lt a b = true → lt b c = true → lt a c = true
  ntr : ∀ a b c, lt a c = true → lt a b = true ∨ lt b c = true

theorem SWO.asym {α : Type} {lt : α → α → Bool} (h : SWO lt) {a b : α} (hab : lt a b = true) : lt b a = false := by
  cases hb : lt b a with
  | false => rfl
  | true => have := h.tr a b a hab hb; rw [h.irr] at this; cases this

/-- An entry put where it belongs; one that stands alike with another is left out. -/
def putG {α : Type} (lt : α → α → Bool) : List α → α → List α
  | [], e => [e]
  | a :: l, e => if lt a e then a :: putG lt l e else if lt e a then e :: a :: l else a :: l

abbrev Srt {α : Type} (lt : α → α → Bool) (l : List α) : Prop := l.Pairwise fun a b => lt a b = true
/-- Nothing of the row stands alike with e. -/
abbrev Free {α : Type} (lt : α → α → Bool) (l : List α) (e : α) : Prop := ∀ y ∈ l, lt y e = true ∨ lt e y = true

theorem srt_ext {α : Type} {lt : α → α → Bool} (h : SWO lt) : ∀ (a b : List α), Srt lt a → Srt lt b → (∀ x, x ∈ a ↔ x ∈ b) → a = b
  | [], [], _, _, _ => rfl
  | [], y :: b, _, _, hm => by have := (hm y).2 List.mem_cons_self; cases this
  | x :: a, [], _, _, hm => by have := (hm x).1 List.mem_cons_self; cases this
  | x :: a, y :: b, ha, hb, hm => by
    have ha1 := List.pairwise_cons.1 ha
    have hb1 := List.pairwise_cons.1 hb
    have hxy : x = y := by
      rcases List.mem_cons.1 ((hm x).1 List.mem_cons_self) with e | e
      · exact e
      · rcases List.mem_cons.1 ((hm y).2 List.mem_cons_self) with e2 | e2
        · exact e2.symm
        · have h1 := hb1.1 x e
          have h2 := ha1.1 y e2
          rw [h.asym h1] at h2
          cases h2
    subst hxy
    rw [srt_ext h a b ha1.2 hb1.2 fun z => ?_]
    constructor
    · intro hz
      rcases List.mem_cons.1 ((hm z).1 (List.mem_cons_of_mem _ hz)) with e | e
      · subst e
        have := ha1.1 z hz
        rw [h.irr] at this
        cases this
      · exact e
    · intro hz
      rcases List.mem_cons.1 ((hm z).2 (List.mem_cons_of_mem _ hz)) with e | e
      · subst e
        have := hb1.1 z hz
        rw [h.irr] at this
        cases this
      · exact e

theorem mem_putG {α : Type} {lt : α → α → Bool} (h : SWO lt) : ∀ (l : List α) (e : α), Srt lt l → ∀ x, x ∈ putG lt l e ↔ x ∈ l ∨ (x = e ∧ Free lt l e)
  | [], e, _, x => by simp [putG, Free]
  | a :: l, e, hs, x => by
    have hs1 := List.pairwise_cons.1 hs
    unfold putG
    by_cases h1 : lt a e = true
    · rw [if_pos h1, List.mem_cons, mem_putG h l e hs1.2 x, List.mem_cons]
      have hf : Free lt (a :: l) e ↔ Free lt l e := ⟨fun hf y hy => hf y (List.mem_cons_of_mem _ hy), fun hf y hy => by
        rcases List.mem_cons.1 hy with rfl | hy
        · exact .inl h1
        · exact hf y hy⟩
      rw [hf, or_assoc]
    · rw [if_neg h1]
      by_cases h2 : lt e a = true
      · rw [if_pos h2]
        have hf : Free lt (a :: l) e := fun y hy => by
          rcases List.mem_cons.1 hy with rfl | hy
          · exact .inr h2
          · exact .inr (h.tr _ _ _ h2 (hs1.1 y hy))
        rw [List.mem_cons, or_comm]
        exact ⟨fun hx => hx.imp id fun e => ⟨e, hf⟩, fun hx => hx.imp id fun e => e.1⟩
      · rw [if_neg h2]
        refine ⟨.inl, fun hx => hx.elim id fun ⟨_, hf⟩ => ?_⟩
        rcases hf a List.mem_cons_self with e | e
        · exact absurd e h1
        · exact absurd e h2

theorem srt_putG {α : Type} {lt : α → α → Bool} (h : SWO lt) : ∀ (l : List α) (e : α), Srt lt l → Srt lt (putG lt l e)
  | [], e, _ => by simp [putG]
  | a :: l, e, hs => by
    have hs1 := List.pairwise_cons.1 hs
    unfold putG
    by_cases h1 : lt a e = true
    · rw [if_pos h1]
      refine List.pairwise_cons.2 ⟨fun y hy => ?_, srt_putG h l e hs1.2⟩
      rcases (mem_putG h l e hs1.2 y).1 hy with hy | ⟨rfl, _⟩
      · exact hs1.1 y hy
      · exact h1
    · rw [if_neg h1]
      by_cases h2 : lt e a = true
      · rw [if_pos h2]
        refine List.pairwise_cons.2 ⟨fun y hy => ?_, hs⟩
        rcases List.mem_cons.1 hy with rfl | hy
        · exact h2
        · exact h.tr _ _ _ h2 (hs1.1 y hy)
      · rw [if_neg h2]
        exact hs

theorem putG_comm {α : Type} {lt : α → α → Bool} (h : SWO lt) (s : List α) (hs : Srt lt s) (a e : α) (hne : lt a e = true ∨ lt e a = true) : putG lt (putG lt s a) e = putG lt (putG lt s e) a := by
  refine srt_ext h _ _ (srt_putG h _ _ (srt_putG h _ _ hs)) (srt_putG h _ _ (srt_putG h _ _ hs)) fun x => ?_
  rw [mem_putG h _ _ (srt_putG h _ _ hs), mem_putG h _ _ (srt_putG h _ _ hs), mem_putG h _ _ hs, mem_putG h _ _ hs]
  have f1 : Free lt (putG lt s a) e ↔ Free lt s e := ⟨fun hf y hy => hf y ((mem_putG h _ _ hs y).2 (.inl hy)), fun hf y hy => by
    rcases (mem_putG h _ _ hs y).1 hy with hy | ⟨rfl, _⟩
    · exact hf y hy
    · exact hne⟩
  have f2 : Free lt (putG lt s e) a ↔ Free lt s a := ⟨fun hf y hy => hf y ((mem_putG h _ _ hs y).2 (.inl hy)), fun hf y hy => by
    rcases (mem_putG h _ _ hs y).1 hy with hy | ⟨rfl, _⟩
    · exact hf y hy
    · exact hne.symm⟩
  rw [f1, f2]
  constructor
  · rintro ((h1 | h1) | h1)
    · exact .inl (.inl h1)
    · exact .inr h1
    · exact .inl (.inr h1)
  · rintro ((h1 | h1) | h1)
    · exact .inl (.inl h1)
    · exact .inr h1
    · exact .inl (.inr h1)

theorem srt_foldl {α : Type} {lt : α → α → Bool} (h : SWO lt) : ∀ (l s : List α), Srt lt s → Srt lt (l.foldl (putG lt) s)
  | [], _, hs => hs
  | a :: l, s, hs => srt_foldl h l _ (srt_putG h s a hs)

/-- An entry that stands alike with none of those ahead of it may as well be put first. -/
theorem foldl_front {α : Type} {lt : α → α → Bool} (h : SWO lt) : ∀ (A s C : List α) (e : α), Srt lt s → (∀ a ∈ A, lt a e = true ∨ lt e a = true) → (A ++ e :: C).foldl (putG lt) s = (A ++ C).foldl (putG lt) (putG lt s e)
  | [], s, C, e, _, _ => rfl
  | a :: A, s, C, e, hs, hA => by
    rw [List.cons_append, List.foldl_cons, foldl_front h A _ C e (srt_putG h s a hs) (fun x hx => hA x (List.mem_cons_of_mem _ hx)), putG_comm h s hs a e (hA a List.mem_cons_self), List.cons_append, List.foldl_cons]

theorem mem_foldl_free {α : Type} {lt : α → α → Bool} (h : SWO lt) : ∀ (l s : List α), Srt lt s → l.Pairwise (fun a b => lt a b = true ∨ lt b a = true) → (∀ a ∈ l, Free lt s a) → ∀ x, x ∈ l.foldl (putG lt) s ↔ x ∈ s ∨ x ∈ l
  | [], s, _, _, _, x => by simp
  | a :: l, s, hs, hp, hf, x => by
    have hp1 := List.pairwise_cons.1 hp
    rw [List.foldl_cons, mem_foldl_free h l _ (srt_putG h s a hs) hp1.2 (fun b hb y hy => by
      rcases (mem_putG h _ _ hs y).1 hy with hy | ⟨rfl, _⟩
      · exact hf b (List.mem_cons_of_mem _ hb) y hy
      · exact hp1.1 b hb) x, mem_putG h _ _ hs, List.mem_cons, or_assoc]
    have := hf a List.mem_cons_self
    constructor
    · rintro (h1 | ⟨h1, _⟩ | h1)
      · exact .inl h1
      · exact .inr (.inl h1)
      · exact .inr (.inr h1)
    · rintro (h1 | h1 | h1)
      · exact .inl h1
      · exact .inr (.inl ⟨h1, this⟩)
      · exact .inr (.inr h1)

/-- What goes behind all that is there. -/
theorem putG_last {α : Type} {lt : α → α → Bool} (h : SWO lt) : ∀ (l : List α) (e : α), Srt lt l → (∀ y ∈ l, lt e y = false) → putG lt l e = if (match l.getLast? with | none => true | some a => lt a e) then l ++ [e] else l
  | [], e, _, _ => rfl
  | [a], e, _, hy => by
    have := hy a List.mem_cons_self
    by_cases hb : lt a e = true <;> simp [putG, this, hb]
  | a :: b :: l, e, hs, hy => by
    have hs1 := List.pairwise_cons.1 hs
    have ih := putG_last h (b :: l) e hs1.2 (fun y hy' => hy y (List.mem_cons_of_mem _ hy'))
    have hl : (a :: b :: l).getLast? = (b :: l).getLast? := rfl
    obtain ⟨z, hz⟩ : ∃ z, (b :: l).getLast? = some z := ⟨_, List.getLast?_eq_some_getLast (by simp)⟩
    have hzm : z ∈ b :: l := List.mem_of_getLast? hz
    have haz := hs1.1 z hzm
    have hae : lt a e = true := by
      rcases h.ntr a e z haz with h1 | h1
      · exact h1
      · rw [hy z (List.mem_cons_of_mem _ hzm)] at h1
        cases h1
    rw [hl]
    conv => lhs; unfold putG
    rw [if_pos hae, ih, hz]
    by_cases hb : lt z e = true <;> simp [hb]
end Go.Proofs.Ytgkgahjdjkmmnaa
