/- Rows of entries that a call grows. -/
import Derived.Test.YtgkgahjdjkmmnaaCloneR
namespace Go.Proofs.Ytgkgahjdjkmmnaa
open Go.RowKit

/-- An entry's four cells. -/
def ec (p : (Value × Value) × Ent) : List Value := [p.1.1, p.1.2, .int .i64 p.2.seq, .bool p.2.dead]
def ecs (kv : List (Value × Value)) (l : List Ent) : List Value := (kv.zip l).flatMap ec

theorem flat4 {α : Type} (f : α → List Value) (hf : ∀ x, (f x).length = 4) : ∀ (l : List α) (i j : Nat) (hi : i < l.length), j < 4 → (l.flatMap f)[i * 4 + j]? = (f l[i])[j]?
  | [], i, j, hi, hj => by simp at hi
  | x :: l, 0, j, hi, hj => by
    rw [List.flatMap_cons, Nat.zero_mul, Nat.zero_add, List.getElem?_append_left (by rw [hf]; omega)]
    rfl
  | x :: l, i + 1, j, hi, hj => by
    rw [List.flatMap_cons, List.getElem?_append_right (by rw [hf]; omega), hf, show (i + 1) * 4 + j - 4 = i * 4 + j by omega, flat4 f hf l i j (by simpa using hi) hj]
    rfl
theorem flat4_len {α : Type} (f : α → List Value) (hf : ∀ x, (f x).length = 4) (l : List α) : (l.flatMap f).length = l.length * 4 := by
  induction l with
  | nil => rfl
  | cons x l ih => rw [List.flatMap_cons, List.length_append, hf, ih, List.length_cons]; omega
theorem ecs_length (kv : List (Value × Value)) (l : List Ent) (h : kv.length = l.length) : (ecs kv l).length = l.length * 4 := by
  unfold ecs
  rw [flat4_len ec (fun _ => rfl), List.length_zip, h]
  simp
theorem ecs_snoc (kv : List (Value × Value)) (l : List Ent) (h : kv.length = l.length) (k v : Value) (e : Ent) : ecs (kv ++ [(k, v)]) (l ++ [e]) = ecs kv l ++ [k, v, .int .i64 e.seq, .bool e.dead] := by
  unfold ecs
  rw [List.zip_append h, List.flatMap_append]
  rfl
theorem ecs_at (kv : List (Value × Value)) (l : List Ent) (h : kv.length = l.length) (i : Nat) (hi : i < l.length) (j : Nat) (hj : j < 4) : (ecs kv l)[i * 4 + j]? = (ec (kv[i]'(by omega), l[i]))[j]? := by
  unfold ecs
  rw [flat4 ec (fun _ => rfl) (kv.zip l) i j (by rw [List.length_zip]; omega) hj, List.getElem_zip]

/-- The slice value v is a row of the call's own, from block B on: the entries l, their bytes the call's own too. -/
def EsO (w : World) (B : Nat) (v : Value) (l : List Ent) : Prop :=
  ∃ kv : List (Value × Value), ∃ _ : kv.length = l.length, w.ownsRow B 27 4 v l.length (ecs kv l) ∧ ∀ (i : Nat) (h : i < l.length), EO w B (kv[i]'(by omega)).1 (kv[i]'(by omega)).2 l[i]

theorem EsO.nil (w : World) (B : Nat) : EsO w B (.slice none 0 0) [] := ⟨[], rfl, World.ownsRow_nil _ _ _ _, fun i hi => by simp at hi⟩

theorem EO.ec {w : World} {B : Nat} {k v : Value} {e : Ent} (h : EO w B k v e) (lk : e.key.length ≤ 140737488351232) (lv : e.val.length ≤ 140737488351232) (s : -9223372036854775808 ≤ e.seq ∧ e.seq ≤ 9223372036854775807) : EC w k v e := by
  obtain ⟨ka, kc, rfl⟩ := owns_shape h.hk
  obtain ⟨va, vc, rfl⟩ := owns_shape h.hv
  exact ⟨(bs_of_owns h.hk).2, (bs_of_owns h.hv).2, lk, lv, s.1, s.2⟩

/-- Bounds of an entry: the form's reach, int's range. -/
def EB (e : Ent) : Prop := e.key.length ≤ 140737488351232 ∧ e.val.length ≤ 140737488351232 ∧ -9223372036854775808 ≤ e.seq ∧ e.seq ≤ 9223372036854775807

theorem EsO.es {w : World} {B : Nat} {v : Value} {l : List Ent} (h : EsO w B v l) (hb : ∀ e ∈ l, EB e) : Es w v l := by
  obtain ⟨kv, h1, h2, h3⟩ := h
  obtain ⟨ad, c, rfl⟩ := owns_shape h2
  have hc := owns_cap h2
  unfold maxLen at hc
  refine ⟨ad, c, rfl, hc.1, by omega, owns_nil h2, fun h0 => ?_⟩
  obtain ⟨g, rfl⟩ := owns_head h2 h0
  refine ⟨g, 0, rfl, fun i hi => ?_⟩
  have hB := hb _ (List.getElem_mem hi)
  have hat : ∀ j, j < 4 → w.cell? ⟨g, 0 + i * 4 + j, none⟩ = (ec (kv[i]'(by omega), l[i]))[j]? := fun j hj => by
    rw [Nat.zero_add, ← ecs_at kv l h1 i hi j hj]
    exact h2.cellAt _ (by have : i * 4 + j < l.length * 4 := by omega
                          omega)
  exact ⟨_, _, ⟨hat 0 (by omega), hat 1 (by omega), hat 2 (by omega), hat 3 (by omega)⟩, (h3 i hi).ec hB.1 hB.2.1 hB.2.2⟩

theorem Keeps.grown4 {te B e size n c : Nat} {ad : Option Addr} {xs : List Value} {w w' : World} (ho : w.ownsRow B e size (.slice ad n c) n xs) (hg : w.grownBy w' (Value.slice ad n c).ownBlock) (he : te ≠ e) : Keeps te w w' := by
  intro base v m ys hy
  refine owns_grown hy hg fun k hk hc => ?_
  rcases ho.2 with ⟨hn, _⟩ | ⟨g, cap, cur, hv, _, hgb, _⟩
  · simp only [Value.slice.injEq] at hn
    obtain ⟨rfl, _, _⟩ := hn
    simp [Value.ownBlock] at hc
  · simp only [Value.slice.injEq] at hv
    obtain ⟨rfl, _, _⟩ := hv
    simp only [Value.ownBlock, Option.some.injEq] at hc
    subst hc
    exact own_block_ne hgb hy (fun h => he h.symm) hk

theorem EO.keeps {w w' : World} {B : Nat} {k v : Value} {e : Ent} (h : EO w B k v e) (hk : Keeps 5 w w') : EO w' B k v e := ⟨hk _ _ _ _ h.hk, hk _ _ _ _ h.hv⟩

/-- One entry more in a row of the call's own. -/
theorem EsO.push {w w' : World} {B : Nat} {v' k v : Value} {l : List Ent} {e : Ent} {kv : List (Value × Value)} (hl : kv.length = l.length) (heach : ∀ (i : Nat) (h : i < l.length), EO w B (kv[i]'(by omega)).1 (kv[i]'(by omega)).2 l[i])
    (hk : Keeps 5 w w') (hown : w'.ownsRow B 27 4 v' (l.length + 1) (ecs kv l ++ [k, v, .int .i64 e.seq, .bool e.dead])) (he : EO w B k v e) : EsO w' B v' (l ++ [e]) := by
  refine ⟨kv ++ [(k, v)], by simp [hl], ?_, fun i hi => ?_⟩
  · rw [ecs_snoc kv l hl]
    simpa using hown
  · simp only [List.length_append, List.length_cons, List.length_nil] at hi
    by_cases h : i < l.length
    · rw [List.getElem_append_left h]
      have h1 : (kv ++ [(k, v)])[i]'(by simp; omega) = kv[i]'(by omega) := List.getElem_append_left (by omega)
      rw [h1]
      exact (heach i h).keeps hk
    · obtain rfl : i = l.length := by omega
      rw [List.getElem_append_right (Nat.le_refl _)]
      have h1 : (kv ++ [(k, v)])[l.length]'(by simp; omega) = (k, v) := by
        rw [List.getElem_append_right (by omega)]
        simp [hl]
      rw [h1]
      simpa using he.keeps hk

theorem Try.info27 : (Try.prog.info? 27).map (fun i => (i.zero, i.size, i.bytes)) = some (some (.agg #[.slice none 0 0, .slice none 0 0, .int .i64 0, .bool false]), 4, 56 + 8) := by kernel_rfl
theorem ec_oneCell (a c : Option Addr) (n m p q : Nat) {s : Int} {d : Bool} : ∀ u ∈ [Value.slice a n p, Value.slice c m q, .int .i64 s, .bool d], u.oneCell' = true := by
  intro u hu
  simp at hu
  rcases hu with rfl | rfl | rfl | rfl <;> rfl
end Go.Proofs.Ytgkgahjdjkmmnaa
