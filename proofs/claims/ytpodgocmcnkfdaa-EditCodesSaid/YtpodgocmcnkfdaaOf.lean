/- Rows of tables that a call grows (their keys in older memory); merge.of walked. -/
import Derived.Test.YtpodgocmcnkfdaaOver
namespace Go.Proofs.Ytpodgocmcnkfdaa
open Go.RowKit

def plcs (kv : List (Value × Value)) (l : List Pl) : List Value := (kv.zip l).flatMap fun q => plc q.1.1 q.1.2 q.2
theorem flat5p {α : Type} (f : α → List Value) (hf : ∀ x, (f x).length = 5) : ∀ (l : List α) (i j : Nat) (hi : i < l.length), j < 5 → (l.flatMap f)[i * 5 + j]? = (f l[i])[j]?
  | [], i, j, hi, hj => by simp at hi
  | x :: l, 0, j, hi, hj => by
    rw [List.flatMap_cons, Nat.zero_mul, Nat.zero_add, List.getElem?_append_left (by rw [hf]; omega)]
    rfl
  | x :: l, i + 1, j, hi, hj => by
    rw [List.flatMap_cons, List.getElem?_append_right (by rw [hf]; omega), hf, show (i + 1) * 5 + j - 5 = i * 5 + j by omega, flat5p f hf l i j (by simpa using hi) hj]
    rfl
theorem plcs_snoc (kv : List (Value × Value)) (l : List Pl) (h : kv.length = l.length) (x y : Value) (p : Pl) : plcs (kv ++ [(x, y)]) (l ++ [p]) = plcs kv l ++ plc x y p := by
  unfold plcs
  rw [List.zip_append h, List.flatMap_append]
  simp
theorem plcs_at (kv : List (Value × Value)) (l : List Pl) (h : kv.length = l.length) (i : Nat) (hi : i < l.length) (j : Nat) (hj : j < 5) : (plcs kv l)[i * 5 + j]? = (plc (kv[i]'(by omega)).1 (kv[i]'(by omega)).2 l[i])[j]? := by
  unfold plcs
  rw [flat5p _ (fun _ => rfl) (kv.zip l) i j (by rw [List.length_zip]; omega) hj, List.getElem_zip]

/-- The slice value v is a row of the call's own, from block B on: the tables l; their keys lie in a world that was. -/
def PlsR (w0 w : World) (B : Nat) (v : Value) (l : List Pl) : Prop :=
  ∃ kv : List (Value × Value), ∃ _ : kv.length = l.length, w.ownsRow B 41 5 v l.length (plcs kv l) ∧ ∀ (i : Nat) (h : i < l.length), PlC w0 (kv[i]'(by omega)).1 (kv[i]'(by omega)).2 l[i]
theorem PlsR.nil (w0 w : World) (B : Nat) : PlsR w0 w B (.slice none 0 0) [] := ⟨[], rfl, World.ownsRow_nil _ _ _ _, fun i hi => by simp at hi⟩
theorem PlsR.shape {w0 w : World} {B : Nat} {v : Value} {l : List Pl} (h : PlsR w0 w B v l) : ∃ ad c, v = .slice ad l.length c := by
  obtain ⟨kv, _, h2, _⟩ := h
  exact owns_shape h2
theorem PlsR.below {w0 w w' : World} {B : Nat} {v : Value} {l : List Pl} (h : PlsR w0 w B v l) (hb : Below w.heap.size w w') : PlsR w0 w' B v l := by
  obtain ⟨kv, h1, h2, h3⟩ := h
  exact ⟨kv, h1, owns_below h2 hb, h3⟩
theorem PlsR.mono {w0 w : World} {B B' : Nat} {v : Value} {l : List Pl} (h : PlsR w0 w B v l) (hB : B' ≤ B) : PlsR w0 w B' v l := by
  obtain ⟨kv, h1, h2, h3⟩ := h
  exact ⟨kv, h1, owns_mono h2 hB, h3⟩
theorem PlsR.pls {w0 w : World} {B : Nat} {v : Value} {l : List Pl} (h : PlsR w0 w B v l) (hb : Below w0.heap.size w0 w) : Pls w v l := by
  obtain ⟨kv, h1, h2, h3⟩ := h
  obtain ⟨ad, c, rfl⟩ := owns_shape h2
  have hc := owns_cap h2
  unfold maxLen at hc
  refine ⟨ad, c, rfl, hc.1, by omega, owns_nil h2, fun h0 => ?_⟩
  obtain ⟨g, rfl⟩ := owns_head h2 h0
  refine ⟨g, 0, rfl, fun i hi => ?_⟩
  have hat : ∀ j, j < 5 → w.cell? ⟨g, 0 + i * 5 + j, none⟩ = (plc (kv[i]'(by omega)).1 (kv[i]'(by omega)).2 l[i])[j]? := fun j hj => by
    rw [Nat.zero_add, ← plcs_at kv l h1 i hi j hj]
    exact h2.cellAt _ (by have : i * 5 + j < l.length * 5 := by omega
                          omega)
  exact ⟨_, _, ⟨hat 0 (by omega), hat 1 (by omega), hat 2 (by omega), hat 3 (by omega), hat 4 (by omega)⟩, (h3 i hi).below hb⟩
theorem infoPlace : (Try.prog.info? 41).map (fun i => (i.zero, i.size, i.bytes)) = some (some (.agg #[.int .i64 0, .int .i64 0, .int .i64 0, .slice none 0 0, .slice none 0 0]), 5, 72) := by kernel_rfl
theorem plc_oneCell (a c : Option Addr) (n m p q : Nat) (x y z : Int) : ∀ u ∈ [Value.int .i64 x, .int .i64 y, .int .i64 z, Value.slice a n p, Value.slice c m q], u.oneCell' = true := by
  intro u hu
  simp at hu
  rcases hu with rfl | rfl | rfl | rfl | rfl <;> rfl

def ofL (l : List Pl) (level : Int) : List Pl := l.filter fun p => decide (p.level = level)
theorem ofL_succ (l : List Pl) (level : Int) (k : Nat) (hk : k < l.length) : ofL (l.take (k + 1)) level = if l[k].level = level then ofL (l.take k) level ++ [l[k]] else ofL (l.take k) level := by
  unfold ofL
  rw [List.take_succ_eq_append_getElem hk, List.filter_append]
  by_cases h : l[k].level = level
  · rw [if_pos h, List.filter_cons, if_pos (by simpa using h)]
    rfl
  · rw [if_neg h, List.filter_cons, if_neg (by simpa using h)]
    simp
theorem ofL_len (l : List Pl) (level : Int) (k : Nat) : (ofL (l.take k) level).length ≤ k := by
  unfold ofL
  exact Nat.le_trans (List.length_filter_le _ _) (by rw [List.length_take]; omega)

end Go.Proofs.Ytpodgocmcnkfdaa
