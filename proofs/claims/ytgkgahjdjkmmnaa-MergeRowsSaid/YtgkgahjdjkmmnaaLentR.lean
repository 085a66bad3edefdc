/- Lent rows of entries: each in an interval of blocks of its own. -/
import Derived.Test.YtgkgahjdjkmmnaaRMerge
namespace Go.Proofs.Ytgkgahjdjkmmnaa
open Go.RowKit

/-- A row of the call's own from block A on, its keys in blocks below C. -/
def EsI (w : World) (A C : Nat) (v : Value) (l : List Ent) : Prop :=
  ∃ kv : List (Value × Value), ∃ _ : kv.length = l.length, w.ownsRow A 27 4 v l.length (ecs kv l) ∧ ∀ (i : Nat) (h : i < l.length), EO w A (kv[i]'(by omega)).1 (kv[i]'(by omega)).2 l[i] ∧ ∀ b, (kv[i]'(by omega)).1.ownBlock = some b → b < C
theorem EsI.of {w : World} {A : Nat} {v : Value} {l : List Ent} (h : EsO w A v l) : EsI w A w.heap.size v l := by
  obtain ⟨kv, h1, h2, h3⟩ := h
  exact ⟨kv, h1, h2, fun i hi => ⟨h3 i hi, fun b hb => (own_le (h3 i hi).hk b hb).2⟩⟩
theorem EsI.eso {w : World} {A C : Nat} {v : Value} {l : List Ent} (h : EsI w A C v l) : EsO w A v l := by
  obtain ⟨kv, h1, h2, h3⟩ := h
  exact ⟨kv, h1, h2, fun i hi => (h3 i hi).1⟩
theorem EsI.mono {w : World} {A A' C : Nat} {v : Value} {l : List Ent} (h : EsI w A C v l) (hA : A' ≤ A) : EsI w A' C v l := by
  obtain ⟨kv, h1, h2, h3⟩ := h
  exact ⟨kv, h1, owns_mono h2 hA, fun i hi => ⟨(h3 i hi).1.mono hA, (h3 i hi).2⟩⟩
theorem EsI.below {w w' : World} {A C : Nat} {v : Value} {l : List Ent} (h : EsI w A C v l) (hb : Below w.heap.size w w') : EsI w' A C v l := by
  obtain ⟨kv, h1, h2, h3⟩ := h
  exact ⟨kv, h1, owns_below h2 hb, fun i hi => ⟨(h3 i hi).1.below hb, (h3 i hi).2⟩⟩
theorem EsI.low {w : World} {A C g i : Nat} {v u : Value} {l : List Ent} (h : EsI w A C v l) (hg : g < A) : EsI (w.setCell ⟨g, i, none⟩ u) A C v l := by
  obtain ⟨kv, h1, h2, h3⟩ := h
  exact ⟨kv, h1, own_low h2 hg, fun j hj => ⟨⟨own_low (h3 j hj).1.hk hg, own_low (h3 j hj).1.hv hg⟩, (h3 j hj).2⟩⟩
theorem EsI.grown {w w' : World} {A C B n c : Nat} {ad : Option Addr} {xs : List Value} {v : Value} {l : List Ent} (h : EsI w A C v l) (ho : w.ownsRow B 24 1 (.slice ad n c) n xs) (hg : w.grownBy w' (Value.slice ad n c).ownBlock) : EsI w' A C v l := by
  obtain ⟨kv, h3, h4, h5⟩ := h
  have key : ∀ {e size n : Nat} {u : Value} {ys : List Value}, e ≠ 24 → w.ownsRow A e size u n ys → w'.ownsRow A e size u n ys := fun ht hr => owns_grown hr hg fun k hk hc => own_size_ne hr ho ht k hk hc.symm
  exact ⟨kv, h3, key (by decide) h4, fun i hi => ⟨⟨key (by decide) (h5 i hi).1.hk, key (by decide) (h5 i hi).1.hv⟩, (h5 i hi).2⟩⟩
theorem EsI.esm {w : World} {A C : Nat} {v : Value} {l : List Ent} (h : EsI w A C v l) : EsM w A C v l := by
  obtain ⟨kv, h1, h2, h3⟩ := h
  exact ⟨kv, h1, h2, fun i hi => ⟨⟨_, rfl, (h3 i hi).1.hk⟩, (h3 i hi).2⟩⟩

/-- The lent rows: row j in the blocks from S j on, its keys below S (j + 1). -/
def LR (w : World) (S : Nat → Nat) (vs : List Value) (rs : List (List Ent)) : Prop :=
  (∀ j, j < rs.length → S j ≤ S (j + 1)) ∧ S rs.length ≤ w.heap.size ∧ ∀ (j : Nat) (h : j < rs.length), ∃ v, vs[j]? = some v ∧ EsI w (S j) (S (j + 1)) v rs[j]
theorem LR.below {w w' : World} {S : Nat → Nat} {vs : List Value} {rs : List (List Ent)} (h : LR w S vs rs) (hb : Below w.heap.size w w') : LR w' S vs rs :=
  ⟨h.1, Nat.le_trans h.2.1 hb.size, fun j hj => by obtain ⟨v, h1, h2⟩ := h.2.2 j hj; exact ⟨v, h1, h2.below hb⟩⟩
theorem LR.push {w w2 w3 : World} {S : Nat → Nat} {vs : List Value} {rs : List (List Ent)} {u : Value} {r : List Ent} {B n c : Nat} {ad : Option Addr} {xs : List Value} {o : Obj} (h : LR w S vs rs) (hl : vs.length = rs.length) (hb : Below w.heap.size w w2) (hr : EsO w2 w.heap.size u r)
    (ho : w2.ownsRow B 24 1 (.slice ad n c) n xs) (hg : (w2.alloc o).grownBy w3 (Value.slice ad n c).ownBlock) : ∃ S', LR w3 S' (vs ++ [u]) (rs ++ [r]) ∧ S' 0 = S 0 := by
  have hbel : Below w2.heap.size w2 (w2.alloc o) := (Below.refl _ _).alloc (Nat.le_refl _) o
  have hz : w2.heap.size ≤ w3.heap.size := Nat.le_trans hbel.size hg.size
  refine ⟨fun j => if j ≤ rs.length then S j else w2.heap.size, ⟨fun j hj => ?_, ?_, fun j hj => ?_⟩, by simp⟩
  · rw [List.length_append] at hj
    simp only [List.length_singleton] at hj
    show (if j ≤ rs.length then S j else w2.heap.size) ≤ (if j + 1 ≤ rs.length then S (j + 1) else w2.heap.size)
    by_cases h1 : j + 1 ≤ rs.length
    · rw [if_pos (by omega), if_pos h1]
      exact h.1 j (by omega)
    · rw [if_pos (by omega), if_neg h1]
      have : j = rs.length := by omega
      subst this
      exact Nat.le_trans h.2.1 hb.size
  · rw [List.length_append]
    simp only [List.length_singleton]
    show (if rs.length + 1 ≤ rs.length then S (rs.length + 1) else w2.heap.size) ≤ w3.heap.size
    rw [if_neg (by omega)]
    exact hz
  · by_cases h1 : j < rs.length
    · obtain ⟨v, h2, h3⟩ := h.2.2 j h1
      refine ⟨v, by rw [List.getElem?_append_left (by omega)]; exact h2, ?_⟩
      rw [List.getElem_append_left h1]
      simp only [show j ≤ rs.length from by omega, show j + 1 ≤ rs.length from by omega, if_true]
      exact ((h3.below hb).below hbel).grown (ho.alloc o) hg
    · have : j = rs.length := by rw [List.length_append] at hj; simp at hj; omega
      subst this
      refine ⟨u, by rw [List.getElem?_append_right (by omega), hl]; simp, ?_⟩
      have e : (rs ++ [r])[rs.length]'hj = r := by simp
      rw [e]
      simp only [Nat.le_refl, if_true, show ¬ rs.length + 1 ≤ rs.length from by omega, if_false]
      exact ((((EsI.of hr).mono h.2.1).below hbel).grown (ho.alloc o) hg)
end Go.Proofs.Ytgkgahjdjkmmnaa
