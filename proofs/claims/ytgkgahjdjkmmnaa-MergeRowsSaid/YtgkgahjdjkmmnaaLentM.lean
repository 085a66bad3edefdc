/- Lent rows of entries whose keys are written over: what stays. -/
import Derived.Test.YtgkgahjdjkmmnaaSpread
namespace Go.Proofs.Ytgkgahjdjkmmnaa
open Go.RowKit

theorem own_le {w : World} {B e size n : Nat} {v : Value} {xs : List Value} (h : w.ownsRow B e size v n xs) : ∀ k, v.ownBlock = some k → B ≤ k ∧ k < w.heap.size := by
  intro k hk
  rcases h.2 with ⟨rfl, _⟩ | ⟨g, cap, cur, rfl, hg, hh, _⟩
  · simp [Value.ownBlock] at hk
  · simp only [Value.ownBlock, Option.some.injEq] at hk
    subst hk
    exact ⟨hg, (Array.getElem?_eq_some_iff.1 hh).1⟩
/-- A row of the call's own stays under a store into an older block. -/
theorem own_low {w : World} {B e size n g i : Nat} {v u : Value} {xs : List Value} (h : w.ownsRow B e size v n xs) (hg : g < B) : (w.setCell ⟨g, i, none⟩ u).ownsRow B e size v n xs :=
  ownsRow_setCell_other h (fun hc => by have := (own_le h g hc).1; omega) u
theorem EsO.low {w : World} {B g i : Nat} {v u : Value} {l : List Ent} (h : EsO w B v l) (hg : g < B) : EsO (w.setCell ⟨g, i, none⟩ u) B v l := by
  obtain ⟨kv, h1, h2, h3⟩ := h
  exact ⟨kv, h1, own_low h2 hg, fun j hj => ⟨own_low (h3 j hj).hk hg, own_low (h3 j hj).hv hg⟩⟩

/-- Bytes of the call's own, whatever they are. -/
def Ky (w : World) (B n : Nat) (v : Value) : Prop := ∃ bs : List UInt8, bs.length = n ∧ w.ownsRow B 5 1 v n (bv bs)
theorem Ky.store {w : World} {B n g i : Nat} {v : Value} (h : Ky w B n v) (b : UInt8) : Ky (w.setCell ⟨g, i, none⟩ (.int .u8 (b.toNat : Int))) B n v := by
  obtain ⟨bs, h1, h2⟩ := h
  by_cases hc : v.ownBlock = some g
  · obtain ⟨ad, c, rfl⟩ := owns_shape h2
    cases ad with
    | none => cases hc
    | some a =>
      have h2' := h2
      rcases h2'.2 with ⟨e, _⟩ | ⟨g', cap, cur, e, _⟩
      · cases e
      · simp only [Value.slice.injEq, Option.some.injEq] at e
        obtain ⟨rfl, -, rfl⟩ := e
        simp only [Value.ownBlock, Option.some.injEq] at hc
        subst hc
        exact ⟨bs.set i b, by simp [h1], (own_store8 h2 i b).1⟩
  · exact ⟨bs, h1, ownsRow_setCell_other h2 hc _⟩
theorem Ky.below {w w' : World} {B n : Nat} {v : Value} (h : Ky w B n v) (hb : Below w.heap.size w w') : Ky w' B n v := by
  obtain ⟨bs, h1, h2⟩ := h
  exact ⟨bs, h1, owns_below h2 hb⟩

/-- A row of the call's own whose keys may have been written over: keys in blocks below C. -/
def EsM (w : World) (B C : Nat) (v : Value) (l : List Ent) : Prop :=
  ∃ kv : List (Value × Value), ∃ _ : kv.length = l.length, w.ownsRow B 27 4 v l.length (ecs kv l) ∧ ∀ (i : Nat) (h : i < l.length), Ky w B l[i].key.length (kv[i]'(by omega)).1 ∧ (∀ k, (kv[i]'(by omega)).1.ownBlock = some k → k < C)
theorem EsM.of {w w' : World} {B : Nat} {v : Value} {l : List Ent} (h : EsO w B v l) (hb : Below w.heap.size w w') : EsM w' B w.heap.size v l := by
  obtain ⟨kv, h1, h2, h3⟩ := h
  exact ⟨kv, h1, owns_below h2 hb, fun i hi => ⟨⟨_, rfl, owns_below (h3 i hi).hk hb⟩, fun k hk => (own_le (h3 i hi).hk k hk).2⟩⟩
theorem EsM.store {w : World} {B C g i : Nat} {cs : Array Value} {v : Value} {l : List Ent} (h : EsM w B C v l) (hg : w.heap[g]? = some (.cells cs 5 (0, 0))) (b : UInt8) : EsM (w.setCell ⟨g, i, none⟩ (.int .u8 (b.toNat : Int))) B C v l := by
  obtain ⟨kv, h1, h2, h3⟩ := h
  exact ⟨kv, h1, ownsRow_setCell_other h2 (own_block_ne hg h2 (by decide)) _, fun j hj => ⟨(h3 j hj).1.store b, (h3 j hj).2⟩⟩
end Go.Proofs.Ytgkgahjdjkmmnaa
