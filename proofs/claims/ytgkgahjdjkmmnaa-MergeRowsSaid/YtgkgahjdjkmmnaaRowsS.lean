/- Lent rows while a row's keys are written over: what stays, as one structure. -/
import Derived.Test.YtgkgahjdjkmmnaaLentR
namespace Go.Proofs.Ytgkgahjdjkmmnaa
open Go.RowKit

structure MRS (w1 : World) (B1 B2 : Nat) (mv nv ov : Value) (out : List Ent) (vs : List Value) (S : Nat → Nat) (rs : List (List Ent)) (k : Nat) (lv : Value) (r : List Ent) (w : World) : Prop where
  hb : Below w1.heap.size w1 w
  hm : EsO w B1 mv out
  hn : EsO w B2 nv out
  ho : w.ownsRow w1.heap.size 24 1 ov rs.length vs
  hr : ∀ (j : Nat) (h : j < rs.length), k < j → ∃ v, vs[j]? = some v ∧ EsI w (S j) (S (j + 1)) v rs[j]
  hk : EsM w (S k) (S (k + 1)) lv r
  hs : ∀ j, j < rs.length → S j ≤ S (j + 1)
  h0 : S 0 = w1.heap.size
  h1 : S rs.length ≤ B1
  h2 : S rs.length ≤ B2
  hkl : k < rs.length
  hvk : vs[k]? = some lv

theorem steps_le {S : Nat → Nat} {n : Nat} (h : ∀ j, j < n → S j ≤ S (j + 1)) : ∀ d a, a + d ≤ n → S a ≤ S (a + d)
  | 0, a, _ => Nat.le_refl _
  | d + 1, a, hd => Nat.le_trans (steps_le h d a (by omega)) (h (a + d) (by omega))

variable {w1 w : World} {B1 B2 k : Nat} {mv nv ov lv : Value} {out r : List Ent} {vs : List Value} {S : Nat → Nat} {rs : List (List Ent)}

theorem MRS.store {g i : Nat} {cs : Array Value} (h : MRS w1 B1 B2 mv nv ov out vs S rs k lv r w) (hg : w.heap[g]? = some (.cells cs 5 (0, 0))) (ha : S k ≤ g) (hc : g < S (k + 1)) (b : UInt8) :
    MRS w1 B1 B2 mv nv ov out vs S rs k lv r (w.setCell ⟨g, i, none⟩ (.int .u8 (b.toNat : Int))) := by
  have hkl := h.hkl
  have e0 : S 0 ≤ S k := by have := steps_le h.hs k 0 (by omega); rwa [Nat.zero_add] at this
  have e1 : ∀ j, j ≤ rs.length → k < j → S (k + 1) ≤ S j := fun j hj hkj => by
    have := steps_le h.hs (j - (k + 1)) (k + 1) (by omega)
    rwa [show k + 1 + (j - (k + 1)) = j by omega] at this
  have e2 := e1 rs.length (Nat.le_refl _) hkl
  have e3 := h.h0
  have e4 := h.h1
  have e5 := h.h2
  exact { hb := h.hb.setCell (by show w1.heap.size ≤ g; omega) _
          hm := h.hm.low (by omega)
          hn := h.hn.low (by omega)
          ho := ownsRow_setCell_other h.ho (own_block_ne hg h.ho (by decide)) _
          hr := fun j hj hkj => by
            obtain ⟨v, h3, h4⟩ := h.hr j hj hkj
            exact ⟨v, h3, h4.low (by have := e1 j (by omega) hkj; omega)⟩
          hk := h.hk.store hg b
          hs := h.hs, h0 := h.h0, h1 := h.h1, h2 := h.h2, hkl := h.hkl, hvk := h.hvk }

theorem MRS.below {w' : World} (h : MRS w1 B1 B2 mv nv ov out vs S rs k lv r w) (hb : Below w.heap.size w w') : MRS w1 B1 B2 mv nv ov out vs S rs k lv r w' :=
  { hb := below_then h.hb hb h.hb.size
    hm := h.hm.below hb
    hn := h.hn.below hb
    ho := owns_below h.ho hb
    hr := fun j hj hkj => by
      obtain ⟨v, h3, h4⟩ := h.hr j hj hkj
      exact ⟨v, h3, h4.below hb⟩
    hk := by
      obtain ⟨kv, h3, h4, h5⟩ := h.hk
      exact ⟨kv, h3, owns_below h4 hb, fun i hi => ⟨(h5 i hi).1.below hb, (h5 i hi).2⟩⟩
    hs := h.hs, h0 := h.h0, h1 := h.h1, h2 := h.h2, hkl := h.hkl, hvk := h.hvk }

/-- The cells which the writing reads, and what a write of one byte does. -/
theorem MRS.key {gl lc : Nat} (h : MRS w1 B1 B2 mv nv ov out vs S rs k (.slice (some ⟨gl, 0, none⟩) r.length lc) r w) (q : Nat) (hq : q < r.length) :
    ∃ ka kc, w.cell? ⟨gl, 0 + q * 4, none⟩ = some (.slice ka r[q].key.length kc) ∧ r[q].key.length ≤ maxLen ∧
      (0 < r[q].key.length → ∃ gk, ka = some ⟨gk, 0, none⟩ ∧ ∀ j, j < r[q].key.length → ∃ b : UInt8, w.cell? ⟨gk, j, none⟩ = some (.int .u8 (b.toNat : Int)) ∧ w.frozen? ⟨gk, j, none⟩ = false ∧
        MRS w1 B1 B2 mv nv ov out vs S rs k (.slice (some ⟨gl, 0, none⟩) r.length lc) r (w.setCell ⟨gk, j, none⟩ (.int .u8 (((b.toNat : Int) + 1) % 256)))) := by
  obtain ⟨kv, h3, h4, h5⟩ := h.hk
  have hc := h4.cellAt (q * 4) (by omega)
  have hx := ecs_at kv r h3 q hq 0 (by omega)
  simp only [Nat.add_zero] at hx
  rw [hx] at hc
  obtain ⟨⟨bs, hbl, hbo⟩, hbk⟩ := h5 q hq
  obtain ⟨ka, kc, hkk⟩ := owns_shape hbo
  have hcap := owns_cap (by rw [hkk] at hbo; exact hbo)
  refine ⟨ka, kc, by rw [Nat.zero_add, hc]; show some (kv[q]'(by omega)).1 = _; rw [hkk], Nat.le_trans hcap.1 hcap.2, fun h0 => ?_⟩
  rw [hkk] at hbo hbk
  obtain ⟨gk, rfl⟩ := owns_head hbo h0
  refine ⟨gk, rfl, fun j hj => ⟨bs[j]'(by omega), own_cell8 hbo j (by omega), hbo.frozenAt j, ?_⟩⟩
  have h6 := hbk gk rfl
  have h7 := (own_le hbo gk rfl).1
  rcases hbo.2 with ⟨e, _⟩ | ⟨g', cap, cur, e, _, hh, _⟩
  · cases e
  · simp only [Value.slice.injEq, Option.some.injEq, Addr.mk.injEq] at e
    obtain ⟨⟨rfl, -⟩, -⟩ := e
    have := h.store (i := j) hh h7 h6 (b8 ((bs[j]'(by omega)).toNat + 1))
    rwa [b8_toNat] at this
end Go.Proofs.Ytgkgahjdjkmmnaa
