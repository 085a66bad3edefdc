
import Derived.Test.YtpodgocmcnkfdaaCloseL
namespace Go.Proofs.Ytpodgocmcnkfdaa
open Go.RowKit

/-- A row written full with its mark; what is grown behind it. -/
def rp (n i : Nat) : List UInt8 := List.replicate n (b8 (i : Int))
@[simp] theorem rp_length (n i : Nat) : (rp n i).length = n := by simp [rp]
theorem rp_get (n i j : Nat) (h : j < (rp n i).length) : (rp n i)[j] = b8 (i : Int) := by simp [rp]

theorem rp_at (n i : Nat) (r s : UInt8) (q : Nat) (hq : q < n) (h : q < (rp n i ++ [r] ++ [s]).length) : (rp n i ++ [r] ++ [s])[q] = b8 (i : Int) := by
  rw [List.getElem_append_left (by simp; omega), List.getElem_append_left (by simpa using hq), rp_get]

/-- The book's first rows, where each is its own: what each of them reads. -/
structure Cl (tb ts te : Nat) (w : World) (B K : Nat) (a0 : Option Addr) (c0 : Nat) (v1 : Value) (vs : List Value) (m : Nat) (f : Nat → List UInt8) : Prop where
  hK : w.heap[K]? = some (.cells (BkCells (.slice a0 m c0) v1) tb (0, 0))
  r0 : w.ownsRow B ts 1 (.slice a0 m c0) m vs
  each : ∀ i, i < m → ∃ v, vs[i]? = some v ∧ w.ownsRow B te 1 v (f i).length (bv (f i))

theorem Cl.store {tb ts te : Nat} {w : World} {B K : Nat} {a0 : Option Addr} {c0 : Nat} {v1 : Value} {vs : List Value} {m : Nat} {f : Nat → List UInt8} (h : Cl tb ts te w B K a0 c0 v1 vs m f) (h1 : tb ≠ te) (h2 : te ≠ ts) (ap : vs.Pairwise Unlike)
    {i g n c : Nat} (j : Nat) (b : UInt8) (hi : i < m) (hv : vs[i]? = some (.slice (some ⟨g, 0, none⟩) n c)) :
    Cl tb ts te (w.setCell ⟨g, j, none⟩ (.int .u8 (b.toNat : Int))) B K a0 c0 v1 vs m (fun q => if q = i then (f i).set j b else f q) ∧ w.grownBy (w.setCell ⟨g, j, none⟩ (.int .u8 (b.toNat : Int))) (some g) ∧ B ≤ g := by
  obtain ⟨v, e, ho⟩ := h.each i hi
  rw [hv] at e
  obtain rfl := Option.some.inj e
  have hn : n = (f i).length := by
    obtain ⟨ad, c', e'⟩ := owns_shape ho
    simp only [Value.slice.injEq] at e'
    exact e'.2.1
  subst hn
  have hg := grownBy_setCell w ⟨g, j, none⟩ (.int .u8 (b.toNat : Int))
  have hst := own_store8 ho j b
  refine ⟨⟨?_, ?_, fun q hq => ?_⟩, hg, (ho.lt g rfl).1⟩
  · exact block_grown hg h.hK (own_block_ne h.hK ho h1)
  · refine owns_grown h.r0 hg fun k hk hc => ?_
    have := Option.some.inj hc
    exact own_ne ho h.r0 h2 k hk this.symm
  · by_cases hqi : q = i
    · subst hqi
      refine ⟨_, hv, ?_⟩
      simpa using hst.1
    · obtain ⟨v, e, hq2⟩ := h.each q hq
      refine ⟨v, e, ?_⟩
      simp only [hqi, if_false]
      refine owns_grown hq2 hg fun k hk hc => ?_
      have hc := Option.some.inj hc
      have hlen : vs.length = m := by have := h.r0.1; omega
      have e1 : vs[q] = v := by rw [List.getElem?_eq_getElem (by omega)] at e; exact Option.some.inj e
      have e2 : vs[i] = .slice (some ⟨g, 0, none⟩) (f i).length c := by rw [List.getElem?_eq_getElem (by omega)] at hv; exact Option.some.inj hv
      have ap' := List.pairwise_iff_getElem.1 ap
      rcases Nat.lt_or_gt_of_ne hqi with hlt | hlt
      · have := ap' q i (by omega) (by omega) hlt
        rw [e1, e2] at this
        exact this k hk (by show some g = some k; rw [hc])
      · have := ap' i q (by omega) (by omega) hlt
        rw [e1, e2] at this
        exact this k (by show some g = some k; rw [hc]) hk

/-- Rows of which the first i are grown by two bytes. -/
structure Gr (tb ts te : Nat) (w : World) (B K H : Nat) (a0 : Option Addr) (c0 : Nat) (v1 : Value) (vs gs : List Value) (m : Nat) (L : Nat → Nat) (i : Nat) : Prop where
  hK : w.heap[K]? = some (.cells (BkCells (.slice a0 m c0) v1) tb (0, 0))
  r0 : w.ownsRow B ts 1 (.slice a0 m c0) m vs
  hH : ∀ k, (Value.slice a0 m c0).ownBlock = some k → k < H
  old : ∀ j, i ≤ j → j < m → ∃ v, vs[j]? = some v ∧ w.ownsRow B te 1 v (L j) (bv (rp (L j) j)) ∧ ∀ k, v.ownBlock = some k → k < H
  new : ∀ j, j < i → ∃ v g, vs[j]? = some v ∧ gs[j]? = some g ∧ (∀ k, v.ownBlock = some k → k < H) ∧ w.ownsRow B te 1 g (L j + 2) (bv (rp (L j) j ++ [b8 ((j : Int) + 100)] ++ [b8 ((j : Int) + 101)])) ∧
    ((∃ b c, v = .slice (some ⟨b, 0, none⟩) (L j) c ∧ g = .slice (some ⟨b, 0, none⟩) (L j + 2) c) ∨ (w.ownsRow B te 1 v (L j) (bv (rp (L j) j)) ∧ ∃ k, g.ownBlock = some k ∧ H ≤ k))

theorem Gr.step {tb ts te : Nat} {w w2 : World} {B K H : Nat} {a0 : Option Addr} {c0 : Nat} {v1 : Value} {vs gs : List Value} {m : Nat} {L : Nat → Nat} {i : Nat} (h : Gr tb ts te w B K H a0 c0 v1 vs gs m L i) (h1 : tb ≠ te) (h2 : te ≠ ts) (ap : vs.Pairwise Unlike) (hi : i < m) (hgl : gs.length = i) {v v2 : Value} (hH : H ≤ w.heap.size)
    (hv : vs[i]? = some v) (hg : w.grownBy w2 v.ownBlock) (hn : w2.ownsRow B te 1 v2 (L i + 2) (bv (rp (L i) i ++ [b8 ((i : Int) + 100)] ++ [b8 ((i : Int) + 101)])))
    (halt : (∃ b c, v = .slice (some ⟨b, 0, none⟩) (L i) c ∧ v2 = .slice (some ⟨b, 0, none⟩) (L i + 2) c) ∨ (w2.ownsRow B te 1 v (L i) (bv (rp (L i) i)) ∧ ∃ k, v2.ownBlock = some k ∧ w.heap.size ≤ k)) :
    Gr tb ts te w2 B K H a0 c0 v1 vs (gs ++ [v2]) m L (i + 1) := by
  obtain ⟨v', e, ho, hvH⟩ := h.old i (Nat.le_refl _) hi
  rw [hv] at e
  obtain rfl := Option.some.inj e
  have hlen : vs.length = m := by have := h.r0.1; omega
  have ap' := List.pairwise_iff_getElem.1 ap
  have ei : vs[i] = v := by rw [List.getElem?_eq_getElem (by omega)] at hv; exact Option.some.inj hv
  have un : ∀ j, j < m → j ≠ i → ∀ u, vs[j]? = some u → ∀ k, u.ownBlock = some k → some k ≠ v.ownBlock := by
    intro j hj hji u hu k hk hc
    have ej : vs[j] = u := by rw [List.getElem?_eq_getElem (by omega)] at hu; exact Option.some.inj hu
    rcases Nat.lt_or_gt_of_ne hji with hlt | hlt
    · have := ap' j i (by omega) (by omega) hlt
      rw [ej, ei] at this
      exact this k hk hc.symm
    · have := ap' i j (by omega) (by omega) hlt
      rw [ej, ei] at this
      exact this k hc.symm hk
  refine ⟨?_, ?_, h.hH, fun j hj hj2 => ?_, fun j hj => ?_⟩
  · exact block_grown hg h.hK (own_block_ne h.hK ho h1)
  · refine owns_grown h.r0 hg fun k hk hc => ?_
    obtain ⟨ad, c, rfl⟩ := owns_shape ho
    cases ad with
    | none => simp [Value.ownBlock] at hc
    | some a =>
      obtain ⟨g, e⟩ : ∃ g, some a = some ⟨g, 0, none⟩ := by
        rcases ho.2 with ⟨hv', _⟩ | ⟨g, cap, cur, hv', _⟩
        · simp at hv'
        · simp only [Value.slice.injEq] at hv'
          exact ⟨g, hv'.1⟩
      rw [e] at hc ho
      have := Option.some.inj hc
      exact own_ne ho h.r0 h2 k hk this.symm
  · obtain ⟨u, eu, hu, huH⟩ := h.old j (by omega) hj2
    exact ⟨u, eu, owns_grown hu hg (un j hj2 (by omega) u eu), huH⟩
  · by_cases hji : j = i
    · subst hji
      refine ⟨v, v2, hv, by rw [List.getElem?_append_right (by omega), hgl]; simp, hvH, hn, ?_⟩
      rcases halt with q | ⟨q, k, q1, q2⟩
      · exact .inl q
      · exact .inr ⟨q, k, q1, by omega⟩
    · obtain ⟨u, g, eu, eg, huH, hgo, alt⟩ := h.new j (by omega)
      have hju := un j (by omega) hji u eu
      refine ⟨u, g, eu, by rw [List.getElem?_append_left (by omega)]; exact eg, huH, owns_grown hgo hg fun k hk hc => ?_, ?_⟩
      · rcases alt with ⟨b, c, rfl, rfl⟩ | ⟨_, k', q1, q2⟩
        · exact hju k hk hc
        · rw [hk] at q1
          obtain rfl := Option.some.inj q1
          have := hvH k hc.symm
          omega
      · rcases alt with q | ⟨q, k', q1, q2⟩
        · exact .inl q
        · exact .inr ⟨owns_grown q hg hju, k', q1, q2⟩

theorem Gr.later {tb ts te : Nat} {w w2 : World} {B K H : Nat} {a0 : Option Addr} {c0 : Nat} {v1 : Value} {vs gs : List Value} {m : Nat} {L : Nat → Nat} {i : Nat} (h : Gr tb ts te w B K H a0 c0 v1 vs gs m L i)
    (hK : w2.heap[K]? = some (.cells (BkCells (.slice a0 m c0) v1) tb (0, 0))) (r0 : w2.ownsRow B ts 1 (.slice a0 m c0) m vs) (hk : Keeps te w w2) : Gr tb ts te w2 B K H a0 c0 v1 vs gs m L i := by
  refine ⟨hK, r0, h.hH, fun j hj hj2 => ?_, fun j hj => ?_⟩
  · obtain ⟨u, eu, hu, huH⟩ := h.old j hj hj2
    exact ⟨u, eu, hk _ _ _ _ hu, huH⟩
  · obtain ⟨u, g, eu, eg, huH, hgo, alt⟩ := h.new j hj
    refine ⟨u, g, eu, eg, huH, hk _ _ _ _ hgo, ?_⟩
    rcases alt with q | ⟨q, k', q1, q2⟩
    · exact .inl q
    · exact .inr ⟨hk _ _ _ _ q, k', q1, q2⟩

/-- At the end each row and what was grown of it read as they should. -/
theorem Gr.reads {tb ts te : Nat} {w : World} {B K H : Nat} {a0 : Option Addr} {c0 : Nat} {v1 : Value} {vs gs : List Value} {m : Nat} {L : Nat → Nat} (h : Gr tb ts te w B K H a0 c0 v1 vs gs m L m) (j : Nat) (hj : j < m) :
    ∃ ad c b c', vs[j]? = some (.slice ad (L j) c) ∧ gs[j]? = some (.slice (some ⟨b, 0, none⟩) (L j + 2) c') ∧ (0 < L j → ∃ b', ad = some ⟨b', 0, none⟩ ∧ ∀ q, q < L j → w.cell? ⟨b', q, none⟩ = some (.int .u8 ((j : Int) % 256))) ∧
      (∀ q, q < L j → w.cell? ⟨b, q, none⟩ = some (.int .u8 ((j : Int) % 256))) ∧ w.cell? ⟨b, L j, none⟩ = some (.int .u8 (((j : Int) + 100) % 256)) ∧ w.cell? ⟨b, L j + 1, none⟩ = some (.int .u8 (((j : Int) + 101) % 256)) := by
  obtain ⟨u, g, eu, eg, huH, hgo, alt⟩ := h.new j hj
  obtain ⟨ag, c', rfl⟩ := owns_shape hgo
  obtain ⟨b, rfl⟩ := owns_head hgo (by omega)
  have hlen : (rp (L j) j ++ [b8 ((j : Int) + 100)] ++ [b8 ((j : Int) + 101)]).length = L j + 2 := by simp
  have cells : ∀ q, q < L j → w.cell? ⟨b, q, none⟩ = some (.int .u8 ((j : Int) % 256)) := by
    intro q hq
    rw [own_cell8 hgo q (by omega), ← b8_toNat]
    congr 3
    exact congrArg _ (rp_at _ _ _ _ q hq _)
  have c1 : w.cell? ⟨b, L j, none⟩ = some (.int .u8 (((j : Int) + 100) % 256)) := by
    rw [own_cell8 hgo (L j) (by omega), ← b8_toNat]
    congr 3
    simp
  have c2 : w.cell? ⟨b, L j + 1, none⟩ = some (.int .u8 (((j : Int) + 101) % 256)) := by
    rw [own_cell8 hgo (L j + 1) (by omega), ← b8_toNat]
    congr 3
    simp
  rcases alt with ⟨b', c, e1, e2⟩ | ⟨hu, _⟩
  · subst e1
    simp only [Value.slice.injEq, Option.some.injEq, Addr.mk.injEq, and_true, true_and] at e2
    obtain ⟨rfl, rfl⟩ := e2
    exact ⟨_, _, b, c', eu, eg, fun _ => ⟨b, rfl, cells⟩, cells, c1, c2⟩
  · obtain ⟨ad, c, rfl⟩ := owns_shape hu
    refine ⟨ad, c, b, c', eu, eg, fun h0 => ?_, cells, c1, c2⟩
    obtain ⟨b', rfl⟩ := owns_head hu h0
    refine ⟨b', rfl, fun q hq => ?_⟩
    rw [own_cell8 hu q (by simpa using hq), ← b8_toNat, rp_get]
end Go.Proofs.Ytpodgocmcnkfdaa
