/- A session of a law's own, and beside it a row of items of the law's own. -/
import Derived.Test.YtgimbocoamnkjaaUse20
import Derived.Test.YtgimbocoamnkjaaMItem
namespace Go.Proofs.Ytgimbocoamnkjaa
open Go.RowKit

theorem Sep.aside {w w' : World} {M : Nat → Prop} {S K : Nat} (hS : M S) (hSK : S ≤ K) (hk : bkind w K = 44 + 2) (hg : w.grownBy w' (some K)) : Sep (Wr w M) (Wr w' M) w w' :=
  ⟨hg.os, hg.tape, hg.output, hg.size, fun b hb hn => hg.block b hb (fun e => hn (Option.some.inj e ▸ .inr ⟨hk, S, hS, hSK⟩)), fun b hb => by
    by_cases hlt : b < w.heap.size
    · rcases hb with hb | ⟨h1, h2⟩
      · exact .inl (.inl hb)
      · by_cases e : b = K
        · subst e
          exact .inl (.inr ⟨hk, S, hS, hSK⟩)
        · refine .inl (.inr ⟨?_, h2⟩)
          rw [← h1]
          unfold bkind
          rw [hg.block b hlt (fun h => e (Option.some.inj h))]
    · exact .inr (by omega)⟩
theorem ImS.aside {w w' : World} {M : Nat → Prop} {S K : Nat} {c : V3} {x : Im} (h : ImS w M c x) (hS : M S) (hSK : S ≤ K) (hk : bkind w K = 44 + 2) (hg : w.grownBy w' (some K)) : ImS w' M c x := ⟨h.1.sep (Sep.aside hS hSK hk hg), h.2⟩
/-- A row of items beside the session was written. -/
theorem SX.aside {w w' : World} {M : Nat → Prop} {S NB MB GB GM K : Nat} {sv qv fv : Value} {s : Sess} (h : SX w M S NB MB GB GM sv qv fv s) (hK : ¬ M K) (hSK : S ≤ K) (hk : bkind w K = 44 + 2) (hg : w.grownBy w' (some K)) : SX w' M S NB MB GB GM sv qv fv s := by
  have key : ∀ b, b < w.heap.size → b ≠ K → w'.heap[b]? = w.heap[b]? := fun b hb hne => hg.block b hb (fun e => hne (Option.some.inj e))
  have own : ∀ b, M b → w'.heap[b]? = w.heap[b]? := fun b hb => key b (h.lt b hb) (fun e => hK (e ▸ hb))
  have lt1 : ∀ {b t : Nat} {fr : Nat × Nat} {cs : Array Value}, w.heap[b]? = some (.cells cs t fr) → b < w.heap.size := fun h => (Array.getElem?_eq_some_iff.1 h).1
  have hkn : NB ≠ K := fun e => by
    have := h.hn.kinds.1
    rw [e, hk] at this
    revert this
    decide
  have hkg : GB ≠ K := fun e => by
    have := h.hg.kinds.1
    rw [e, hk] at this
    revert this
    decide
  refine ⟨(own S h.mS).trans h.hS, h.hn.of_blocks (key NB (lt1 h.hn.1) hkn) (own MB h.mN), h.hg.of_blocks (key GB (lt1 h.hg.1) hkg) (own GM h.mG), owns_of_block h.hs (fun k hk' => own k (h.ms k hk')), ?_, ?_, h.nb, h.nm, h.mS, h.mN, h.mG, h.ms, h.mNB, h.mGB, fun b hb => Nat.lt_of_lt_of_le (h.lt b hb) hg.size⟩
  · obtain ⟨ps, h1, h2, h3, h4⟩ := h.hq
    exact ⟨ps, h1, h2.of_block (fun k hk' => own k (h4 k hk')), fun p hp => (h3 p hp).aside h.mS hSK hk hg, h4⟩
  · obtain ⟨ps, h1, h2, h3, h4⟩ := h.hf
    exact ⟨ps, h1, owns_of_block h2 (fun k hk' => own k (h4 k hk')), fun p hp => (h3 p hp).aside h.mS hSK hk hg, h4⟩

theorem SR.mS {w : World} {M : Nat → Prop} {S : Nat} {s : Sess} (h : SR w M S s) : M S := by
  obtain ⟨NB, MB, GB, GM, sv, qv, fv, hx⟩ := h
  exact hx.mS
theorem SR.lt {w : World} {M : Nat → Prop} {S : Nat} {s : Sess} (h : SR w M S s) : ∀ b, M b → b < w.heap.size := by
  obtain ⟨NB, MB, GB, GM, sv, qv, fv, hx⟩ := h
  exact hx.lt

/-- The session, and the row v that reads as l: in no block that the session writes. -/
structure SOM (W w : World) (M : Nat → Prop) (S : Nat) (s : Sess) (v : Value) (l : List Im) : Prop where
  sr : SR w M S s
  lo : ∀ b, M b → W.heap.size ≤ b
  low : Below W.heap.size W w
  row : ∃ ps : List (V3 × Im), ps.map (·.2) = l ∧ w.ownsRow 0 44 14 v l.length (ps.flatMap imP) ∧ (∀ p ∈ ps, ImS w M p.1 p.2) ∧ ∀ k, v.ownBlock = some k → ¬ M k ∧ S ≤ k
theorem SOM.sep {W w w' : World} {M M' : Nat → Prop} {S : Nat} {s s' : Sess} {v : Value} {l : List Im} (h : SOM W w M S s v l) (hr : SR w' M' S s') (hs : Sep M M' w w') : SOM W w' M' S s' v l := by
  obtain ⟨ps, h1, h2, h3, h4⟩ := h.row
  refine ⟨hr, fun b hb => ?_, below_then h.low (hs.low h.low.size h.lo) (Nat.le_refl _), ps, h1, owns_of_block h2 (fun k hk => hs.block k (h2.lt k hk).2 (h4 k hk).1), fun p hp => (h3 p hp).sep hs, fun k hk => ⟨fun hm => ?_, (h4 k hk).2⟩⟩
  · rcases hs.new b hb with h5 | h5
    · exact h.lo b h5
    · exact Nat.le_trans h.low.size h5
  · rcases hs.new k hm with h5 | h5
    · exact (h4 k hk).1 h5
    · have := (h2.lt k hk).2
      omega
theorem SOM.below {W w w' : World} {M : Nat → Prop} {S : Nat} {s : Sess} {v : Value} {l : List Im} (h : SOM W w M S s v l) (hb : Below w.heap.size w w') : SOM W w' M S s v l := h.sep (h.sr.below hb) (.of_below hb)
theorem SOM.sw {W w : World} {M : Nat → Prop} {S : Nat} {s : Sess} {v : Value} {l : List Im} (h : SOM W w M S s v l) : SW W w S s := ⟨⟨M, h.sr, h.lo⟩, h.low⟩
theorem SOM.start {W w : World} {S : Nat} {s : Sess} (h : SW W w S s) : ∃ M, SOM W w M S s (.slice none 0 0) [] := by
  obtain ⟨M, h1, h2⟩ := h.ex
  exact ⟨M, h1, h2, h.low, [], rfl, World.ownsRow_nil _ _ _ _, fun p hp => by simp at hp, fun k hk => by simp [Value.ownBlock] at hk⟩

theorem below_own {W x y : World} (h : Below W.heap.size W x) (hs : ∀ b, b < W.heap.size → y.heap[b]? = x.heap[b]?) (h1 : y.os = x.os) (h2 : y.tape = x.tape) (h3 : y.output = x.output) (h4 : x.heap.size ≤ y.heap.size) : Below W.heap.size W y :=
  ⟨h1.trans h.os, h2.trans h.tape, h3.trans h.output, Nat.le_trans h.size h4, fun b hb => (hs b hb).trans (h.block b hb)⟩
/-- What was made of plain things stays, whatever is written in M or in rows of items. -/
theorem ItO.wr {W w : World} {B : Nat} {M : Nat → Prop} {pv qv ev : Value} {x : Im} (h : ItO W B w pv qv ev x) (hM : ∀ b, M b → W.heap.size ≤ b ∧ b < B) : Safe (Wr w M) w fun y => ImC y pv qv ev x := fun M' w' s => by
  have hW : ∀ b, Wr w M b → W.heap.size ≤ b := by
    rintro b (hb | ⟨_, m, hm, hle⟩)
    · exact (hM b hb).1
    · exact Nat.le_trans (hM m hm).1 hle
  have hl := below_then h.low (s.low (B := W.heap.size) h.low.size hW) (Nat.le_refl _)
  have key : ∀ {e size n : Nat} {v : Value} {xs : List Value}, e ≠ 44 → w.ownsRow B e size v n xs → w'.ownsRow B e size v n xs := fun he ho => owns_safe ho (fun k hk hm => by
    rcases hm with hm | ⟨hm, _⟩
    · have := (ho.lt k hk).1
      have := (hM k hm).2
      omega
    · rw [own_kind ho k hk] at hm
      exact he (by omega)) M' w' s
  obtain ⟨ad, c, ds, e, ho⟩ := h.q
  exact ItO.c ⟨h.p, ⟨ad, c, ds, e, ho.nl, ho.len, key (by decide) ho.row, ho.old, hl⟩, key (by decide) h.i, hl⟩
theorem SOM.item {W w w1 : World} {M : Nat → Prop} {S : Nat} {s : Sess} {v : Value} {l : List Im} (h : SOM W w M S s v l) {pv qv ev : Value} {x : Im} (hit : ItO W w.heap.size w1 pv qv ev x) (hB : ImB x) : ImS w1 M (pv, qv, ev) x :=
  ⟨hit.wr fun b hb => ⟨h.lo b hb, h.sr.lt b hb⟩, hB⟩
/-- One item more. -/
theorem SOM.app {W w w' : World} {M : Nat → Prop} {S : Nat} {s : Sess} {v v' : Value} {l : List Im} {ps : List (V3 × Im)} {c : V3} {x : Im} (h : SOM W w M S s v l) (h1 : ps.map (·.2) = l) (h2 : w.ownsRow 0 44 14 v l.length (ps.flatMap imP)) (h3 : ∀ p ∈ ps, ImS w M p.1 p.2) (h4 : ∀ k, v.ownBlock = some k → ¬ M k ∧ S ≤ k)
    (hx : ImS w M c x) (hr : w'.ownsRow 0 44 14 v' (l.length + 1) (ps.flatMap imP ++ imP (c, x))) (hg : w.grownBy w' v.ownBlock) (hat : v'.ownBlock = v.ownBlock ∨ v'.ownBlock = some w.heap.size) : SOM W w' M S s v' (l ++ [x]) := by
  have hmS := h.sr.mS
  have hlt := h.sr.lt
  have hnew : ∀ k, v'.ownBlock = some k → ¬ M k ∧ S ≤ k := fun k hk => by
    rcases hat with e | e
    · exact h4 k (e ▸ hk)
    · rw [e] at hk
      obtain rfl := Option.some.inj hk
      exact ⟨fun hm => by have := hlt _ hm; omega, Nat.le_of_lt (hlt S hmS)⟩
  have hfm : (ps ++ [(c, x)]).flatMap imP = ps.flatMap imP ++ imP (c, x) := by rw [List.flatMap_append]; simp
  have hbl : Below W.heap.size W w' := below_own h.low (fun b hb => hg.block b (Nat.lt_of_lt_of_le hb h.low.size) (fun e => by
    have h5 := h4 b e.symm
    have := h.lo S hmS
    omega)) hg.os hg.tape hg.output hg.size
  have key : SR w' M S s ∧ ∀ (c : V3) (y : Im), ImS w M c y → ImS w' M c y := by
    cases hv : v.ownBlock with
    | none =>
      rw [hv] at hg
      have hb := below_of_grown hg (Nat.le_refl _) (fun k hk => by cases hk)
      exact ⟨h.sr.below hb, fun c y hy => hy.sep (.of_below hb)⟩
    | some K =>
      rw [hv] at hg
      have hK := h4 K hv
      have hkd := own_kind h2 K hv
      obtain ⟨NB, MB, GB, GM, sv, qv, fv, hx⟩ := h.sr
      exact ⟨⟨NB, MB, GB, GM, sv, qv, fv, hx.aside hK.1 hK.2 hkd hg⟩, fun c y hy => hy.aside hmS hK.2 hkd hg⟩
  refine ⟨key.1, h.lo, hbl, ps ++ [(c, x)], ?_, ?_, fun p hp => ?_, hnew⟩
  · rw [List.map_append, h1]
    rfl
  · rw [hfm, List.length_append]
    exact hr
  · rcases List.mem_append.1 hp with hp | hp
    · exact key.2 _ _ (h3 p hp)
    · obtain rfl := List.mem_singleton.1 hp
      exact key.2 _ _ hx
end Go.Proofs.Ytgimbocoamnkjaa
