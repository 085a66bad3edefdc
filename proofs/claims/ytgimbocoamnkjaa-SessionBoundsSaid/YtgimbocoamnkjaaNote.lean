/- Messages and items: what they are, how they lie in memory; note.Copy, walked. -/
import Derived.Test.YtgimbocoamnkjaaClones
import Derived.Test.YtgimbocoamnkjaaSafe
import Derived.Deep.RegionLaw
namespace Go.Proofs.Ytgimbocoamnkjaa
open Go.RowKit

/-- A message. -/
structure Nt where
  topic : List UInt8
  payload : List UInt8
  qos : Int
  retain : Bool
  src : List UInt8
  expires : Int
  props : List Pr
  origin : Int
  number : Int
  hops : Int
deriving DecidableEq
/-- A message's ten cells. -/
def ntC (pv qv : Value) (x : Nt) : List Value := [.string (str x.topic), pv, .int .i64 x.qos, .bool x.retain, .string (str x.src), .int .i64 x.expires, qv, .int .i64 x.origin, .int .i64 x.number, .int .i64 x.hops]
theorem ntC_def (pv qv : Value) (x : Nt) : ntC pv qv x = [.string (str x.topic), pv, .int .i64 x.qos, .bool x.retain, .string (str x.src), .int .i64 x.expires, qv, .int .i64 x.origin, .int .i64 x.number, .int .i64 x.hops] := rfl
/-- Sizes within reach. -/
structure NtB (x : Nt) : Prop where
  t : x.topic.length ≤ 100000
  p : x.payload.length ≤ 100000
  s : x.src.length ≤ 100000
  l : x.props.length ≤ 100000
  e : ∀ p ∈ x.props, PB p
  q : -9223372036854775808 ≤ x.qos ∧ x.qos ≤ 9223372036854775807

/-- What writes into a block of another type turns no owned row. -/
theorem owns_typed {w w' : World} {B e size n K t : Nat} {fr : Nat × Nat} {cs : Array Value} {v : Value} {xs : List Value} (h : w.ownsRow B e size v n xs) (hK : w.heap[K]? = some (.cells cs t fr)) (ht : t ≠ e) (hg : w.grownBy w' (some K)) : w'.ownsRow B e size v n xs :=
  owns_grown h hg fun k hk hc => own_block_ne hK h ht (by rw [hk, hc])
theorem PsO.typed {w w' : World} {B K t : Nat} {fr : Nat × Nat} {cs : Array Value} {v : Value} {l : List Pr} (h : PsO w B v l) (hK : w.heap[K]? = some (.cells cs t fr)) (h1 : t ≠ 84) (h2 : t ≠ 5) (hg : w.grownBy w' (some K)) : PsO w' B v l := by
  obtain ⟨ds, hd, hr, he, ha⟩ := h
  exact ⟨ds, hd, owns_typed hr hK h1 hg, fun i hi => owns_typed (he i hi) hK h2 hg, ha⟩
theorem grown_setRow (w : World) (K : Nat) (cs : Array Value) : w.grownBy (w.setRow K cs) (some K) :=
  ⟨rfl, rfl, rfl, by simp, fun i _ hi => setRow_other w K i cs (fun e => hi (by rw [e]))⟩

/-- A properties' row whose data were copied as far as number k: the rest still read in an older world. -/
structure Cp (W w : World) (B k : Nat) (v : Value) (ds : List Value) (l : List Pr) : Prop where
  len : ds.length = l.length
  row : w.ownsRow B 84 5 v l.length (pcs ds l)
  old : ∀ (i : Nat) (d : Value) (p : Pr), k ≤ i → ds[i]? = some d → l[i]? = some p → PC W d p
  new : ∀ (i : Nat) (d : Value) (p : Pr), i < k → ds[i]? = some d → l[i]? = some p → w.ownsRow B 5 1 d p.data.length (bv p.data)
  apart : (ds.take k).Pairwise Unlike
theorem Cp.start {W w : World} {B : Nat} {v : Value} {ds : List Value} {l : List Pr} (h : w.ownsRow B 84 5 v l.length (pcs ds l)) (hd : Pds W ds l) : Cp W w B 0 v ds l :=
  ⟨hd.1, h, fun i d p _ h1 h2 => hd.2 i d p h1 h2, fun i d p h1 => by omega, by simp⟩
theorem Cp.below {W w w' : World} {B k : Nat} {v : Value} {ds : List Value} {l : List Pr} (h : Cp W w B k v ds l) (hb : Below w.heap.size w w') : Cp W w' B k v ds l :=
  ⟨h.len, owns_below h.row hb, h.old, fun i d p h1 h2 h3 => owns_below (h.new i d p h1 h2 h3) hb, h.apart⟩
theorem pcs_set (ds : List Value) (l : List Pr) (h : ds.length = l.length) (k : Nat) (hk : k < l.length) (d : Value) : pcs (ds.set k d) l = (pcs ds l).set (k * 5 + 4) d := by
  have hlen : ∀ ds : List Value, ds.length = l.length → (pcs ds l).length = l.length * 5 := fun ds h => by
    unfold pcs
    rw [List.length_flatMap]
    have : ((ds.zip l).map fun a => (pc a).length) = List.replicate l.length 5 := by
      apply List.ext_getElem
      · simp [h]
      · intro i q1 q2
        simp [pc]
    rw [this]
    simp
  have hs : (ds.set k d).length = l.length := by rw [List.length_set]; exact h
  apply List.ext_getElem?
  intro j
  by_cases hj : j < l.length * 5
  · have hi : j / 5 < l.length := by omega
    have hm : j % 5 < 5 := Nat.mod_lt _ (by omega)
    have he : j = j / 5 * 5 + j % 5 := by omega
    obtain ⟨q, hq⟩ : ∃ q, j % 5 = q := ⟨_, rfl⟩
    obtain ⟨i, hii⟩ : ∃ i, j / 5 = i := ⟨_, rfl⟩
    rw [hq, hii] at he
    rw [hq] at hm
    rw [hii] at hi
    rw [List.getElem?_set, he, pcs_at _ l hs i hi q hm, pcs_at ds l h i hi q hm]
    by_cases e : i = k
    · subst e
      simp only [List.getElem_set_self]
      match q, hm with
      | 0, _ => rw [if_neg (by omega)]; rfl
      | 1, _ => rw [if_neg (by omega)]; rfl
      | 2, _ => rw [if_neg (by omega)]; rfl
      | 3, _ => rw [if_neg (by omega)]; rfl
      | 4, _ => rw [if_pos rfl, if_pos (by rw [hlen ds h]; omega)]; rfl
    · rw [List.getElem_set_ne (by omega), if_neg (by omega)]
  · rw [List.getElem?_eq_none (by rw [hlen _ hs]; omega), List.getElem?_eq_none (by rw [List.length_set, hlen _ h]; omega)]
/-- One more was copied. -/
theorem Cp.step {W w w1 w2 : World} {B k g c n : Nat} {a : Option Addr} {ds : List Value} {l : List Pr} {p : Pr} {d : Value} (h : Cp W w B k (.slice (some ⟨g, 0, none⟩) n c) ds l) (hB : B ≤ w.heap.size) (hk : l[k]? = some p) (hd : w1.ownsRow w.heap.size 5 1 d p.data.length (bv p.data)) (hb : Below w.heap.size w w1)
    (h2 : w2 = w1.setCell ⟨g, k * 5 + 4, none⟩ d) (_ha : a = some ⟨g, 0, none⟩) : Cp W w2 B (k + 1) (.slice (some ⟨g, 0, none⟩) n c) (ds.set k d) l := by
  subst h2
  have hkl := (List.getElem?_eq_some_iff.1 hk).1
  have hr1 := owns_below h.row hb
  have hn : n = l.length := by
    obtain ⟨ad, c', e⟩ := owns_shape h.row
    simp only [Value.slice.injEq] at e
    exact e.2.1
  subst hn
  have hkeep : Keeps 5 w1 (w1.setCell ⟨g, k * 5 + 4, none⟩ d) := Keeps.grown5 hr1 (hr1.stored (k * 5 + 4) d).2 (by decide)
  refine ⟨by rw [List.length_set]; exact h.len, ?_, fun i d' p' h1 h2 h3 => ?_, fun i d' p' h1 h2 h3 => ?_, ?_⟩
  · rw [pcs_set ds l h.len k hkl]
    exact (hr1.stored (k * 5 + 4) d).1
  · rw [List.getElem?_set_ne (by omega)] at h2
    exact h.old i d' p' (by omega) h2 h3
  · by_cases e : i = k
    · subst e
      rw [List.getElem?_set_self (by rw [h.len]; exact hkl)] at h2
      obtain rfl := Option.some.inj h2
      rw [hk] at h3
      obtain rfl := Option.some.inj h3
      exact hkeep _ _ _ _ (owns_mono hd hB)
    · rw [List.getElem?_set_ne (by omega)] at h2
      exact hkeep _ _ _ _ (owns_below (h.new i d' p' (by omega) h2 h3) hb)
  · have hl : k < ds.length := by rw [h.len]; exact hkl
    have e : (ds.set k d).take (k + 1) = ds.take k ++ [d] := by
      rw [List.take_succ_eq_append_getElem (by rw [List.length_set]; exact hl), List.take_set_of_le (Nat.le_refl _)]
      simp
    rw [e, List.pairwise_append]
    refine ⟨h.apart, by simp, fun x hx y hy => ?_⟩
    obtain rfl := List.mem_singleton.1 hy
    intro b hb1 hb2
    obtain ⟨i, hi, rfl⟩ := List.getElem_of_mem hx
    have hik : i < k := by rw [List.length_take] at hi; omega
    rw [List.getElem_take] at hb1
    have hil : i < l.length := by omega
    have := h.new i _ _ hik (List.getElem?_eq_getElem (by omega)) (List.getElem?_eq_getElem hil)
    have q1 := (this.lt b hb1).2
    have q2 := (hd.lt b hb2).1
    omega
theorem Cp.pso {W w : World} {B k : Nat} {v : Value} {ds : List Value} {l : List Pr} (h : Cp W w B k v ds l) (hk : l.length ≤ k) : PsO w B v l := by
  have hl := h.len
  refine ⟨ds, h.len, h.row, fun i hi => ?_, ?_⟩
  · exact h.new i _ _ (by omega) (List.getElem?_eq_getElem (by omega)) (List.getElem?_eq_getElem hi)
  · have := h.apart
    rwa [List.take_of_length_le (by omega)] at this
theorem Cp.cell {W w : World} {B k g c n : Nat} {ds : List Value} {l : List Pr} (h : Cp W w B k (.slice (some ⟨g, 0, none⟩) n c) ds l) (hk : k < l.length) : ∃ d p, l[k]? = some p ∧ PC W d p ∧ w.cell? ⟨g, k * 5 + 4, none⟩ = some d := by
  have hl := h.len
  refine ⟨ds[k]'(by omega), l[k], List.getElem?_eq_getElem hk, h.old k _ _ (Nat.le_refl _) (List.getElem?_eq_getElem (by omega)) (List.getElem?_eq_getElem hk), ?_⟩
  have hn : n = l.length := by
    obtain ⟨ad, c', e⟩ := owns_shape h.row
    simp only [Value.slice.injEq] at e
    exact e.2.1
  subst hn
  have := h.row.cellAt (k * 5 + 4) (by omega)
  rw [this, pcs_at ds l h.len k hk 4 (by omega)]
  rfl
end Go.Proofs.Ytgimbocoamnkjaa
