/- Properties: what they are, what a slice of them reads as, rows of the call's own. -/
import Derived.Test.YtgimbocoamnkjaaKeep
import Derived.Deep.RegionHeld
import Derived.Deep.LoopGhost
namespace Go.Proofs.Ytgimbocoamnkjaa
open Go.RowKit

/-- A property. -/
structure Pr where
  id : Int
  num : Int
  text : List UInt8
  pair : List UInt8
  data : List UInt8
deriving DecidableEq
def zeroP : Pr := ⟨0, 0, [], [], []⟩


def samePr (p q : Pr) : Bool := p.id == q.id && (p.num == q.num && (p.text == q.text && (p.pair == q.pair && p.data == q.data)))
theorem samePr_iff (p q : Pr) : samePr p q = true ↔ p = q := by
  obtain ⟨a, b, c, d, e⟩ := p
  obtain ⟨a', b', c', d', e'⟩ := q
  simp only [samePr, Bool.and_eq_true, beq_iff_eq, Pr.mk.injEq]

def sameR (l m : List Pr) : Bool := decide (l = m)

theorem Try.info84 : (Try.prog.info? 84).map (fun i => (i.zero, i.size, i.bytes)) = some (some (.agg #[Value.int .i64 0, Value.int .i64 0, Value.string ⟨#[]⟩, Value.string ⟨#[]⟩, Value.slice none 0 0]), 5, 72) := by kernel_rfl
theorem pc_oneCell (a : Option Addr) (n c : Nat) {i j : Int} {s t : ByteArray} : ∀ u ∈ [Value.int .i64 i, Value.int .i64 j, Value.string s, Value.string t, Value.slice a n c], u.oneCell' = true := by
  intro u hu
  simp at hu
  rcases hu with rfl | rfl | rfl | rfl | rfl <;> rfl

/-- A property's data read so; all within the reach. -/
structure PC (w : World) (d : Value) (p : Pr) : Prop where
  hd : Bs w d p.data
  ld : p.data.length ≤ 140737488351232
  lt : p.text.length ≤ 140737488351232
  lp : p.pair.length ≤ 140737488351232
  i0 : -9223372036854775808 ≤ p.id
  i1 : p.id ≤ 9223372036854775807
  n0 : -9223372036854775808 ≤ p.num
  n1 : p.num ≤ 9223372036854775807
theorem PC.below {w w' : World} {d : Value} {p : Pr} (h : PC w d p) (hb : Below w.heap.size w w') : PC w' d p := ⟨h.hd.below hb, h.ld, h.lt, h.lp, h.i0, h.i1, h.n0, h.n1⟩

/-- The five cells of a property at an offset of a block. -/
def P5 (w : World) (b o : Nat) (d : Value) (p : Pr) : Prop := w.cell? ⟨b, o, none⟩ = some (.int .i64 p.id) ∧ w.cell? ⟨b, o + 1, none⟩ = some (.int .i64 p.num) ∧ w.cell? ⟨b, o + 2, none⟩ = some (.string (str p.text)) ∧ w.cell? ⟨b, o + 3, none⟩ = some (.string (str p.pair)) ∧ w.cell? ⟨b, o + 4, none⟩ = some d
theorem P5.below {w w' : World} {b o : Nat} {d : Value} {p : Pr} (h : P5 w b o d p) (hb : Below w.heap.size w w') : P5 w' b o d p := ⟨cell_later hb h.1, cell_later hb h.2.1, cell_later hb h.2.2.1, cell_later hb h.2.2.2.1, cell_later hb h.2.2.2.2⟩

/-- The slice value v reads as the properties l. -/
def Ps (w : World) (v : Value) (l : List Pr) : Prop :=
  ∃ ad c, v = .slice ad l.length c ∧ l.length ≤ c ∧ c ≤ 9223372036854775807 ∧ (ad = none → c = 0) ∧
    (0 < l.length → ∃ b o, ad = some ⟨b, o, none⟩ ∧ ∀ (i : Nat) (h : i < l.length), ∃ d, P5 w b (o + i * 5) d l[i] ∧ PC w d l[i])
theorem Ps.below {w w' : World} {v : Value} {l : List Pr} (h : Ps w v l) (hb : Below w.heap.size w w') : Ps w' v l := by
  obtain ⟨ad, c, rfl, h1, h2, h3, h4⟩ := h
  refine ⟨ad, c, rfl, h1, h2, h3, fun h0 => ?_⟩
  obtain ⟨b, o, rfl, h5⟩ := h4 h0
  refine ⟨b, o, rfl, fun i hi => ?_⟩
  obtain ⟨d, h6, h7⟩ := h5 i hi
  exact ⟨d, h6.below hb, h7.below hb⟩

/-- The slice value v reads as the properties l, their data in an older world W. -/
def Pt (W w : World) (v : Value) (l : List Pr) : Prop :=
  ∃ ad c, v = .slice ad l.length c ∧ l.length ≤ c ∧ c ≤ 9223372036854775807 ∧ (ad = none → c = 0) ∧
    (0 < l.length → ∃ b o, ad = some ⟨b, o, none⟩ ∧ ∀ (i : Nat) (h : i < l.length), ∃ d, P5 w b (o + i * 5) d l[i] ∧ PC W d l[i])
theorem Pt.ps {W w : World} {v : Value} {l : List Pr} (h : Pt W w v l) (hb : Below W.heap.size W w) : Ps w v l := by
  obtain ⟨ad, c, rfl, h1, h2, h3, h4⟩ := h
  refine ⟨ad, c, rfl, h1, h2, h3, fun h0 => ?_⟩
  obtain ⟨b, o, rfl, h5⟩ := h4 h0
  refine ⟨b, o, rfl, fun i hi => ?_⟩
  obtain ⟨d, h6, h7⟩ := h5 i hi
  exact ⟨d, h6, h7.below hb⟩
theorem Ps.pt {w : World} {v : Value} {l : List Pr} (h : Ps w v l) : Pt w w v l := h
theorem Pt.below {W w w' : World} {v : Value} {l : List Pr} (h : Pt W w v l) (hb : Below w.heap.size w w') : Pt W w' v l := by
  obtain ⟨ad, c, rfl, h1, h2, h3, h4⟩ := h
  refine ⟨ad, c, rfl, h1, h2, h3, fun h0 => ?_⟩
  obtain ⟨b, o, rfl, h5⟩ := h4 h0
  refine ⟨b, o, rfl, fun i hi => ?_⟩
  obtain ⟨d, h6, h7⟩ := h5 i hi
  exact ⟨d, h6.below hb, h7⟩

/-- A property's five cells. -/
def pc (p : Value × Pr) : List Value := [.int .i64 p.2.id, .int .i64 p.2.num, .string (str p.2.text), .string (str p.2.pair), p.1]
def pcs (ds : List Value) (l : List Pr) : List Value := (ds.zip l).flatMap pc
theorem flat5 {α : Type} (f : α → List Value) (hf : ∀ x, (f x).length = 5) : ∀ (l : List α) (i j : Nat) (hi : i < l.length), j < 5 → (l.flatMap f)[i * 5 + j]? = (f l[i])[j]?
  | [], i, j, hi, hj => by simp at hi
  | x :: l, 0, j, hi, hj => by
    rw [List.flatMap_cons, Nat.zero_mul, Nat.zero_add, List.getElem?_append_left (by rw [hf]; omega)]
    rfl
  | x :: l, i + 1, j, hi, hj => by
    rw [List.flatMap_cons, List.getElem?_append_right (by rw [hf]; omega), hf, show (i + 1) * 5 + j - 5 = i * 5 + j by omega, flat5 f hf l i j (by simpa using hi) hj]
    rfl
theorem pcs_snoc (ds : List Value) (l : List Pr) (h : ds.length = l.length) (d : Value) (p : Pr) : pcs (ds ++ [d]) (l ++ [p]) = pcs ds l ++ [.int .i64 p.id, .int .i64 p.num, .string (str p.text), .string (str p.pair), d] := by
  unfold pcs
  rw [List.zip_append h, List.flatMap_append]
  rfl
theorem pcs_at (ds : List Value) (l : List Pr) (h : ds.length = l.length) (i : Nat) (hi : i < l.length) (j : Nat) (hj : j < 5) : (pcs ds l)[i * 5 + j]? = (pc (ds[i]'(by omega), l[i]))[j]? := by
  unfold pcs
  rw [flat5 pc (fun _ => rfl) (ds.zip l) i j (by rw [List.length_zip]; omega) hj, List.getElem_zip]

/-- Bounds of a property: the form's reach, int's range. -/
def PB (p : Pr) : Prop := p.data.length ≤ 140737488351232 ∧ p.text.length ≤ 140737488351232 ∧ p.pair.length ≤ 140737488351232 ∧ -9223372036854775808 ≤ p.id ∧ p.id ≤ 9223372036854775807 ∧ -9223372036854775808 ≤ p.num ∧ p.num ≤ 9223372036854775807

/-- The slice value v is a row of the call's own, from block B on: the properties l, their data the call's own too. -/
def PsO (w : World) (B : Nat) (v : Value) (l : List Pr) : Prop :=
  ∃ ds : List Value, ∃ _ : ds.length = l.length, w.ownsRow B 84 5 v l.length (pcs ds l) ∧ (∀ (i : Nat) (h : i < l.length), w.ownsRow B 5 1 (ds[i]'(by omega)) l[i].data.length (bv l[i].data)) ∧ ds.Pairwise Unlike
theorem PsO.nil (w : World) (B : Nat) : PsO w B (.slice none 0 0) [] := ⟨[], rfl, World.ownsRow_nil _ _ _ _, (fun i hi => by simp at hi), .nil⟩
theorem PsO.shape {w : World} {B : Nat} {v : Value} {l : List Pr} (h : PsO w B v l) : ∃ ad c, v = .slice ad l.length c := by
  obtain ⟨ds, _, h2, _⟩ := h
  exact owns_shape h2
theorem PsO.below {w w' : World} {B : Nat} {v : Value} {l : List Pr} (h : PsO w B v l) (hb : Below w.heap.size w w') : PsO w' B v l := by
  obtain ⟨ds, h1, h2, h3, h4⟩ := h
  exact ⟨ds, h1, owns_below h2 hb, fun i hi => owns_below (h3 i hi) hb, h4⟩
theorem PsO.mono {w : World} {B B' : Nat} {v : Value} {l : List Pr} (h : PsO w B v l) (hB : B' ≤ B) : PsO w B' v l := by
  obtain ⟨ds, h1, h2, h3, h4⟩ := h
  exact ⟨ds, h1, owns_mono h2 hB, fun i hi => owns_mono (h3 i hi) hB, h4⟩
theorem PsO.ps {w : World} {B : Nat} {v : Value} {l : List Pr} (h : PsO w B v l) (hb : ∀ p ∈ l, PB p) : Ps w v l := by
  obtain ⟨ds, h1, h2, h3, _⟩ := h
  obtain ⟨ad, c, rfl⟩ := owns_shape h2
  have hc := owns_cap h2
  unfold maxLen at hc
  refine ⟨ad, c, rfl, hc.1, by omega, owns_nil h2, fun h0 => ?_⟩
  obtain ⟨g, rfl⟩ := owns_head h2 h0
  refine ⟨g, 0, rfl, fun i hi => ?_⟩
  have hB := hb _ (List.getElem_mem hi)
  have hat : ∀ j, j < 5 → w.cell? ⟨g, 0 + i * 5 + j, none⟩ = (pc (ds[i]'(by omega), l[i]))[j]? := fun j hj => by
    rw [Nat.zero_add, ← pcs_at ds l h1 i hi j hj]
    exact h2.cellAt _ (by have : i * 5 + j < l.length * 5 := by omega
                          omega)
  have hd := h3 i hi
  obtain ⟨da, dc, hde⟩ := owns_shape hd
  refine ⟨_, ⟨hat 0 (by omega), hat 1 (by omega), hat 2 (by omega), hat 3 (by omega), hat 4 (by omega)⟩, ?_, hB.1, hB.2.1, hB.2.2.1, hB.2.2.2.1, hB.2.2.2.2.1, hB.2.2.2.2.2.1, hB.2.2.2.2.2.2⟩
  rw [hde] at hd
  show Bs w (ds[i]'(by omega)) l[i].data
  rw [hde]
  exact (bs_of_owns hd).2

theorem Keeps.grown5 {te B e size n c : Nat} {ad : Option Addr} {xs : List Value} {w w' : World} (ho : w.ownsRow B e size (.slice ad n c) n xs) (hg : w.grownBy w' (Value.slice ad n c).ownBlock) (he : te ≠ e) : Keeps te w w' := by
  intro base v m ys hy
  refine owns_grown hy hg fun k hk hc => ?_
  rcases ho.2 with ⟨hn, _⟩ | ⟨g, cap, cur, hv, _, hgb, _⟩
  · simp only [Value.slice.injEq] at hn
    obtain ⟨rfl, _, _⟩ := hn
    simp [Value.ownBlock] at hc
  · simp only [Value.slice.injEq] at hv
    obtain ⟨rfl, _, _⟩ := hv
    simp only [Value.ownBlock, Option.some.injEq] at hc
    subst hc
    exact own_block_ne hgb hy (fun h => he h.symm) hk

/-- One property more in a row of the call's own. -/
theorem PsO.push {w w' : World} {B : Nat} {v' d : Value} {l : List Pr} {p : Pr} {ds : List Value} (hl : ds.length = l.length) (heach : ∀ (i : Nat) (h : i < l.length), w.ownsRow B 5 1 (ds[i]'(by omega)) l[i].data.length (bv l[i].data))
    (hk : Keeps 5 w w') (hown : w'.ownsRow B 84 5 v' (l.length + 1) (pcs ds l ++ [.int .i64 p.id, .int .i64 p.num, .string (str p.text), .string (str p.pair), d])) (he : w.ownsRow B 5 1 d p.data.length (bv p.data)) (hap : ds.Pairwise Unlike) (hnew : ∀ v ∈ ds, Unlike v d) : PsO w' B v' (l ++ [p]) := by
  refine ⟨ds ++ [d], by simp [hl], ?_, fun i hi => ?_, ?_⟩
  · rw [pcs_snoc ds l hl]
    simpa using hown
  · simp only [List.length_append, List.length_cons, List.length_nil] at hi
    by_cases h : i < l.length
    · have h1 : (ds ++ [d])[i]'(by simp; omega) = ds[i]'(by omega) := List.getElem_append_left (by omega)
      have h2 : (l ++ [p])[i]'(by simp; omega) = l[i] := List.getElem_append_left h
      rw [h1, h2]
      exact hk _ _ _ _ (heach i h)
    · obtain rfl : i = l.length := by omega
      have h1 : (ds ++ [d])[l.length]'(by simp; omega) = d := by
        rw [List.getElem_append_right (by omega)]
        simp [hl]
      have h2 : (l ++ [p])[l.length]'(by simp) = p := by
        rw [List.getElem_append_right (by omega)]
        simp
      rw [h1, h2]
      exact hk _ _ _ _ he
  · rw [List.pairwise_append]
    refine ⟨hap, by simp, fun a ha b hb => ?_⟩
    obtain rfl := List.mem_singleton.1 hb
    exact hnew a ha
/-- The row stays under writes to a block below its own. -/
theorem PsO.far {w w' : World} {B g : Nat} {v : Value} {l : List Pr} (h : PsO w B v l) (hg : w.grownBy w' (some g)) (hgB : g < B) : PsO w' B v l := by
  obtain ⟨ds, h1, h2, h3, h4⟩ := h
  have key : ∀ {e size n : Nat} {u : Value} {xs : List Value}, w.ownsRow B e size u n xs → w'.ownsRow B e size u n xs := fun ho => owns_grown ho hg fun k hk hc => by
    have := (ho.lt k hk).1
    have := Option.some.inj hc
    omega
  exact ⟨ds, h1, key h2, fun i hi => key (h3 i hi), h4⟩
end Go.Proofs.Ytgimbocoamnkjaa
