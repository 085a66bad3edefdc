/- Properties: what they are, what a slice of them reads as, rows of the call's own. -/
import Derived.Test.YtgimbocoamnkjaaGreatDoorM02
import Derived.Deep.RegionHeld
import Derived.Deep.LoopGhost
import Derived.Test.YtgimbocoamnkjaaGreatDoorM03
import Derived.Deep.Slices
import Derived.Deep.RegionLaw
namespace Go.Proofs.YtgimbocoamnkjaaGreatDoor
open Go.RowKit

/-- A property. -/
structure Pr where
  id : Int
  num : Int
  text : List UInt8
  pair : List UInt8
  data : List UInt8
deriving DecidableEq
def zeroP : Pr := ⟨0, 0, [], [], []⟩


def samePr (p q : Pr) : Bool := p.id == q.id && (p.num == q.num && (p.text == q.text && (p.pair == q.pair && p.data == q.data)))
theorem samePr_iff (p q : Pr) : samePr p q = true ↔ p = q := by
  obtain ⟨a, b, c, d, e⟩ := p
  obtain ⟨a', b', c', d', e'⟩ := q
  simp only [samePr, Bool.and_eq_true, beq_iff_eq, Pr.mk.injEq]

def sameR (l m : List Pr) : Bool := decide (l = m)

theorem Tryz.info147 : (Tryz.prog.info? 147).map (fun i => (i.zero, i.size, i.bytes)) = some (some (.agg #[Value.int .i64 0, Value.int .i64 0, Value.string ⟨#[]⟩, Value.string ⟨#[]⟩, Value.slice none 0 0]), 5, 72) := by kernel_rfl
theorem pc_oneCell (a : Option Addr) (n c : Nat) {i j : Int} {s t : ByteArray} : ∀ u ∈ [Value.int .i64 i, Value.int .i64 j, Value.string s, Value.string t, Value.slice a n c], u.oneCell' = true := by
  intro u hu
  simp at hu
  rcases hu with rfl | rfl | rfl | rfl | rfl <;> rfl

/-- A property's data read so; all within the reach. -/
structure PC (w : World) (d : Value) (p : Pr) : Prop where
  hd : Bs w d p.data
  ld : p.data.length ≤ 140737488351232
  lt : p.text.length ≤ 140737488351232
  lp : p.pair.length ≤ 140737488351232
  i0 : -9223372036854775808 ≤ p.id
  i1 : p.id ≤ 9223372036854775807
  n0 : -9223372036854775808 ≤ p.num
  n1 : p.num ≤ 9223372036854775807
theorem PC.below {w w' : World} {d : Value} {p : Pr} (h : PC w d p) (hb : Below w.heap.size w w') : PC w' d p := ⟨h.hd.below hb, h.ld, h.lt, h.lp, h.i0, h.i1, h.n0, h.n1⟩

/-- The five cells of a property at an offset of a block. -/
def P5 (w : World) (b o : Nat) (d : Value) (p : Pr) : Prop := w.cell? ⟨b, o, none⟩ = some (.int .i64 p.id) ∧ w.cell? ⟨b, o + 1, none⟩ = some (.int .i64 p.num) ∧ w.cell? ⟨b, o + 2, none⟩ = some (.string (str p.text)) ∧ w.cell? ⟨b, o + 3, none⟩ = some (.string (str p.pair)) ∧ w.cell? ⟨b, o + 4, none⟩ = some d
theorem P5.below {w w' : World} {b o : Nat} {d : Value} {p : Pr} (h : P5 w b o d p) (hb : Below w.heap.size w w') : P5 w' b o d p := ⟨cell_later hb h.1, cell_later hb h.2.1, cell_later hb h.2.2.1, cell_later hb h.2.2.2.1, cell_later hb h.2.2.2.2⟩

/-- The slice value v reads as the properties l. -/
def Ps (w : World) (v : Value) (l : List Pr) : Prop :=
  ∃ ad c, v = .slice ad l.length c ∧ l.length ≤ c ∧ c ≤ 9223372036854775807 ∧ (ad = none → c = 0) ∧
    (0 < l.length → ∃ b o, ad = some ⟨b, o, none⟩ ∧ ∀ (i : Nat) (h : i < l.length), ∃ d, P5 w b (o + i * 5) d l[i] ∧ PC w d l[i])
theorem Ps.below {w w' : World} {v : Value} {l : List Pr} (h : Ps w v l) (hb : Below w.heap.size w w') : Ps w' v l := by
  obtain ⟨ad, c, rfl, h1, h2, h3, h4⟩ := h
  refine ⟨ad, c, rfl, h1, h2, h3, fun h0 => ?_⟩
  obtain ⟨b, o, rfl, h5⟩ := h4 h0
  refine ⟨b, o, rfl, fun i hi => ?_⟩
  obtain ⟨d, h6, h7⟩ := h5 i hi
  exact ⟨d, h6.below hb, h7.below hb⟩

/-- The slice value v reads as the properties l, their data in an older world W. -/
def Pt (W w : World) (v : Value) (l : List Pr) : Prop :=
  ∃ ad c, v = .slice ad l.length c ∧ l.length ≤ c ∧ c ≤ 9223372036854775807 ∧ (ad = none → c = 0) ∧
    (0 < l.length → ∃ b o, ad = some ⟨b, o, none⟩ ∧ ∀ (i : Nat) (h : i < l.length), ∃ d, P5 w b (o + i * 5) d l[i] ∧ PC W d l[i])
theorem Pt.ps {W w : World} {v : Value} {l : List Pr} (h : Pt W w v l) (hb : Below W.heap.size W w) : Ps w v l := by
  obtain ⟨ad, c, rfl, h1, h2, h3, h4⟩ := h
  refine ⟨ad, c, rfl, h1, h2, h3, fun h0 => ?_⟩
  obtain ⟨b, o, rfl, h5⟩ := h4 h0
  refine ⟨b, o, rfl, fun i hi => ?_⟩
  obtain ⟨d, h6, h7⟩ := h5 i hi
  exact ⟨d, h6, h7.below hb⟩
theorem Ps.pt {w : World} {v : Value} {l : List Pr} (h : Ps w v l) : Pt w w v l := h
theorem Pt.below {W w w' : World} {v : Value} {l : List Pr} (h : Pt W w v l) (hb : Below w.heap.size w w') : Pt W w' v l := by
  obtain ⟨ad, c, rfl, h1, h2, h3, h4⟩ := h
  refine ⟨ad, c, rfl, h1, h2, h3, fun h0 => ?_⟩
  obtain ⟨b, o, rfl, h5⟩ := h4 h0
  refine ⟨b, o, rfl, fun i hi => ?_⟩
  obtain ⟨d, h6, h7⟩ := h5 i hi
  exact ⟨d, h6.below hb, h7⟩

/-- A property's five cells. -/
def pc (p : Value × Pr) : List Value := [.int .i64 p.2.id, .int .i64 p.2.num, .string (str p.2.text), .string (str p.2.pair), p.1]
def pcs (ds : List Value) (l : List Pr) : List Value := (ds.zip l).flatMap pc
theorem flat5 {α : Type} (f : α → List Value) (hf : ∀ x, (f x).length = 5) : ∀ (l : List α) (i j : Nat) (hi : i < l.length), j < 5 → (l.flatMap f)[i * 5 + j]? = (f l[i])[j]?
  | [], i, j, hi, hj => by simp at hi
  | x :: l, 0, j, hi, hj => by
    rw [List.flatMap_cons, Nat.zero_mul, Nat.zero_add, List.getElem?_append_left (by rw [hf]; omega)]
    rfl
  | x :: l, i + 1, j, hi, hj => by
    rw [List.flatMap_cons, List.getElem?_append_right (by rw [hf]; omega), hf, show (i + 1) * 5 + j - 5 = i * 5 + j by omega, flat5 f hf l i j (by simpa using hi) hj]
    rfl
theorem pcs_snoc (ds : List Value) (l : List Pr) (h : ds.length = l.length) (d : Value) (p : Pr) : pcs (ds ++ [d]) (l ++ [p]) = pcs ds l ++ [.int .i64 p.id, .int .i64 p.num, .string (str p.text), .string (str p.pair), d] := by
  unfold pcs
  rw [List.zip_append h, List.flatMap_append]
  rfl
theorem pcs_at (ds : List Value) (l : List Pr) (h : ds.length = l.length) (i : Nat) (hi : i < l.length) (j : Nat) (hj : j < 5) : (pcs ds l)[i * 5 + j]? = (pc (ds[i]'(by omega), l[i]))[j]? := by
  unfold pcs
  rw [flat5 pc (fun _ => rfl) (ds.zip l) i j (by rw [List.length_zip]; omega) hj, List.getElem_zip]

/-- Bounds of a property: the form's reach, int's range. -/
def PB (p : Pr) : Prop := p.data.length ≤ 140737488351232 ∧ p.text.length ≤ 140737488351232 ∧ p.pair.length ≤ 140737488351232 ∧ -9223372036854775808 ≤ p.id ∧ p.id ≤ 9223372036854775807 ∧ -9223372036854775808 ≤ p.num ∧ p.num ≤ 9223372036854775807

/-- The slice value v is a row of the call's own, from block B on: the properties l, their data the call's own too. -/
def PsO (w : World) (B : Nat) (v : Value) (l : List Pr) : Prop :=
  ∃ ds : List Value, ∃ _ : ds.length = l.length, w.ownsRow B 147 5 v l.length (pcs ds l) ∧ (∀ (i : Nat) (h : i < l.length), w.ownsRow B 5 1 (ds[i]'(by omega)) l[i].data.length (bv l[i].data)) ∧ ds.Pairwise Unlike
theorem PsO.nil (w : World) (B : Nat) : PsO w B (.slice none 0 0) [] := ⟨[], rfl, World.ownsRow_nil _ _ _ _, (fun i hi => by simp at hi), .nil⟩
theorem PsO.shape {w : World} {B : Nat} {v : Value} {l : List Pr} (h : PsO w B v l) : ∃ ad c, v = .slice ad l.length c := by
  obtain ⟨ds, _, h2, _⟩ := h
  exact owns_shape h2
theorem PsO.below {w w' : World} {B : Nat} {v : Value} {l : List Pr} (h : PsO w B v l) (hb : Below w.heap.size w w') : PsO w' B v l := by
  obtain ⟨ds, h1, h2, h3, h4⟩ := h
  exact ⟨ds, h1, owns_below h2 hb, fun i hi => owns_below (h3 i hi) hb, h4⟩
theorem PsO.mono {w : World} {B B' : Nat} {v : Value} {l : List Pr} (h : PsO w B v l) (hB : B' ≤ B) : PsO w B' v l := by
  obtain ⟨ds, h1, h2, h3, h4⟩ := h
  exact ⟨ds, h1, owns_mono h2 hB, fun i hi => owns_mono (h3 i hi) hB, h4⟩
theorem PsO.ps {w : World} {B : Nat} {v : Value} {l : List Pr} (h : PsO w B v l) (hb : ∀ p ∈ l, PB p) : Ps w v l := by
  obtain ⟨ds, h1, h2, h3, _⟩ := h
  obtain ⟨ad, c, rfl⟩ := owns_shape h2
  have hc := owns_cap h2
  unfold maxLen at hc
  refine ⟨ad, c, rfl, hc.1, by omega, owns_nil h2, fun h0 => ?_⟩
  obtain ⟨g, rfl⟩ := owns_head h2 h0
  refine ⟨g, 0, rfl, fun i hi => ?_⟩
  have hB := hb _ (List.getElem_mem hi)
  have hat : ∀ j, j < 5 → w.cell? ⟨g, 0 + i * 5 + j, none⟩ = (pc (ds[i]'(by omega), l[i]))[j]? := fun j hj => by
    rw [Nat.zero_add, ← pcs_at ds l h1 i hi j hj]
    exact h2.cellAt _ (by have : i * 5 + j < l.length * 5 := by omega
                          omega)
  have hd := h3 i hi
  obtain ⟨da, dc, hde⟩ := owns_shape hd
  refine ⟨_, ⟨hat 0 (by omega), hat 1 (by omega), hat 2 (by omega), hat 3 (by omega), hat 4 (by omega)⟩, ?_, hB.1, hB.2.1, hB.2.2.1, hB.2.2.2.1, hB.2.2.2.2.1, hB.2.2.2.2.2.1, hB.2.2.2.2.2.2⟩
  rw [hde] at hd
  show Bs w (ds[i]'(by omega)) l[i].data
  rw [hde]
  exact (bs_of_owns hd).2

theorem Keeps.grown5 {te B e size n c : Nat} {ad : Option Addr} {xs : List Value} {w w' : World} (ho : w.ownsRow B e size (.slice ad n c) n xs) (hg : w.grownBy w' (Value.slice ad n c).ownBlock) (he : te ≠ e) : Keeps te w w' := by
  intro base v m ys hy
  refine owns_grown hy hg fun k hk hc => ?_
  rcases ho.2 with ⟨hn, _⟩ | ⟨g, cap, cur, hv, _, hgb, _⟩
  · simp only [Value.slice.injEq] at hn
    obtain ⟨rfl, _, _⟩ := hn
    simp [Value.ownBlock] at hc
  · simp only [Value.slice.injEq] at hv
    obtain ⟨rfl, _, _⟩ := hv
    simp only [Value.ownBlock, Option.some.injEq] at hc
    subst hc
    exact own_block_ne hgb hy (fun h => he h.symm) hk

/-- One property more in a row of the call's own. -/
theorem PsO.push {w w' : World} {B : Nat} {v' d : Value} {l : List Pr} {p : Pr} {ds : List Value} (hl : ds.length = l.length) (heach : ∀ (i : Nat) (h : i < l.length), w.ownsRow B 5 1 (ds[i]'(by omega)) l[i].data.length (bv l[i].data))
    (hk : Keeps 5 w w') (hown : w'.ownsRow B 147 5 v' (l.length + 1) (pcs ds l ++ [.int .i64 p.id, .int .i64 p.num, .string (str p.text), .string (str p.pair), d])) (he : w.ownsRow B 5 1 d p.data.length (bv p.data)) (hap : ds.Pairwise Unlike) (hnew : ∀ v ∈ ds, Unlike v d) : PsO w' B v' (l ++ [p]) := by
  refine ⟨ds ++ [d], by simp [hl], ?_, fun i hi => ?_, ?_⟩
  · rw [pcs_snoc ds l hl]
    simpa using hown
  · simp only [List.length_append, List.length_cons, List.length_nil] at hi
    by_cases h : i < l.length
    · have h1 : (ds ++ [d])[i]'(by simp; omega) = ds[i]'(by omega) := List.getElem_append_left (by omega)
      have h2 : (l ++ [p])[i]'(by simp; omega) = l[i] := List.getElem_append_left h
      rw [h1, h2]
      exact hk _ _ _ _ (heach i h)
    · obtain rfl : i = l.length := by omega
      have h1 : (ds ++ [d])[l.length]'(by simp; omega) = d := by
        rw [List.getElem_append_right (by omega)]
        simp [hl]
      have h2 : (l ++ [p])[l.length]'(by simp) = p := by
        rw [List.getElem_append_right (by omega)]
        simp
      rw [h1, h2]
      exact hk _ _ _ _ he
  · rw [List.pairwise_append]
    refine ⟨hap, by simp, fun a ha b hb => ?_⟩
    obtain rfl := List.mem_singleton.1 hb
    exact hnew a ha
/-- The row stays under writes to a block below its own. -/
theorem PsO.far {w w' : World} {B g : Nat} {v : Value} {l : List Pr} (h : PsO w B v l) (hg : w.grownBy w' (some g)) (hgB : g < B) : PsO w' B v l := by
  obtain ⟨ds, h1, h2, h3, h4⟩ := h
  have key : ∀ {e size n : Nat} {u : Value} {xs : List Value}, w.ownsRow B e size u n xs → w'.ownsRow B e size u n xs := fun ho => owns_grown ho hg fun k hk hc => by
    have := (ho.lt k hk).1
    have := Option.some.inj hc
    omega
  exact ⟨ds, h1, key h2, fun i hi => key (h3 i hi), h4⟩
end Go.Proofs.YtgimbocoamnkjaaGreatDoor

/- Slices of numbers, as they read. -/
namespace Go.Proofs.YtgimbocoamnkjaaGreatDoor
open Go.RowKit

def iv (l : List Int) : List Value := l.map fun x => Value.int .i64 x
/-- The slice value v reads as the numbers l. -/
def Is (w : World) (v : Value) (l : List Int) : Prop :=
  ∃ ad c, v = .slice ad l.length c ∧ Rd w 1 ad l.length (l.map fun x => Value.int .i64 x) ∧ l.length ≤ c ∧ c ≤ 9223372036854775807 ∧ (ad = none → c = 0)
theorem Is.below {w w' : World} {v : Value} {l : List Int} (h : Is w v l) (hb : Below w.heap.size w w') : Is w' v l := by
  obtain ⟨ad, c, rfl, hr, h1, h2, h3⟩ := h
  exact ⟨ad, c, rfl, hr.below hb, h1, h2, h3⟩
theorem Is.at {w : World} {ad : Option Addr} {n c : Nat} {l : List Int} (h : Is w (.slice ad n c) l) (k : Nat) (hk : k < l.length) : ∃ b o, ad = some ⟨b, o, none⟩ ∧ w.cell? ⟨b, o + k, none⟩ = some (.int .i64 l[k]) := by
  obtain ⟨ad', c', e, hr, h1, h2, h3⟩ := h
  simp only [Value.slice.injEq] at e
  obtain ⟨rfl, rfl, rfl⟩ := e
  obtain ⟨b, o, rfl, hc⟩ := hr.2 (by omega)
  refine ⟨b, o, rfl, ?_⟩
  rw [hc k (by omega)]
  simp [hk]

theorem Is.len {w : World} {v : Value} {l : List Int} (h : Is w v l) : l.length ≤ 9223372036854775807 := by
  obtain ⟨ad, c, _, _, h1, h2, _⟩ := h
  omega
theorem Is.take {w : World} {a : Option Addr} {n c j : Nat} {l : List Int} (h : Is w (.slice a n c) l) (hj : j ≤ l.length) : Is w (.slice a j c) (l.take j) := by
  obtain ⟨ad, c', e, h1, h2, h3, h4⟩ := h
  simp only [Value.slice.injEq] at e
  obtain ⟨rfl, rfl, rfl⟩ := e
  have hl : (l.take j).length = j := by rw [List.length_take]; omega
  refine ⟨a, c, by rw [hl], ?_, by omega, h3, h4⟩
  rw [hl]
  have := rd_take h1 hj
  rwa [← List.map_take] at this
theorem is_of_owns {w : World} {B n c : Nat} {ad : Option Addr} {L : List Int} (h : w.ownsRow B 3 1 (.slice ad n c) n (iv L)) (hn : L.length = n) : Is w (.slice ad n c) L := by
  have hc := owns_cap h
  unfold maxLen at hc
  subst hn
  exact ⟨ad, c, rfl, rd_of_owns h, hc.1, by omega, owns_nil h⟩
end Go.Proofs.YtgimbocoamnkjaaGreatDoor

/- slices.Clone at numbers and at properties, walked. -/
namespace Go.Proofs.YtgimbocoamnkjaaGreatDoor
open Go.RowKit

theorem infoI : (Tryz.prog.info? 3).map (fun i => (i.zero, i.size, i.bytes)) = some (some (.int .i64 0), 1, 8) := by kernel_rfl
theorem iv_length (l : List Int) : (iv l).length = l.length := by simp [iv]
theorem iv_oneCell (l : List Int) : ∀ u ∈ iv l, u.oneCell' = true := by
  intro u hu
  obtain ⟨_, _, rfl⟩ := List.mem_map.1 hu
  rfl
/-- The values ds read as the data of the properties l, one by one. -/
def Pds (w : World) (ds : List Value) (l : List Pr) : Prop := ds.length = l.length ∧ ∀ (i : Nat) (d : Value) (p : Pr), ds[i]? = some d → l[i]? = some p → PC w d p
theorem Pds.below {w w' : World} {ds : List Value} {l : List Pr} (h : Pds w ds l) (hb : Below w.heap.size w w') : Pds w' ds l := ⟨h.1, fun i d p h1 h2 => (h.2 i d p h1 h2).below hb⟩
theorem Pt.rd {W w : World} {v : Value} {l : List Pr} (h : Pt W w v l) : ∃ (ad : Option Addr) (c : Nat) (ds : List Value), v = .slice ad l.length c ∧ l.length ≤ c ∧ c ≤ 9223372036854775807 ∧ (ad = none → c = 0) ∧ Rd w 5 ad l.length (pcs ds l) ∧ Pds W ds l := by
  obtain ⟨ad, c, rfl, h1, h2, h3, h4⟩ := h
  by_cases h0 : 0 < l.length
  · obtain ⟨b, o, rfl, h5⟩ := h4 h0
    have hex : ∀ i, i < l.length → ∃ d, ∃ p, l[i]? = some p ∧ P5 w b (o + i * 5) d p ∧ PC W d p := fun i hi => by
      obtain ⟨d, h6, h7⟩ := h5 i hi
      exact ⟨d, l[i], List.getElem?_eq_getElem hi, h6, h7⟩
    have : Inhabited Value := ⟨undef⟩
    obtain ⟨f, hf⟩ := Go.Deep.choose_lt (n := l.length) (p := fun i d => ∃ p, l[i]? = some p ∧ P5 w b (o + i * 5) d p ∧ PC W d p) hex
    have hl : ((List.range l.length).map f).length = l.length := by simp
    refine ⟨_, _, (List.range l.length).map f, rfl, h1, h2, h3, ⟨?_, fun _ => ⟨b, o, rfl, fun j hj => ?_⟩⟩, hl, fun i d0 p0 hd0 hp0 => ?_⟩
    · unfold pcs
      rw [List.length_flatMap]
      have : ((((List.range l.length).map f).zip l).map fun a => (pc a).length) = List.replicate l.length 5 := by
        apply List.ext_getElem
        · simp
        · intro i q1 q2
          simp [pc]
      rw [this]
      simp
    · have hi : j / 5 < l.length := by omega
      obtain ⟨p, hp, h6, _⟩ := hf (j / 5) hi
      rw [List.getElem?_eq_getElem hi] at hp
      obtain rfl := Option.some.inj hp
      have hat := pcs_at ((List.range l.length).map f) l hl (j / 5) hi (j % 5) (by omega)
      rw [show j / 5 * 5 + j % 5 = j by omega] at hat
      rw [hat]
      have e : ((List.range l.length).map f)[j / 5]'(by rw [hl]; exact hi) = f (j / 5) := by simp
      rw [e]
      have hm : j % 5 < 5 := Nat.mod_lt _ (by omega)
      have he : j = j / 5 * 5 + j % 5 := by omega
      obtain ⟨q, hq⟩ : ∃ q, j % 5 = q := ⟨_, rfl⟩
      rw [hq] at hm he ⊢
      rw [show o + j = o + j / 5 * 5 + q by omega]
      match q, hm with
      | 0, _ => exact h6.1
      | 1, _ => exact h6.2.1
      | 2, _ => exact h6.2.2.1
      | 3, _ => exact h6.2.2.2.1
      | 4, _ => exact h6.2.2.2.2
    · have hi := (List.getElem?_eq_some_iff.1 hp0).1
      obtain ⟨p, hp, _, h7⟩ := hf i hi
      rw [hp0] at hp
      obtain rfl := Option.some.inj hp
      have e : ((List.range l.length).map f)[i]? = some (f i) := by simp [hi]
      rw [e] at hd0
      obtain rfl := Option.some.inj hd0
      exact h7
  · have h0' : l = [] := List.eq_nil_of_length_eq_zero (by omega)
    subst h0'
    exact ⟨ad, c, [], rfl, h1, h2, h3, Rd.nil _ _ _, rfl, fun i d p hd hp => by simp at hp⟩
theorem pcs_oneCell {w : World} {ds : List Value} {l : List Pr} (h : Pds w ds l) : ∀ u ∈ pcs ds l, u.oneCell' = true := by
  intro u hu
  unfold pcs at hu
  obtain ⟨x, hx, hux⟩ := List.mem_flatMap.1 hu
  obtain ⟨i, hi, rfl⟩ := List.getElem_of_mem hx
  have hil : i < l.length := by rw [List.length_zip] at hi; omega
  have hid : i < ds.length := by rw [List.length_zip] at hi; omega
  obtain ⟨a, c, e, _⟩ := (h.2 i _ _ (List.getElem?_eq_getElem hid) (List.getElem?_eq_getElem hil)).hd
  rw [List.getElem_zip, e] at hux
  simp only [pc, List.mem_cons, List.not_mem_nil, or_false] at hux
  rcases hux with rfl | rfl | rfl | rfl | rfl <;> rfl

set_option maxRecDepth 100000 in
set_option maxHeartbeats 800000 in
theorem clonei_any (v : Value) (l : List Int) (w : World) (hv : Is w v l) (hl : l.length ≤ 1000000) (R : Ending → World → Prop)
    (hR : ∀ ad c w', w'.ownsRow w.heap.size 3 1 (.slice ad l.length c) l.length (iv l) → Below w.heap.size w w' → R (.returned (.slice ad l.length c)) w') :
    Calls Tryz.prog 102 #[v] w R := by
  obtain ⟨ad, c, rfl, hr, h1, h2, h3⟩ := hv
  cases ad with
  | none =>
    have hc : c = 0 := h3 rfl
    subst hc
    have hl0 : l = [] := List.eq_nil_of_length_eq_zero (by omega)
    subst hl0
    have he : ∀ w : World, (binOp .eql 25 (.slice none 0 0) (.slice none 0 0)).run Tryz.prog w = .ok (.bool true) w := fun _ => rfl
    go_enter Tryz.func102, Tryz.ntmps102
    go_wp2
    exact hR _ _ _ (World.ownsRow_nil _ _ _ _) (Below.refl _ _)
  | some a =>
    have he : ∀ w : World, (binOp .eql 25 (.slice (some a) l.length c) (.slice none 0 0)).run Tryz.prog w = .ok (.bool false) w := fun _ => rfl
    have hown := (World.ownsRow_made (base := w.heap.size) (e := 3) (size := 1) w #[] 0 (Nat.le_refl _) (by unfold maxLen; omega) rfl)
    have hr1 := rd_alloc hr (.cells #[] 3)
    go_enter Tryz.func102, Tryz.ntmps102
    go_wp2_with (at_builtin; go_must (refine wpList_app (by rfl) (.tmp 5) (.tmp 6) 25 (by rfl) w.heap.size 3 (.int .i64 0) 1 8 Tryz.underlying25 infoI rfl (by decide) _ _ _ _ rfl hown _ _ _ _ rfl hr1 (iv_oneCell _) h3 (by unfold maxLen; omega) (by omega) (by simp) ?_))
    intro ad2 c2 w2 hown2 hg2
    have hb2 := below_app ((Below.refl w.heap.size w).alloc (Nat.le_refl _) _) hg2 (by simp) hown
    clear hg2 hown hr1 hr
    go_wp2
    exact hR _ _ _ hown2 hb2

set_option maxRecDepth 100000 in
set_option maxHeartbeats 800000 in
theorem clonep_any (v : Value) (l : List Pr) (W w : World) (hv : Pt W w v l) (hl : l.length ≤ 1000000) (R : Ending → World → Prop)
    (hR : ∀ ad c (ds : List Value) w', w'.ownsRow w.heap.size 147 5 (.slice ad l.length c) l.length (pcs ds l) → Pds W ds l → Below w.heap.size w w' → R (.returned (.slice ad l.length c)) w') :
    Calls Tryz.prog 140 #[v] w R := by
  obtain ⟨ad, c, ds, rfl, h1, h2, h3, hr, hd⟩ := hv.rd
  have HE := Lib.hid hd
  have HR := Lib.hid hR
  clear hR hv hd
  cases ad with
  | none =>
    have hc : c = 0 := h3 rfl
    subst hc
    have hl0 : l = [] := List.eq_nil_of_length_eq_zero (by omega)
    subst hl0
    have hds : ds = [] := List.eq_nil_of_length_eq_zero (by have := HE.out.1; simpa using this)
    subst hds
    have he : ∀ w : World, (binOp .eql 32 (.slice none 0 0) (.slice none 0 0)).run Tryz.prog w = .ok (.bool true) w := fun _ => rfl
    go_enter Tryz.func140, Tryz.ntmps140
    go_wp2
    exact HR.out none 0 [] _ (World.ownsRow_nil _ _ _ _) HE.out (Below.refl _ _)
  | some a =>
    have he : ∀ w : World, (binOp .eql 32 (.slice (some a) l.length c) (.slice none 0 0)).run Tryz.prog w = .ok (.bool false) w := fun _ => rfl
    have hown := (World.ownsRow_made (base := w.heap.size) (e := 147) (size := 5) w #[] 0 (Nat.le_refl _) (by unfold maxLen; omega) rfl)
    have hr1 := rd_alloc hr (.cells #[] 147)
    have HOC := Lib.hid (pcs_oneCell HE.out)
    go_enter Tryz.func140, Tryz.ntmps140
    go_wp2_with (at_builtin; go_must (refine wpList_app (by rfl) (.tmp 5) (.tmp 6) 32 (by rfl) w.heap.size 147 (.agg #[.int .i64 0, .int .i64 0, .string ⟨#[]⟩, .string ⟨#[]⟩, .slice none 0 0]) 5 72 Tryz.underlying32 Tryz.info147 rfl (by decide) _ _ _ _ rfl hown _ _ _ _ rfl hr1 HOC.out h3 (by unfold maxLen; omega) (by omega) (by simp) ?_))
    intro ad2 c2 w2 hown2 hg2
    have hb2 := below_app ((Below.refl w.heap.size w).alloc (Nat.le_refl _) _) hg2 (by simp) hown
    have HB2 := Lib.hid hb2
    have HO2 := Lib.hid hown2
    clear hg2 hown hr1 hr hown2 hb2
    go_wp2
    exact HR.out _ _ ds _ (by have := HO2.out; simpa using this) HE.out HB2.out
end Go.Proofs.YtgimbocoamnkjaaGreatDoor

/- What stays while a few blocks are written over: facts that lean on other blocks alone. -/
namespace Go.Proofs.YtgimbocoamnkjaaGreatDoor
open Go.RowKit

/-- w' is w but for the blocks of M (of those that w had) and for new ones; M' are the blocks that may be written from then on. -/
structure Sep (M M' : Nat → Prop) (w w' : World) : Prop where
  os : w'.os = w.os
  tape : w'.tape = w.tape
  output : w'.output = w.output
  size : w.heap.size ≤ w'.heap.size
  block : ∀ b, b < w.heap.size → ¬ M b → w'.heap[b]? = w.heap[b]?
  new : ∀ b, M' b → M b ∨ w.heap.size ≤ b
theorem Sep.refl (M : Nat → Prop) (w : World) : Sep M M w w := ⟨rfl, rfl, rfl, Nat.le_refl _, fun _ _ _ => rfl, fun _ h => .inl h⟩
theorem Sep.trans {M M' M'' : Nat → Prop} {a b c : World} (h : Sep M M' a b) (k : Sep M' M'' b c) : Sep M M'' a c :=
  ⟨k.os.trans h.os, k.tape.trans h.tape, k.output.trans h.output, Nat.le_trans h.size k.size,
    fun i hi hM => (k.block i (Nat.lt_of_lt_of_le hi h.size) (fun hm => by
      rcases h.new i hm with h1 | h1
      · exact hM h1
      · omega)).trans (h.block i hi hM),
    fun i hi => by
      rcases k.new i hi with h1 | h1
      · exact h.new i h1
      · have := h.size
        exact .inr (by omega)⟩
theorem Sep.of_below {M : Nat → Prop} {w w' : World} (h : Below w.heap.size w w') : Sep M M w w' := ⟨h.os, h.tape, h.output, h.size, fun b hb _ => h.block b hb, fun _ h => .inl h⟩
theorem Sep.below {M M' : Nat → Prop} {a w w' : World} (h : Sep M M' a w) (hb : Below w.heap.size w w') : Sep M M' a w' := h.trans (.of_below hb)
theorem Sep.of_grown {M : Nat → Prop} {w w' : World} {row : Option Nat} (h : w.grownBy w' row) (hr : ∀ k, row = some k → M k) : Sep M M w w' :=
  ⟨h.os, h.tape, h.output, h.size, fun b hb hM => h.block b hb (fun e => hM (hr b e.symm)), fun _ h => .inl h⟩
theorem Sep.grown {M M' : Nat → Prop} {a w w' : World} {row : Option Nat} (h : Sep M M' a w) (hg : w.grownBy w' row) (hr : ∀ k, row = some k → M' k) : Sep M M' a w' := h.trans (.of_grown hg hr)
/-- More blocks are held to be writable: new ones. -/
theorem Sep.more {M M' M'' : Nat → Prop} {w w' : World} (h : Sep M M' w w') (hm : ∀ b, M'' b → M' b ∨ w.heap.size ≤ b) : Sep M M'' w w' :=
  ⟨h.os, h.tape, h.output, h.size, h.block, fun b hb => by
    rcases hm b hb with h1 | h1
    · exact h.new b h1
    · exact .inr h1⟩
theorem Sep.low {M M' : Nat → Prop} {B : Nat} {w w' : World} (h : Sep M M' w w') (hB : B ≤ w.heap.size) (hM : ∀ b, M b → B ≤ b) : Below B w w' :=
  ⟨h.os, h.tape, h.output, h.size, fun k hk => h.block k (by omega) (fun hm => by have := hM k hm; omega)⟩

/-- p holds in w, and goes on to hold while none but the blocks of M is written. -/
def Safe (M : Nat → Prop) (w : World) (p : World → Prop) : Prop := ∀ M' w', Sep M M' w w' → p w'
theorem Safe.out {M : Nat → Prop} {w : World} {p : World → Prop} (h : Safe M w p) : p w := h M w (.refl M w)
theorem Safe.sep {M M' : Nat → Prop} {w w' : World} {p : World → Prop} (h : Safe M w p) (hs : Sep M M' w w') : Safe M' w' p := fun M'' w'' k => h M'' w'' (hs.trans k)
theorem Safe.below {M : Nat → Prop} {w w' : World} {p : World → Prop} (h : Safe M w p) (hb : Below w.heap.size w w') : Safe M w' p := h.sep (.of_below hb)
theorem Safe.imp {M : Nat → Prop} {w : World} {p q : World → Prop} (h : Safe M w p) (hi : ∀ x, p x → q x) : Safe M w q := fun M' w' k => hi w' (h M' w' k)
theorem Safe.and {M : Nat → Prop} {w : World} {p q : World → Prop} (h : Safe M w p) (k : Safe M w q) : Safe M w fun x => p x ∧ q x := fun M' w' s => ⟨h M' w' s, k M' w' s⟩
/-- Fewer blocks are writable. -/
theorem Safe.less {M M' : Nat → Prop} {w : World} {p : World → Prop} (h : Safe M w p) (hM : ∀ b, M' b → M b) : Safe M' w p := fun M'' w' k =>
  h M'' w' ⟨k.os, k.tape, k.output, k.size, fun b hb hn => k.block b hb (fun hm => hn (hM b hm)), fun b hb => (k.new b hb).imp (hM b) id⟩
/-- What memory below B says, where only blocks from B on may be written. -/
theorem Safe.low {M : Nat → Prop} {B : Nat} {W w : World} {p : World → Prop} (h : ∀ x, Below B W x → p x) (hb : Below B W w) (hB : B ≤ w.heap.size) (hM : ∀ b, M b → B ≤ b) : Safe M w p :=
  fun _ w' k => h w' (hb.trans (k.low hB hM))

theorem owns_safe {M : Nat → Prop} {w : World} {base e size n : Nat} {v : Value} {xs : List Value} (h : w.ownsRow base e size v n xs) (hv : ∀ k, v.ownBlock = some k → ¬ M k) : Safe M w fun x => x.ownsRow base e size v n xs := fun M' w' s => by
  refine ⟨h.1, ?_⟩
  rcases h.2 with hn | ⟨g, cap, cur, rfl, hbg, hg, rest⟩
  · exact .inl hn
  · refine .inr ⟨g, cap, cur, rfl, hbg, ?_, rest⟩
    rw [s.block g (Array.getElem?_eq_some_iff.1 hg).1 (hv g rfl)]
    exact hg
/-- A row that a callee made behind w lies in none of the writable blocks that w had. -/
theorem owns_fresh {M : Nat → Prop} {w w' : World} {e size n : Nat} {v : Value} {xs : List Value} (h : w'.ownsRow w.heap.size e size v n xs) (hM : ∀ b, M b → b < w.heap.size) : Safe M w' fun x => x.ownsRow w.heap.size e size v n xs :=
  owns_safe h fun k hk hm => by
    have := (h.lt k hk).1
    have := hM k hm
    omega
theorem block_safe {M : Nat → Prop} {w : World} {g : Nat} {o : Obj} (h : w.heap[g]? = some o) (hM : ¬ M g) : Safe M w fun x => x.heap[g]? = some o := fun M' w' s => by
  show w'.heap[g]? = some o
  rw [s.block g (Array.getElem?_eq_some_iff.1 h).1 hM]
  exact h
end Go.Proofs.YtgimbocoamnkjaaGreatDoor

/- Messages and items: what they are, how they lie in memory; note.Copy, walked. -/
namespace Go.Proofs.YtgimbocoamnkjaaGreatDoor
open Go.RowKit

/-- A message. -/
structure Nt where
  topic : List UInt8
  payload : List UInt8
  qos : Int
  retain : Bool
  src : List UInt8
  expires : Int
  props : List Pr
  origin : Int
  number : Int
  hops : Int
deriving DecidableEq
/-- A message's ten cells. -/
def ntC (pv qv : Value) (x : Nt) : List Value := [.string (str x.topic), pv, .int .i64 x.qos, .bool x.retain, .string (str x.src), .int .i64 x.expires, qv, .int .i64 x.origin, .int .i64 x.number, .int .i64 x.hops]
theorem ntC_def (pv qv : Value) (x : Nt) : ntC pv qv x = [.string (str x.topic), pv, .int .i64 x.qos, .bool x.retain, .string (str x.src), .int .i64 x.expires, qv, .int .i64 x.origin, .int .i64 x.number, .int .i64 x.hops] := rfl
/-- Sizes within reach. -/
structure NtB (x : Nt) : Prop where
  t : x.topic.length ≤ 100000
  p : x.payload.length ≤ 100000
  s : x.src.length ≤ 100000
  l : x.props.length ≤ 100000
  e : ∀ p ∈ x.props, PB p
  q : -9223372036854775808 ≤ x.qos ∧ x.qos ≤ 9223372036854775807

/-- What writes into a block of another type turns no owned row. -/
theorem owns_typed {w w' : World} {B e size n K t : Nat} {fr : Nat × Nat} {cs : Array Value} {v : Value} {xs : List Value} (h : w.ownsRow B e size v n xs) (hK : w.heap[K]? = some (.cells cs t fr)) (ht : t ≠ e) (hg : w.grownBy w' (some K)) : w'.ownsRow B e size v n xs :=
  owns_grown h hg fun k hk hc => own_block_ne hK h ht (by rw [hk, hc])
theorem PsO.typed {w w' : World} {B K t : Nat} {fr : Nat × Nat} {cs : Array Value} {v : Value} {l : List Pr} (h : PsO w B v l) (hK : w.heap[K]? = some (.cells cs t fr)) (h1 : t ≠ 147) (h2 : t ≠ 5) (hg : w.grownBy w' (some K)) : PsO w' B v l := by
  obtain ⟨ds, hd, hr, he, ha⟩ := h
  exact ⟨ds, hd, owns_typed hr hK h1 hg, fun i hi => owns_typed (he i hi) hK h2 hg, ha⟩
theorem grown_setRow (w : World) (K : Nat) (cs : Array Value) : w.grownBy (w.setRow K cs) (some K) :=
  ⟨rfl, rfl, rfl, by simp, fun i _ hi => setRow_other w K i cs (fun e => hi (by rw [e]))⟩

/-- A properties' row whose data were copied as far as number k: the rest still read in an older world. -/
structure Cp (W w : World) (B k : Nat) (v : Value) (ds : List Value) (l : List Pr) : Prop where
  len : ds.length = l.length
  row : w.ownsRow B 147 5 v l.length (pcs ds l)
  old : ∀ (i : Nat) (d : Value) (p : Pr), k ≤ i → ds[i]? = some d → l[i]? = some p → PC W d p
  new : ∀ (i : Nat) (d : Value) (p : Pr), i < k → ds[i]? = some d → l[i]? = some p → w.ownsRow B 5 1 d p.data.length (bv p.data)
  apart : (ds.take k).Pairwise Unlike
theorem Cp.start {W w : World} {B : Nat} {v : Value} {ds : List Value} {l : List Pr} (h : w.ownsRow B 147 5 v l.length (pcs ds l)) (hd : Pds W ds l) : Cp W w B 0 v ds l :=
  ⟨hd.1, h, fun i d p _ h1 h2 => hd.2 i d p h1 h2, fun i d p h1 => by omega, by simp⟩
theorem Cp.below {W w w' : World} {B k : Nat} {v : Value} {ds : List Value} {l : List Pr} (h : Cp W w B k v ds l) (hb : Below w.heap.size w w') : Cp W w' B k v ds l :=
  ⟨h.len, owns_below h.row hb, h.old, fun i d p h1 h2 h3 => owns_below (h.new i d p h1 h2 h3) hb, h.apart⟩
theorem pcs_set (ds : List Value) (l : List Pr) (h : ds.length = l.length) (k : Nat) (hk : k < l.length) (d : Value) : pcs (ds.set k d) l = (pcs ds l).set (k * 5 + 4) d := by
  have hlen : ∀ ds : List Value, ds.length = l.length → (pcs ds l).length = l.length * 5 := fun ds h => by
    unfold pcs
    rw [List.length_flatMap]
    have : ((ds.zip l).map fun a => (pc a).length) = List.replicate l.length 5 := by
      apply List.ext_getElem
      · simp [h]
      · intro i q1 q2
        simp [pc]
    rw [this]
    simp
  have hs : (ds.set k d).length = l.length := by rw [List.length_set]; exact h
  apply List.ext_getElem?
  intro j
  by_cases hj : j < l.length * 5
  · have hi : j / 5 < l.length := by omega
    have hm : j % 5 < 5 := Nat.mod_lt _ (by omega)
    have he : j = j / 5 * 5 + j % 5 := by omega
    obtain ⟨q, hq⟩ : ∃ q, j % 5 = q := ⟨_, rfl⟩
    obtain ⟨i, hii⟩ : ∃ i, j / 5 = i := ⟨_, rfl⟩
    rw [hq, hii] at he
    rw [hq] at hm
    rw [hii] at hi
    rw [List.getElem?_set, he, pcs_at _ l hs i hi q hm, pcs_at ds l h i hi q hm]
    by_cases e : i = k
    · subst e
      simp only [List.getElem_set_self]
      match q, hm with
      | 0, _ => rw [if_neg (by omega)]; rfl
      | 1, _ => rw [if_neg (by omega)]; rfl
      | 2, _ => rw [if_neg (by omega)]; rfl
      | 3, _ => rw [if_neg (by omega)]; rfl
      | 4, _ => rw [if_pos rfl, if_pos (by rw [hlen ds h]; omega)]; rfl
    · rw [List.getElem_set_ne (by omega), if_neg (by omega)]
  · rw [List.getElem?_eq_none (by rw [hlen _ hs]; omega), List.getElem?_eq_none (by rw [List.length_set, hlen _ h]; omega)]
/-- One more was copied. -/
theorem Cp.step {W w w1 w2 : World} {B k g c n : Nat} {a : Option Addr} {ds : List Value} {l : List Pr} {p : Pr} {d : Value} (h : Cp W w B k (.slice (some ⟨g, 0, none⟩) n c) ds l) (hB : B ≤ w.heap.size) (hk : l[k]? = some p) (hd : w1.ownsRow w.heap.size 5 1 d p.data.length (bv p.data)) (hb : Below w.heap.size w w1)
    (h2 : w2 = w1.setCell ⟨g, k * 5 + 4, none⟩ d) (_ha : a = some ⟨g, 0, none⟩) : Cp W w2 B (k + 1) (.slice (some ⟨g, 0, none⟩) n c) (ds.set k d) l := by
  subst h2
  have hkl := (List.getElem?_eq_some_iff.1 hk).1
  have hr1 := owns_below h.row hb
  have hn : n = l.length := by
    obtain ⟨ad, c', e⟩ := owns_shape h.row
    simp only [Value.slice.injEq] at e
    exact e.2.1
  subst hn
  have hkeep : Keeps 5 w1 (w1.setCell ⟨g, k * 5 + 4, none⟩ d) := Keeps.grown5 hr1 (hr1.stored (k * 5 + 4) d).2 (by decide)
  refine ⟨by rw [List.length_set]; exact h.len, ?_, fun i d' p' h1 h2 h3 => ?_, fun i d' p' h1 h2 h3 => ?_, ?_⟩
  · rw [pcs_set ds l h.len k hkl]
    exact (hr1.stored (k * 5 + 4) d).1
  · rw [List.getElem?_set_ne (by omega)] at h2
    exact h.old i d' p' (by omega) h2 h3
  · by_cases e : i = k
    · subst e
      rw [List.getElem?_set_self (by rw [h.len]; exact hkl)] at h2
      obtain rfl := Option.some.inj h2
      rw [hk] at h3
      obtain rfl := Option.some.inj h3
      exact hkeep _ _ _ _ (owns_mono hd hB)
    · rw [List.getElem?_set_ne (by omega)] at h2
      exact hkeep _ _ _ _ (owns_below (h.new i d' p' (by omega) h2 h3) hb)
  · have hl : k < ds.length := by rw [h.len]; exact hkl
    have e : (ds.set k d).take (k + 1) = ds.take k ++ [d] := by
      rw [List.take_succ_eq_append_getElem (by rw [List.length_set]; exact hl), List.take_set_of_le (Nat.le_refl _)]
      simp
    rw [e, List.pairwise_append]
    refine ⟨h.apart, by simp, fun x hx y hy => ?_⟩
    obtain rfl := List.mem_singleton.1 hy
    intro b hb1 hb2
    obtain ⟨i, hi, rfl⟩ := List.getElem_of_mem hx
    have hik : i < k := by rw [List.length_take] at hi; omega
    rw [List.getElem_take] at hb1
    have hil : i < l.length := by omega
    have := h.new i _ _ hik (List.getElem?_eq_getElem (by omega)) (List.getElem?_eq_getElem hil)
    have q1 := (this.lt b hb1).2
    have q2 := (hd.lt b hb2).1
    omega
theorem Cp.pso {W w : World} {B k : Nat} {v : Value} {ds : List Value} {l : List Pr} (h : Cp W w B k v ds l) (hk : l.length ≤ k) : PsO w B v l := by
  have hl := h.len
  refine ⟨ds, h.len, h.row, fun i hi => ?_, ?_⟩
  · exact h.new i _ _ (by omega) (List.getElem?_eq_getElem (by omega)) (List.getElem?_eq_getElem hi)
  · have := h.apart
    rwa [List.take_of_length_le (by omega)] at this
theorem Cp.cell {W w : World} {B k g c n : Nat} {ds : List Value} {l : List Pr} (h : Cp W w B k (.slice (some ⟨g, 0, none⟩) n c) ds l) (hk : k < l.length) : ∃ d p, l[k]? = some p ∧ PC W d p ∧ w.cell? ⟨g, k * 5 + 4, none⟩ = some d := by
  have hl := h.len
  refine ⟨ds[k]'(by omega), l[k], List.getElem?_eq_getElem hk, h.old k _ _ (Nat.le_refl _) (List.getElem?_eq_getElem (by omega)) (List.getElem?_eq_getElem hk), ?_⟩
  have hn : n = l.length := by
    obtain ⟨ad, c', e⟩ := owns_shape h.row
    simp only [Value.slice.injEq] at e
    exact e.2.1
  subst hn
  have := h.row.cellAt (k * 5 + 4) (by omega)
  rw [this, pcs_at ds l h.len k hk 4 (by omega)]
  rfl
end Go.Proofs.YtgimbocoamnkjaaGreatDoor
