/- From what the form says of an argument to what the walks ask, with the form's own reach: structs, slices of structs. -/
import Derived.Test.YtpodgocmcnkfdaaOpen
import Derived.SizedLaws
namespace Go.Proofs.Ytpodgocmcnkfdaa
open Go.ChangeShapes Go.WideShapes Go.ChangeAt Go.RowKit

/-- Each string, slice and map in it takes no more than the form's reach. -/
def Fits {H : Type} (P : Program) (t : TypeId) (d : DataW H) : Prop := ∀ n ∈ d.weights P t, n ≤ reachBytes

theorem weightsAll_mem {H : Type} {P : Program} {e : TypeId} {l : List (DataW H)} {d : DataW H} (hd : d ∈ l) : ∀ n ∈ d.weights P e, n ∈ DataW.weightsAll P e l := by
  induction l with
  | nil => cases hd
  | cons x r ih =>
    intro n hn
    simp only [DataW.weightsAll, List.mem_append]
    cases List.mem_cons.1 hd with
    | inl h => subst h; exact .inl hn
    | inr h => exact .inr (ih h n hn)

theorem Fits.elem {H : Type} {P : Program} {t e : TypeId} {elems spare : List (DataW H)} (ht : P.underlying t = some (.slice e)) (h : Fits P t (.slice elems spare)) {d : DataW H} (hd : d ∈ elems) : Fits P e d := by
  intro n hn
  refine h n ?_
  simp only [DataW.weights, ht, List.mem_cons, List.mem_append]
  exact .inr (.inl (weightsAll_mem hd n hn))
theorem Fits.head {H : Type} {P : Program} {t e : TypeId} {elems spare : List (DataW H)} (ht : P.underlying t = some (.slice e)) (h : Fits P t (.slice elems spare)) : (elems.length + spare.length) * P.bytesOf e ≤ reachBytes := by
  refine h _ ?_
  simp only [DataW.weights, ht, List.mem_cons, true_or]
theorem Fits.field {H : Type} {P : Program} {t : TypeId} {fs : Array Field} {parts : List (DataW H)} (ht : P.underlying t = some (.struct fs)) (h : Fits P t (.agg parts)) {j : Nat} {f : Field} {d : DataW H} (hf : fs[j]? = some f) (hd : parts[j]? = some d) : Fits P f.type d := by
  intro n hn
  refine h n ?_
  simp only [DataW.weights, ht]
  exact DataW.weights_mem_each (j := j) (by simp [hf]) hd n hn
theorem fits_of_each {H : Type} {P : Program} {ts : List TypeId} {ds : List (DataW H)} (h : (DataW.weightsEach P ts ds).all (· ≤ reachBytes) = true) {j : Nat} {t : TypeId} {d : DataW H} (ht : ts[j]? = some t) (hd : ds[j]? = some d) : Fits P t d := by
  intro n hn
  exact of_decide_eq_true (List.all_eq_true.1 h n (DataW.weights_mem_each ht hd n hn))

/-- A slice of bytes, in one cell, within the reach. -/
theorem open_bsw {H : Type} {enc : TypeId × Value → H} {P : Program} {W : World} {base fuel : Nat} {spare : Nat → Bool} {held : Bool} {t e : TypeId} {v : Value} {d : DataW H} {p : List MemPlace} (ht : P.underlying t = some (.slice e)) (he : P.underlying e = some (.int .u8)) (hc : P.cellsOf e = 1) (hcb : P.bytesOf e = 1)
    (hf : DataW.trod enc P W base spare held fuel t [v] = some (d, p)) (hsp : ∀ b, spare b = true) (hw : Fits P t d) : ∃ b : List UInt8, Bs W v b ∧ b.length ≤ 140737488351232 := by
  obtain ⟨b, hb, _⟩ := open_bs1 ht he hc hf hsp
  refine ⟨b, hb, ?_⟩
  rcases open_ints ht he hc hf with ⟨hcs, hx⟩ | ⟨a, len, cap, zs, hcs, _, hl, hm, hz, hx, hcell, hwz⟩
  · simp only [List.cons.injEq, and_true] at hcs
    subst hcs
    obtain ⟨ad, c, e, _⟩ := hb
    simp only [Value.slice.injEq] at e
    omega
  · simp only [List.cons.injEq, and_true] at hcs
    subst hcs
    simp only [Prod.mk.injEq] at hx
    rw [hx.1] at hw
    have h1 := hw.head ht
    rw [hcb, Nat.mul_one] at h1
    obtain ⟨ad, c, e, _⟩ := hb
    simp only [Value.slice.injEq] at e
    rw [hsp] at hz
    simp only [if_true] at hz
    simp only [lits, List.length_map, List.length_take, List.length_drop, reachBytes] at h1
    omega

/-- A struct's field of one cell. -/
theorem field_at {H : Type} {enc : TypeId × Value → H} {P : Program} {W : World} {base n : Nat} {spare : Nat → Bool} {held : Bool} {fs : Array Field} {cs : List Value} {xs : List (DataW H × List MemPlace)}
    (hg : ∀ (i : Nat) (f : Field), fs[i]? = some f → DataW.trod enc P W base spare held n f.type ((cs.drop f.offset).take (P.cellsOf f.type)) = xs[i]?)
    (i t off : Nat) (v : Value) (hf : fs[i]?.map (fun f => (f.type, f.offset)) = some (t, off)) (hc : P.cellsOf t = 1) (hv : cs[off]? = some v) : DataW.trod enc P W base spare held n t [v] = xs[i]? := by
  cases h : fs[i]? with
  | none => rw [h] at hf; simp at hf
  | some f =>
    rw [h] at hf
    simp only [Option.map_some, Option.some.injEq, Prod.mk.injEq] at hf
    obtain ⟨rfl, rfl⟩ := hf
    have h1 := hg i f h
    obtain ⟨hlt, rfl⟩ := List.getElem?_eq_some_iff.1 hv
    rw [hc, List.drop_eq_getElem_cons hlt, List.take_succ_cons, List.take_zero] at h1
    exact h1

theorem add_lit2 (b o i : Nat) : (⟨b, o, none⟩ : Addr).add i = ⟨b, o + i, none⟩ := Addr.add_lit b o i

/-- The cells of a slice's elements, whatever they are: of each the property el. -/
theorem open_cells {H : Type} {enc : TypeId × Value → H} {P : Program} {W : World} {base fuel : Nat} {spare : Nat → Bool} {held : Bool} {t e C : Nat} {v : Value} {d : DataW H} {p : List MemPlace} {α : Type} [Inhabited α] (el : List Value → α → Prop) (ht : P.underlying t = some (.slice e)) (hC : P.cellsOf e = C) (hC0 : 0 < C)
    (hel : ∀ n cs d p, DataW.trod enc P W base spare held n e cs = some (d, p) → Fits P e d → cs.length = C → ∃ x : α, el cs x)
    (hf : DataW.trod enc P W base spare held fuel t [v] = some (d, p)) (hsp : ∀ b, spare b = true) (hw : Fits P t d) :
    ∃ (l : List α) (ad : Option Addr) (c : Nat), v = .slice ad l.length c ∧ l.length ≤ c ∧ c ≤ 9223372036854775807 ∧ (ad = none → c = 0) ∧ c * P.bytesOf e ≤ 140737488351232 ∧
      (0 < l.length → ∃ b o, ad = some ⟨b, o, none⟩ ∧ ∀ (i : Nat) (h : i < l.length), ∃ cs, cs.length = C ∧ (∀ j, j < C → W.cell? ⟨b, o + i * C + j, none⟩ = cs[j]?) ∧ el cs l[i]) := by
  rcases Go.Deep.open_slice ht hf with ⟨hcs, hx⟩ | ⟨a, len, cap, m, n, D, Pl, hcs, _, hl, hm, hmm, hx, hcell⟩
  · simp only [List.cons.injEq, and_true] at hcs
    exact ⟨[], none, 0, by simpa using hcs, Nat.le_refl _, by omega, fun _ => rfl, by omega, fun h => by simp at h⟩
  · simp only [List.cons.injEq, and_true] at hcs
    rw [hsp] at hmm
    simp only [if_true] at hmm
    unfold maxLen at hm
    simp only [Prod.mk.injEq] at hx
    rw [hx.1] at hw
    have hbound := hw.head ht
    rw [hC] at hcell
    have hex : ∀ i, i < len → ∃ x : α, ∃ cs, cs.length = C ∧ (∀ j, j < C → W.cell? ((a.add (i * C)).add j) = cs[j]?) ∧ el cs x := by
      intro i hi
      obtain ⟨cs, h1, h2⟩ := hcell i (by omega)
      obtain ⟨_, h3, h4⟩ := World.cells?_some h1
      obtain ⟨x, hx⟩ := hel _ _ _ _ h2 (hw.elem ht (List.mem_map.2 ⟨i, List.mem_range.2 hi, rfl⟩)) h3
      exact ⟨x, cs, h3, h4, hx⟩
    obtain ⟨f, hfx⟩ := Go.Deep.choose_lt (n := len) (p := fun i x => ∃ cs, cs.length = C ∧ (∀ j, j < C → W.cell? ((a.add (i * C)).add j) = cs[j]?) ∧ el cs x) hex
    have hll : ((List.range len).map f).length = len := by simp
    refine ⟨(List.range len).map f, some a, cap, by rw [hll]; exact hcs, by rw [hll]; exact hl, by omega, (fun h => by cases h), ?_, fun h0 => ?_⟩
    · simp only [List.length_map, List.length_range, reachBytes] at hbound
      rw [show len + (m - len) = cap by omega] at hbound
      exact hbound
    · rw [hll] at h0
      obtain ⟨cs0, z1, z2, _⟩ := hfx 0 h0
      have hz := z2 0 hC0
      rw [List.getElem?_eq_getElem (by omega), Nat.zero_mul, show (a.add 0).add 0 = a.add 0 from rfl] at hz
      have hspot := plain_addr hz
      refine ⟨a.block, a.off, by rw [← hspot], fun i hi => ?_⟩
      rw [hll] at hi
      obtain ⟨cs, h1, h2, h3⟩ := hfx i hi
      refine ⟨cs, h1, fun j hj => ?_, by simpa using h3⟩
      have h4 := h2 j hj
      have e1 : (a.add (i * C)).add j = ⟨a.block, a.off + i * C + j, none⟩ := by
        conv => lhs; rw [hspot]
        rw [Addr.add_lit, Addr.add_lit]
      rw [e1] at h4
      exact h4

end Go.Proofs.Ytpodgocmcnkfdaa
