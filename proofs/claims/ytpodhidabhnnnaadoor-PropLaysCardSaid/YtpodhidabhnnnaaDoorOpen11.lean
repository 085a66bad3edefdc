/- Properties that came in. -/
import Derived.Test.YtpodhidabhnnnaaDoorOpenW
import Derived.Test.YtpodhidabhnnnaaDoorPropC
namespace Go.Proofs.YtpodhidabhnnnaaDoor
open Go.ChangeShapes Go.WideShapes Go.ChangeAt Go.RowKit

instance : Inhabited Pr := ⟨zeroP⟩

/-- The cells of a property. -/
def PCells (W : World) (cs : List Value) (p : Pr) : Prop := ∃ d, cs = [.int .i64 p.id, .int .i64 p.num, .string (str p.text), .string (str p.pair), d] ∧ PC W d p

theorem fits_string {H : Type} {P : Program} {t : TypeId} {b : List UInt8} (h : Fits (H := H) P t (.lit (.string b))) : b.length ≤ 140737488351232 := by
  have := h b.length (by simp [DataW.weights])
  exact this

theorem open_prop {H : Type} {enc : TypeId × Value → H} {W : World} {base n : Nat} {spare : Nat → Bool} {held : Bool} (hsp : ∀ b, spare b = true) (cs : List Value) (d : DataW H) (p : List MemPlace) (hf : DataW.trod enc Tryd.prog W base spare held n 43 cs = some (d, p)) (hw : Fits Tryd.prog 43 d) (hl : cs.length = 5) :
    ∃ e : Pr, PCells W cs e := by
  match cs, hl with
  | [c0, c1, c2, c3, c4], _ =>
    obtain ⟨xs, n', _, hx, _, hxl, hg⟩ := DataW.trod_struct Tryd.underlying43 hf
    simp only [Prod.mk.injEq] at hx
    match xs, hxl with
    | [y0, y1, y2, y3, y4], _ =>
      rw [hx.1] at hw
      have g0 := field_at hg 0 3 0 c0 rfl (by kernel_rfl) rfl
      have g1 := field_at hg 1 3 1 c1 rfl (by kernel_rfl) rfl
      have g2 := field_at hg 2 9 2 c2 rfl (by kernel_rfl) rfl
      have g3 := field_at hg 3 9 3 c3 rfl (by kernel_rfl) rfl
      have g4 := field_at hg 4 22 4 c4 rfl (by kernel_rfl) rfl
      obtain ⟨i, e0, _, hi⟩ := DataW.trod_int Tryd.underlying3 (x := y0) g0
      obtain ⟨j, e1, _, hj⟩ := DataW.trod_int Tryd.underlying3 (x := y1) g1
      obtain ⟨s, e2, k2, _⟩ := DataW.trod_string Tryd.underlying9 (x := y2) g2
      obtain ⟨u, e3, k3, _⟩ := DataW.trod_string Tryd.underlying9 (x := y3) g3
      obtain ⟨S, rfl, hS⟩ := str_of s
      obtain ⟨U, rfl, hU⟩ := str_of u
      obtain ⟨D, hD, hDl⟩ := open_bsw Tryd.underlying22 Tryd.underlying5 (by kernel_rfl) (by kernel_rfl) (d := y4.1) (p := y4.2) g4 hsp (hw.field Tryd.underlying43 (j := 4) rfl rfl)
      have w2 := hw.field Tryd.underlying43 (j := 2) (d := y2.1) rfl rfl
      have w3 := hw.field Tryd.underlying43 (j := 3) (d := y3.1) rfl rfl
      rw [k2] at w2
      rw [k3] at w3
      have l2 := fits_string w2
      have l3 := fits_string w3
      have e0' : c0 = .int .i64 i := by simpa using e0
      have e1' : c1 = .int .i64 j := by simpa using e1
      have e2' : c2 = .string (str S) := by simpa using e2
      have e3' : c3 = .string (str U) := by simpa using e3
      simp [Lit.wf, IntKind.min, IntKind.max, IntKind.signed, IntKind.bits] at hi hj
      exact ⟨⟨i, j, S, U, D⟩, c4, by rw [e0', e1', e2', e3'], ⟨hD, hDl, l2, l3, hi.1, by show i ≤ _; omega, hj.1, by show j ≤ _; omega⟩⟩

set_option maxRecDepth 100000 in
theorem open_prop_at {H : Type} {enc : TypeId × Value → H} {W : World} {base b0 : Nat} {r : Reach} {spare : Nat → Bool} {held : Bool} {v : Value} {d : DataW H} {p : List MemPlace} (hsp : ∀ b, spare b = true) (hv : Value.okWide Tryd.prog W r b0 43 v) (h : DataW.Trod enc Tryd.prog W base spare held 43 v d p) (hw : Fits Tryd.prog 43 d) :
    ∃ (e : Pr) (x : Value), v = .agg #[.int .i64 e.id, .int .i64 e.num, .string (str e.text), .string (str e.pair), x] ∧ PC W x e := by
  obtain ⟨cs, rfl, hsz⟩ := okWide_struct Tryd.underlying43 hv
  rw [show Tryd.prog.cellsOf 43 = 5 by kernel_rfl] at hsz
  obtain ⟨l⟩ := cs
  obtain ⟨fuel, hf⟩ := h
  obtain ⟨e, x, h1, h2⟩ := open_prop hsp l d p hf hw (by simpa using hsz)
  exact ⟨e, x, by rw [h1], h2⟩

theorem open_props {H : Type} {enc : TypeId × Value → H} {W : World} {base : Nat} {spare : Nat → Bool} {held : Bool} {v : Value} {d : DataW H} {p : List MemPlace} (hsp : ∀ b, spare b = true)
    (h : DataW.Trod enc Tryd.prog W base spare held 25 v d p) (hs : ∃ a len cap, v = .slice a len cap) (hw : Fits Tryd.prog 25 d) : ∃ l : List Pr, Ps W v l := by
  obtain ⟨a0, l0, c0, rfl⟩ := hs
  obtain ⟨fuel, hf⟩ := h
  obtain ⟨l, ad, c, h1, h2, h3, h4, h6, h5⟩ := open_cells (α := Pr) (PCells W) Tryd.underlying25 (C := 5) (by kernel_rfl) (by omega)
    (fun n cs d p hf hw hl => open_prop hsp cs d p hf hw hl) hf hsp hw
  refine ⟨l, ad, c, h1, h2, h3, h4, fun h0 => ?_⟩
  obtain ⟨b, o, e, h7⟩ := h5 h0
  refine ⟨b, o, e, fun i hi => ?_⟩
  obtain ⟨cs, c1, c2, k, rfl, c3⟩ := h7 i hi
  exact ⟨k, ⟨c2 0 (by omega), c2 1 (by omega), c2 2 (by omega), c2 3 (by omega), c2 4 (by omega)⟩, c3⟩
end Go.Proofs.YtpodhidabhnnnaaDoor
