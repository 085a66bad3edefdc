/- Rows of entries that came in. -/
import Derived.Test.YtgkgahjdjkmmnaaOpenW
import Derived.Test.YtgkgahjdjkmmnaaEnt
namespace Go.Proofs.Ytgkgahjdjkmmnaa
open Go.ChangeShapes Go.WideShapes Go.ChangeAt Go.RowKit

/-- The cells of an entry. -/
def ECells (W : World) (cs : List Value) (e : Ent) : Prop := ∃ k v, cs = [k, v, .int .i64 e.seq, .bool e.dead] ∧ EC W k v e

theorem open_entry {H : Type} {enc : TypeId × Value → H} {W : World} {base n : Nat} {spare : Nat → Bool} {held : Bool} (hsp : ∀ b, spare b = true) (cs : List Value) (d : DataW H) (p : List MemPlace) (hf : DataW.trod enc Try.prog W base spare held n 27 cs = some (d, p)) (hw : Fits Try.prog 27 d) (hl : cs.length = 4) :
    ∃ e : Ent, ECells W cs e := by
  match cs, hl with
  | [c0, c1, c2, c3], _ =>
    obtain ⟨xs, n', _, hx, _, hxl, hg⟩ := DataW.trod_struct Try.underlying27 hf
    simp only [Prod.mk.injEq] at hx
    match xs, hxl with
    | [y0, y1, y2, y3], _ =>
      rw [hx.1] at hw
      have g0 := field_at hg 0 25 0 c0 rfl (by kernel_rfl) rfl
      have g1 := field_at hg 1 25 1 c1 rfl (by kernel_rfl) rfl
      have g2 := field_at hg 2 3 2 c2 rfl (by kernel_rfl) rfl
      have g3 := field_at hg 3 4 3 c3 rfl (by kernel_rfl) rfl
      obtain ⟨K, hK, hKl⟩ := open_bsw Try.underlying25 Try.underlying5 (by kernel_rfl) (by kernel_rfl) (d := y0.1) (p := y0.2) g0 hsp (hw.field Try.underlying27 (j := 0) rfl rfl)
      obtain ⟨V, hV, hVl⟩ := open_bsw Try.underlying25 Try.underlying5 (by kernel_rfl) (by kernel_rfl) (d := y1.1) (p := y1.2) g1 hsp (hw.field Try.underlying27 (j := 1) rfl rfl)
      obtain ⟨s, e2, _, hs⟩ := DataW.trod_int Try.underlying3 (x := y2) g2
      obtain ⟨b, e3, _⟩ := DataW.trod_bool Try.underlying4 (x := y3) g3
      have e2' : c2 = .int .i64 s := by simpa using e2
      have e3' : c3 = .bool b := by simpa using e3
      simp [Lit.wf, IntKind.min, IntKind.max, IntKind.signed, IntKind.bits] at hs
      exact ⟨⟨K, V, s, b⟩, c0, c1, by rw [e2', e3'], ⟨hK, hV, hKl, hVl, hs.1, by show s ≤ _; omega⟩⟩

theorem open_entries {H : Type} {enc : TypeId × Value → H} {W : World} {base fuel : Nat} {spare : Nat → Bool} {held : Bool} {v : Value} {d : DataW H} {p : List MemPlace} (hsp : ∀ b, spare b = true) (hf : DataW.trod enc Try.prog W base spare held fuel 24 [v] = some (d, p)) (hw : Fits Try.prog 24 d) :
    ∃ l : List Ent, Es W v l ∧ l.length * Try.prog.bytesOf 27 ≤ 140737488351232 := by
  obtain ⟨l, ad, c, h1, h2, h3, h4, h6, h5⟩ := open_cells (α := Ent) (ECells W) Try.underlying24 (C := 4) (by kernel_rfl) (by omega)
    (fun n cs d p hf hw hl => open_entry hsp cs d p hf hw hl) hf hsp hw
  refine ⟨l, ⟨ad, c, h1, h2, h3, h4, fun h0 => ?_⟩, Nat.le_trans (Nat.mul_le_mul_right _ h2) h6⟩
  obtain ⟨b, o, e, h7⟩ := h5 h0
  refine ⟨b, o, e, fun i hi => ?_⟩
  obtain ⟨cs, c1, c2, k, v, rfl, c3⟩ := h7 i hi
  exact ⟨k, v, ⟨c2 0 (by omega), c2 1 (by omega), c2 2 (by omega), c2 3 (by omega)⟩, c3⟩
end Go.Proofs.Ytgkgahjdjkmmnaa
