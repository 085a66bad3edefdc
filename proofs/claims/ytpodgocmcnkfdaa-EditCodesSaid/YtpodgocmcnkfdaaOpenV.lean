/- Versions that came in. -/
import Derived.Test.YtpodgocmcnkfdaaOpenW
import Derived.Test.YtpodgocmcnkfdaaPlc
namespace Go.Proofs.Ytpodgocmcnkfdaa
open Go.ChangeShapes Go.WideShapes Go.ChangeAt Go.RowKit

/-- The cells of a table. -/
def PCells (W : World) (cs : List Value) (p : Pl) : Prop := ∃ x y, cs = [.int .i64 p.num, .int .i64 p.level, .int .i64 p.count, x, y] ∧ PlC W x y p

theorem open_place {H : Type} {enc : TypeId × Value → H} {W : World} {base n : Nat} {spare : Nat → Bool} {held : Bool} (hsp : ∀ b, spare b = true) (cs : List Value) (d : DataW H) (p : List MemPlace) (hf : DataW.trod enc Try.prog W base spare held n 41 cs = some (d, p)) (hw : Fits Try.prog 41 d) (hl : cs.length = 5) :
    ∃ e : Pl, PCells W cs e := by
  match cs, hl with
  | [c0, c1, c2, c3, c4], _ =>
    obtain ⟨xs, n', _, hx, _, hxl, hg⟩ := DataW.trod_struct Try.underlying41 hf
    simp only [Prod.mk.injEq] at hx
    match xs, hxl with
    | [y0, y1, y2, y3, y4], _ =>
      rw [hx.1] at hw
      have g0 := field_at hg 0 3 0 c0 rfl (by kernel_rfl) rfl
      have g1 := field_at hg 1 3 1 c1 rfl (by kernel_rfl) rfl
      have g2 := field_at hg 2 3 2 c2 rfl (by kernel_rfl) rfl
      have g3 := field_at hg 3 39 3 c3 rfl (by kernel_rfl) rfl
      have g4 := field_at hg 4 39 4 c4 rfl (by kernel_rfl) rfl
      obtain ⟨K, hK, hKl⟩ := open_bsw Try.underlying39 Try.underlying5 (by kernel_rfl) (by kernel_rfl) (d := y3.1) (p := y3.2) g3 hsp (hw.field Try.underlying41 (j := 3) rfl rfl)
      obtain ⟨V, hV, hVl⟩ := open_bsw Try.underlying39 Try.underlying5 (by kernel_rfl) (by kernel_rfl) (d := y4.1) (p := y4.2) g4 hsp (hw.field Try.underlying41 (j := 4) rfl rfl)
      obtain ⟨a, e0, _, ha⟩ := DataW.trod_int Try.underlying3 (x := y0) g0
      obtain ⟨b, e1, _, hb⟩ := DataW.trod_int Try.underlying3 (x := y1) g1
      obtain ⟨c, e2, _, hc⟩ := DataW.trod_int Try.underlying3 (x := y2) g2
      have e0' : c0 = .int .i64 a := by simpa using e0
      have e1' : c1 = .int .i64 b := by simpa using e1
      have e2' : c2 = .int .i64 c := by simpa using e2
      simp [Lit.wf, IntKind.min, IntKind.max, IntKind.signed, IntKind.bits] at ha hb hc
      exact ⟨⟨a, b, c, K, V⟩, c3, c4, by rw [e0', e1', e2'], ⟨hK, hV, ⟨hKl, hVl, ha.1, (by show a ≤ _; omega), hb.1, (by show b ≤ _; omega), hc.1, (by show c ≤ _; omega)⟩⟩⟩

theorem open_places {H : Type} {enc : TypeId × Value → H} {W : World} {base fuel : Nat} {spare : Nat → Bool} {held : Bool} {v : Value} {d : DataW H} {p : List MemPlace} (hsp : ∀ b, spare b = true) (hf : DataW.trod enc Try.prog W base spare held fuel 22 [v] = some (d, p)) (hw : Fits Try.prog 22 d) :
    ∃ l : List Pl, Pls W v l := by
  obtain ⟨l, ad, c, h1, h2, h3, h4, h6, h5⟩ := open_cells (α := Pl) (PCells W) Try.underlying22 (C := 5) (by kernel_rfl) (by omega)
    (fun n cs d p hf hw hl => open_place hsp cs d p hf hw hl) hf hsp hw
  refine ⟨l, ad, c, h1, h2, h3, h4, fun h0 => ?_⟩
  obtain ⟨b, o, e, h7⟩ := h5 h0
  refine ⟨b, o, e, fun i hi => ?_⟩
  obtain ⟨cs, c1, c2, k, v, rfl, c3⟩ := h7 i hi
  exact ⟨k, v, ⟨c2 0 (by omega), c2 1 (by omega), c2 2 (by omega), c2 3 (by omega), c2 4 (by omega)⟩, c3⟩

set_option maxRecDepth 100000 in
theorem open_version {H : Type} {enc : TypeId × Value → H} {W : World} {base b0 : Nat} {r : Reach} {spare : Nat → Bool} {held : Bool} {v : Value} {d : DataW H} {p : List MemPlace} (hsp : ∀ b, spare b = true) (hv : Value.okWide Try.prog W r b0 24 v) (h : DataW.Trod enc Try.prog W base spare held 24 v d p) (hw : Fits Try.prog 24 d) :
    ∃ (log next seq : Int) (tv : Value) (l : List Pl), v = .agg #[.int .i64 log, .int .i64 next, .int .i64 seq, tv] ∧ Pls W tv l := by
  obtain ⟨cs, rfl, hsz⟩ := okWide_struct Try.underlying24 hv
  rw [show Try.prog.cellsOf 24 = 4 by kernel_rfl] at hsz
  obtain ⟨l⟩ := cs
  match l, hsz with
  | [c0, c1, c2, c3], _ =>
    obtain ⟨fuel, hf⟩ := h
    obtain ⟨xs, n', _, hx, _, hxl, hg⟩ := DataW.trod_struct Try.underlying24 hf
    simp only [Prod.mk.injEq] at hx
    match xs, hxl with
    | [y0, y1, y2, y3], _ =>
      rw [hx.1] at hw
      have g0 := field_at hg 0 3 0 c0 rfl (by kernel_rfl) rfl
      have g1 := field_at hg 1 3 1 c1 rfl (by kernel_rfl) rfl
      have g2 := field_at hg 2 3 2 c2 rfl (by kernel_rfl) rfl
      have g3 := field_at hg 3 22 3 c3 rfl (by kernel_rfl) rfl
      obtain ⟨a, e0, _, _⟩ := DataW.trod_int Try.underlying3 (x := y0) g0
      obtain ⟨b, e1, _, _⟩ := DataW.trod_int Try.underlying3 (x := y1) g1
      obtain ⟨c, e2, _, _⟩ := DataW.trod_int Try.underlying3 (x := y2) g2
      obtain ⟨l, hl⟩ := open_places hsp (d := y3.1) (p := y3.2) g3 (hw.field Try.underlying24 (j := 3) rfl rfl)
      have e0' : c0 = .int .i64 a := by simpa [Value.cells] using e0
      have e1' : c1 = .int .i64 b := by simpa [Value.cells] using e1
      have e2' : c2 = .int .i64 c := by simpa [Value.cells] using e2
      exact ⟨a, b, c, c3, l, by rw [e0', e1', e2'], by simpa [Value.cells] using hl⟩
end Go.Proofs.Ytpodgocmcnkfdaa
