/- Configs and packets that came in. -/
import Derived.Test.YtbfelcgjocpgaaaDoorOpenW
import Derived.Test.YtbfelcgjocpgaaaDoorOne
namespace Go.Proofs.YtbfelcgjocpgaaaDoor
open Go.ChangeShapes Go.WideShapes Go.ChangeAt Go.RowKit

theorem open_user {H : Type} {enc : TypeId × Value → H} {W : World} {base n : Nat} {spare : Nat → Bool} {held : Bool} (hsp : ∀ b, spare b = true) (cs : List Value) (d : DataW H) (p : List MemPlace) (hf : DataW.trod enc Tryd.prog W base spare held n 58 cs = some (d, p)) (hw : Fits Tryd.prog 58 d) (hl : cs.length = 2) :
    ∃ u : List UInt8 × List UInt8, ∃ s, cs = [.string (str u.1), s] ∧ u.1.length ≤ 9223372036854775807 ∧ Bs W s u.2 ∧ u.2.length ≤ 140737488351232 := by
  match cs, hl with
  | [c0, c1], _ =>
    obtain ⟨xs, n', _, hx, _, hxl, hg⟩ := DataW.trod_struct Tryd.underlying58 hf
    simp only [Prod.mk.injEq] at hx
    match xs, hxl with
    | [y0, y1], _ =>
      rw [hx.1] at hw
      have g0 := field_at hg 0 9 0 c0 rfl (by kernel_rfl) rfl
      have g1 := field_at hg 1 25 1 c1 rfl (by kernel_rfl) rfl
      obtain ⟨s, e, _, hs⟩ := DataW.trod_string Tryd.underlying9 (x := y0) g0
      obtain ⟨N, rfl, hN⟩ := str_of s
      obtain ⟨S, hS, hSl⟩ := open_bsw Tryd.underlying25 Tryd.underlying5 (by kernel_rfl) (by kernel_rfl) (d := y1.1) (p := y1.2) g1 hsp (hw.field Tryd.underlying58 (j := 1) rfl rfl)
      unfold maxLen at hs
      have e' : c0 = .string (str N) := by simpa using e
      exact ⟨(N, S), c1, by rw [e'], by show N.length ≤ _; omega, hS, hSl⟩

theorem open_users {H : Type} {enc : TypeId × Value → H} {W : World} {base fuel : Nat} {spare : Nat → Bool} {held : Bool} {v : Value} {d : DataW H} {p : List MemPlace} (hsp : ∀ b, spare b = true) (hf : DataW.trod enc Tryd.prog W base spare held fuel 22 [v] = some (d, p)) (hw : Fits Tryd.prog 22 d) :
    ∃ us : List (List UInt8 × List UInt8), Us W v us ∧ ∀ u ∈ us, u.2.length ≤ 140737488351232 := by
  obtain ⟨l, ad, c, h1, h2, h3, h4, _, h5⟩ := open_cells (α := List UInt8 × List UInt8) (fun cs u => ∃ s, cs = [.string (str u.1), s] ∧ u.1.length ≤ 9223372036854775807 ∧ Bs W s u.2 ∧ u.2.length ≤ 140737488351232) Tryd.underlying22 (C := 2) (by kernel_rfl) (by omega)
    (fun n cs d p hf hw hl => open_user hsp cs d p hf hw hl) hf hsp hw
  refine ⟨l, ⟨ad, c, h1, h2, h3, h4, fun h0 => ?_⟩, fun u hu => ?_⟩
  · obtain ⟨b, o, e, h6⟩ := h5 h0
    refine ⟨b, o, e, fun i hi => ?_⟩
    obtain ⟨cs, c1, c2, s, rfl, c3, c4, _⟩ := h6 i hi
    exact ⟨c3, c2 0 (by omega), s, c2 1 (by omega), c4⟩
  · obtain ⟨i, hi, rfl⟩ := List.getElem_of_mem hu
    obtain ⟨b, o, e, h6⟩ := h5 (by omega)
    obtain ⟨cs, c1, c2, s, rfl, c3, c4, c5⟩ := h6 i hi
    exact c5

theorem open_config {H : Type} {enc : TypeId × Value → H} {W : World} {base b0 : Nat} {r : Reach} {spare : Nat → Bool} {held : Bool} {v : Value} {d : DataW H} {p : List MemPlace} (hsp : ∀ b, spare b = true) (hv : Value.okWide Tryd.prog W r b0 24 v) (h : DataW.Trod enc Tryd.prog W base spare held 24 v d p) (hw : Fits Tryd.prog 24 d) :
    ∃ (og : Int) (op : Bool) (uv : Value) (us : List (List UInt8 × List UInt8)), v = .agg #[.int .i64 og, .bool op, uv] ∧ (Lit.int .i64 og).wf = true ∧ Us W uv us ∧ ∀ u ∈ us, u.2.length ≤ 140737488351232 := by
  obtain ⟨cs, rfl, hsz⟩ := okWide_struct Tryd.underlying24 hv
  rw [show Tryd.prog.cellsOf 24 = 3 by kernel_rfl] at hsz
  obtain ⟨l⟩ := cs
  match l, hsz with
  | [c0, c1, c2], _ =>
    obtain ⟨fuel, hf⟩ := h
    obtain ⟨xs, n', _, hx, _, hxl, hg⟩ := DataW.trod_struct Tryd.underlying24 hf
    simp only [Prod.mk.injEq] at hx
    match xs, hxl with
    | [y0, y1, y2], _ =>
      rw [hx.1] at hw
      have g0 := field_at hg 0 3 0 c0 rfl (by kernel_rfl) rfl
      have g1 := field_at hg 1 4 1 c1 rfl (by kernel_rfl) rfl
      have g2 := field_at hg 2 22 2 c2 rfl (by kernel_rfl) rfl
      obtain ⟨og, e0, _, w0⟩ := DataW.trod_int Tryd.underlying3 (x := y0) g0
      obtain ⟨op, e1, _⟩ := DataW.trod_bool Tryd.underlying4 (x := y1) g1
      obtain ⟨us, hU, hUl⟩ := open_users hsp (d := y2.1) (p := y2.2) g2 (hw.field Tryd.underlying24 (j := 2) rfl rfl)
      have e0' : c0 = .int .i64 og := by simpa [Value.cells] using e0
      have e1' : c1 = .bool op := by simpa [Value.cells] using e1
      exact ⟨og, op, c2, us, by rw [e0', e1'], w0, by simpa [Value.cells] using hU, hUl⟩

theorem open_packet {H : Type} {enc : TypeId × Value → H} {W : World} {base b0 : Nat} {r : Reach} {spare : Nat → Bool} {held : Bool} {v : Value} {d : DataW H} {p : List MemPlace} (hsp : ∀ b, spare b = true) (hv : Value.okWide Tryd.prog W r b0 34 v) (h : DataW.Trod enc Tryd.prog W base spare held 34 v d p) (hw : Fits Tryd.prog 34 d) :
    ∃ (x0 x1 x2 x3 x4 x5 x6 x7 x8 x9 x10 x11 x12 x13 x14 x15 x16 x17 x18 x19 x20 : Value) (hu hp : Bool) (N P : List UInt8) (pv : Value) (pr : Bool), v = .agg #[x0, x1, x2, x3, x4, x5, x6, x7, x8, x9, x10, x11, x12, x13, x14, x15, x16, x17, x18, x19, x20, .bool hu, .string (str N), .bool hp, pv, .bool pr] ∧ Bs W pv P := by
  obtain ⟨cs, rfl, hsz⟩ := okWide_struct Tryd.underlying34 hv
  rw [show Tryd.prog.cellsOf 34 = 26 by kernel_rfl] at hsz
  obtain ⟨l⟩ := cs
  match l, hsz with
  | [x0, x1, x2, x3, x4, x5, x6, x7, x8, x9, x10, x11, x12, x13, x14, x15, x16, x17, x18, x19, x20, c21, c22, c23, c24, c25], _ =>
    obtain ⟨fuel, hf⟩ := h
    obtain ⟨xs, n', _, hx, _, hxl, hg⟩ := DataW.trod_struct Tryd.underlying34 hf
    simp only [Prod.mk.injEq] at hx
    rw [hx.1] at hw
    have hxl' : xs.length = 22 := hxl
    have g17 := field_at hg 17 4 21 c21 rfl (by kernel_rfl) rfl
    have g18 := field_at hg 18 9 22 c22 rfl (by kernel_rfl) rfl
    have g19 := field_at hg 19 4 23 c23 rfl (by kernel_rfl) rfl
    have g20 := field_at hg 20 25 24 c24 rfl (by kernel_rfl) rfl
    have g21 := field_at hg 21 4 25 c25 rfl (by kernel_rfl) rfl
    rw [List.getElem?_eq_getElem (by omega)] at g17 g18 g19 g20 g21
    obtain ⟨hu, e0, _⟩ := DataW.trod_bool Tryd.underlying4 g17
    obtain ⟨s, e1, _, _⟩ := DataW.trod_string Tryd.underlying9 g18
    obtain ⟨hp, e2, _⟩ := DataW.trod_bool Tryd.underlying4 g19
    obtain ⟨pr, e3, _⟩ := DataW.trod_bool Tryd.underlying4 g21
    obtain ⟨N, rfl, hN⟩ := str_of s
    obtain ⟨P, hP, _⟩ := open_bsw (v := c24) Tryd.underlying25 Tryd.underlying5 (by kernel_rfl) (by kernel_rfl) (d := (xs[20]'(by omega)).1) (p := (xs[20]'(by omega)).2) g20 hsp (hw.field Tryd.underlying34 (j := 20) rfl (by rw [List.getElem?_map, List.getElem?_eq_getElem (by omega)]; rfl))
    have e0' : c21 = .bool hu := by simpa [Value.cells] using e0
    have e1' : c22 = .string (str N) := by simpa [Value.cells] using e1
    have e2' : c23 = .bool hp := by simpa [Value.cells] using e2
    have e3' : c25 = .bool pr := by simpa [Value.cells] using e3
    exact ⟨x0, x1, x2, x3, x4, x5, x6, x7, x8, x9, x10, x11, x12, x13, x14, x15, x16, x17, x18, x19, x20, hu, hp, N, P, c24, pr, by rw [e0', e1', e2', e3'], hP⟩
end Go.Proofs.YtbfelcgjocpgaaaDoor
