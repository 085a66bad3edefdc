/- Things that items are made of, that came in. -/
import Derived.Test.YtgimbocoamnkjaaGreatDoorM33
import Derived.Test.YtgimbocoamnkjaaGreatDoorM29
namespace Go.Proofs.YtgimbocoamnkjaaGreatDoor
open Go.ChangeShapes Go.WideShapes Go.ChangeAt Go.RowKit

/-- The cells of such a thing. -/
def MCells (W : World) (cs : List Value) (m : Md) : Prop := ∃ a0 a1 a2 a3 b1 b2 b3 b4, cs = [a0, a1, a2, a3, .int .i64 m.qos, .int .i64 m.sub, .bool m.retain, .bool m.keep, .int .i64 m.life, .int .i64 m.fm, b1, b2, b3, b4, .int .i64 m.origin, .int .i64 m.number] ∧ MdC W a0 a1 a2 a3 b1 b2 b3 b4 m ∧ MdB m

theorem i64_of {x : Int} (h : (Lit.int .i64 x).wf = true) : I64 x := by
  simp [Lit.wf, IntKind.min, IntKind.max, IntKind.signed, IntKind.bits] at h
  exact ⟨h.1, by omega⟩

/-- A struct's field of several cells. -/
theorem field_in {H : Type} {enc : TypeId × Value → H} {P : Program} {W : World} {base n : Nat} {spare : Nat → Bool} {held : Bool} {fs : Array Field} {cs : List Value} {xs : List (DataW H × List MemPlace)}
    (hg : ∀ (i : Nat) (f : Field), fs[i]? = some f → DataW.trod enc P W base spare held n f.type ((cs.drop f.offset).take (P.cellsOf f.type)) = xs[i]?)
    (i t off c : Nat) (l : List Value) (hf : fs[i]?.map (fun f => (f.type, f.offset)) = some (t, off)) (hc : P.cellsOf t = c) (hv : (cs.drop off).take c = l) : DataW.trod enc P W base spare held n t l = xs[i]? := by
  cases h : fs[i]? with
  | none => rw [h] at hf; simp at hf
  | some f =>
    rw [h] at hf
    simp only [Option.map_some, Option.some.injEq, Prod.mk.injEq] at hf
    obtain ⟨rfl, rfl⟩ := hf
    have h1 := hg i f h
    rw [hc, hv] at h1
    exact h1

theorem open_isw {H : Type} {enc : TypeId × Value → H} {W : World} {base fuel : Nat} {spare : Nat → Bool} {held : Bool} {v : Value} {d : DataW H} {p : List MemPlace} (hsp : ∀ b, spare b = true)
    (hf : DataW.trod enc Tryz.prog W base spare held fuel 25 [v] = some (d, p)) : ∃ l : List Int, Is W v l ∧ ∀ n ∈ l, (Lit.int .i64 n).wf = true := by
  rcases open_ints Tryz.underlying25 Tryz.underlying3 (by kernel_rfl) hf with ⟨hcs, hx⟩ | ⟨a, len, cap, zs, hcs, _, hl, hm, hz, hx, hcell, hwz⟩
  · simp only [List.cons.injEq, and_true] at hcs
    rw [hcs]
    exact ⟨[], ⟨none, 0, rfl, Rd.nil _ _ _, Nat.le_refl _, by omega, fun _ => rfl⟩, fun n hn => by cases hn⟩
  · simp only [List.cons.injEq, and_true] at hcs
    rw [hcs]
    rw [hsp] at hz
    simp only [if_true] at hz
    unfold maxLen at hm
    have hlen : (zs.take len).length = len := by rw [List.length_take]; omega
    refine ⟨zs.take len, ⟨some a, cap, by rw [hlen], ⟨by simp, fun hn => ?_⟩, by rw [hlen]; exact hl, by omega, fun h => by cases h⟩, fun n hn => hwz n (List.mem_of_mem_take hn)⟩
    rw [hlen] at hn ⊢
    have hspot := plain_addr (hcell 0 (by omega))
    refine ⟨a.block, a.off, by rw [← hspot], fun j hj => ?_⟩
    have hj2 := hcell j (by omega)
    have e1 : a.add j = ⟨a.block, a.off + j, none⟩ := by
      conv => lhs; rw [hspot]
      rw [Addr.add_lit]
    rw [e1] at hj2
    rw [hj2]
    have hjz : j < zs.length := by omega
    simp [List.getD, hjz, show j < len by omega]

theorem open_prs {H : Type} {enc : TypeId × Value → H} {W : World} {base n : Nat} {spare : Nat → Bool} {held : Bool} (hsp : ∀ b, spare b = true) (c0 c1 c2 c3 : Value) (d : DataW H) (p : List MemPlace) (hf : DataW.trod enc Tryz.prog W base spare held n 24 [c0, c1, c2, c3] = some (d, p)) (hw : Fits Tryz.prog 24 d) :
    ∃ (fm : Int) (C R U : List UInt8), c0 = .int .i64 fm ∧ I64 fm ∧ Bs W c1 C ∧ Bs W c2 R ∧ Bs W c3 U := by
  obtain ⟨xs, n', _, hx, _, hxl, hg⟩ := DataW.trod_struct Tryz.underlying24 hf
  simp only [Prod.mk.injEq] at hx
  match xs, hxl with
  | [y0, y1, y2, y3], _ =>
    rw [hx.1] at hw
    have g0 := field_at hg 0 3 0 c0 rfl (by kernel_rfl) rfl
    have g1 := field_at hg 1 22 1 c1 rfl (by kernel_rfl) rfl
    have g2 := field_at hg 2 22 2 c2 rfl (by kernel_rfl) rfl
    have g3 := field_at hg 3 22 3 c3 rfl (by kernel_rfl) rfl
    obtain ⟨a, e0, _, ha⟩ := DataW.trod_int Tryz.underlying3 (x := y0) g0
    obtain ⟨C, hC, _⟩ := open_bsw Tryz.underlying22 Tryz.underlying5 (by kernel_rfl) (by kernel_rfl) (d := y1.1) (p := y1.2) g1 hsp (hw.field Tryz.underlying24 (j := 1) rfl rfl)
    obtain ⟨R, hR, _⟩ := open_bsw Tryz.underlying22 Tryz.underlying5 (by kernel_rfl) (by kernel_rfl) (d := y2.1) (p := y2.2) g2 hsp (hw.field Tryz.underlying24 (j := 2) rfl rfl)
    obtain ⟨U, hU, _⟩ := open_bsw Tryz.underlying22 Tryz.underlying5 (by kernel_rfl) (by kernel_rfl) (d := y3.1) (p := y3.2) g3 hsp (hw.field Tryz.underlying24 (j := 3) rfl rfl)
    exact ⟨a, C, R, U, by simpa using e0, i64_of ha, hC, hR, hU⟩

theorem open_made {H : Type} {enc : TypeId × Value → H} {W : World} {base n : Nat} {spare : Nat → Bool} {held : Bool} (hsp : ∀ b, spare b = true) (cs : List Value) (d : DataW H) (p : List MemPlace) (hf : DataW.trod enc Tryz.prog W base spare held n 27 cs = some (d, p)) (hw : Fits Tryz.prog 27 d) (hl : cs.length = 16) :
    ∃ m : Md, MCells W cs m := by
  match cs, hl with
  | [c0, c1, c2, c3, c4, c5, c6, c7, c8, c9, c10, c11, c12, c13, c14, c15], _ =>
    obtain ⟨xs, n', _, hx, _, hxl, hg⟩ := DataW.trod_struct Tryz.underlying27 hf
    simp only [Prod.mk.injEq] at hx
    match xs, hxl with
    | [y0, y1, y2, y3, y4, y5, y6, y7, y8, y9, y10, y11, y12], _ =>
      rw [hx.1] at hw
      have g0 := field_at hg 0 22 0 c0 rfl (by kernel_rfl) rfl
      have g1 := field_at hg 1 22 1 c1 rfl (by kernel_rfl) rfl
      have g2 := field_at hg 2 22 2 c2 rfl (by kernel_rfl) rfl
      have g3 := field_at hg 3 22 3 c3 rfl (by kernel_rfl) rfl
      have g4 := field_at hg 4 3 4 c4 rfl (by kernel_rfl) rfl
      have g5 := field_at hg 5 3 5 c5 rfl (by kernel_rfl) rfl
      have g6 := field_at hg 6 4 6 c6 rfl (by kernel_rfl) rfl
      have g7 := field_at hg 7 4 7 c7 rfl (by kernel_rfl) rfl
      have g8 := field_at hg 8 3 8 c8 rfl (by kernel_rfl) rfl
      have g9 := field_in hg 9 24 9 4 [c9, c10, c11, c12] rfl (by kernel_rfl) rfl
      have g10 := field_at hg 10 25 13 c13 rfl (by kernel_rfl) rfl
      have g11 := field_at hg 11 3 14 c14 rfl (by kernel_rfl) rfl
      have g12 := field_at hg 12 3 15 c15 rfl (by kernel_rfl) rfl
      obtain ⟨T, hT, _⟩ := open_bsw Tryz.underlying22 Tryz.underlying5 (by kernel_rfl) (by kernel_rfl) (d := y0.1) (p := y0.2) g0 hsp (hw.field Tryz.underlying27 (j := 0) rfl rfl)
      obtain ⟨F, hF, _⟩ := open_bsw Tryz.underlying22 Tryz.underlying5 (by kernel_rfl) (by kernel_rfl) (d := y1.1) (p := y1.2) g1 hsp (hw.field Tryz.underlying27 (j := 1) rfl rfl)
      obtain ⟨S, hS, _⟩ := open_bsw Tryz.underlying22 Tryz.underlying5 (by kernel_rfl) (by kernel_rfl) (d := y2.1) (p := y2.2) g2 hsp (hw.field Tryz.underlying27 (j := 2) rfl rfl)
      obtain ⟨Y, hY, _⟩ := open_bsw Tryz.underlying22 Tryz.underlying5 (by kernel_rfl) (by kernel_rfl) (d := y3.1) (p := y3.2) g3 hsp (hw.field Tryz.underlying27 (j := 3) rfl rfl)
      obtain ⟨fm, C, R, U, e9, hfm, hC, hR, hU⟩ := open_prs (d := y9.1) (p := y9.2) hsp c9 c10 c11 c12 g9 (hw.field Tryz.underlying27 (j := 9) rfl rfl)
      obtain ⟨I, hI, _⟩ := open_isw (d := y10.1) (p := y10.2) hsp g10
      obtain ⟨q, e4, _, _⟩ := DataW.trod_int Tryz.underlying3 (x := y4) g4
      obtain ⟨s, e5, _, _⟩ := DataW.trod_int Tryz.underlying3 (x := y5) g5
      obtain ⟨rt, e6, _⟩ := DataW.trod_bool Tryz.underlying4 (x := y6) g6
      obtain ⟨kp, e7, _⟩ := DataW.trod_bool Tryz.underlying4 (x := y7) g7
      obtain ⟨li, e8, _, hli⟩ := DataW.trod_int Tryz.underlying3 (x := y8) g8
      obtain ⟨og, e11, _, _⟩ := DataW.trod_int Tryz.underlying3 (x := y11) g11
      obtain ⟨nu, e12, _, _⟩ := DataW.trod_int Tryz.underlying3 (x := y12) g12
      have e4' : c4 = .int .i64 q := by simpa using e4
      have e5' : c5 = .int .i64 s := by simpa using e5
      have e6' : c6 = .bool rt := by simpa using e6
      have e7' : c7 = .bool kp := by simpa using e7
      have e8' : c8 = .int .i64 li := by simpa using e8
      have e11' : c14 = .int .i64 og := by simpa using e11
      have e12' : c15 = .int .i64 nu := by simpa using e12
      exact ⟨⟨T, F, S, Y, q, s, rt, kp, li, fm, C, R, U, I, og, nu⟩, c0, c1, c2, c3, c10, c11, c12, c13, by rw [e4', e5', e6', e7', e8', e9, e11', e12'], ⟨hT, hF, hS, hY, hC, hR, hU, hI⟩, ⟨hfm, i64_of hli⟩⟩

/-! ### steps, rows of them, rows of such things -/
structure Stp where
  d : Int
  n : Int
  m : Int
  yes : Bool
  it : Md
  sub : Sb
instance : Inhabited Md := ⟨⟨[], [], [], [], 0, 0, false, false, 0, 0, [], [], [], [], 0, 0⟩⟩
instance : Inhabited Stp := ⟨⟨0, 0, 0, false, default, ⟨[], 0, false, false, 0, 0⟩⟩⟩
/-- A step's cells. -/
def stC (a0 a1 a2 a3 b1 b2 b3 b4 : Value) (x : Stp) : List Value := [.int .i64 x.d, .int .i64 x.n, .int .i64 x.m, .bool x.yes, a0, a1, a2, a3, .int .i64 x.it.qos, .int .i64 x.it.sub, .bool x.it.retain, .bool x.it.keep, .int .i64 x.it.life, .int .i64 x.it.fm, b1, b2, b3, b4, .int .i64 x.it.origin, .int .i64 x.it.number, .string (str x.sub.filter), .int .i64 x.sub.qos, .bool x.sub.noLocal, .bool x.sub.asPub, .int .i64 x.sub.handling, .int .i64 x.sub.id]
def SCells (W : World) (cs : List Value) (x : Stp) : Prop := ∃ a0 a1 a2 a3 b1 b2 b3 b4, cs = stC a0 a1 a2 a3 b1 b2 b3 b4 x ∧ MdC W a0 a1 a2 a3 b1 b2 b3 b4 x.it ∧ MdB x.it ∧ I64 x.d ∧ I64 x.n ∧ I64 x.m

theorem open_sub {H : Type} {enc : TypeId × Value → H} {W : World} {base n : Nat} {spare : Nat → Bool} {held : Bool} (c0 c1 c2 c3 c4 c5 : Value) (d : DataW H) (p : List MemPlace) (hf : DataW.trod enc Tryz.prog W base spare held n 64 [c0, c1, c2, c3, c4, c5] = some (d, p)) :
    ∃ x : Sb, [c0, c1, c2, c3, c4, c5] = sbP x := by
  obtain ⟨xs, n', _, hx, _, hxl, hg⟩ := DataW.trod_struct Tryz.underlying64 hf
  match xs, hxl with
  | [y0, y1, y2, y3, y4, y5], _ =>
    have g0 := field_at hg 0 9 0 c0 rfl (by kernel_rfl) rfl
    have g1 := field_at hg 1 3 1 c1 rfl (by kernel_rfl) rfl
    have g2 := field_at hg 2 4 2 c2 rfl (by kernel_rfl) rfl
    have g3 := field_at hg 3 4 3 c3 rfl (by kernel_rfl) rfl
    have g4 := field_at hg 4 3 4 c4 rfl (by kernel_rfl) rfl
    have g5 := field_at hg 5 3 5 c5 rfl (by kernel_rfl) rfl
    obtain ⟨s, e0, _, _⟩ := DataW.trod_string Tryz.underlying9 (x := y0) g0
    obtain ⟨N, rfl, _⟩ := str_of s
    obtain ⟨q, e1, _, _⟩ := DataW.trod_int Tryz.underlying3 (x := y1) g1
    obtain ⟨nl, e2, _⟩ := DataW.trod_bool Tryz.underlying4 (x := y2) g2
    obtain ⟨ap, e3, _⟩ := DataW.trod_bool Tryz.underlying4 (x := y3) g3
    obtain ⟨h, e4, _, _⟩ := DataW.trod_int Tryz.underlying3 (x := y4) g4
    obtain ⟨i, e5, _, _⟩ := DataW.trod_int Tryz.underlying3 (x := y5) g5
    have e0' : c0 = .string (str N) := by simpa using e0
    have e1' : c1 = .int .i64 q := by simpa using e1
    have e2' : c2 = .bool nl := by simpa using e2
    have e3' : c3 = .bool ap := by simpa using e3
    have e4' : c4 = .int .i64 h := by simpa using e4
    have e5' : c5 = .int .i64 i := by simpa using e5
    exact ⟨⟨N, q, nl, ap, h, i⟩, by rw [e0', e1', e2', e3', e4', e5']; rfl⟩

theorem open_step {H : Type} {enc : TypeId × Value → H} {W : World} {base n : Nat} {spare : Nat → Bool} {held : Bool} (hsp : ∀ b, spare b = true) (cs : List Value) (d : DataW H) (p : List MemPlace) (hf : DataW.trod enc Tryz.prog W base spare held n 66 cs = some (d, p)) (hw : Fits Tryz.prog 66 d) (hl : cs.length = 26) :
    ∃ x : Stp, SCells W cs x := by
  match cs, hl with
  | [c0, c1, c2, c3, c4, c5, c6, c7, c8, c9, c10, c11, c12, c13, c14, c15, c16, c17, c18, c19, c20, c21, c22, c23, c24, c25], _ =>
    obtain ⟨xs, n', _, hx, _, hxl, hg⟩ := DataW.trod_struct Tryz.underlying66 hf
    simp only [Prod.mk.injEq] at hx
    match xs, hxl with
    | [y0, y1, y2, y3, y4, y5], _ =>
      rw [hx.1] at hw
      have g0 := field_at hg 0 3 0 c0 rfl (by kernel_rfl) rfl
      have g1 := field_at hg 1 3 1 c1 rfl (by kernel_rfl) rfl
      have g2 := field_at hg 2 3 2 c2 rfl (by kernel_rfl) rfl
      have g3 := field_at hg 3 4 3 c3 rfl (by kernel_rfl) rfl
      have g4 := field_in hg 4 27 4 16 [c4, c5, c6, c7, c8, c9, c10, c11, c12, c13, c14, c15, c16, c17, c18, c19] rfl (by kernel_rfl) rfl
      have g5 := field_in hg 5 64 20 6 [c20, c21, c22, c23, c24, c25] rfl (by kernel_rfl) rfl
      obtain ⟨a, e0, _, ha⟩ := DataW.trod_int Tryz.underlying3 (x := y0) g0
      obtain ⟨b, e1, _, hb⟩ := DataW.trod_int Tryz.underlying3 (x := y1) g1
      obtain ⟨c, e2, _, hc⟩ := DataW.trod_int Tryz.underlying3 (x := y2) g2
      obtain ⟨y, e3, _⟩ := DataW.trod_bool Tryz.underlying4 (x := y3) g3
      obtain ⟨m, a0, a1, a2, a3, b1, b2, b3, b4, hm, hmc, hmb⟩ := open_made hsp _ y4.1 y4.2 g4 (hw.field Tryz.underlying66 (j := 4) rfl rfl) rfl
      obtain ⟨u, hu⟩ := open_sub c20 c21 c22 c23 c24 c25 y5.1 y5.2 g5
      have e0' : c0 = .int .i64 a := by simpa using e0
      have e1' : c1 = .int .i64 b := by simpa using e1
      have e2' : c2 = .int .i64 c := by simpa using e2
      have e3' : c3 = .bool y := by simpa using e3
      refine ⟨⟨a, b, c, y, m, u⟩, a0, a1, a2, a3, b1, b2, b3, b4, ?_, hmc, hmb, i64_of ha, i64_of hb, i64_of hc⟩
      rw [e0', e1', e2', e3']
      show _ :: _ :: _ :: _ :: ([c4, c5, c6, c7, c8, c9, c10, c11, c12, c13, c14, c15, c16, c17, c18, c19] ++ [c20, c21, c22, c23, c24, c25]) = _
      rw [hm, hu]
      rfl

/-- A slice reads as steps. -/
def Sps (W : World) (v : Value) (l : List Stp) : Prop := ∃ ad c, v = .slice ad l.length c ∧ l.length ≤ c ∧ c ≤ 9223372036854775807 ∧ (ad = none → c = 0) ∧ (0 < l.length → ∃ b o, ad = some ⟨b, o, none⟩ ∧ ∀ (i : Nat) (h : i < l.length), ∃ cs, cs.length = 26 ∧ (∀ j, j < 26 → W.cell? ⟨b, o + i * 26 + j, none⟩ = cs[j]?) ∧ SCells W cs l[i])
theorem open_steps {H : Type} {enc : TypeId × Value → H} {W : World} {base fuel : Nat} {spare : Nat → Bool} {held : Bool} {v : Value} {d : DataW H} {p : List MemPlace} (hsp : ∀ b, spare b = true) (hf : DataW.trod enc Tryz.prog W base spare held fuel 55 [v] = some (d, p)) (hw : Fits Tryz.prog 55 d) :
    ∃ l : List Stp, Sps W v l := by
  obtain ⟨l, ad, c, h1, h2, h3, h4, h6, h5⟩ := open_cells (α := Stp) (SCells W) Tryz.underlying55 (C := 26) (by kernel_rfl) (by omega)
    (fun n cs d p hf hw hl => open_step hsp cs d p hf hw hl) hf hsp hw
  exact ⟨l, ad, c, h1, h2, h3, h4, h5⟩
theorem Sps.at {W : World} {v : Value} {l : List Stp} (h : Sps W v l) {w : World} (hb : Below W.heap.size W w) (i : Nat) (hi : i < l.length) :
    ∃ g o c, v = .slice (some ⟨g, o, none⟩) l.length c ∧ ∃ a0 a1 a2 a3 b1 b2 b3 b4, (∀ j, j < (stC a0 a1 a2 a3 b1 b2 b3 b4 l[i]).length → w.cell? ⟨g, o + i * 26 + j, none⟩ = (stC a0 a1 a2 a3 b1 b2 b3 b4 l[i])[j]?) ∧ MdC W a0 a1 a2 a3 b1 b2 b3 b4 l[i].it ∧ MdB l[i].it ∧ I64 l[i].d ∧ I64 l[i].n ∧ I64 l[i].m := by
  obtain ⟨ad, c, rfl, _, _, _, h5⟩ := h
  obtain ⟨b, o, rfl, h6⟩ := h5 (by omega)
  obtain ⟨cs, hl, hc, a0, a1, a2, a3, b1, b2, b3, b4, rfl, h7⟩ := h6 i hi
  refine ⟨b, o, c, rfl, a0, a1, a2, a3, b1, b2, b3, b4, fun j hj => ?_, h7⟩
  have := hc j (by rw [← hl]; exact hj)
  rw [List.getElem?_eq_getElem hj] at this ⊢
  exact cell_later hb this
end Go.Proofs.YtgimbocoamnkjaaGreatDoor

/- One thing that an item is made of, that came in. -/
namespace Go.Proofs.YtgimbocoamnkjaaGreatDoor
open Go.ChangeShapes Go.WideShapes Go.ChangeAt Go.RowKit

set_option maxRecDepth 100000 in
theorem open_made_at {H : Type} {enc : TypeId × Value → H} {W : World} {base b0 : Nat} {r : Reach} {spare : Nat → Bool} {held : Bool} {v : Value} {d : DataW H} {p : List MemPlace} (hsp : ∀ b, spare b = true) (hv : Value.okWide Tryz.prog W r b0 27 v) (h : DataW.Trod enc Tryz.prog W base spare held 27 v d p) (hw : Fits Tryz.prog 27 d) :
    ∃ (m : Md) (cs : List Value), v = .agg cs.toArray ∧ MCells W cs m := by
  obtain ⟨cs, rfl, hsz⟩ := okWide_struct Tryz.underlying27 hv
  rw [show Tryz.prog.cellsOf 27 = 16 by kernel_rfl] at hsz
  obtain ⟨l⟩ := cs
  obtain ⟨fuel, hf⟩ := h
  obtain ⟨m, hm⟩ := open_made hsp l d p hf hw (by simpa using hsz)
  exact ⟨m, l, rfl, hm⟩
end Go.Proofs.YtgimbocoamnkjaaGreatDoor
