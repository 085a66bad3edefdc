/- What all claims of this seat have in common: the witness's world; edits that came in. -/
import Derived.Test.YtpodgocmcnkfdaaRows
import Derived.Test.YtpodgocmcnkfdaaChecked
import Derived.Test.YtpodgocmcnkfdaaOpenV
import Derived.Test.YtpodgocmcnkfdaaEds
import Derived.Lib.LaidIn
import Derived.Deep.DeepHandedRow
import Derived.Deep.DeepWitnessRowRef
import Derived.PinnedBridge
namespace Go.Proofs.Ytpodgocmcnkfdaa
open Go.Shelf Go.ChangeShapes Go.WideShapes Go.ChangeAt Go.RowKit Go.Lib

theorem own : ownKnob Try.prog.godebug = none := by kernel_rfl

/-- A world for the witness: the settled one. -/
noncomputable def laidWorld (os : Os) : World := World.holding Try.prog os ⟨#[], #[], []⟩
abbrev laidList : List (String × DataW Unit) := []
theorem laid_met (os : Os) (args : Array Value) : laidMet Try.prog laidList ((laidWorld os).forCall (fun _ _ => 0) ⟨#[], args, []⟩).memory :=
  (LaidIn.of_run (l := laidList) [] 8 (by kernel_rfl) (by kernel_rfl) (by kernel_rfl) (by kernel_rfl)).met

theorem open_isw {H : Type} {enc : TypeId × Value → H} {W : World} {base fuel : Nat} {spare : Nat → Bool} {held : Bool} {v : Value} {d : DataW H} {p : List MemPlace} (hsp : ∀ b, spare b = true)
    (hf : DataW.trod enc Try.prog W base spare held fuel 25 [v] = some (d, p)) : ∃ l : List Int, Is W v l ∧ ∀ n ∈ l, (Lit.int .i64 n).wf = true := by
  rcases open_ints Try.underlying25 Try.underlying3 (by kernel_rfl) hf with ⟨hcs, hx⟩ | ⟨a, len, cap, zs, hcs, _, hl, hm, hz, hx, hcell, hwz⟩
  · simp only [List.cons.injEq, and_true] at hcs
    rw [hcs]
    exact ⟨[], ⟨none, 0, rfl, Rd.nil _ _ _, Nat.le_refl _, by omega, fun _ => rfl⟩, fun n hn => by cases hn⟩
  · simp only [List.cons.injEq, and_true] at hcs
    rw [hcs]
    rw [hsp] at hz
    simp only [if_true] at hz
    unfold maxLen at hm
    have hlen : (zs.take len).length = len := by rw [List.length_take]; omega
    refine ⟨zs.take len, ⟨some a, cap, by rw [hlen], ⟨by simp, fun hn => ?_⟩, by rw [hlen]; exact hl, by omega, fun h => by cases h⟩, fun n hn => hwz n (List.mem_of_mem_take hn)⟩
    rw [hlen] at hn ⊢
    have hspot := plain_addr (hcell 0 (by omega))
    refine ⟨a.block, a.off, by rw [← hspot], fun j hj => ?_⟩
    have hj2 := hcell j (by omega)
    have e1 : a.add j = ⟨a.block, a.off + j, none⟩ := by
      conv => lhs; rw [hspot]
      rw [Addr.add_lit]
    rw [e1] at hj2
    rw [hj2]
    have hjz : j < zs.length := by omega
    simp [List.getD, hjz, show j < len by omega]

instance : Inhabited Ed := ⟨⟨0, 0, 0, [], []⟩⟩
/-- The cells of an edit. -/
def ECells (W : World) (cs : List Value) (e : Ed) : Prop := ∃ x y, cs = [.int .i64 e.log, .int .i64 e.next, .int .i64 e.seq, x, y] ∧ EdC W x y e
theorem open_edit_at {H : Type} {enc : TypeId × Value → H} {W : World} {base n : Nat} {spare : Nat → Bool} {held : Bool} (hsp : ∀ b, spare b = true) (cs : List Value) (d : DataW H) (p : List MemPlace) (hf : DataW.trod enc Try.prog W base spare held n 27 cs = some (d, p)) (hw : Fits Try.prog 27 d) (hl : cs.length = 5) :
    ∃ e : Ed, ECells W cs e := by
  match cs, hl with
  | [c0, c1, c2, c3, c4], _ =>
    obtain ⟨xs, n', _, hx, _, hxl, hg⟩ := DataW.trod_struct Try.underlying27 hf
    simp only [Prod.mk.injEq] at hx
    match xs, hxl with
    | [y0, y1, y2, y3, y4], _ =>
      rw [hx.1] at hw
      have g0 := field_at hg 0 3 0 c0 rfl (by kernel_rfl) rfl
      have g1 := field_at hg 1 3 1 c1 rfl (by kernel_rfl) rfl
      have g2 := field_at hg 2 3 2 c2 rfl (by kernel_rfl) rfl
      have g3 := field_at hg 3 22 3 c3 rfl (by kernel_rfl) rfl
      have g4 := field_at hg 4 25 4 c4 rfl (by kernel_rfl) rfl
      obtain ⟨add, hadd⟩ := open_places hsp (d := y3.1) (p := y3.2) g3 (hw.field Try.underlying27 (j := 3) rfl rfl)
      obtain ⟨dr, hdr, hwf⟩ := open_isw hsp (d := y4.1) (p := y4.2) g4
      obtain ⟨a, e0, _, _⟩ := DataW.trod_int Try.underlying3 (x := y0) g0
      obtain ⟨b, e1, _, _⟩ := DataW.trod_int Try.underlying3 (x := y1) g1
      obtain ⟨c, e2, _, _⟩ := DataW.trod_int Try.underlying3 (x := y2) g2
      have e0' : c0 = .int .i64 a := by simpa using e0
      have e1' : c1 = .int .i64 b := by simpa using e1
      have e2' : c2 = .int .i64 c := by simpa using e2
      exact ⟨⟨a, b, c, add, dr⟩, c3, c4, by rw [e0', e1', e2'], ⟨hadd, hdr, hwf⟩⟩

set_option maxRecDepth 100000 in
theorem open_edit {H : Type} {enc : TypeId × Value → H} {W : World} {base b0 : Nat} {r : Reach} {spare : Nat → Bool} {held : Bool} {v : Value} {d : DataW H} {p : List MemPlace} (hsp : ∀ b, spare b = true) (hv : Value.okWide Try.prog W r b0 27 v) (h : DataW.Trod enc Try.prog W base spare held 27 v d p) (hw : Fits Try.prog 27 d) :
    ∃ (e : Ed) (x y : Value), v = .agg #[.int .i64 e.log, .int .i64 e.next, .int .i64 e.seq, x, y] ∧ EdC W x y e := by
  obtain ⟨cs, rfl, hsz⟩ := okWide_struct Try.underlying27 hv
  rw [show Try.prog.cellsOf 27 = 5 by kernel_rfl] at hsz
  obtain ⟨l⟩ := cs
  obtain ⟨fuel, hf⟩ := h
  obtain ⟨e, x, y, hc, he⟩ := open_edit_at hsp l d p (by simpa [Value.cells] using hf) hw (by simpa using hsz)
  exact ⟨e, x, y, by rw [hc], he⟩

theorem open_eds {H : Type} {enc : TypeId × Value → H} {W : World} {base : Nat} {spare : Nat → Bool} {held : Bool} {v : Value} {d : DataW H} {p : List MemPlace} (hsp : ∀ b, spare b = true)
    (h : DataW.Trod enc Try.prog W base spare held 44 v d p) (hs : ∃ a len cap, v = .slice a len cap) (hw : Fits Try.prog 44 d) : ∃ l : List Ed, Eds W v l := by
  obtain ⟨a0, l0, c0, rfl⟩ := hs
  obtain ⟨fuel, hf⟩ := h
  obtain ⟨l, ad, c, h1, h2, h3, h4, h6, h5⟩ := open_cells (α := Ed) (ECells W) Try.underlying44 (C := 5) (by kernel_rfl) (by omega)
    (fun n cs d p hf hw hl => open_edit_at hsp cs d p hf hw hl) hf hsp hw
  refine ⟨l, ad, c, h1, h2, h3, h4, fun h0 => ?_⟩
  obtain ⟨b, o, e, h7⟩ := h5 h0
  refine ⟨b, o, e, fun i hi => ?_⟩
  obtain ⟨cs, c1, c2, k, v, rfl, c3⟩ := h7 i hi
  exact ⟨k, v, ⟨c2 0 (by omega), c2 1 (by omega), c2 2 (by omega), c2 3 (by omega), c2 4 (by omega)⟩, c3⟩
end Go.Proofs.Ytpodgocmcnkfdaa
