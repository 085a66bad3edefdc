/- What all claims of this seat have in common: the witness's world; numbers and rows of entries that came in. -/
import Derived.Test.YtgkgahjdjkmmnaaRows
import Derived.Test.YtgkgahjdjkmmnaaChecked
import Derived.Test.YtgkgahjdjkmmnaaOpen
import Derived.Test.YtgkgahjdjkmmnaaOpen09
import Derived.Test.YtgkgahjdjkmmnaaFirst
import Derived.Test.YtgkgahjdjkmmnaaSeenW
import Derived.Lib.LaidIn
import Derived.Deep.DeepHandedRow
import Derived.Deep.DeepWitnessRowRef
import Derived.PinnedBridge
namespace Go.Proofs.Ytgkgahjdjkmmnaa
open Go.Shelf Go.ChangeShapes Go.WideShapes Go.ChangeAt Go.RowKit Go.Lib

theorem own : ownKnob Try.prog.godebug = none := by kernel_rfl

/-- A world for the witness: the settled one. -/
noncomputable def laidWorld (os : Os) : World := World.holding Try.prog os ⟨#[], #[], []⟩
abbrev laidList : List (String × DataW Unit) := []
theorem laid_met (os : Os) (args : Array Value) : laidMet Try.prog laidList ((laidWorld os).forCall (fun _ _ => 0) ⟨#[], args, []⟩).memory :=
  (LaidIn.of_run (l := laidList) [] 8 (by kernel_rfl) (by kernel_rfl) (by kernel_rfl) (by kernel_rfl)).met

theorem open_is {H : Type} {enc : TypeId × Value → H} {W : World} {base : Nat} {spare : Nat → Bool} {held : Bool} {v : Value} {d : DataW H} {p : List MemPlace} (hsp : ∀ b, spare b = true)
    (h : DataW.Trod enc Try.prog W base spare held 38 v d p) (hs : ∃ a len cap, v = .slice a len cap) : ∃ l : List Int, Is W v l := by
  obtain ⟨a0, l0, c0, rfl⟩ := hs
  obtain ⟨fuel, hf⟩ := h
  rcases open_ints Try.underlying38 Try.underlying3 (by kernel_rfl) hf with ⟨hcs, hx⟩ | ⟨a, len, cap, zs, hcs, _, hl, hm, hz, hx, hcell, hwz⟩
  · simp only [Value.cells, List.cons.injEq, and_true] at hcs
    rw [hcs]
    exact ⟨[], ⟨none, 0, rfl, Rd.nil _ _ _, Nat.le_refl _, by omega, fun _ => rfl⟩⟩
  · simp only [Value.cells, List.cons.injEq, and_true] at hcs
    rw [hcs]
    rw [hsp] at hz
    simp only [if_true] at hz
    unfold maxLen at hm
    have hlen : (zs.take len).length = len := by rw [List.length_take]; omega
    refine ⟨zs.take len, ⟨some a, cap, by rw [hlen], ⟨by simp, fun hn => ?_⟩, by rw [hlen]; exact hl, by omega, fun h => by cases h⟩⟩
    rw [hlen] at hn ⊢
    have hspot := plain_addr (hcell 0 (by omega))
    refine ⟨a.block, a.off, by rw [← hspot], fun j hj => ?_⟩
    have hj2 := hcell j (by omega)
    have e1 : a.add j = ⟨a.block, a.off + j, none⟩ := by
      conv => lhs; rw [hspot]
      rw [Addr.add_lit]
    rw [e1] at hj2
    rw [hj2]
    have hjz : j < zs.length := by omega
    simp [List.getD, hjz, show j < len by omega]

theorem open_es {H : Type} {enc : TypeId × Value → H} {W : World} {base : Nat} {spare : Nat → Bool} {held : Bool} {v : Value} {d : DataW H} {p : List MemPlace} (hsp : ∀ b, spare b = true)
    (h : DataW.Trod enc Try.prog W base spare held 24 v d p) (hs : ∃ a len cap, v = .slice a len cap) (hw : Fits Try.prog 24 d) : ∃ l : List Ent, Es W v l := by
  obtain ⟨a0, l0, c0, rfl⟩ := hs
  obtain ⟨fuel, hf⟩ := h
  obtain ⟨l, hl, _⟩ := open_entries hsp hf hw
  exact ⟨l, hl⟩

theorem open_ess {H : Type} {enc : TypeId × Value → H} {W : World} {base : Nat} {spare : Nat → Bool} {held : Bool} {v : Value} {d : DataW H} {p : List MemPlace} (hsp : ∀ b, spare b = true)
    (h : DataW.Trod enc Try.prog W base spare held 22 v d p) (hs : ∃ a len cap, v = .slice a len cap) (hw : Fits Try.prog 22 d) : ∃ ls : List (List Ent), Ess W v ls := by
  obtain ⟨a0, l0, c0, rfl⟩ := hs
  obtain ⟨fuel, hf⟩ := h
  obtain ⟨ls, ad, c, h1, h2, h3, h4, h6, h5⟩ := open_cells (α := List Ent) (fun cs l => ∃ v, cs = [v] ∧ Es W v l) Try.underlying22 (C := 1) (by kernel_rfl) (by omega)
    (fun n cs d p hf hw hl => by
      match cs, hl with
      | [c0], _ =>
        obtain ⟨l, hl, _⟩ := open_entries hsp hf hw
        exact ⟨l, c0, rfl, hl⟩) hf hsp hw
  refine ⟨ls, ad, c, h1, h2, h3, h4, fun h0 => ?_⟩
  obtain ⟨b, o, e, h7⟩ := h5 h0
  refine ⟨b, o, e, fun i hi => ?_⟩
  obtain ⟨cs, c1, c2, v, rfl, c3⟩ := h7 i hi
  refine ⟨v, ?_, c3⟩
  have := c2 0 (by omega)
  simpa using this
end Go.Proofs.Ytgkgahjdjkmmnaa
