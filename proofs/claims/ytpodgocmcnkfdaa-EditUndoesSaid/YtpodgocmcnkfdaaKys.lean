/- Rows of bytes that came in. -/
import Derived.Test.YtpodgocmcnkfdaaOpenW
namespace Go.Proofs.Ytpodgocmcnkfdaa
open Go.ChangeShapes Go.WideShapes Go.ChangeAt Go.RowKit

/-- Rows of bytes that came in, not too many. -/
def Ks (w : World) (v : Value) (ks : List (List UInt8)) : Prop := ∃ ad c, v = .slice ad ks.length c ∧ ks.length ≤ 140737488351232 ∧ (0 < ks.length → ∃ b o, ad = some ⟨b, o, none⟩ ∧ ∀ (i : Nat) (h : i < ks.length), ∃ u, w.cell? ⟨b, o + i, none⟩ = some u ∧ Bs w u ks[i])
theorem Ks.below {w w' : World} {v : Value} {ks : List (List UInt8)} (h : Ks w v ks) (hb : Below w.heap.size w w') : Ks w' v ks := by
  obtain ⟨ad, c, h1, h2, h3⟩ := h
  refine ⟨ad, c, h1, h2, fun h0 => ?_⟩
  obtain ⟨b, o, e, h4⟩ := h3 h0
  refine ⟨b, o, e, fun i hi => ?_⟩
  obtain ⟨u, h5, h6⟩ := h4 i hi
  exact ⟨u, cell_later hb h5, h6.below hb⟩
theorem open_ks {H : Type} {enc : TypeId × Value → H} {W : World} {base : Nat} {spare : Nat → Bool} {held : Bool} {v : Value} {d : DataW H} {p : List MemPlace} (hsp : ∀ b, spare b = true)
    (h : DataW.Trod enc Try.prog W base spare held 49 v d p) (hs : ∃ a len cap, v = .slice a len cap) (hw : Fits Try.prog 49 d) : ∃ ks : List (List UInt8), Ks W v ks := by
  obtain ⟨a0, l0, c0, rfl⟩ := hs
  obtain ⟨fuel, hf⟩ := h
  obtain ⟨ls, ad, c, h1, h2, h3, h4, h6, h5⟩ := open_cells (α := List UInt8) (fun cs l => ∃ v, cs = [v] ∧ Bs W v l) Try.underlying49 (C := 1) (by kernel_rfl) (by omega)
    (fun n cs d p hf hw hl => by
      match cs, hl with
      | [c0], _ =>
        obtain ⟨K, hK, hKl⟩ := open_bsw Try.underlying39 Try.underlying5 (by kernel_rfl) (by kernel_rfl) hf hsp hw
        exact ⟨K, c0, rfl, hK⟩) hf hsp hw
  have hby : Try.prog.bytesOf 39 = 24 := by kernel_rfl
  rw [hby] at h6
  refine ⟨ls, ad, c, h1, by omega, fun h0 => ?_⟩
  obtain ⟨b, o, e, h7⟩ := h5 h0
  refine ⟨b, o, e, fun i hi => ?_⟩
  obtain ⟨cs, c1, c2, v, rfl, c3⟩ := h7 i hi
  refine ⟨v, ?_, c3⟩
  have := c2 0 (by omega)
  simpa using this
end Go.Proofs.Ytpodgocmcnkfdaa
