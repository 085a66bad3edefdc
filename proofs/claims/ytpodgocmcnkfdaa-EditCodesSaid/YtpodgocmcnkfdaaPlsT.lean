/- Parts of rows of tables. -/
import Derived.Test.YtpodgocmcnkfdaaPlc
namespace Go.Proofs.Ytpodgocmcnkfdaa
open Go.RowKit

theorem Pls.cap {w : World} {a : Option Addr} {n c : Nat} {l : List Pl} (h : Pls w (.slice a n c) l) : n ≤ c ∧ c ≤ 9223372036854775807 := by
  obtain ⟨ad, c', e, h1, h2, _⟩ := h
  simp only [Value.slice.injEq] at e
  obtain ⟨rfl, rfl, rfl⟩ := e
  exact ⟨h1, h2⟩
theorem Pls.head {w : World} {a : Option Addr} {n c : Nat} {l : List Pl} (h : Pls w (.slice a n c) l) (h0 : 0 < l.length) : ∃ b o, a = some ⟨b, o, none⟩ := by
  obtain ⟨ad, c', e, h1, h2, h3, h4⟩ := h
  simp only [Value.slice.injEq] at e
  obtain ⟨rfl, rfl, rfl⟩ := e
  obtain ⟨b, o, e, _⟩ := h4 h0
  exact ⟨b, o, e⟩
theorem Pls.take {w : World} {a : Option Addr} {n c j : Nat} {l : List Pl} (h : Pls w (.slice a n c) l) (hj : j ≤ l.length) : Pls w (.slice a j c) (l.take j) := by
  obtain ⟨ad, c', e, h1, h2, h3, h4⟩ := h
  simp only [Value.slice.injEq] at e
  obtain ⟨rfl, rfl, rfl⟩ := e
  have hl : (l.take j).length = j := by rw [List.length_take]; omega
  refine ⟨a, c, by rw [hl], by omega, h2, h3, fun h0 => ?_⟩
  obtain ⟨b, o, e, h5⟩ := h4 (by omega)
  refine ⟨b, o, e, fun i hi => ?_⟩
  rw [List.getElem_take]
  exact h5 i (by omega)
end Go.Proofs.Ytpodgocmcnkfdaa
