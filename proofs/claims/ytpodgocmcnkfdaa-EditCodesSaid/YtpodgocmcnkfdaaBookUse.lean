
import Derived.Test.YtpodgocmcnkfdaaCloseB
namespace Go.Proofs.Ytpodgocmcnkfdaa
open Go.RowKit

theorem Bk.start {tb ts te : Nat} (w : World) {B : Nat} (hB : B ≤ w.heap.size) : Bk tb ts te (w.alloc (.cells (BkCells (.slice none 0 0) (.slice none 0 0)) tb)) B w.heap.size [] [] [] :=
  ⟨hB, ⟨_, _, heap_alloc_new w _, World.ownsRow_nil _ _ _ _, World.ownsRow_nil _ _ _ _, fun k hk => by simp [Value.ownBlock] at hk⟩, fun i hi => by simp at hi, .nil, fun v hv => by simp at hv⟩

theorem Bk.vs_lt {tb ts te : Nat} {w : World} {B K : Nat} {vs us : List Value} {ps : List (List UInt8)} (h : Bk tb ts te w B K vs us ps) : (∀ v ∈ vs, ∀ k, v.ownBlock = some k → k < w.heap.size) ∧ (∀ u ∈ us, ∀ k, u.ownBlock = some k → k < w.heap.size) := by
  obtain ⟨v0, v1, h0, h1, h2, h3⟩ := h.rows
  have l1 : vs.length = ps.length := by have := h1.1; omega
  have l2 : us.length = ps.length := by have := h2.1; omega
  refine ⟨fun v hv k hk => ?_, fun u hu k hk => ?_⟩
  · obtain ⟨i, hi, rfl⟩ := List.getElem_of_mem hv
    obtain ⟨a, b, e1, e2, e3, e4⟩ := h.each i (by omega)
    rw [List.getElem?_eq_getElem hi] at e1
    obtain rfl := Option.some.inj e1
    exact (e3.lt k hk).2
  · obtain ⟨i, hi, rfl⟩ := List.getElem_of_mem hu
    obtain ⟨a, b, e1, e2, e3, e4⟩ := h.each i (by omega)
    rw [List.getElem?_eq_getElem hi] at e2
    obtain rfl := Option.some.inj e2
    exact (e4.lt k hk).2

/-- What is made behind the book is unlike all in it. -/
theorem unlike_new {vs : List Value} {S : Nat} (h : ∀ v ∈ vs, ∀ k, v.ownBlock = some k → k < S) {u : Value} (hu : ∀ k, u.ownBlock = some k → S ≤ k) : ∀ v ∈ vs, Unlike v u := by
  intro v hv k hk hc
  have := h v hv k hk
  have := hu k hc
  omega
theorem unlike_old {us : List Value} {S : Nat} {v : Value} (hv : ∀ k, v.ownBlock = some k → k < S) (h : ∀ u ∈ us, ∀ k, u.ownBlock = some k → S ≤ k) : ∀ u ∈ us, Unlike v u := by
  intro u hu k hk hc
  have := h u hu k hc
  have := hv k hk
  omega

end Go.Proofs.Ytpodgocmcnkfdaa
