/- Slices of numbers, as they read. -/
import Derived.Test.YtpodgocmcnkfdaaKeep
namespace Go.Proofs.Ytpodgocmcnkfdaa
open Go.RowKit

def iv (l : List Int) : List Value := l.map fun x => Value.int .i64 x
/-- The slice value v reads as the numbers l. -/
def Is (w : World) (v : Value) (l : List Int) : Prop :=
  ∃ ad c, v = .slice ad l.length c ∧ Rd w 1 ad l.length (l.map fun x => Value.int .i64 x) ∧ l.length ≤ c ∧ c ≤ 9223372036854775807 ∧ (ad = none → c = 0)
theorem Is.below {w w' : World} {v : Value} {l : List Int} (h : Is w v l) (hb : Below w.heap.size w w') : Is w' v l := by
  obtain ⟨ad, c, rfl, hr, h1, h2, h3⟩ := h
  exact ⟨ad, c, rfl, hr.below hb, h1, h2, h3⟩
theorem Is.at {w : World} {ad : Option Addr} {n c : Nat} {l : List Int} (h : Is w (.slice ad n c) l) (k : Nat) (hk : k < l.length) : ∃ b o, ad = some ⟨b, o, none⟩ ∧ w.cell? ⟨b, o + k, none⟩ = some (.int .i64 l[k]) := by
  obtain ⟨ad', c', e, hr, h1, h2, h3⟩ := h
  simp only [Value.slice.injEq] at e
  obtain ⟨rfl, rfl, rfl⟩ := e
  obtain ⟨b, o, rfl, hc⟩ := hr.2 (by omega)
  refine ⟨b, o, rfl, ?_⟩
  rw [hc k (by omega)]
  simp [hk]

theorem Is.len {w : World} {v : Value} {l : List Int} (h : Is w v l) : l.length ≤ 9223372036854775807 := by
  obtain ⟨ad, c, _, _, h1, h2, _⟩ := h
  omega
theorem Is.take {w : World} {a : Option Addr} {n c j : Nat} {l : List Int} (h : Is w (.slice a n c) l) (hj : j ≤ l.length) : Is w (.slice a j c) (l.take j) := by
  obtain ⟨ad, c', e, h1, h2, h3, h4⟩ := h
  simp only [Value.slice.injEq] at e
  obtain ⟨rfl, rfl, rfl⟩ := e
  have hl : (l.take j).length = j := by rw [List.length_take]; omega
  refine ⟨a, c, by rw [hl], ?_, by omega, h3, h4⟩
  rw [hl]
  have := rd_take h1 hj
  rwa [← List.map_take] at this
theorem is_of_owns {w : World} {B n c : Nat} {ad : Option Addr} {L : List Int} (h : w.ownsRow B 3 1 (.slice ad n c) n (iv L)) (hn : L.length = n) : Is w (.slice ad n c) L := by
  have hc := owns_cap h
  unfold maxLen at hc
  subst hn
  exact ⟨ad, c, rfl, rd_of_owns h, hc.1, by omega, owns_nil h⟩
end Go.Proofs.Ytpodgocmcnkfdaa
