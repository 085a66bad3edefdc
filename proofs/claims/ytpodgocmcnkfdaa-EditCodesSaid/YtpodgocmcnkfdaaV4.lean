/- Four cells in a row: a version's box. -/
import Derived.Test.YtpodgocmcnkfdaaAppB
namespace Go.Proofs.Ytpodgocmcnkfdaa
open Go.RowKit

theorem below_put4 {B N : Nat} {w x : World} (h : Below B w x) (hN : B ≤ N) (a b c d : Value) : Below B w ((((x.setCell ⟨N, 0, none⟩ a).setCell ⟨N, 1, none⟩ b).setCell ⟨N, 2, none⟩ c).setCell ⟨N, 3, none⟩ d) := (((h.setCell hN a).setCell hN b).setCell hN c).setCell hN d
theorem v4_of_row {w : World} {M t : Nat} {a b c x : Value} (h : w.heap[M]? = some (.cells #[a, b, c, x] t (0, 0))) : w.cell? ⟨M, 0, none⟩ = some a ∧ w.cell? ⟨M, 1, none⟩ = some b ∧ w.cell? ⟨M, 2, none⟩ = some c ∧ w.cell? ⟨M, 3, none⟩ = some x :=
  ⟨cell_of_row w M 0 _ _ _ h, cell_of_row w M 1 _ _ _ h, cell_of_row w M 2 _ _ _ h, cell_of_row w M 3 _ _ _ h⟩
theorem v4_later {w w' : World} {M : Nat} {a b c x : Value} (hb : Below w.heap.size w w') (h : w.cell? ⟨M, 0, none⟩ = some a ∧ w.cell? ⟨M, 1, none⟩ = some b ∧ w.cell? ⟨M, 2, none⟩ = some c ∧ w.cell? ⟨M, 3, none⟩ = some x) :
    w'.cell? ⟨M, 0, none⟩ = some a ∧ w'.cell? ⟨M, 1, none⟩ = some b ∧ w'.cell? ⟨M, 2, none⟩ = some c ∧ w'.cell? ⟨M, 3, none⟩ = some x :=
  ⟨cell_later hb h.1, cell_later hb h.2.1, cell_later hb h.2.2.1, cell_later hb h.2.2.2⟩
theorem put4_row {N t : Nat} {x : World} {out : Array Value} (h3 : x.heap[N]? = some (.cells out t (0, 0))) (hs : out.size = 4) (a b c d : Value) : ((((x.setCell ⟨N, 0, none⟩ a).setCell ⟨N, 1, none⟩ b).setCell ⟨N, 2, none⟩ c).setCell ⟨N, 3, none⟩ d).heap[N]? = some (.cells #[a, b, c, d] t (0, 0)) := by
  rw [heap_setCell_same _ _ 3 _ _ _ (heap_setCell_same _ _ 2 _ _ _ (heap_setCell_same _ _ 1 _ _ _ (heap_setCell_same _ _ 0 _ _ _ h3)))]
  match out, hs with
  | ⟨[_, _, _, _]⟩, _ => rfl
end Go.Proofs.Ytpodgocmcnkfdaa
