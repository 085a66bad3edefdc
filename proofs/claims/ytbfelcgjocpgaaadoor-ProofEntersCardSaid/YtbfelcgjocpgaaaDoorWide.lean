/- A wide struct's load, as the walk's simp leaves it where the type's size is hidden: one step, whatever the number of cells; a build out of one closed fact. -/
import Derived.Test.YtbfelcgjocpgaaaDoorBase
import Derived.Laws.Rows
namespace Go.Proofs.YtbfelcgjocpgaaaDoor
open Go.RowKit

/-- With 'hY : sizeOf ty = Y' among the hypotheses the walk's simp stands at just this term. -/
theorem wide_load {P : Program} {ty b t : Nat} {cs : Array Value} {fr : Nat × Nat} {Y : Sem Nat} (hY : Go.sizeOf ty = Y) {w : World} (h : w.heap[b]? = some (.cells cs t fr)) (hi : (P.info? ty).map (·.size) = some cs.size) :
    ((Sem.run P Y w).andThen fun a w' => (Sem.run P (loadCellsFrom ⟨b, 0, none⟩ 0 a #[]) w').andThen fun a w' => Result.ok (Value.agg a) w') = Result.ok (Value.agg cs) w := by
  have hl : (loadCells ⟨b, 0, none⟩ cs.toList.length).run P w = .ok cs.toList.toArray w :=
    run_loadCells_list (P := P) w ⟨b, 0, none⟩ cs.toList (fun j v hv => by
      have hadd : (⟨b, 0, none⟩ : Addr).add j = ⟨b, j, none⟩ := by unfold Addr.add; split <;> simp_all
      rw [hadd, cell_of_row w b j cs t fr h]
      simpa using hv)
  simp only [loadCells, Array.length_toList, Array.toArray_toList] at hl
  subst hY
  cases hq : P.info? ty with
  | none => simp [hq] at hi
  | some i =>
    have hs : i.size = cs.size := by simpa [hq] using hi
    simp [Go.sizeOf, typeInfo, hq, hs, hl]

theorem wpList_built {P : Program} {ops : Array Oper} {rest : List Oper} {o : Oper} {a : Act} {w : World} {Q : Exit → Act → World → Prop} (hg : o.guard = none) (t : TypeId) (parts : List (Nat × Operand)) (ho : o.op = .build t parts.toArray)
    (vals : List (Nat × Value)) (hv : (parts.map fun x => (x.1, a.eval x.2)) = vals) (cells : Array Value) (hc : P.built t vals = some cells)
    (h : wpList P ops Q rest (a.put o.dst (.agg cells)) w) : wpList P ops Q (o :: rest) a w := by
  subst hv
  have hp : (parts.toArray.map fun (i, x) => (i, a.eval x)).toList = parts.map fun x => (x.1, a.eval x.2) := by simp
  exact wpList_build hg t parts.toArray ho (by rw [hp, hc]; rfl) (by rw [hp, hc]; exact h)
end Go.Proofs.YtbfelcgjocpgaaaDoor
