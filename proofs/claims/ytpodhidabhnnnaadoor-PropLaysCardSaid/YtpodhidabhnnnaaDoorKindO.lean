/- The rule of a property, by its id. (Printed by genof.py.) -/
import Derived.Test.YtpodhidabhnnnaaDoorKindA
namespace Go.Proofs.YtpodhidabhnnnaaDoor
open Go.RowKit

theorem of_end (w : World) (o : Obj) (t : Nat) (k pl : Value) : ((w.alloc (.cells #[k, pl] t)).alloc o).heap[w.heap.size]? = some (.cells #[k, pl] t (0, 0)) ∧ Below w.heap.size w ((w.alloc (.cells #[k, pl] t)).alloc o) :=
  ⟨block_alloc (heap_alloc_new w _), ((Below.refl _ _).alloc (Nat.le_refl _) _).alloc (by simp) _⟩
theorem of_none (w : World) (t : Nat) (k pl : Value) : (w.alloc (.cells #[k, pl] t)).heap[w.heap.size]? = some (.cells #[k, pl] t (0, 0)) ∧ Below w.heap.size w (w.alloc (.cells #[k, pl] t)) :=
  ⟨heap_alloc_new w _, (Below.refl _ _).alloc (Nat.le_refl _) _⟩

set_option maxRecDepth 100000 in
theorem of_1 (w : World) (R : Ending → World → Prop) (hR : ∀ w', Below w.heap.size w w' → R (.returned (.agg #[.int .i64 1, .int .i64 (65544)])) w') :
    Calls Tryd.prog 39 #[.int .i64 1] w R := by
  have HR := Lib.hid hR
  clear hR
  go_enter Tryd.func39, Tryd.ntmps39
  have cat := at_lit [3, 16] 65544 (by decide +kernel) (by decide) 2 rfl (by decide) #[Value.int .i64 3, Value.int .i64 16] rfl 3
  go_wp2_with (go_at_call 59; refine cat _ _ ?_ _ ?_; · simp)
  have he := of_end w (Obj.cells #[Value.int .i64 3, Value.int .i64 16] 3) 72 (Value.int .i64 1) (Value.int .i64 (65544))
  refine bodyPost_ret (results_cell_row rfl _ _ w.heap.size 72 #[Value.int .i64 1, Value.int .i64 (65544)] (0, 0) _ rfl he.1 Tryd.underlying72 rfl (by kernel_rfl)) rfl ?_
  exact HR.out _ he.2

set_option maxRecDepth 100000 in
theorem of_2 (w : World) (R : Ending → World → Prop) (hR : ∀ w', Below w.heap.size w w' → R (.returned (.agg #[.int .i64 3, .int .i64 (65544)])) w') :
    Calls Tryd.prog 39 #[.int .i64 2] w R := by
  have HR := Lib.hid hR
  clear hR
  go_enter Tryd.func39, Tryd.ntmps39
  have cat := at_lit [3, 16] 65544 (by decide +kernel) (by decide) 2 rfl (by decide) #[Value.int .i64 3, Value.int .i64 16] rfl 3
  go_wp2_with (go_at_call 59; refine cat _ _ ?_ _ ?_; · simp)
  have he := of_end w (Obj.cells #[Value.int .i64 3, Value.int .i64 16] 3) 72 (Value.int .i64 3) (Value.int .i64 (65544))
  refine bodyPost_ret (results_cell_row rfl _ _ w.heap.size 72 #[Value.int .i64 3, Value.int .i64 (65544)] (0, 0) _ rfl he.1 Tryd.underlying72 rfl (by kernel_rfl)) rfl ?_
  exact HR.out _ he.2

set_option maxRecDepth 100000 in
theorem of_3 (w : World) (R : Ending → World → Prop) (hR : ∀ w', Below w.heap.size w w' → R (.returned (.agg #[.int .i64 5, .int .i64 (65544)])) w') :
    Calls Tryd.prog 39 #[.int .i64 3] w R := by
  have HR := Lib.hid hR
  clear hR
  go_enter Tryd.func39, Tryd.ntmps39
  have cat := at_lit [3, 16] 65544 (by decide +kernel) (by decide) 2 rfl (by decide) #[Value.int .i64 3, Value.int .i64 16] rfl 3
  go_wp2_with (go_at_call 59; refine cat _ _ ?_ _ ?_; · simp)
  have he := of_end w (Obj.cells #[Value.int .i64 3, Value.int .i64 16] 3) 72 (Value.int .i64 5) (Value.int .i64 (65544))
  refine bodyPost_ret (results_cell_row rfl _ _ w.heap.size 72 #[Value.int .i64 5, Value.int .i64 (65544)] (0, 0) _ rfl he.1 Tryd.underlying72 rfl (by kernel_rfl)) rfl ?_
  exact HR.out _ he.2

set_option maxRecDepth 100000 in
theorem of_8 (w : World) (R : Ending → World → Prop) (hR : ∀ w', Below w.heap.size w w' → R (.returned (.agg #[.int .i64 5, .int .i64 (65544)])) w') :
    Calls Tryd.prog 39 #[.int .i64 8] w R := by
  have HR := Lib.hid hR
  clear hR
  go_enter Tryd.func39, Tryd.ntmps39
  have cat := at_lit [3, 16] 65544 (by decide +kernel) (by decide) 2 rfl (by decide) #[Value.int .i64 3, Value.int .i64 16] rfl 3
  go_wp2_with (go_at_call 59; refine cat _ _ ?_ _ ?_; · simp)
  have he := of_end w (Obj.cells #[Value.int .i64 3, Value.int .i64 16] 3) 72 (Value.int .i64 5) (Value.int .i64 (65544))
  refine bodyPost_ret (results_cell_row rfl _ _ w.heap.size 72 #[Value.int .i64 5, Value.int .i64 (65544)] (0, 0) _ rfl he.1 Tryd.underlying72 rfl (by kernel_rfl)) rfl ?_
  exact HR.out _ he.2

set_option maxRecDepth 100000 in
theorem of_9 (w : World) (R : Ending → World → Prop) (hR : ∀ w', Below w.heap.size w w' → R (.returned (.agg #[.int .i64 6, .int .i64 (65544)])) w') :
    Calls Tryd.prog 39 #[.int .i64 9] w R := by
  have HR := Lib.hid hR
  clear hR
  go_enter Tryd.func39, Tryd.ntmps39
  have cat := at_lit [3, 16] 65544 (by decide +kernel) (by decide) 2 rfl (by decide) #[Value.int .i64 3, Value.int .i64 16] rfl 3
  go_wp2_with (go_at_call 59; refine cat _ _ ?_ _ ?_; · simp)
  have he := of_end w (Obj.cells #[Value.int .i64 3, Value.int .i64 16] 3) 72 (Value.int .i64 6) (Value.int .i64 (65544))
  refine bodyPost_ret (results_cell_row rfl _ _ w.heap.size 72 #[Value.int .i64 6, Value.int .i64 (65544)] (0, 0) _ rfl he.1 Tryd.underlying72 rfl (by kernel_rfl)) rfl ?_
  exact HR.out _ he.2

set_option maxRecDepth 100000 in
theorem of_11 (w : World) (R : Ending → World → Prop) (hR : ∀ w', Below w.heap.size w w' → R (.returned (.agg #[.int .i64 4, .int .i64 (264)])) w') :
    Calls Tryd.prog 39 #[.int .i64 11] w R := by
  have HR := Lib.hid hR
  clear hR
  go_enter Tryd.func39, Tryd.ntmps39
  have cat := at_lit [3, 8] 264 (by decide +kernel) (by decide) 2 rfl (by decide) #[Value.int .i64 3, Value.int .i64 8] rfl 3
  go_wp2_with (go_at_call 59; refine cat _ _ ?_ _ ?_; · simp)
  have he := of_end w (Obj.cells #[Value.int .i64 3, Value.int .i64 8] 3) 72 (Value.int .i64 4) (Value.int .i64 (264))
  refine bodyPost_ret (results_cell_row rfl _ _ w.heap.size 72 #[Value.int .i64 4, Value.int .i64 (264)] (0, 0) _ rfl he.1 Tryd.underlying72 rfl (by kernel_rfl)) rfl ?_
  exact HR.out _ he.2

set_option maxRecDepth 100000 in
theorem of_17 (w : World) (R : Ending → World → Prop) (hR : ∀ w', Below w.heap.size w w' → R (.returned (.agg #[.int .i64 3, .int .i64 (16390)])) w') :
    Calls Tryd.prog 39 #[.int .i64 17] w R := by
  have HR := Lib.hid hR
  clear hR
  go_enter Tryd.func39, Tryd.ntmps39
  have cat := at_lit [1, 2, 14] 16390 (by decide +kernel) (by decide) 3 rfl (by decide) #[Value.int .i64 1, Value.int .i64 2, Value.int .i64 14] rfl 3
  go_wp2_with (go_at_call 59; refine cat _ _ ?_ _ ?_; · simp)
  have he := of_end w (Obj.cells #[Value.int .i64 1, Value.int .i64 2, Value.int .i64 14] 3) 72 (Value.int .i64 3) (Value.int .i64 (16390))
  refine bodyPost_ret (results_cell_row rfl _ _ w.heap.size 72 #[Value.int .i64 3, Value.int .i64 (16390)] (0, 0) _ rfl he.1 Tryd.underlying72 rfl (by kernel_rfl)) rfl ?_
  exact HR.out _ he.2

set_option maxRecDepth 100000 in
theorem of_18 (w : World) (R : Ending → World → Prop) (hR : ∀ w', Below w.heap.size w w' → R (.returned (.agg #[.int .i64 5, .int .i64 (4)])) w') :
    Calls Tryd.prog 39 #[.int .i64 18] w R := by
  have HR := Lib.hid hR
  clear hR
  go_enter Tryd.func39, Tryd.ntmps39
  have cat := at_lit [2] 4 (by decide +kernel) (by decide) 1 rfl (by decide) #[Value.int .i64 2] rfl 3
  go_wp2_with (go_at_call 59; refine cat _ _ ?_ _ ?_; · simp)
  have he := of_end w (Obj.cells #[Value.int .i64 2] 3) 72 (Value.int .i64 5) (Value.int .i64 (4))
  refine bodyPost_ret (results_cell_row rfl _ _ w.heap.size 72 #[Value.int .i64 5, Value.int .i64 (4)] (0, 0) _ rfl he.1 Tryd.underlying72 rfl (by kernel_rfl)) rfl ?_
  exact HR.out _ he.2

set_option maxRecDepth 100000 in
theorem of_26 (w : World) (R : Ending → World → Prop) (hR : ∀ w', Below w.heap.size w w' → R (.returned (.agg #[.int .i64 5, .int .i64 (4)])) w') :
    Calls Tryd.prog 39 #[.int .i64 26] w R := by
  have HR := Lib.hid hR
  clear hR
  go_enter Tryd.func39, Tryd.ntmps39
  have cat := at_lit [2] 4 (by decide +kernel) (by decide) 1 rfl (by decide) #[Value.int .i64 2] rfl 3
  go_wp2_with (go_at_call 59; refine cat _ _ ?_ _ ?_; · simp)
  have he := of_end w (Obj.cells #[Value.int .i64 2] 3) 72 (Value.int .i64 5) (Value.int .i64 (4))
  refine bodyPost_ret (results_cell_row rfl _ _ w.heap.size 72 #[Value.int .i64 5, Value.int .i64 (4)] (0, 0) _ rfl he.1 Tryd.underlying72 rfl (by kernel_rfl)) rfl ?_
  exact HR.out _ he.2

set_option maxRecDepth 100000 in
theorem of_19 (w : World) (R : Ending → World → Prop) (hR : ∀ w', Below w.heap.size w w' → R (.returned (.agg #[.int .i64 2, .int .i64 (4)])) w') :
    Calls Tryd.prog 39 #[.int .i64 19] w R := by
  have HR := Lib.hid hR
  clear hR
  go_enter Tryd.func39, Tryd.ntmps39
  have cat := at_lit [2] 4 (by decide +kernel) (by decide) 1 rfl (by decide) #[Value.int .i64 2] rfl 3
  go_wp2_with (go_at_call 59; refine cat _ _ ?_ _ ?_; · simp)
  have he := of_end w (Obj.cells #[Value.int .i64 2] 3) 72 (Value.int .i64 2) (Value.int .i64 (4))
  refine bodyPost_ret (results_cell_row rfl _ _ w.heap.size 72 #[Value.int .i64 2, Value.int .i64 (4)] (0, 0) _ rfl he.1 Tryd.underlying72 rfl (by kernel_rfl)) rfl ?_
  exact HR.out _ he.2

set_option maxRecDepth 100000 in
theorem of_21 (w : World) (R : Ending → World → Prop) (hR : ∀ w', Below w.heap.size w w' → R (.returned (.agg #[.int .i64 5, .int .i64 (32774)])) w') :
    Calls Tryd.prog 39 #[.int .i64 21] w R := by
  have HR := Lib.hid hR
  clear hR
  go_enter Tryd.func39, Tryd.ntmps39
  have cat := at_lit [1, 2, 15] 32774 (by decide +kernel) (by decide) 3 rfl (by decide) #[Value.int .i64 1, Value.int .i64 2, Value.int .i64 15] rfl 3
  go_wp2_with (go_at_call 59; refine cat _ _ ?_ _ ?_; · simp)
  have he := of_end w (Obj.cells #[Value.int .i64 1, Value.int .i64 2, Value.int .i64 15] 3) 72 (Value.int .i64 5) (Value.int .i64 (32774))
  refine bodyPost_ret (results_cell_row rfl _ _ w.heap.size 72 #[Value.int .i64 5, Value.int .i64 (32774)] (0, 0) _ rfl he.1 Tryd.underlying72 rfl (by kernel_rfl)) rfl ?_
  exact HR.out _ he.2

set_option maxRecDepth 100000 in
theorem of_22 (w : World) (R : Ending → World → Prop) (hR : ∀ w', Below w.heap.size w w' → R (.returned (.agg #[.int .i64 6, .int .i64 (32774)])) w') :
    Calls Tryd.prog 39 #[.int .i64 22] w R := by
  have HR := Lib.hid hR
  clear hR
  go_enter Tryd.func39, Tryd.ntmps39
  have cat := at_lit [1, 2, 15] 32774 (by decide +kernel) (by decide) 3 rfl (by decide) #[Value.int .i64 1, Value.int .i64 2, Value.int .i64 15] rfl 3
  go_wp2_with (go_at_call 59; refine cat _ _ ?_ _ ?_; · simp)
  have he := of_end w (Obj.cells #[Value.int .i64 1, Value.int .i64 2, Value.int .i64 15] 3) 72 (Value.int .i64 6) (Value.int .i64 (32774))
  refine bodyPost_ret (results_cell_row rfl _ _ w.heap.size 72 #[Value.int .i64 6, Value.int .i64 (32774)] (0, 0) _ rfl he.1 Tryd.underlying72 rfl (by kernel_rfl)) rfl ?_
  exact HR.out _ he.2

set_option maxRecDepth 100000 in
theorem of_23 (w : World) (R : Ending → World → Prop) (hR : ∀ w', Below w.heap.size w w' → R (.returned (.agg #[.int .i64 1, .int .i64 (2)])) w') :
    Calls Tryd.prog 39 #[.int .i64 23] w R := by
  have HR := Lib.hid hR
  clear hR
  go_enter Tryd.func39, Tryd.ntmps39
  have cat := at_lit [1] 2 (by decide +kernel) (by decide) 1 rfl (by decide) #[Value.int .i64 1] rfl 3
  go_wp2_with (go_at_call 59; refine cat _ _ ?_ _ ?_; · simp)
  have he := of_end w (Obj.cells #[Value.int .i64 1] 3) 72 (Value.int .i64 1) (Value.int .i64 (2))
  refine bodyPost_ret (results_cell_row rfl _ _ w.heap.size 72 #[Value.int .i64 1, Value.int .i64 (2)] (0, 0) _ rfl he.1 Tryd.underlying72 rfl (by kernel_rfl)) rfl ?_
  exact HR.out _ he.2

set_option maxRecDepth 100000 in
theorem of_25 (w : World) (R : Ending → World → Prop) (hR : ∀ w', Below w.heap.size w w' → R (.returned (.agg #[.int .i64 1, .int .i64 (2)])) w') :
    Calls Tryd.prog 39 #[.int .i64 25] w R := by
  have HR := Lib.hid hR
  clear hR
  go_enter Tryd.func39, Tryd.ntmps39
  have cat := at_lit [1] 2 (by decide +kernel) (by decide) 1 rfl (by decide) #[Value.int .i64 1] rfl 3
  go_wp2_with (go_at_call 59; refine cat _ _ ?_ _ ?_; · simp)
  have he := of_end w (Obj.cells #[Value.int .i64 1] 3) 72 (Value.int .i64 1) (Value.int .i64 (2))
  refine bodyPost_ret (results_cell_row rfl _ _ w.heap.size 72 #[Value.int .i64 1, Value.int .i64 (2)] (0, 0) _ rfl he.1 Tryd.underlying72 rfl (by kernel_rfl)) rfl ?_
  exact HR.out _ he.2

set_option maxRecDepth 100000 in
theorem of_24 (w : World) (R : Ending → World → Prop) (hR : ∀ w', Below w.heap.size w w' → R (.returned (.agg #[.int .i64 3, .int .i64 (65536)])) w') :
    Calls Tryd.prog 39 #[.int .i64 24] w R := by
  have HR := Lib.hid hR
  clear hR
  go_enter Tryd.func39, Tryd.ntmps39
  have cat := at_lit [16] 65536 (by decide +kernel) (by decide) 1 rfl (by decide) #[Value.int .i64 16] rfl 3
  go_wp2_with (go_at_call 59; refine cat _ _ ?_ _ ?_; · simp)
  have he := of_end w (Obj.cells #[Value.int .i64 16] 3) 72 (Value.int .i64 3) (Value.int .i64 (65536))
  refine bodyPost_ret (results_cell_row rfl _ _ w.heap.size 72 #[Value.int .i64 3, Value.int .i64 (65536)] (0, 0) _ rfl he.1 Tryd.underlying72 rfl (by kernel_rfl)) rfl ?_
  exact HR.out _ he.2

set_option maxRecDepth 100000 in
theorem of_28 (w : World) (R : Ending → World → Prop) (hR : ∀ w', Below w.heap.size w w' → R (.returned (.agg #[.int .i64 5, .int .i64 (16388)])) w') :
    Calls Tryd.prog 39 #[.int .i64 28] w R := by
  have HR := Lib.hid hR
  clear hR
  go_enter Tryd.func39, Tryd.ntmps39
  have cat := at_lit [2, 14] 16388 (by decide +kernel) (by decide) 2 rfl (by decide) #[Value.int .i64 2, Value.int .i64 14] rfl 3
  go_wp2_with (go_at_call 59; refine cat _ _ ?_ _ ?_; · simp)
  have he := of_end w (Obj.cells #[Value.int .i64 2, Value.int .i64 14] 3) 72 (Value.int .i64 5) (Value.int .i64 (16388))
  refine bodyPost_ret (results_cell_row rfl _ _ w.heap.size 72 #[Value.int .i64 5, Value.int .i64 (16388)] (0, 0) _ rfl he.1 Tryd.underlying72 rfl (by kernel_rfl)) rfl ?_
  exact HR.out _ he.2

set_option maxRecDepth 100000 in
theorem of_31 (w : World) (R : Ending → World → Prop) (hR : ∀ w', Below w.heap.size w w' → R (.returned (.agg #[.int .i64 5, .int .i64 (51956)])) w') :
    Calls Tryd.prog 39 #[.int .i64 31] w R := by
  have HR := Lib.hid hR
  clear hR
  go_enter Tryd.func39, Tryd.ntmps39
  have cat := at_lit [2, 4, 5, 6, 7, 9, 11, 14, 15] 51956 (by decide +kernel) (by decide) 9 rfl (by decide) #[Value.int .i64 2, Value.int .i64 4, Value.int .i64 5, Value.int .i64 6, Value.int .i64 7, Value.int .i64 9, Value.int .i64 11, Value.int .i64 14, Value.int .i64 15] rfl 3
  go_wp2_with (go_at_call 59; refine cat _ _ ?_ _ ?_; · simp)
  have he := of_end w (Obj.cells #[Value.int .i64 2, Value.int .i64 4, Value.int .i64 5, Value.int .i64 6, Value.int .i64 7, Value.int .i64 9, Value.int .i64 11, Value.int .i64 14, Value.int .i64 15] 3) 72 (Value.int .i64 5) (Value.int .i64 (51956))
  refine bodyPost_ret (results_cell_row rfl _ _ w.heap.size 72 #[Value.int .i64 5, Value.int .i64 (51956)] (0, 0) _ rfl he.1 Tryd.underlying72 rfl (by kernel_rfl)) rfl ?_
  exact HR.out _ he.2

set_option maxRecDepth 100000 in
theorem of_33 (w : World) (R : Ending → World → Prop) (hR : ∀ w', Below w.heap.size w w' → R (.returned (.agg #[.int .i64 2, .int .i64 (6)])) w') :
    Calls Tryd.prog 39 #[.int .i64 33] w R := by
  have HR := Lib.hid hR
  clear hR
  go_enter Tryd.func39, Tryd.ntmps39
  have cat := at_lit [1, 2] 6 (by decide +kernel) (by decide) 2 rfl (by decide) #[Value.int .i64 1, Value.int .i64 2] rfl 3
  go_wp2_with (go_at_call 59; refine cat _ _ ?_ _ ?_; · simp)
  have he := of_end w (Obj.cells #[Value.int .i64 1, Value.int .i64 2] 3) 72 (Value.int .i64 2) (Value.int .i64 (6))
  refine bodyPost_ret (results_cell_row rfl _ _ w.heap.size 72 #[Value.int .i64 2, Value.int .i64 (6)] (0, 0) _ rfl he.1 Tryd.underlying72 rfl (by kernel_rfl)) rfl ?_
  exact HR.out _ he.2

set_option maxRecDepth 100000 in
theorem of_34 (w : World) (R : Ending → World → Prop) (hR : ∀ w', Below w.heap.size w w' → R (.returned (.agg #[.int .i64 2, .int .i64 (6)])) w') :
    Calls Tryd.prog 39 #[.int .i64 34] w R := by
  have HR := Lib.hid hR
  clear hR
  go_enter Tryd.func39, Tryd.ntmps39
  have cat := at_lit [1, 2] 6 (by decide +kernel) (by decide) 2 rfl (by decide) #[Value.int .i64 1, Value.int .i64 2] rfl 3
  go_wp2_with (go_at_call 59; refine cat _ _ ?_ _ ?_; · simp)
  have he := of_end w (Obj.cells #[Value.int .i64 1, Value.int .i64 2] 3) 72 (Value.int .i64 2) (Value.int .i64 (6))
  refine bodyPost_ret (results_cell_row rfl _ _ w.heap.size 72 #[Value.int .i64 2, Value.int .i64 (6)] (0, 0) _ rfl he.1 Tryd.underlying72 rfl (by kernel_rfl)) rfl ?_
  exact HR.out _ he.2

set_option maxRecDepth 100000 in
theorem of_35 (w : World) (R : Ending → World → Prop) (hR : ∀ w', Below w.heap.size w w' → R (.returned (.agg #[.int .i64 2, .int .i64 (8)])) w') :
    Calls Tryd.prog 39 #[.int .i64 35] w R := by
  have HR := Lib.hid hR
  clear hR
  go_enter Tryd.func39, Tryd.ntmps39
  have cat := at_lit [3] 8 (by decide +kernel) (by decide) 1 rfl (by decide) #[Value.int .i64 3] rfl 3
  go_wp2_with (go_at_call 59; refine cat _ _ ?_ _ ?_; · simp)
  have he := of_end w (Obj.cells #[Value.int .i64 3] 3) 72 (Value.int .i64 2) (Value.int .i64 (8))
  refine bodyPost_ret (results_cell_row rfl _ _ w.heap.size 72 #[Value.int .i64 2, Value.int .i64 (8)] (0, 0) _ rfl he.1 Tryd.underlying72 rfl (by kernel_rfl)) rfl ?_
  exact HR.out _ he.2

set_option maxRecDepth 100000 in
theorem of_39 (w : World) (R : Ending → World → Prop) (hR : ∀ w', Below w.heap.size w w' → R (.returned (.agg #[.int .i64 3, .int .i64 (6)])) w') :
    Calls Tryd.prog 39 #[.int .i64 39] w R := by
  have HR := Lib.hid hR
  clear hR
  go_enter Tryd.func39, Tryd.ntmps39
  have cat := at_lit [1, 2] 6 (by decide +kernel) (by decide) 2 rfl (by decide) #[Value.int .i64 1, Value.int .i64 2] rfl 3
  go_wp2_with (go_at_call 59; refine cat _ _ ?_ _ ?_; · simp)
  have he := of_end w (Obj.cells #[Value.int .i64 1, Value.int .i64 2] 3) 72 (Value.int .i64 3) (Value.int .i64 (6))
  refine bodyPost_ret (results_cell_row rfl _ _ w.heap.size 72 #[Value.int .i64 3, Value.int .i64 (6)] (0, 0) _ rfl he.1 Tryd.underlying72 rfl (by kernel_rfl)) rfl ?_
  exact HR.out _ he.2

set_option maxRecDepth 100000 in
theorem of_36 (w : World) (R : Ending → World → Prop) (hR : ∀ w', Below w.heap.size w w' → R (.returned (.agg #[.int .i64 1, .int .i64 (4)])) w') :
    Calls Tryd.prog 39 #[.int .i64 36] w R := by
  have HR := Lib.hid hR
  clear hR
  go_enter Tryd.func39, Tryd.ntmps39
  have cat := at_lit [2] 4 (by decide +kernel) (by decide) 1 rfl (by decide) #[Value.int .i64 2] rfl 3
  go_wp2_with (go_at_call 59; refine cat _ _ ?_ _ ?_; · simp)
  have he := of_end w (Obj.cells #[Value.int .i64 2] 3) 72 (Value.int .i64 1) (Value.int .i64 (4))
  refine bodyPost_ret (results_cell_row rfl _ _ w.heap.size 72 #[Value.int .i64 1, Value.int .i64 (4)] (0, 0) _ rfl he.1 Tryd.underlying72 rfl (by kernel_rfl)) rfl ?_
  exact HR.out _ he.2

set_option maxRecDepth 100000 in
theorem of_37 (w : World) (R : Ending → World → Prop) (hR : ∀ w', Below w.heap.size w w' → R (.returned (.agg #[.int .i64 1, .int .i64 (4)])) w') :
    Calls Tryd.prog 39 #[.int .i64 37] w R := by
  have HR := Lib.hid hR
  clear hR
  go_enter Tryd.func39, Tryd.ntmps39
  have cat := at_lit [2] 4 (by decide +kernel) (by decide) 1 rfl (by decide) #[Value.int .i64 2] rfl 3
  go_wp2_with (go_at_call 59; refine cat _ _ ?_ _ ?_; · simp)
  have he := of_end w (Obj.cells #[Value.int .i64 2] 3) 72 (Value.int .i64 1) (Value.int .i64 (4))
  refine bodyPost_ret (results_cell_row rfl _ _ w.heap.size 72 #[Value.int .i64 1, Value.int .i64 (4)] (0, 0) _ rfl he.1 Tryd.underlying72 rfl (by kernel_rfl)) rfl ?_
  exact HR.out _ he.2

set_option maxRecDepth 100000 in
theorem of_40 (w : World) (R : Ending → World → Prop) (hR : ∀ w', Below w.heap.size w w' → R (.returned (.agg #[.int .i64 1, .int .i64 (4)])) w') :
    Calls Tryd.prog 39 #[.int .i64 40] w R := by
  have HR := Lib.hid hR
  clear hR
  go_enter Tryd.func39, Tryd.ntmps39
  have cat := at_lit [2] 4 (by decide +kernel) (by decide) 1 rfl (by decide) #[Value.int .i64 2] rfl 3
  go_wp2_with (go_at_call 59; refine cat _ _ ?_ _ ?_; · simp)
  have he := of_end w (Obj.cells #[Value.int .i64 2] 3) 72 (Value.int .i64 1) (Value.int .i64 (4))
  refine bodyPost_ret (results_cell_row rfl _ _ w.heap.size 72 #[Value.int .i64 1, Value.int .i64 (4)] (0, 0) _ rfl he.1 Tryd.underlying72 rfl (by kernel_rfl)) rfl ?_
  exact HR.out _ he.2

set_option maxRecDepth 100000 in
theorem of_41 (w : World) (R : Ending → World → Prop) (hR : ∀ w', Below w.heap.size w w' → R (.returned (.agg #[.int .i64 1, .int .i64 (4)])) w') :
    Calls Tryd.prog 39 #[.int .i64 41] w R := by
  have HR := Lib.hid hR
  clear hR
  go_enter Tryd.func39, Tryd.ntmps39
  have cat := at_lit [2] 4 (by decide +kernel) (by decide) 1 rfl (by decide) #[Value.int .i64 2] rfl 3
  go_wp2_with (go_at_call 59; refine cat _ _ ?_ _ ?_; · simp)
  have he := of_end w (Obj.cells #[Value.int .i64 2] 3) 72 (Value.int .i64 1) (Value.int .i64 (4))
  refine bodyPost_ret (results_cell_row rfl _ _ w.heap.size 72 #[Value.int .i64 1, Value.int .i64 (4)] (0, 0) _ rfl he.1 Tryd.underlying72 rfl (by kernel_rfl)) rfl ?_
  exact HR.out _ he.2

set_option maxRecDepth 100000 in
theorem of_42 (w : World) (R : Ending → World → Prop) (hR : ∀ w', Below w.heap.size w w' → R (.returned (.agg #[.int .i64 1, .int .i64 (4)])) w') :
    Calls Tryd.prog 39 #[.int .i64 42] w R := by
  have HR := Lib.hid hR
  clear hR
  go_enter Tryd.func39, Tryd.ntmps39
  have cat := at_lit [2] 4 (by decide +kernel) (by decide) 1 rfl (by decide) #[Value.int .i64 2] rfl 3
  go_wp2_with (go_at_call 59; refine cat _ _ ?_ _ ?_; · simp)
  have he := of_end w (Obj.cells #[Value.int .i64 2] 3) 72 (Value.int .i64 1) (Value.int .i64 (4))
  refine bodyPost_ret (results_cell_row rfl _ _ w.heap.size 72 #[Value.int .i64 1, Value.int .i64 (4)] (0, 0) _ rfl he.1 Tryd.underlying72 rfl (by kernel_rfl)) rfl ?_
  exact HR.out _ he.2

set_option maxRecDepth 100000 in
theorem of_38 (w : World) (R : Ending → World → Prop) (hR : ∀ w', Below w.heap.size w w' → R (.returned (.agg #[.int .i64 7, .int .i64 (-12290)])) w') :
    Calls Tryd.prog 39 #[.int .i64 38] w R := by
  have HR := Lib.hid hR
  clear hR
  go_enter Tryd.func39, Tryd.ntmps39
  have cat := at_lit [0, 12, 13] 12289 (by decide +kernel) (by decide) 3 rfl (by decide) #[Value.int .i64 0, Value.int .i64 12, Value.int .i64 13] rfl 3
  go_wp2_with (go_at_call 59; refine cat _ _ ?_ _ ?_; · simp)
  have he := of_end w (Obj.cells #[Value.int .i64 0, Value.int .i64 12, Value.int .i64 13] 3) 72 (Value.int .i64 7) (Value.int .i64 (-12290))
  refine bodyPost_ret (results_cell_row rfl _ _ w.heap.size 72 #[Value.int .i64 7, Value.int .i64 (-12290)] (0, 0) _ rfl he.1 Tryd.underlying72 rfl (by kernel_rfl)) rfl ?_
  exact HR.out _ he.2

set_option maxRecDepth 100000 in
theorem of_not (id : Int) (h1 : ¬ id = 1) (h2 : ¬ id = 2) (h3 : ¬ id = 3) (h8 : ¬ id = 8) (h9 : ¬ id = 9) (h11 : ¬ id = 11) (h17 : ¬ id = 17) (h18 : ¬ id = 18) (h19 : ¬ id = 19) (h21 : ¬ id = 21) (h22 : ¬ id = 22) (h23 : ¬ id = 23) (h24 : ¬ id = 24) (h25 : ¬ id = 25) (h26 : ¬ id = 26) (h28 : ¬ id = 28) (h31 : ¬ id = 31) (h33 : ¬ id = 33) (h34 : ¬ id = 34) (h35 : ¬ id = 35) (h36 : ¬ id = 36) (h37 : ¬ id = 37) (h38 : ¬ id = 38) (h39 : ¬ id = 39) (h40 : ¬ id = 40) (h41 : ¬ id = 41) (h42 : ¬ id = 42) (w : World) (R : Ending → World → Prop) (hR : ∀ w', Below w.heap.size w w' → R (.returned (.agg #[.int .i64 0, .int .i64 0])) w') :
    Calls Tryd.prog 39 #[.int .i64 id] w R := by
  have HR := Lib.hid hR
  clear hR
  go_enter Tryd.func39, Tryd.ntmps39
  go_wp2
  have he := of_none w 72 (Value.int .i64 0) (Value.int .i64 0)
  refine bodyPost_ret (results_cell_row rfl _ _ w.heap.size 72 #[Value.int .i64 0, Value.int .i64 0] (0, 0) _ rfl he.1 Tryd.underlying72 rfl (by kernel_rfl)) rfl ?_
  exact HR.out _ he.2

theorem of_any (id : Int) (w : World) (R : Ending → World → Prop) (hR : ∀ w', Below w.heap.size w w' → R (.returned (.agg #[.int .i64 (kindL id), .int .i64 (placesL id)])) w') :
    Calls Tryd.prog 39 #[.int .i64 id] w R := by
  by_cases h1 : id = 1
  · subst h1
    exact of_1 w R hR
  by_cases h2 : id = 2
  · subst h2
    exact of_2 w R hR
  by_cases h3 : id = 3
  · subst h3
    exact of_3 w R hR
  by_cases h8 : id = 8
  · subst h8
    exact of_8 w R hR
  by_cases h9 : id = 9
  · subst h9
    exact of_9 w R hR
  by_cases h11 : id = 11
  · subst h11
    exact of_11 w R hR
  by_cases h17 : id = 17
  · subst h17
    exact of_17 w R hR
  by_cases h18 : id = 18
  · subst h18
    exact of_18 w R hR
  by_cases h19 : id = 19
  · subst h19
    exact of_19 w R hR
  by_cases h21 : id = 21
  · subst h21
    exact of_21 w R hR
  by_cases h22 : id = 22
  · subst h22
    exact of_22 w R hR
  by_cases h23 : id = 23
  · subst h23
    exact of_23 w R hR
  by_cases h24 : id = 24
  · subst h24
    exact of_24 w R hR
  by_cases h25 : id = 25
  · subst h25
    exact of_25 w R hR
  by_cases h26 : id = 26
  · subst h26
    exact of_26 w R hR
  by_cases h28 : id = 28
  · subst h28
    exact of_28 w R hR
  by_cases h31 : id = 31
  · subst h31
    exact of_31 w R hR
  by_cases h33 : id = 33
  · subst h33
    exact of_33 w R hR
  by_cases h34 : id = 34
  · subst h34
    exact of_34 w R hR
  by_cases h35 : id = 35
  · subst h35
    exact of_35 w R hR
  by_cases h36 : id = 36
  · subst h36
    exact of_36 w R hR
  by_cases h37 : id = 37
  · subst h37
    exact of_37 w R hR
  by_cases h38 : id = 38
  · subst h38
    exact of_38 w R hR
  by_cases h39 : id = 39
  · subst h39
    exact of_39 w R hR
  by_cases h40 : id = 40
  · subst h40
    exact of_40 w R hR
  by_cases h41 : id = 41
  · subst h41
    exact of_41 w R hR
  by_cases h42 : id = 42
  · subst h42
    exact of_42 w R hR
  have e1 : kindL id = 0 := by unfold kindL; simp only [h1, h2, h3, h8, h9, h11, h17, h18, h19, h21, h22, h23, h24, h25, h26, h28, h31, h33, h34, h35, h36, h37, h38, h39, h40, h41, h42, or_self, if_false]
  have e2 : placesL id = 0 := by unfold placesL clsL; simp only [h1, h2, h3, h8, h9, h11, h17, h18, h19, h21, h22, h23, h24, h25, h26, h28, h31, h33, h34, h35, h36, h37, h38, h39, h40, h41, h42, or_self, if_false]; rfl
  rw [e1, e2] at hR
  exact of_not id h1 h2 h3 h8 h9 h11 h17 h18 h19 h21 h22 h23 h24 h25 h26 h28 h31 h33 h34 h35 h36 h37 h38 h39 h40 h41 h42 w R hR
end Go.Proofs.YtpodhidabhnnnaaDoor
