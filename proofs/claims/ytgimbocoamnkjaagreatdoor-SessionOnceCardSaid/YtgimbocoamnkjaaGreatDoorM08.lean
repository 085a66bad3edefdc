/- The rule of a property, by its id. (Printed by genof.py.) -/
import Derived.Test.YtgimbocoamnkjaaGreatDoorM07
import Derived.Deep.RegionHeld
import Derived.Deep.QuietTactic
import Derived.BigQuiet
import Derived.Test.YtgimbocoamnkjaaGreatDoorM06
import Derived.Deep.WholeRow
import Derived.Laws.CopyOwn
namespace Go.Proofs.YtgimbocoamnkjaaGreatDoor
open Go.RowKit

theorem of_end (w : World) (o : Obj) (t : Nat) (k pl : Value) : ((w.alloc (.cells #[k, pl] t)).alloc o).heap[w.heap.size]? = some (.cells #[k, pl] t (0, 0)) ∧ Below w.heap.size w ((w.alloc (.cells #[k, pl] t)).alloc o) :=
  ⟨block_alloc (heap_alloc_new w _), ((Below.refl _ _).alloc (Nat.le_refl _) _).alloc (by simp) _⟩
theorem of_none (w : World) (t : Nat) (k pl : Value) : (w.alloc (.cells #[k, pl] t)).heap[w.heap.size]? = some (.cells #[k, pl] t (0, 0)) ∧ Below w.heap.size w (w.alloc (.cells #[k, pl] t)) :=
  ⟨heap_alloc_new w _, (Below.refl _ _).alloc (Nat.le_refl _) _⟩

set_option maxRecDepth 100000 in
theorem of_1 (w : World) (R : Ending → World → Prop) (hR : ∀ w', Below w.heap.size w w' → R (.returned (.agg #[.int .i64 1, .int .i64 (65544)])) w') :
    Calls Tryz.prog 210 #[.int .i64 1] w R := by
  have HR := Lib.hid hR
  clear hR
  go_enter Tryz.func210, Tryz.ntmps210
  have cat := at_lit [3, 16] 65544 (by decide +kernel) (by decide) 2 rfl (by decide) #[Value.int .i64 3, Value.int .i64 16] rfl 3
  go_wp2_with (go_at_call 223; refine cat _ _ ?_ _ ?_; · simp)
  have he := of_end w (Obj.cells #[Value.int .i64 3, Value.int .i64 16] 3) 252 (Value.int .i64 1) (Value.int .i64 (65544))
  refine bodyPost_ret (results_cell_row rfl _ _ w.heap.size 252 #[Value.int .i64 1, Value.int .i64 (65544)] (0, 0) _ rfl he.1 Tryz.underlying252 rfl (by kernel_rfl)) rfl ?_
  exact HR.out _ he.2

set_option maxRecDepth 100000 in
theorem of_2 (w : World) (R : Ending → World → Prop) (hR : ∀ w', Below w.heap.size w w' → R (.returned (.agg #[.int .i64 3, .int .i64 (65544)])) w') :
    Calls Tryz.prog 210 #[.int .i64 2] w R := by
  have HR := Lib.hid hR
  clear hR
  go_enter Tryz.func210, Tryz.ntmps210
  have cat := at_lit [3, 16] 65544 (by decide +kernel) (by decide) 2 rfl (by decide) #[Value.int .i64 3, Value.int .i64 16] rfl 3
  go_wp2_with (go_at_call 223; refine cat _ _ ?_ _ ?_; · simp)
  have he := of_end w (Obj.cells #[Value.int .i64 3, Value.int .i64 16] 3) 252 (Value.int .i64 3) (Value.int .i64 (65544))
  refine bodyPost_ret (results_cell_row rfl _ _ w.heap.size 252 #[Value.int .i64 3, Value.int .i64 (65544)] (0, 0) _ rfl he.1 Tryz.underlying252 rfl (by kernel_rfl)) rfl ?_
  exact HR.out _ he.2

set_option maxRecDepth 100000 in
theorem of_3 (w : World) (R : Ending → World → Prop) (hR : ∀ w', Below w.heap.size w w' → R (.returned (.agg #[.int .i64 5, .int .i64 (65544)])) w') :
    Calls Tryz.prog 210 #[.int .i64 3] w R := by
  have HR := Lib.hid hR
  clear hR
  go_enter Tryz.func210, Tryz.ntmps210
  have cat := at_lit [3, 16] 65544 (by decide +kernel) (by decide) 2 rfl (by decide) #[Value.int .i64 3, Value.int .i64 16] rfl 3
  go_wp2_with (go_at_call 223; refine cat _ _ ?_ _ ?_; · simp)
  have he := of_end w (Obj.cells #[Value.int .i64 3, Value.int .i64 16] 3) 252 (Value.int .i64 5) (Value.int .i64 (65544))
  refine bodyPost_ret (results_cell_row rfl _ _ w.heap.size 252 #[Value.int .i64 5, Value.int .i64 (65544)] (0, 0) _ rfl he.1 Tryz.underlying252 rfl (by kernel_rfl)) rfl ?_
  exact HR.out _ he.2

set_option maxRecDepth 100000 in
theorem of_8 (w : World) (R : Ending → World → Prop) (hR : ∀ w', Below w.heap.size w w' → R (.returned (.agg #[.int .i64 5, .int .i64 (65544)])) w') :
    Calls Tryz.prog 210 #[.int .i64 8] w R := by
  have HR := Lib.hid hR
  clear hR
  go_enter Tryz.func210, Tryz.ntmps210
  have cat := at_lit [3, 16] 65544 (by decide +kernel) (by decide) 2 rfl (by decide) #[Value.int .i64 3, Value.int .i64 16] rfl 3
  go_wp2_with (go_at_call 223; refine cat _ _ ?_ _ ?_; · simp)
  have he := of_end w (Obj.cells #[Value.int .i64 3, Value.int .i64 16] 3) 252 (Value.int .i64 5) (Value.int .i64 (65544))
  refine bodyPost_ret (results_cell_row rfl _ _ w.heap.size 252 #[Value.int .i64 5, Value.int .i64 (65544)] (0, 0) _ rfl he.1 Tryz.underlying252 rfl (by kernel_rfl)) rfl ?_
  exact HR.out _ he.2

set_option maxRecDepth 100000 in
theorem of_9 (w : World) (R : Ending → World → Prop) (hR : ∀ w', Below w.heap.size w w' → R (.returned (.agg #[.int .i64 6, .int .i64 (65544)])) w') :
    Calls Tryz.prog 210 #[.int .i64 9] w R := by
  have HR := Lib.hid hR
  clear hR
  go_enter Tryz.func210, Tryz.ntmps210
  have cat := at_lit [3, 16] 65544 (by decide +kernel) (by decide) 2 rfl (by decide) #[Value.int .i64 3, Value.int .i64 16] rfl 3
  go_wp2_with (go_at_call 223; refine cat _ _ ?_ _ ?_; · simp)
  have he := of_end w (Obj.cells #[Value.int .i64 3, Value.int .i64 16] 3) 252 (Value.int .i64 6) (Value.int .i64 (65544))
  refine bodyPost_ret (results_cell_row rfl _ _ w.heap.size 252 #[Value.int .i64 6, Value.int .i64 (65544)] (0, 0) _ rfl he.1 Tryz.underlying252 rfl (by kernel_rfl)) rfl ?_
  exact HR.out _ he.2

set_option maxRecDepth 100000 in
theorem of_11 (w : World) (R : Ending → World → Prop) (hR : ∀ w', Below w.heap.size w w' → R (.returned (.agg #[.int .i64 4, .int .i64 (264)])) w') :
    Calls Tryz.prog 210 #[.int .i64 11] w R := by
  have HR := Lib.hid hR
  clear hR
  go_enter Tryz.func210, Tryz.ntmps210
  have cat := at_lit [3, 8] 264 (by decide +kernel) (by decide) 2 rfl (by decide) #[Value.int .i64 3, Value.int .i64 8] rfl 3
  go_wp2_with (go_at_call 223; refine cat _ _ ?_ _ ?_; · simp)
  have he := of_end w (Obj.cells #[Value.int .i64 3, Value.int .i64 8] 3) 252 (Value.int .i64 4) (Value.int .i64 (264))
  refine bodyPost_ret (results_cell_row rfl _ _ w.heap.size 252 #[Value.int .i64 4, Value.int .i64 (264)] (0, 0) _ rfl he.1 Tryz.underlying252 rfl (by kernel_rfl)) rfl ?_
  exact HR.out _ he.2

set_option maxRecDepth 100000 in
theorem of_17 (w : World) (R : Ending → World → Prop) (hR : ∀ w', Below w.heap.size w w' → R (.returned (.agg #[.int .i64 3, .int .i64 (16390)])) w') :
    Calls Tryz.prog 210 #[.int .i64 17] w R := by
  have HR := Lib.hid hR
  clear hR
  go_enter Tryz.func210, Tryz.ntmps210
  have cat := at_lit [1, 2, 14] 16390 (by decide +kernel) (by decide) 3 rfl (by decide) #[Value.int .i64 1, Value.int .i64 2, Value.int .i64 14] rfl 3
  go_wp2_with (go_at_call 223; refine cat _ _ ?_ _ ?_; · simp)
  have he := of_end w (Obj.cells #[Value.int .i64 1, Value.int .i64 2, Value.int .i64 14] 3) 252 (Value.int .i64 3) (Value.int .i64 (16390))
  refine bodyPost_ret (results_cell_row rfl _ _ w.heap.size 252 #[Value.int .i64 3, Value.int .i64 (16390)] (0, 0) _ rfl he.1 Tryz.underlying252 rfl (by kernel_rfl)) rfl ?_
  exact HR.out _ he.2

set_option maxRecDepth 100000 in
theorem of_18 (w : World) (R : Ending → World → Prop) (hR : ∀ w', Below w.heap.size w w' → R (.returned (.agg #[.int .i64 5, .int .i64 (4)])) w') :
    Calls Tryz.prog 210 #[.int .i64 18] w R := by
  have HR := Lib.hid hR
  clear hR
  go_enter Tryz.func210, Tryz.ntmps210
  have cat := at_lit [2] 4 (by decide +kernel) (by decide) 1 rfl (by decide) #[Value.int .i64 2] rfl 3
  go_wp2_with (go_at_call 223; refine cat _ _ ?_ _ ?_; · simp)
  have he := of_end w (Obj.cells #[Value.int .i64 2] 3) 252 (Value.int .i64 5) (Value.int .i64 (4))
  refine bodyPost_ret (results_cell_row rfl _ _ w.heap.size 252 #[Value.int .i64 5, Value.int .i64 (4)] (0, 0) _ rfl he.1 Tryz.underlying252 rfl (by kernel_rfl)) rfl ?_
  exact HR.out _ he.2

set_option maxRecDepth 100000 in
theorem of_26 (w : World) (R : Ending → World → Prop) (hR : ∀ w', Below w.heap.size w w' → R (.returned (.agg #[.int .i64 5, .int .i64 (4)])) w') :
    Calls Tryz.prog 210 #[.int .i64 26] w R := by
  have HR := Lib.hid hR
  clear hR
  go_enter Tryz.func210, Tryz.ntmps210
  have cat := at_lit [2] 4 (by decide +kernel) (by decide) 1 rfl (by decide) #[Value.int .i64 2] rfl 3
  go_wp2_with (go_at_call 223; refine cat _ _ ?_ _ ?_; · simp)
  have he := of_end w (Obj.cells #[Value.int .i64 2] 3) 252 (Value.int .i64 5) (Value.int .i64 (4))
  refine bodyPost_ret (results_cell_row rfl _ _ w.heap.size 252 #[Value.int .i64 5, Value.int .i64 (4)] (0, 0) _ rfl he.1 Tryz.underlying252 rfl (by kernel_rfl)) rfl ?_
  exact HR.out _ he.2

set_option maxRecDepth 100000 in
theorem of_19 (w : World) (R : Ending → World → Prop) (hR : ∀ w', Below w.heap.size w w' → R (.returned (.agg #[.int .i64 2, .int .i64 (4)])) w') :
    Calls Tryz.prog 210 #[.int .i64 19] w R := by
  have HR := Lib.hid hR
  clear hR
  go_enter Tryz.func210, Tryz.ntmps210
  have cat := at_lit [2] 4 (by decide +kernel) (by decide) 1 rfl (by decide) #[Value.int .i64 2] rfl 3
  go_wp2_with (go_at_call 223; refine cat _ _ ?_ _ ?_; · simp)
  have he := of_end w (Obj.cells #[Value.int .i64 2] 3) 252 (Value.int .i64 2) (Value.int .i64 (4))
  refine bodyPost_ret (results_cell_row rfl _ _ w.heap.size 252 #[Value.int .i64 2, Value.int .i64 (4)] (0, 0) _ rfl he.1 Tryz.underlying252 rfl (by kernel_rfl)) rfl ?_
  exact HR.out _ he.2

set_option maxRecDepth 100000 in
theorem of_21 (w : World) (R : Ending → World → Prop) (hR : ∀ w', Below w.heap.size w w' → R (.returned (.agg #[.int .i64 5, .int .i64 (32774)])) w') :
    Calls Tryz.prog 210 #[.int .i64 21] w R := by
  have HR := Lib.hid hR
  clear hR
  go_enter Tryz.func210, Tryz.ntmps210
  have cat := at_lit [1, 2, 15] 32774 (by decide +kernel) (by decide) 3 rfl (by decide) #[Value.int .i64 1, Value.int .i64 2, Value.int .i64 15] rfl 3
  go_wp2_with (go_at_call 223; refine cat _ _ ?_ _ ?_; · simp)
  have he := of_end w (Obj.cells #[Value.int .i64 1, Value.int .i64 2, Value.int .i64 15] 3) 252 (Value.int .i64 5) (Value.int .i64 (32774))
  refine bodyPost_ret (results_cell_row rfl _ _ w.heap.size 252 #[Value.int .i64 5, Value.int .i64 (32774)] (0, 0) _ rfl he.1 Tryz.underlying252 rfl (by kernel_rfl)) rfl ?_
  exact HR.out _ he.2

set_option maxRecDepth 100000 in
theorem of_22 (w : World) (R : Ending → World → Prop) (hR : ∀ w', Below w.heap.size w w' → R (.returned (.agg #[.int .i64 6, .int .i64 (32774)])) w') :
    Calls Tryz.prog 210 #[.int .i64 22] w R := by
  have HR := Lib.hid hR
  clear hR
  go_enter Tryz.func210, Tryz.ntmps210
  have cat := at_lit [1, 2, 15] 32774 (by decide +kernel) (by decide) 3 rfl (by decide) #[Value.int .i64 1, Value.int .i64 2, Value.int .i64 15] rfl 3
  go_wp2_with (go_at_call 223; refine cat _ _ ?_ _ ?_; · simp)
  have he := of_end w (Obj.cells #[Value.int .i64 1, Value.int .i64 2, Value.int .i64 15] 3) 252 (Value.int .i64 6) (Value.int .i64 (32774))
  refine bodyPost_ret (results_cell_row rfl _ _ w.heap.size 252 #[Value.int .i64 6, Value.int .i64 (32774)] (0, 0) _ rfl he.1 Tryz.underlying252 rfl (by kernel_rfl)) rfl ?_
  exact HR.out _ he.2

set_option maxRecDepth 100000 in
theorem of_23 (w : World) (R : Ending → World → Prop) (hR : ∀ w', Below w.heap.size w w' → R (.returned (.agg #[.int .i64 1, .int .i64 (2)])) w') :
    Calls Tryz.prog 210 #[.int .i64 23] w R := by
  have HR := Lib.hid hR
  clear hR
  go_enter Tryz.func210, Tryz.ntmps210
  have cat := at_lit [1] 2 (by decide +kernel) (by decide) 1 rfl (by decide) #[Value.int .i64 1] rfl 3
  go_wp2_with (go_at_call 223; refine cat _ _ ?_ _ ?_; · simp)
  have he := of_end w (Obj.cells #[Value.int .i64 1] 3) 252 (Value.int .i64 1) (Value.int .i64 (2))
  refine bodyPost_ret (results_cell_row rfl _ _ w.heap.size 252 #[Value.int .i64 1, Value.int .i64 (2)] (0, 0) _ rfl he.1 Tryz.underlying252 rfl (by kernel_rfl)) rfl ?_
  exact HR.out _ he.2

set_option maxRecDepth 100000 in
theorem of_25 (w : World) (R : Ending → World → Prop) (hR : ∀ w', Below w.heap.size w w' → R (.returned (.agg #[.int .i64 1, .int .i64 (2)])) w') :
    Calls Tryz.prog 210 #[.int .i64 25] w R := by
  have HR := Lib.hid hR
  clear hR
  go_enter Tryz.func210, Tryz.ntmps210
  have cat := at_lit [1] 2 (by decide +kernel) (by decide) 1 rfl (by decide) #[Value.int .i64 1] rfl 3
  go_wp2_with (go_at_call 223; refine cat _ _ ?_ _ ?_; · simp)
  have he := of_end w (Obj.cells #[Value.int .i64 1] 3) 252 (Value.int .i64 1) (Value.int .i64 (2))
  refine bodyPost_ret (results_cell_row rfl _ _ w.heap.size 252 #[Value.int .i64 1, Value.int .i64 (2)] (0, 0) _ rfl he.1 Tryz.underlying252 rfl (by kernel_rfl)) rfl ?_
  exact HR.out _ he.2

set_option maxRecDepth 100000 in
theorem of_24 (w : World) (R : Ending → World → Prop) (hR : ∀ w', Below w.heap.size w w' → R (.returned (.agg #[.int .i64 3, .int .i64 (65536)])) w') :
    Calls Tryz.prog 210 #[.int .i64 24] w R := by
  have HR := Lib.hid hR
  clear hR
  go_enter Tryz.func210, Tryz.ntmps210
  have cat := at_lit [16] 65536 (by decide +kernel) (by decide) 1 rfl (by decide) #[Value.int .i64 16] rfl 3
  go_wp2_with (go_at_call 223; refine cat _ _ ?_ _ ?_; · simp)
  have he := of_end w (Obj.cells #[Value.int .i64 16] 3) 252 (Value.int .i64 3) (Value.int .i64 (65536))
  refine bodyPost_ret (results_cell_row rfl _ _ w.heap.size 252 #[Value.int .i64 3, Value.int .i64 (65536)] (0, 0) _ rfl he.1 Tryz.underlying252 rfl (by kernel_rfl)) rfl ?_
  exact HR.out _ he.2

set_option maxRecDepth 100000 in
theorem of_28 (w : World) (R : Ending → World → Prop) (hR : ∀ w', Below w.heap.size w w' → R (.returned (.agg #[.int .i64 5, .int .i64 (16388)])) w') :
    Calls Tryz.prog 210 #[.int .i64 28] w R := by
  have HR := Lib.hid hR
  clear hR
  go_enter Tryz.func210, Tryz.ntmps210
  have cat := at_lit [2, 14] 16388 (by decide +kernel) (by decide) 2 rfl (by decide) #[Value.int .i64 2, Value.int .i64 14] rfl 3
  go_wp2_with (go_at_call 223; refine cat _ _ ?_ _ ?_; · simp)
  have he := of_end w (Obj.cells #[Value.int .i64 2, Value.int .i64 14] 3) 252 (Value.int .i64 5) (Value.int .i64 (16388))
  refine bodyPost_ret (results_cell_row rfl _ _ w.heap.size 252 #[Value.int .i64 5, Value.int .i64 (16388)] (0, 0) _ rfl he.1 Tryz.underlying252 rfl (by kernel_rfl)) rfl ?_
  exact HR.out _ he.2

set_option maxRecDepth 100000 in
theorem of_31 (w : World) (R : Ending → World → Prop) (hR : ∀ w', Below w.heap.size w w' → R (.returned (.agg #[.int .i64 5, .int .i64 (51956)])) w') :
    Calls Tryz.prog 210 #[.int .i64 31] w R := by
  have HR := Lib.hid hR
  clear hR
  go_enter Tryz.func210, Tryz.ntmps210
  have cat := at_lit [2, 4, 5, 6, 7, 9, 11, 14, 15] 51956 (by decide +kernel) (by decide) 9 rfl (by decide) #[Value.int .i64 2, Value.int .i64 4, Value.int .i64 5, Value.int .i64 6, Value.int .i64 7, Value.int .i64 9, Value.int .i64 11, Value.int .i64 14, Value.int .i64 15] rfl 3
  go_wp2_with (go_at_call 223; refine cat _ _ ?_ _ ?_; · simp)
  have he := of_end w (Obj.cells #[Value.int .i64 2, Value.int .i64 4, Value.int .i64 5, Value.int .i64 6, Value.int .i64 7, Value.int .i64 9, Value.int .i64 11, Value.int .i64 14, Value.int .i64 15] 3) 252 (Value.int .i64 5) (Value.int .i64 (51956))
  refine bodyPost_ret (results_cell_row rfl _ _ w.heap.size 252 #[Value.int .i64 5, Value.int .i64 (51956)] (0, 0) _ rfl he.1 Tryz.underlying252 rfl (by kernel_rfl)) rfl ?_
  exact HR.out _ he.2

set_option maxRecDepth 100000 in
theorem of_33 (w : World) (R : Ending → World → Prop) (hR : ∀ w', Below w.heap.size w w' → R (.returned (.agg #[.int .i64 2, .int .i64 (6)])) w') :
    Calls Tryz.prog 210 #[.int .i64 33] w R := by
  have HR := Lib.hid hR
  clear hR
  go_enter Tryz.func210, Tryz.ntmps210
  have cat := at_lit [1, 2] 6 (by decide +kernel) (by decide) 2 rfl (by decide) #[Value.int .i64 1, Value.int .i64 2] rfl 3
  go_wp2_with (go_at_call 223; refine cat _ _ ?_ _ ?_; · simp)
  have he := of_end w (Obj.cells #[Value.int .i64 1, Value.int .i64 2] 3) 252 (Value.int .i64 2) (Value.int .i64 (6))
  refine bodyPost_ret (results_cell_row rfl _ _ w.heap.size 252 #[Value.int .i64 2, Value.int .i64 (6)] (0, 0) _ rfl he.1 Tryz.underlying252 rfl (by kernel_rfl)) rfl ?_
  exact HR.out _ he.2

set_option maxRecDepth 100000 in
theorem of_34 (w : World) (R : Ending → World → Prop) (hR : ∀ w', Below w.heap.size w w' → R (.returned (.agg #[.int .i64 2, .int .i64 (6)])) w') :
    Calls Tryz.prog 210 #[.int .i64 34] w R := by
  have HR := Lib.hid hR
  clear hR
  go_enter Tryz.func210, Tryz.ntmps210
  have cat := at_lit [1, 2] 6 (by decide +kernel) (by decide) 2 rfl (by decide) #[Value.int .i64 1, Value.int .i64 2] rfl 3
  go_wp2_with (go_at_call 223; refine cat _ _ ?_ _ ?_; · simp)
  have he := of_end w (Obj.cells #[Value.int .i64 1, Value.int .i64 2] 3) 252 (Value.int .i64 2) (Value.int .i64 (6))
  refine bodyPost_ret (results_cell_row rfl _ _ w.heap.size 252 #[Value.int .i64 2, Value.int .i64 (6)] (0, 0) _ rfl he.1 Tryz.underlying252 rfl (by kernel_rfl)) rfl ?_
  exact HR.out _ he.2

set_option maxRecDepth 100000 in
theorem of_35 (w : World) (R : Ending → World → Prop) (hR : ∀ w', Below w.heap.size w w' → R (.returned (.agg #[.int .i64 2, .int .i64 (8)])) w') :
    Calls Tryz.prog 210 #[.int .i64 35] w R := by
  have HR := Lib.hid hR
  clear hR
  go_enter Tryz.func210, Tryz.ntmps210
  have cat := at_lit [3] 8 (by decide +kernel) (by decide) 1 rfl (by decide) #[Value.int .i64 3] rfl 3
  go_wp2_with (go_at_call 223; refine cat _ _ ?_ _ ?_; · simp)
  have he := of_end w (Obj.cells #[Value.int .i64 3] 3) 252 (Value.int .i64 2) (Value.int .i64 (8))
  refine bodyPost_ret (results_cell_row rfl _ _ w.heap.size 252 #[Value.int .i64 2, Value.int .i64 (8)] (0, 0) _ rfl he.1 Tryz.underlying252 rfl (by kernel_rfl)) rfl ?_
  exact HR.out _ he.2

set_option maxRecDepth 100000 in
theorem of_39 (w : World) (R : Ending → World → Prop) (hR : ∀ w', Below w.heap.size w w' → R (.returned (.agg #[.int .i64 3, .int .i64 (6)])) w') :
    Calls Tryz.prog 210 #[.int .i64 39] w R := by
  have HR := Lib.hid hR
  clear hR
  go_enter Tryz.func210, Tryz.ntmps210
  have cat := at_lit [1, 2] 6 (by decide +kernel) (by decide) 2 rfl (by decide) #[Value.int .i64 1, Value.int .i64 2] rfl 3
  go_wp2_with (go_at_call 223; refine cat _ _ ?_ _ ?_; · simp)
  have he := of_end w (Obj.cells #[Value.int .i64 1, Value.int .i64 2] 3) 252 (Value.int .i64 3) (Value.int .i64 (6))
  refine bodyPost_ret (results_cell_row rfl _ _ w.heap.size 252 #[Value.int .i64 3, Value.int .i64 (6)] (0, 0) _ rfl he.1 Tryz.underlying252 rfl (by kernel_rfl)) rfl ?_
  exact HR.out _ he.2

set_option maxRecDepth 100000 in
theorem of_36 (w : World) (R : Ending → World → Prop) (hR : ∀ w', Below w.heap.size w w' → R (.returned (.agg #[.int .i64 1, .int .i64 (4)])) w') :
    Calls Tryz.prog 210 #[.int .i64 36] w R := by
  have HR := Lib.hid hR
  clear hR
  go_enter Tryz.func210, Tryz.ntmps210
  have cat := at_lit [2] 4 (by decide +kernel) (by decide) 1 rfl (by decide) #[Value.int .i64 2] rfl 3
  go_wp2_with (go_at_call 223; refine cat _ _ ?_ _ ?_; · simp)
  have he := of_end w (Obj.cells #[Value.int .i64 2] 3) 252 (Value.int .i64 1) (Value.int .i64 (4))
  refine bodyPost_ret (results_cell_row rfl _ _ w.heap.size 252 #[Value.int .i64 1, Value.int .i64 (4)] (0, 0) _ rfl he.1 Tryz.underlying252 rfl (by kernel_rfl)) rfl ?_
  exact HR.out _ he.2

set_option maxRecDepth 100000 in
theorem of_37 (w : World) (R : Ending → World → Prop) (hR : ∀ w', Below w.heap.size w w' → R (.returned (.agg #[.int .i64 1, .int .i64 (4)])) w') :
    Calls Tryz.prog 210 #[.int .i64 37] w R := by
  have HR := Lib.hid hR
  clear hR
  go_enter Tryz.func210, Tryz.ntmps210
  have cat := at_lit [2] 4 (by decide +kernel) (by decide) 1 rfl (by decide) #[Value.int .i64 2] rfl 3
  go_wp2_with (go_at_call 223; refine cat _ _ ?_ _ ?_; · simp)
  have he := of_end w (Obj.cells #[Value.int .i64 2] 3) 252 (Value.int .i64 1) (Value.int .i64 (4))
  refine bodyPost_ret (results_cell_row rfl _ _ w.heap.size 252 #[Value.int .i64 1, Value.int .i64 (4)] (0, 0) _ rfl he.1 Tryz.underlying252 rfl (by kernel_rfl)) rfl ?_
  exact HR.out _ he.2

set_option maxRecDepth 100000 in
theorem of_40 (w : World) (R : Ending → World → Prop) (hR : ∀ w', Below w.heap.size w w' → R (.returned (.agg #[.int .i64 1, .int .i64 (4)])) w') :
    Calls Tryz.prog 210 #[.int .i64 40] w R := by
  have HR := Lib.hid hR
  clear hR
  go_enter Tryz.func210, Tryz.ntmps210
  have cat := at_lit [2] 4 (by decide +kernel) (by decide) 1 rfl (by decide) #[Value.int .i64 2] rfl 3
  go_wp2_with (go_at_call 223; refine cat _ _ ?_ _ ?_; · simp)
  have he := of_end w (Obj.cells #[Value.int .i64 2] 3) 252 (Value.int .i64 1) (Value.int .i64 (4))
  refine bodyPost_ret (results_cell_row rfl _ _ w.heap.size 252 #[Value.int .i64 1, Value.int .i64 (4)] (0, 0) _ rfl he.1 Tryz.underlying252 rfl (by kernel_rfl)) rfl ?_
  exact HR.out _ he.2

set_option maxRecDepth 100000 in
theorem of_41 (w : World) (R : Ending → World → Prop) (hR : ∀ w', Below w.heap.size w w' → R (.returned (.agg #[.int .i64 1, .int .i64 (4)])) w') :
    Calls Tryz.prog 210 #[.int .i64 41] w R := by
  have HR := Lib.hid hR
  clear hR
  go_enter Tryz.func210, Tryz.ntmps210
  have cat := at_lit [2] 4 (by decide +kernel) (by decide) 1 rfl (by decide) #[Value.int .i64 2] rfl 3
  go_wp2_with (go_at_call 223; refine cat _ _ ?_ _ ?_; · simp)
  have he := of_end w (Obj.cells #[Value.int .i64 2] 3) 252 (Value.int .i64 1) (Value.int .i64 (4))
  refine bodyPost_ret (results_cell_row rfl _ _ w.heap.size 252 #[Value.int .i64 1, Value.int .i64 (4)] (0, 0) _ rfl he.1 Tryz.underlying252 rfl (by kernel_rfl)) rfl ?_
  exact HR.out _ he.2

set_option maxRecDepth 100000 in
theorem of_42 (w : World) (R : Ending → World → Prop) (hR : ∀ w', Below w.heap.size w w' → R (.returned (.agg #[.int .i64 1, .int .i64 (4)])) w') :
    Calls Tryz.prog 210 #[.int .i64 42] w R := by
  have HR := Lib.hid hR
  clear hR
  go_enter Tryz.func210, Tryz.ntmps210
  have cat := at_lit [2] 4 (by decide +kernel) (by decide) 1 rfl (by decide) #[Value.int .i64 2] rfl 3
  go_wp2_with (go_at_call 223; refine cat _ _ ?_ _ ?_; · simp)
  have he := of_end w (Obj.cells #[Value.int .i64 2] 3) 252 (Value.int .i64 1) (Value.int .i64 (4))
  refine bodyPost_ret (results_cell_row rfl _ _ w.heap.size 252 #[Value.int .i64 1, Value.int .i64 (4)] (0, 0) _ rfl he.1 Tryz.underlying252 rfl (by kernel_rfl)) rfl ?_
  exact HR.out _ he.2

set_option maxRecDepth 100000 in
theorem of_38 (w : World) (R : Ending → World → Prop) (hR : ∀ w', Below w.heap.size w w' → R (.returned (.agg #[.int .i64 7, .int .i64 (-12290)])) w') :
    Calls Tryz.prog 210 #[.int .i64 38] w R := by
  have HR := Lib.hid hR
  clear hR
  go_enter Tryz.func210, Tryz.ntmps210
  have cat := at_lit [0, 12, 13] 12289 (by decide +kernel) (by decide) 3 rfl (by decide) #[Value.int .i64 0, Value.int .i64 12, Value.int .i64 13] rfl 3
  go_wp2_with (go_at_call 223; refine cat _ _ ?_ _ ?_; · simp)
  have he := of_end w (Obj.cells #[Value.int .i64 0, Value.int .i64 12, Value.int .i64 13] 3) 252 (Value.int .i64 7) (Value.int .i64 (-12290))
  refine bodyPost_ret (results_cell_row rfl _ _ w.heap.size 252 #[Value.int .i64 7, Value.int .i64 (-12290)] (0, 0) _ rfl he.1 Tryz.underlying252 rfl (by kernel_rfl)) rfl ?_
  exact HR.out _ he.2

set_option maxRecDepth 100000 in
theorem of_not (id : Int) (h1 : ¬ id = 1) (h2 : ¬ id = 2) (h3 : ¬ id = 3) (h8 : ¬ id = 8) (h9 : ¬ id = 9) (h11 : ¬ id = 11) (h17 : ¬ id = 17) (h18 : ¬ id = 18) (h19 : ¬ id = 19) (h21 : ¬ id = 21) (h22 : ¬ id = 22) (h23 : ¬ id = 23) (h24 : ¬ id = 24) (h25 : ¬ id = 25) (h26 : ¬ id = 26) (h28 : ¬ id = 28) (h31 : ¬ id = 31) (h33 : ¬ id = 33) (h34 : ¬ id = 34) (h35 : ¬ id = 35) (h36 : ¬ id = 36) (h37 : ¬ id = 37) (h38 : ¬ id = 38) (h39 : ¬ id = 39) (h40 : ¬ id = 40) (h41 : ¬ id = 41) (h42 : ¬ id = 42) (w : World) (R : Ending → World → Prop) (hR : ∀ w', Below w.heap.size w w' → R (.returned (.agg #[.int .i64 0, .int .i64 0])) w') :
    Calls Tryz.prog 210 #[.int .i64 id] w R := by
  have HR := Lib.hid hR
  clear hR
  go_enter Tryz.func210, Tryz.ntmps210
  go_wp2
  have he := of_none w 252 (Value.int .i64 0) (Value.int .i64 0)
  refine bodyPost_ret (results_cell_row rfl _ _ w.heap.size 252 #[Value.int .i64 0, Value.int .i64 0] (0, 0) _ rfl he.1 Tryz.underlying252 rfl (by kernel_rfl)) rfl ?_
  exact HR.out _ he.2

theorem of_any (id : Int) (w : World) (R : Ending → World → Prop) (hR : ∀ w', Below w.heap.size w w' → R (.returned (.agg #[.int .i64 (kindL id), .int .i64 (placesL id)])) w') :
    Calls Tryz.prog 210 #[.int .i64 id] w R := by
  by_cases h1 : id = 1
  · subst h1
    exact of_1 w R hR
  by_cases h2 : id = 2
  · subst h2
    exact of_2 w R hR
  by_cases h3 : id = 3
  · subst h3
    exact of_3 w R hR
  by_cases h8 : id = 8
  · subst h8
    exact of_8 w R hR
  by_cases h9 : id = 9
  · subst h9
    exact of_9 w R hR
  by_cases h11 : id = 11
  · subst h11
    exact of_11 w R hR
  by_cases h17 : id = 17
  · subst h17
    exact of_17 w R hR
  by_cases h18 : id = 18
  · subst h18
    exact of_18 w R hR
  by_cases h19 : id = 19
  · subst h19
    exact of_19 w R hR
  by_cases h21 : id = 21
  · subst h21
    exact of_21 w R hR
  by_cases h22 : id = 22
  · subst h22
    exact of_22 w R hR
  by_cases h23 : id = 23
  · subst h23
    exact of_23 w R hR
  by_cases h24 : id = 24
  · subst h24
    exact of_24 w R hR
  by_cases h25 : id = 25
  · subst h25
    exact of_25 w R hR
  by_cases h26 : id = 26
  · subst h26
    exact of_26 w R hR
  by_cases h28 : id = 28
  · subst h28
    exact of_28 w R hR
  by_cases h31 : id = 31
  · subst h31
    exact of_31 w R hR
  by_cases h33 : id = 33
  · subst h33
    exact of_33 w R hR
  by_cases h34 : id = 34
  · subst h34
    exact of_34 w R hR
  by_cases h35 : id = 35
  · subst h35
    exact of_35 w R hR
  by_cases h36 : id = 36
  · subst h36
    exact of_36 w R hR
  by_cases h37 : id = 37
  · subst h37
    exact of_37 w R hR
  by_cases h38 : id = 38
  · subst h38
    exact of_38 w R hR
  by_cases h39 : id = 39
  · subst h39
    exact of_39 w R hR
  by_cases h40 : id = 40
  · subst h40
    exact of_40 w R hR
  by_cases h41 : id = 41
  · subst h41
    exact of_41 w R hR
  by_cases h42 : id = 42
  · subst h42
    exact of_42 w R hR
  have e1 : kindL id = 0 := by unfold kindL; simp only [h1, h2, h3, h8, h9, h11, h17, h18, h19, h21, h22, h23, h24, h25, h26, h28, h31, h33, h34, h35, h36, h37, h38, h39, h40, h41, h42, or_self, if_false]
  have e2 : placesL id = 0 := by unfold placesL clsL; simp only [h1, h2, h3, h8, h9, h11, h17, h18, h19, h21, h22, h23, h24, h25, h26, h28, h31, h33, h34, h35, h36, h37, h38, h39, h40, h41, h42, or_self, if_false]; rfl
  rw [e1, e2] at hR
  exact of_not id h1 h2 h3 h8 h9 h11 h17 h18 h19 h21 h22 h23 h24 h25 h26 h28 h31 h33 h34 h35 h36 h37 h38 h39 h40 h41 h42 w R hR
end Go.Proofs.YtgimbocoamnkjaaGreatDoor

/- Kinds and places of properties: the program's and the document's answers. -/
namespace Go.Proofs.YtgimbocoamnkjaaGreatDoor
open Go.RowKit

set_option maxRecDepth 100000 in
theorem kind_any (id : Int) (k : Nat) (hk : kindL id = k) (w : World) (R : Ending → World → Prop) (hR : ∀ w', Below w.heap.size w w' → R (.returned (.int .i64 k)) w') :
    Calls Tryz.prog 189 #[.int .i64 id] w R := by
  obtain ⟨pl, hpl⟩ : ∃ pl, placesL id = pl := ⟨_, rfl⟩
  have HR := Lib.hid hR
  clear hR
  have HK := Lib.hid hk
  have HP := Lib.hid hpl
  clear hk hpl
  have hfd : ∀ w : World, (Instr.field 252 (.agg #[.int .i64 (k : Int), .int .i64 pl]) 0).run Tryz.prog w = .ok (.int .i64 (k : Int)) w := fun _ => by kernel_rfl
  go_enter Tryz.func189, Tryz.ntmps189
  go_wp2_with (go_at_call 210; refine of_any id _ _ ?_; rw [HK.out, HP.out]; intro w1 hb1)
  exact HR.out _ hb1
theorem often_any (id wh : Int) (w : World) (R : Ending → World → Prop) (hR : R (.returned (.bool (oftenL id wh))) w) :
    Calls Tryz.prog 214 #[.int .i64 id, .int .i64 wh] w R := by
  by_cases h1 : id = 38
  · have e : oftenL id wh = true := by unfold oftenL; simp [h1]
    rw [e] at hR
    subst h1
    go_enter Tryz.func214, Tryz.ntmps214
    go_wp2
    exact hR
  · by_cases h2 : id = 11
    · have e : oftenL id wh = decide (wh = 3) := by unfold oftenL; simp [h2]
      rw [e] at hR
      subst h2
      clear h1
      by_cases h3 : wh = 3
      · subst h3
        go_enter Tryz.func214, Tryz.ntmps214
        go_wp2
        exact hR
      · have e3 : decide (wh = 3) = false := decide_eq_false h3
        rw [e3] at hR
        have b3 : (wh == 3) = false := by simp [h3]
        have b3' := Lib.hid b3
        clear b3
        go_enter Tryz.func214, Tryz.ntmps214
        go_wp2
        simpa [b3'.out] using hR
    · have e : oftenL id wh = false := by unfold oftenL; simp [h1, h2]
      rw [e] at hR
      have b1 := Lib.hid (show (id == 38) = false by simp [h1])
      have b2 := Lib.hid (show (id == 11) = false by simp [h2])
      go_enter Tryz.func214, Tryz.ntmps214
      go_wp2
      simpa [b1.out] using hR
set_option maxRecDepth 100000 in
theorem may_any (id wh : Int) (m : Bool) (hm : mayL id wh = m) (w : World) (R : Ending → World → Prop) (hR : ∀ w', Below w.heap.size w w' → R (.returned (.bool m)) w') :
    Calls Tryz.prog 211 #[.int .i64 id, .int .i64 wh] w R := by
  have HR := Lib.hid hR
  clear hR
  by_cases h1 : wh < 1 ∨ 16 < wh
  · obtain rfl : m = false := by rw [← hm]; exact may_range id wh h1
    have HM := Lib.hid hm
    clear hm
    rcases h1 with h1 | h1
    · have h2 : ¬ 1 ≤ wh := by omega
      go_enter Tryz.func211, Tryz.ntmps211
      go_wp2
      exact HR.out _ (Below.refl _ _)
    · have h2 : ¬ wh ≤ 16 := by omega
      have h3 : 1 ≤ wh := by omega
      go_enter Tryz.func211, Tryz.ntmps211
      go_wp2
      exact HR.out _ (Below.refl _ _)
  · have h2 : 1 ≤ wh := by omega
    have h3 : wh ≤ 16 := by omega
    have hb := may_bits id wh h2 h3
    rw [hm] at hb
    obtain ⟨pl, hpl⟩ : ∃ pl, placesL id = pl := ⟨_, rfl⟩
    obtain ⟨k, hk⟩ : ∃ k, kindL id = k := ⟨_, rfl⟩
    rw [hpl] at hb
    have HB := Lib.hid hb
    have HP := Lib.hid hpl
    have HK := Lib.hid hk
    have HM := Lib.hid hm
    clear hb hm h1 hpl hk
    have hfd : ∀ w : World, (Instr.field 252 (.agg #[.int .i64 (k : Int), .int .i64 pl]) 1).run Tryz.prog w = .ok (.int .i64 pl) w := fun _ => by kernel_rfl
    go_enter Tryz.func211, Tryz.ntmps211
    go_wp2_with (go_at_call 210; refine of_any id _ _ ?_; rw [HK.out, HP.out]; intro w1 hb1)
    have e := HB.out
    unfold bitAt at e
    exact (e ▸ HR.out _ hb1)
end Go.Proofs.YtgimbocoamnkjaaGreatDoor

/- Properties: the walks' own tools. -/
namespace Go.Proofs.YtgimbocoamnkjaaGreatDoor
open Go.RowKit

theorem row_later2 {w w' : World} {g : Nat} {o : Obj} (h : w.heap[g]? = some o) (hb : Below w.heap.size w w') : w'.heap[g]? = some o := by
  rw [hb.block g (Array.getElem?_eq_some_iff.1 h).1]
  exact h
theorem below_tr {a b c : World} (h : Below a.heap.size a b) (h2 : Below b.heap.size b c) : Below a.heap.size a c := h.trans (h2.mono h.size)
theorem bs_nil (w : World) : Bs w (.slice none 0 0) [] := ⟨none, 0, rfl, Rd.nil _ _ _, Nat.le_refl _, by omega, fun _ => rfl⟩

theorem results_cell_two {P : Program} {fn : Func} {p q u : Tmp} {ty : TypeId} (h : fn.results = #[.cell p ty, .tmp q, .tmp u]) (tmps : Array Value) (w : World) (g : Nat) (t : TypeId) (cs : Array Value) (fr : Nat × Nat) (d : TypeDesc) (r s : Value)
    (hp : tmps.getD p undef = .pointer (some ⟨g, 0, none⟩)) (hq : tmps.getD q undef = r) (hu' : tmps.getD u undef = s) (hg : w.heap[g]? = some (.cells cs t fr))
    (hu : P.underlying ty = some d) (hd : (match d with | .struct _ | .array _ _ => true | _ => false) = true) (hi : (P.info? ty).map (·.size) = some cs.size) :
    (results fn tmps).run P w = .ok (.tuple #[.agg cs, r, s]) w := by
  have hp' : tmps[p]?.getD undef = .pointer (some ⟨g, 0, none⟩) := by simpa using hp
  have hq' : tmps[q]?.getD undef = r := by simpa using hq
  have hu2 : tmps[u]?.getD undef = s := by simpa using hu'
  simp [results, h, hp', hq', hu2, asAddr, run_loadVar_row w g t ty cs fr d hg hu hd hi]
theorem results_cell_one {P : Program} {fn : Func} {p q : Tmp} {ty : TypeId} (h : fn.results = #[.cell p ty, .tmp q]) (tmps : Array Value) (w : World) (g : Nat) (t : TypeId) (cs : Array Value) (fr : Nat × Nat) (d : TypeDesc) (r : Value)
    (hp : tmps.getD p undef = .pointer (some ⟨g, 0, none⟩)) (hq : tmps.getD q undef = r) (hg : w.heap[g]? = some (.cells cs t fr))
    (hu : P.underlying ty = some d) (hd : (match d with | .struct _ | .array _ _ => true | _ => false) = true) (hi : (P.info? ty).map (·.size) = some cs.size) :
    (results fn tmps).run P w = .ok (.tuple #[.agg cs, r]) w := by
  have hp' : tmps[p]?.getD undef = .pointer (some ⟨g, 0, none⟩) := by simpa using hp
  have hq' : tmps[q]?.getD undef = r := by simpa using hq
  simp [results, h, hp', hq', asAddr, run_loadVar_row w g t ty cs fr d hg hu hd hi]

/-- Five cells written over. -/
def set5 (x : World) (N : Nat) (a b c d e : Value) : World := ((((x.setCell ⟨N, 0, none⟩ a).setCell ⟨N, 1, none⟩ b).setCell ⟨N, 2, none⟩ c).setCell ⟨N, 3, none⟩ d).setCell ⟨N, 4, none⟩ e
theorem done5 {N t : Nat} {x : World} {out : Array Value} (h3 : x.heap[N]? = some (.cells out t (0, 0))) (hs : out.size = 5) (a b c d e : Value) : (set5 x N a b c d e).heap[N]? = some (.cells #[a, b, c, d, e] t (0, 0)) := by
  unfold set5
  rw [heap_setCell_same _ _ 4 _ _ _ (heap_setCell_same _ _ 3 _ _ _ (heap_setCell_same _ _ 2 _ _ _ (heap_setCell_same _ _ 1 _ _ _ (heap_setCell_same _ _ 0 _ _ _ h3))))]
  match out, hs with
  | ⟨[_, _, _, _, _]⟩, _ => rfl
theorem keeps5 {N t te : Nat} {x : World} {out : Array Value} (h3 : x.heap[N]? = some (.cells out t (0, 0))) (ht : t ≠ te) (a b c d e : Value) : Keeps te x (set5 x N a b c d e) := by
  have k1 := heap_setCell_same _ _ 0 _ _ a h3
  have k2 := heap_setCell_same _ _ 1 _ _ b k1
  have k3 := heap_setCell_same _ _ 2 _ _ c k2
  have k4 := heap_setCell_same _ _ 3 _ _ d k3
  exact (((Keeps.setK h3 ht).trans (Keeps.setK k1 ht)).trans ((Keeps.setK k2 ht).trans (Keeps.setK k3 ht))).trans (Keeps.setK k4 ht)
theorem below_set5 {B N : Nat} {w x : World} (h : Below B w x) (hN : B ≤ N) (a b c d e : Value) : Below B w (set5 x N a b c d e) :=
  ((((h.setCell hN a).setCell hN b).setCell hN c).setCell hN d).setCell hN e

theorem rd_takeN {w : World} {size n m : Nat} {ad : Option Addr} {cs : List Value} (h : Rd w size ad n cs) (hm : m ≤ n) : Rd w size ad m (cs.take (m * size)) := by
  have hms := Nat.mul_le_mul_right size hm
  refine ⟨by have := h.1; rw [List.length_take]; omega, fun h0 => ?_⟩
  obtain ⟨b, o, e, hc⟩ := h.2 (by omega)
  refine ⟨b, o, e, fun j hj => ?_⟩
  rw [hc j (by omega), List.getElem?_take, if_pos (by omega)]
theorem rd_dropN {w : World} {size n m : Nat} {ad : Option Addr} {cs : List Value} (h : Rd w size ad n cs) (hm : m ≤ n) : Rd w size (ad.map (·.add (m * size))) (n - m) (cs.drop (m * size)) := by
  have hms := Nat.mul_le_mul_right size hm
  have hsub : (n - m) * size = n * size - m * size := Nat.sub_mul _ _ _
  refine ⟨by have := h.1; rw [List.length_drop]; omega, fun h0 => ?_⟩
  obtain ⟨b, o, rfl, hc⟩ := h.2 (by omega)
  refine ⟨b, o + m * size, by rw [Option.map_some, Addr.add_lit], fun j hj => ?_⟩
  rw [Nat.add_assoc, hc (m * size + j) (by omega), List.getElem?_drop]

theorem bv_take (l : List UInt8) (k : Nat) : bv (l.take k) = (bv l).take k := by simp [bv, List.map_take]
theorem bv_drop (l : List UInt8) (k : Nat) : bv (l.drop k) = (bv l).drop k := by simp [bv, List.map_drop]

/-- A piece of bytes from a place on. -/
theorem bs_from {w : World} {La : Option Addr} {n c j : Nat} {l : List UInt8} (h : Bs w (.slice La n c) l) (hj : j ≤ l.length) :
    ∃ Lx, (∀ w', (Instr.slice 22 (.slice La n c) (some (.int .i64 (j : Int))) none none).run Tryz.prog w' = .ok (.slice Lx (n - j) (c - j)) w') ∧ Bs w (.slice Lx (n - j) (c - j)) (l.drop j) := by
  obtain ⟨ad, c', e, q1, q2, q3, q4⟩ := h
  simp only [Value.slice.injEq] at e
  obtain ⟨rfl, rfl, rfl⟩ := e
  have he : Tryz.prog.elem 22 = 5 := by simp [Program.elem, Tryz.underlying22]
  obtain ⟨i, hi0, hz, hi1, hi2⟩ := info_parts Tryz.info5
  have hlen : (l.drop j).length = l.length - j := List.length_drop
  refine ⟨if c = j then La else La.map (·.add (j * 1)), fun w => ?_, _, _, by rw [hlen], ?_, by omega, by omega, fun hx => ?_⟩
  · rw [run_slice_l (P := Tryz.prog) w _ La l.length c (by rw [he]; exact Tryz.underlying22) .i64 j (by omega) (by omega), he]
    simp [sizeOf, typeInfo, hi0, hi1, sliced]
  · rw [hlen]
    by_cases hcj : c = j
    · have h0 : l.length - j = 0 := by omega
      have h1 : l.drop j = [] := List.drop_of_length_le (by omega)
      rw [h0, h1]
      exact Rd.nil _ _ _
    · rw [if_neg hcj]
      have := rd_dropN (m := j) q1 hj
      rw [Nat.mul_one, ← bv_drop] at this
      rw [Nat.mul_one]
      exact this
  · by_cases hcj : c = j
    · omega
    · rw [if_neg hcj] at hx
      have := q4 (by simpa using hx)
      omega
/-- A piece of bytes between two places. -/
theorem bs_mid {w : World} {La : Option Addr} {n c lo hi : Nat} {l : List UInt8} (h : Bs w (.slice La n c) l) (h1 : lo ≤ hi) (h2 : hi ≤ l.length) :
    ∃ Lx, (∀ w', (Instr.slice 22 (.slice La n c) (some (.int .i64 (lo : Int))) (some (.int .i64 (hi : Int))) none).run Tryz.prog w' = .ok (.slice Lx (hi - lo) (c - lo)) w') ∧ Bs w (.slice Lx (hi - lo) (c - lo)) ((l.take hi).drop lo) := by
  obtain ⟨ad, c', e, q1, q2, q3, q4⟩ := h
  simp only [Value.slice.injEq] at e
  obtain ⟨rfl, rfl, rfl⟩ := e
  have he : Tryz.prog.elem 22 = 5 := by simp [Program.elem, Tryz.underlying22]
  obtain ⟨i, hi0, hz, hi1, hi2⟩ := info_parts Tryz.info5
  have hlen : ((l.take hi).drop lo).length = hi - lo := by rw [List.length_drop, List.length_take]; omega
  refine ⟨if c = lo then La else La.map (·.add (lo * 1)), fun w => ?_, _, _, by rw [hlen], ?_, by omega, by omega, fun hx => ?_⟩
  · rw [run_slice_lh (P := Tryz.prog) w _ La l.length c (by rw [he]; exact Tryz.underlying22) .i64 .i64 lo hi (by omega) (by omega) (by omega), he]
    simp [sizeOf, typeInfo, hi0, hi1, sliced]
  · rw [hlen]
    by_cases hcj : c = lo
    · have h0 : hi - lo = 0 := by omega
      have h1 : (l.take hi).drop lo = [] := List.drop_of_length_le (by rw [List.length_take]; omega)
      rw [h0, h1]
      exact Rd.nil _ _ _
    · rw [if_neg hcj]
      have h3 := rd_takeN (m := hi) q1 h2
      have := rd_dropN (m := lo) h3 h1
      rw [Nat.mul_one, Nat.mul_one, ← bv_take, ← bv_drop] at this
      rw [Nat.mul_one]
      exact this
  · by_cases hcj : c = lo
    · omega
    · rw [if_neg hcj] at hx
      have := q4 (by simpa using hx)
      omega

set_option maxRecDepth 100000 in
set_option maxHeartbeats 800000 in
theorem clone_any (v : Value) (l : List UInt8) (w : World) (hv : Bs w v l) (hl : l.length ≤ 140737488355328) (R : Ending → World → Prop)
    (hR : ∀ ad c w', w'.ownsRow w.heap.size 5 1 (.slice ad l.length c) l.length (bv l) → Below w.heap.size w w' → R (.returned (.slice ad l.length c)) w') :
    Calls Tryz.prog 139 #[v] w R := by
  obtain ⟨ad, c, rfl, hr, h1, h2, h3⟩ := hv
  cases ad with
  | none =>
    have hc : c = 0 := h3 rfl
    subst hc
    have hl0 : l = [] := List.eq_nil_of_length_eq_zero (by omega)
    subst hl0
    have he : ∀ w : World, (binOp .eql 22 (.slice none 0 0) (.slice none 0 0)).run Tryz.prog w = .ok (.bool true) w := fun _ => rfl
    go_enter Tryz.func139, Tryz.ntmps139
    go_wp2
    exact hR _ _ _ (World.ownsRow_nil _ _ _ _) (Below.refl _ _)
  | some a =>
    have he : ∀ w : World, (binOp .eql 22 (.slice (some a) l.length c) (.slice none 0 0)).run Tryz.prog w = .ok (.bool false) w := fun _ => rfl
    have hown := (World.ownsRow_made (base := w.heap.size) (e := 5) (size := 1) w #[] 0 (Nat.le_refl _) (by unfold maxLen; omega) rfl)
    have hr1 := rd_alloc hr (.cells #[] 5)
    go_enter Tryz.func139, Tryz.ntmps139
    go_wp2_with (at_builtin; go_must (refine wpList_app (by rfl) (.tmp 5) (.tmp 6) 22 (by rfl) w.heap.size 5 (.int .u8 0) 1 1 Tryz.underlying22 Tryz.info5 rfl (by decide) _ _ _ _ rfl hown _ _ _ _ rfl hr1 (bv_oneCell _) h3 (by unfold maxLen; omega) (by omega) (by simp) ?_))
    intro ad2 c2 w2 hown2 hg2
    have hb2 := below_app ((Below.refl w.heap.size w).alloc (Nat.le_refl _) _) hg2 (by simp) hown
    clear hg2 hown hr1 hr
    go_wp2
    exact hR _ _ _ hown2 hb2
end Go.Proofs.YtgimbocoamnkjaaGreatDoor
