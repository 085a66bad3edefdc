import Derived.Test.YtgdfieolfhbmiaaDoorSum
import Derived.Test.YtgdfieolfhbmiaaDoorVar
import Derived.Test.YtgdfieolfhbmiaaDoorData
namespace Go.Proofs.YtgdfieolfhbmiaaDoor
open Go.RowKit

theorem wk1 : textL [97, 98] = ([0, 2, 97, 98], 0) := by decide +kernel
theorem wk2 : gvL [128, 1, 9] = (128, 2, 0) := by decide +kernel
theorem wk3 : sumL ([[49, 50, 51, 52, 53], [54, 55, 56, 57]] : List (List UInt8)).flatten = 3421780262 := by decide +kernel

set_option maxRecDepth 100000 in
set_option maxHeartbeats 1600000 in
theorem wakes_any (w : World) (hT : Tabs w) (R : Ending → World → Prop) (hR : ∀ w', Below w.heap.size w w' → R (.returned (.bool true)) w') :
    Calls Tryd.prog 16 #[] w R := by
  have kc := fun (w : World) (C : Array Value) (n c g : Nat) => run_conv_const (P := Tryd.prog) w 23 5 C n c g Tryd.underlying23 Tryd.underlying5
  go_enter Tryd.func16, Tryd.ntmps16
  go_wp2_with (go_at_call 32; go_must (refine text_any [97, 98] [0, 2, 97, 98] 0 wk1 _ (by simp) hT _ ?_))
  intro ad1 c1 w1 hown1 hb1
  go_wp2_with (go_at_call 20; go_must (refine getvar_any _ [128, 1, 9] 128 2 0 wk2 _ (bs_lit #[.int .u8 128, .int .u8 1, .int .u8 9] [128, 1, 9] rfl (by simp)) _ ?_))
  have hbs1 := (bs_of_owns hown1).2
  clear hown1 hT
  go_wp2_with (first | (go_at_call 19; go_in) | (go_at_call 13; fail))
  have hsame : (([0, 2, 97, 98] : List UInt8) == [0, 2, 97, 98]) = true := by decide
  have hL : Bs ((w1.alloc (Obj.cells #[Value.int IntKind.u8 128, Value.int IntKind.u8 1, Value.int IntKind.u8 9] 5)).alloc (Obj.cells #[Value.int IntKind.u8 0, Value.int IntKind.u8 2, Value.int IntKind.u8 97, Value.int IntKind.u8 98] 5)) (.slice (some ⟨w1.heap.size + 1, 0, none⟩) 4 4) [0, 2, 97, 98] := by
    have := bs_lit (w := w1.alloc (Obj.cells #[Value.int IntKind.u8 128, Value.int IntKind.u8 1, Value.int IntKind.u8 9] 5)) (e := 5) #[Value.int IntKind.u8 0, Value.int IntKind.u8 2, Value.int IntKind.u8 97, Value.int IntKind.u8 98] [0, 2, 97, 98] rfl (by simp)
    simpa using this
  refine same_any _ _ [0, 2, 97, 98] [0, 2, 97, 98] _ ((hbs1.alloc _).alloc _) hL _ ?_
  rw [hsame]
  clear hsame hL hbs1
  go_wp2_with (first | (go_at_call 19; go_in) | (go_at_call 12; fail))
  refine sum_any _ [[49, 50, 51, 52, 53], [54, 55, 56, 57]] _ (bss_row2 (by simp) ((bs_row _ [49, 50, 51, 52, 53] (by simp) rfl rfl (by simp)).alloc _) (bs_row _ [54, 55, 56, 57] (by simp) rfl rfl (by simp))) _ ?_
  rw [wk3]
  have hsz := hb1.size
  have hb2 := ((((hb1.alloc hsz (Obj.cells #[Value.int IntKind.u8 128, Value.int IntKind.u8 1, Value.int IntKind.u8 9] 5)).alloc (by simp; omega) (Obj.cells #[Value.int IntKind.u8 0, Value.int IntKind.u8 2, Value.int IntKind.u8 97, Value.int IntKind.u8 98] 5)).alloc (by simp; omega) (Obj.cells #[Value.int IntKind.u8 49, Value.int IntKind.u8 50, Value.int IntKind.u8 51, Value.int IntKind.u8 52, Value.int IntKind.u8 53] 5 (5, 6))).alloc (by simp; omega) (Obj.cells #[Value.int IntKind.u8 54, Value.int IntKind.u8 55, Value.int IntKind.u8 56, Value.int IntKind.u8 57] 5 (4, 5))).alloc (by simp; omega) (Obj.cells #[Value.slice (some ⟨w1.heap.size + 1 + 1, 0, none⟩) 5 5, Value.slice (some ⟨w1.heap.size + 1 + 1 + 1, 0, none⟩) 4 4] 23)
  go_wp2
  exact hb2
end Go.Proofs.YtgdfieolfhbmiaaDoor
