/- tidingslaw11.wakes, walked. -/
import Derived.Test.YtpodhidabhnnnaaDoorPropE
namespace Go.Proofs.YtpodhidabhnnnaaDoor
open Go.RowKit

theorem ps_lit1 {w : World} {e : Nat} {d : Value} {p : Pr} (h : PC w d p) : Ps (w.alloc (.cells #[.int .i64 p.id, .int .i64 p.num, .string (str p.text), .string (str p.pair), d] e)) (.slice (some ⟨w.heap.size, 0, none⟩) 1 1) [p] := by
  have n0 := heap_alloc_new w (Obj.cells #[.int .i64 p.id, .int .i64 p.num, .string (str p.text), .string (str p.pair), d] e)
  refine ⟨_, _, rfl, Nat.le_refl _, by simp, (fun h => by cases h), fun _ => ⟨_, _, rfl, fun i hi => ?_⟩⟩
  obtain rfl : i = 0 := by simpa using hi
  refine ⟨d, ⟨?_, ?_, ?_, ?_, ?_⟩, h.below ((Below.refl _ _).alloc (Nat.le_refl _) _)⟩
  · exact cell_of_row _ w.heap.size 0 _ _ _ n0
  · exact cell_of_row _ w.heap.size 1 _ _ _ n0
  · exact cell_of_row _ w.heap.size 2 _ _ _ n0
  · exact cell_of_row _ w.heap.size 3 _ _ _ n0
  · exact cell_of_row _ w.heap.size 4 _ _ _ n0
theorem bs_litk {w : World} {e n K : Nat} (l : List UInt8) (vs : Array Value) (hv : vs.toList = bv l) (hn : n = l.length) (hm : l.length ≤ 1000000) (hK : K = w.heap.size) : Bs (w.alloc (.cells vs e)) (.slice (some ⟨K, 0, none⟩) n n) l := by
  subst hK
  subst hn
  have hl := congrArg List.length hv
  rw [bv_length] at hl
  refine ⟨_, _, rfl, ?_, Nat.le_refl _, by omega, fun h => by cases h⟩
  have := rd_lit w vs e 1 l.length (by rw [Nat.mul_one, ← hl]; simp)
  rw [hv] at this
  exact this

set_option maxRecDepth 100000 in
set_option maxHeartbeats 4000000 in
theorem wakes_any (w : World) (hT : Tabs w) (R : Ending → World → Prop) (hR : ∀ w', Below w.heap.size w w' → R (.returned (.bool true)) w') :
    Calls Tryd.prog 21 #[] w R := by
  have HR := Lib.hid hR
  have HT := Lib.hid hT
  have L1 : Hid (layL 3 [⟨1, 1, [], [], []⟩] = ([2, 1, 1], 0)) := Lib.hid (by decide +kernel)
  have L2 : Hid (readL 3 [3, 35, 0, 0] = ([], 0, 148)) := Lib.hid (by decide +kernel)
  have hps := ps_lit1 (w := w) (e := 43) (d := .slice none 0 0) (p := ⟨1, 1, [], [], []⟩) ⟨bs_nil _, by simp, by simp, by simp, by simp, by simp, by simp, by simp⟩
  have HPS := Lib.hid hps
  have hbA := (Below.refl w.heap.size w).alloc (Nat.le_refl _) (Obj.cells #[.int .i64 1, .int .i64 1, .string ⟨#[]⟩, .string ⟨#[]⟩, .slice none 0 0] 43)
  have heq : (([2, 1, 1] : List UInt8) == [2, 1, 1]) = true := by decide
  have HEQ := Lib.hid heq
  clear hR hT hps heq
  go_enter Tryd.func21, Tryd.ntmps21
  go_wp2_with (first
    | (go_at_call 23; go_must (refine lay_any 3 _ [⟨1, 1, [], [], []⟩] [2, 1, 1] 0 L1.out (by decide +kernel) _ HPS.out (HT.out.below hbA) _ ?_); intro xa xc w1 hown1 hb1; have hx1 := below_tr hbA hb1; have hO1 := owns_mono (base' := w.heap.size) hown1 (by simp); have hbB := hx1.alloc hx1.size (Obj.cells #[.int .u8 3, .int .u8 35, .int .u8 0, .int .u8 0] 5); have hlit := bs_litk (w := w1) (e := 5) [3, 35, 0, 0] #[.int .u8 3, .int .u8 35, .int .u8 0, .int .u8 0] rfl rfl (by decide) rfl; have hO2 := World.ownsRow.alloc hO1 (Obj.cells #[.int .u8 3, .int .u8 35, .int .u8 0, .int .u8 0] 5); clear hown1 hb1)
    | (go_at_call 10; go_must (refine read_any 3 _ [3, 35, 0, 0] [] 0 148 L2.out (by decide) _ hlit (HT.out.below hbB) _ ?_); intro ma mc w3 hps3 hb3; have hx3 := below_then hbB hb3 (by have := hx1.size; simp; omega); have hO3 := World.ownsRow.alloc (owns_below hO2 hb3) (Obj.cells #[.int .u8 2, .int .u8 1, .int .u8 1] 5); have hlit2 := bs_litk (w := w3) (e := 5) [2, 1, 1] #[.int .u8 2, .int .u8 1, .int .u8 1] rfl rfl (by decide) rfl; have hbC := hx3.alloc hx3.size (Obj.cells #[.int .u8 2, .int .u8 1, .int .u8 1] 5))
    | (go_at_call 13; go_in)
    | (go_at_call 31; refine same_any _ _ [2, 1, 1] [2, 1, 1] _ (bs_of_owns hO3).2 hlit2 _ ?_; rw [HEQ.out]))
  exact HR.out _ hbC
end Go.Proofs.YtpodhidabhnnnaaDoor
