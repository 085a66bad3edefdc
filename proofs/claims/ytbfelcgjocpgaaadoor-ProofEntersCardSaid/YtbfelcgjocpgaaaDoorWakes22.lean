
import Derived.Test.YtbfelcgjocpgaaaDoorOne
import Derived.Deep.RegionHeld
namespace Go.Proofs.YtbfelcgjocpgaaaDoor
open Go.RowKit

theorem wk22a : checkL 1 [([117], [115])] = true := by decide +kernel
theorem wk22b : rightL [([117], [115])] [117] [0, 0, 0, 1] (ansL [115] [0, 0, 0, 1]) = true := by decide +kernel
theorem wk22c : rightL [([117], [115])] [118] [0, 0, 0, 1] (ansL [115] [0, 0, 0, 1]) = false := by decide +kernel
theorem wk22d : enterL false [([117], [115])] true [117] true [115] = 0 := by decide +kernel

set_option maxRecDepth 100000 in
set_option maxHeartbeats 8000000 in
theorem wakes_any (w : World) (hT : Tabs w) (R : Ending → World → Prop) (hR : ∀ w', Below w.heap.size w w' → R (.returned (.bool true)) w') :
    Calls Tryd.prog 21 #[] w R := by
  have kc := fun (w : World) (C : Array Value) (n c g : Nat) => run_conv_const (P := Tryd.prog) w 25 5 C n c g Tryd.underlying25 Tryd.underlying5
  go_enter Tryd.func21, Tryd.ntmps21
  go_wp2_with (go_at_call 22; fail)
  have hx0 := (Below.refl w.heap.size w).alloc (Nat.le_refl _) (Obj.cells #[Value.int .u8 115] 5 (1, 2))
  refine config_any _ [115] _ (bs_row _ [115] (by simp) rfl rfl (by simp)) _ ?_
  intro u w1 hU1 hb1
  have hx1 := below_then hx0 hb1 (by simp)
  have hz1 := hx1.size
  clear hx0 hb1
  have hU1' := hU1
  obtain ⟨ua, uc, rfl, _, _, _, _⟩ := hU1'
  obtain ⟨us, hus⟩ : ∃ us : List (List UInt8 × List UInt8), us = [([117], [115])] := ⟨_, rfl⟩
  have hl : ∀ u ∈ us, u.2.length ≤ 140737488355328 := by rw [hus]; simp
  obtain ⟨Q, hQ⟩ : ∃ Q : List UInt8, Q = [0, 0, 0, 1] := ⟨_, rfl⟩
  obtain ⟨A, hA⟩ : ∃ A, ansL [115] Q = A := ⟨_, rfl⟩
  have hAl : A.length = 4 := by rw [← hA]; exact ansL_length _ _
  have ka : Hid (checkL 1 us = true) := by rw [hus]; exact wk22a
  have kb : Hid (rightL us [117] Q A = true) := by rw [hus, ← hA, hQ]; exact wk22b
  have kd : Hid (rightL us [118] Q A = false) := by rw [hus, ← hA, hQ]; exact wk22c
  have ke : Hid (enterL false us true [117] true [115] = 0) := by rw [hus]; exact wk22d
  have HA := Lib.hid hA
  replace hU1 : Us w1 (.slice ua 1 uc) us := by rw [hus]; exact hU1
  clear hus hA
  have hy2 := ((Below.refl w1.heap.size w1).alloc (Nat.le_refl _) (Obj.cells #[Value.int .i64 1, Value.bool false, Value.slice ua 1 uc] 24)).alloc (by simp) (Obj.cells #[Value.int .u8 0, Value.int .u8 0, Value.int .u8 0, Value.int .u8 1] 5)
  have hx2 := below_then hx1 hy2 hz1
  have hz2 := hx2.size
  have hU2 := hU1.below hy2
  have hQ2 : Bs ((w1.alloc (Obj.cells #[Value.int .i64 1, Value.bool false, Value.slice ua 1 uc] 24)).alloc (Obj.cells #[Value.int .u8 0, Value.int .u8 0, Value.int .u8 0, Value.int .u8 1] 5)) (.slice (some ⟨w1.heap.size + 1, 0, none⟩) 4 4) Q := by rw [hQ]; exact bs_row _ [0, 0, 0, 1] (by simp) rfl rfl (by simp)
  have hn : ((w1.alloc (Obj.cells #[Value.int .i64 1, Value.bool false, Value.slice ua 1 uc] 24)).alloc (Obj.cells #[Value.int .u8 0, Value.int .u8 0, Value.int .u8 0, Value.int .u8 1] 5)).heap[w1.heap.size]? = some (Obj.cells #[Value.int .i64 1, Value.bool false, Value.slice ua 1 uc] 24) := block_alloc (heap_alloc_new w1 _)
  have d2 := cell_of_row _ w1.heap.size 0 _ _ _ hn
  have e2 := cell_of_row _ w1.heap.size 1 _ _ _ hn
  have f2 := cell_of_row _ w1.heap.size 2 _ _ _ hn
  change _ = some (Value.int .i64 1) at d2
  change _ = some (Value.bool false) at e2
  change _ = some (Value.slice ua 1 uc) at f2
  clear hn hy2 hU1 hQ
  go_wp2_with fail
  generalize (w1.alloc (Obj.cells #[Value.int .i64 1, Value.bool false, Value.slice ua 1 uc] 24)).alloc (Obj.cells #[Value.int .u8 0, Value.int .u8 0, Value.int .u8 0, Value.int .u8 1] 5) = w2 at hx2 hz2 hU2 hQ2 d2 e2 f2 ⊢
  have hT2 := hT.below hx2
  have sk : ∀ {x y : World}, Below x.heap.size x y → (x.cell? ⟨w1.heap.size, 0, none⟩ = some (Value.int .i64 1) ∧ x.cell? ⟨w1.heap.size, 1, none⟩ = some (Value.bool false) ∧ x.cell? ⟨w1.heap.size, 2, none⟩ = some (Value.slice ua 1 uc)) → (y.cell? ⟨w1.heap.size, 0, none⟩ = some (Value.int .i64 1) ∧ y.cell? ⟨w1.heap.size, 1, none⟩ = some (Value.bool false) ∧ y.cell? ⟨w1.heap.size, 2, none⟩ = some (Value.slice ua 1 uc)) := fun hb ⟨h1, h2, h3⟩ => ⟨cell_later hb h1, cell_later hb h2, cell_later hb h3⟩
  replace hx2 : Below w.heap.size w w2.drew := hx2.drew
  replace hU2 : Us w2.drew (.slice ua 1 uc) us := hU2.below (Below.refl _ _).drew
  replace hQ2 : Bs w2.drew (.slice (some ⟨w1.heap.size + 1, 0, none⟩) 4 4) Q := hQ2.drew
  replace hT2 : Tabs w2.drew := hT2.below (Below.refl _ _).drew
  go_region_held (fun w' => w'.cell? ⟨w1.heap.size, 0, none⟩ = some (Value.int .i64 1) ∧ w'.cell? ⟨w1.heap.size, 1, none⟩ = some (Value.bool false) ∧ w'.cell? ⟨w1.heap.size, 2, none⟩ = some (Value.slice ua 1 uc))
    (first | exact ⟨d2, e2, f2⟩ | exact ⟨d3, e3, f3⟩ | exact ⟨d5, e5, f5⟩ | exact ⟨d6, e6, f6⟩ | exact ⟨d8, e8, f8⟩ | exact ⟨d9, e9, f9⟩ | exact ⟨d10, e10, f10⟩ | go_keep)
    (first
      | (go_at_call 10; refine check_any 1 false _ us true ka.out _ hU2 hT2 _ ?_; intro w3 hy3; have hx3 := below_then hx2 hy3 hz2; have hz3 := hx3.size; have hU3 := hU2.below hy3; have hQ3 := hQ2.below hy3; obtain ⟨d3, e3, f3⟩ := sk hy3 ⟨d2, e2, f2⟩; clear hT2)
      | (go_at_call_of 15 (Value.slice (some ⟨w3.heap.size, 0, none⟩) 1 1); refine answer_any _ _ [115] Q A HA.out _ (bs_row _ [115] (by simp) rfl rfl (by simp)) (hQ3.below ((Below.refl w3.heap.size w3).alloc (Nat.le_refl _) (Obj.cells #[Value.int .u8 115] 5 (1, 2)))) _ ?_; intro ad5 c5 w5 hown5 hy5s; have hy5 := below_then ((Below.refl w3.heap.size w3).alloc (Nat.le_refl _) (Obj.cells #[Value.int .u8 115] 5 (1, 2))) hy5s (by simp); have hx5 := below_then hx3 hy5 hz3; have hz5 := hx5.size; have hU5 := hU3.below hy5; have hQ5 := hQ3.below hy5; obtain ⟨d5, e5, f5⟩ := sk hy5 ⟨d3, e3, f3⟩; have hA5 := (bs_of_owns hown5).2; rw [hAl] at hA5; clear hown5 hy5s)
      | (go_at_call_of 17 (Value.slice ad5 4 c5); refine right_any (.int .i64 1) (.bool false) (.slice ua 1 uc) us [117] hl _ _ Q A true kb.out w5 ⟨_, _, rfl⟩ ⟨_, rfl⟩ hU5 hQ5 hA5 _ ?_; intro w6 hy6; have hx6 := below_then hx5 hy6 hz5; have hz6 := hx6.size; have hU6 := hU5.below hy6; have hQ6 := hQ5.below hy6; obtain ⟨d6, e6, f6⟩ := sk hy6 ⟨d5, e5, f5⟩)
      | (go_at_call_of 15 (Value.slice (some ⟨w6.heap.size, 0, none⟩) 1 1); refine answer_any _ _ [115] Q A HA.out _ (bs_row _ [115] (by simp) rfl rfl (by simp)) (hQ6.below ((Below.refl w6.heap.size w6).alloc (Nat.le_refl _) (Obj.cells #[Value.int .u8 115] 5 (1, 2)))) _ ?_; intro ad8 c8 w8 hown8 hy8s; have hy8 := below_then ((Below.refl w6.heap.size w6).alloc (Nat.le_refl _) (Obj.cells #[Value.int .u8 115] 5 (1, 2))) hy8s (by simp); have hx8 := below_then hx6 hy8 hz6; have hz8 := hx8.size; have hU8 := hU6.below hy8; have hQ8 := hQ6.below hy8; obtain ⟨d8, e8, f8⟩ := sk hy8 ⟨d6, e6, f6⟩; have hA8 := (bs_of_owns hown8).2; rw [hAl] at hA8; clear hown8 hy8s)
      | (go_at_call_of 17 (Value.slice ad8 4 c8); refine right_any (.int .i64 1) (.bool false) (.slice ua 1 uc) us [118] hl _ _ Q A false kd.out w8 ⟨_, _, rfl⟩ ⟨_, rfl⟩ hU8 hQ8 hA8 _ ?_; intro w9 hy9; have hx9 := below_then hx8 hy9 hz8; have hz9 := hx9.size; have hU9 := hU8.below hy9; have hQ9 := hQ8.below hy9; obtain ⟨d9, e9, f9⟩ := sk hy9 ⟨d8, e8, f8⟩)
      | (go_at_call 13; refine enter_any .i64 1 false (.slice ua 1 uc) us hl _ _ _ _ _ _ _ _ _ _ _ _ _ _ _ _ _ _ _ _ _ true true [117] [115] _ false 0 ke.out _ (hU9.below ((Below.refl w9.heap.size w9).alloc (Nat.le_refl _) (Obj.cells #[Value.int .u8 115] 5 (1, 2)))) (bs_row _ [115] (by simp) rfl rfl (by simp)) _ ?_; intro w10 hy10s; have hy10 := below_then ((Below.refl w9.heap.size w9).alloc (Nat.le_refl _) (Obj.cells #[Value.int .u8 115] 5 (1, 2))) hy10s (by simp); have hx10 := below_then hx9 hy10 hz9; have hz10 := hx10.size; have hU10 := hU9.below hy10; have hQ10 := hQ9.below hy10; obtain ⟨d10, e10, f10⟩ := sk hy10 ⟨d9, e9, f9⟩; clear hy10s))
  all_goals
    go_wp2
    all_goals first | exact hx10 | exact hR _ hx10
end Go.Proofs.YtbfelcgjocpgaaaDoor
