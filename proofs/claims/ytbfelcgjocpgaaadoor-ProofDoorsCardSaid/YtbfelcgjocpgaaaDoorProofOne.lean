
import Derived.Test.YtbfelcgjocpgaaaDoorWakes22
namespace Go.Proofs.YtbfelcgjocpgaaaDoor
open Go.RowKit

theorem rightL_one (S Q X : List UInt8) : rightL [([117], S)] [117] Q X = (ansL S Q == X) := by
  unfold rightL lookU
  rfl

set_option maxRecDepth 100000 in
set_option maxHeartbeats 8000000 in
theorem one_law (v u x : Value) (s q o : List UInt8) (w : World) (hv : Bs w v s) (hu : Bs w u q) (hx0 : Bs w x o) (hT : Tabs w) (R : Ending → World → Prop)
    (hR : ∀ w', Below w.heap.size w w' → R (.returned (.bool true)) w') :
    Calls Tryd.prog 4 #[v, u, x] w R := by
  obtain ⟨S0, hS0⟩ : ∃ S, s.take (32 : Int).toNat = S := ⟨_, rfl⟩
  have hS0l : S0.length ≤ 32 := by rw [← hS0, List.length_take]; show min 32 _ ≤ 32; omega
  obtain ⟨Q, hQ⟩ : ∃ Q, q.take (60 : Int).toNat = Q := ⟨_, rfl⟩
  obtain ⟨O, hO⟩ : ∃ O, o.take (8 : Int).toNat = O := ⟨_, rfl⟩
  have HS0 := Lib.hid hS0
  have HQ := Lib.hid hQ
  have HO := Lib.hid hO
  clear hS0 hQ hO
  go_enter Tryd.func4, Tryd.ntmps4
  go_wp2_with (go_at_call 7; fail)
  refine cut_any _ s S0 32 HS0.out _ hv (by omega) _ ?_
  intro ad0 c0 hb0
  clear hv
  go_wp2_with (go_at_call 7; fail)
  refine cut_any _ q Q 60 HQ.out _ hu (by omega) _ ?_
  intro ad1 c1 hb1
  clear hu
  go_wp2_with (go_at_call 7; fail)
  refine cut_any _ o O 8 HO.out _ hx0 (by omega) _ ?_
  intro ad2 c2 hb2
  clear hx0
  obtain ⟨S, hS, hSl⟩ : ∃ S : List UInt8, S = (if S0.length = 0 then [0] else S0) ∧ S.length ≤ 32 := ⟨_, rfl, by split <;> first | simp | omega⟩
  by_cases h0 : S0.length = 0
  all_goals
    first | (rw [if_pos h0] at hS) | (rw [if_neg h0] at hS)
    have h00 : ((S0.length : Int) == 0) = decide (S0.length = 0) := by rw [Bool.eq_iff_iff]; simp; try omega
    try rw [decide_eq_true h0] at h00
    try rw [decide_eq_false h0] at h00
    go_wp2_with (go_at_call 22; fail)
    first
      | (have hxw := (Below.refl w.heap.size w).alloc (Nat.le_refl _) (Obj.cells #[Value.int .u8 0] 5)
         have hzs : Bs (w.alloc (Obj.cells #[Value.int .u8 0] 5)) (.slice (some ⟨w.heap.size, 0, none⟩) 1 1) S := by rw [hS]; exact bs_lit #[.int .u8 0] [0] rfl (by simp)
         clear hS
         refine config_any _ S _ hzs _ ?_
         intro cu w1 hU1 hy1
         have hx1 := below_then hxw hy1 (by simp)
         have hs1 := hzs.below hy1
         have hq1 := hb1.below hx1
         have ho1 := hb2.below hx1
         clear hxw hy1 hzs)
      | (subst hS
         refine config_any _ S _ hb0 _ ?_
         intro cu w1 hU1 hx1
         have hs1 := hb0.below hx1
         have hq1 := hb1.below hx1
         have ho1 := hb2.below hx1)
    clear hb0 hb1 hb2
    have hz1 := hx1.size
    have hU1' := hU1
    obtain ⟨ua, uc, rfl, _, _, _, r9⟩ := hU1'
    clear r9
    obtain ⟨us, hus⟩ : ∃ us : List (List UInt8 × List UInt8), us = [([117], S)] := ⟨_, rfl⟩
    have hl : ∀ u ∈ us, u.2.length ≤ 140737488355328 := by rw [hus]; intro u hu; simp at hu; rw [hu]; show S.length ≤ _; omega
    obtain ⟨A, hA⟩ : ∃ A, ansL S Q = A := ⟨_, rfl⟩
    have hAl : A.length = 4 := by rw [← hA]; exact ansL_length _ _
    obtain ⟨t, ht⟩ : ∃ t, (A == O) = t := ⟨_, rfl⟩
    have ht2 : (O == A) = t := by rw [← ht]; exact Bool.beq_comm
    have kb : Hid (rightL us [117] Q A = true) := by rw [hus, rightL_one, hA]; simp [Hid]
    have kd : Hid (rightL us [117] Q O = t) := by rw [hus, rightL_one, hA]; exact ht
    have HA := Lib.hid hA
    have hU1b : Us w1 (.slice ua 1 uc) us := by rw [hus]; exact hU1
    clear hus hA ht hU1
    have hyc := (Below.refl w1.heap.size w1).alloc (Nat.le_refl _) (Obj.cells #[Value.int .i64 1, Value.bool false, Value.slice ua 1 uc] 24)
    have hn : (w1.alloc (Obj.cells #[Value.int .i64 1, Value.bool false, Value.slice ua 1 uc] 24)).heap[w1.heap.size]? = some (Obj.cells #[Value.int .i64 1, Value.bool false, Value.slice ua 1 uc] 24) := heap_alloc_new w1 _
    have d2 := cell_of_row _ w1.heap.size 0 _ _ _ hn
    have e2 := cell_of_row _ w1.heap.size 1 _ _ _ hn
    have f2 := cell_of_row _ w1.heap.size 2 _ _ _ hn
    change _ = some (Value.int .i64 1) at d2
    change _ = some (Value.bool false) at e2
    change _ = some (Value.slice ua 1 uc) at f2
    have hs2 := hs1.below hyc
    have hq2 := hq1.below hyc
    have D2 := Lib.hid d2
    have E2 := Lib.hid e2
    have F2 := Lib.hid f2
    clear hn d2 e2 f2
    go_wp2_with (go_at_call 15; go_must (refine answer_any _ _ S Q A HA.out _ hs2 hq2 _ ?_))
    intro ad3 c3 w3 hown3 hy3s
    have hy3 := below_then hyc hy3s (by simp)
    have hx3 := below_then hx1 hy3 hz1
    have hz3 := hx3.size
    have hb3' : Below (w1.alloc (Obj.cells #[Value.int .i64 1, Value.bool false, Value.slice ua 1 uc] 24)).heap.size (w1.alloc (Obj.cells #[Value.int .i64 1, Value.bool false, Value.slice ua 1 uc] 24)) w3 := by simpa using hy3s
    have d3 := cell_later hb3' D2.out
    have e3 := cell_later hb3' E2.out
    have f3 := cell_later hb3' F2.out
    have hA3 := (bs_of_owns hown3).2
    rw [hAl] at hA3
    have hq3 := hq1.below hy3
    have ho3 := ho1.below hy3
    have hU3 := hU1b.below hy3
    clear hown3 hy3s hb3' hs2 hq2 hyc hy3 hs1 hq1 ho1 hU1b hx1 D2 E2 F2
    go_wp2_with (go_at_call_of 17 (Value.slice ad3 4 c3); go_must (refine right_any (.int .i64 1) (.bool false) (.slice ua 1 uc) us [117] hl _ _ Q A true kb.out w3 ⟨_, _, rfl⟩ ⟨_, rfl⟩ hU3 hq3 hA3 _ ?_))
    intro w4 hy4
    have hx4 := below_then hx3 hy4 hz3
    have hz4 := hx4.size
    have d4 := cell_later hy4 d3
    have e4 := cell_later hy4 e3
    have f4 := cell_later hy4 f3
    have hA4 := hA3.below hy4
    have hq4 := hq3.below hy4
    have ho4 := ho3.below hy4
    have hU4 := hU3.below hy4
    clear d3 e3 f3 hA3 hq3 ho3 hU3 hx3 hy4
    go_wp2_with (go_at_call_of 17 (Value.slice ad2 O.length c2); go_must (refine right_any (.int .i64 1) (.bool false) (.slice ua 1 uc) us [117] hl _ _ Q O t kd.out w4 ⟨_, _, rfl⟩ ⟨_, rfl⟩ hU4 hq4 ho4 _ ?_))
    intro w5 hy5
    have hx5 := below_then hx4 hy5 hz4
    have hz5 := hx5.size
    have hA5 := hA4.below hy5
    have ho5 := ho4.below hy5
    have hT5 := hT.below hx5
    clear d4 e4 f4 hA4 hq4 ho4 hU4 hx4 hy5
    go_wp2_with (go_at_call 12; fail)
    refine same_any _ _ O A _ ho5 hA5 _ ?_
    rw [ht2]
    have htt : (t == t) = true := by simp
    go_wp2_with (go_at_call 21; go_must (refine wakes_any _ hT5 _ ?_))
    intro w6 hy6
    have hx6 := below_then hx5 hy6 hz5
    clear hx5 hy6 hT5 hA5 ho5
    go_wp2
    all_goals first | exact hx6 | exact hR _ hx6
end Go.Proofs.YtbfelcgjocpgaaaDoor
