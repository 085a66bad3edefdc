/- The law MergePicks, walked. -/
import Derived.Test.YtgkgahjdjkmmnaaRPick
import Derived.Test.YtgkgahjdjkmmnaaWakes09
namespace Go.Proofs.Ytgkgahjdjkmmnaa
open Go.RowKit

set_option maxRecDepth 100000 in
set_option maxHeartbeats 6400000 in
theorem picks_law (log next seq : Int) (v : Value) (l : List Pl) (w : World) (hv : Pls w v l) (R : Ending → World → Prop) (hR : ∀ w', Below w.heap.size w w' → R (.returned (.bool true)) w') :
    Calls Try.prog 7 #[.agg #[.int .i64 log, .int .i64 next, .int .i64 seq, v]] w R := by
  have HR := Lib.hid hR
  have HV := Lib.hid hv
  obtain ⟨va, vc, rfl, v1, v2, v3, _⟩ := hv
  have hw1 : Below w.heap.size w (w.alloc (vnO log next seq (.slice va l.length vc))) := (Below.refl w.heap.size w).alloc (Nat.le_refl _) _
  have N0 := Lib.hid (heap_alloc_new w (vnO log next seq (.slice va l.length vc)))
  have hz0 : w.heap.size + 1 ≤ (w.alloc (vnO log next seq (.slice va l.length vc))).heap.size := by simp
  unfold vnO at hw1 N0 hz0
  clear hR
  by_cases h60 : 60 < l.length
  · have h60z : (60 : Int) < (l.length : Int) := by omega
    have hvl : (l.take 60).length = 60 := by rw [List.length_take]; omega
    have hvt : Pls w (.slice va 60 vc) (l.take 60) := HV.out.take (by omega)
    have hcz : (60 : Int) ≤ (vc : Int) := by omega
    obtain ⟨vb, vo, rfl⟩ := HV.out.head (by omega)
    have HV2 := Lib.hid hvt
    have hp1 : Below w.heap.size w (w.alloc (vnO log next seq (.slice (some ⟨vb, vo, none⟩) 60 vc))) := (Below.refl w.heap.size w).alloc (Nat.le_refl _) _
    have np1 := heap_alloc_new w (vnO log next seq (.slice (some ⟨vb, vo, none⟩) 60 vc))
    have hz1 : w.heap.size + 1 ≤ (w.alloc (vnO log next seq (.slice (some ⟨vb, vo, none⟩) 60 vc))).heap.size := by simp
    unfold vnO at hp1 np1 hz1
    have HP1 := Lib.hid hp1
    have NP1 := Lib.hid np1
    clear hp1 np1 hvt
    obtain ⟨ok, hok⟩ : ∃ ok, checkL apartL log next seq (l.take 60) = ok := ⟨_, rfl⟩
    obtain ⟨⟨z, L, t⟩, hpk⟩ : ∃ q, pickL ok (l.take 60) = q := ⟨_, rfl⟩
    have HOK := Lib.hid hok
    have HPK := Lib.hid hpk
    have hll : (l.take 60).length ≤ 1000000 := by omega
    clear hok hpk hvl
    go_enter Try.func7, Try.ntmps7
    go_wp2_with (first
      | (go_at_call 22; go_must (refine pick_any log next seq _ (l.take 60) ok HOK.out z L t HPK.out hll _ (HV2.out.below HP1.out) _ ?_); intro a3 c3 w3 hown3 hb3; have hx3 := Lib.hid (HP1.out.trans (hb3.mono (by omega))); have ho3 := Lib.hid hown3; have n3 := row_on NP1.out hb3; have hz3 := Nat.le_trans hz1 hb3.size; have g0 : _ = some (Value.int .i64 log) := cell_of_row _ w.heap.size 0 _ _ _ n3; have g1 : _ = some (Value.int .i64 next) := cell_of_row _ w.heap.size 1 _ _ _ n3; have g2 : _ = some (Value.int .i64 seq) := cell_of_row _ w.heap.size 2 _ _ _ n3; have g3 : _ = some (Value.slice (some ⟨vb, vo, none⟩) 60 vc) := cell_of_row _ w.heap.size 3 _ _ _ n3; clear hown3 hb3 n3)
      | (go_at_call 23; go_must (refine rpick_any log next seq _ (l.take 60) ok HOK.out z L t HPK.out hll _ (HV2.out.below hx3.out) _ ?_); intro a4 c4 w4 hown4 hb4; have hx4 := Lib.hid (hx3.out.trans (hb4.mono (by omega))); have ho4 := Lib.hid hown4; have ho34 := Lib.hid (owns_below ho3.out hb4); clear hown4 hb4 g0 g1 g2 g3)
      | (go_at_call 24; go_must (refine ints_any _ _ L L true (by simp) _ (is_of_owns ho34.out rfl) (is_of_owns ho4.out rfl) _ ?_); intro w5 hb5; have hx5 := Lib.hid (hx4.out.trans (hb5.mono (by have := hx4.out.size; omega))); clear hb5)
      | (go_at_call 15; go_must (refine wakes_any _ _ ?_); intro w6 hb6; have hx6 := Lib.hid (hx5.out.trans (hb6.mono (by have := hx5.out.size; omega))); clear hb6))
    all_goals exact HR.out _ hx6.out
  · have h60z : ¬ (60 : Int) < (l.length : Int) := by omega
    obtain ⟨ok, hok⟩ : ∃ ok, checkL apartL log next seq l = ok := ⟨_, rfl⟩
    obtain ⟨⟨z, L, t⟩, hpk⟩ : ∃ q, pickL ok l = q := ⟨_, rfl⟩
    have HOK := Lib.hid hok
    have HPK := Lib.hid hpk
    clear hok hpk
    have hll : l.length ≤ 1000000 := by omega
    go_enter Try.func7, Try.ntmps7
    go_wp2_with (first
      | (go_at_call 22; go_must (refine pick_any log next seq _ l ok HOK.out z L t HPK.out hll _ (HV.out.below hw1) _ ?_); intro a3 c3 w3 hown3 hb3; have hx3 := Lib.hid (hw1.trans (hb3.mono (by omega))); have ho3 := Lib.hid hown3; have n3 := row_on N0.out hb3; have hz3 := Nat.le_trans hz0 hb3.size; have g0 : _ = some (Value.int .i64 log) := cell_of_row _ w.heap.size 0 _ _ _ n3; have g1 : _ = some (Value.int .i64 next) := cell_of_row _ w.heap.size 1 _ _ _ n3; have g2 : _ = some (Value.int .i64 seq) := cell_of_row _ w.heap.size 2 _ _ _ n3; have g3 : _ = some (Value.slice va l.length vc) := cell_of_row _ w.heap.size 3 _ _ _ n3; clear hown3 hb3 n3)
      | (go_at_call 23; go_must (refine rpick_any log next seq _ l ok HOK.out z L t HPK.out hll _ (HV.out.below hx3.out) _ ?_); intro a4 c4 w4 hown4 hb4; have hx4 := Lib.hid (hx3.out.trans (hb4.mono (by omega))); have ho4 := Lib.hid hown4; have ho34 := Lib.hid (owns_below ho3.out hb4); clear hown4 hb4 g0 g1 g2 g3)
      | (go_at_call 24; go_must (refine ints_any _ _ L L true (by simp) _ (is_of_owns ho34.out rfl) (is_of_owns ho4.out rfl) _ ?_); intro w5 hb5; have hx5 := Lib.hid (hx4.out.trans (hb5.mono (by have := hx4.out.size; omega))); clear hb5)
      | (go_at_call 15; go_must (refine wakes_any _ _ ?_); intro w6 hb6; have hx6 := Lib.hid (hx5.out.trans (hb6.mono (by have := hx5.out.size; omega))); clear hb6))
    all_goals exact HR.out _ hx6.out
end Go.Proofs.Ytgkgahjdjkmmnaa
