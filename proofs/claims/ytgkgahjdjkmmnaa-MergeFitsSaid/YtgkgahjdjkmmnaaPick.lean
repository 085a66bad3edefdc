/- merge.Pick walked. -/
import Derived.Test.YtgkgahjdjkmmnaaJoin
import Derived.Test.YtgkgahjdjkmmnaaPlsT
namespace Go.Proofs.Ytgkgahjdjkmmnaa
open Go.RowKit

/-- What is to be merged next: the level, the numbers, whether there is anything. -/
def pickL (ok : Bool) (l : List Pl) : Int × List Int × Bool :=
  if ok = false then (0, [], false)
  else if 4 ≤ (ofL l 0).length then (1, joinedL l (ofL l 0) 1, true)
  else if 4 < (ofL l 1).length then (2, joinedL l ((ofL l 1).take 1) 2, true)
  else if 16 < (ofL l 2).length then (3, joinedL l ((ofL l 2).take 1) 3, true)
  else (0, [], false)

/-- What is looked at from the k-th step on. -/
def pickR (l : List Pl) : Nat → Int × List Int × Bool
  | 0 => if 4 < (ofL l 1).length then (2, joinedL l ((ofL l 1).take 1) 2, true) else if 16 < (ofL l 2).length then (3, joinedL l ((ofL l 2).take 1) 3, true) else (0, [], false)
  | 1 => if 16 < (ofL l 2).length then (3, joinedL l ((ofL l 2).take 1) 3, true) else (0, [], false)
  | _ => (0, [], false)
theorem ofL_le (l : List Pl) (level : Int) : (ofL l level).length ≤ l.length := by
  have := ofL_len l level l.length
  rw [List.take_length] at this
  exact this
set_option maxRecDepth 100000 in
set_option maxHeartbeats 6400000 in
theorem pick_any (log next seq : Int) (v : Value) (l : List Pl) (ok : Bool) (hok : checkL apartL log next seq l = ok) (z : Int) (L : List Int) (t : Bool) (hz : pickL ok l = (z, L, t)) (hl : l.length ≤ 1000000) (w : World) (hv : Pls w v l) (R : Ending → World → Prop)
    (hR : ∀ ad c w', w'.ownsRow w.heap.size 3 1 (.slice ad L.length c) L.length (iv L) → Below w.heap.size w w' → R (.returned (.tuple #[.int .i64 z, .slice ad L.length c, .bool t])) w') :
    Calls Try.prog 22 #[.agg #[.int .i64 log, .int .i64 next, .int .i64 seq, v]] w R := by
  have HR := Lib.hid hR
  have HV := Lib.hid hv
  have HOK := Lib.hid hok
  obtain ⟨va, vc, rfl, _⟩ := hv
  have hw1 : Below w.heap.size w (w.alloc (vnO log next seq (.slice va l.length vc))) := (Below.refl w.heap.size w).alloc (Nat.le_refl _) _
  have N0 := Lib.hid (heap_alloc_new w (vnO log next seq (.slice va l.length vc)))
  have hz0 : w.heap.size + 1 ≤ (w.alloc (vnO log next seq (.slice va l.length vc))).heap.size := by simp
  unfold vnO at hw1 N0 hz0
  have hv1 := Lib.hid (HV.out.below hw1)
  clear hR hok
  unfold pickL at hz
  cases ok with
  | false =>
    rw [if_pos rfl] at hz
    obtain ⟨rfl, rfl, rfl⟩ : 0 = z ∧ [] = L ∧ false = t := by simpa using hz
    clear hz
    go_enter Try.func22, Try.ntmps22
    go_wp2_with (go_at_call 25; go_must (refine echeck_any log next seq _ l false HOK.out hl _ hv1.out _ ?_); intro w2 hb2; unfold errI)
    go_ret3
    exact HR.out none 0 w2 (World.ownsRow_nil _ _ _ _) (hw1.trans (hb2.mono (by omega)))
  | true =>
    rw [if_neg (by simp)] at hz
    have HZ := Lib.hid hz
    clear hz
    obtain ⟨F0, hF0⟩ : ∃ F, ofL l 0 = F := ⟨_, rfl⟩
    have HF0 := Lib.hid hF0
    have hfl : F0.length ≤ 1000000 := by rw [← hF0]; have := ofL_le l 0; omega
    rw [hF0] at HZ
    clear hF0
    by_cases h4 : 4 ≤ F0.length
    · have h4z : (4 : Int) ≤ (F0.length : Int) := by omega
      have hq := HZ.out
      rw [if_pos h4] at hq
      obtain ⟨rfl, hJ, rfl⟩ : 1 = z ∧ joinedL l F0 1 = L ∧ true = t := by simpa using hq
      have HJ := Lib.hid hJ
      clear hq HZ hJ
      go_enter Try.func22, Try.ntmps22
      go_wp2_with (first | (go_at_call 25; go_must (refine echeck_any log next seq _ l true HOK.out hl _ hv1.out _ ?_); intro w2 hb2; unfold errI; have HB2 := Lib.hid (hw1.trans (hb2.mono (by omega))); have hz2 := Nat.le_trans hz0 hb2.size; have n2 := row_on N0.out hb2; have hv2 := Lib.hid (hv1.out.below hb2); have g0 : _ = some (Value.int .i64 log) := cell_of_row _ w.heap.size 0 _ _ _ n2; have g1 : _ = some (Value.int .i64 next) := cell_of_row _ w.heap.size 1 _ _ _ n2; have g2 : _ = some (Value.int .i64 seq) := cell_of_row _ w.heap.size 2 _ _ _ n2; have g3 : _ = some (Value.slice va l.length vc) := cell_of_row _ w.heap.size 3 _ _ _ n2; have N2 := Lib.hid n2; clear n2 hb2) | (go_at_call 41; go_must (refine of_any log next seq 0 _ l F0 HF0.out hl _ hv2.out _ ?_); intro fa fc w3 hp3 hb3; have HB3 := Lib.hid (HB2.out.trans (hb3.mono (by omega))); have hz3 := Nat.le_trans hz2 hb3.size; have n3 := row_on N2.out hb3; have hv3 := Lib.hid (hv2.out.below hb3); have HP3 := Lib.hid (hp3.pls hb3); clear g0 g1 g2 g3 hp3; have g0 : _ = some (Value.int .i64 log) := cell_of_row _ w.heap.size 0 _ _ _ n3; have g1 : _ = some (Value.int .i64 next) := cell_of_row _ w.heap.size 1 _ _ _ n3; have g2 : _ = some (Value.int .i64 seq) := cell_of_row _ w.heap.size 2 _ _ _ n3; have g3 : _ = some (Value.slice va l.length vc) := cell_of_row _ w.heap.size 3 _ _ _ n3; have N3 := Lib.hid n3; clear n3 hb3) | (go_at_call 42; go_must (refine joined_any log next seq 1 _ _ l F0 (by omega) L HJ.out hl hfl _ hv3.out HP3.out _ ?_); intro ja jc w4 hj4 hb4; have hj4 := Lib.hid (owns_mono hj4 (Nat.le_trans (Nat.le_succ _) hz3)); have HB4 := Lib.hid (HB3.out.trans (hb4.mono (by omega)))))
      go_ret3
      exact HR.out ja jc w4 hj4.out HB4.out
    · have h4z : ¬ (4 : Int) ≤ (F0.length : Int) := by omega
      have hz1 : Hid ((if 4 < (ofL l 1).length then (2, joinedL l ((ofL l 1).take 1) 2, true) else if 16 < (ofL l 2).length then (3, joinedL l ((ofL l 2).take 1) 3, true) else (0, [], false)) = (z, L, t)) := by
        have := HZ.out
        rw [if_neg h4] at this
        exact this
      clear HZ
      go_enter Try.func22, Try.ntmps22
      go_wp2_with (first | (go_at_call 25; go_must (refine echeck_any log next seq _ l true HOK.out hl _ hv1.out _ ?_); intro w2 hb2; unfold errI; have HB2 := Lib.hid (hw1.trans (hb2.mono (by omega))); have hz2 := Nat.le_trans hz0 hb2.size; have n2 := row_on N0.out hb2; have hv2 := Lib.hid (hv1.out.below hb2); have g0 : _ = some (Value.int .i64 log) := cell_of_row _ w.heap.size 0 _ _ _ n2; have g1 : _ = some (Value.int .i64 next) := cell_of_row _ w.heap.size 1 _ _ _ n2; have g2 : _ = some (Value.int .i64 seq) := cell_of_row _ w.heap.size 2 _ _ _ n2; have g3 : _ = some (Value.slice va l.length vc) := cell_of_row _ w.heap.size 3 _ _ _ n2; have N2 := Lib.hid n2; clear n2 hb2) | (go_at_call 41; go_must (refine of_any log next seq 0 _ l F0 HF0.out hl _ hv2.out _ ?_); intro fa fc w3 hp3 hb3; have HB3 := Lib.hid (HB2.out.trans (hb3.mono (by omega))); have hz3 := Nat.le_trans hz2 hb3.size; have n3 := row_on N2.out hb3; have hv3 := Lib.hid (hv2.out.below hb3); have HP3 := Lib.hid (hp3.pls hb3); clear g0 g1 g2 g3 hp3; have g0 : _ = some (Value.int .i64 log) := cell_of_row _ w.heap.size 0 _ _ _ n3; have g1 : _ = some (Value.int .i64 next) := cell_of_row _ w.heap.size 1 _ _ _ n3; have g2 : _ = some (Value.int .i64 seq) := cell_of_row _ w.heap.size 2 _ _ _ n3; have g3 : _ = some (Value.slice va l.length vc) := cell_of_row _ w.heap.size 3 _ _ _ n3; have N3 := Lib.hid n3; clear n3 hb3))
      go_loopg [21] 2 (fun gn i wr => ∃ k : Nat, k ≤ 2 ∧ gn = 2 - k ∧ i = .int .i64 k ∧ Hid (wr.heap[w.heap.size]? = some (Obj.cells #[.int .i64 log, .int .i64 next, .int .i64 seq, .slice va l.length vc] 52)) ∧ Hid (Below w.heap.size w wr) ∧ w.heap.size + 1 ≤ wr.heap.size ∧ Hid (pickR l k = (z, L, t)))
      case atStart => exact ⟨0, by omega, rfl, rfl, N3, HB3, hz3, hz1⟩
      case round =>
        obtain ⟨k, hk, rfl, rfl, NR, HBR, hzr, HS⟩ := hrel
        clear hz1 N3 HB3 hz3 g0 g1 g2 g3 hv3 HP3 hv2 N2 HB2
        have hvr := Lib.hid (HV.out.below HBR.out)
        obtain ⟨wo, rfl⟩ : ∃ x, x = wr := ⟨_, rfl⟩
        have g0 : _ = some (Value.int .i64 log) := cell_of_row _ w.heap.size 0 _ _ _ NR.out; have g1 : _ = some (Value.int .i64 next) := cell_of_row _ w.heap.size 1 _ _ _ NR.out; have g2 : _ = some (Value.int .i64 seq) := cell_of_row _ w.heap.size 2 _ _ _ NR.out; have g3 : _ = some (Value.slice va l.length vc) := cell_of_row _ w.heap.size 3 _ _ _ NR.out
        match k, hk with
        | 0, _ =>
          have hix : ∀ w' : World, Sem.run Try.prog (Instr.index 83 (.agg #[.int .i64 4, .int .i64 16]) (.int .i64 0)) w' = .ok (.int .i64 4) w' := fun w' => by kernel_rfl
          obtain ⟨F1, hF1⟩ : ∃ F, ofL l 1 = F := ⟨_, rfl⟩
          have HF1 := Lib.hid hF1
          have hfl1 : F1.length ≤ 1000000 := by rw [← hF1]; have := ofL_le l 1; omega
          have hs := HS.out
          unfold pickR at hs
          rw [hF1] at hs
          clear hF1 HS
          by_cases h5 : 4 < F1.length
          · have h5z : (4 : Int) < (F1.length : Int) := by omega
            rw [if_pos h5] at hs
            obtain ⟨rfl, hJ, rfl⟩ : 2 = z ∧ joinedL l (F1.take 1) 2 = L ∧ true = t := by simpa using hs
            have HJ := Lib.hid hJ
            clear hs hJ
            go_wp2_with (first | (go_at_call 41; go_must (refine of_any log next seq 1 _ l F1 HF1.out hl _ hvr.out _ ?_); intro ga gc w5 hp5 hb5; have HB5 := Lib.hid (HBR.out.trans (hb5.mono (by omega))); have hz5 := Nat.le_trans hzr hb5.size; have n5 := row_on NR.out hb5; have hv5 := Lib.hid (hvr.out.below hb5); have HP5 := Lib.hid (hp5.pls hb5); clear g0 g1 g2 g3 hp5; have g0 : _ = some (Value.int .i64 log) := cell_of_row _ w.heap.size 0 _ _ _ n5; have g1 : _ = some (Value.int .i64 next) := cell_of_row _ w.heap.size 1 _ _ _ n5; have g2 : _ = some (Value.int .i64 seq) := cell_of_row _ w.heap.size 2 _ _ _ n5; have g3 : _ = some (Value.slice va l.length vc) := cell_of_row _ w.heap.size 3 _ _ _ n5; have N5 := Lib.hid n5; clear n5 hb5))
            obtain ⟨gb, go5, rfl⟩ := HP5.out.head (by omega)
            have hcap := HP5.out.cap
            have hc1 : 1 ≤ gc := by omega
            have hc1z : (1 : Int) ≤ (gc : Int) := by omega
            have hslc : ∀ w' : World, Sem.run Try.prog (Instr.slice 50 (.slice (some ⟨gb, go5, none⟩) F1.length gc) none (some (.int .i64 1)) none) w' = .ok (.slice (some ⟨gb, go5, none⟩) 1 gc) w' := fun w' => by
              have he : Try.prog.elem 50 = 59 := by simp [Program.elem, Try.underlying50]
              rw [run_slice_h (P := Try.prog) w' 50 (some ⟨gb, go5, none⟩) F1.length gc (by rw [he]; exact Try.underlying50) .i64 1 (by omega) hc1z, he, Try.sizeOf59]
              simp [sliced, Result.andThen, Addr.add_lit]
            have hP1 := Lib.hid (HP5.out.take (j := 1) (by omega))
            have hl1 : (F1.take 1).length = 1 := by rw [List.length_take]; omega
            go_region_held3 (fun w' => w'.cell? ⟨w.heap.size, 0, none⟩ = some (Value.int .i64 log) ∧ w'.cell? ⟨w.heap.size, 1, none⟩ = some (Value.int .i64 next) ∧ w'.cell? ⟨w.heap.size, 2, none⟩ = some (Value.int .i64 seq) ∧ w'.cell? ⟨w.heap.size, 3, none⟩ = some (Value.slice va l.length vc))
              (first | exact ⟨g0, g1, g2, g3⟩ | exact ⟨d0, d1, d2, d3⟩ | go_keep)
              (first | (go_at_call 42; refine joined_any log next seq 2 _ _ l (F1.take 1) (by omega) L HJ.out hl (by omega) _ (hv5.out.below (Below.refl _ _).drew) (hP1.out.below (Below.refl _ _).drew) _ ?_; intro ja jc w6 hj6 hb6; have hj6' := Lib.hid (owns_mono hj6 (show w.heap.size ≤ w5.heap.size by omega)); have HB6 := Lib.hid (HB5.out.trans ((below_tr (a := w5) (Below.refl _ _).drew hb6).mono (show w.heap.size ≤ w5.heap.size by omega))); have d0 := cell_later hb6 (show w5.drew.cell? _ = _ from g0); have d1 := cell_later hb6 (show w5.drew.cell? _ = _ from g1); have d2 := cell_later hb6 (show w5.drew.cell? _ = _ from g2); have d3 := cell_later hb6 (show w5.drew.cell? _ = _ from g3)))
            all_goals
              go_wp2
              go_ret3
              exact HR.out ja jc w6 hj6'.out HB6.out
          · have h5z : ¬ (4 : Int) < (F1.length : Int) := by omega
            rw [if_neg h5] at hs
            have HS2 : Hid (pickR l (0 + 1) = (z, L, t)) := hs
            clear hs
            go_wp2_with (first | (go_at_call 41; go_must (refine of_any log next seq 1 _ l F1 HF1.out hl _ hvr.out _ ?_); intro ga gc w5 hp5 hb5; have HB5 := Lib.hid (HBR.out.trans (hb5.mono (by omega))); have hz5 := Nat.le_trans hzr hb5.size; have n5 := row_on NR.out hb5; have hv5 := Lib.hid (hvr.out.below hb5); have HP5 := Lib.hid (hp5.pls hb5); clear g0 g1 g2 g3 hp5; have g0 : _ = some (Value.int .i64 log) := cell_of_row _ w.heap.size 0 _ _ _ n5; have g1 : _ = some (Value.int .i64 next) := cell_of_row _ w.heap.size 1 _ _ _ n5; have g2 : _ = some (Value.int .i64 seq) := cell_of_row _ w.heap.size 2 _ _ _ n5; have g3 : _ = some (Value.slice va l.length vc) := cell_of_row _ w.heap.size 3 _ _ _ n5; have N5 := Lib.hid n5; clear n5 hb5))
            go_roundg (2 - (0 + 1))
            case measure => omega
            case rel => exact ⟨0 + 1, by omega, rfl, rfl, N5, HB5, hz5, HS2⟩
        | 1, _ =>
          have hix : ∀ w' : World, Sem.run Try.prog (Instr.index 83 (.agg #[.int .i64 4, .int .i64 16]) (.int .i64 1)) w' = .ok (.int .i64 16) w' := fun w' => by kernel_rfl
          obtain ⟨F1, hF1⟩ : ∃ F, ofL l 2 = F := ⟨_, rfl⟩
          have HF1 := Lib.hid hF1
          have hfl1 : F1.length ≤ 1000000 := by rw [← hF1]; have := ofL_le l 2; omega
          have hs := HS.out
          unfold pickR at hs
          rw [hF1] at hs
          clear hF1 HS
          by_cases h5 : 16 < F1.length
          · have h5z : (16 : Int) < (F1.length : Int) := by omega
            rw [if_pos h5] at hs
            obtain ⟨rfl, hJ, rfl⟩ : 3 = z ∧ joinedL l (F1.take 1) 3 = L ∧ true = t := by simpa using hs
            have HJ := Lib.hid hJ
            clear hs hJ
            go_wp2_with (first | (go_at_call 41; go_must (refine of_any log next seq 2 _ l F1 HF1.out hl _ hvr.out _ ?_); intro ga gc w5 hp5 hb5; have HB5 := Lib.hid (HBR.out.trans (hb5.mono (by omega))); have hz5 := Nat.le_trans hzr hb5.size; have n5 := row_on NR.out hb5; have hv5 := Lib.hid (hvr.out.below hb5); have HP5 := Lib.hid (hp5.pls hb5); clear g0 g1 g2 g3 hp5; have g0 : _ = some (Value.int .i64 log) := cell_of_row _ w.heap.size 0 _ _ _ n5; have g1 : _ = some (Value.int .i64 next) := cell_of_row _ w.heap.size 1 _ _ _ n5; have g2 : _ = some (Value.int .i64 seq) := cell_of_row _ w.heap.size 2 _ _ _ n5; have g3 : _ = some (Value.slice va l.length vc) := cell_of_row _ w.heap.size 3 _ _ _ n5; have N5 := Lib.hid n5; clear n5 hb5))
            obtain ⟨gb, go5, rfl⟩ := HP5.out.head (by omega)
            have hcap := HP5.out.cap
            have hc1 : 1 ≤ gc := by omega
            have hc1z : (1 : Int) ≤ (gc : Int) := by omega
            have hslc : ∀ w' : World, Sem.run Try.prog (Instr.slice 50 (.slice (some ⟨gb, go5, none⟩) F1.length gc) none (some (.int .i64 1)) none) w' = .ok (.slice (some ⟨gb, go5, none⟩) 1 gc) w' := fun w' => by
              have he : Try.prog.elem 50 = 59 := by simp [Program.elem, Try.underlying50]
              rw [run_slice_h (P := Try.prog) w' 50 (some ⟨gb, go5, none⟩) F1.length gc (by rw [he]; exact Try.underlying50) .i64 1 (by omega) hc1z, he, Try.sizeOf59]
              simp [sliced, Result.andThen, Addr.add_lit]
            have hP1 := Lib.hid (HP5.out.take (j := 1) (by omega))
            have hl1 : (F1.take 1).length = 1 := by rw [List.length_take]; omega
            go_region_held3 (fun w' => w'.cell? ⟨w.heap.size, 0, none⟩ = some (Value.int .i64 log) ∧ w'.cell? ⟨w.heap.size, 1, none⟩ = some (Value.int .i64 next) ∧ w'.cell? ⟨w.heap.size, 2, none⟩ = some (Value.int .i64 seq) ∧ w'.cell? ⟨w.heap.size, 3, none⟩ = some (Value.slice va l.length vc))
              (first | exact ⟨g0, g1, g2, g3⟩ | exact ⟨d0, d1, d2, d3⟩ | go_keep)
              (first | (go_at_call 42; refine joined_any log next seq 3 _ _ l (F1.take 1) (by omega) L HJ.out hl (by omega) _ (hv5.out.below (Below.refl _ _).drew) (hP1.out.below (Below.refl _ _).drew) _ ?_; intro ja jc w6 hj6 hb6; have hj6' := Lib.hid (owns_mono hj6 (show w.heap.size ≤ w5.heap.size by omega)); have HB6 := Lib.hid (HB5.out.trans ((below_tr (a := w5) (Below.refl _ _).drew hb6).mono (show w.heap.size ≤ w5.heap.size by omega))); have d0 := cell_later hb6 (show w5.drew.cell? _ = _ from g0); have d1 := cell_later hb6 (show w5.drew.cell? _ = _ from g1); have d2 := cell_later hb6 (show w5.drew.cell? _ = _ from g2); have d3 := cell_later hb6 (show w5.drew.cell? _ = _ from g3)))
            all_goals
              go_wp2
              go_ret3
              exact HR.out ja jc w6 hj6'.out HB6.out
          · have h5z : ¬ (16 : Int) < (F1.length : Int) := by omega
            rw [if_neg h5] at hs
            have HS2 : Hid (pickR l (1 + 1) = (z, L, t)) := hs
            clear hs
            go_wp2_with (first | (go_at_call 41; go_must (refine of_any log next seq 2 _ l F1 HF1.out hl _ hvr.out _ ?_); intro ga gc w5 hp5 hb5; have HB5 := Lib.hid (HBR.out.trans (hb5.mono (by omega))); have hz5 := Nat.le_trans hzr hb5.size; have n5 := row_on NR.out hb5; have hv5 := Lib.hid (hvr.out.below hb5); have HP5 := Lib.hid (hp5.pls hb5); clear g0 g1 g2 g3 hp5; have g0 : _ = some (Value.int .i64 log) := cell_of_row _ w.heap.size 0 _ _ _ n5; have g1 : _ = some (Value.int .i64 next) := cell_of_row _ w.heap.size 1 _ _ _ n5; have g2 : _ = some (Value.int .i64 seq) := cell_of_row _ w.heap.size 2 _ _ _ n5; have g3 : _ = some (Value.slice va l.length vc) := cell_of_row _ w.heap.size 3 _ _ _ n5; have N5 := Lib.hid n5; clear n5 hb5))
            go_roundg (2 - (1 + 1))
            case measure => omega
            case rel => exact ⟨1 + 1, by omega, rfl, rfl, N5, HB5, hz5, HS2⟩
        | 2, _ =>
          obtain ⟨rfl, rfl, rfl⟩ : 0 = z ∧ [] = L ∧ false = t := by
            have := HS.out
            simpa [pickR] using this
          clear HS
          go_wp2
          go_ret3
          exact HR.out none 0 wo (World.ownsRow_nil _ _ _ _) HBR.out
        | k + 3, h => exact absurd h (by omega)
end Go.Proofs.Ytgkgahjdjkmmnaa
