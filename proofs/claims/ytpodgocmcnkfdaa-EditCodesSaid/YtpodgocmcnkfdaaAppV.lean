/- edit.Apply, walked, where the version may not be, or a number falls. -/
import Derived.Test.YtpodgocmcnkfdaaAppB
namespace Go.Proofs.Ytpodgocmcnkfdaa
open Go.RowKit Go.Maps

set_option maxRecDepth 1000000 in
set_option maxHeartbeats 12800000 in
theorem eapply_bad (log next seq elog enext eseq : Int) (v av dv : Value) (l add : List Pl) (dr : List Int) (X : Vn) (z : Int) (hX : applyL ⟨log, next, seq, l⟩ ⟨elog, enext, eseq, add, dr⟩ = (X, z))
    (hl : l.length ≤ 100000) (_hal : add.length ≤ 100000) (_hdl : dr.length ≤ 100000) (hwf : ∀ n ∈ dr, (Lit.int .i64 n).wf = true) (hok : checkV ⟨log, next, seq, l⟩ = false) (w : World) (hv : Pls w v l) (hav : Pls w av add) (hdv : Is w dv dr) (R : Ending → World → Prop)
    (hR : ∀ xv w', PlsO w' w.heap.size xv X.tabs → Below w.heap.size w w' → R (.returned (.tuple #[.agg #[.int .i64 X.log, .int .i64 X.next, .int .i64 X.seq, xv], .int .i64 z])) w') :
    Calls Try.prog 10 #[.agg #[.int .i64 log, .int .i64 next, .int .i64 seq, v], .agg #[.int .i64 elog, .int .i64 enext, .int .i64 eseq, av, dv]] w R := by
  have HR := Lib.hid hR
  have HX := Lib.hid hX
  have HV := Lib.hid hv
  have HA := Lib.hid hav
  have HD := Lib.hid hdv
  have HWF := Lib.hid hwf
  have hmm := @run_makeMap Try.prog
  obtain ⟨va, vc, rfl, v1, v2, v3, _⟩ := hv
  obtain ⟨aa, ac, rfl, a1, a2, a3, _⟩ := hav
  obtain ⟨da, dc, rfl, _, d1, d2, d3⟩ := hdv
  have hb0 : Below w.heap.size w (((w.alloc (vnO log next seq (.slice va l.length vc))).alloc (edO elog enext eseq (.slice aa add.length ac) (.slice da dr.length dc))).alloc zvO) := (((Below.refl w.heap.size w).alloc (Nat.le_refl _) _).alloc (by simp) _).alloc (by simp; omega) _
  have n0 : (((w.alloc (vnO log next seq (.slice va l.length vc))).alloc (edO elog enext eseq (.slice aa add.length ac) (.slice da dr.length dc))).alloc zvO).heap[w.heap.size]? = some (vnO log next seq (.slice va l.length vc)) := block_alloc (block_alloc (heap_alloc_new w _))
  have n1 : (((w.alloc (vnO log next seq (.slice va l.length vc))).alloc (edO elog enext eseq (.slice aa add.length ac) (.slice da dr.length dc))).alloc zvO).heap[w.heap.size + 1]? = some (edO elog enext eseq (.slice aa add.length ac) (.slice da dr.length dc)) := by
    have h := heap_alloc_new (w.alloc (vnO log next seq (.slice va l.length vc))) (edO elog enext eseq (.slice aa add.length ac) (.slice da dr.length dc))
    rw [show (w.alloc (vnO log next seq (.slice va l.length vc))).heap.size = w.heap.size + 1 by simp] at h
    exact block_alloc h
  have n2 : (((w.alloc (vnO log next seq (.slice va l.length vc))).alloc (edO elog enext eseq (.slice aa add.length ac) (.slice da dr.length dc))).alloc zvO).heap[w.heap.size + 2]? = some zvO := by
    have h := heap_alloc_new ((w.alloc (vnO log next seq (.slice va l.length vc))).alloc (edO elog enext eseq (.slice aa add.length ac) (.slice da dr.length dc))) zvO
    rw [show ((w.alloc (vnO log next seq (.slice va l.length vc))).alloc (edO elog enext eseq (.slice aa add.length ac) (.slice da dr.length dc))).heap.size = w.heap.size + 2 by simp] at h
    exact h
  have hz0 : w.heap.size + 3 ≤ (((w.alloc (vnO log next seq (.slice va l.length vc))).alloc (edO elog enext eseq (.slice aa add.length ac) (.slice da dr.length dc))).alloc zvO).heap.size := by simp
  unfold vnO edO zvO at hb0 n0 n1 n2 hz0
  have N0 := Lib.hid n0
  have N1 := Lib.hid n1
  have N2 := Lib.hid n2
  have hv0 := Lib.hid (HV.out.below hb0)
  have HB0 := Lib.hid hb0
  clear n0 n1 n2 hR hX hwf hb0
  have HOK : Hid (checkL apartL log next seq l = false) := hok
  clear hok
  have hx : (X, z) = (vn0, 80) := by rw [← HX.out]; exact applyL_bad HOK.out
  obtain ⟨rfl, rfl⟩ : X = vn0 ∧ z = 80 := by cases hx; exact ⟨rfl, rfl⟩
  clear hx HX
  go_enter Try.func10, Try.ntmps10
  go_wp2_with (first
    | (go_at_call 13; go_must (refine echeck_any log next seq _ l false HOK.out (by omega) _ hv0.out _ ?_); intro w1 hb1; unfold errI; have HB1 := Lib.hid (HB0.out.trans (hb1.mono (by omega))); have hz1 := Nat.le_trans hz0 hb1.size; have hm0 := row_on N0.out hb1; have hm1 := row_on N1.out hb1; have hm2 := row_on N2.out hb1; have g0 : _ = some (Value.int .i64 log) := cell_of_row _ w.heap.size 0 _ _ _ hm0; have g1 : _ = some (Value.int .i64 next) := cell_of_row _ w.heap.size 1 _ _ _ hm0; have g2 : _ = some (Value.int .i64 seq) := cell_of_row _ w.heap.size 2 _ _ _ hm0; have g3 : _ = some (Value.slice va l.length vc) := cell_of_row _ w.heap.size 3 _ _ _ hm0; have e0 : _ = some (Value.int .i64 elog) := cell_of_row _ (w.heap.size + 1) 0 _ _ _ hm1; have e1 : _ = some (Value.int .i64 enext) := cell_of_row _ (w.heap.size + 1) 1 _ _ _ hm1; have e2 : _ = some (Value.int .i64 eseq) := cell_of_row _ (w.heap.size + 1) 2 _ _ _ hm1; have e3 : _ = some (Value.slice aa add.length ac) := cell_of_row _ (w.heap.size + 1) 3 _ _ _ hm1; have e4 : _ = some (Value.slice da dr.length dc) := cell_of_row _ (w.heap.size + 1) 4 _ _ _ hm1; have M0 := Lib.hid hm0; have M1 := Lib.hid hm1; have M2 := Lib.hid hm2; clear hm0 hm1 hm2 hb1)
    | (refine wpList_store_row (o := ⟨none, .store 24 (.tmp 4) (.tmp 19), _, _, _, _⟩) (by rfl) 24 (.tmp 4) (.tmp 19) (by rfl) (w.heap.size + 2) _ (by rfl) (by rfl) 24 _ (M2).out (by kernel_rfl) (by rfl) (by simp [Value.oneCell']) ?_))
  refine bodyPost_ret (res_one rfl _ _ (w.heap.size + 2) 24 #[Value.int .i64 0, .int .i64 0, .int .i64 0, .slice none 0 0] (0, 0) _ (.int .i64 80) rfl rfl (setRow_heap _ (w.heap.size + 2) _ _ _ _ (M2).out) Try.underlying24 rfl (by kernel_rfl)) rfl ?_
  exact HR.out _ _ (PlsO.nil _ _) (below_setRow (HB1).out (by omega) _)

set_option maxRecDepth 1000000 in
set_option maxHeartbeats 12800000 in
theorem eapply_fall (log next seq elog enext eseq : Int) (v av dv : Value) (l add : List Pl) (dr : List Int) (X : Vn) (z : Int) (hX : applyL ⟨log, next, seq, l⟩ ⟨elog, enext, eseq, add, dr⟩ = (X, z))
    (hl : l.length ≤ 100000) (_hal : add.length ≤ 100000) (_hdl : dr.length ≤ 100000) (hwf : ∀ n ∈ dr, (Lit.int .i64 n).wf = true) (hok : checkV ⟨log, next, seq, l⟩ = true) (hq : elog < log ∨ enext < next ∨ eseq < seq) (w : World) (hv : Pls w v l) (hav : Pls w av add) (hdv : Is w dv dr) (R : Ending → World → Prop)
    (hR : ∀ xv w', PlsO w' w.heap.size xv X.tabs → Below w.heap.size w w' → R (.returned (.tuple #[.agg #[.int .i64 X.log, .int .i64 X.next, .int .i64 X.seq, xv], .int .i64 z])) w') :
    Calls Try.prog 10 #[.agg #[.int .i64 log, .int .i64 next, .int .i64 seq, v], .agg #[.int .i64 elog, .int .i64 enext, .int .i64 eseq, av, dv]] w R := by
  have HR := Lib.hid hR
  have HX := Lib.hid hX
  have HV := Lib.hid hv
  have HA := Lib.hid hav
  have HD := Lib.hid hdv
  have HWF := Lib.hid hwf
  have hmm := @run_makeMap Try.prog
  obtain ⟨va, vc, rfl, v1, v2, v3, _⟩ := hv
  obtain ⟨aa, ac, rfl, a1, a2, a3, _⟩ := hav
  obtain ⟨da, dc, rfl, _, d1, d2, d3⟩ := hdv
  have hb0 : Below w.heap.size w (((w.alloc (vnO log next seq (.slice va l.length vc))).alloc (edO elog enext eseq (.slice aa add.length ac) (.slice da dr.length dc))).alloc zvO) := (((Below.refl w.heap.size w).alloc (Nat.le_refl _) _).alloc (by simp) _).alloc (by simp; omega) _
  have n0 : (((w.alloc (vnO log next seq (.slice va l.length vc))).alloc (edO elog enext eseq (.slice aa add.length ac) (.slice da dr.length dc))).alloc zvO).heap[w.heap.size]? = some (vnO log next seq (.slice va l.length vc)) := block_alloc (block_alloc (heap_alloc_new w _))
  have n1 : (((w.alloc (vnO log next seq (.slice va l.length vc))).alloc (edO elog enext eseq (.slice aa add.length ac) (.slice da dr.length dc))).alloc zvO).heap[w.heap.size + 1]? = some (edO elog enext eseq (.slice aa add.length ac) (.slice da dr.length dc)) := by
    have h := heap_alloc_new (w.alloc (vnO log next seq (.slice va l.length vc))) (edO elog enext eseq (.slice aa add.length ac) (.slice da dr.length dc))
    rw [show (w.alloc (vnO log next seq (.slice va l.length vc))).heap.size = w.heap.size + 1 by simp] at h
    exact block_alloc h
  have n2 : (((w.alloc (vnO log next seq (.slice va l.length vc))).alloc (edO elog enext eseq (.slice aa add.length ac) (.slice da dr.length dc))).alloc zvO).heap[w.heap.size + 2]? = some zvO := by
    have h := heap_alloc_new ((w.alloc (vnO log next seq (.slice va l.length vc))).alloc (edO elog enext eseq (.slice aa add.length ac) (.slice da dr.length dc))) zvO
    rw [show ((w.alloc (vnO log next seq (.slice va l.length vc))).alloc (edO elog enext eseq (.slice aa add.length ac) (.slice da dr.length dc))).heap.size = w.heap.size + 2 by simp] at h
    exact h
  have hz0 : w.heap.size + 3 ≤ (((w.alloc (vnO log next seq (.slice va l.length vc))).alloc (edO elog enext eseq (.slice aa add.length ac) (.slice da dr.length dc))).alloc zvO).heap.size := by simp
  unfold vnO edO zvO at hb0 n0 n1 n2 hz0
  have N0 := Lib.hid n0
  have N1 := Lib.hid n1
  have N2 := Lib.hid n2
  have hv0 := Lib.hid (HV.out.below hb0)
  have HB0 := Lib.hid hb0
  clear n0 n1 n2 hR hX hwf hb0
  have HOK : Hid (checkL apartL log next seq l = true) := hok
  have HCV := Lib.hid hok
  obtain ⟨rfl, rfl⟩ : X = vn0 ∧ z = 81 := by
    have := HX.out
    have h2 : okE ⟨log, next, seq, l⟩ ⟨elog, enext, eseq, add, dr⟩ = false := by
      rcases hq with h | h | h
      · exact okE_log h
      · exact okE_next h
      · exact okE_seq h
    rw [applyL_no HCV.out h2] at this
    cases this
    exact ⟨rfl, rfl⟩
  clear hok HX
  by_cases q1 : elog < log
  · clear hq
    go_enter Try.func10, Try.ntmps10
    go_wp2_with (first
      | (go_at_call 13; go_must (refine echeck_any log next seq _ l true HOK.out (by omega) _ hv0.out _ ?_); intro w1 hb1; unfold errI; have HB1 := Lib.hid (HB0.out.trans (hb1.mono (by omega))); have hz1 := Nat.le_trans hz0 hb1.size; have hm0 := row_on N0.out hb1; have hm1 := row_on N1.out hb1; have hm2 := row_on N2.out hb1; have g0 : _ = some (Value.int .i64 log) := cell_of_row _ w.heap.size 0 _ _ _ hm0; have g1 : _ = some (Value.int .i64 next) := cell_of_row _ w.heap.size 1 _ _ _ hm0; have g2 : _ = some (Value.int .i64 seq) := cell_of_row _ w.heap.size 2 _ _ _ hm0; have g3 : _ = some (Value.slice va l.length vc) := cell_of_row _ w.heap.size 3 _ _ _ hm0; have e0 : _ = some (Value.int .i64 elog) := cell_of_row _ (w.heap.size + 1) 0 _ _ _ hm1; have e1 : _ = some (Value.int .i64 enext) := cell_of_row _ (w.heap.size + 1) 1 _ _ _ hm1; have e2 : _ = some (Value.int .i64 eseq) := cell_of_row _ (w.heap.size + 1) 2 _ _ _ hm1; have e3 : _ = some (Value.slice aa add.length ac) := cell_of_row _ (w.heap.size + 1) 3 _ _ _ hm1; have e4 : _ = some (Value.slice da dr.length dc) := cell_of_row _ (w.heap.size + 1) 4 _ _ _ hm1; have M0 := Lib.hid hm0; have M1 := Lib.hid hm1; have M2 := Lib.hid hm2; clear hm0 hm1 hm2 hb1)
      | (refine wpList_store_row (o := ⟨none, .store 24 (.tmp 4) (.tmp 40), _, _, _, _⟩) (by rfl) 24 (.tmp 4) (.tmp 40) (by rfl) (w.heap.size + 2) _ (by rfl) (by rfl) 24 _ (M2).out (by kernel_rfl) (by rfl) (by simp [Value.oneCell']) ?_))
    refine bodyPost_ret (res_one rfl _ _ (w.heap.size + 2) 24 #[Value.int .i64 0, .int .i64 0, .int .i64 0, .slice none 0 0] (0, 0) _ (.int .i64 81) rfl rfl (setRow_heap _ (w.heap.size + 2) _ _ _ _ (M2).out) Try.underlying24 rfl (by kernel_rfl)) rfl ?_
    exact HR.out _ _ (PlsO.nil _ _) (below_setRow (HB1).out (by omega) _)
  by_cases q2 : enext < next
  · clear hq
    go_enter Try.func10, Try.ntmps10
    go_wp2_with (first
      | (go_at_call 13; go_must (refine echeck_any log next seq _ l true HOK.out (by omega) _ hv0.out _ ?_); intro w1 hb1; unfold errI; have HB1 := Lib.hid (HB0.out.trans (hb1.mono (by omega))); have hz1 := Nat.le_trans hz0 hb1.size; have hm0 := row_on N0.out hb1; have hm1 := row_on N1.out hb1; have hm2 := row_on N2.out hb1; have g0 : _ = some (Value.int .i64 log) := cell_of_row _ w.heap.size 0 _ _ _ hm0; have g1 : _ = some (Value.int .i64 next) := cell_of_row _ w.heap.size 1 _ _ _ hm0; have g2 : _ = some (Value.int .i64 seq) := cell_of_row _ w.heap.size 2 _ _ _ hm0; have g3 : _ = some (Value.slice va l.length vc) := cell_of_row _ w.heap.size 3 _ _ _ hm0; have e0 : _ = some (Value.int .i64 elog) := cell_of_row _ (w.heap.size + 1) 0 _ _ _ hm1; have e1 : _ = some (Value.int .i64 enext) := cell_of_row _ (w.heap.size + 1) 1 _ _ _ hm1; have e2 : _ = some (Value.int .i64 eseq) := cell_of_row _ (w.heap.size + 1) 2 _ _ _ hm1; have e3 : _ = some (Value.slice aa add.length ac) := cell_of_row _ (w.heap.size + 1) 3 _ _ _ hm1; have e4 : _ = some (Value.slice da dr.length dc) := cell_of_row _ (w.heap.size + 1) 4 _ _ _ hm1; have M0 := Lib.hid hm0; have M1 := Lib.hid hm1; have M2 := Lib.hid hm2; clear hm0 hm1 hm2 hb1)
      | (refine wpList_store_row (o := ⟨none, .store 24 (.tmp 4) (.tmp 40), _, _, _, _⟩) (by rfl) 24 (.tmp 4) (.tmp 40) (by rfl) (w.heap.size + 2) _ (by rfl) (by rfl) 24 _ (M2).out (by kernel_rfl) (by rfl) (by simp [Value.oneCell']) ?_))
    refine bodyPost_ret (res_one rfl _ _ (w.heap.size + 2) 24 #[Value.int .i64 0, .int .i64 0, .int .i64 0, .slice none 0 0] (0, 0) _ (.int .i64 81) rfl rfl (setRow_heap _ (w.heap.size + 2) _ _ _ _ (M2).out) Try.underlying24 rfl (by kernel_rfl)) rfl ?_
    exact HR.out _ _ (PlsO.nil _ _) (below_setRow (HB1).out (by omega) _)
  have q3 : eseq < seq := by
    rcases hq with h | h | h
    · exact absurd h q1
    · exact absurd h q2
    · exact h
  clear hq
  go_enter Try.func10, Try.ntmps10
  go_wp2_with (first
    | (go_at_call 13; go_must (refine echeck_any log next seq _ l true HOK.out (by omega) _ hv0.out _ ?_); intro w1 hb1; unfold errI; have HB1 := Lib.hid (HB0.out.trans (hb1.mono (by omega))); have hz1 := Nat.le_trans hz0 hb1.size; have hm0 := row_on N0.out hb1; have hm1 := row_on N1.out hb1; have hm2 := row_on N2.out hb1; have g0 : _ = some (Value.int .i64 log) := cell_of_row _ w.heap.size 0 _ _ _ hm0; have g1 : _ = some (Value.int .i64 next) := cell_of_row _ w.heap.size 1 _ _ _ hm0; have g2 : _ = some (Value.int .i64 seq) := cell_of_row _ w.heap.size 2 _ _ _ hm0; have g3 : _ = some (Value.slice va l.length vc) := cell_of_row _ w.heap.size 3 _ _ _ hm0; have e0 : _ = some (Value.int .i64 elog) := cell_of_row _ (w.heap.size + 1) 0 _ _ _ hm1; have e1 : _ = some (Value.int .i64 enext) := cell_of_row _ (w.heap.size + 1) 1 _ _ _ hm1; have e2 : _ = some (Value.int .i64 eseq) := cell_of_row _ (w.heap.size + 1) 2 _ _ _ hm1; have e3 : _ = some (Value.slice aa add.length ac) := cell_of_row _ (w.heap.size + 1) 3 _ _ _ hm1; have e4 : _ = some (Value.slice da dr.length dc) := cell_of_row _ (w.heap.size + 1) 4 _ _ _ hm1; have M0 := Lib.hid hm0; have M1 := Lib.hid hm1; have M2 := Lib.hid hm2; clear hm0 hm1 hm2 hb1)
    | (refine wpList_store_row (o := ⟨none, .store 24 (.tmp 4) (.tmp 40), _, _, _, _⟩) (by rfl) 24 (.tmp 4) (.tmp 40) (by rfl) (w.heap.size + 2) _ (by rfl) (by rfl) 24 _ (M2).out (by kernel_rfl) (by rfl) (by simp [Value.oneCell']) ?_))
  refine bodyPost_ret (res_one rfl _ _ (w.heap.size + 2) 24 #[Value.int .i64 0, .int .i64 0, .int .i64 0, .slice none 0 0] (0, 0) _ (.int .i64 81) rfl rfl (setRow_heap _ (w.heap.size + 2) _ _ _ _ (M2).out) Try.underlying24 rfl (by kernel_rfl)) rfl ?_
  exact HR.out _ _ (PlsO.nil _ _) (below_setRow (HB1).out (by omega) _)
end Go.Proofs.Ytpodgocmcnkfdaa
