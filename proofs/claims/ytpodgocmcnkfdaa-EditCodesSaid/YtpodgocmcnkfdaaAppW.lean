/- edit.Apply, walked, from the numbers on. -/
import Derived.Test.YtpodgocmcnkfdaaAppV
namespace Go.Proofs.Ytpodgocmcnkfdaa
open Go.RowKit Go.Maps

set_option maxRecDepth 1000000 in
set_option maxHeartbeats 12800000 in
theorem eapply_main (log next seq elog enext eseq : Int) (v av dv : Value) (l add : List Pl) (dr : List Int) (X : Vn) (z : Int) (hX : applyL ⟨log, next, seq, l⟩ ⟨elog, enext, eseq, add, dr⟩ = (X, z))
    (hl : l.length ≤ 100000) (hal : add.length ≤ 100000) (hdl : dr.length ≤ 100000) (hwf : ∀ n ∈ dr, (Lit.int .i64 n).wf = true) (hok : checkV ⟨log, next, seq, l⟩ = true) (q1 : ¬ elog < log) (q2 : ¬ enext < next) (q3 : ¬ eseq < seq) (w : World) (hv : Pls w v l) (hav : Pls w av add) (hdv : Is w dv dr) (R : Ending → World → Prop)
    (hR : ∀ xv w', PlsO w' w.heap.size xv X.tabs → Below w.heap.size w w' → R (.returned (.tuple #[.agg #[.int .i64 X.log, .int .i64 X.next, .int .i64 X.seq, xv], .int .i64 z])) w') :
    Calls Try.prog 10 #[.agg #[.int .i64 log, .int .i64 next, .int .i64 seq, v], .agg #[.int .i64 elog, .int .i64 enext, .int .i64 eseq, av, dv]] w R := by
  have HR := Lib.hid hR
  have HX := Lib.hid hX
  have HV := Lib.hid hv
  have HA := Lib.hid hav
  have HD := Lib.hid hdv
  have HWF := Lib.hid hwf
  have hmm := @run_makeMap Try.prog
  obtain ⟨va, vc, rfl, v1, v2, v3, _⟩ := hv
  obtain ⟨aa, ac, rfl, a1, a2, a3, _⟩ := hav
  obtain ⟨da, dc, rfl, _, d1, d2, d3⟩ := hdv
  have hb0 : Below w.heap.size w (((w.alloc (vnO log next seq (.slice va l.length vc))).alloc (edO elog enext eseq (.slice aa add.length ac) (.slice da dr.length dc))).alloc zvO) := (((Below.refl w.heap.size w).alloc (Nat.le_refl _) _).alloc (by simp) _).alloc (by simp; omega) _
  have n0 : (((w.alloc (vnO log next seq (.slice va l.length vc))).alloc (edO elog enext eseq (.slice aa add.length ac) (.slice da dr.length dc))).alloc zvO).heap[w.heap.size]? = some (vnO log next seq (.slice va l.length vc)) := block_alloc (block_alloc (heap_alloc_new w _))
  have n1 : (((w.alloc (vnO log next seq (.slice va l.length vc))).alloc (edO elog enext eseq (.slice aa add.length ac) (.slice da dr.length dc))).alloc zvO).heap[w.heap.size + 1]? = some (edO elog enext eseq (.slice aa add.length ac) (.slice da dr.length dc)) := by
    have h := heap_alloc_new (w.alloc (vnO log next seq (.slice va l.length vc))) (edO elog enext eseq (.slice aa add.length ac) (.slice da dr.length dc))
    rw [show (w.alloc (vnO log next seq (.slice va l.length vc))).heap.size = w.heap.size + 1 by simp] at h
    exact block_alloc h
  have n2 : (((w.alloc (vnO log next seq (.slice va l.length vc))).alloc (edO elog enext eseq (.slice aa add.length ac) (.slice da dr.length dc))).alloc zvO).heap[w.heap.size + 2]? = some zvO := by
    have h := heap_alloc_new ((w.alloc (vnO log next seq (.slice va l.length vc))).alloc (edO elog enext eseq (.slice aa add.length ac) (.slice da dr.length dc))) zvO
    rw [show ((w.alloc (vnO log next seq (.slice va l.length vc))).alloc (edO elog enext eseq (.slice aa add.length ac) (.slice da dr.length dc))).heap.size = w.heap.size + 2 by simp] at h
    exact h
  have hz0 : w.heap.size + 3 ≤ (((w.alloc (vnO log next seq (.slice va l.length vc))).alloc (edO elog enext eseq (.slice aa add.length ac) (.slice da dr.length dc))).alloc zvO).heap.size := by simp
  unfold vnO edO zvO at hb0 n0 n1 n2 hz0
  have N0 := Lib.hid n0
  have N1 := Lib.hid n1
  have N2 := Lib.hid n2
  have hv0 := Lib.hid (HV.out.below hb0)
  have HB0 := Lib.hid hb0
  clear n0 n1 n2 hR hX hwf hb0
  have HOK : Hid (checkL apartL log next seq l = true) := hok
  have HCV := Lib.hid hok
  clear hok
  obtain ⟨o, ho⟩ : ∃ o, onceK (dr.take 0) (dr.drop 0) = o := ⟨_, rfl⟩
  have HO0 := Lib.hid ho
  clear ho
  go_enter Try.func10, Try.ntmps10
  go_wp2_with (first
    | (go_at_call 13; go_must (refine echeck_any log next seq _ l true HOK.out (by omega) _ hv0.out _ ?_); intro w1 hb1; unfold errI; have HB1 := Lib.hid (HB0.out.trans (hb1.mono (by omega))); have hz1 := Nat.le_trans hz0 hb1.size; have hm0 := row_on N0.out hb1; have hm1 := row_on N1.out hb1; have hm2 := row_on N2.out hb1; have g0 : _ = some (Value.int .i64 log) := cell_of_row _ w.heap.size 0 _ _ _ hm0; have g1 : _ = some (Value.int .i64 next) := cell_of_row _ w.heap.size 1 _ _ _ hm0; have g2 : _ = some (Value.int .i64 seq) := cell_of_row _ w.heap.size 2 _ _ _ hm0; have g3 : _ = some (Value.slice va l.length vc) := cell_of_row _ w.heap.size 3 _ _ _ hm0; have e0 : _ = some (Value.int .i64 elog) := cell_of_row _ (w.heap.size + 1) 0 _ _ _ hm1; have e1 : _ = some (Value.int .i64 enext) := cell_of_row _ (w.heap.size + 1) 1 _ _ _ hm1; have e2 : _ = some (Value.int .i64 eseq) := cell_of_row _ (w.heap.size + 1) 2 _ _ _ hm1; have e3 : _ = some (Value.slice aa add.length ac) := cell_of_row _ (w.heap.size + 1) 3 _ _ _ hm1; have e4 : _ = some (Value.slice da dr.length dc) := cell_of_row _ (w.heap.size + 1) 4 _ _ _ hm1; have M0 := Lib.hid hm0; have M1 := Lib.hid hm1; have M2 := Lib.hid hm2; clear hm0 hm1 hm2 hb1)
    | (have HN7 := Lib.hid (heap_alloc_new w1 (Obj.cells #[Value.int .i64 0, .int .i64 0, .int .i64 0, .slice none 0 0] 24)); refine wpList_store_row (o := ⟨none, .store 24 (.tmp 7) (.tmp 47), _, _, _, _⟩) (by rfl) 24 (.tmp 7) (.tmp 47) (by rfl) w1.heap.size _ (by rfl) (by rfl) 24 _ HN7.out (by kernel_rfl) (by rfl) (by simp [Value.oneCell']) ?_; rw [World.setRow_alloc_new]; have f4 : ((w1.alloc (Obj.cells #[Value.int .i64 elog, .int .i64 enext, .int .i64 eseq, .slice none 0 0] 24)).alloc (Obj.map #[] 0)).cell? ⟨w.heap.size + 1, 4, none⟩ = some (Value.slice da dr.length dc) := cell_of_row _ (w.heap.size + 1) 4 _ _ _ (block_alloc (block_alloc M1.out)); clear HN7))
  have hM0 : ((w1.alloc (Obj.cells #[Value.int .i64 elog, .int .i64 enext, .int .i64 eseq, .slice none 0 0] 24)).alloc (Obj.map #[] 0)).ownsMap Try.prog 3 (plainElem (H := Unit) Try.prog 3) (w1.heap.size + 1) 0 (dropD (dr.take 0)) := by
    have h := World.ownsMap_made (H := Unit) (w1.alloc (Obj.cells #[Value.int .i64 elog, .int .i64 enext, .int .i64 eseq, .slice none 0 0] 24)) Try.prog 3 (plainElem (H := Unit) Try.prog 3)
    rw [show (w1.alloc (Obj.cells #[Value.int .i64 elog, .int .i64 enext, .int .i64 eseq, .slice none 0 0] 24)).heap.size = w1.heap.size + 1 by simp] at h
    exact h
  have hr0 : ((w1.alloc (Obj.cells #[Value.int .i64 elog, .int .i64 enext, .int .i64 eseq, .slice none 0 0] 24)).alloc (Obj.map #[] 0)).heap[w.heap.size]? = _ := block_alloc (block_alloc M0.out)
  have hr1 : ((w1.alloc (Obj.cells #[Value.int .i64 elog, .int .i64 enext, .int .i64 eseq, .slice none 0 0] 24)).alloc (Obj.map #[] 0)).heap[w.heap.size + 1]? = _ := block_alloc (block_alloc M1.out)
  have hr2 : ((w1.alloc (Obj.cells #[Value.int .i64 elog, .int .i64 enext, .int .i64 eseq, .slice none 0 0] 24)).alloc (Obj.map #[] 0)).heap[w.heap.size + 2]? = _ := block_alloc (block_alloc M2.out)
  have hr7 : ((w1.alloc (Obj.cells #[Value.int .i64 elog, .int .i64 enext, .int .i64 eseq, .slice none 0 0] 24)).alloc (Obj.map #[] 0)).heap[w1.heap.size]? = _ := block_alloc (heap_alloc_new w1 _)
  have hb3 : Below w.heap.size w ((w1.alloc (Obj.cells #[Value.int .i64 elog, .int .i64 enext, .int .i64 eseq, .slice none 0 0] 24)).alloc (Obj.map #[] 0)) := (HB1.out.alloc (by omega) _).alloc (by simp; omega) _
  have hz3 : w1.heap.size + 2 ≤ ((w1.alloc (Obj.cells #[Value.int .i64 elog, .int .i64 enext, .int .i64 eseq, .slice none 0 0] 24)).alloc (Obj.map #[] 0)).heap.size := by simp
  clear M0 M1 M2 f4 g0 g1 g2 g3 e0 e1 e2 e3 e4 HB1 hv0 HB0 N0 N1 N2 hz0 hmm a1 a2 a3
  generalize (w1.alloc (Obj.cells #[Value.int .i64 elog, .int .i64 enext, .int .i64 eseq, .slice none 0 0] 24)).alloc (Obj.map #[] 0) = w3 at hM0 hr0 hr1 hr2 hr7 hb3 hz3 ⊢
  generalize w1.heap.size = N at hM0 hr7 hz3 hz1 ⊢
  have HM0 := Lib.hid hM0
  have HR0 := Lib.hid hr0
  have HR1 := Lib.hid hr1
  have HR2 := Lib.hid hr2
  have HR7 := Lib.hid hr7
  have HB3 := Lib.hid hb3
  clear hM0 hr0 hr1 hr2 hr7 hb3
  go_loopg [52] dr.length (fun gn i wr => ∃ k : Nat, k ≤ dr.length ∧ gn = dr.length - k ∧ i = .int .i64 k ∧ Hid (wr.ownsMap Try.prog 3 (plainElem (H := Unit) Try.prog 3) (N + 1) k (dropD (dr.take k))) ∧ Bx (N + 2) (N + 1) w3 wr ∧ N + 2 ≤ wr.heap.size ∧ Hid (onceK (dr.take k) (dr.drop k) = o))
  case atStart => exact ⟨0, Nat.zero_le _, by omega, rfl, HM0, Bx.refl _ _ _, hz3, HO0⟩
  case round =>
    obtain ⟨k, hk, rfl, rfl, HM, hbx, hz, HO⟩ := hrel
    clear HM0
    have hbw : Below w.heap.size w wr := HB3.out.trans (hbx.low (by omega) (by omega))
    by_cases hlt : k < dr.length
    · have hkk : (k : Int) < (dr.length : Int) := by omega
      obtain ⟨db, do', rfl, hc⟩ := HD.out.at k hlt
      have hcw := cell_later hbw hc
      have hat := onceK_at dr k hlt
      rw [HO.out] at hat
      have hs : dropD (dr.take (k + 1)) = (dropD (dr.take k)).put (.int .i64 dr[k]) oneD := by rw [List.take_succ_eq_append_getElem hlt, dropD_snoc]
      have hwd := HWF.out dr[k] (List.getElem_mem _)
      obtain ⟨d, hd⟩ : ∃ d, dr[k] = d := ⟨_, rfl⟩
      rw [hd] at hcw hat hs hwd
      have HKEY : Hid (keyOf Try.prog 3 (.int .i64 d) = some (.int .i64 d)) := Maps.keyOf_int_mk Try.underlying3 hwd
      have HDA := Lib.hid (dropD_at (dr.take k) d)
      have HDP := Lib.hid (dropD_put (dr.take k) d)
      have HS := Lib.hid hs
      obtain ⟨hh, hhh⟩ : ∃ b, hasI (dr.take k) d = b := ⟨_, rfl⟩
      rw [hhh] at hat
      have HHH := Lib.hid hhh
      have HAT := Lib.hid hat
      clear hhh hat hs hwd hd hc HO
      cases hh with
      | true =>
        obtain rfl : o = false := by rw [HAT.out]; rfl
        go_wp2_with (first
          | (at_lookup; refine wpList_lookup_own_int _ rfl _ _ 72 rfl 3 3 .i64 Try.keyed3 Try.underlying72 Try.underlying3 (Try.zeroI _) (N + 1) k _ rfl HM.out _ _ rfl HKEY.out ?_; intro c hat hwc; obtain rfl : c = 1 := (by have := HDA.out c hat; rw [HHH.out] at this; simpa using this); clear hat hwc)
          | (at_mapUpdate; refine wpList_mapUpdate_own _ rfl _ _ _ 72 rfl 3 3 Try.keyed3 Try.underlying72 _ (N + 1) k _ rfl HM.out (by unfold maxLen; omega) _ _ _ rfl rfl HKEY.out (.lit (.int .i64 2)) [] (plainElem_int Try.underlying3 (by decide)) ?_; intro w5 hown5 hgrow5; have HM5 := Lib.hid hown5; have HBX5 := Lib.hid (hbx.grown hgrow5 hz); clear hown5)
          | (at_lookup; refine wpList_lookup_own_int _ rfl _ _ 72 rfl 3 3 .i64 Try.keyed3 Try.underlying72 Try.underlying3 (Try.zeroI _) (N + 1) (k + 1) _ rfl HM5.out _ _ rfl HKEY.out ?_; intro c hat hwc; obtain rfl : c = 2 := HDP.out 2 c hat; clear hat hwc; have HZ5 := Lib.hid (HBX5.out.row HR2.out (by omega) (by omega)))
          | (refine wpList_store_row (o := ⟨none, .store 24 (.tmp 4) (.tmp 64), _, _, _, _⟩) (by rfl) 24 (.tmp 4) (.tmp 64) (by rfl) (w.heap.size + 2) _ (by rfl) (by rfl) 24 _ (HZ5).out (by kernel_rfl) (by rfl) (by simp [Value.oneCell']) ?_))
        obtain ⟨rfl, rfl⟩ : X = vn0 ∧ z = 81 := by
          have := HX.out
          have h1 : onceK [] dr = false := HO0.out
          rw [applyL_no HCV.out (okE_once (e := ⟨elog, enext, eseq, add, dr⟩) h1)] at this
          cases this
          exact ⟨rfl, rfl⟩
        have HBF := Lib.hid (HB3.out.trans (HBX5.out.low (C := w.heap.size) (by omega) (by omega)))
        refine bodyPost_ret (res_one rfl _ _ (w.heap.size + 2) 24 #[Value.int .i64 0, .int .i64 0, .int .i64 0, .slice none 0 0] (0, 0) _ (.int .i64 81) rfl rfl (setRow_heap _ (w.heap.size + 2) _ _ _ _ (HZ5).out) Try.underlying24 rfl (by kernel_rfl)) rfl ?_
        exact HR.out _ _ (PlsO.nil _ _) (below_setRow (HBF).out (by omega) _)
      | false =>
        have HNX : Hid (onceK (dr.take (k + 1)) (dr.drop (k + 1)) = o) := by
          have := HAT.out
          simp only [Bool.not_false, Bool.true_and] at this
          exact this.symm
        go_wp2_with (first
          | (at_lookup; refine wpList_lookup_own_int _ rfl _ _ 72 rfl 3 3 .i64 Try.keyed3 Try.underlying72 Try.underlying3 (Try.zeroI _) (N + 1) k _ rfl HM.out _ _ rfl HKEY.out ?_; intro c hat hwc; obtain rfl : c = 0 := (by have := HDA.out c hat; rw [HHH.out] at this; simpa using this); clear hat hwc)
          | (at_mapUpdate; refine wpList_mapUpdate_own _ rfl _ _ _ 72 rfl 3 3 Try.keyed3 Try.underlying72 _ (N + 1) k _ rfl HM.out (by unfold maxLen; omega) _ _ _ rfl rfl HKEY.out (.lit (.int .i64 1)) [] (plainElem_int Try.underlying3 (by decide)) ?_; intro w5 hown5 hgrow5; have HM5 := Lib.hid hown5; have HBX5 := Lib.hid (hbx.grown hgrow5 hz); have hz5 : N + 2 ≤ w5.heap.size := (by have := hgrow5.size; omega); clear hown5)
          | (at_lookup; refine wpList_lookup_own_int _ rfl _ _ 72 rfl 3 3 .i64 Try.keyed3 Try.underlying72 Try.underlying3 (Try.zeroI _) (N + 1) (k + 1) _ rfl HM5.out _ _ rfl HKEY.out ?_; intro c hat hwc; obtain rfl : c = 1 := HDP.out 1 c hat; clear hat hwc))
        have HM6 : Hid (w5.ownsMap Try.prog 3 (plainElem (H := Unit) Try.prog 3) (N + 1) (k + 1) (dropD (dr.take (k + 1)))) := by
          show World.ownsMap _ _ _ _ _ _ _
          rw [HS.out]
          exact HM5.out
        go_roundg (dr.length - (k + 1))
        case measure => omega
        case rel => exact ⟨k + 1, by omega, rfl, by go_num, HM6, HBX5.out, hz5, HNX⟩
    · have hkk : ¬ (k : Int) < (dr.length : Int) := by omega
      obtain rfl : k = dr.length := by omega
      obtain rfl : o = true := by rw [← HO.out, onceK_end _ _ (Nat.le_refl _)]
      have hm4 := HM.out
      rw [List.take_length] at hm4
      have HM4 := Lib.hid hm4
      have hr0 := hbx.row HR0.out (by omega) (by omega)
      have HN1 := Lib.hid (hbx.row HR1.out (by omega) (by omega))
      have HN2 := Lib.hid (hbx.row HR2.out (by omega) (by omega))
      have HN7 := Lib.hid (hbx.row HR7.out (by omega) (by omega))
      have g0 : _ = some (Value.int .i64 log) := cell_of_row _ w.heap.size 0 _ _ _ hr0; have g1 : _ = some (Value.int .i64 next) := cell_of_row _ w.heap.size 1 _ _ _ hr0; have g2 : _ = some (Value.int .i64 seq) := cell_of_row _ w.heap.size 2 _ _ _ hr0; have g3 : _ = some (Value.slice va l.length vc) := cell_of_row _ w.heap.size 3 _ _ _ hr0
      have HN0 := Lib.hid hr0
      have HBW := Lib.hid hbw
      obtain ⟨w4, rfl⟩ : ∃ x, x = wr := ⟨_, rfl⟩
      clear hm4 HM hr0 HR0 HR1 HR2 HR7 HB3 hbx hbw HO
      go_wp2
      go_loopg [69] l.length (fun gn i wr => ∃ (k n c : Nat) (ad : Option Addr) (O : List Pl), k ≤ l.length ∧ gn = l.length - k ∧ i = .int .i64 k ∧ n ≤ k ∧ Hid (keptL dr (l.take k) = O) ∧ Hid (n = O.length) ∧ Hid (PlsO wr (N + 2) (.slice ad n c) O) ∧ Hid (wr.heap[N]? = some (Obj.cells #[.int .i64 elog, .int .i64 enext, .int .i64 eseq, .slice ad n c] 24)) ∧ Bx (N + 2) N w4 wr ∧ N + 2 ≤ wr.heap.size)
      case atStart => exact ⟨0, 0, 0, none, [], Nat.zero_le _, by omega, rfl, Nat.le_refl _, rfl, rfl, PlsO.nil _ _, HN7, Bx.refl _ _ _, hz⟩
      case round =>
        obtain ⟨k, n, c, ad, O, hk, rfl, rfl, hnk, HO, hnO, HP, HN, hbx, hz'⟩ := hrel
        clear HN7 g0 g1 g2 g3
        have hbw : Below w.heap.size w wr := HBW.out.trans (hbx.low (by omega) (by omega))
        by_cases hlt : k < l.length
        · have hkk : (k : Int) < (l.length : Int) := by omega
          obtain ⟨va', vc', ee, _, _, _, v4⟩ := (HV).out
          simp only [Value.slice.injEq] at ee
          obtain ⟨rfl, -, rfl⟩ := ee
          obtain ⟨vb, vo, rfl, v5⟩ := v4 (by omega)
          obtain ⟨px, py, q5, hpc⟩ := v5 k hlt
          obtain ⟨p0, p1, p2, p3, p4⟩ := q5.below hbw
          have hkp := keptL_succ dr l k hlt
          rw [HO.out] at hkp
          obtain ⟨p, hp⟩ : ∃ p, l[k] = p := ⟨_, rfl⟩
          rw [hp] at p0 p1 p2 hpc hkp
          have HKEY : Hid (keyOf Try.prog 3 (.int .i64 p.num) = some (.int .i64 p.num)) := Maps.keyOf_int_mk Try.underlying3 (WalkArith.wf_i64 ⟨hpc.hb.n0, hpc.hb.n1⟩)
          have HDA := Lib.hid (dropD_at dr p.num)
          have s1 := hpc.shape
          have HPC := Lib.hid hpc
          obtain ⟨hh, hhh⟩ : ∃ b, hasI dr p.num = b := ⟨_, rfl⟩
          rw [hhh] at hkp
          have HHH := Lib.hid hhh
          have HKP := Lib.hid hkp
          clear v4 v5 hp hpc hhh hkp HO q5
          obtain ⟨pn, pl, pc, pa, pb⟩ := p
          simp only at *
          obtain ⟨⟨a1, a2, rfl⟩, b1, b2, rfl⟩ := s1
          have HM5 := Lib.hid ((ownsMap_of_block HM4.out (hbx.block (N + 1) (by omega) (by omega))).alloc (Obj.cells #[.int .i64 pn, .int .i64 pl, .int .i64 pc, .slice a1 pa.length a2, .slice b1 pb.length b2] 41))
          have HBA := Lib.hid ((Below.refl wr.heap.size wr).alloc (Nat.le_refl _) (Obj.cells #[.int .i64 pn, .int .i64 pl, .int .i64 pc, .slice a1 pa.length a2, .slice b1 pb.length b2] 41))
          have HNP := Lib.hid (heap_alloc_new wr (Obj.cells #[.int .i64 pn, .int .i64 pl, .int .i64 pc, .slice a1 pa.length a2, .slice b1 pb.length b2] 41))
          have HZA : Hid (wr.heap.size + 1 ≤ (wr.alloc (Obj.cells #[.int .i64 pn, .int .i64 pl, .int .i64 pc, .slice a1 pa.length a2, .slice b1 pb.length b2] 41)).heap.size) := by show _ ≤ _; simp
          cases hh with
          | true =>
            have HK2 : Hid (keptL dr (l.take (k + 1)) = O) := by have := HKP.out; rw [if_pos rfl] at this; exact this
            go_wp2_with (at_lookup; refine wpList_lookup_own_int _ rfl _ _ 72 rfl 3 3 .i64 Try.keyed3 Try.underlying72 Try.underlying3 (Try.zeroI _) (N + 1) dr.length _ rfl HM5.out _ _ rfl HKEY.out ?_; intro c hat hwc; obtain rfl : c = 1 := (by have := HDA.out c hat; rw [HHH.out] at this; simpa using this); clear hat hwc)
            go_roundg (l.length - (k + 1))
            case measure => omega
            case rel => exact ⟨k + 1, n, c, ad, O, by omega, rfl, by go_num, by omega, HK2, hnO, HP.out.below HBA.out, block_alloc HN.out, hbx.below HBA.out hz', by have := HZA.out; omega⟩
          | false =>
            have HK2 : Hid (keptL dr (l.take (k + 1)) = O ++ [⟨pn, pl, pc, pa, pb⟩]) := by have := HKP.out; rw [if_neg (by simp)] at this; exact this
            go_wp2_with (at_lookup; refine wpList_lookup_own_int _ rfl _ _ 72 rfl 3 3 .i64 Try.keyed3 Try.underlying72 Try.underlying3 (Try.zeroI _) (N + 1) dr.length _ rfl HM5.out _ _ rfl HKEY.out ?_; intro c hat hwc; obtain rfl : c = 0 := (by have := HDA.out c hat; rw [HHH.out] at this; simpa using this); clear hat hwc)
            obtain ⟨kv, hkv, hrow, heach⟩ := HP.out
            have HNE : Hid (some wr.heap.size ≠ (Value.slice ad n c).ownBlock) := fun h => Nat.lt_irrefl _ (hrow.lt _ h.symm).2
            have hn2 := block_alloc (o' := (Obj.cells #[Value.int .i64 pn, .int .i64 pl, .int .i64 pc, .slice a1 pa.length a2, .slice b1 pb.length b2] 41)) HN.out
            have hpc2 := HPC.out.below (below_then hbw HBA.out hbw.size)
            have hnp := HNP.out
            have hx2 := hbx.below HBA.out hz'
            have hza := HZA.out
            have hrw := owns_below hrow HBA.out
            rw [← hnO.out] at hrw
            have hea := fun (i : Nat) (h : i < O.length) => (heach i h).below HBA.out
            clear HM5 HBA HNP HZA hrow heach
            generalize wr.alloc (Obj.cells #[Value.int .i64 pn, .int .i64 pl, .int .i64 pc, .slice a1 pa.length a2, .slice b1 pb.length b2] 41) = w2 at hn2 hpc2 hnp hx2 hza hrw hea ⊢
            have k0 : w2.drew.cell? ⟨N, 3, none⟩ = some (Value.slice ad n c) := cell_of_row w2.drew N 3 _ _ _ hn2
            have HPC3 := Lib.hid (hpc2.below (Below.refl w2.heap.size w2).drew)
            have HROW2 := Lib.hid (owns_below hrw (Below.refl w2.heap.size w2).drew)
            have HEACH := Lib.hid (fun (i : Nat) (h : i < O.length) => (hea i h).below (Below.refl w2.heap.size w2).drew)
            have HN2' : Hid (w2.drew.heap[N]? = some (Obj.cells #[.int .i64 elog, .int .i64 enext, .int .i64 eseq, .slice ad n c] 24)) := hn2
            have HP2' : Hid (w2.drew.heap[wr.heap.size]? = some (Obj.cells #[Value.int .i64 pn, .int .i64 pl, .int .i64 pc, .slice a1 pa.length a2, .slice b1 pb.length b2] 41)) := hnp
            have HX2 := Lib.hid (hx2.below (Below.refl w2.heap.size w2).drew (by omega))
            clear hpc2 hrw hea hn2 hnp hx2 p0 p1 p2 p3 p4
            obtain ⟨u0, u1, u2, u3, u4⟩ := pb_of_row HP2'.out
            go_region_law
              (first
              | (go_simp; go_at_call 34; refine copiedp_any _ _ ⟨pn, pl, pc, pa, pb⟩ _ HPC3.out _ ?_; intro x' y' w5 hpo hb5; obtain ⟨xa, xc, rfl⟩ := owns_shape hpo.hx; obtain ⟨ya, yc, rfl⟩ := owns_shape hpo.hy; have k5 := cell_later hb5 k0; have k6 := cell_later ((Below.refl w5.heap.size w5).alloc (Nat.le_refl _) (Obj.cells #[Value.int .i64 pn, .int .i64 pl, .int .i64 pc, .slice xa pa.length xc, .slice ya pb.length yc] 41)) k5; have HB5 := Lib.hid hb5; have HPO := Lib.hid hpo; have HROW5 := Lib.hid (owns_below HROW2.out hb5); have HP5 := Lib.hid (row_on HP2'.out hb5); have hz5 : w2.heap.size ≤ w5.heap.size := hb5.size; clear hb5 hpo)
              | (refine step_appAt (by rfl) (.tmp 79) (.tmp 82) 22 (by rfl) (N + 2) 41 (.agg #[.int .i64 0, .int .i64 0, .int .i64 0, .slice none 0 0, .slice none 0 0]) 5 72 Try.underlying22 infoPlace rfl (by decide) ad n c _ (by rfl) (HROW5.out.alloc (Obj.cells #[Value.int .i64 pn, .int .i64 pl, .int .i64 pc, .slice xa pa.length xc, .slice ya pb.length yc] 41)) (some ⟨w5.heap.size, 0, none⟩) 1 1 [Value.int .i64 pn, .int .i64 pl, .int .i64 pc, .slice xa pa.length xc, .slice ya pb.length yc] (by rfl) (rd_lit w5 #[Value.int .i64 pn, .int .i64 pl, .int .i64 pc, .slice xa pa.length xc, .slice ya pb.length yc] 41 5 1 rfl) (plc_oneCell _ _ _ _ _ _ _ _ _) (fun h => by cases h) (by unfold maxLen; omega) (by omega) (by simp; omega) ?_; intro ad6 c6 w6 hown6 hg6 _; have HB6 := Lib.hid (below_app (Below.refl (N + 2) (w5.alloc (Obj.cells #[Value.int .i64 pn, .int .i64 pl, .int .i64 pc, .slice xa pa.length xc, .slice ya pb.length yc] 41))) hg6 (by simp; omega) (HROW5.out.alloc (Obj.cells #[Value.int .i64 pn, .int .i64 pl, .int .i64 pc, .slice xa pa.length xc, .slice ya pb.length yc] 41))); have n6 : w6.heap[N]? = _ := (HB6.out.block N (by omega)).trans (block_alloc (row_on HN2'.out HB5.out)); have HP6 := Lib.hid ((hg6.block wr.heap.size (by simp; omega) HNE.out).trans (block_alloc HP5.out)); have f0 := frozen_block n6 3; have f1 := cell_of_row w6 N 3 _ _ _ n6; have N6 := Lib.hid n6; have HOWN6 := Lib.hid hown6; have HG6 := Lib.hid hg6; clear n6 hown6 hg6))
            all_goals
              have HR7 : Hid ((w6.setCell ⟨N, 3, none⟩ (Value.slice ad6 (n + 1) c6)).heap[N]? = some (Obj.cells #[.int .i64 elog, .int .i64 enext, .int .i64 eseq, .slice ad6 (n + 1) c6] 24)) := by
                show _ = _
                rw [heap_setCell_same w6 N 3 _ _ (Value.slice ad6 (n + 1) c6) N6.out]
                rfl
              have HX7 : Hid (Bx (N + 2) N w4 (w6.setCell ⟨N, 3, none⟩ (Value.slice ad6 (n + 1) c6))) := (((HX2.out.below HB5.out (by show N + 2 ≤ w2.heap.size; omega)).below ((Below.refl (N + 2) w5).alloc (by omega) (Obj.cells #[Value.int .i64 pn, .int .i64 pl, .int .i64 pc, .slice xa pa.length xc, .slice ya pb.length yc] 41)) (Nat.le_refl _)).below HB6.out (Nat.le_refl _)).set 3 _
              have HZ7 : Hid (N + 2 ≤ (w6.setCell ⟨N, 3, none⟩ (Value.slice ad6 (n + 1) c6)).heap.size) := by
                have := HG6.out.size
                show _ ≤ _
                simp [World.setCell] at this ⊢
                omega
              have hps6 : PlsO w6 (N + 2) (.slice ad6 (n + 1) c6) (O ++ [⟨pn, pl, pc, pa, pb⟩]) :=
                PlsO.push (w := w5.alloc (Obj.cells #[Value.int .i64 pn, .int .i64 pl, .int .i64 pc, .slice xa pa.length xc, .slice ya pb.length yc] 41)) (p := ⟨pn, pl, pc, pa, pb⟩) hkv (fun i h => ((HEACH.out i h).below HB5.out).below ((Below.refl _ _).alloc (Nat.le_refl _) (Obj.cells #[Value.int .i64 pn, .int .i64 pl, .int .i64 pc, .slice xa pa.length xc, .slice ya pb.length yc] 41))) (keeps_grownP (HROW5.out.alloc (Obj.cells #[Value.int .i64 pn, .int .i64 pl, .int .i64 pc, .slice xa pa.length xc, .slice ya pb.length yc] 41)) HG6.out (by decide)) (by rw [← hnO.out]; exact HOWN6.out) ((HPO.out.mono (by show N + 2 ≤ w2.heap.size; omega)).below ((Below.refl _ _).alloc (Nat.le_refl _) (Obj.cells #[Value.int .i64 pn, .int .i64 pl, .int .i64 pc, .slice xa pa.length xc, .slice ya pb.length yc] 41)))
              have HP7 := Lib.hid (hps6.low (a := ⟨N, 3, none⟩) (by show N < N + 2; omega) (Value.slice ad6 (n + 1) c6))
              have HN7' : Hid (n + 1 = (O ++ [(⟨pn, pl, pc, pa, pb⟩ : Pl)]).length) := by
                show _ = _
                rw [hnO.out]
                simp
              clear hps6
              go_wp2
              go_roundg (l.length - (k + 1))
              case measure => omega
              case rel => exact ⟨k + 1, n + 1, c6, ad6, O ++ [⟨pn, pl, pc, pa, pb⟩], by omega, rfl, by go_num, by omega, HK2, HN7', HP7, HR7, HX7.out, HZ7.out⟩
        · have hkk : ¬ (k : Int) < (l.length : Int) := by omega
          obtain rfl : k = l.length := by omega
          have hko := HO.out
          rw [List.take_length] at hko
          have HKO := Lib.hid hko
          have HM0 := Lib.hid (hbx.row HN0.out (by omega) (by omega))
          have HM1 := Lib.hid (hbx.row HN1.out (by omega) (by omega))
          have HM2 := Lib.hid (hbx.row HN2.out (by omega) (by omega))
          have HBW5 := Lib.hid hbw
          clear hko HO HN0 HN1 HN2 HBW hbw hbx HM4 hz
          obtain ⟨w4, rfl⟩ : ∃ x, x = wr := ⟨_, rfl⟩
          have hm0 := HM0.out
          have hm1 := HM1.out
          have h3 := cell_of_row w4 N 3 _ _ _ HN.out
          change _ = some (Value.slice ad n c) at h3
          have g0 : _ = some (Value.int .i64 log) := cell_of_row _ w.heap.size 0 _ _ _ hm0; have g1 : _ = some (Value.int .i64 next) := cell_of_row _ w.heap.size 1 _ _ _ hm0; have g2 : _ = some (Value.int .i64 seq) := cell_of_row _ w.heap.size 2 _ _ _ hm0; have g3 : _ = some (Value.slice va l.length vc) := cell_of_row _ w.heap.size 3 _ _ _ hm0
          have e0 : _ = some (Value.int .i64 elog) := cell_of_row _ (w.heap.size + 1) 0 _ _ _ hm1; have e1 : _ = some (Value.int .i64 enext) := cell_of_row _ (w.heap.size + 1) 1 _ _ _ hm1; have e2 : _ = some (Value.int .i64 eseq) := cell_of_row _ (w.heap.size + 1) 2 _ _ _ hm1; have e3 : _ = some (Value.slice aa add.length ac) := cell_of_row _ (w.heap.size + 1) 3 _ _ _ hm1; have e4 : _ = some (Value.slice da dr.length dc) := cell_of_row _ (w.heap.size + 1) 4 _ _ _ hm1
          clear hm0 hm1 HM0
          have hwrap : IntKind.i64.wrap ((l.length : Int) - (n : Int)) = (l.length : Int) - (n : Int) := by rw [IntKind.wrap_i64]; omega
          by_cases hlen : n + dr.length = l.length
          · have hd : ((l.length : Int) - (n : Int) != (dr.length : Int)) = false := by simp; omega
            have HLEN := Lib.hid hlen
            clear hlen
            go_wp2
            clear hd hwrap h3 g0 g1 g2 g3 e0 e1 e2 e3 e4
            have hnO0 := hnO
            obtain ⟨K0, rfl⟩ : ∃ x, x = O := ⟨_, rfl⟩
            obtain ⟨n0, rfl⟩ : ∃ x, x = n := ⟨_, rfl⟩
            obtain ⟨c0, rfl⟩ : ∃ x, x = c := ⟨_, rfl⟩
            obtain ⟨ad0, rfl⟩ : ∃ x, x = ad := ⟨_, rfl⟩
            go_loopg [101] add.length (fun gn i wr => ∃ (k n c : Nat) (ad : Option Addr) (O : List Pl), k ≤ add.length ∧ gn = add.length - k ∧ i = .int .i64 k ∧ n ≤ l.length + k ∧ Hid (K0 ++ add.take k = O) ∧ Hid (n = O.length) ∧ Hid (PlsO wr (N + 2) (.slice ad n c) O) ∧ Hid (wr.heap[N]? = some (Obj.cells #[.int .i64 elog, .int .i64 enext, .int .i64 eseq, .slice ad n c] 24)) ∧ Bx (N + 2) N w4 wr ∧ N + 2 ≤ wr.heap.size)
            case atStart => exact ⟨0, n0, c0, ad0, K0, Nat.zero_le _, by omega, rfl, by omega, Lib.hid (by simp), hnO, HP, HN, Bx.refl _ _ _, hz'⟩
            case round =>
              clear hz' HP HN hnO
              obtain ⟨k, n, c, ad, O, hk, rfl, rfl, hnk, HO, hnO, HP, HN, hbx, hz'⟩ := hrel
              have hbw : Below w.heap.size w wr := HBW5.out.trans (hbx.low (by omega) (by omega))
              by_cases hlt : k < add.length
              · have hkk : (k : Int) < (add.length : Int) := by omega
                obtain ⟨va', vc', ee, _, _, _, v4⟩ := (HA).out
                simp only [Value.slice.injEq] at ee
                obtain ⟨rfl, -, rfl⟩ := ee
                obtain ⟨vb, vo, rfl, v5⟩ := v4 (by omega)
                obtain ⟨px, py, q5, hpc⟩ := v5 k hlt
                obtain ⟨p0, p1, p2, p3, p4⟩ := q5.below hbw
                have hkp : K0 ++ add.take (k + 1) = O ++ [add[k]] := by rw [List.take_succ_eq_append_getElem hlt, ← List.append_assoc, HO.out]
                obtain ⟨p, hp⟩ : ∃ p, add[k] = p := ⟨_, rfl⟩
                rw [hp] at p0 p1 p2 hpc hkp
                have s1 := hpc.shape
                have HPC := Lib.hid hpc
                have HK2 := Lib.hid hkp
                clear v4 v5 hp hpc hkp HO q5
                obtain ⟨pn, pl, pc, pa, pb⟩ := p
                simp only at *
                obtain ⟨⟨a1, a2, rfl⟩, b1, b2, rfl⟩ := s1
                have HM5 := trivial
                have HBA := Lib.hid ((Below.refl wr.heap.size wr).alloc (Nat.le_refl _) (Obj.cells #[Value.int .i64 pn, .int .i64 pl, .int .i64 pc, .slice a1 pa.length a2, .slice b1 pb.length b2] 41))
                have HNP := Lib.hid (heap_alloc_new wr (Obj.cells #[Value.int .i64 pn, .int .i64 pl, .int .i64 pc, .slice a1 pa.length a2, .slice b1 pb.length b2] 41))
                have HZA : Hid (wr.heap.size + 1 ≤ (wr.alloc (Obj.cells #[Value.int .i64 pn, .int .i64 pl, .int .i64 pc, .slice a1 pa.length a2, .slice b1 pb.length b2] 41)).heap.size) := by show _ ≤ _; simp
                go_wp2_with fail
                obtain ⟨kv, hkv, hrow, heach⟩ := HP.out
                have HNE : Hid (some wr.heap.size ≠ (Value.slice ad n c).ownBlock) := fun h => Nat.lt_irrefl _ (hrow.lt _ h.symm).2
                have hn2 := block_alloc (o' := (Obj.cells #[Value.int .i64 pn, .int .i64 pl, .int .i64 pc, .slice a1 pa.length a2, .slice b1 pb.length b2] 41)) HN.out
                have hpc2 := HPC.out.below (below_then hbw HBA.out hbw.size)
                have hnp := HNP.out
                have hx2 := hbx.below HBA.out hz'
                have hza := HZA.out
                have hrw := owns_below hrow HBA.out
                rw [← hnO.out] at hrw
                have hea := fun (i : Nat) (h : i < O.length) => (heach i h).below HBA.out
                clear HM5 HBA HNP HZA hrow heach
                generalize wr.alloc (Obj.cells #[Value.int .i64 pn, .int .i64 pl, .int .i64 pc, .slice a1 pa.length a2, .slice b1 pb.length b2] 41) = w2 at hn2 hpc2 hnp hx2 hza hrw hea ⊢
                have k0 : w2.drew.cell? ⟨N, 3, none⟩ = some (Value.slice ad n c) := cell_of_row w2.drew N 3 _ _ _ hn2
                have HPC3 := Lib.hid (hpc2.below (Below.refl w2.heap.size w2).drew)
                have HROW2 := Lib.hid (owns_below hrw (Below.refl w2.heap.size w2).drew)
                have HEACH := Lib.hid (fun (i : Nat) (h : i < O.length) => (hea i h).below (Below.refl w2.heap.size w2).drew)
                have HN2' : Hid (w2.drew.heap[N]? = some (Obj.cells #[.int .i64 elog, .int .i64 enext, .int .i64 eseq, .slice ad n c] 24)) := hn2
                have HP2' : Hid (w2.drew.heap[wr.heap.size]? = some (Obj.cells #[Value.int .i64 pn, .int .i64 pl, .int .i64 pc, .slice a1 pa.length a2, .slice b1 pb.length b2] 41)) := hnp
                have HX2 := Lib.hid (hx2.below (Below.refl w2.heap.size w2).drew (by omega))
                clear hpc2 hrw hea hn2 hnp hx2 p0 p1 p2 p3 p4
                obtain ⟨u0, u1, u2, u3, u4⟩ := pb_of_row HP2'.out
                go_region_law
                  (first
                  | (go_simp; go_at_call 34; refine copiedp_any _ _ ⟨pn, pl, pc, pa, pb⟩ _ HPC3.out _ ?_; intro x' y' w5 hpo hb5; obtain ⟨xa, xc, rfl⟩ := owns_shape hpo.hx; obtain ⟨ya, yc, rfl⟩ := owns_shape hpo.hy; have k5 := cell_later hb5 k0; have k6 := cell_later ((Below.refl w5.heap.size w5).alloc (Nat.le_refl _) (Obj.cells #[Value.int .i64 pn, .int .i64 pl, .int .i64 pc, .slice xa pa.length xc, .slice ya pb.length yc] 41)) k5; have HB5 := Lib.hid hb5; have HPO := Lib.hid hpo; have HROW5 := Lib.hid (owns_below HROW2.out hb5); have HP5 := Lib.hid (row_on HP2'.out hb5); have hz5 : w2.heap.size ≤ w5.heap.size := hb5.size; clear hb5 hpo)
                  | (refine step_appAt (by rfl) (.tmp 106) (.tmp 109) 22 (by rfl) (N + 2) 41 (.agg #[.int .i64 0, .int .i64 0, .int .i64 0, .slice none 0 0, .slice none 0 0]) 5 72 Try.underlying22 infoPlace rfl (by decide) ad n c _ (by rfl) (HROW5.out.alloc (Obj.cells #[Value.int .i64 pn, .int .i64 pl, .int .i64 pc, .slice xa pa.length xc, .slice ya pb.length yc] 41)) (some ⟨w5.heap.size, 0, none⟩) 1 1 [Value.int .i64 pn, .int .i64 pl, .int .i64 pc, .slice xa pa.length xc, .slice ya pb.length yc] (by rfl) (rd_lit w5 #[Value.int .i64 pn, .int .i64 pl, .int .i64 pc, .slice xa pa.length xc, .slice ya pb.length yc] 41 5 1 rfl) (plc_oneCell _ _ _ _ _ _ _ _ _) (fun h => by cases h) (by unfold maxLen; omega) (by omega) (by simp; omega) ?_; intro ad6 c6 w6 hown6 hg6 _; have HB6 := Lib.hid (below_app (Below.refl (N + 2) (w5.alloc (Obj.cells #[Value.int .i64 pn, .int .i64 pl, .int .i64 pc, .slice xa pa.length xc, .slice ya pb.length yc] 41))) hg6 (by simp; omega) (HROW5.out.alloc (Obj.cells #[Value.int .i64 pn, .int .i64 pl, .int .i64 pc, .slice xa pa.length xc, .slice ya pb.length yc] 41))); have n6 : w6.heap[N]? = _ := (HB6.out.block N (by omega)).trans (block_alloc (row_on HN2'.out HB5.out)); have HP6 := Lib.hid ((hg6.block wr.heap.size (by simp; omega) HNE.out).trans (block_alloc HP5.out)); have f0 := frozen_block n6 3; have f1 := cell_of_row w6 N 3 _ _ _ n6; have N6 := Lib.hid n6; have HOWN6 := Lib.hid hown6; have HG6 := Lib.hid hg6; clear n6 hown6 hg6))
                all_goals
                  have HR7 : Hid ((w6.setCell ⟨N, 3, none⟩ (Value.slice ad6 (n + 1) c6)).heap[N]? = some (Obj.cells #[.int .i64 elog, .int .i64 enext, .int .i64 eseq, .slice ad6 (n + 1) c6] 24)) := by
                    show _ = _
                    rw [heap_setCell_same w6 N 3 _ _ (Value.slice ad6 (n + 1) c6) N6.out]
                    rfl
                  have HX7 : Hid (Bx (N + 2) N w4 (w6.setCell ⟨N, 3, none⟩ (Value.slice ad6 (n + 1) c6))) := (((HX2.out.below HB5.out (by show N + 2 ≤ w2.heap.size; omega)).below ((Below.refl (N + 2) w5).alloc (by omega) (Obj.cells #[Value.int .i64 pn, .int .i64 pl, .int .i64 pc, .slice xa pa.length xc, .slice ya pb.length yc] 41)) (Nat.le_refl _)).below HB6.out (Nat.le_refl _)).set 3 _
                  have HZ7 : Hid (N + 2 ≤ (w6.setCell ⟨N, 3, none⟩ (Value.slice ad6 (n + 1) c6)).heap.size) := by
                    have := HG6.out.size
                    show _ ≤ _
                    simp [World.setCell] at this ⊢
                    omega
                  have hps6 : PlsO w6 (N + 2) (.slice ad6 (n + 1) c6) (O ++ [⟨pn, pl, pc, pa, pb⟩]) :=
                    PlsO.push (w := w5.alloc (Obj.cells #[Value.int .i64 pn, .int .i64 pl, .int .i64 pc, .slice xa pa.length xc, .slice ya pb.length yc] 41)) (p := ⟨pn, pl, pc, pa, pb⟩) hkv (fun i h => ((HEACH.out i h).below HB5.out).below ((Below.refl _ _).alloc (Nat.le_refl _) (Obj.cells #[Value.int .i64 pn, .int .i64 pl, .int .i64 pc, .slice xa pa.length xc, .slice ya pb.length yc] 41))) (keeps_grownP (HROW5.out.alloc (Obj.cells #[Value.int .i64 pn, .int .i64 pl, .int .i64 pc, .slice xa pa.length xc, .slice ya pb.length yc] 41)) HG6.out (by decide)) (by rw [← hnO.out]; exact HOWN6.out) ((HPO.out.mono (by show N + 2 ≤ w2.heap.size; omega)).below ((Below.refl _ _).alloc (Nat.le_refl _) (Obj.cells #[Value.int .i64 pn, .int .i64 pl, .int .i64 pc, .slice xa pa.length xc, .slice ya pb.length yc] 41)))
                  have HP7 := Lib.hid (hps6.low (a := ⟨N, 3, none⟩) (by show N < N + 2; omega) (Value.slice ad6 (n + 1) c6))
                  have HN7' : Hid (n + 1 = (O ++ [(⟨pn, pl, pc, pa, pb⟩ : Pl)]).length) := by
                    show _ = _
                    rw [hnO.out]
                    simp
                  clear hps6
                  go_wp2
                  go_roundg (add.length - (k + 1))
                  case measure => omega
                  case rel => exact ⟨k + 1, n + 1, c6, ad6, O ++ [⟨pn, pl, pc, pa, pb⟩], by omega, rfl, by go_num, by omega, HK2, HN7', HP7, HR7, HX7.out, HZ7.out⟩
              · have hkk : ¬ (k : Int) < (add.length : Int) := by omega
                have hq := HO.out
                rw [List.take_of_length_le (by omega)] at hq
                have HQ := Lib.hid hq
                have h3 := cell_of_row wr N 3 _ _ _ HN.out
                change _ = some (Value.slice ad n c) at h3
                have hM2 := Lib.hid (hbx.row HM2.out (by omega) (by omega))
                clear hq HO HM1 HM2
                have hOl : O.length ≤ 1000000 := by rw [← hnO.out]; omega
                obtain ⟨b, hb⟩ : ∃ b, checkV (madeE ⟨log, next, seq, l⟩ ⟨elog, enext, eseq, add, dr⟩) = b := ⟨_, rfl⟩
                have HCM := Lib.hid hb
                clear hb
                cases b with
                | false =>
                  obtain ⟨rfl, rfl⟩ : X = vn0 ∧ z = 81 := by
                    have := HX.out
                    rw [applyL_not HCV.out HCM.out] at this
                    cases this
                    exact ⟨rfl, rfl⟩
                  go_wp2_with (first
                    | (go_at_call 35; go_must (refine sortp_any _ (N + 2) O _ HP.out hOl _ ?_); intro S w7 hpm hsr hps hg7; have hb7 := HP.out.belowOwn hg7 hz'; have hn7 := (hb7.block N (by omega)).trans HN.out; have m0 := cell_of_row w7 N 0 _ _ _ hn7; have m1 := cell_of_row w7 N 1 _ _ _ hn7; have m2 := cell_of_row w7 N 2 _ _ _ hn7; have m3 := cell_of_row w7 N 3 _ _ _ hn7; have HPS := Lib.hid hps; have HB7 := Lib.hid (hbx.below hb7 (Nat.le_refl _)); have HSR := Lib.hid (applyL_sorted (v := ⟨log, next, seq, l⟩) (e := ⟨elog, enext, eseq, add, dr⟩) HCV.out (S := S) (by show S.Perm (keptL dr l ++ add); rw [HKO.out, HQ.out]; exact hpm) hsr); have HSL := Lib.hid (show S.length ≤ 1000000 by rw [hpm.length_eq]; exact hOl); have HM8 := Lib.hid ((hb7.block (w.heap.size + 2) (by omega)).trans hM2.out); have hz7 := Nat.le_trans hz' hg7.size; have HN8 := Lib.hid hn7; clear hpm hsr hps hg7 hb7 hn7)
                    | (go_at_call 13; go_must (refine echeck_any elog enext eseq _ S false (HSR.out.1.trans HCM.out) HSL.out _ HPS.out.pls _ ?_); intro w8 hb8; unfold errI; have HZ8 := Lib.hid (row_on HM8.out hb8); have hn8 := row_on HN8.out hb8; have n0' := cell_of_row w8 N 0 _ _ _ hn8; have n1' := cell_of_row w8 N 1 _ _ _ hn8; have n2' := cell_of_row w8 N 2 _ _ _ hn8; have n3' := cell_of_row w8 N 3 _ _ _ hn8; have HPS8 := Lib.hid (HPS.out.below hb8); have HB8 := Lib.hid (HBW5.out.trans ((HB7.out.below hb8 hz7).low (C := w.heap.size) (by omega) (by omega))); clear hn8 hb8)
                    | (refine wpList_store_row (o := ⟨none, .store 24 (.tmp 4) (.tmp 119), _, _, _, _⟩) (by rfl) 24 (.tmp 4) (.tmp 119) (by rfl) (w.heap.size + 2) _ (by rfl) (by rfl) 24 _ (HZ8).out (by kernel_rfl) (by rfl) (by simp [Value.oneCell']) ?_))
                  refine bodyPost_ret (res_one rfl _ _ (w.heap.size + 2) 24 #[Value.int .i64 0, .int .i64 0, .int .i64 0, .slice none 0 0] (0, 0) _ (.int .i64 81) rfl rfl (setRow_heap _ (w.heap.size + 2) _ _ _ _ (HZ8).out) Try.underlying24 rfl (by kernel_rfl)) rfl ?_
                  exact HR.out _ _ (PlsO.nil _ _) (below_setRow (HB8).out (by omega) _)
                | true =>
                  obtain ⟨rfl, rfl⟩ : X = madeE ⟨log, next, seq, l⟩ ⟨elog, enext, eseq, add, dr⟩ ∧ z = 0 := by
                    have := HX.out
                    have h1 : onceK [] dr = true := HO0.out
                    rw [applyL_ok HCV.out (okE_all (e := ⟨elog, enext, eseq, add, dr⟩) (by show ¬ elog < log; omega) (by show ¬ enext < next; omega) (by show ¬ eseq < seq; omega) h1 (by show (keptL dr l).length + dr.length = l.length; rw [HKO.out, ← hnO0.out]; exact HLEN.out)) HCM.out] at this
                    cases this
                    exact ⟨rfl, rfl⟩
                  go_wp2_with (first
                    | (go_at_call 35; go_must (refine sortp_any _ (N + 2) O _ HP.out hOl _ ?_); intro S w7 hpm hsr hps hg7; have hb7 := HP.out.belowOwn hg7 hz'; have hn7 := (hb7.block N (by omega)).trans HN.out; have m0 := cell_of_row w7 N 0 _ _ _ hn7; have m1 := cell_of_row w7 N 1 _ _ _ hn7; have m2 := cell_of_row w7 N 2 _ _ _ hn7; have m3 := cell_of_row w7 N 3 _ _ _ hn7; have HPS := Lib.hid hps; have HB7 := Lib.hid (hbx.below hb7 (Nat.le_refl _)); have HSR := Lib.hid (applyL_sorted (v := ⟨log, next, seq, l⟩) (e := ⟨elog, enext, eseq, add, dr⟩) HCV.out (S := S) (by show S.Perm (keptL dr l ++ add); rw [HKO.out, HQ.out]; exact hpm) hsr); have HSL := Lib.hid (show S.length ≤ 1000000 by rw [hpm.length_eq]; exact hOl); have HM8 := Lib.hid ((hb7.block (w.heap.size + 2) (by omega)).trans hM2.out); have hz7 := Nat.le_trans hz' hg7.size; have HN8 := Lib.hid hn7; clear hpm hsr hps hg7 hb7 hn7)
                    | (go_at_call 13; go_must (refine echeck_any elog enext eseq _ S true (HSR.out.1.trans HCM.out) HSL.out _ HPS.out.pls _ ?_); intro w8 hb8; unfold errI; have HZ8 := Lib.hid (row_on HM8.out hb8); have hn8 := row_on HN8.out hb8; have n0' := cell_of_row w8 N 0 _ _ _ hn8; have n1' := cell_of_row w8 N 1 _ _ _ hn8; have n2' := cell_of_row w8 N 2 _ _ _ hn8; have n3' := cell_of_row w8 N 3 _ _ _ hn8; have HPS8 := Lib.hid (HPS.out.below hb8); have HB8 := Lib.hid (HBW5.out.trans ((HB7.out.below hb8 hz7).low (C := w.heap.size) (by omega) (by omega))); clear hn8 hb8)
                    | (refine wpList_store_row (o := ⟨none, .store 24 (.tmp 4) (.tmp 120), _, _, _, _⟩) (by rfl) 24 (.tmp 4) (.tmp 120) (by rfl) (w.heap.size + 2) _ (by rfl) (by rfl) 24 _ (HZ8).out (by kernel_rfl) (by rfl) (by simp [Value.oneCell']) ?_))
                  have hps9 : PlsO (w8.setRow (w.heap.size + 2) #[Value.int .i64 elog, .int .i64 enext, .int .i64 eseq, .slice ad n c]) (N + 2) (.slice ad n c) S := HPS8.out.setRow_low (by omega)
                  have hts : S = sortT (keptL dr l) add := HSR.out.2 HCM.out
                  rw [hts] at hps9
                  refine bodyPost_ret (res_one rfl _ _ (w.heap.size + 2) 24 #[Value.int .i64 elog, .int .i64 enext, .int .i64 eseq, .slice ad n c] (0, 0) _ (.int .i64 0) rfl rfl (setRow_heap _ (w.heap.size + 2) _ _ _ _ (HZ8).out) Try.underlying24 rfl (by kernel_rfl)) rfl ?_
                  exact HR.out _ _ (hps9.mono (by omega)) (below_setRow HB8.out (by omega) _)
          · have hd : ((l.length : Int) - (n : Int) != (dr.length : Int)) = true := by simp; omega
            have hd2 : ¬ (l.length : Int) - (n : Int) = (dr.length : Int) := by omega
            obtain ⟨rfl, rfl⟩ : X = vn0 ∧ z = 81 := by
              have := HX.out
              rw [applyL_no HCV.out (okE_len (e := ⟨elog, enext, eseq, add, dr⟩) (by show (keptL dr l).length + dr.length ≠ l.length; rw [HKO.out, ← hnO.out]; exact hlen))] at this
              cases this
              exact ⟨rfl, rfl⟩
            clear hlen
            go_wp2_with (first | (refine wpList_store_row (o := ⟨none, .store 24 (.tmp 4) (.tmp 97), _, _, _, _⟩) (by rfl) 24 (.tmp 4) (.tmp 97) (by rfl) (w.heap.size + 2) _ (by rfl) (by rfl) 24 _ (HM2).out (by kernel_rfl) (by rfl) (by simp [Value.oneCell']) ?_))
            refine bodyPost_ret (res_one rfl _ _ (w.heap.size + 2) 24 #[Value.int .i64 0, .int .i64 0, .int .i64 0, .slice none 0 0] (0, 0) _ (.int .i64 81) rfl rfl (setRow_heap _ (w.heap.size + 2) _ _ _ _ (HM2).out) Try.underlying24 rfl (by kernel_rfl)) rfl ?_
            exact HR.out _ _ (PlsO.nil _ _) (below_setRow (HBW5).out (by omega) _)

theorem eapply_any (log next seq elog enext eseq : Int) (v av dv : Value) (l add : List Pl) (dr : List Int) (X : Vn) (z : Int) (hX : applyL ⟨log, next, seq, l⟩ ⟨elog, enext, eseq, add, dr⟩ = (X, z))
    (hl : l.length ≤ 100000) (hal : add.length ≤ 100000) (hdl : dr.length ≤ 100000) (hwf : ∀ n ∈ dr, (Lit.int .i64 n).wf = true) (w : World) (hv : Pls w v l) (hav : Pls w av add) (hdv : Is w dv dr) (R : Ending → World → Prop)
    (hR : ∀ xv w', PlsO w' w.heap.size xv X.tabs → Below w.heap.size w w' → R (.returned (.tuple #[.agg #[.int .i64 X.log, .int .i64 X.next, .int .i64 X.seq, xv], .int .i64 z])) w') :
    Calls Try.prog 10 #[.agg #[.int .i64 log, .int .i64 next, .int .i64 seq, v], .agg #[.int .i64 elog, .int .i64 enext, .int .i64 eseq, av, dv]] w R := by
  cases hok : checkV ⟨log, next, seq, l⟩ with
  | false => exact eapply_bad log next seq elog enext eseq v av dv l add dr X z hX hl hal hdl hwf hok w hv hav hdv R hR
  | true =>
    by_cases q1 : elog < log
    · exact eapply_fall log next seq elog enext eseq v av dv l add dr X z hX hl hal hdl hwf hok (.inl q1) w hv hav hdv R hR
    · by_cases q2 : enext < next
      · exact eapply_fall log next seq elog enext eseq v av dv l add dr X z hX hl hal hdl hwf hok (.inr (.inl q2)) w hv hav hdv R hR
      · by_cases q3 : eseq < seq
        · exact eapply_fall log next seq elog enext eseq v av dv l add dr X z hX hl hal hdl hwf hok (.inr (.inr q3)) w hv hav hdv R hR
        · exact eapply_main log next seq elog enext eseq v av dv l add dr X z hX hl hal hdl hwf hok q1 q2 q3 w hv hav hdv R hR
end Go.Proofs.Ytpodgocmcnkfdaa
