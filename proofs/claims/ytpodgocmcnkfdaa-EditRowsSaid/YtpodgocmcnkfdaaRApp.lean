/- The document's Apply, walked: what an edit makes of a version is applyL's. -/
import Derived.Test.YtpodgocmcnkfdaaRApB
namespace Go.Proofs.Ytpodgocmcnkfdaa
open Go.RowKit

set_option maxRecDepth 1000000 in
set_option maxHeartbeats 12800000 in
theorem rapply_bad (log next seq elog enext eseq : Int) (v av dv : Value) (l add : List Pl) (dr : List Int) (X : Vn) (z : Int) (hX : applyL ⟨log, next, seq, l⟩ ⟨elog, enext, eseq, add, dr⟩ = (X, z))
    (hl : l.length ≤ 100000) (_hal : add.length ≤ 100000) (_hdl : dr.length ≤ 100000) (hok : checkV ⟨log, next, seq, l⟩ = false) (w0 w : World) (hbz : Below w0.heap.size w0 w) (hv : PlsK w0 w v l) (hav : PlsK w0 w av add) (hdv : Is w dv dr) (R : Ending → World → Prop)
    (hR : ∀ xv w', PlsR w0 w' w.heap.size xv X.tabs → Below w.heap.size w w' → R (.returned (.tuple #[.agg #[.int .i64 X.log, .int .i64 X.next, .int .i64 X.seq, xv], .int .i64 z])) w') :
    Calls Try.prog 11 #[.agg #[.int .i64 log, .int .i64 next, .int .i64 seq, v], .agg #[.int .i64 elog, .int .i64 enext, .int .i64 eseq, av, dv]] w R := by
  have hwf : True := trivial
  have HR := Lib.hid hR
  have HX := Lib.hid hX
  have HV := Lib.hid hv
  have HBZ := Lib.hid hbz
  have hvp := hv.pls hbz
  have HA := Lib.hid hav
  have HD := Lib.hid hdv
  have HWF := Lib.hid hwf
  obtain ⟨va, vc, rfl, v1, v2, v3, _⟩ := hv
  obtain ⟨aa, ac, rfl, a1, a2, a3, _⟩ := hav
  obtain ⟨da, dc, rfl, _, d1, d2, d3⟩ := hdv
  have hb0 : Below w.heap.size w (((w.alloc (vnO log next seq (.slice va l.length vc))).alloc (edO elog enext eseq (.slice aa add.length ac) (.slice da dr.length dc))).alloc zvO) := (((Below.refl w.heap.size w).alloc (Nat.le_refl _) _).alloc (by simp) _).alloc (by simp; omega) _
  have n0 : (((w.alloc (vnO log next seq (.slice va l.length vc))).alloc (edO elog enext eseq (.slice aa add.length ac) (.slice da dr.length dc))).alloc zvO).heap[w.heap.size]? = some (vnO log next seq (.slice va l.length vc)) := block_alloc (block_alloc (heap_alloc_new w _))
  have n1 : (((w.alloc (vnO log next seq (.slice va l.length vc))).alloc (edO elog enext eseq (.slice aa add.length ac) (.slice da dr.length dc))).alloc zvO).heap[w.heap.size + 1]? = some (edO elog enext eseq (.slice aa add.length ac) (.slice da dr.length dc)) := by
    have h := heap_alloc_new (w.alloc (vnO log next seq (.slice va l.length vc))) (edO elog enext eseq (.slice aa add.length ac) (.slice da dr.length dc))
    rw [show (w.alloc (vnO log next seq (.slice va l.length vc))).heap.size = w.heap.size + 1 by simp] at h
    exact block_alloc h
  have n2 : (((w.alloc (vnO log next seq (.slice va l.length vc))).alloc (edO elog enext eseq (.slice aa add.length ac) (.slice da dr.length dc))).alloc zvO).heap[w.heap.size + 2]? = some zvO := by
    have h := heap_alloc_new ((w.alloc (vnO log next seq (.slice va l.length vc))).alloc (edO elog enext eseq (.slice aa add.length ac) (.slice da dr.length dc))) zvO
    rw [show ((w.alloc (vnO log next seq (.slice va l.length vc))).alloc (edO elog enext eseq (.slice aa add.length ac) (.slice da dr.length dc))).heap.size = w.heap.size + 2 by simp] at h
    exact h
  have hz0 : w.heap.size + 3 ≤ (((w.alloc (vnO log next seq (.slice va l.length vc))).alloc (edO elog enext eseq (.slice aa add.length ac) (.slice da dr.length dc))).alloc zvO).heap.size := by simp
  unfold vnO edO zvO at hb0 n0 n1 n2 hz0
  have N0 := Lib.hid n0
  have N1 := Lib.hid n1
  have N2 := Lib.hid n2
  have hv0 := Lib.hid (hvp.below hb0)
  have HB0 := Lib.hid hb0
  clear n0 n1 n2 hR hX hwf hb0 hvp hbz
  have HOK : Hid (checkL apartL log next seq l = false) := hok
  clear hok
  have hx : (X, z) = (vn0, 80) := by rw [← HX.out]; exact applyL_bad HOK.out
  obtain ⟨rfl, rfl⟩ : X = vn0 ∧ z = 80 := by cases hx; exact ⟨rfl, rfl⟩
  clear hx HX
  go_enter Try.func11, Try.ntmps11
  go_wp2_with (first
    | (go_at_call 14; go_must (refine rcheck_any log next seq _ l false HOK.out (by omega) _ hv0.out _ ?_); intro w1 hb1; unfold errI; have HB1 := Lib.hid (HB0.out.trans (hb1.mono (by omega))); have hz1 := Nat.le_trans hz0 hb1.size; have hm0 := row_on N0.out hb1; have hm1 := row_on N1.out hb1; have hm2 := row_on N2.out hb1; have g0 : _ = some (Value.int .i64 log) := cell_of_row _ w.heap.size 0 _ _ _ hm0; have g1 : _ = some (Value.int .i64 next) := cell_of_row _ w.heap.size 1 _ _ _ hm0; have g2 : _ = some (Value.int .i64 seq) := cell_of_row _ w.heap.size 2 _ _ _ hm0; have g3 : _ = some (Value.slice va l.length vc) := cell_of_row _ w.heap.size 3 _ _ _ hm0; have e0 : _ = some (Value.int .i64 elog) := cell_of_row _ (w.heap.size + 1) 0 _ _ _ hm1; have e1 : _ = some (Value.int .i64 enext) := cell_of_row _ (w.heap.size + 1) 1 _ _ _ hm1; have e2 : _ = some (Value.int .i64 eseq) := cell_of_row _ (w.heap.size + 1) 2 _ _ _ hm1; have e3 : _ = some (Value.slice aa add.length ac) := cell_of_row _ (w.heap.size + 1) 3 _ _ _ hm1; have e4 : _ = some (Value.slice da dr.length dc) := cell_of_row _ (w.heap.size + 1) 4 _ _ _ hm1; have M0 := Lib.hid hm0; have M1 := Lib.hid hm1; have M2 := Lib.hid hm2; clear hm0 hm1 hm2 hb1)
    | (refine wpList_store_row (o := ⟨none, .store 24 (.tmp 4) (.tmp 16), _, _, _, _⟩) (by rfl) 24 (.tmp 4) (.tmp 16) (by rfl) (w.heap.size + 2) _ (by rfl) (by rfl) 24 _ (M2).out (by kernel_rfl) (by rfl) (by simp [Value.oneCell']) ?_))
  refine bodyPost_ret (res_one rfl _ _ (w.heap.size + 2) 24 #[Value.int .i64 0, .int .i64 0, .int .i64 0, .slice none 0 0] (0, 0) _ (.int .i64 80) rfl rfl (setRow_heap _ (w.heap.size + 2) _ _ _ _ (M2).out) Try.underlying24 rfl (by kernel_rfl)) rfl ?_
  exact HR.out _ _ (PlsR.nil _ _ _) (below_setRow (HB1).out (by omega) _)

set_option maxRecDepth 1000000 in
set_option maxHeartbeats 12800000 in
theorem rapply_main (log next seq elog enext eseq : Int) (v av dv : Value) (l add : List Pl) (dr : List Int) (X : Vn) (z : Int) (hX : applyL ⟨log, next, seq, l⟩ ⟨elog, enext, eseq, add, dr⟩ = (X, z))
    (hl : l.length ≤ 100000) (hal : add.length ≤ 100000) (hdl : dr.length ≤ 100000) (hok : checkV ⟨log, next, seq, l⟩ = true) (w0 w : World) (hbz : Below w0.heap.size w0 w) (hv : PlsK w0 w v l) (hav : PlsK w0 w av add) (hdv : Is w dv dr) (R : Ending → World → Prop)
    (hR : ∀ xv w', PlsR w0 w' w.heap.size xv X.tabs → Below w.heap.size w w' → R (.returned (.tuple #[.agg #[.int .i64 X.log, .int .i64 X.next, .int .i64 X.seq, xv], .int .i64 z])) w') :
    Calls Try.prog 11 #[.agg #[.int .i64 log, .int .i64 next, .int .i64 seq, v], .agg #[.int .i64 elog, .int .i64 enext, .int .i64 eseq, av, dv]] w R := by
  have hwf : True := trivial
  have HR := Lib.hid hR
  have HX := Lib.hid hX
  have HV := Lib.hid hv
  have HBZ := Lib.hid hbz
  have hvp := hv.pls hbz
  have HA := Lib.hid hav
  have HD := Lib.hid hdv
  have HWF := Lib.hid hwf
  obtain ⟨va, vc, rfl, v1, v2, v3, _⟩ := hv
  obtain ⟨aa, ac, rfl, a1, a2, a3, _⟩ := hav
  obtain ⟨da, dc, rfl, _, d1, d2, d3⟩ := hdv
  have hb0 : Below w.heap.size w (((w.alloc (vnO log next seq (.slice va l.length vc))).alloc (edO elog enext eseq (.slice aa add.length ac) (.slice da dr.length dc))).alloc zvO) := (((Below.refl w.heap.size w).alloc (Nat.le_refl _) _).alloc (by simp) _).alloc (by simp; omega) _
  have n0 : (((w.alloc (vnO log next seq (.slice va l.length vc))).alloc (edO elog enext eseq (.slice aa add.length ac) (.slice da dr.length dc))).alloc zvO).heap[w.heap.size]? = some (vnO log next seq (.slice va l.length vc)) := block_alloc (block_alloc (heap_alloc_new w _))
  have n1 : (((w.alloc (vnO log next seq (.slice va l.length vc))).alloc (edO elog enext eseq (.slice aa add.length ac) (.slice da dr.length dc))).alloc zvO).heap[w.heap.size + 1]? = some (edO elog enext eseq (.slice aa add.length ac) (.slice da dr.length dc)) := by
    have h := heap_alloc_new (w.alloc (vnO log next seq (.slice va l.length vc))) (edO elog enext eseq (.slice aa add.length ac) (.slice da dr.length dc))
    rw [show (w.alloc (vnO log next seq (.slice va l.length vc))).heap.size = w.heap.size + 1 by simp] at h
    exact block_alloc h
  have n2 : (((w.alloc (vnO log next seq (.slice va l.length vc))).alloc (edO elog enext eseq (.slice aa add.length ac) (.slice da dr.length dc))).alloc zvO).heap[w.heap.size + 2]? = some zvO := by
    have h := heap_alloc_new ((w.alloc (vnO log next seq (.slice va l.length vc))).alloc (edO elog enext eseq (.slice aa add.length ac) (.slice da dr.length dc))) zvO
    rw [show ((w.alloc (vnO log next seq (.slice va l.length vc))).alloc (edO elog enext eseq (.slice aa add.length ac) (.slice da dr.length dc))).heap.size = w.heap.size + 2 by simp] at h
    exact h
  have hz0 : w.heap.size + 3 ≤ (((w.alloc (vnO log next seq (.slice va l.length vc))).alloc (edO elog enext eseq (.slice aa add.length ac) (.slice da dr.length dc))).alloc zvO).heap.size := by simp
  unfold vnO edO zvO at hb0 n0 n1 n2 hz0
  have N0 := Lib.hid n0
  have N1 := Lib.hid n1
  have N2 := Lib.hid n2
  have hv0 := Lib.hid (hvp.below hb0)
  have HB0 := Lib.hid hb0
  clear n0 n1 n2 hR hX hwf hb0 hvp hbz
  have HOK : Hid (checkL apartL log next seq l = true) := hok
  have HCV := Lib.hid hok
  clear hok
  go_enter Try.func11, Try.ntmps11
  go_wp2_with (first
    | (go_at_call 14; go_must (refine rcheck_any log next seq _ l true HOK.out (by omega) _ hv0.out _ ?_); intro w1 hb1; unfold errI; have HB1 := Lib.hid (HB0.out.trans (hb1.mono (by omega))); have hz1 := Nat.le_trans hz0 hb1.size; have hm0 := row_on N0.out hb1; have hm1 := row_on N1.out hb1; have hm2 := row_on N2.out hb1; have g0 : _ = some (Value.int .i64 log) := cell_of_row _ w.heap.size 0 _ _ _ hm0; have g1 : _ = some (Value.int .i64 next) := cell_of_row _ w.heap.size 1 _ _ _ hm0; have g2 : _ = some (Value.int .i64 seq) := cell_of_row _ w.heap.size 2 _ _ _ hm0; have g3 : _ = some (Value.slice va l.length vc) := cell_of_row _ w.heap.size 3 _ _ _ hm0; have e0 : _ = some (Value.int .i64 elog) := cell_of_row _ (w.heap.size + 1) 0 _ _ _ hm1; have e1 : _ = some (Value.int .i64 enext) := cell_of_row _ (w.heap.size + 1) 1 _ _ _ hm1; have e2 : _ = some (Value.int .i64 eseq) := cell_of_row _ (w.heap.size + 1) 2 _ _ _ hm1; have e3 : _ = some (Value.slice aa add.length ac) := cell_of_row _ (w.heap.size + 1) 3 _ _ _ hm1; have e4 : _ = some (Value.slice da dr.length dc) := cell_of_row _ (w.heap.size + 1) 4 _ _ _ hm1; have M0 := Lib.hid hm0; have M1 := Lib.hid hm1; have M2 := Lib.hid hm2; clear hm0 hm1 hm2 hb1))
  clear hv0 HB0 N0 N1 N2 hz0 a1 a2 a3 g0 g1 g2 g3 e0 e1 e2 e3 e4
  have hbq : Below (w.heap.size + 3) w1 w1 := Below.refl _ _
  go_loopg [6, 7] l.length (fun gn s6 i wr => ∃ (k n c : Nat) (ad : Option Addr) (O : List Pl), k ≤ l.length ∧ gn = l.length - k ∧ i = .int .i64 k ∧ s6 = .slice ad n c ∧ n ≤ k ∧ Hid (keptL dr (l.take k) = O) ∧ Hid (n = O.length) ∧ Hid (PlsR w0 wr (w.heap.size + 3) (.slice ad n c) O) ∧ Below (w.heap.size + 3) w1 wr ∧ w.heap.size + 3 ≤ wr.heap.size)
  case atStart => exact ⟨0, 0, 0, none, [], Nat.zero_le _, by omega, rfl, rfl, Nat.le_refl _, rfl, rfl, PlsR.nil _ _ _, hbq, hz1⟩
  case round =>
    obtain ⟨k, n, c, ad, O, hk, rfl, rfl, rfl, hnk, HO, hnO, HP, hb, hz⟩ := hrel
    clear hbq
    obtain ⟨wo, rfl⟩ : ∃ x, x = wr := ⟨_, rfl⟩
    have hbw : Below w.heap.size w wo := HB1.out.trans (hb.mono (by omega))
    have hm0 := (hb.block w.heap.size (by omega)).trans M0.out
    have hm1 := (hb.block (w.heap.size + 1) (by omega)).trans M1.out
    by_cases hlt : k < l.length
    · have hkk : (k : Int) < (l.length : Int) := by omega
      have g0 : _ = some (Value.int .i64 log) := cell_of_row _ w.heap.size 0 _ _ _ hm0; have g1 : _ = some (Value.int .i64 next) := cell_of_row _ w.heap.size 1 _ _ _ hm0; have g2 : _ = some (Value.int .i64 seq) := cell_of_row _ w.heap.size 2 _ _ _ hm0; have g3 : _ = some (Value.slice va l.length vc) := cell_of_row _ w.heap.size 3 _ _ _ hm0
      have e0 : _ = some (Value.int .i64 elog) := cell_of_row _ (w.heap.size + 1) 0 _ _ _ hm1; have e1 : _ = some (Value.int .i64 enext) := cell_of_row _ (w.heap.size + 1) 1 _ _ _ hm1; have e2 : _ = some (Value.int .i64 eseq) := cell_of_row _ (w.heap.size + 1) 2 _ _ _ hm1; have e3 : _ = some (Value.slice aa add.length ac) := cell_of_row _ (w.heap.size + 1) 3 _ _ _ hm1; have e4 : _ = some (Value.slice da dr.length dc) := cell_of_row _ (w.heap.size + 1) 4 _ _ _ hm1
      have HQ0 := Lib.hid hm0
      have HQ1 := Lib.hid hm1
      clear hm0 hm1
      obtain ⟨va', vc', ee, _, _, _, v4⟩ := HV.out
      simp only [Value.slice.injEq] at ee
      obtain ⟨rfl, -, rfl⟩ := ee
      obtain ⟨vb, vo, rfl, v5⟩ := v4 (by omega)
      obtain ⟨px, py, q5, hpc⟩ := v5 k hlt
      obtain ⟨p0, p1, p2, p3, p4⟩ := q5.below hbw
      have hkp := keptL_succ dr l k hlt
      rw [HO.out] at hkp
      obtain ⟨p, hp⟩ : ∃ p, l[k] = p := ⟨_, rfl⟩
      rw [hp] at p0 p1 p2 hpc hkp
      have s1 := hpc.shape
      have HPC := Lib.hid hpc
      obtain ⟨hh, hhh⟩ : ∃ b, hasI dr p.num = b := ⟨_, rfl⟩
      rw [hhh] at hkp
      have HHH := Lib.hid hhh
      have HKP := Lib.hid hkp
      clear v4 v5 hp hpc hhh hkp HO q5
      obtain ⟨pn, pl, pc, pa, pb⟩ := p
      simp only at *
      obtain ⟨⟨a1, a2, rfl⟩, b1, b2, rfl⟩ := s1
      have c0 : wo.drew.cell? ⟨w.heap.size + 1, 4, none⟩ = _ := e4
      have c1 : wo.drew.cell? ⟨w.heap.size, 3, none⟩ = _ := g3
      have c2 : wo.drew.cell? ⟨vb, vo + k * 5, none⟩ = _ := p0
      have HDD := Lib.hid (HD.out.below (hbw.trans ((Below.refl w.heap.size wo).drew)))
      go_wp2_with fail
      go_region_held3 (fun x => x.cell? ⟨w.heap.size + 1, 4, none⟩ = some (Value.slice da dr.length dc) ∧ x.cell? ⟨w.heap.size, 3, none⟩ = some (Value.slice (some ⟨vb, vo, none⟩) l.length vc) ∧ x.cell? ⟨vb, vo + k * 5, none⟩ = some (Value.int .i64 pn))
        (first | exact ⟨c0, c1, c2⟩ | go_keep)
        (first | (go_at_call 37; refine rhas_any _ dr pn hh HHH.out _ HDD.out _ ?_))
      have f3 : wo.drew.cell? ⟨w.heap.size, 3, none⟩ = _ := g3
      have f4 : wo.drew.cell? ⟨vb, vo + k * 5 + 1, none⟩ = _ := p1
      have f5 : wo.drew.cell? ⟨vb, vo + k * 5 + 2, none⟩ = _ := p2
      have f6 : wo.drew.cell? ⟨vb, vo + k * 5 + 3, none⟩ = _ := p3
      have f7 : wo.drew.cell? ⟨vb, vo + k * 5 + 4, none⟩ = _ := p4
      have hbd : Below (w.heap.size + 3) w1 wo.drew := hb.drew
      have hPd : PlsR w0 wo.drew (w.heap.size + 3) (.slice ad n c) O := HP.out.below (Below.refl _ _).drew
      have hzd : w.heap.size + 3 ≤ wo.drew.heap.size := hz
      have HPD := Lib.hid hPd
      have HBD := Lib.hid hbd
      clear g0 g1 g2 g3 e0 e1 e2 e3 e4 p0 p1 p2 p3 p4 HP hb hbw HQ0 HQ1 hPd hbd HDD
      generalize wo.drew = w2 at c0 c1 c2 f3 f4 f5 f6 f7 HBD HPD hzd ⊢
      cases hh with
      | true =>
        have HK2 : Hid (keptL dr (l.take (k + 1)) = O) := by have := HKP.out; rw [if_pos rfl] at this; exact this
        go_wp2
        go_roundg (l.length - (k + 1))
        case measure => omega
        case rel => exact ⟨k + 1, n, c, ad, O, by omega, rfl, by go_num, rfl, by omega, HK2, hnO, HPD, HBD.out, hzd⟩
      | false =>
        have HK2 : Hid (keptL dr (l.take (k + 1)) = O ++ [⟨pn, pl, pc, pa, pb⟩]) := by have := HKP.out; rw [if_neg (by simp)] at this; exact this
        obtain ⟨kv, hkv, hrow, heach⟩ := HPD.out
        have hrd1 : Rd (w2.alloc (Obj.cells #[Value.int .i64 pn, .int .i64 pl, .int .i64 pc, .slice a1 pa.length a2, .slice b1 pb.length b2] 41)) 5 (some ⟨w2.heap.size, 0, none⟩) 1 [.int .i64 pn, .int .i64 pl, .int .i64 pc, .slice a1 pa.length a2, .slice b1 pb.length b2] := rd_lit w2 #[.int .i64 pn, .int .i64 pl, .int .i64 pc, .slice a1 pa.length a2, .slice b1 pb.length b2] 41 5 1 rfl
        rw [← hnO.out] at hrow
        have HROW := Lib.hid hrow
        have HRD := Lib.hid hrd1
        have HEA := Lib.hid heach
        clear hrow hrd1 heach
        go_wp2_with (at_builtin; go_must (refine wpList_appAt (by rfl) (.tmp 34) (.tmp 40) 22 (by rfl) (w.heap.size + 3) 41 (.agg #[.int .i64 0, .int .i64 0, .int .i64 0, .slice none 0 0, .slice none 0 0]) 5 72 Try.underlying22 infoPlace rfl (by decide) ad n c _ (by rfl) (HROW.out.alloc (Obj.cells #[Value.int .i64 pn, .int .i64 pl, .int .i64 pc, .slice a1 pa.length a2, .slice b1 pb.length b2] 41)) (some ⟨w2.heap.size, 0, none⟩) 1 1 [.int .i64 pn, .int .i64 pl, .int .i64 pc, .slice a1 pa.length a2, .slice b1 pb.length b2] (by rfl) HRD.out (plc_oneCell _ _ _ _ _ _ _ _ _) (fun h => by cases h) (by unfold maxLen; omega) (by omega) (by simp; omega) ?_); intro ad6 c6 w6 hown6 hg6 _; have hb6 := Lib.hid (below_app (HBD.out.alloc hzd (Obj.cells #[Value.int .i64 pn, .int .i64 pl, .int .i64 pc, .slice a1 pa.length a2, .slice b1 pb.length b2] 41)) hg6 (by simp; omega) (HROW.out.alloc (Obj.cells #[Value.int .i64 pn, .int .i64 pl, .int .i64 pc, .slice a1 pa.length a2, .slice b1 pb.length b2] 41))); have hz6 : w.heap.size + 3 ≤ w6.heap.size := (by have := hg6.size; simp at this; omega); have HOWN6 := Lib.hid hown6; clear hown6 hg6)
        have hp6 : Hid (PlsR w0 w6 (w.heap.size + 3) (.slice ad6 (n + 1) c6) (O ++ [⟨pn, pl, pc, pa, pb⟩])) := by
          refine ⟨kv ++ [(.slice a1 pa.length a2, .slice b1 pb.length b2)], by simp [hkv], ?_, fun i hi => ?_⟩
          · rw [plcs_snoc kv O hkv, List.length_append, List.length_singleton, ← hnO.out]
            exact HOWN6.out
          · simp only [List.length_append, List.length_singleton] at hi
            by_cases h : i < O.length
            · rw [List.getElem_append_left h]
              have h1 : (kv ++ [(Value.slice a1 pa.length a2, Value.slice b1 pb.length b2)])[i]'(by simp; have := hkv; omega) = kv[i]'(by have := hkv; omega) := List.getElem_append_left (by have := hkv; omega)
              rw [h1]
              exact HEA.out i h
            · obtain rfl : i = O.length := by omega
              have h1 : (kv ++ [(Value.slice a1 pa.length a2, Value.slice b1 pb.length b2)])[O.length]'(by simp; have := hkv; omega) = (Value.slice a1 pa.length a2, Value.slice b1 pb.length b2) := by
                rw [List.getElem_append_right (by have := hkv; omega)]
                simp [hkv]
              rw [h1, List.getElem_append_right (Nat.le_refl _)]
              simpa using HPC.out
        go_roundg (l.length - (k + 1))
        case measure => omega
        case rel => exact ⟨k + 1, n + 1, c6, ad6, O ++ [⟨pn, pl, pc, pa, pb⟩], by omega, rfl, by go_num, rfl, by omega, HK2, Lib.hid (show n + 1 = (O ++ [(⟨pn, pl, pc, pa, pb⟩ : Pl)]).length by rw [hnO.out]; simp), hp6, hb6.out, hz6⟩
    · have hkk : ¬ (k : Int) < (l.length : Int) := by omega
      have g0 : _ = some (Value.int .i64 log) := cell_of_row _ w.heap.size 0 _ _ _ hm0; have g1 : _ = some (Value.int .i64 next) := cell_of_row _ w.heap.size 1 _ _ _ hm0; have g2 : _ = some (Value.int .i64 seq) := cell_of_row _ w.heap.size 2 _ _ _ hm0; have g3 : _ = some (Value.slice va l.length vc) := cell_of_row _ w.heap.size 3 _ _ _ hm0
      have e0 : _ = some (Value.int .i64 elog) := cell_of_row _ (w.heap.size + 1) 0 _ _ _ hm1; have e1 : _ = some (Value.int .i64 enext) := cell_of_row _ (w.heap.size + 1) 1 _ _ _ hm1; have e2 : _ = some (Value.int .i64 eseq) := cell_of_row _ (w.heap.size + 1) 2 _ _ _ hm1; have e3 : _ = some (Value.slice aa add.length ac) := cell_of_row _ (w.heap.size + 1) 3 _ _ _ hm1; have e4 : _ = some (Value.slice da dr.length dc) := cell_of_row _ (w.heap.size + 1) 4 _ _ _ hm1
      have HQ0 := Lib.hid hm0
      have HQ1 := Lib.hid hm1
      have HQ2 := Lib.hid ((hb.block (w.heap.size + 2) (by omega)).trans M2.out)
      obtain rfl : k = l.length := by omega
      have hko := HO.out
      rw [List.take_length] at hko
      have HKO := Lib.hid hko
      have HBW := Lib.hid hbw
      have hwrap : IntKind.i64.wrap ((n : Int) + (dr.length : Int)) = (n : Int) + (dr.length : Int) := by rw [IntKind.wrap_i64]; omega
      clear hko HO hm0 hm1 M0 M1 M2 hb hbw
      by_cases hlen : n + dr.length = l.length
      · have hd : ((n : Int) + (dr.length : Int) != (l.length : Int)) = false := by simp; omega
        by_cases q1 : elog < log
        · have hx := okE_log (v := ⟨log, next, seq, l⟩) (e := ⟨elog, enext, eseq, add, dr⟩) q1
          obtain ⟨rfl, rfl⟩ : X = vn0 ∧ z = 81 := by
            have := HX.out
            rw [applyL_no HCV.out hx] at this
            cases this
            exact ⟨rfl, rfl⟩
          clear hx HX
          go_wp2_with (first | (refine wpList_store_row (o := ⟨none, .store 24 (.tmp 4) (.tmp 73), _, _, _, _⟩) (by rfl) 24 (.tmp 4) (.tmp 73) (by rfl) (w.heap.size + 2) _ (by rfl) (by rfl) 24 _ (HQ2).out (by kernel_rfl) (by rfl) (by simp [Value.oneCell']) ?_))
          refine bodyPost_ret (res_one rfl _ _ (w.heap.size + 2) 24 #[Value.int .i64 0, .int .i64 0, .int .i64 0, .slice none 0 0] (0, 0) _ (.int .i64 81) rfl rfl (setRow_heap _ (w.heap.size + 2) _ _ _ _ (HQ2).out) Try.underlying24 rfl (by kernel_rfl)) rfl ?_
          exact HR.out _ _ (PlsR.nil _ _ _) (below_setRow (HBW).out (by omega) _)
        by_cases q2 : enext < next
        · have hx := okE_next (v := ⟨log, next, seq, l⟩) (e := ⟨elog, enext, eseq, add, dr⟩) q2
          obtain ⟨rfl, rfl⟩ : X = vn0 ∧ z = 81 := by
            have := HX.out
            rw [applyL_no HCV.out hx] at this
            cases this
            exact ⟨rfl, rfl⟩
          clear hx HX
          go_wp2_with (first | (refine wpList_store_row (o := ⟨none, .store 24 (.tmp 4) (.tmp 73), _, _, _, _⟩) (by rfl) 24 (.tmp 4) (.tmp 73) (by rfl) (w.heap.size + 2) _ (by rfl) (by rfl) 24 _ (HQ2).out (by kernel_rfl) (by rfl) (by simp [Value.oneCell']) ?_))
          refine bodyPost_ret (res_one rfl _ _ (w.heap.size + 2) 24 #[Value.int .i64 0, .int .i64 0, .int .i64 0, .slice none 0 0] (0, 0) _ (.int .i64 81) rfl rfl (setRow_heap _ (w.heap.size + 2) _ _ _ _ (HQ2).out) Try.underlying24 rfl (by kernel_rfl)) rfl ?_
          exact HR.out _ _ (PlsR.nil _ _ _) (below_setRow (HBW).out (by omega) _)
        by_cases q3 : eseq < seq
        · have hx := okE_seq (v := ⟨log, next, seq, l⟩) (e := ⟨elog, enext, eseq, add, dr⟩) q3
          obtain ⟨rfl, rfl⟩ : X = vn0 ∧ z = 81 := by
            have := HX.out
            rw [applyL_no HCV.out hx] at this
            cases this
            exact ⟨rfl, rfl⟩
          clear hx HX
          go_wp2_with (first | (refine wpList_store_row (o := ⟨none, .store 24 (.tmp 4) (.tmp 73), _, _, _, _⟩) (by rfl) 24 (.tmp 4) (.tmp 73) (by rfl) (w.heap.size + 2) _ (by rfl) (by rfl) 24 _ (HQ2).out (by kernel_rfl) (by rfl) (by simp [Value.oneCell']) ?_))
          refine bodyPost_ret (res_one rfl _ _ (w.heap.size + 2) 24 #[Value.int .i64 0, .int .i64 0, .int .i64 0, .slice none 0 0] (0, 0) _ (.int .i64 81) rfl rfl (setRow_heap _ (w.heap.size + 2) _ _ _ _ (HQ2).out) Try.underlying24 rfl (by kernel_rfl)) rfl ?_
          exact HR.out _ _ (PlsR.nil _ _ _) (below_setRow (HBW).out (by omega) _)
        have HLEN := Lib.hid hlen
        have HQN := Lib.hid (And.intro q1 (And.intro q2 q3))
        clear hlen
        go_wp2
        obtain ⟨o, ho⟩ : ∃ o, onceK (dr.take 0) (dr.drop 0) = o := ⟨_, rfl⟩
        have HO0 := Lib.hid ho
        clear ho hd hwrap g0 g1 g2 g3 e0 e1 e2 e3 e4
        obtain ⟨w4, rfl⟩ : ∃ x, x = wo := ⟨_, rfl⟩
        have hnO0 := hnO
        obtain ⟨K0, rfl⟩ : ∃ x, x = O := ⟨_, rfl⟩
        obtain ⟨n0, rfl⟩ : ∃ x, x = n := ⟨_, rfl⟩
        obtain ⟨c0, rfl⟩ : ∃ x, x = c := ⟨_, rfl⟩
        obtain ⟨ad0, rfl⟩ : ∃ x, x = ad := ⟨_, rfl⟩
        have HB40 := Lib.hid (Below.refl w4.heap.size w4)
        go_loopg [8] dr.length (fun gn i wr => ∃ k : Nat, k ≤ dr.length ∧ gn = dr.length - k ∧ i = .int .i64 k ∧ Below w4.heap.size w4 wr ∧ Hid (onceK (dr.take k) (dr.drop k) = o))
        case atStart => exact ⟨0, Nat.zero_le _, by omega, rfl, HB40.out, HO0⟩
        case round =>
          obtain ⟨k, hk, rfl, rfl, hb4, HO⟩ := hrel
          clear HB40
          obtain ⟨wo, rfl⟩ : ∃ x, x = wr := ⟨_, rfl⟩
          have hbw := below_then HBW.out hb4 HBW.out.size
          have hm1 := row_on HQ1.out hb4
          have hm2 := row_on HQ2.out hb4
          by_cases hlt : k < dr.length
          · have hkk : (k : Int) < (dr.length : Int) := by omega
            have hkd : (k : Int) ≤ (dc : Int) := by omega
            have hdt := HD.out.take (j := k) (by omega)
            obtain ⟨db, do', rfl, hc⟩ := HD.out.at k hlt
            have hat := onceK_at dr k hlt
            rw [HO.out] at hat
            obtain ⟨d, hd⟩ : ∃ d, dr[k] = d := ⟨_, rfl⟩
            rw [hd] at hc hat
            obtain ⟨hh, hhh⟩ : ∃ b, hasI (dr.take k) d = b := ⟨_, rfl⟩
            rw [hhh] at hat
            have HHH := Lib.hid hhh
            have HAT := Lib.hid hat
            have e4 : _ = some (Value.slice (some ⟨db, do', none⟩) dr.length dc) := cell_of_row _ (w.heap.size + 1) 4 _ _ _ hm1
            have c0 : wo.drew.cell? ⟨w.heap.size + 1, 4, none⟩ = _ := e4
            have c1 : wo.drew.cell? ⟨db, do' + k, none⟩ = some (Value.int .i64 d) := cell_later (hbw.trans ((Below.refl w.heap.size wo).drew)) hc
            have HDT := Lib.hid (hdt.below (hbw.trans ((Below.refl w.heap.size wo).drew)))
            have HM2 := Lib.hid hm2
            have HB4 := Lib.hid hb4
            have HBW4 := Lib.hid hbw
            clear hdt hc hat hhh hd hm1 hm2 HO hb4 hbw
            go_wp2_with fail
            clear e4
            go_region_held3 (fun x => x.cell? ⟨w.heap.size + 1, 4, none⟩ = some (Value.slice (some ⟨db, do', none⟩) dr.length dc) ∧ x.cell? ⟨db, do' + k, none⟩ = some (Value.int .i64 d))
              (first | exact ⟨c0, c1⟩ | go_keep)
              (first | (go_at_call 37; refine rhas_any _ (dr.take k) d hh HHH.out _ HDT.out _ ?_))
            clear c0 c1
            cases hh with
            | true =>
              obtain rfl : o = false := by rw [HAT.out]; rfl
              obtain ⟨rfl, rfl⟩ : X = vn0 ∧ z = 81 := by
                have := HX.out
                have h1 : onceK [] dr = false := HO0.out
                rw [applyL_no HCV.out (okE_once (e := ⟨elog, enext, eseq, add, dr⟩) h1)] at this
                cases this
                exact ⟨rfl, rfl⟩
              have HM2d : Hid (wo.drew.heap[w.heap.size + 2]? = _) := HM2
              have HBWd := Lib.hid HBW4.out.drew
              go_wp2_with (first | (refine wpList_store_row (o := ⟨none, .store 24 (.tmp 4) (.tmp 91), _, _, _, _⟩) (by rfl) 24 (.tmp 4) (.tmp 91) (by rfl) (w.heap.size + 2) _ (by rfl) (by rfl) 24 _ (HM2d).out (by kernel_rfl) (by rfl) (by simp [Value.oneCell']) ?_))
              refine bodyPost_ret (res_one rfl _ _ (w.heap.size + 2) 24 #[Value.int .i64 0, .int .i64 0, .int .i64 0, .slice none 0 0] (0, 0) _ (.int .i64 81) rfl rfl (setRow_heap _ (w.heap.size + 2) _ _ _ _ (HM2d).out) Try.underlying24 rfl (by kernel_rfl)) rfl ?_
              exact HR.out _ _ (PlsR.nil _ _ _) (below_setRow (HBWd).out (by omega) _)
            | false =>
              have HNX : Hid (onceK (dr.take (k + 1)) (dr.drop (k + 1)) = o) := by
                have := HAT.out
                simp only [Bool.not_false, Bool.true_and] at this
                exact this.symm
              have HB5 := Lib.hid HB4.out.drew
              go_wp2
              go_roundg (dr.length - (k + 1))
              case measure => omega
              case rel => exact ⟨k + 1, by omega, rfl, by go_num, HB5.out, HNX⟩
          · have hkk : ¬ (k : Int) < (dr.length : Int) := by omega
            obtain rfl : k = dr.length := by omega
            obtain rfl : o = true := by rw [← HO.out, onceK_end _ _ (Nat.le_refl _)]
            have e4 : _ = some (Value.slice da dr.length dc) := cell_of_row _ (w.heap.size + 1) 4 _ _ _ hm1
            go_wp2
            have hP5 := Lib.hid (HP.out.below hb4)
            have hz5 := Nat.le_trans hz hb4.size
            have HM0 := Lib.hid (row_on HQ0.out hb4)
            have HM1 := Lib.hid hm1
            have HM2 := Lib.hid hm2
            have HBW5 := Lib.hid hbw
            clear e4 hm1 hm2 hbw hb4 HP HQ0 HQ1 HQ2 HO HBW
            obtain ⟨w5, rfl⟩ : ∃ x, x = wo := ⟨_, rfl⟩
            have HB50 := Lib.hid (Below.refl (w.heap.size + 3) w5)
            go_loopg [6, 9] add.length (fun gn s6 i wr => ∃ (k n c : Nat) (ad : Option Addr) (Q : List Pl), k ≤ add.length ∧ gn = add.length - k ∧ i = .int .i64 k ∧ s6 = .slice ad n c ∧ n ≤ l.length + k ∧ Hid (sortT K0 (add.take k) = Q) ∧ Hid (n = Q.length) ∧ Hid (PlsR w0 wr (w.heap.size + 3) (.slice ad n c) Q) ∧ Below (w.heap.size + 3) w5 wr ∧ w.heap.size + 3 ≤ wr.heap.size)
            case atStart => exact ⟨0, n0, c0, ad0, K0, Nat.zero_le _, by omega, rfl, rfl, by omega, rfl, hnO0, hP5, HB50.out, hz5⟩
            case round =>
              clear hz hnO hP5 hnk hz5 HB50
              obtain ⟨k, n, c, ad, Q, hk, rfl, rfl, rfl, hnk, HO, hnO, HP, hb, hz⟩ := hrel
              obtain ⟨wo, rfl⟩ : ∃ x, x = wr := ⟨_, rfl⟩
              have hbw : Below w.heap.size w wo := HBW5.out.trans (hb.mono (by omega))
              have hm0 := (hb.block w.heap.size (by omega)).trans HM0.out
              have hm1 := (hb.block (w.heap.size + 1) (by omega)).trans HM1.out
              have hm2 := (hb.block (w.heap.size + 2) (by omega)).trans HM2.out
              by_cases hlt : k < add.length
              · have hkk : (k : Int) < (add.length : Int) := by omega
                obtain ⟨va', vc', ee, _, _, _, v4⟩ := HA.out
                simp only [Value.slice.injEq] at ee
                obtain ⟨rfl, -, rfl⟩ := ee
                obtain ⟨vb, vo, rfl, v5⟩ := v4 (by omega)
                obtain ⟨px, py, q5, hpc⟩ := v5 k hlt
                obtain ⟨p0, p1, p2, p3, p4⟩ := q5.below hbw
                have hst := sortT_succ K0 add k hlt
                rw [HO.out] at hst
                obtain ⟨p, hp⟩ : ∃ p, add[k] = p := ⟨_, rfl⟩
                rw [hp] at p0 p1 p2 hpc hst
                have s1 := hpc.shape
                have HPC := Lib.hid hpc
                have HST := Lib.hid hst
                obtain ⟨pn, pl, pc, pa, pb⟩ := p
                simp only at p0 p1 p2 p3 p4 s1
                obtain ⟨⟨a1, a2, rfl⟩, b1, b2, rfl⟩ := s1
                have e3 : _ = some (Value.slice (some ⟨vb, vo, none⟩) add.length ac) := cell_of_row _ (w.heap.size + 1) 3 _ _ _ hm1
                have HE3 := Lib.hid e3
                have HPB : Hid (wo.cell? ⟨vb, (vo + k * 5), none⟩ = some (Value.int .i64 pn) ∧ wo.cell? ⟨vb, (vo + k * 5) + 1, none⟩ = some (Value.int .i64 pl) ∧ wo.cell? ⟨vb, (vo + k * 5) + 2, none⟩ = some (Value.int .i64 pc) ∧ wo.cell? ⟨vb, (vo + k * 5) + 3, none⟩ = some (Value.slice a1 pa.length a2) ∧ wo.cell? ⟨vb, (vo + k * 5) + 4, none⟩ = some (Value.slice b1 pb.length b2)) := ⟨p0, p1, p2, p3, p4⟩
                have HBQ := Lib.hid hb
                have HBQW := Lib.hid hbw
                have HPP := Lib.hid (HP.out.pls (below_then HBZ.out hbw HBZ.out.size))
                clear v4 v5 hp hpc hst HO q5 hm0 hm1 hm2 p0 p1 p2 p3 p4 hb hbw
                go_wp2
                clear e3
                have HX0 := Lib.hid (Below.refl wo.heap.size wo)
                have HF0 : Hid (∀ i (hi : i < Q.length), i < 0 → sortsL ⟨pn, pl, pc, pa, pb⟩ Q[i] = false) := fun i _ h => absurd h (by omega)
                go_loopg [10] n (fun gn i wx => ∃ j : Nat, j ≤ n ∧ gn = n - j ∧ i = .int .i64 j ∧ Below wo.heap.size wo wx ∧ Hid (∀ i (hi : i < Q.length), i < j → sortsL ⟨pn, pl, pc, pa, pb⟩ Q[i] = false))
                case atStart => exact ⟨0, Nat.zero_le _, by omega, rfl, HX0.out, HF0⟩
                case round =>
                  obtain ⟨j, hj, rfl, rfl, hbx, HF⟩ := hrel
                  clear HX0 HF0
                  obtain ⟨wx, rfl⟩ : ∃ x, x = wr := ⟨_, rfl⟩
                  by_cases hjn : j < n
                  · have hjj : (j : Int) < (n : Int) := by omega
                    have hjt : decide ((j : Int) < (n : Int)) = true := decide_eq_true hjj
                    have hpp := HPP.out
                    rw [hnO.out] at hpp hjn
                    obtain ⟨ua', uc', ee, _, _, _, v4⟩ := hpp
                    simp only [Value.slice.injEq] at ee
                    obtain ⟨ee1, -, rfl⟩ := ee
                    obtain ⟨ub, uo, ee2, v5⟩ := v4 (by omega)
                    have ee3 := ee1.trans ee2
                    subst ee3
                    obtain ⟨qx, qy, q5, hqc⟩ := v5 j hjn
                    have hjn' : j < n := by rw [hnO.out]; exact hjn
                    obtain ⟨q0, q1', q2', q3', q4'⟩ := q5.below hbx
                    obtain ⟨b, hbb⟩ : ∃ b, sortsL ⟨pn, pl, pc, pa, pb⟩ Q[j] = b := ⟨_, rfl⟩
                    have HSJ : Hid (∀ h : j < Q.length, sortsL ⟨pn, pl, pc, pa, pb⟩ Q[j] = b) := fun _ => hbb
                    obtain ⟨q, hq⟩ : ∃ q, Q[j] = q := ⟨_, rfl⟩
                    rw [hq] at q0 q1' q2' hqc hbb
                    have s2 := hqc.shape
                    have HQC := Lib.hid hqc
                    have HSS := Lib.hid hbb
                    clear v4 v5 hq hqc hbb q5 ee1 ee2
                    obtain ⟨qn, ql, qc, qa, qb⟩ := q
                    simp only at q0 q1' q2' q3' q4' s2
                    obtain ⟨⟨c1, c2, rfl⟩, d1, d2, rfl⟩ := s2
                    have hcg : ∀ (A : Addr) (u : Value), wx.cell? A = some u → ∀ n os, (Sort.grow (wx.drewN n) os).cell? A = some u := fun A u h n os => cell_grown (World.block_lt_of_cell? wx _ h) h n os
                    have f0 := hcg _ _ (cell_later hbx HPB.out.1)
                    have f1 := hcg _ _ (cell_later hbx HPB.out.2.1)
                    have f2 := hcg _ _ (cell_later hbx HPB.out.2.2.1)
                    have f3 := hcg _ _ (cell_later hbx HPB.out.2.2.2.1)
                    have f4 := hcg _ _ (cell_later hbx HPB.out.2.2.2.2)
                    have f5 := hcg _ _ (cell_later hbx HE3.out)
                    have i0 := hcg _ _ q0
                    have i1 := hcg _ _ q1'
                    have i2 := hcg _ _ q2'
                    have i3 := hcg _ _ q3'
                    have i4 := hcg _ _ q4'
                    have HPG := Lib.hid (fun (n : Nat) (os : Array Obj) => ((HPC.out.below HBZ.out).below (below_then HBQW.out hbx HBQW.out.size)).below ((Grn.refl wx).grow n os).below)
                    have HQG := Lib.hid (fun (n : Nat) (os : Array Obj) => (HQC.out.below hbx).below ((Grn.refl wx).grow n os).below)
                    have HBX := Lib.hid hbx
                    clear q0 q1' q2' q3' q4' hcg hbx hjn
                    go_wp2_with fail
                    (refine wp_region_quiet_grown (by kernel_rfl) (by kernel_rfl) ?_; (repeat (go_big_quiet_step (first | (go_at_call 38; refine grn_calls (v := Value.bool b) ?_; refine sorts_any _ _ _ _ ⟨pn, pl, pc, pa, pb⟩ ⟨qn, ql, qc, qa, qb⟩ b HSS.out _ (HPG.out _ _) (HQG.out _ _) _ ?_; intro w' hw'; exact ⟨rfl, hw'⟩)))); refine wpQuiet_nil ?_; intro _ hw'; obtain ⟨⟨nq, osq⟩, hw''⟩ := hw'; subst hw'')
                    have hb6 := HBX.out.trans (((Grn.refl wx).grow nq osq).below.mono HBX.out.size)
                    clear f0 f1 f2 f3 f4 f5 i0 i1 i2 i3 i4 HPG HQG HBX
                    generalize Sort.grow (wx.drewN nq) osq = w6 at hb6 ⊢
                    cases b with
                    | false =>
                      have HF2 : Hid (∀ i (hi : i < Q.length), i < j + 1 → sortsL ⟨pn, pl, pc, pa, pb⟩ Q[i] = false) := fun i hi h => by
                        by_cases he : i = j
                        · subst he
                          exact HSJ.out hi
                        · exact HF.out i hi (by omega)
                      go_wp2
                      go_roundg (n - (j + 1))
                      case measure => omega
                      case rel => exact ⟨j + 1, by omega, rfl, by go_num, hb6, HF2⟩
                    | true =>
                      have HPL : Hid (placeT ⟨pn, pl, pc, pa, pb⟩ Q = j) := placeT_of _ _ _ (by have := hnO.out; omega) HF.out (fun h => HSJ.out h)
                      have hp6 := HP.out.below hb6
                      obtain ⟨kv, hkv, hrow, heach⟩ := hp6
                      rw [← hnO.out] at hrow
                      have hz6 := hb6.size
                      have hjl : j ≤ Q.length := by rw [← hnO.out]; exact hj
                      have hone := plcs_oneCell hkv heach
                      have hrd := rd_of_owns hrow
                      obtain ⟨Lx, hsl, hnx, hLx⟩ := slice_fromP (P := Try.prog) (j := j) Try.underlying22 infoPlace hj (owns_cap hrow).1 (owns_nil hrow)
                      have hrA : Rd w6 5 (some ⟨ub, uo, none⟩) j (plcs (kv.take j) (Q.take j)) := by rw [← plcs_take hkv j hjl]; exact rd_takeP hrd hj
                      have hrB : Rd w6 5 Lx (n - j) (plcs (kv.drop j) (Q.drop j)) := by rw [← plcs_drop hkv j hjl]; exact hLx _ _ hrd
                      have hoA : ∀ u ∈ plcs (kv.take j) (Q.take j), u.oneCell' = true := fun u hu => hone u (by rw [← plcs_take hkv j hjl] at hu; exact List.mem_of_mem_take hu)
                      have hoB : ∀ u ∈ plcs (kv.drop j) (Q.drop j), u.oneCell' = true := fun u hu => hone u (by rw [← plcs_drop hkv j hjl] at hu; exact List.mem_of_mem_drop hu)
                      have hnl := owns_nil hrow
                      have hcl := (owns_cap hrow).1
                      have hcm := (owns_cap hrow).2
                      unfold maxLen at hcm
                      have hjc : j ≤ c := by omega
                      have u0 : w6.drew.cell? ⟨w.heap.size + 1, 3, none⟩ = some (Value.slice (some ⟨vb, vo, none⟩) add.length ac) := cell_later (w := wo) hb6.drew HE3.out
                      have u1 : w6.drew.cell? ⟨vb, (vo + k * 5), none⟩ = some (Value.int .i64 pn) ∧ w6.drew.cell? ⟨vb, (vo + k * 5) + 1, none⟩ = some (Value.int .i64 pl) ∧ w6.drew.cell? ⟨vb, (vo + k * 5) + 2, none⟩ = some (Value.int .i64 pc) ∧ w6.drew.cell? ⟨vb, (vo + k * 5) + 3, none⟩ = some (Value.slice a1 pa.length a2) ∧ w6.drew.cell? ⟨vb, (vo + k * 5) + 4, none⟩ = some (Value.slice b1 pb.length b2) := pbma_later (w := wo) hb6.drew HPB.out
                      have HEACH := Lib.hid heach
                      have hrwb : w.heap.size + 3 ≤ w6.heap.size := Nat.le_trans hz hz6
                      clear hrd hrow hone hLx heach
                      go_wp2_with fail
                      go_region_held3 (fun x => x.cell? ⟨w.heap.size + 1, 3, none⟩ = some (Value.slice (some ⟨vb, vo, none⟩) add.length ac) ∧ x.cell? ⟨vb, (vo + k * 5), none⟩ = some (Value.int .i64 pn) ∧ x.cell? ⟨vb, (vo + k * 5) + 1, none⟩ = some (Value.int .i64 pl) ∧ x.cell? ⟨vb, (vo + k * 5) + 2, none⟩ = some (Value.int .i64 pc) ∧ x.cell? ⟨vb, (vo + k * 5) + 3, none⟩ = some (Value.slice a1 pa.length a2) ∧ x.cell? ⟨vb, (vo + k * 5) + 4, none⟩ = some (Value.slice b1 pb.length b2))
                        (first | exact ⟨u0, u1⟩ | exact ⟨cell_later hA1 u0, pbma_later hA1 u1⟩ | exact ⟨cell_later ((Below.refl w6.drew.heap.size w6.drew).alloc (Nat.le_refl _) _) u0, pbma_later ((Below.refl w6.drew.heap.size w6.drew).alloc (Nat.le_refl _) _) u1⟩ | exact ⟨cell_later (hA1.alloc hA1.size _) u0, pbma_later (hA1.alloc hA1.size _) u1⟩ | exact ⟨cell_later hB1 u0, pbma_later hB1 u1⟩ | exact ⟨cell_later hC1 u0, pbma_later hC1 u1⟩ | go_keep)
                        (first
                          | ((refine step_app0 ?_ (.tmp 118) (.tmp 121) 22 ?_ w6.heap.size 41 (.agg #[.int .i64 0, .int .i64 0, .int .i64 0, .slice none 0 0, .slice none 0 0]) 5 72 Try.underlying22 infoPlace rfl ?_ none ?_ (World.ownsRow_nil _ _ _ _) (some ⟨ub, uo, none⟩) j c (plcs (kv.take j) (Q.take j)) ?_ ?_ hoA hnl ?_ ?_ ?_ ?_; rfl; rfl; decide; rfl; rfl; exact hrA.below (by first | exact (Below.refl _ _).drew | exact ((Below.refl _ _).alloc (Nat.le_refl _) _).drew | exact hC | exact hB2 | exact hA | exact hA.alloc hA.size _); (unfold maxLen; omega); omega; exact le_of_belowP (by first | exact (Below.refl _ _).drew | exact ((Below.refl _ _).alloc (Nat.le_refl _) _).drew | exact hC | exact hB2 | exact hA | exact hA.alloc hA.size _); intro ad7 c7 w7 hown7 hb7; have hA := below_tra (a := w6) (by first | exact (Below.refl _ _).drew | exact ((Below.refl _ _).alloc (Nat.le_refl _) _).drew | exact hC | exact hB2 | exact hA | exact hA.alloc hA.size _) hb7; have hA1 := below_undrew hA))
                          | ((refine step_appAt ?_ (.tmp 122) (.tmp 128) 22 ?_ w6.heap.size 41 (.agg #[.int .i64 0, .int .i64 0, .int .i64 0, .slice none 0 0, .slice none 0 0]) 5 72 Try.underlying22 infoPlace rfl ?_ ad7 j c7 _ ?_ (hown7.alloc (Obj.cells #[Value.int .i64 pn, .int .i64 pl, .int .i64 pc, .slice a1 pa.length a2, .slice b1 pb.length b2] 41)) (some ⟨w7.heap.size, 0, none⟩) 1 1 [Value.int .i64 pn, .int .i64 pl, .int .i64 pc, .slice a1 pa.length a2, .slice b1 pb.length b2] ?_ (rd_lit w7 #[Value.int .i64 pn, .int .i64 pl, .int .i64 pc, .slice a1 pa.length a2, .slice b1 pb.length b2] 41 5 1 rfl) (plc_oneCell _ _ _ _ _ _ _ _ _) ?_ ?_ ?_ ?_ ?_; rfl; rfl; decide; rfl; rfl; (intro h; cases h); (unfold maxLen; omega); omega; (have hAz := hA.size; simp; omega); intro ad8 c8 w8 hown8 hg8 hat8; have hB2 : Below w6.heap.size w6 w8 := below_app (hA.alloc hA.size _) hg8 (by have hAz := hA.size; simp; omega) (hown7.alloc (Obj.cells #[Value.int .i64 pn, .int .i64 pl, .int .i64 pc, .slice a1 pa.length a2, .slice b1 pb.length b2] 41)); have hB1 := below_undrew hB2))
                          | ((refine step_appAt ?_ (.tmp 122) (.tmp 128) 22 ?_ w6.heap.size 41 (.agg #[.int .i64 0, .int .i64 0, .int .i64 0, .slice none 0 0, .slice none 0 0]) 5 72 Try.underlying22 infoPlace rfl ?_ ad7 j c7 _ ?_ hown7 (some ⟨w6.heap.size, 0, none⟩) 1 1 [Value.int .i64 pn, .int .i64 pl, .int .i64 pc, .slice a1 pa.length a2, .slice b1 pb.length b2] ?_ (((rd_lit w6 #[Value.int .i64 pn, .int .i64 pl, .int .i64 pc, .slice a1 pa.length a2, .slice b1 pb.length b2] 41 5 1 rfl).below (Below.refl _ _).drew).below hb7) (plc_oneCell _ _ _ _ _ _ _ _ _) ?_ ?_ ?_ hA.size ?_; rfl; rfl; decide; rfl; rfl; (intro h; cases h); (unfold maxLen; omega); omega; intro ad8 c8 w8 hown8 hg8 hat8; have hB2 : Below w6.heap.size w6 w8 := below_app hA hg8 hA.size hown7; have hB1 := below_undrew hB2))
                          | ((refine step_appAt ?_ (.tmp 129) (.tmp 132) 22 ?_ w6.heap.size 41 (.agg #[.int .i64 0, .int .i64 0, .int .i64 0, .slice none 0 0, .slice none 0 0]) 5 72 Try.underlying22 infoPlace rfl ?_ ad8 (j + 1) c8 _ ?_ hown8 Lx (n - j) (c - j) (plcs (kv.drop j) (Q.drop j)) ?_ (hrB.below hB2) hoB hnx ?_ ?_ hB2.size ?_; rfl; rfl; decide; rfl; rfl; (unfold maxLen; omega); omega; intro ad9 c9 w9 hown9 hg9 hat9; have hC : Below w6.heap.size w6 w9 := below_app hB2 hg9 hB2.size hown8; have hC1 := below_undrew hC)))
                      all_goals
                        have hqi : insT ⟨pn, pl, pc, pa, pb⟩ Q = Q.take j ++ [⟨pn, pl, pc, pa, pb⟩] ++ Q.drop j := by rw [insT_eq, HPL.out]
                        have hown9' := owns_mono (base' := w.heap.size + 3) hown9 hrwb
                        rw [hnO.out] at hown9'
                        have HP9 := Lib.hid (PlsR.put (p := ⟨pn, pl, pc, pa, pb⟩) hkv hjl HEACH.out HPC.out hown9')
                        rw [← hnO.out, ← hqi] at HP9
                        have HST9 := HST
                        have HN9 : Hid (j + 1 + (n - j) = (insT ⟨pn, pl, pc, pa, pb⟩ Q).length) := by
                          show _ = _
                          rw [(insT_perm _ _).length_eq, List.length_cons, ← hnO.out]
                          omega
                        have HB9 := Lib.hid (HBQ.out.trans ((hb6.trans (hC.mono hz6)).mono hz))
                        have hz9 : w.heap.size + 3 ≤ w9.heap.size := Nat.le_trans hrwb hC.size
                        clear u0 u1 hqi hown9' hown9 hg9 hat9 hC hC1 hown8 hg8 hat8 hB2 hB1 hown7 hb7 hA hA1 hsl hnx hrA hrB hoA hoB hnl hcl hcm hjc
                        go_wp2
                        go_roundg (add.length - (k + 1))
                        case measure => omega
                        case rel => exact ⟨k + 1, j + 1 + (n - j), c9, ad9, insT ⟨pn, pl, pc, pa, pb⟩ Q, by omega, rfl, by go_num, rfl, by omega, HST9, HN9, HP9, HB9.out, hz9⟩
                  · have hjj : ¬ (j : Int) < (n : Int) := by omega
                    have hjt : decide ((j : Int) < (n : Int)) = false := decide_eq_false hjj
                    have HPL : Hid (placeT ⟨pn, pl, pc, pa, pb⟩ Q = j) := placeT_of _ _ _ (by have := hnO.out; omega) HF.out (fun h => absurd h (by have := hnO.out; omega))
                    have HBX := Lib.hid hbx
                    clear hbx
                    go_wp2_with fail
                    (refine wp_region_quiet_grown (by kernel_rfl) (by kernel_rfl) ?_; (repeat (go_big_quiet_step (fail))); refine wpQuiet_nil ?_; intro _ hw'; obtain ⟨⟨nq, osq⟩, hw''⟩ := hw'; subst hw'')
                    have hb6 := HBX.out.trans (((Grn.refl wx).grow nq osq).below.mono HBX.out.size)
                    clear HBX
                    generalize Sort.grow (wx.drewN nq) osq = w6 at hb6 ⊢
                    have hp6 := HP.out.below hb6
                    obtain ⟨kv, hkv, hrow, heach⟩ := hp6
                    rw [← hnO.out] at hrow
                    have hz6 := hb6.size
                    have hjl : j ≤ Q.length := by rw [← hnO.out]; exact hj
                    have hone := plcs_oneCell hkv heach
                    have hrd := rd_of_owns hrow
                    obtain ⟨Lx, hsl, hnx, hLx⟩ := slice_fromP (P := Try.prog) (j := j) Try.underlying22 infoPlace hj (owns_cap hrow).1 (owns_nil hrow)
                    have hrA : Rd w6 5 ad j (plcs (kv.take j) (Q.take j)) := by rw [← plcs_take hkv j hjl]; exact rd_takeP hrd hj
                    have hrB : Rd w6 5 Lx (n - j) (plcs (kv.drop j) (Q.drop j)) := by rw [← plcs_drop hkv j hjl]; exact hLx _ _ hrd
                    have hoA : ∀ u ∈ plcs (kv.take j) (Q.take j), u.oneCell' = true := fun u hu => hone u (by rw [← plcs_take hkv j hjl] at hu; exact List.mem_of_mem_take hu)
                    have hoB : ∀ u ∈ plcs (kv.drop j) (Q.drop j), u.oneCell' = true := fun u hu => hone u (by rw [← plcs_drop hkv j hjl] at hu; exact List.mem_of_mem_drop hu)
                    have hnl := owns_nil hrow
                    have hcl := (owns_cap hrow).1
                    have hcm := (owns_cap hrow).2
                    unfold maxLen at hcm
                    have hjc : j ≤ c := by omega
                    have u0 : w6.drew.cell? ⟨w.heap.size + 1, 3, none⟩ = some (Value.slice (some ⟨vb, vo, none⟩) add.length ac) := cell_later (w := wo) hb6.drew HE3.out
                    have u1 : w6.drew.cell? ⟨vb, (vo + k * 5), none⟩ = some (Value.int .i64 pn) ∧ w6.drew.cell? ⟨vb, (vo + k * 5) + 1, none⟩ = some (Value.int .i64 pl) ∧ w6.drew.cell? ⟨vb, (vo + k * 5) + 2, none⟩ = some (Value.int .i64 pc) ∧ w6.drew.cell? ⟨vb, (vo + k * 5) + 3, none⟩ = some (Value.slice a1 pa.length a2) ∧ w6.drew.cell? ⟨vb, (vo + k * 5) + 4, none⟩ = some (Value.slice b1 pb.length b2) := pbma_later (w := wo) hb6.drew HPB.out
                    have HEACH := Lib.hid heach
                    have hrwb : w.heap.size + 3 ≤ w6.heap.size := Nat.le_trans hz hz6
                    clear hrd hrow hone hLx heach
                    go_wp2_with fail
                    go_region_held3 (fun x => x.cell? ⟨w.heap.size + 1, 3, none⟩ = some (Value.slice (some ⟨vb, vo, none⟩) add.length ac) ∧ x.cell? ⟨vb, (vo + k * 5), none⟩ = some (Value.int .i64 pn) ∧ x.cell? ⟨vb, (vo + k * 5) + 1, none⟩ = some (Value.int .i64 pl) ∧ x.cell? ⟨vb, (vo + k * 5) + 2, none⟩ = some (Value.int .i64 pc) ∧ x.cell? ⟨vb, (vo + k * 5) + 3, none⟩ = some (Value.slice a1 pa.length a2) ∧ x.cell? ⟨vb, (vo + k * 5) + 4, none⟩ = some (Value.slice b1 pb.length b2))
                      (first | exact ⟨u0, u1⟩ | exact ⟨cell_later hA1 u0, pbma_later hA1 u1⟩ | exact ⟨cell_later ((Below.refl w6.drew.heap.size w6.drew).alloc (Nat.le_refl _) _) u0, pbma_later ((Below.refl w6.drew.heap.size w6.drew).alloc (Nat.le_refl _) _) u1⟩ | exact ⟨cell_later (hA1.alloc hA1.size _) u0, pbma_later (hA1.alloc hA1.size _) u1⟩ | exact ⟨cell_later hB1 u0, pbma_later hB1 u1⟩ | exact ⟨cell_later hC1 u0, pbma_later hC1 u1⟩ | go_keep)
                      (first
                        | ((refine step_app0 ?_ (.tmp 118) (.tmp 121) 22 ?_ w6.heap.size 41 (.agg #[.int .i64 0, .int .i64 0, .int .i64 0, .slice none 0 0, .slice none 0 0]) 5 72 Try.underlying22 infoPlace rfl ?_ none ?_ (World.ownsRow_nil _ _ _ _) ad j c (plcs (kv.take j) (Q.take j)) ?_ ?_ hoA hnl ?_ ?_ ?_ ?_; rfl; rfl; decide; rfl; rfl; exact hrA.below (by first | exact (Below.refl _ _).drew | exact ((Below.refl _ _).alloc (Nat.le_refl _) _).drew | exact hC | exact hB2 | exact hA | exact hA.alloc hA.size _); (unfold maxLen; omega); omega; exact le_of_belowP (by first | exact (Below.refl _ _).drew | exact ((Below.refl _ _).alloc (Nat.le_refl _) _).drew | exact hC | exact hB2 | exact hA | exact hA.alloc hA.size _); intro ad7 c7 w7 hown7 hb7; have hA := below_tra (a := w6) (by first | exact (Below.refl _ _).drew | exact ((Below.refl _ _).alloc (Nat.le_refl _) _).drew | exact hC | exact hB2 | exact hA | exact hA.alloc hA.size _) hb7; have hA1 := below_undrew hA))
                        | ((refine step_appAt ?_ (.tmp 122) (.tmp 128) 22 ?_ w6.heap.size 41 (.agg #[.int .i64 0, .int .i64 0, .int .i64 0, .slice none 0 0, .slice none 0 0]) 5 72 Try.underlying22 infoPlace rfl ?_ ad7 j c7 _ ?_ (hown7.alloc (Obj.cells #[Value.int .i64 pn, .int .i64 pl, .int .i64 pc, .slice a1 pa.length a2, .slice b1 pb.length b2] 41)) (some ⟨w7.heap.size, 0, none⟩) 1 1 [Value.int .i64 pn, .int .i64 pl, .int .i64 pc, .slice a1 pa.length a2, .slice b1 pb.length b2] ?_ (rd_lit w7 #[Value.int .i64 pn, .int .i64 pl, .int .i64 pc, .slice a1 pa.length a2, .slice b1 pb.length b2] 41 5 1 rfl) (plc_oneCell _ _ _ _ _ _ _ _ _) ?_ ?_ ?_ ?_ ?_; rfl; rfl; decide; rfl; rfl; (intro h; cases h); (unfold maxLen; omega); omega; (have hAz := hA.size; simp; omega); intro ad8 c8 w8 hown8 hg8 hat8; have hB2 : Below w6.heap.size w6 w8 := below_app (hA.alloc hA.size _) hg8 (by have hAz := hA.size; simp; omega) (hown7.alloc (Obj.cells #[Value.int .i64 pn, .int .i64 pl, .int .i64 pc, .slice a1 pa.length a2, .slice b1 pb.length b2] 41)); have hB1 := below_undrew hB2))
                        | ((refine step_appAt ?_ (.tmp 122) (.tmp 128) 22 ?_ w6.heap.size 41 (.agg #[.int .i64 0, .int .i64 0, .int .i64 0, .slice none 0 0, .slice none 0 0]) 5 72 Try.underlying22 infoPlace rfl ?_ ad7 j c7 _ ?_ hown7 (some ⟨w6.heap.size, 0, none⟩) 1 1 [Value.int .i64 pn, .int .i64 pl, .int .i64 pc, .slice a1 pa.length a2, .slice b1 pb.length b2] ?_ (((rd_lit w6 #[Value.int .i64 pn, .int .i64 pl, .int .i64 pc, .slice a1 pa.length a2, .slice b1 pb.length b2] 41 5 1 rfl).below (Below.refl _ _).drew).below hb7) (plc_oneCell _ _ _ _ _ _ _ _ _) ?_ ?_ ?_ hA.size ?_; rfl; rfl; decide; rfl; rfl; (intro h; cases h); (unfold maxLen; omega); omega; intro ad8 c8 w8 hown8 hg8 hat8; have hB2 : Below w6.heap.size w6 w8 := below_app hA hg8 hA.size hown7; have hB1 := below_undrew hB2))
                        | ((refine step_appAt ?_ (.tmp 129) (.tmp 132) 22 ?_ w6.heap.size 41 (.agg #[.int .i64 0, .int .i64 0, .int .i64 0, .slice none 0 0, .slice none 0 0]) 5 72 Try.underlying22 infoPlace rfl ?_ ad8 (j + 1) c8 _ ?_ hown8 Lx (n - j) (c - j) (plcs (kv.drop j) (Q.drop j)) ?_ (hrB.below hB2) hoB hnx ?_ ?_ hB2.size ?_; rfl; rfl; decide; rfl; rfl; (unfold maxLen; omega); omega; intro ad9 c9 w9 hown9 hg9 hat9; have hC : Below w6.heap.size w6 w9 := below_app hB2 hg9 hB2.size hown8; have hC1 := below_undrew hC)))
                    all_goals
                      have hqi : insT ⟨pn, pl, pc, pa, pb⟩ Q = Q.take j ++ [⟨pn, pl, pc, pa, pb⟩] ++ Q.drop j := by rw [insT_eq, HPL.out]
                      have hown9' := owns_mono (base' := w.heap.size + 3) hown9 hrwb
                      rw [hnO.out] at hown9'
                      have HP9 := Lib.hid (PlsR.put (p := ⟨pn, pl, pc, pa, pb⟩) hkv hjl HEACH.out HPC.out hown9')
                      rw [← hnO.out, ← hqi] at HP9
                      have HST9 := HST
                      have HN9 : Hid (j + 1 + (n - j) = (insT ⟨pn, pl, pc, pa, pb⟩ Q).length) := by
                        show _ = _
                        rw [(insT_perm _ _).length_eq, List.length_cons, ← hnO.out]
                        omega
                      have HB9 := Lib.hid (HBQ.out.trans ((hb6.trans (hC.mono hz6)).mono hz))
                      have hz9 : w.heap.size + 3 ≤ w9.heap.size := Nat.le_trans hrwb hC.size
                      clear u0 u1 hqi hown9' hown9 hg9 hat9 hC hC1 hown8 hg8 hat8 hB2 hB1 hown7 hb7 hA hA1 hsl hnx hrA hrB hoA hoB hnl hcl hcm hjc
                      go_wp2
                      go_roundg (add.length - (k + 1))
                      case measure => omega
                      case rel => exact ⟨k + 1, j + 1 + (n - j), c9, ad9, insT ⟨pn, pl, pc, pa, pb⟩ Q, by omega, rfl, by go_num, rfl, by omega, HST9, HN9, HP9, HB9.out, hz9⟩
              · have hkk : ¬ (k : Int) < (add.length : Int) := by omega
                have hbw' := hbw
                have hq := HO.out
                rw [List.take_of_length_le (by omega)] at hq
                have HQ := Lib.hid hq
                have e0 : _ = some (Value.int .i64 elog) := cell_of_row _ (w.heap.size + 1) 0 _ _ _ hm1; have e1 : _ = some (Value.int .i64 enext) := cell_of_row _ (w.heap.size + 1) 1 _ _ _ hm1; have e2 : _ = some (Value.int .i64 eseq) := cell_of_row _ (w.heap.size + 1) 2 _ _ _ hm1; have e3 : _ = some (Value.slice aa add.length ac) := cell_of_row _ (w.heap.size + 1) 3 _ _ _ hm1; have e4 : _ = some (Value.slice da dr.length dc) := cell_of_row _ (w.heap.size + 1) 4 _ _ _ hm1
                have HZ := Lib.hid hm2
                have HBQ := Lib.hid hbw
                clear hq HO hm0 hm1 hm2 HM0 HM1 HM2 hbw
                have hpl := HP.out.pls (below_then HBZ.out hbw' HBZ.out.size)
                have HCC : Hid (checkL apartL elog enext eseq Q = checkV (madeE ⟨log, next, seq, l⟩ ⟨elog, enext, eseq, add, dr⟩)) := by
                  show _ = checkL apartL elog enext eseq (sortT (keptL dr l) add)
                  rw [HKO.out, HQ.out]
                obtain ⟨b, hb'⟩ : ∃ b, checkV (madeE ⟨log, next, seq, l⟩ ⟨elog, enext, eseq, add, dr⟩) = b := ⟨_, rfl⟩
                have HCM := Lib.hid hb'
                have hQl : Q.length ≤ 1000000 := by rw [← hnO.out]; omega
                have HPL := Lib.hid hpl
                clear hb' hpl hbw' hb
                cases b with
                | false =>
                  obtain ⟨rfl, rfl⟩ : X = vn0 ∧ z = 81 := by
                    have := HX.out
                    rw [applyL_not HCV.out HCM.out] at this
                    cases this
                    exact ⟨rfl, rfl⟩
                  go_wp2_with (first
                    | (have HN7 := Lib.hid (heap_alloc_new wo (Obj.cells #[Value.int .i64 0, .int .i64 0, .int .i64 0, .slice none 0 0] 24)); refine wpList_store_row (o := ⟨none, .store 24 (.tmp 12) (.tmp 141), _, _, _, _⟩) (by rfl) 24 (.tmp 12) (.tmp 141) (by rfl) wo.heap.size _ (by rfl) (by rfl) 24 _ HN7.out (by kernel_rfl) (by rfl) (by simp [Value.oneCell']) ?_; rw [World.setRow_alloc_new]; have hn7 := heap_alloc_new wo (Obj.cells #[Value.int .i64 elog, .int .i64 enext, .int .i64 eseq, .slice ad n c] 24); have m0 := cell_of_row _ wo.heap.size 0 _ _ _ hn7; have m1 := cell_of_row _ wo.heap.size 1 _ _ _ hn7; have m2 := cell_of_row _ wo.heap.size 2 _ _ _ hn7; have m3 := cell_of_row _ wo.heap.size 3 _ _ _ hn7; have HN8 := Lib.hid hn7; clear HN7 hn7)
                    | (go_at_call 14; go_must (refine rcheck_any elog enext eseq _ Q false (HCC.out.trans HCM.out) hQl _ (HPL.out.below ((Below.refl wo.heap.size wo).alloc (Nat.le_refl _) _)) _ ?_); intro w8 hb8; unfold errI; have hx8 : Below wo.heap.size wo w8 := below_tra ((Below.refl wo.heap.size wo).alloc (Nat.le_refl _) _) hb8; have hn8 := row_on HN8.out hb8; have n0' := cell_of_row w8 wo.heap.size 0 _ _ _ hn8; have n1' := cell_of_row w8 wo.heap.size 1 _ _ _ hn8; have n2' := cell_of_row w8 wo.heap.size 2 _ _ _ hn8; have n3' := cell_of_row w8 wo.heap.size 3 _ _ _ hn8; have HZ8 := Lib.hid (row_on HZ.out hx8); have HPS8 := Lib.hid (HP.out.below hx8); have HB8 := Lib.hid (below_then HBQ.out hx8 HBQ.out.size); clear hn8 hb8 hx8)
                    | (refine wpList_store_row (o := ⟨none, .store 24 (.tmp 4) (.tmp 145), _, _, _, _⟩) (by rfl) 24 (.tmp 4) (.tmp 145) (by rfl) (w.heap.size + 2) _ (by rfl) (by rfl) 24 _ (HZ8).out (by kernel_rfl) (by rfl) (by simp [Value.oneCell']) ?_))
                  refine bodyPost_ret (res_one rfl _ _ (w.heap.size + 2) 24 #[Value.int .i64 0, .int .i64 0, .int .i64 0, .slice none 0 0] (0, 0) _ (.int .i64 81) rfl rfl (setRow_heap _ (w.heap.size + 2) _ _ _ _ (HZ8).out) Try.underlying24 rfl (by kernel_rfl)) rfl ?_
                  exact HR.out _ _ (PlsR.nil _ _ _) (below_setRow (HB8).out (by omega) _)
                | true =>
                  obtain ⟨rfl, rfl⟩ : X = madeE ⟨log, next, seq, l⟩ ⟨elog, enext, eseq, add, dr⟩ ∧ z = 0 := by
                    have := HX.out
                    have h1 : onceK [] dr = true := HO0.out
                    have h2 := HQN.out
                    rw [applyL_ok HCV.out (okE_all (e := ⟨elog, enext, eseq, add, dr⟩) (by show ¬ elog < log; omega) (by show ¬ enext < next; omega) (by show ¬ eseq < seq; omega) h1 (by show (keptL dr l).length + dr.length = l.length; rw [HKO.out, ← hnO0.out]; exact HLEN.out)) HCM.out] at this
                    cases this
                    exact ⟨rfl, rfl⟩
                  go_wp2_with (first
                    | (have HN7 := Lib.hid (heap_alloc_new wo (Obj.cells #[Value.int .i64 0, .int .i64 0, .int .i64 0, .slice none 0 0] 24)); refine wpList_store_row (o := ⟨none, .store 24 (.tmp 12) (.tmp 141), _, _, _, _⟩) (by rfl) 24 (.tmp 12) (.tmp 141) (by rfl) wo.heap.size _ (by rfl) (by rfl) 24 _ HN7.out (by kernel_rfl) (by rfl) (by simp [Value.oneCell']) ?_; rw [World.setRow_alloc_new]; have hn7 := heap_alloc_new wo (Obj.cells #[Value.int .i64 elog, .int .i64 enext, .int .i64 eseq, .slice ad n c] 24); have m0 := cell_of_row _ wo.heap.size 0 _ _ _ hn7; have m1 := cell_of_row _ wo.heap.size 1 _ _ _ hn7; have m2 := cell_of_row _ wo.heap.size 2 _ _ _ hn7; have m3 := cell_of_row _ wo.heap.size 3 _ _ _ hn7; have HN8 := Lib.hid hn7; clear HN7 hn7)
                    | (go_at_call 14; go_must (refine rcheck_any elog enext eseq _ Q true (HCC.out.trans HCM.out) hQl _ (HPL.out.below ((Below.refl wo.heap.size wo).alloc (Nat.le_refl _) _)) _ ?_); intro w8 hb8; unfold errI; have hx8 : Below wo.heap.size wo w8 := below_tra ((Below.refl wo.heap.size wo).alloc (Nat.le_refl _) _) hb8; have hn8 := row_on HN8.out hb8; have n0' := cell_of_row w8 wo.heap.size 0 _ _ _ hn8; have n1' := cell_of_row w8 wo.heap.size 1 _ _ _ hn8; have n2' := cell_of_row w8 wo.heap.size 2 _ _ _ hn8; have n3' := cell_of_row w8 wo.heap.size 3 _ _ _ hn8; have HZ8 := Lib.hid (row_on HZ.out hx8); have HPS8 := Lib.hid (HP.out.below hx8); have HB8 := Lib.hid (below_then HBQ.out hx8 HBQ.out.size); clear hn8 hb8 hx8)
                    | (refine wpList_store_row (o := ⟨none, .store 24 (.tmp 4) (.tmp 146), _, _, _, _⟩) (by rfl) 24 (.tmp 4) (.tmp 146) (by rfl) (w.heap.size + 2) _ (by rfl) (by rfl) 24 _ (HZ8).out (by kernel_rfl) (by rfl) (by simp [Value.oneCell']) ?_))
                  have hps9 : PlsR w0 (w8.setRow (w.heap.size + 2) #[Value.int .i64 elog, .int .i64 enext, .int .i64 eseq, .slice ad n c]) (w.heap.size + 3) (.slice ad n c) Q := HPS8.out.setRow_low (by omega)
                  have hts : Q = sortT (keptL dr l) add := by rw [HKO.out]; exact HQ.out.symm
                  rw [hts] at hps9
                  refine bodyPost_ret (res_one rfl _ _ (w.heap.size + 2) 24 #[Value.int .i64 elog, .int .i64 enext, .int .i64 eseq, .slice ad n c] (0, 0) _ (.int .i64 0) rfl rfl (setRow_heap _ (w.heap.size + 2) _ _ _ _ (HZ8).out) Try.underlying24 rfl (by kernel_rfl)) rfl ?_
                  exact HR.out _ _ (hps9.mono (by omega)) (below_setRow HB8.out (by omega) _)
      · have hd : ((n : Int) + (dr.length : Int) != (l.length : Int)) = true := by simp; omega
        have hx := okE_len (v := ⟨log, next, seq, l⟩) (e := ⟨elog, enext, eseq, add, dr⟩) (by show (keptL dr l).length + dr.length ≠ l.length; rw [HKO.out, ← hnO.out]; exact hlen)
        clear hlen
        obtain ⟨rfl, rfl⟩ : X = vn0 ∧ z = 81 := by
          have := HX.out
          rw [applyL_no HCV.out hx] at this
          cases this
          exact ⟨rfl, rfl⟩
        clear hx HX
        go_wp2_with (first | (refine wpList_store_row (o := ⟨none, .store 24 (.tmp 4) (.tmp 73), _, _, _, _⟩) (by rfl) 24 (.tmp 4) (.tmp 73) (by rfl) (w.heap.size + 2) _ (by rfl) (by rfl) 24 _ (HQ2).out (by kernel_rfl) (by rfl) (by simp [Value.oneCell']) ?_))
        refine bodyPost_ret (res_one rfl _ _ (w.heap.size + 2) 24 #[Value.int .i64 0, .int .i64 0, .int .i64 0, .slice none 0 0] (0, 0) _ (.int .i64 81) rfl rfl (setRow_heap _ (w.heap.size + 2) _ _ _ _ (HQ2).out) Try.underlying24 rfl (by kernel_rfl)) rfl ?_
        exact HR.out _ _ (PlsR.nil _ _ _) (below_setRow (HBW).out (by omega) _)

theorem rapply_any (log next seq elog enext eseq : Int) (v av dv : Value) (l add : List Pl) (dr : List Int) (X : Vn) (z : Int) (hX : applyL ⟨log, next, seq, l⟩ ⟨elog, enext, eseq, add, dr⟩ = (X, z))
    (hl : l.length ≤ 100000) (hal : add.length ≤ 100000) (hdl : dr.length ≤ 100000) (w0 w : World) (hbz : Below w0.heap.size w0 w) (hv : PlsK w0 w v l) (hav : PlsK w0 w av add) (hdv : Is w dv dr) (R : Ending → World → Prop)
    (hR : ∀ xv w', PlsR w0 w' w.heap.size xv X.tabs → Below w.heap.size w w' → R (.returned (.tuple #[.agg #[.int .i64 X.log, .int .i64 X.next, .int .i64 X.seq, xv], .int .i64 z])) w') :
    Calls Try.prog 11 #[.agg #[.int .i64 log, .int .i64 next, .int .i64 seq, v], .agg #[.int .i64 elog, .int .i64 enext, .int .i64 eseq, av, dv]] w R := by
  cases hok : checkV ⟨log, next, seq, l⟩ with
  | false => exact rapply_bad log next seq elog enext eseq v av dv l add dr X z hX hl hal hdl hok w0 w hbz hv hav hdv R hR
  | true => exact rapply_main log next seq elog enext eseq v av dv l add dr X z hX hl hal hdl hok w0 w hbz hv hav hdv R hR
end Go.Proofs.Ytpodgocmcnkfdaa
