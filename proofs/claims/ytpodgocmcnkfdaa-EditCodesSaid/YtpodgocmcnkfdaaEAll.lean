/- edit.All, walked: edits, one behind the other. -/
import Derived.Test.YtpodgocmcnkfdaaEds
namespace Go.Proofs.Ytpodgocmcnkfdaa
open Go.RowKit

set_option maxRecDepth 1000000 in
set_option maxHeartbeats 6400000 in
theorem eall_any (v : Value) (l : List Ed) (X : Vn) (z : Int) (hX : allL vn0 l = (X, z)) (hs : SmallE l) (hl : l.length ≤ 1000) (w : World) (hv : Eds w v l) (R : Ending → World → Prop)
    (hR : ∀ xv w', PlsO w' w.heap.size xv X.tabs → Below w.heap.size w w' → R (.returned (.tuple #[.agg #[.int .i64 X.log, .int .i64 X.next, .int .i64 X.seq, xv], .int .i64 z])) w') :
    Calls Try.prog 18 #[v] w R := by
  have HR := Lib.hid hR
  have HX0 : Hid (allL vn0 (l.drop 0) = (X, z)) := hX
  have HV := Lib.hid hv
  obtain ⟨va, vc, rfl, v1, v2, v3, _⟩ := hv
  have N0 := Lib.hid (heap_alloc_new (w.alloc zvO) zvO)
  unfold zvO at N0
  clear hR hX
  go_enter Try.func18, Try.ntmps18
  go_wp2
  have n0 : ((w.alloc (Obj.cells #[Value.int .i64 0, .int .i64 0, .int .i64 0, .slice none 0 0] 24)).alloc (Obj.cells #[Value.int .i64 0, .int .i64 0, .int .i64 0, .slice none 0 0] 24)).heap[w.heap.size]? = some (Obj.cells #[Value.int .i64 0, .int .i64 0, .int .i64 0, .slice none 0 0] 24) := block_alloc (heap_alloc_new w _)
  have n1 : ((w.alloc (Obj.cells #[Value.int .i64 0, .int .i64 0, .int .i64 0, .slice none 0 0] 24)).alloc (Obj.cells #[Value.int .i64 0, .int .i64 0, .int .i64 0, .slice none 0 0] 24)).heap[w.heap.size + 1]? = some (Obj.cells #[Value.int .i64 0, .int .i64 0, .int .i64 0, .slice none 0 0] 24) := by
    have h := heap_alloc_new (w.alloc (Obj.cells #[Value.int .i64 0, .int .i64 0, .int .i64 0, .slice none 0 0] 24)) (Obj.cells #[Value.int .i64 0, .int .i64 0, .int .i64 0, .slice none 0 0] 24)
    rw [show (w.alloc (Obj.cells #[Value.int .i64 0, .int .i64 0, .int .i64 0, .slice none 0 0] 24)).heap.size = w.heap.size + 1 by simp] at h
    exact h
  have hb1 : Below w.heap.size w ((w.alloc (Obj.cells #[Value.int .i64 0, .int .i64 0, .int .i64 0, .slice none 0 0] 24)).alloc (Obj.cells #[Value.int .i64 0, .int .i64 0, .int .i64 0, .slice none 0 0] 24)) := ((Below.refl w.heap.size w).alloc (Nat.le_refl _) _).alloc (by simp) _
  have hz1 : w.heap.size + 2 ≤ ((w.alloc (Obj.cells #[Value.int .i64 0, .int .i64 0, .int .i64 0, .slice none 0 0] 24)).alloc (Obj.cells #[Value.int .i64 0, .int .i64 0, .int .i64 0, .slice none 0 0] 24)).heap.size := by simp
  generalize ((w.alloc (Obj.cells #[Value.int .i64 0, .int .i64 0, .int .i64 0, .slice none 0 0] 24)).alloc (Obj.cells #[Value.int .i64 0, .int .i64 0, .int .i64 0, .slice none 0 0] 24)) = w1 at n0 n1 hb1 hz1 ⊢
  have HN0 := Lib.hid n0
  have HN1 := Lib.hid n1
  have HB1 := Lib.hid hb1
  clear N0 n0 n1 hb1
  go_loopg [12] l.length (fun gn i wr => ∃ (k c : Nat) (ad : Option Addr) (V : Vn), k ≤ l.length ∧ gn = l.length - k ∧ i = .int .i64 k ∧ V.tabs.length ≤ 20 * k ∧ Hid (allL V (l.drop k) = (X, z)) ∧ Hid (PlsO wr (w.heap.size + 2) (.slice ad V.tabs.length c) V.tabs) ∧ Hid (wr.heap[w.heap.size + 1]? = some (Obj.cells #[.int .i64 V.log, .int .i64 V.next, .int .i64 V.seq, .slice ad V.tabs.length c] 24)) ∧ Bx (w.heap.size + 2) (w.heap.size + 1) w1 wr ∧ w.heap.size + 2 ≤ wr.heap.size)
  case atStart => exact ⟨0, 0, none, vn0, Nat.zero_le _, by omega, rfl, Nat.zero_le _, HX0, PlsO.nil _ _, HN1, Bx.refl _ _ _, hz1⟩
  case round =>
    obtain ⟨k, c, ad, V, hk, rfl, rfl, hvl, HA, HP, HN, hbx, hz⟩ := hrel
    clear HX0 HN1
    have hbw : Below w.heap.size w wr := HB1.out.trans (hbx.low (by omega) (by omega))
    have hm0 := hbx.row HN0.out (by omega) (by omega)
    by_cases hlt : k < l.length
    · have hkk : (k : Int) < (l.length : Int) := by omega
      obtain ⟨va', vc', ee, _, _, _, v4⟩ := HV.out
      simp only [Value.slice.injEq] at ee
      obtain ⟨rfl, -, rfl⟩ := ee
      obtain ⟨vb, vo, rfl, v5⟩ := v4 (by omega)
      obtain ⟨px, py, q5, hpc⟩ := v5 k hlt
      obtain ⟨p0, p1, p2, p3, p4⟩ := q5.below hbw
      have hat := allL_at V l k hlt
      rw [HA.out] at hat
      have hsm := hs l[k] (List.getElem_mem _)
      have hln := applyL_len V l[k]
      obtain ⟨e, he⟩ : ∃ e, l[k] = e := ⟨_, rfl⟩
      rw [he] at p0 p1 p2 hpc hat hsm hln
      have s1 := hpc.shape
      have HPC := Lib.hid hpc
      obtain ⟨⟨U, y⟩, hu⟩ : ∃ q, applyL V e = q := ⟨_, rfl⟩
      rw [hu] at hat hln
      have HU := Lib.hid hu
      have HAT := Lib.hid hat
      obtain ⟨hsa, hsd⟩ := hsm
      clear v4 v5 he hpc hat hu q5 HA
      obtain ⟨el, en, es, ea, ed⟩ := e
      obtain ⟨vl, vn, vs, vt⟩ := V
      simp only at *
      obtain ⟨⟨a1, a2, rfl⟩, b1, b2, rfl⟩ := s1
      have hba := (Below.refl wr.heap.size wr).alloc (Nat.le_refl _) (Obj.cells #[Value.int .i64 el, .int .i64 en, .int .i64 es, .slice a1 ea.length a2, .slice b1 ed.length b2] 27)
      have hn2 := block_alloc (o' := (Obj.cells #[Value.int .i64 el, .int .i64 en, .int .i64 es, .slice a1 ea.length a2, .slice b1 ed.length b2] 27)) HN.out
      have g0 := cell_of_row _ (w.heap.size + 1) 0 _ _ _ hn2
      have g1 := cell_of_row _ (w.heap.size + 1) 1 _ _ _ hn2
      have g2 := cell_of_row _ (w.heap.size + 1) 2 _ _ _ hn2
      have g3 := cell_of_row _ (w.heap.size + 1) 3 _ _ _ hn2
      have HBA := Lib.hid hba
      have HN2 := Lib.hid hn2
      have HBW := Lib.hid hbw
      have HP2 := Lib.hid (HP.out.below hba)
      have HPC2 := Lib.hid (HPC.out.below (below_then hbw hba hbw.size))
      have HX2 := Lib.hid (hbx.below hba hz)
      have hza : w.heap.size + 2 ≤ (wr.alloc (Obj.cells #[Value.int .i64 el, .int .i64 en, .int .i64 es, .slice a1 ea.length a2, .slice b1 ed.length b2] 27)).heap.size := by simp; omega
      have HM0 := Lib.hid (hba.block w.heap.size (by omega) |>.trans hm0)
      clear hba hn2 hbw hbx hm0
      cases hy : decide (y = 0) with
      | true =>
        have hy0 : y = 0 := of_decide_eq_true hy
        subst hy0
        have HA2 : Hid (allL U (l.drop (k + 1)) = (X, z)) := by
          have := HAT.out
          rw [if_pos rfl] at this
          exact this.symm
        go_wp2_with (first
          | (go_at_call 10; go_must (refine eapply_any vl vn vs el en es _ _ _ vt ea ed U _ HU.out (by omega) (by omega) (by omega) HPC2.out.wf _ HP2.out.pls HPC2.out.ha HPC2.out.hd _ ?_); intro xv w5 hps hb5; obtain ⟨xa, xc, rfl⟩ := hps.shape; have HPS := Lib.hid hps; have HB5 := Lib.hid hb5; have HN5 := Lib.hid (row_on HN2.out hb5); have HM5 := Lib.hid (row_on HM0.out hb5); have HN6 := Lib.hid (block_alloc (o' := (Obj.cells #[Value.int .i64 U.log, .int .i64 U.next, .int .i64 U.seq, .slice xa U.tabs.length xc] 24)) (row_on HN2.out hb5)); have HM6 := Lib.hid (block_alloc (o' := (Obj.cells #[Value.int .i64 U.log, .int .i64 U.next, .int .i64 U.seq, .slice xa U.tabs.length xc] 24)) (row_on HM0.out hb5)); have hz5 := Nat.le_trans hza hb5.size; clear hps hb5)
          | (refine wpList_store_row (o := ⟨none, .store 24 (.tmp 4) (.tmp 26), _, _, _, _⟩) (by rfl) 24 (.tmp 4) (.tmp 26) (by rfl) (w.heap.size + 1) _ (by rfl) (by rfl) 24 _ (HN6).out (by kernel_rfl) (by rfl) (by simp [Value.oneCell']) ?_))
        have hr7 := setRow_heap (w5.alloc (Obj.cells #[Value.int .i64 U.log, .int .i64 U.next, .int .i64 U.seq, .slice xa U.tabs.length xc] 24)) (w.heap.size + 1) _ #[Value.int .i64 U.log, .int .i64 U.next, .int .i64 U.seq, .slice xa U.tabs.length xc] _ _ HN6.out
        have HR7 := Lib.hid hr7
        have HB55 := HB5.out
        have HX7 := Lib.hid (((HX2.out.below HB55 hza).below ((Below.refl w5.heap.size w5).alloc (Nat.le_refl _) (Obj.cells #[Value.int .i64 U.log, .int .i64 U.next, .int .i64 U.seq, .slice xa U.tabs.length xc] 24)) hz5).setRow #[Value.int .i64 U.log, .int .i64 U.next, .int .i64 U.seq, .slice xa U.tabs.length xc])
        have HP7 := Lib.hid (((HPS.out.mono hza).below ((Below.refl w5.heap.size w5).alloc (Nat.le_refl _) (Obj.cells #[Value.int .i64 U.log, .int .i64 U.next, .int .i64 U.seq, .slice xa U.tabs.length xc] 24))).setRow_low (K := w.heap.size + 1) (cs := #[Value.int .i64 U.log, .int .i64 U.next, .int .i64 U.seq, .slice xa U.tabs.length xc]) (by omega))
        have hz7 : w.heap.size + 2 ≤ ((w5.alloc (Obj.cells #[Value.int .i64 U.log, .int .i64 U.next, .int .i64 U.seq, .slice xa U.tabs.length xc] 24)).setRow (w.heap.size + 1) #[Value.int .i64 U.log, .int .i64 U.next, .int .i64 U.seq, .slice xa U.tabs.length xc]).heap.size := by simp; omega
        clear hr7 HB55 g0 g1 g2 g3
        go_wp2
        go_roundg (l.length - (k + 1))
        case measure => omega
        case rel => exact ⟨k + 1, xc, xa, U, by omega, rfl, by go_num, by omega, HA2, HP7, HR7, HX7.out, hz7⟩
      | false =>
        have hy0 : ¬ y = 0 := of_decide_eq_false hy
        have hd : (y != 0) = true := by simpa using hy0
        obtain ⟨rfl, rfl⟩ : X = vn0 ∧ z = y := by
          have := HAT.out
          rw [if_neg hy0] at this
          cases this
          exact ⟨rfl, rfl⟩
        go_wp2_with (first
          | (go_at_call 10; go_must (refine eapply_any vl vn vs el en es _ _ _ vt ea ed U _ HU.out (by omega) (by omega) (by omega) HPC2.out.wf _ HP2.out.pls HPC2.out.ha HPC2.out.hd _ ?_); intro xv w5 hps hb5; obtain ⟨xa, xc, rfl⟩ := hps.shape; have HPS := Lib.hid hps; have HB5 := Lib.hid hb5; have HN5 := Lib.hid (row_on HN2.out hb5); have HM5 := Lib.hid (row_on HM0.out hb5); have HN6 := Lib.hid (block_alloc (o' := (Obj.cells #[Value.int .i64 U.log, .int .i64 U.next, .int .i64 U.seq, .slice xa U.tabs.length xc] 24)) (row_on HN2.out hb5)); have HM6 := Lib.hid (block_alloc (o' := (Obj.cells #[Value.int .i64 U.log, .int .i64 U.next, .int .i64 U.seq, .slice xa U.tabs.length xc] 24)) (row_on HM0.out hb5)); have hz5 := Nat.le_trans hza hb5.size; clear hps hb5)
          | (refine wpList_store_row (o := ⟨none, .store 24 (.tmp 2) (.tmp 24), _, _, _, _⟩) (by rfl) 24 (.tmp 2) (.tmp 24) (by rfl) (w.heap.size) _ (by rfl) (by rfl) 24 _ (HM6).out (by kernel_rfl) (by rfl) (by simp [Value.oneCell']) ?_))
        refine bodyPost_ret (res_one rfl _ _ w.heap.size 24 #[Value.int .i64 0, .int .i64 0, .int .i64 0, .slice none 0 0] (0, 0) _ (.int .i64 z) rfl rfl (setRow_heap _ w.heap.size _ _ _ _ HM6.out) Try.underlying24 rfl (by kernel_rfl)) rfl ?_
        exact HR.out _ _ (PlsO.nil _ _) (below_setRow ((below_then (below_then HBW.out HBA.out HBW.out.size) HB5.out (by omega)).alloc (by omega) _) (Nat.le_refl _) _)
    · have hkk : ¬ (k : Int) < (l.length : Int) := by omega
      obtain ⟨rfl, rfl⟩ : X = V ∧ z = 0 := by
        have := HA.out
        rw [allL_end _ _ _ (by omega)] at this
        cases this
        exact ⟨rfl, rfl⟩
      have g0 := cell_of_row _ (w.heap.size + 1) 0 _ _ _ HN.out
      have g1 := cell_of_row _ (w.heap.size + 1) 1 _ _ _ HN.out
      have g2 := cell_of_row _ (w.heap.size + 1) 2 _ _ _ HN.out
      have g3 := cell_of_row _ (w.heap.size + 1) 3 _ _ _ HN.out
      have HM := Lib.hid hm0
      have HBW := Lib.hid hbw
      clear hm0 hbw
      go_wp2_with (first
        | (refine wpList_store_row (o := ⟨none, .store 24 (.tmp 2) (.tmp 28), _, _, _, _⟩) (by rfl) 24 (.tmp 2) (.tmp 28) (by rfl) (w.heap.size) _ (by rfl) (by rfl) 24 _ (HM).out (by kernel_rfl) (by rfl) (by simp [Value.oneCell']) ?_))
      refine bodyPost_ret (res_one rfl _ _ w.heap.size 24 #[Value.int .i64 X.log, .int .i64 X.next, .int .i64 X.seq, .slice ad X.tabs.length c] (0, 0) _ (.int .i64 0) rfl rfl (setRow_heap _ w.heap.size _ _ _ _ HM.out) Try.underlying24 rfl (by kernel_rfl)) rfl ?_
      exact HR.out _ _ ((HP.out.setRow_low (by omega)).mono (by omega)) (below_setRow HBW.out (Nat.le_refl _) _)
end Go.Proofs.Ytpodgocmcnkfdaa
