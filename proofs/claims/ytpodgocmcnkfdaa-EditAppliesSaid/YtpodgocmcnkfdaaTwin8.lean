/- A version in memory of its own (Twin): walked. -/
import Derived.Test.YtpodgocmcnkfdaaCut8
namespace Go.Proofs.Ytpodgocmcnkfdaa
open Go.RowKit

set_option maxRecDepth 1000000 in
set_option maxHeartbeats 6400000 in
theorem twin8_any (log next seq : Int) (v : Value) (l : List Pl) (hl : l.length ≤ 100000) (w : World) (hv : Pls w v l) (R : Ending → World → Prop)
    (hR : ∀ v' w', PlsO w' w.heap.size v' l → Below w.heap.size w w' → R (.returned (.agg #[.int .i64 log, .int .i64 next, .int .i64 seq, v'])) w') :
    Calls Try.prog 9 #[.agg #[.int .i64 log, .int .i64 next, .int .i64 seq, v]] w R := by
  have HR := Lib.hid hR
  have HV := Lib.hid hv
  obtain ⟨va, vc, rfl, v1, v2, v3, _⟩ := hv
  clear hR
  go_enter Try.func9, Try.ntmps9
  go_wp2
  have hb1 : Below w.heap.size w (((w.alloc (Obj.cells #[Value.int .i64 log, .int .i64 next, .int .i64 seq, .slice va l.length vc] 24)).alloc (Obj.cells #[Value.int .i64 0, .int .i64 0, .int .i64 0, .slice none 0 0] 24)).alloc (Obj.cells #[Value.int .i64 log, .int .i64 next, .int .i64 seq, .slice none 0 0] 24)) := (((Below.refl w.heap.size w).alloc (Nat.le_refl _) _).alloc (by simp) _).alloc (by simp; omega) _
  have n0 : (((w.alloc (Obj.cells #[Value.int .i64 log, .int .i64 next, .int .i64 seq, .slice va l.length vc] 24)).alloc (Obj.cells #[Value.int .i64 0, .int .i64 0, .int .i64 0, .slice none 0 0] 24)).alloc (Obj.cells #[Value.int .i64 log, .int .i64 next, .int .i64 seq, .slice none 0 0] 24)).heap[w.heap.size]? = _ := block_alloc (block_alloc (heap_alloc_new w _))
  have n1 : (((w.alloc (Obj.cells #[Value.int .i64 log, .int .i64 next, .int .i64 seq, .slice va l.length vc] 24)).alloc (Obj.cells #[Value.int .i64 0, .int .i64 0, .int .i64 0, .slice none 0 0] 24)).alloc (Obj.cells #[Value.int .i64 log, .int .i64 next, .int .i64 seq, .slice none 0 0] 24)).heap[w.heap.size + 1]? = some (Obj.cells #[Value.int .i64 0, .int .i64 0, .int .i64 0, .slice none 0 0] 24) := by
    have h := heap_alloc_new (w.alloc (Obj.cells #[Value.int .i64 log, .int .i64 next, .int .i64 seq, .slice va l.length vc] 24)) (Obj.cells #[Value.int .i64 0, .int .i64 0, .int .i64 0, .slice none 0 0] 24)
    rw [show (w.alloc (Obj.cells #[Value.int .i64 log, .int .i64 next, .int .i64 seq, .slice va l.length vc] 24)).heap.size = w.heap.size + 1 by simp] at h
    exact block_alloc h
  have n2 : (((w.alloc (Obj.cells #[Value.int .i64 log, .int .i64 next, .int .i64 seq, .slice va l.length vc] 24)).alloc (Obj.cells #[Value.int .i64 0, .int .i64 0, .int .i64 0, .slice none 0 0] 24)).alloc (Obj.cells #[Value.int .i64 log, .int .i64 next, .int .i64 seq, .slice none 0 0] 24)).heap[w.heap.size + 1 + 1]? = some (Obj.cells #[Value.int .i64 log, .int .i64 next, .int .i64 seq, .slice none 0 0] 24) := by
    have h := heap_alloc_new ((w.alloc (Obj.cells #[Value.int .i64 log, .int .i64 next, .int .i64 seq, .slice va l.length vc] 24)).alloc (Obj.cells #[Value.int .i64 0, .int .i64 0, .int .i64 0, .slice none 0 0] 24)) (Obj.cells #[Value.int .i64 log, .int .i64 next, .int .i64 seq, .slice none 0 0] 24)
    rw [show ((w.alloc (Obj.cells #[Value.int .i64 log, .int .i64 next, .int .i64 seq, .slice va l.length vc] 24)).alloc (Obj.cells #[Value.int .i64 0, .int .i64 0, .int .i64 0, .slice none 0 0] 24)).heap.size = w.heap.size + 1 + 1 by simp] at h
    exact h
  have hz1 : w.heap.size + 1 + 1 + 1 ≤ (((w.alloc (Obj.cells #[Value.int .i64 log, .int .i64 next, .int .i64 seq, .slice va l.length vc] 24)).alloc (Obj.cells #[Value.int .i64 0, .int .i64 0, .int .i64 0, .slice none 0 0] 24)).alloc (Obj.cells #[Value.int .i64 log, .int .i64 next, .int .i64 seq, .slice none 0 0] 24)).heap.size := by simp
  generalize (((w.alloc (Obj.cells #[Value.int .i64 log, .int .i64 next, .int .i64 seq, .slice va l.length vc] 24)).alloc (Obj.cells #[Value.int .i64 0, .int .i64 0, .int .i64 0, .slice none 0 0] 24)).alloc (Obj.cells #[Value.int .i64 log, .int .i64 next, .int .i64 seq, .slice none 0 0] 24)) = w1 at hb1 n0 n1 n2 hz1 ⊢
  obtain ⟨N, hN⟩ : ∃ N, w.heap.size + 1 + 1 = N := ⟨_, rfl⟩
  rw [hN] at n2 hz1 ⊢
  have HN := Lib.hid hN
  have hN2 : w.heap.size + 2 ≤ N := by omega
  have HB1 := Lib.hid hb1
  have N0 := Lib.hid n0
  have N1 := Lib.hid n1
  have N2 := Lib.hid n2
  clear hN n0 n1 n2 hb1
  go_loopg [4] l.length (fun gn i wr => ∃ (k c : Nat) (ad : Option Addr), k ≤ l.length ∧ gn = l.length - k ∧ i = .int .i64 k ∧ Hid (PlsO wr (N + 1) (.slice ad k c) (l.take k)) ∧ Hid (wr.heap[N]? = some (Obj.cells #[.int .i64 log, .int .i64 next, .int .i64 seq, .slice ad k c] 24)) ∧ Bx (N + 1) N w1 wr ∧ N + 1 ≤ wr.heap.size)
  case atStart => exact ⟨0, 0, none, Nat.zero_le _, by omega, rfl, PlsO.nil _ _, N2, Bx.refl _ _ _, hz1⟩
  case round =>
    obtain ⟨k, c, ad, hk, rfl, rfl, HP, HN2, hbx, hz⟩ := hrel
    clear N2
    have hbw : Below w.heap.size w wr := HB1.out.trans (hbx.low (by omega) (by omega))
    have hm0 := hbx.row N0.out (by omega) (by omega)
    have g3 : _ = some (Value.slice va l.length vc) := cell_of_row _ w.heap.size 3 _ _ _ hm0
    by_cases hlt : k < l.length
    · have hkk : (k : Int) < (l.length : Int) := by omega
      obtain ⟨va', vc', ee, _, _, _, v4⟩ := HV.out
      simp only [Value.slice.injEq] at ee
      obtain ⟨rfl, -, rfl⟩ := ee
      obtain ⟨vb, vo, rfl, v5⟩ := v4 (by omega)
      obtain ⟨px, py, q5, hpc⟩ := v5 k hlt
      obtain ⟨p0, p1, p2, p3, p4⟩ := q5.below hbw
      have htk := List.take_succ_eq_append_getElem hlt
      obtain ⟨p, hp⟩ : ∃ p, l[k] = p := ⟨_, rfl⟩
      rw [hp] at p0 p1 p2 hpc htk
      have s1 := hpc.shape
      have HPC := Lib.hid hpc
      have HTK := Lib.hid htk
      have hla := hpc.hb.la
      have hlb := hpc.hb.lb
      have HPB := Lib.hid hpc.hb
      clear v4 v5 hp hpc htk q5
      obtain ⟨pn, pl, pc, pa, pb⟩ := p
      simp only at p0 p1 p2 p3 p4 s1 hla hlb
      obtain ⟨⟨a1, a2, rfl⟩, b1, b2, rfl⟩ := s1
      obtain ⟨kv, hkv, hrow, heach⟩ := HP.out
      have HNE : Hid (some wr.heap.size ≠ (Value.slice ad k c).ownBlock) := fun h => Nat.lt_irrefl _ (hrow.lt _ h.symm).2
      have hba := (Below.refl wr.heap.size wr).alloc (Nat.le_refl _) (Obj.cells #[Value.int .i64 pn, .int .i64 pl, .int .i64 pc, .slice a1 pa.length a2, .slice b1 pb.length b2] 41)
      have hrw := owns_below hrow hba
      have hea := fun (i : Nat) (h : i < (l.take k).length) => (heach i h).below hba
      have hnp := heap_alloc_new wr (Obj.cells #[Value.int .i64 pn, .int .i64 pl, .int .i64 pc, .slice a1 pa.length a2, .slice b1 pb.length b2] 41)
      have hn2 := block_alloc (o' := (Obj.cells #[Value.int .i64 pn, .int .i64 pl, .int .i64 pc, .slice a1 pa.length a2, .slice b1 pb.length b2] 41)) HN2.out
      have hx2 := hbx.below hba hz
      have hpc2 := HPC.out.below (below_then hbw hba hbw.size)
      have hza : wr.heap.size + 1 ≤ (wr.alloc (Obj.cells #[Value.int .i64 pn, .int .i64 pl, .int .i64 pc, .slice a1 pa.length a2, .slice b1 pb.length b2] 41)).heap.size := by simp
      have HRW := Lib.hid hrw
      have HEA := Lib.hid hea
      have HNP := Lib.hid hnp
      have HN22 := Lib.hid hn2
      have HX2 := Lib.hid hx2
      have HPC2 := Lib.hid hpc2
      clear hrw hea hnp hn2 hx2 hpc2 hba hrow heach hm0
      go_wp2_with fail
      generalize wr.alloc (Obj.cells #[Value.int .i64 pn, .int .i64 pl, .int .i64 pc, .slice a1 pa.length a2, .slice b1 pb.length b2] 41) = w2 at HRW HEA HNP HN22 HX2 HPC2 hza ⊢
      have hrw := owns_below HRW.out (Below.refl w2.heap.size w2).drew
      have hk0 := HPC2.out.hx.below (Below.refl w2.heap.size w2).drew
      have hv0 := HPC2.out.hy.below (Below.refl w2.heap.size w2).drew
      have HV0 := Lib.hid hv0
      have HK0 := Lib.hid hk0
      have HRW2 := Lib.hid hrw
      have c0 : w2.drew.cell? ⟨wr.heap.size, 3, none⟩ = some (Value.slice a1 pa.length a2) := cell_of_row w2.drew wr.heap.size 3 _ _ _ HNP.out
      have c1 : w2.drew.cell? ⟨wr.heap.size, 4, none⟩ = some (Value.slice b1 pb.length b2) := cell_of_row w2.drew wr.heap.size 4 _ _ _ HNP.out
      have HNPd : Hid (w2.drew.heap[wr.heap.size]? = some (Obj.cells #[Value.int .i64 pn, .int .i64 pl, .int .i64 pc, .slice a1 pa.length a2, .slice b1 pb.length b2] 41)) := HNP
      clear hrw hk0 hv0 p0 p1 p2 p3 p4 g3
      go_region_with (first
        | (go_at_call_of 33 (Value.slice a1 pa.length a2); refine twin_any _ pa _ HK0.out (by omega) _ ?_; intro ad1 c1' w5 hown5 hb5; have M0 := row_on HNPd.out hb5; have e0 := cell_of_row _ wr.heap.size 3 _ _ _ M0; have e1 := cell_of_row _ wr.heap.size 4 _ _ _ M0; change _ = some (Value.slice a1 pa.length a2) at e0; change _ = some (Value.slice b1 pb.length b2) at e1; have MM0 := Lib.hid M0; have HB5 := Lib.hid hb5; have HO5 := Lib.hid hown5; have HV5 := Lib.hid (HV0.out.below hb5); clear M0 hb5 hown5)
        | (go_at_call_of 33 (Value.slice b1 pb.length b2); refine twin_any _ pb _ HV5.out (by omega) _ ?_; intro ad2 c2' w6 hown6 hb6; have M0 := row_on MM0.out hb6; have f0 := cell_of_row _ wr.heap.size 3 _ _ _ M0; have f1 := cell_of_row _ wr.heap.size 4 _ _ _ M0; change _ = some (Value.slice a1 pa.length a2) at f0; change _ = some (Value.slice b1 pb.length b2) at f1; have g0 := frozen_block M0 3; have g1 := frozen_block M0 4; have MM1 := Lib.hid M0; have HB6 := Lib.hid (below_tra HB5.out hb6); have HO6 := Lib.hid hown6; have HO56 := Lib.hid (owns_below HO5.out hb6); have hz56 := hb6.size; clear M0 hb6 hown6))
      all_goals
        have P0 : ((w6.setCell ⟨wr.heap.size, 3, none⟩ (Value.slice ad1 pa.length c1')).setCell ⟨wr.heap.size, 4, none⟩ (Value.slice ad2 pb.length c2')).heap[wr.heap.size]? = some (Obj.cells #[Value.int .i64 pn, .int .i64 pl, .int .i64 pc, .slice ad1 pa.length c1', .slice ad2 pb.length c2'] 41) := by
          have h1 := heap_setCell_same w6 wr.heap.size 3 _ _ (Value.slice ad1 pa.length c1') MM1.out
          rw [heap_setCell_same _ wr.heap.size 4 _ _ (Value.slice ad2 pb.length c2') h1]
          rfl
        have HN22d : Hid (w2.drew.heap[N]? = some (Obj.cells #[.int .i64 log, .int .i64 next, .int .i64 seq, .slice ad k c] 24)) := HN22
        have n6 := row_on HN22d.out HB6.out
        have P1 : ((w6.setCell ⟨wr.heap.size, 3, none⟩ (Value.slice ad1 pa.length c1')).setCell ⟨wr.heap.size, 4, none⟩ (Value.slice ad2 pb.length c2')).heap[N]? = some (Obj.cells #[.int .i64 log, .int .i64 next, .int .i64 seq, .slice ad k c] 24) := by
          rw [heap_setCell_other _ _ _ _ (by show N ≠ wr.heap.size; omega), heap_setCell_other _ _ _ _ (by show N ≠ wr.heap.size; omega)]
          exact n6
        have kp1 : Keeps 5 w6 (w6.setCell ⟨wr.heap.size, 3, none⟩ (Value.slice ad1 pa.length c1')) := Keeps.setK MM1.out (by decide)
        have kp2 : Keeps 5 (w6.setCell ⟨wr.heap.size, 3, none⟩ (Value.slice ad1 pa.length c1')) ((w6.setCell ⟨wr.heap.size, 3, none⟩ (Value.slice ad1 pa.length c1')).setCell ⟨wr.heap.size, 4, none⟩ (Value.slice ad2 pb.length c2')) := Keeps.setK (heap_setCell_same w6 wr.heap.size 3 _ _ (Value.slice ad1 pa.length c1') MM1.out) (by decide)
        have hzd : N + 1 ≤ w2.drew.heap.size := by show N + 1 ≤ w2.heap.size; omega
        have hz5 : w2.drew.heap.size ≤ w5.heap.size := HB5.out.size
        have o1 := owns_mono (base' := N + 1) (kp2 _ _ _ _ (kp1 _ _ _ _ HO56.out)) hzd
        have o2 := owns_mono (base' := N + 1) (kp2 _ _ _ _ (kp1 _ _ _ _ HO6.out)) (by omega)
        have hrow7 := ownsRow_setCell_other (ownsRow_setCell_other (owns_below HRW2.out HB6.out) (a := ⟨wr.heap.size, 3, none⟩) (fun h => HNE.out h.symm) (Value.slice ad1 pa.length c1')) (a := ⟨wr.heap.size, 4, none⟩) (fun h => HNE.out h.symm) (Value.slice ad2 pb.length c2')
        have hea7 := fun (i : Nat) (h : i < (l.take k).length) => ((((HEA.out i h).below (Below.refl w2.heap.size w2).drew).below HB6.out).keeps kp1).keeps kp2
        have hx7 : Bx (N + 1) N w1 ((w6.setCell ⟨wr.heap.size, 3, none⟩ (Value.slice ad1 pa.length c1')).setCell ⟨wr.heap.size, 4, none⟩ (Value.slice ad2 pb.length c2')) := ((HX2.out.below (Below.refl w2.heap.size w2).drew (by omega)).below HB6.out hzd).below (((Below.refl (N + 1) w6).setCell (by show N + 1 ≤ wr.heap.size; omega) _).setCell (by show N + 1 ≤ wr.heap.size; omega) _) (Nat.le_refl _)
        have hz7 : N + 1 ≤ ((w6.setCell ⟨wr.heap.size, 3, none⟩ (Value.slice ad1 pa.length c1')).setCell ⟨wr.heap.size, 4, none⟩ (Value.slice ad2 pb.length c2')).heap.size := by simp [World.setCell]; omega
        clear kp1 kp2 n6 f0 f1 g0 g1 e0 e1 c0 c1 HN22d
        generalize ((w6.setCell ⟨wr.heap.size, 3, none⟩ (Value.slice ad1 pa.length c1')).setCell ⟨wr.heap.size, 4, none⟩ (Value.slice ad2 pb.length c2')) = w7 at P0 P1 o1 o2 hrow7 hea7 hx7 hz7 ⊢
        have k3 := cell_of_row w7 N 3 _ _ _ P1
        obtain ⟨u0, u1, u2, u3, u4⟩ := pb_of_row P0
        have hkl : (l.take k).length = k := by rw [List.length_take]; omega
        have HKL := Lib.hid hkl
        rw [hkl] at hrow7
        have HROW7 := Lib.hid hrow7
        have HEA7 := Lib.hid hea7
        have HP1 := Lib.hid P1
        have HX7 := Lib.hid hx7
        have HO := Lib.hid (And.intro o1 o2)
        clear hrow7 hea7 P0 P1 hx7 o1 o2 hkl
        go_wp2_with (at_builtin; go_must (refine wpList_appAt (by rfl) (.tmp 29) (.tmp 31) 22 (by rfl) (N + 1) 41 (.agg #[.int .i64 0, .int .i64 0, .int .i64 0, .slice none 0 0, .slice none 0 0]) 5 72 Try.underlying22 infoPlace rfl (by decide) ad k c _ (by rfl) (HROW7.out.alloc (Obj.cells #[Value.int .i64 pn, .int .i64 pl, .int .i64 pc, .slice ad1 pa.length c1', .slice ad2 pb.length c2'] 41)) (some ⟨w7.heap.size, 0, none⟩) 1 1 [Value.int .i64 pn, .int .i64 pl, .int .i64 pc, .slice ad1 pa.length c1', .slice ad2 pb.length c2'] (by rfl) (rd_lit w7 #[Value.int .i64 pn, .int .i64 pl, .int .i64 pc, .slice ad1 pa.length c1', .slice ad2 pb.length c2'] 41 5 1 rfl) (plc_oneCell _ _ _ _ _ _ _ _ _) (fun h => by cases h) (by unfold maxLen; omega) (by omega) (by simp; omega) ?_); intro ad8 c8 w8 hown8 hg8 _; have hb8 := below_app (Below.refl (N + 1) (w7.alloc (Obj.cells #[Value.int .i64 pn, .int .i64 pl, .int .i64 pc, .slice ad1 pa.length c1', .slice ad2 pb.length c2'] 41))) hg8 (by simp; omega) (HROW7.out.alloc (Obj.cells #[Value.int .i64 pn, .int .i64 pl, .int .i64 pc, .slice ad1 pa.length c1', .slice ad2 pb.length c2'] 41)); have n8 := (hb8.block N (by omega)).trans (block_alloc HP1.out); have f0 := frozen_block n8 3; have f1 := cell_of_row w8 N 3 _ _ _ n8; have N8 := Lib.hid n8; have HOWN8 := Lib.hid hown8; have HB8 := Lib.hid hb8; have HG8 := Lib.hid hg8; clear n8 hown8 hg8 hb8)
        have HR9 : Hid ((w8.setCell ⟨N, 3, none⟩ (Value.slice ad8 (k + 1) c8)).heap[N]? = some (Obj.cells #[.int .i64 log, .int .i64 next, .int .i64 seq, .slice ad8 (k + 1) c8] 24)) := by
          show _ = _
          rw [heap_setCell_same w8 N 3 _ _ (Value.slice ad8 (k + 1) c8) N8.out]
          rfl
        have HX9 := Lib.hid (((HX7.out.below ((Below.refl (N + 1) w7).alloc hz7 (Obj.cells #[Value.int .i64 pn, .int .i64 pl, .int .i64 pc, .slice ad1 pa.length c1', .slice ad2 pb.length c2'] 41)) (Nat.le_refl _)).below HB8.out (Nat.le_refl _)).set 3 (Value.slice ad8 (k + 1) c8))
        have hz9 : N + 1 ≤ (w8.setCell ⟨N, 3, none⟩ (Value.slice ad8 (k + 1) c8)).heap.size := by
          have := HG8.out.size
          simp [World.setCell] at this ⊢
          omega
        have hps : PlsO w8 (N + 1) (.slice ad8 (k + 1) c8) (l.take k ++ [⟨pn, pl, pc, pa, pb⟩]) :=
          PlsO.push (w := w7.alloc (Obj.cells #[Value.int .i64 pn, .int .i64 pl, .int .i64 pc, .slice ad1 pa.length c1', .slice ad2 pb.length c2'] 41)) (p := ⟨pn, pl, pc, pa, pb⟩) hkv (fun i h => (HEA7.out i h).below ((Below.refl _ _).alloc (Nat.le_refl _) (Obj.cells #[Value.int .i64 pn, .int .i64 pl, .int .i64 pc, .slice ad1 pa.length c1', .slice ad2 pb.length c2'] 41))) (keeps_grownP (HROW7.out.alloc (Obj.cells #[Value.int .i64 pn, .int .i64 pl, .int .i64 pc, .slice ad1 pa.length c1', .slice ad2 pb.length c2'] 41)) HG8.out (by decide)) (by rw [HKL.out]; exact HOWN8.out) ⟨owns_below HO.out.1 ((Below.refl _ _).alloc (Nat.le_refl _) (Obj.cells #[Value.int .i64 pn, .int .i64 pl, .int .i64 pc, .slice ad1 pa.length c1', .slice ad2 pb.length c2'] 41)), owns_below HO.out.2 ((Below.refl _ _).alloc (Nat.le_refl _) (Obj.cells #[Value.int .i64 pn, .int .i64 pl, .int .i64 pc, .slice ad1 pa.length c1', .slice ad2 pb.length c2'] 41)), HPB.out⟩
        rw [← HTK.out] at hps
        have HPS := Lib.hid (hps.low (a := ⟨N, 3, none⟩) (by show N < N + 1; omega) (Value.slice ad8 (k + 1) c8))
        clear hps
        go_wp2
        go_roundg (l.length - (k + 1))
        case measure => omega
        case rel => exact ⟨k + 1, c8, ad8, by omega, rfl, by go_num, HPS, HR9, HX9.out, hz9⟩
    · have hkk : ¬ (k : Int) < (l.length : Int) := by omega
      obtain rfl : k = l.length := by omega
      have hp := HP.out
      rw [List.take_length] at hp
      have HPS := Lib.hid hp
      have m0 := cell_of_row wr N 0 _ _ _ HN2.out
      have m1 := cell_of_row wr N 1 _ _ _ HN2.out
      have m2 := cell_of_row wr N 2 _ _ _ HN2.out
      have m3 := cell_of_row wr N 3 _ _ _ HN2.out
      have HZ := Lib.hid (hbx.row N1.out (by omega) (by omega))
      have HBW := Lib.hid hbw
      clear hp HP hm0 hbw
      go_wp2_with (refine wpList_store_row (o := ⟨none, .store 24 (.tmp 2) (.tmp 34), _, _, _, _⟩) (by rfl) 24 (.tmp 2) (.tmp 34) (by rfl) (w.heap.size + 1) _ (by rfl) (by rfl) 24 _ HZ.out (by kernel_rfl) (by rfl) (by simp [Value.oneCell']) ?_)
      refine bodyPost_ret (results_cell_row rfl _ _ (w.heap.size + 1) 24 #[Value.int .i64 log, .int .i64 next, .int .i64 seq, .slice ad l.length c] (0, 0) _ rfl (setRow_heap _ (w.heap.size + 1) _ _ _ _ HZ.out) Try.underlying24 rfl (by kernel_rfl)) rfl ?_
      exact HR.out _ _ ((HPS.out.setRow_low (by omega)).mono (by omega)) (below_setRow HBW.out (by omega) _)
end Go.Proofs.Ytpodgocmcnkfdaa
