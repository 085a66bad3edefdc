/- The law PropReads, walked. -/
import Derived.Test.YtpodhidabhnnnaaDoorBook11
namespace Go.Proofs.YtpodhidabhnnnaaDoor
open Go.RowKit

theorem read_pbs {wh : Int} {b : List UInt8} {m : List Pr} {used : Int} {d : Nat} (h : readL wh b = (m, used, d)) : ∀ p ∈ m, PB p := by
  by_cases hd : d = 0
  · subst hd
    obtain ⟨_, _, _, _, _, _, _, _, _, h8, _⟩ := readL_ok h
    exact fun p hp => by
      obtain ⟨g1, _, _, g4, g5⟩ := h8 p hp
      exact g1.pb g4 g5
  · have hm : m = [] := by
      unfold readL at h
      split at h
      · simp only [Prod.mk.injEq] at h
        exact h.1.symm
      · split at h
        · simp only [Prod.mk.injEq] at h
          exact h.1.symm
        · simp only [Prod.mk.injEq] at h
          omega
    subst hm
    exact fun p hp => by cases hp
theorem bs_lent {w : World} {base g c : Nat} {B : List UInt8} (hlent : w.ownsRow base 5 1 (.slice (some ⟨g, 0, none⟩) (B.length + 2) c) (B.length + 2) (bv (B ++ [165, 90]))) : Bs w (.slice (some ⟨g, 0, none⟩) B.length c) B := by
  have hl2 : (B ++ [165, 90]).length = B.length + 2 := by simp
  have h1 := (bs_of_owns hlent).2
  rw [hl2] at h1
  have h2 := Bs.cut (k := B.length) h1 (by omega)
  have e : (B ++ [165, 90]).take B.length = B := by simp
  rw [e] at h2
  exact h2

set_option maxRecDepth 100000 in
set_option maxHeartbeats 1600000 in
theorem preads_law (wh id : Int) (v : Value) (l : List UInt8) (w : World) (hv : Bs w v l) (hT : Tabs w) (R : Ending → World → Prop) (hR : ∀ w', Below w.heap.size w w' → R (.returned (.bool true)) w') :
    Calls Tryd.prog 3 #[.int .i64 wh, v, .int .i64 id] w R := by
  have HR := Lib.hid hR
  have HT := Lib.hid hT
  have HV := Lib.hid hv
  obtain ⟨va, vc, rfl, _⟩ := _root_.id hv
  obtain ⟨B, hB⟩ : ∃ B, l.take (2000 : Int).toNat = B := ⟨_, rfl⟩
  have hBl : B.length ≤ 2000 := by rw [← hB, List.length_take]; exact Nat.min_le_left _ _
  have HB := Lib.hid hB
  obtain ⟨⟨m, used, d⟩, hr⟩ : ∃ r, readL wh B = r := ⟨_, rfl⟩
  have HRD := Lib.hid hr
  have HPB := Lib.hid (read_pbs hr)
  have HSR : Hid (sameR m m = true) := Lib.hid (decide_eq_true rfl)
  obtain ⟨kk, hkk⟩ : ∃ k, kindL id = k := ⟨_, rfl⟩
  obtain ⟨mm, hmm⟩ : ∃ m, mayL id wh = m := ⟨_, rfl⟩
  have HKK := Lib.hid hkk
  have HMM := Lib.hid hmm
  clear hR hT hv hB hr hkk hmm
  go_enter Tryd.func3, Tryd.ntmps3
  go_wp2_with (go_at_call 8; go_must (refine cut_any _ l B 2000 HB.out _ HV.out (by omega) _ ?_))
  intro ad0 c0 hb0
  have HB0 := Lib.hid hb0
  clear hb0
  go_wp2_with (go_at_call 9; go_must (refine lend_any _ B _ HB0.out (by omega) _ ?_))
  intro g c w1 hlent hx1
  have HBL := Lib.hid (bs_lent hlent)
  have hgl : g < w1.heap.size := (hlent.lt g rfl).2
  have hgw : w.heap.size ≤ g := (hlent.lt g rfl).1
  have HLENT := Lib.hid hlent
  clear hlent
  go_wp2_with (first
    | (go_at_call 10; go_must (refine read_any wh _ B m used d HRD.out (by omega) _ HBL.out (HT.out.below hx1) _ ?_); intro la lc w2 hps2 hy2; have hx2 := below_then hx1 hy2 hx1.size; have HPS2 := Lib.hid hps2; clear hps2)
    | (go_at_call 11; go_must (refine rread_any wh _ B m used d HRD.out (by omega) _ (HB0.out.below hx2) (HT.out.below hx2) _ ?_); intro ra rc w3 hps3 hb3; have hy3 := below_tr hy2 hb3; have hx3 := below_then hx1 hy3 hx1.size; have HPS23 := Lib.hid (HPS2.out.below hb3); have HPS3 := Lib.hid (hps3.mono hy2.size); clear hps3 hb3 HPS2)
    | (go_at_call 12; have hps3 := HPS23; go_must (refine rsame_any _ _ m m true HSR.out _ (hps3.out.ps HPB.out) (HPS3.out.ps HPB.out) _ ?_); intro w4 hb4; have hy4 := below_tr hy3 hb4; have HPA4 := Lib.hid (HPS23.out.below hb4); have HPC4 := Lib.hid (HPS3.out.below hb4); clear hb4 HPS23 HPS3 hps3)
    | (go_at_call 13; go_in)
    | (go_at_call 14; have hpa4 := HPA4; go_must (refine kind_any id kk HKK.out _ _ ?_); intro w5 hb5; have hy5 := below_tr hy4 hb5; have HPA5 := Lib.hid (HPA4.out.below hb5); have HPC5 := Lib.hid (HPC4.out.below hb5); clear hb5 HPA4 HPC4 hpa4)
    | (go_at_call 15; go_must (refine rkind_at id kk HKK.out _ _ ?_))
    | (go_at_call 16; go_must (refine may_any id wh mm HMM.out _ _ ?_); intro w6 hb6; have hy6 := below_tr hy5 hb6; have HPA6 := Lib.hid (HPA5.out.below hb6); have HPC6 := Lib.hid (HPC5.out.below hb6); clear hb6)
    | (go_at_call 17; go_must (refine rmay_at id wh mm HMM.out _ _ ?_); intro w7 hb7; have hy7 := below_tr hy6 hb7; have HPA7 := Lib.hid (HPA6.out.below hb7); have HPC7 := Lib.hid (HPC6.out.below hb7); clear hb7))
  have hbk := Bk.start (tb := 40) (ts := 22) (te := 5) (B := w1.heap.size) w7 hy7.size
  have hy8 : Below w1.heap.size w1 (w7.alloc (Obj.cells (BkCells (.slice none 0 0) (.slice none 0 0)) 40)) := hy7.alloc hy7.size _
  obtain ⟨ds, hds, hrow, heach, hap⟩ := HPA7.out
  have HDS := Lib.hid hds
  have HAP := Lib.hid hap
  have HDL : Hid (∀ (i : Nat) (h : i < ds.length), ∀ k, (ds[i]'h).ownBlock = some k → k < w7.heap.size) := Lib.hid fun i h k hk => ((heach i (by rw [← HDS.out]; exact h)).lt k hk).2
  have hrow8 := hrow.alloc (Obj.cells (BkCells (.slice none 0 0) (.slice none 0 0)) 40)
  have heach8 : ∀ (i : Nat) (h : i < m.length), (w7.alloc (Obj.cells (BkCells (.slice none 0 0) (.slice none 0 0)) 40)).ownsRow w1.heap.size 5 1 (ds[i]'(by rw [hds]; exact h)) m[i].data.length (bv m[i].data) := fun i h => (heach i h).alloc _
  have hpc8 := HPC7.out.below ((Below.refl w7.heap.size w7).alloc (Nat.le_refl _) (Obj.cells (BkCells (.slice none 0 0) (.slice none 0 0)) 40))
  have HBK := Lib.hid hbk
  have HY8 := Lib.hid hy8
  have HROW8 := Lib.hid hrow8
  have HEACH8 := Lib.hid heach8
  have HPC8 := Lib.hid hpc8
  clear hbk hy8 hrow8 heach8 hpc8 hap hrow heach
  go_loopg [15] m.length (fun gn i wr => ∃ (k : Nat) (us : List Value), k ≤ m.length ∧ gn = m.length - k ∧ i = .int .i64 k ∧ Hid (Bk 40 22 5 wr w1.heap.size w7.heap.size (ds.take (min k 400)) us ((m.take (min k 400)).map Pr.data)) ∧ Hid (∀ u ∈ us, ∀ j, u.ownBlock = some j → w7.heap.size ≤ j) ∧ Hid (wr.ownsRow w1.heap.size 43 5 (.slice la m.length lc) m.length (pcs ds m)) ∧ Hid (∀ (i : Nat) (h : i < m.length), wr.ownsRow w1.heap.size 5 1 (ds[i]'(by rw [HDS.out]; exact h)) m[i].data.length (bv m[i].data)) ∧ Hid (PsO wr w1.heap.size (.slice ra m.length rc) m) ∧ Hid (Below w1.heap.size w1 wr))
  case atStart => exact ⟨0, [], Nat.zero_le _, by omega, rfl, Lib.hid (by simp only [Nat.zero_min, List.take_zero, List.map_nil]; exact HBK.out), Lib.hid (fun u hu => by cases hu), HROW8, HEACH8, HPC8, HY8⟩
  case round =>
    obtain ⟨k, us, hk, rfl, rfl, HK, HUS, HROW, HEACH, HPC, HY⟩ := hrel
    obtain ⟨wo, rfl⟩ : ∃ x, x = wr := ⟨_, rfl⟩
    have hcap := owns_cap HROW.out
    unfold maxLen at hcap
    by_cases hlt : k < m.length
    · have hki : (k : Int) < (m.length : Int) := by omega
      obtain ⟨lg, rfl⟩ := owns_head HROW.out (by omega)
      have hcell : wo.cell? ⟨lg, 0 + k * 5 + 4, none⟩ = some (ds[k]'(by rw [HDS.out]; exact hlt)) := by
        have h1 := HROW.out.cellAt (k * 5 + 4) (by omega)
        rw [pcs_at ds m HDS.out k hlt 4 (by omega)] at h1
        rw [Nat.zero_add]
        exact h1
      have hcell2 := hcell
      rw [Nat.zero_add] at hcell2
      have hek := HEACH.out k hlt
      obtain ⟨dv, hdv⟩ : ∃ dv, ds[k]'(by rw [HDS.out]; exact hlt) = dv := ⟨_, rfl⟩
      obtain ⟨D, hD⟩ : ∃ D, m[k].data = D := ⟨_, rfl⟩
      rw [hdv] at hcell hcell2 hek
      rw [hD] at hek
      have hDl : D.length ≤ 140737488351232 := by rw [← hD]; exact (HPB.out _ (List.getElem_mem hlt)).1
      have HDV := Lib.hid hdv
      have HDD := Lib.hid hD
      obtain ⟨da, dc, rfl⟩ := owns_shape hek
      have HEK := Lib.hid hek
      clear hdv hD hek
      by_cases h400 : k < 400
      · have e1 : min k 400 = k := by omega
        have e2 : min (k + 1) 400 = k + 1 := by omega
        have HK2 := HK
        rw [e1] at HK2
        have hkl : k < ds.length := by rw [HDS.out]; exact hlt
        have t1 : ds.take (k + 1) = ds.take k ++ [.slice da D.length dc] := by rw [List.take_succ_eq_append_getElem hkl, HDV.out]
        have t2 : (m.take (k + 1)).map Pr.data = (m.take k).map Pr.data ++ [D] := by rw [List.take_succ_eq_append_getElem hlt, List.map_append, List.map_singleton, HDD.out]
        have hd1 : ∀ v' ∈ ds.take k, Unlike v' (.slice da D.length dc) := by
          have hp := HAP.out
          rw [← List.take_append_drop (k + 1) ds, t1, List.append_assoc, List.pairwise_append] at hp
          exact fun v' hv' => hp.2.2 v' hv' _ (by simp)
        have hd2 : ∀ u ∈ us, Unlike (.slice da D.length dc) u := by
          intro u hu j hj hc
          have h1 := HDL.out k hkl j (by rw [HDV.out]; exact hj)
          have h2 := HUS.out u hu j hc
          omega
        have hlen : ((m.take k).map Pr.data).length < 400 := by rw [List.length_map, List.length_take]; omega
        have HT1 := Lib.hid t1
        have HT2 := Lib.hid t2
        have HD1 := Lib.hid hd1
        have HD2 := Lib.hid hd2
        have HLEN := Lib.hid hlen
        have HE2 := Lib.hid e2
        have hz7 : w7.heap.size ≤ wo.heap.size := by
          have h0 := HK2.out.rows
          obtain ⟨v0, v1, h0, _⟩ := h0
          have := (Array.getElem?_eq_some_iff.1 h0).1
          omega
        clear t1 t2 hd1 hd2 hlen e1 e2 HK
        go_wp2_with (go_at_call 18; go_must (refine book_bytes2 w1.heap.size w7.heap.size _ us _ da dc D _ HK2.out HLEN.out HEK.out HD1.out HD2.out hDl _ ?_); intro w8 us' hB8 hy8 hk8 pk8 hu8)
        have HB8 : Hid (Bk 40 22 5 w8 w1.heap.size w7.heap.size (ds.take (min (k + 1) 400)) us' ((m.take (min (k + 1) 400)).map Pr.data)) := Lib.hid (by rw [HE2.out, HT1.out, HT2.out]; exact hB8)
        have HUS8 : Hid (∀ u ∈ us', ∀ j, u.ownBlock = some j → w7.heap.size ≤ j) := Lib.hid fun u hu j hj => by
          rcases hu8 u hu with h | h
          · exact HUS.out u h j hj
          · have := h j hj
            omega
        have HROWN := Lib.hid (pk8 _ _ _ _ HROW.out)
        have HEACHN : Hid (∀ (i : Nat) (h : i < m.length), w8.ownsRow w1.heap.size 5 1 (ds[i]'(by rw [HDS.out]; exact h)) m[i].data.length (bv m[i].data)) := Lib.hid fun i h => hk8 _ _ _ _ (HEACH.out i h)
        have HPCN := Lib.hid (HPC.out.kept hk8 pk8)
        have HYN := Lib.hid (HY.out.trans hy8)
        clear hB8 hu8 hk8 pk8 hy8
        go_roundg (m.length - (k + 1))
        case measure => omega
        case rel => exact ⟨k + 1, us', by omega, rfl, by go_num, HB8, HUS8, HROWN, HEACHN, HPCN, HYN⟩
      · have e1 : min k 400 = 400 := by omega
        have e2 : min (k + 1) 400 = 400 := by omega
        have hlen : ((m.take (min k 400)).map Pr.data).length = 400 := by rw [List.length_map, List.length_take, e1]; omega
        have HLEN := Lib.hid hlen
        have HKN : Hid (Bk 40 22 5 wo w1.heap.size w7.heap.size (ds.take (min (k + 1) 400)) us ((m.take (min (k + 1) 400)).map Pr.data)) := Lib.hid (by rw [e2, ← e1]; exact HK.out)
        clear hlen e1 e2
        go_wp2_with (go_at_call 18; go_must (refine book_full w1.heap.size w7.heap.size _ us _ _ _ HK.out HLEN.out _ ?_))
        go_roundg (m.length - (k + 1))
        case measure => omega
        case rel => exact ⟨k + 1, us, by omega, rfl, by go_num, HKN, HUS, HROW, HEACH, HPC, HY⟩
    · have hki : ¬ (k : Int) < (m.length : Int) := by omega
      have hpa : PsO wo w1.heap.size (.slice la m.length lc) m := ⟨ds, HDS.out, HROW.out, HEACH.out, HAP.out⟩
      have HPA := Lib.hid hpa
      have hxo := below_then hx1 HY.out hx1.size
      have hlent := owns_below HLENT.out HY.out
      have HL := Lib.hid hlent
      clear hpa hlent
      have hb400 : ∀ p ∈ (m.take (min k 400)).map Pr.data, p.length ≤ 140737488351232 := by
        intro p hp
        obtain ⟨q, hq, rfl⟩ := List.mem_map.1 hp
        exact (HPB.out q (List.mem_of_mem_take hq)).1
      have HB4 := Lib.hid hb400
      have hl400 : ((m.take (min k 400)).map Pr.data).length ≤ 400 := by rw [List.length_map, List.length_take]; omega
      have HL4 := Lib.hid hl400
      clear hb400 hl400
      go_wp2_with (first
        | (go_at_call 19; go_must (refine back_any g B.length c w.heap.size _ B _ rfl HL.out (HB0.out.below hxo) _ ?_); intro w14 hg14; have HB14 := Lib.hid (HK.out.far hg14 hgl); have HPA14 := Lib.hid (HPA.out.far hg14 hgl); have HPC14 := Lib.hid (HPC.out.far hg14 hgl); have hx14 := hxo.grown hg14 hxo.size (fun k hk => by have := Option.some.inj hk; omega); clear hg14)
        | (go_at_call 12; go_must (refine rsame_any _ _ m m true HSR.out _ (HPA14.out.ps HPB.out) (HPC14.out.ps HPB.out) _ ?_); intro w15 hb15; have hx15 := below_then hx14 hb15 hx14.size; have HB15 := Lib.hid (HB14.out.below hb15); clear hb15)
        | (go_at_call 20; go_must (refine close_any w1.heap.size w7.heap.size _ us _ _ HB15.out HB4.out HL4.out _ ?_); intro w16 hb16; have hx16 := below_then hx15 hb16 hx1.size)
        | (go_at_call 21; go_must (refine wakes_any _ (HT.out.below hx16) _ ?_); intro w17 hb17; have hx17 := below_then hx16 hb17 hx16.size))
      exact HR.out _ hx17
end Go.Proofs.YtpodhidabhnnnaaDoor
