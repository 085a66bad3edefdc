/- The law PropBack, walked. -/
import Derived.Test.YtpodhidabhnnnaaDoorCut11
namespace Go.Proofs.YtpodhidabhnnnaaDoor
open Go.RowKit

theorem readL_bad {wh : Int} {b : List UInt8} {m : List Pr} {used : Int} {d : Nat} (h : readL wh b = (m, used, d)) (hd : d ≠ 0) : m = [] ∧ used = 0 := by
  unfold readL at h
  split at h
  · simp only [Prod.mk.injEq] at h
    exact ⟨h.1.symm, h.2.1.symm⟩
  · split at h
    · simp only [Prod.mk.injEq] at h
      exact ⟨h.1.symm, h.2.1.symm⟩
    · simp only [Prod.mk.injEq] at h
      omega
theorem readL_len {wh : Int} {b : List UInt8} {m : List Pr} {used : Int} (h : readL wh b = (m, used, 0)) : (m.flatMap laidL).length ≤ b.length := by
  obtain ⟨n, y, h1, h2, h3, h4, h5, h6, _⟩ := readL_ok h
  rw [h6, List.length_take, List.length_drop]
  omega
theorem layL_len {wh : Int} {l : List Pr} {x : List UInt8} {c : Nat} (h : layL wh l = (x, c)) : x.length ≤ (l.flatMap laidL).length + 4 := by
  by_cases hc : c = 0
  · subst hc
    obtain ⟨n, hn, h2, h3, _⟩ := layL_ok h
    rw [h3, List.length_append]
    have : (varL n).length ≤ 4 := (varF_length 3 n).2
    omega
  · obtain ⟨rfl, _⟩ := layL_bad h hc
    simp
theorem pbs {wh : Int} {b : List UInt8} {m : List Pr} {used : Int} (h : readL wh b = (m, used, 0)) : ∀ p ∈ m, PB p := by
  obtain ⟨_, _, _, _, _, _, _, _, _, h8, _⟩ := readL_ok h
  exact fun p hp => by
    obtain ⟨g1, _, _, g4, g5⟩ := h8 p hp
    exact g1.pb g4 g5
theorem bs_app {w : World} {B e n c : Nat} {ad : Option Addr} {a b : List UInt8} (h : w.ownsRow B e 1 (.slice ad n c) n (bv [] ++ bv a ++ bv b)) : Bs w (.slice ad n c) (a ++ b) := by
  have e1 : bv [] ++ bv a ++ bv b = bv (a ++ b) := by simp [bv]
  rw [e1] at h
  have h2 := bs_of_owns h
  rw [h2.1]
  exact h2.2
theorem own_none1 {B e K : Nat} (X : World) (hK : K = X.heap.size) (hB : B ≤ K) : (X.alloc (.cells #[] e)).ownsRow B e 1 (.slice (some ⟨K, 0, none⟩) 0 0) 0 (bv []) := by
  subst hK
  exact World.ownsRow_made X #[] 0 hB (by unfold maxLen; omega) (by simp)

set_option maxRecDepth 100000 in
set_option maxHeartbeats 1000000 in
theorem pback_law (wh : Int) (v u t : Value) (l : List Pr) (b tl : List UInt8) (w : World) (hv : Ps w v l) (hu : Bs w u b) (ht : Bs w t tl) (hT : Tabs w) (R : Ending → World → Prop) (hR : ∀ w', Below w.heap.size w w' → R (.returned (.bool true)) w') :
    Calls Tryd.prog 4 #[.int .i64 wh, v, u, t] w R := by
  have HR := Lib.hid hR
  have HT := Lib.hid hT
  have HU := Lib.hid hu
  have HTL := Lib.hid ht
  have HV := Lib.hid hv
  obtain ⟨va, vc, rfl, _⟩ := _root_.id hv
  obtain ⟨ua, uc, rfl, _⟩ := _root_.id hu
  obtain ⟨ta, tc, rfl, _⟩ := _root_.id ht
  obtain ⟨C, hC⟩ : ∃ C, cutL l = C := ⟨_, rfl⟩
  obtain ⟨B, hB⟩ : ∃ B, b.take 2000 = B := ⟨_, rfl⟩
  obtain ⟨L, hL⟩ : ∃ L, tl.take 50 = L := ⟨_, rfl⟩
  have hBl : B.length ≤ 2000 := by rw [← hB, List.length_take]; omega
  have hLl : L.length ≤ 50 := by rw [← hL, List.length_take]; omega
  obtain ⟨⟨x, c⟩, hx⟩ : ∃ r, layL wh C = r := ⟨_, rfl⟩
  have hbl : (C.flatMap laidL).length ≤ 2800000 := by
    have := laid_total C 20 (by rw [← hC]; exact cutL_len l)
    omega
  have hxl : x.length ≤ 2800004 := by have := layL_len hx; omega
  obtain ⟨⟨m, used, d⟩, hr⟩ : ∃ r, readL wh B = r := ⟨_, rfl⟩
  have HC := Lib.hid hC
  have HB := Lib.hid hB
  have HL := Lib.hid hL
  have HX := Lib.hid hx
  have HBL := Lib.hid hbl
  have HRR := Lib.hid hr
  clear hR hT hu ht hv hC hB hL hbl
  by_cases hc : c = 0
  · subst hc
    have hrt := back_law hx L
    have HRT := Lib.hid hrt
    have hsr : sameR C C = true := decide_eq_true rfl
    have HSR := Lib.hid hsr
    have HPC := Lib.hid (pbs hrt)
    clear hx hrt hsr
    by_cases hd : d = 0
    · subst hd
      obtain ⟨y, hy, hyl⟩ := again_law hr
      have HY := Lib.hid hy
      have HPM := Lib.hid (pbs hr)
      have hml : (m.flatMap laidL).length ≤ 90000000 := by have := readL_len hr; omega
      have HML := Lib.hid hml
      clear hr hy hml
      go_enter Tryd.func4, Tryd.ntmps4
      go_wp2_with (first
        | (go_at_call 22; go_must (refine pcut_any _ l C HC.out w _ HV.out.pt _ ?_); intro ca cc w2 hps2 hx2; have HPS2 := Lib.hid (hps2.ps hx2); clear hps2) | (go_at_call_of 8 (Value.int .i64 2000); go_must (refine cut_old _ b B 2000 HB.out w _ HU.out (by omega) _ ?_); intro ba bc hbb; have HBB := Lib.hid hbb; clear hbb) | (go_at_call 8; go_must (refine cut_old _ tl L 50 HL.out w _ HTL.out (by omega) _ ?_); intro la lc hll; have HLL := Lib.hid hll; clear hll) | (go_at_call 23; have hps2' := HPS2; go_must (refine lay_any wh _ C _ _ HX.out (by have := HBL.out; omega) _ hps2'.out (HT.out.below hx2) _ ?_); intro xa xc w4 hown4 hb4; have hx4 := below_then hx2 hb4 hx2.size; have HPS4 := Lib.hid (HPS2.out.below hb4); have HO4 := Lib.hid (owns_mono (base' := w.heap.size) hown4 hx2.size); clear hown4 hb4 HPS2 hps2' hx2)
        | (go_at_call 13; go_in) | (at_builtin; have ho4' := HO4; have hlit := own_none1 (B := w4.heap.size) (e := 5) w4 rfl (Nat.le_refl _); have hyA : Below w4.heap.size w4 (w4.alloc (Obj.cells #[] 5)) := (Below.refl w4.heap.size w4).alloc (Nat.le_refl _) _; obtain ⟨s1, s2, se, hrd1, _, _, hnil1⟩ := (bs_of_owns ho4'.out).2.below hyA; simp only [Value.slice.injEq] at se; obtain ⟨rfl, -, rfl⟩ := se; go_must (refine wpList_app (by rfl) (.tmp 36) (.tmp 37) 22 (by rfl) w4.heap.size 5 (.int .u8 0) 1 1 Tryd.underlying22 Tryd.info5 rfl (by decide) _ _ _ _ rfl hlit _ _ _ _ rfl hrd1 (bv_oneCell _) hnil1 (by unfold maxLen; omega) (by omega) (by simp) ?_); intro ad7 c7 w7 hown7 hg7; rw [Nat.zero_add] at hown7; have hy7 := below_app hyA hg7 (by simp) hlit; have hx7 := below_then hx4 hy7 hx4.size; have HPS7 := Lib.hid (HPS4.out.below hy7); clear hlit hrd1 hnil1 hg7 hyA HO4 ho4') | (at_builtin; have hown7' := hown7; obtain ⟨s3, s4, se, hrd2, _, _, hnil2⟩ := HLL.out.below hx7; simp only [Value.slice.injEq] at se; obtain ⟨rfl, -, rfl⟩ := se; go_must (refine wpList_app (by rfl) (.tmp 38) (.tmp 39) 22 (by rfl) w4.heap.size 5 (.int .u8 0) 1 1 Tryd.underlying22 Tryd.info5 rfl (by decide) _ _ _ _ rfl hown7' _ _ _ _ rfl hrd2 (bv_oneCell _) hnil2 (by unfold maxLen; omega) (by omega) (hy7.size) ?_); intro ad8 c8 w8 hown8 hg8; have hy8 := below_app hy7 hg8 hy7.size hown7; have hx8a := below_then hx4 hy8 hx4.size; have HBN := Lib.hid (bs_app hown8); have HPS8 := Lib.hid (HPS4.out.below hy8); clear hrd2 hnil2 hg8 hown8 hown7 hown7' hy7 hy8 hx7 HPS7) | (go_at_call 10; have hbn := HBN; go_must (refine read_any wh _ (x ++ L) C _ 0 HRT.out (by rw [List.length_append]; omega) _ hbn.out (HT.out.below hx8a) _ ?_); intro na nc w85 hps85 hb85; have hx85 := below_then hx8a hb85 hx8a.size; have HPS85 := Lib.hid (hps85.ps HPC.out); have HPS86 := Lib.hid (HPS8.out.below hb85); clear hps85 hb85 HBN hbn hx8a) | (go_at_call 24; go_must (refine psame_any _ _ C C true HSR.out _ HPS86.out HPS85.out _ ?_); intro w87 hb87; have hx8 := below_then hx85 hb87 hx85.size; clear hb87)
        | (go_at_call 10; have hx8' := hx8; go_must (refine read_any wh _ B m used 0 HRR.out (by omega) _ (HBB.out.below hx8') (HT.out.below hx8') _ ?_); intro ma mc w9 hps9 hb9; have hx9 := below_then hx8 hb9 hx8.size; have HPS9 := Lib.hid (hps9.ps HPM.out); clear hps9 hb9 hx8 hx8')
        | (go_at_call 23; go_must (refine lay_any wh _ m y 0 HY.out HML.out _ HPS9.out (HT.out.below hx9) _ ?_); intro ya yc w10 hown10 hb10; have hx10 := below_then hx9 hb10 hx9.size; clear hown10 hb10)
        | (go_at_call 21; go_must (refine wakes_any _ (HT.out.below hx10) _ ?_); intro w11 hb11; have hx11 := below_then hx10 hb11 hx10.size))
      exact HR.out _ hx11
    · obtain ⟨rfl, rfl⟩ := readL_bad hr hd
      have hdi : ¬ (d : Int) = 0 := by omega
      have hdb : ((d : Int) != 0) = true := by simp; omega
      clear hr
      go_enter Tryd.func4, Tryd.ntmps4
      go_wp2_with (first
        | (go_at_call 22; go_must (refine pcut_any _ l C HC.out w _ HV.out.pt _ ?_); intro ca cc w2 hps2 hx2; have HPS2 := Lib.hid (hps2.ps hx2); clear hps2) | (go_at_call_of 8 (Value.int .i64 2000); go_must (refine cut_old _ b B 2000 HB.out w _ HU.out (by omega) _ ?_); intro ba bc hbb; have HBB := Lib.hid hbb; clear hbb) | (go_at_call 8; go_must (refine cut_old _ tl L 50 HL.out w _ HTL.out (by omega) _ ?_); intro la lc hll; have HLL := Lib.hid hll; clear hll) | (go_at_call 23; have hps2' := HPS2; go_must (refine lay_any wh _ C _ _ HX.out (by have := HBL.out; omega) _ hps2'.out (HT.out.below hx2) _ ?_); intro xa xc w4 hown4 hb4; have hx4 := below_then hx2 hb4 hx2.size; have HPS4 := Lib.hid (HPS2.out.below hb4); have HO4 := Lib.hid (owns_mono (base' := w.heap.size) hown4 hx2.size); clear hown4 hb4 HPS2 hps2' hx2)
        | (go_at_call 13; go_in) | (at_builtin; have ho4' := HO4; have hlit := own_none1 (B := w4.heap.size) (e := 5) w4 rfl (Nat.le_refl _); have hyA : Below w4.heap.size w4 (w4.alloc (Obj.cells #[] 5)) := (Below.refl w4.heap.size w4).alloc (Nat.le_refl _) _; obtain ⟨s1, s2, se, hrd1, _, _, hnil1⟩ := (bs_of_owns ho4'.out).2.below hyA; simp only [Value.slice.injEq] at se; obtain ⟨rfl, -, rfl⟩ := se; go_must (refine wpList_app (by rfl) (.tmp 36) (.tmp 37) 22 (by rfl) w4.heap.size 5 (.int .u8 0) 1 1 Tryd.underlying22 Tryd.info5 rfl (by decide) _ _ _ _ rfl hlit _ _ _ _ rfl hrd1 (bv_oneCell _) hnil1 (by unfold maxLen; omega) (by omega) (by simp) ?_); intro ad7 c7 w7 hown7 hg7; rw [Nat.zero_add] at hown7; have hy7 := below_app hyA hg7 (by simp) hlit; have hx7 := below_then hx4 hy7 hx4.size; have HPS7 := Lib.hid (HPS4.out.below hy7); clear hlit hrd1 hnil1 hg7 hyA HO4 ho4') | (at_builtin; have hown7' := hown7; obtain ⟨s3, s4, se, hrd2, _, _, hnil2⟩ := HLL.out.below hx7; simp only [Value.slice.injEq] at se; obtain ⟨rfl, -, rfl⟩ := se; go_must (refine wpList_app (by rfl) (.tmp 38) (.tmp 39) 22 (by rfl) w4.heap.size 5 (.int .u8 0) 1 1 Tryd.underlying22 Tryd.info5 rfl (by decide) _ _ _ _ rfl hown7' _ _ _ _ rfl hrd2 (bv_oneCell _) hnil2 (by unfold maxLen; omega) (by omega) (hy7.size) ?_); intro ad8 c8 w8 hown8 hg8; have hy8 := below_app hy7 hg8 hy7.size hown7; have hx8a := below_then hx4 hy8 hx4.size; have HBN := Lib.hid (bs_app hown8); have HPS8 := Lib.hid (HPS4.out.below hy8); clear hrd2 hnil2 hg8 hown8 hown7 hown7' hy7 hy8 hx7 HPS7) | (go_at_call 10; have hbn := HBN; go_must (refine read_any wh _ (x ++ L) C _ 0 HRT.out (by rw [List.length_append]; omega) _ hbn.out (HT.out.below hx8a) _ ?_); intro na nc w85 hps85 hb85; have hx85 := below_then hx8a hb85 hx8a.size; have HPS85 := Lib.hid (hps85.ps HPC.out); have HPS86 := Lib.hid (HPS8.out.below hb85); clear hps85 hb85 HBN hbn hx8a) | (go_at_call 24; go_must (refine psame_any _ _ C C true HSR.out _ HPS86.out HPS85.out _ ?_); intro w87 hb87; have hx8 := below_then hx85 hb87 hx85.size; clear hb87)
        | (go_at_call 10; have hx8' := hx8; go_must (refine read_any wh _ B [] 0 d HRR.out (by omega) _ (HBB.out.below hx8') (HT.out.below hx8') _ ?_); intro ma mc w9 hps9 hb9; have hx9 := below_then hx8 hb9 hx8.size; clear hps9 hb9 hx8 hx8')
        | (go_at_call 21; go_must (refine wakes_any _ (HT.out.below hx9) _ ?_); intro w11 hb11; have hx11 := below_then hx9 hb11 hx9.size))
      exact HR.out _ hx11
  · obtain ⟨rfl, rfl⟩ := layL_bad hx hc
    clear hx hc
    by_cases hd : d = 0
    · subst hd
      obtain ⟨y, hy, hyl⟩ := again_law hr
      have HY := Lib.hid hy
      have HPM := Lib.hid (pbs hr)
      have hml : (m.flatMap laidL).length ≤ 90000000 := by have := readL_len hr; omega
      have HML := Lib.hid hml
      clear hr hy hml
      go_enter Tryd.func4, Tryd.ntmps4
      go_wp2_with (first
        | (go_at_call 22; go_must (refine pcut_any _ l C HC.out w _ HV.out.pt _ ?_); intro ca cc w2 hps2 hx2; have HPS2 := Lib.hid (hps2.ps hx2); clear hps2) | (go_at_call_of 8 (Value.int .i64 2000); go_must (refine cut_old _ b B 2000 HB.out w _ HU.out (by omega) _ ?_); intro ba bc hbb; have HBB := Lib.hid hbb; clear hbb) | (go_at_call 8; go_must (refine cut_old _ tl L 50 HL.out w _ HTL.out (by omega) _ ?_); intro la lc hll; have HLL := Lib.hid hll; clear hll) | (go_at_call 23; have hps2' := HPS2; go_must (refine lay_any wh _ C _ _ HX.out (by have := HBL.out; omega) _ hps2'.out (HT.out.below hx2) _ ?_); intro xa xc w4 hown4 hb4; have hx4 := below_then hx2 hb4 hx2.size; have HPS4 := Lib.hid (HPS2.out.below hb4); have HO4 := Lib.hid (owns_mono (base' := w.heap.size) hown4 hx2.size); clear hown4 hb4 HPS2 hps2' hx2)
        | (go_at_call 13; go_in)
        | (go_at_call 10; have hx4' := hx4; go_must (refine read_any wh _ B m used 0 HRR.out (by omega) _ (HBB.out.below hx4') (HT.out.below hx4') _ ?_); intro ma mc w9 hps9 hb9; have hx9 := below_then hx4 hb9 hx4.size; have HPS9 := Lib.hid (hps9.ps HPM.out); clear hps9 hb9 hx4 hx4')
        | (go_at_call 23; go_must (refine lay_any wh _ m y 0 HY.out HML.out _ HPS9.out (HT.out.below hx9) _ ?_); intro ya yc w10 hown10 hb10; have hx10 := below_then hx9 hb10 hx9.size; clear hown10 hb10)
        | (go_at_call 21; go_must (refine wakes_any _ (HT.out.below hx10) _ ?_); intro w11 hb11; have hx11 := below_then hx10 hb11 hx10.size))
      exact HR.out _ hx11
    · obtain ⟨rfl, rfl⟩ := readL_bad hr hd
      have hdi : ¬ (d : Int) = 0 := by omega
      have hdb : ((d : Int) != 0) = true := by simp; omega
      clear hr
      go_enter Tryd.func4, Tryd.ntmps4
      go_wp2_with (first
        | (go_at_call 22; go_must (refine pcut_any _ l C HC.out w _ HV.out.pt _ ?_); intro ca cc w2 hps2 hx2; have HPS2 := Lib.hid (hps2.ps hx2); clear hps2) | (go_at_call_of 8 (Value.int .i64 2000); go_must (refine cut_old _ b B 2000 HB.out w _ HU.out (by omega) _ ?_); intro ba bc hbb; have HBB := Lib.hid hbb; clear hbb) | (go_at_call 8; go_must (refine cut_old _ tl L 50 HL.out w _ HTL.out (by omega) _ ?_); intro la lc hll; have HLL := Lib.hid hll; clear hll) | (go_at_call 23; have hps2' := HPS2; go_must (refine lay_any wh _ C _ _ HX.out (by have := HBL.out; omega) _ hps2'.out (HT.out.below hx2) _ ?_); intro xa xc w4 hown4 hb4; have hx4 := below_then hx2 hb4 hx2.size; have HPS4 := Lib.hid (HPS2.out.below hb4); have HO4 := Lib.hid (owns_mono (base' := w.heap.size) hown4 hx2.size); clear hown4 hb4 HPS2 hps2' hx2)
        | (go_at_call 13; go_in)
        | (go_at_call 10; have hx4' := hx4; go_must (refine read_any wh _ B [] 0 d HRR.out (by omega) _ (HBB.out.below hx4') (HT.out.below hx4') _ ?_); intro ma mc w9 hps9 hb9; have hx9 := below_then hx4 hb9 hx4.size; clear hps9 hb9 hx4 hx4')
        | (go_at_call 21; go_must (refine wakes_any _ (HT.out.below hx9) _ ?_); intro w11 hb11; have hx11 := below_then hx9 hb11 hx9.size))
      exact HR.out _ hx11
end Go.Proofs.YtpodhidabhnnnaaDoor
