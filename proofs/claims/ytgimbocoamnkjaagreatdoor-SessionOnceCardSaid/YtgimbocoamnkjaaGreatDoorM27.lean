/- note.ReadItem at the bytes of an item with a topic alone: walked. -/
import Derived.Test.YtgimbocoamnkjaaGreatDoorM23
import Derived.Test.YtgimbocoamnkjaaGreatDoorM13
namespace Go.Proofs.YtgimbocoamnkjaaGreatDoor
open Go.RowKit

set_option maxRecDepth 100000 in
set_option maxHeartbeats 4000000 in
theorem niread_g (t : List UInt8) (ht : GT t) (v : Value) (w : World) (hv : Bs w v (imBy (gI t))) (hT : Tabs w) (R : Ending → World → Prop)
    (hR : ∀ da dc pa pc w', Z0 da dc → Z0 pa pc → Below w.heap.size w w' → R (.returned (.tuple #[.agg #[.string (str t), .slice da 0 dc, .int .i64 0, .bool false, .string ⟨#[]⟩, .int .i64 0, .slice pa 0 pc, .int .i64 0, .int .i64 0, .int .i64 0, .int .i64 2, .bool false, .slice none 0 0, .string ⟨#[]⟩], .int .i64 0])) w') :
    Calls Tryz.prog 113 #[v] w R := by
  have HR := Lib.hid hR
  have HV := Lib.hid hv
  have HGT := Lib.hid ht
  have HT := Lib.hid hT
  obtain ⟨m, hm, hm3, hm4, k1, k2, k3, k4⟩ := ireadz t ht
  have hil := ht.il
  obtain ⟨Y, hY⟩ : ∃ q, imBy (gI t) = q := ⟨_, rfl⟩
  rw [hY] at k1 hv hil HV
  obtain ⟨va, vc, rfl, _⟩ := id hv
  have b1 : Below w.heap.size w (w.alloc (Obj.cells #[.string ⟨#[]⟩, .slice none 0 0, .int .i64 0, .bool false, .string ⟨#[]⟩, .int .i64 0, .slice none 0 0, .int .i64 0, .int .i64 0, .int .i64 0, .int .i64 0, .bool false, .slice none 0 0, .string ⟨#[]⟩] 36)) := (Below.refl _ _).alloc (Nat.le_refl _) _
  have b2 : Below w.heap.size w ((w.alloc (Obj.cells #[.string ⟨#[]⟩, .slice none 0 0, .int .i64 0, .bool false, .string ⟨#[]⟩, .int .i64 0, .slice none 0 0, .int .i64 0, .int .i64 0, .int .i64 0, .int .i64 0, .bool false, .slice none 0 0, .string ⟨#[]⟩] 36)).alloc (Obj.cells #[.slice va Y.length vc, .bool false] 189)) := b1.alloc b1.size _
  have hcr : CR w 189 (w.alloc (Obj.cells #[.string ⟨#[]⟩, .slice none 0 0, .int .i64 0, .bool false, .string ⟨#[]⟩, .int .i64 0, .slice none 0 0, .int .i64 0, .int .i64 0, .int .i64 0, .int .i64 0, .bool false, .slice none 0 0, .string ⟨#[]⟩] 36)).heap.size ⟨Y, false⟩ ((w.alloc (Obj.cells #[.string ⟨#[]⟩, .slice none 0 0, .int .i64 0, .bool false, .string ⟨#[]⟩, .int .i64 0, .slice none 0 0, .int .i64 0, .int .i64 0, .int .i64 0, .int .i64 0, .bool false, .slice none 0 0, .string ⟨#[]⟩] 36)).alloc (Obj.cells #[.slice va Y.length vc, .bool false] 189)) := ⟨⟨va, vc, heap_alloc_new _ _, hv⟩, b2, b1.size, by simp only; omega⟩
  have hz : (w.alloc (Obj.cells #[.string ⟨#[]⟩, .slice none 0 0, .int .i64 0, .bool false, .string ⟨#[]⟩, .int .i64 0, .slice none 0 0, .int .i64 0, .int .i64 0, .int .i64 0, .int .i64 0, .bool false, .slice none 0 0, .string ⟨#[]⟩] 36)).heap.size = w.heap.size + 1 := (alloc_size w _).symm
  rw [hz] at hcr
  have hA2 := row_on (heap_alloc_new w (Obj.cells #[.string ⟨#[]⟩, .slice none 0 0, .int .i64 0, .bool false, .string ⟨#[]⟩, .int .i64 0, .slice none 0 0, .int .i64 0, .int .i64 0, .int .i64 0, .int .i64 0, .bool false, .slice none 0 0, .string ⟨#[]⟩] 36)) ((Below.refl (w.alloc (Obj.cells #[.string ⟨#[]⟩, .slice none 0 0, .int .i64 0, .bool false, .string ⟨#[]⟩, .int .i64 0, .slice none 0 0, .int .i64 0, .int .i64 0, .int .i64 0, .int .i64 0, .bool false, .slice none 0 0, .string ⟨#[]⟩] 36)).heap.size (w.alloc (Obj.cells #[.string ⟨#[]⟩, .slice none 0 0, .int .i64 0, .bool false, .string ⟨#[]⟩, .int .i64 0, .slice none 0 0, .int .i64 0, .int .i64 0, .int .i64 0, .int .i64 0, .bool false, .slice none 0 0, .string ⟨#[]⟩] 36))).alloc (Nat.le_refl _) (Obj.cells #[.slice va Y.length vc, .bool false] 189))
  obtain ⟨s1, hs1⟩ : ∃ s : Cu, (⟨[b8 (markN 2 false)] ++ ([b8 ((0 : Nat) : Int)] ++ (textL []).1), false⟩ : Cu) = s := ⟨_, rfl⟩
  obtain ⟨s2, hs2⟩ : ∃ s : Cu, (⟨[b8 ((0 : Nat) : Int)] ++ (textL []).1, false⟩ : Cu) = s := ⟨_, rfl⟩
  obtain ⟨s3, hs3⟩ : ∃ s : Cu, (⟨(textL []).1, false⟩ : Cu) = s := ⟨_, rfl⟩
  rw [hs1] at k1 k2
  rw [hs2] at k2 k3
  rw [hs3] at k3 k4
  have K1 := Lib.hid k1
  have K2 := Lib.hid k2
  have K3 := Lib.hid k3
  have K4 := Lib.hid k4
  have HM3 := Lib.hid hm3
  have HM4 := Lib.hid hm4
  have HY := Lib.hid hY
  have HIL := Lib.hid hil
  have HCR := Lib.hid hcr
  have HB2 := Lib.hid b2
  clear hR hv ht hT hm hm3 hm4 k1 k2 k3 k4 hil hY b1 b2 hcr hz hs1 hs2 hs3
  go_enter Tryz.func113, Tryz.ntmps113
  go_upto_region 2 with fail
  generalize (w.alloc (Obj.cells #[.string ⟨#[]⟩, .slice none 0 0, .int .i64 0, .bool false, .string ⟨#[]⟩, .int .i64 0, .slice none 0 0, .int .i64 0, .int .i64 0, .int .i64 0, .int .i64 0, .bool false, .slice none 0 0, .string ⟨#[]⟩] 36)).alloc (Obj.cells #[.slice va Y.length vc, .bool false] 189) = w2 at HCR HB2 hA2 ⊢
  have HA2 := Lib.hid hA2
  have hne0 : w.heap.size ≠ w.heap.size + 1 := Nat.ne_of_lt (Nat.lt_succ_self _)
  have HNE := Lib.hid hne0
  clear hA2 hne0
  go_upto_region 3 with (first
    | (go_at_call 148; go_must (refine ndata_any _ _ _ _ _ K1.out w _ HCR.out _ ?_); intro xa xc w3 ho3 hc3 hg3; have HO3 := Lib.hid (bs_len ho3); have HC3 := Lib.hid hc3; have HA3 := Lib.hid (grown_row hg3 HA2.out HNE.out); clear ho3 hc3 hg3)
    | (go_at_call 147; go_must (refine nread_g t HGT.out _ _ HO3.out (HT.out.below HC3.out.low) _ ?_); intro da dc pa pc w4 hz1 hz2 hb4; have HZ1 := Lib.hid hz1; have HZ2 := Lib.hid hz2; have HC4 := Lib.hid (HC3.out.below hb4); have HA4 := Lib.hid (row_on HA3.out hb4); clear hz1 hz2 hb4))
  have hn5 := heap_alloc_new w4 (Obj.cells #[.string (str t), .slice da 0 dc, .int .i64 0, .bool false, .string ⟨#[]⟩, .int .i64 0, .slice pa 0 pc, .int .i64 0, .int .i64 0, .int .i64 0] 34)
  have hb5 := (Below.refl w4.heap.size w4).alloc (Nat.le_refl _) (Obj.cells #[.string (str t), .slice da 0 dc, .int .i64 0, .bool false, .string ⟨#[]⟩, .int .i64 0, .slice pa 0 pc, .int .i64 0, .int .i64 0, .int .i64 0] 34)
  generalize w4.alloc (Obj.cells #[.string (str t), .slice da 0 dc, .int .i64 0, .bool false, .string ⟨#[]⟩, .int .i64 0, .slice pa 0 pc, .int .i64 0, .int .i64 0, .int .i64 0] 34) = w5 at hn5 hb5 ⊢
  obtain ⟨T5, hT5⟩ : ∃ T, w4.heap.size = T := ⟨_, rfl⟩
  rw [hT5] at hn5 ⊢
  have HN5 := Lib.hid hn5
  have HC5 := Lib.hid (HC4.out.below hb5)
  have HA5 := Lib.hid (row_on HA4.out hb5)
  clear hn5 hb5 hT5
  go_upto_region 4 with (first
    | (refine wpList_load_row (o := ⟨some 22, .load 34 (.tmp 5), _, _, _, _⟩) (by rfl) 34 (.tmp 5) (by rfl) (T5) (by rfl) 34 _ (0, 0) _ (HN5).out (Tryz.underlying34) (by rfl) (by kernel_rfl) ?_))
  have hn6 := heap_alloc_new w5 (Obj.cells #[.string (str t), .slice da 0 dc, .int .i64 0, .bool false, .string ⟨#[]⟩, .int .i64 0, .slice pa 0 pc, .int .i64 0, .int .i64 0, .int .i64 0, .int .i64 0, .bool false, .slice none 0 0, .string ⟨#[]⟩] 36)
  have hb6 := (Below.refl w5.heap.size w5).alloc (Nat.le_refl _) (Obj.cells #[.string (str t), .slice da 0 dc, .int .i64 0, .bool false, .string ⟨#[]⟩, .int .i64 0, .slice pa 0 pc, .int .i64 0, .int .i64 0, .int .i64 0, .int .i64 0, .bool false, .slice none 0 0, .string ⟨#[]⟩] 36)
  generalize w5.alloc (Obj.cells #[.string (str t), .slice da 0 dc, .int .i64 0, .bool false, .string ⟨#[]⟩, .int .i64 0, .slice pa 0 pc, .int .i64 0, .int .i64 0, .int .i64 0, .int .i64 0, .bool false, .slice none 0 0, .string ⟨#[]⟩] 36) = w6 at hn6 hb6 ⊢
  have hlt := HC5.out.lt
  obtain ⟨T, hTT⟩ : ∃ T, w5.heap.size = T := ⟨_, rfl⟩
  rw [hTT] at hn6 hlt ⊢
  have hTN : T ≠ w.heap.size + 1 := Nat.ne_of_gt hlt
  have HTN := Lib.hid hTN
  have HLT := Lib.hid hlt
  have HN6 := Lib.hid hn6
  have HC6 := Lib.hid (HC5.out.below hb6)
  have HA6 := Lib.hid (row_on HA5.out hb6)
  clear hn6 hb6 hTT hTN hlt
  go_upto_region 5 with (first
    | (go_at_call 149; go_must (refine nmarks_any _ _ _ _ _ K2.out w _ HC6.out _ ?_); intro w7 hc7 hg7; rw [HM3.out, HM4.out]; have hn7 := grown_row hg7 HN6.out HTN.out; have HN7 := Lib.hid hn7; have HC7 := Lib.hid hc7; have HA7 := Lib.hid (grown_row hg7 HA6.out HNE.out); have c10 := cell_of_row w7 T 10 _ _ _ hn7; have f10 := frozen_block hn7 10; have c11 := cell_of_row w7 T 11 _ _ _ hn7; have f11 := frozen_block hn7 11; clear hc7 hg7 hn7))
  have hle : w.heap.size ≤ T := by have := HLT.out; omega
  have hn8 : ((w7.setCell ⟨T, 10, none⟩ (.int .i64 2)).setCell ⟨T, 11, none⟩ (.bool false)).heap[T]? = some (Obj.cells #[.string (str t), .slice da 0 dc, .int .i64 0, .bool false, .string ⟨#[]⟩, .int .i64 0, .slice pa 0 pc, .int .i64 0, .int .i64 0, .int .i64 0, .int .i64 2, .bool false, .slice none 0 0, .string ⟨#[]⟩] 36) := by
    rw [heap_setCell_same _ T 11 _ _ _ (heap_setCell_same w7 T 10 _ _ _ HN7.out)]
    rfl
  have hg8 := grownBy_trans (grownBy_setCell w7 ⟨T, 10, none⟩ (.int .i64 2)) (grownBy_setCell _ ⟨T, 11, none⟩ (.bool false))
  have hc8 := HC7.out.other hg8 HTN.out.symm ((HC7.out.low.setCell hle _).setCell hle _)
  have hAT : w.heap.size ≠ T := by have := HLT.out; omega
  have ha8 := grown_row hg8 HA7.out hAT
  generalize (w7.setCell ⟨T, 10, none⟩ (.int .i64 2)).setCell ⟨T, 11, none⟩ (.bool false) = w8 at hn8 hc8 ha8 ⊢
  have c10b := cell_of_row w8 T 10 _ _ _ hn8
  have HLE := Lib.hid hle
  have HAT := Lib.hid hAT
  have HN8 := Lib.hid hn8
  have HC8 := Lib.hid hc8
  have HA8 := Lib.hid ha8
  clear hn8 hg8 hc8 ha8 c10 c11 f10 f11 hle hAT
  go_wp2_with (first
    | (go_at_call 150; go_must (refine nnum_any _ _ _ _ _ _ K3.out (by decide) w _ HC8.out _ ?_); intro w9 hc9 hg9; have HC9 := Lib.hid hc9; have HN9 := Lib.hid (grown_row hg9 HN8.out HTN.out); have HA9 := Lib.hid (grown_row hg9 HA8.out HNE.out); clear hc9 hg9 c10b))
  refine wp_loop_rounds 1 ?_
  rw [rounds_succ]
  go_upto_region 13 with (first
    | (go_at_call 151; go_must (refine ntext_any _ _ _ _ _ K4.out w _ HC9.out HT.out _ ?_); intro w10 hc10 hg10; have hn10 := grown_row hg10 HN9.out HTN.out; have HC10 := Lib.hid hc10; have HN10 := Lib.hid hn10; have HA10 := Lib.hid (grown_row hg10 HA9.out HNE.out); have c13 := cell_of_row w10 T 13 _ _ _ hn10; have f13 := frozen_block hn10 13; clear hc10 hg10 hn10))
  have hn11 : (w10.setCell ⟨T, 13, none⟩ (.string (str []))).heap[T]? = some (Obj.cells #[.string (str t), .slice da 0 dc, .int .i64 0, .bool false, .string ⟨#[]⟩, .int .i64 0, .slice pa 0 pc, .int .i64 0, .int .i64 0, .int .i64 0, .int .i64 2, .bool false, .slice none 0 0, .string ⟨#[]⟩] 36) := by
    rw [heap_setCell_same w10 T 13 _ _ _ HN10.out]
    rfl
  have hg11 := grownBy_setCell w10 ⟨T, 13, none⟩ (.string (str []))
  have hc11 := HC10.out.other hg11 HTN.out.symm (HC10.out.low.setCell HLE.out _)
  have ha11 := grown_row hg11 HA10.out HAT.out
  generalize w10.setCell ⟨T, 13, none⟩ (.string (str [])) = w11 at hn11 hc11 ha11 ⊢
  obtain ⟨la, lc, hr11, _⟩ := hc11.row
  have c1 : w11.cell? ⟨w.heap.size + 1, 1, none⟩ = some (.bool false) := cell_of_row w11 _ 1 _ _ _ hr11
  have HN11 := Lib.hid hn11
  have HC11 := Lib.hid hc11
  have HA11 := Lib.hid ha11
  have HNL : Hid ((ntBy (gI t).note).length ≤ 140737488355328) := Nat.le_trans HGT.out.nl (by decide)
  have HYL : Hid (Y.length ≤ 140737488355328) := Nat.le_trans HIL.out (by decide)
  have HPL : Hid (((gI t).note.props.flatMap laidL).length ≤ 90000000) := Nat.zero_le _
  obtain ⟨⟨i0, i1, i2, i3, i4, i5, i6⟩, i7, i8, i9, i10, i11, i12, i13⟩ := it14 (w := w11) HN11.out
  clear hn11 hg11 hc11 ha11 c13 f13 hr11
  go_wp2_with (first
    | (go_at_call 60; go_must (refine ilay_any (gI t) rfl _ _ _ _ (HZ1.out.im HZ2.out Z0.nil _ t) HGT.out.ib HPL.out (HT.out.below HC11.out.low) Y HY.out HNL.out HYL.out _ ?_); intro ya yc w12 ho12 hb12; have HY12 := Lib.hid (bs_len ho12); have HN12 := Lib.hid (row_on HN11.out hb12); have HA12 := Lib.hid (row_on HA11.out hb12); have HB12 := Lib.hid (below_then HC11.out.low hb12 HC11.out.low.size); clear ho12 hb12 i0 i1 i2 i3 i4 i5 i6 i7 i8 i9 i10 i11 i12 i13 c1)
    | (go_at_call 53; go_must (refine equal_any _ _ Y Y _ HY12.out (HV.out.below HB12.out) _ ?_); rw [beq_self_eq_true])
    | (refine wpList_load_row (o := ⟨some 86, .load 36 (.tmp 7), _, _, _, _⟩) (by rfl) 36 (.tmp 7) (by rfl) (T) (by rfl) 36 _ (0, 0) _ (HN12).out (Tryz.underlying36) (by rfl) (by kernel_rfl) ?_)
    | (refine wpList_store_row (o := ⟨none, .store 36 (.tmp 2) (.tmp 86), _, _, _, _⟩) (by rfl) 36 (.tmp 2) (.tmp 86) (by rfl) (w.heap.size) _ (by rfl) (by rfl) 36 _ (HA12).out (by kernel_rfl) (by rfl) (by simp [Value.oneCell']) ?_))
  refine bodyPost_ret (res_one rfl _ _ w.heap.size 36 #[.string (str t), .slice da 0 dc, .int .i64 0, .bool false, .string ⟨#[]⟩, .int .i64 0, .slice pa 0 pc, .int .i64 0, .int .i64 0, .int .i64 0, .int .i64 2, .bool false, .slice none 0 0, .string ⟨#[]⟩] (0, 0) _ (.int .i64 0) rfl rfl (setRow_heap _ w.heap.size _ _ _ _ HA12.out) Tryz.underlying36 rfl (by kernel_rfl)) rfl ?_
  exact HR.out da dc pa pc _ HZ1.out HZ2.out (below_setRow HB12.out (Nat.le_refl _) _)
end Go.Proofs.YtgimbocoamnkjaaGreatDoor

/- (*session.cursor).item at the bytes of an item with a topic alone: walked. -/
namespace Go.Proofs.YtgimbocoamnkjaaGreatDoor
open Go.RowKit

set_option maxRecDepth 100000 in
set_option maxHeartbeats 4000000 in
theorem sitem_g (N : Nat) (t : List UInt8) (ht : GT t) (r : List UInt8) (w0 w : World) (h : CR w0 106 N ⟨(dataL (imBy (gI t))).1 ++ r, false⟩ w) (hT : Tabs w0) (R : Ending → World → Prop)
    (hR : ∀ da dc pa pc w', Z0 da dc → Z0 pa pc → CR w0 106 N ⟨r, false⟩ w' → w.grownBy w' (some N) → R (.returned (.agg #[.string (str t), .slice da 0 dc, .int .i64 0, .bool false, .string ⟨#[]⟩, .int .i64 0, .slice pa 0 pc, .int .i64 0, .int .i64 0, .int .i64 0, .int .i64 2, .bool false, .slice none 0 0, .string ⟨#[]⟩])) w') :
    Calls Tryz.prog 49 #[.pointer (some ⟨N, 0, none⟩)] w R := by
  have HR := Lib.hid hR
  have HGT := Lib.hid ht
  have HT := Lib.hid hT
  have hil := ht.il
  obtain ⟨Y, hY⟩ : ∃ q, imBy (gI t) = q := ⟨_, rfl⟩
  rw [hY] at h hil
  have hG := getDataL_back Y r (by omega)
  have hDL : (dataL Y).1 = putL Y.length 2 ++ Y := by unfold dataL; rw [if_neg (by omega)]
  rw [← hDL] at hG
  have hal := dataL_leneq (l := Y) (by omega)
  obtain ⟨a, haa⟩ : ∃ q, (dataL Y).1 = q := ⟨_, rfl⟩
  rw [haa] at hG hal h
  obtain ⟨n, hn⟩ : ∃ n, Y.length + 2 = n := ⟨_, rfl⟩
  have hni : (Y.length : Int) + 2 = (n : Int) := by omega
  rw [hni] at hG
  rw [hn] at hal
  obtain ⟨sb, hsb⟩ : ∃ q, a ++ r = q := ⟨_, rfl⟩
  rw [hsb] at hG h
  have hnsb : n ≤ sb.length := by have := congrArg List.length hsb; rw [List.length_append] at this; omega
  have hb1 : Below w.heap.size w (w.alloc (Obj.cells #[.string ⟨#[]⟩, .slice none 0 0, .int .i64 0, .bool false, .string ⟨#[]⟩, .int .i64 0, .slice none 0 0, .int .i64 0, .int .i64 0, .int .i64 0, .int .i64 0, .bool false, .slice none 0 0, .string ⟨#[]⟩] 36)) := (Below.refl _ _).alloc (Nat.le_refl _) _
  have hA1 := heap_alloc_new w (Obj.cells #[.string ⟨#[]⟩, .slice none 0 0, .int .i64 0, .bool false, .string ⟨#[]⟩, .int .i64 0, .slice none 0 0, .int .i64 0, .int .i64 0, .int .i64 0, .int .i64 0, .bool false, .slice none 0 0, .string ⟨#[]⟩] 36)
  have HC1 := Lib.hid (h.below hb1)
  have hNA : N < w.heap.size := h.lt
  have HGR1 : Hid (w.grownBy (w.alloc (Obj.cells #[.string ⟨#[]⟩, .slice none 0 0, .int .i64 0, .bool false, .string ⟨#[]⟩, .int .i64 0, .slice none 0 0, .int .i64 0, .int .i64 0, .int .i64 0, .int .i64 0, .bool false, .slice none 0 0, .string ⟨#[]⟩] 36)) (some N)) := grown_bel hb1
  have HNA := Lib.hid hNA
  have HNE : Hid (w.heap.size ≠ N) := Nat.ne_of_gt hNA
  clear hR ht hT hil h hb1 hNA haa hDL hn hni
  have HG := Lib.hid hG
  have HAL := Lib.hid hal
  have HSB := Lib.hid hsb
  have HYY := Lib.hid hY
  have HNS := Lib.hid hnsb
  clear hG hal hsb hY hnsb
  go_enter Tryz.func49, Tryz.ntmps49
  go_upto_region 1 with fail
  generalize w.alloc (Obj.cells #[.string ⟨#[]⟩, .slice none 0 0, .int .i64 0, .bool false, .string ⟨#[]⟩, .int .i64 0, .slice none 0 0, .int .i64 0, .int .i64 0, .int .i64 0, .int .i64 0, .bool false, .slice none 0 0, .string ⟨#[]⟩] 36) = w1 at HC1 hA1 HGR1 ⊢
  obtain ⟨A, hAA⟩ : ∃ A, w.heap.size = A := ⟨_, rfl⟩
  rw [hAA] at hA1 HNA HNE ⊢
  have HA1 := Lib.hid hA1
  have HAA := Lib.hid hAA
  obtain ⟨ad, c, hrow, hbs⟩ := HC1.out.row
  simp only at hrow hbs
  have c0 := cell_of_row w1 N 0 _ _ _ hrow
  have HBS1 := Lib.hid (hbs.below HC1.out.low)
  have HBS0 := Lib.hid hbs
  have HROW1 := Lib.hid hrow
  have hlc : (n : Int) ≤ (c : Int) := by have := hbs.parts.2.2.1; have := HNS.out; omega
  have hlz : (n : Int) ≤ (sb.length : Int) := by have := HNS.out; omega
  clear hA1 hrow hbs hAA
  go_upto_region 3 with (first
    | (go_at_call 112; go_must (refine getdata_any _ sb Y n 0 HG.out _ HBS1.out _ ?_); intro xa xc w2 ho2 hb2; have hrow2 := row_on HROW1.out hb2; have c01 := cell_of_row w2 N 0 _ _ _ hrow2; have f0 := frozen_block hrow2 0; have HA2 := Lib.hid (row_on HA1.out hb2); have HO2 := Lib.hid ho2; have HG2 := Lib.hid (grownBy_trans HGR1.out (grown_bel hb2)); have HN2 := Lib.hid (HC1.out.lt); obtain ⟨Lx, hsl, hcut⟩ := scut_of 106 N n sb a r HSB.out HAL.out w0 w2 ad c hrow2 HBS0.out (HC1.out.below hb2).low HC1.out.nn HC1.out.len; have HCUT := Lib.hid hcut; clear hcut ho2 hb2 hrow2 c0))
  have hg3 := grownBy_setCell w2 ⟨N, 0, none⟩ (.slice Lx (sb.length - n) (c - n))
  have hcr3 := HCUT.out.cr
  have hbs3 : Bs (w2.setCell ⟨N, 0, none⟩ (.slice Lx (sb.length - n) (c - n))) (.slice xa Y.length xc) (imBy (gI t)) := by
    rw [HYY.out]
    exact bs_len (owns_grown HO2.out hg3 (own_off HO2.out HN2.out))
  have ha3 := grown_row hg3 HA2.out HNE.out
  have hgr3 := grownBy_trans HG2.out hg3
  generalize w2.setCell ⟨N, 0, none⟩ (.slice Lx (sb.length - n) (c - n)) = w3 at hcr3 hbs3 ha3 hgr3 ⊢
  have HC3 := Lib.hid hcr3
  have HBS3 := Lib.hid hbs3
  have HA3 := Lib.hid ha3
  have HG3 := Lib.hid hgr3
  clear hg3 hcr3 hbs3 ha3 hgr3 c01 f0 hsl
  go_upto_region 4 with (first
    | (go_at_call 113; go_must (refine niread_g t HGT.out _ _ HBS3.out (HT.out.below HC3.out.low) _ ?_); intro da dc pa pc w4 hz1 hz2 hb4; have HZ1 := Lib.hid hz1; have HZ2 := Lib.hid hz2; have HC4 := Lib.hid (HC3.out.below hb4); have HA4 := Lib.hid (row_on HA3.out hb4); have HG4 := Lib.hid (grownBy_trans HG3.out (grown_bel hb4)); clear hz1 hz2 hb4))
  have hn5 := heap_alloc_new w4 (Obj.cells #[.string (str t), .slice da 0 dc, .int .i64 0, .bool false, .string ⟨#[]⟩, .int .i64 0, .slice pa 0 pc, .int .i64 0, .int .i64 0, .int .i64 0, .int .i64 2, .bool false, .slice none 0 0, .string ⟨#[]⟩] 36)
  have hb5 := (Below.refl w4.heap.size w4).alloc (Nat.le_refl _) (Obj.cells #[.string (str t), .slice da 0 dc, .int .i64 0, .bool false, .string ⟨#[]⟩, .int .i64 0, .slice pa 0 pc, .int .i64 0, .int .i64 0, .int .i64 0, .int .i64 2, .bool false, .slice none 0 0, .string ⟨#[]⟩] 36)
  generalize w4.alloc (Obj.cells #[.string (str t), .slice da 0 dc, .int .i64 0, .bool false, .string ⟨#[]⟩, .int .i64 0, .slice pa 0 pc, .int .i64 0, .int .i64 0, .int .i64 0, .int .i64 2, .bool false, .slice none 0 0, .string ⟨#[]⟩] 36) = w5 at hn5 hb5 ⊢
  have hlt := HC4.out.lt
  obtain ⟨T, hTT⟩ : ∃ T, w4.heap.size = T := ⟨_, rfl⟩
  rw [hTT] at hn5 hlt ⊢
  have HTN : Hid (T ≠ N) := Nat.ne_of_gt hlt
  have hc5 := HC4.out.below hb5
  obtain ⟨la, lc, hr5, _⟩ := hc5.row
  have c1 : w5.cell? ⟨N, 1, none⟩ = some (.bool false) := cell_of_row w5 N 1 _ _ _ hr5
  have f1 := frozen_block hr5 1
  have HN5 := Lib.hid hn5
  have HC5 := Lib.hid hc5
  have HA5 := Lib.hid (row_on HA4.out hb5)
  have HG5 := Lib.hid (grownBy_trans HG4.out (grown_bel hb5))
  clear hn5 hb5 hTT hlt hc5 hr5
  go_upto_region 5 with fail
  have hg6 := grownBy_setCell w5 ⟨N, 1, none⟩ (.bool false)
  have hc6 := HC5.out.mark false
  have hn6 := grown_row hg6 HN5.out HTN.out
  have ha6 := grown_row hg6 HA5.out HNE.out
  have hgr6 := grownBy_trans HG5.out hg6
  generalize w5.setCell ⟨N, 1, none⟩ (.bool false) = w6 at hc6 hn6 ha6 hgr6 ⊢
  have HN6 := Lib.hid hn6
  have HC6 := Lib.hid hc6
  have HA6 := Lib.hid ha6
  have HG6 := Lib.hid hgr6
  clear hg6 hc6 hn6 ha6 hgr6 c1 f1
  go_wp2_with (first
    | (refine wpList_load_row (o := ⟨some 46, .load 36 (.tmp 6), _, _, _, _⟩) (by rfl) 36 (.tmp 6) (by rfl) (T) (by rfl) 36 _ (0, 0) _ (HN6).out (Tryz.underlying36) (by rfl) (by kernel_rfl) ?_)
    | (refine wpList_store_row (o := ⟨none, .store 36 (.tmp 2) (.tmp 46), _, _, _, _⟩) (by rfl) 36 (.tmp 2) (.tmp 46) (by rfl) (A) _ (by rfl) (by rfl) 36 _ (HA6).out (by kernel_rfl) (by rfl) (by simp [Value.oneCell']) ?_))
  refine bodyPost_ret (results_cell_row rfl _ _ A 36 #[.string (str t), .slice da 0 dc, .int .i64 0, .bool false, .string ⟨#[]⟩, .int .i64 0, .slice pa 0 pc, .int .i64 0, .int .i64 0, .int .i64 0, .int .i64 2, .bool false, .slice none 0 0, .string ⟨#[]⟩] (0, 0) _ rfl (setRow_heap _ A _ _ _ _ HA6.out) Tryz.underlying36 rfl (by kernel_rfl)) rfl ?_
  have hg7 := grownBy_setRowQ w6 A #[.string (str t), .slice da 0 dc, .int .i64 0, .bool false, .string ⟨#[]⟩, .int .i64 0, .slice pa 0 pc, .int .i64 0, .int .i64 0, .int .i64 0, .int .i64 2, .bool false, .slice none 0 0, .string ⟨#[]⟩]
  exact HR.out da dc pa pc _ HZ1.out HZ2.out (HC6.out.other hg7 HNE.out.symm (below_setRow HC6.out.low (Nat.le_trans HC6.out.nn (Nat.le_of_lt HNA.out)) _)) (grown_then HG6.out hg7 (Nat.le_of_eq HAA.out))
end Go.Proofs.YtgimbocoamnkjaaGreatDoor

/- note.SameItem at an item with a topic alone and its like, walked. -/
namespace Go.Proofs.YtgimbocoamnkjaaGreatDoor
open Go.RowKit

set_option maxRecDepth 100000 in
set_option maxHeartbeats 4000000 in
theorem nsame_any (x : Nt) (pv qv pu qu : Value) (w : World) (hp : Bs w pv x.payload) (hq : Ps w qv x.props) (hp2 : Bs w pu x.payload) (hq2 : Ps w qu x.props) (R : Ending → World → Prop)
    (hR : ∀ w', Below w.heap.size w w' → R (.returned (.bool true)) w') :
    Calls Tryz.prog 152 #[(Value.agg #[.string (str x.topic), pv, .int .i64 x.qos, .bool x.retain, .string (str x.src), .int .i64 x.expires, qv, .int .i64 x.origin, .int .i64 x.number, .int .i64 x.hops]), (Value.agg #[.string (str x.topic), pu, .int .i64 x.qos, .bool x.retain, .string (str x.src), .int .i64 x.expires, qu, .int .i64 x.origin, .int .i64 x.number, .int .i64 x.hops])] w R := by
  obtain ⟨topic, payload, qos, retain, src, expires, props, origin, number, hops⟩ := x
  simp only at *
  obtain ⟨O0, hO0⟩ : ∃ o, (Obj.cells #[.string (str topic), pv, .int .i64 qos, .bool retain, .string (str src), .int .i64 expires, qv, .int .i64 origin, .int .i64 number, .int .i64 hops] 34) = o := ⟨_, rfl⟩
  obtain ⟨O1, hO1⟩ : ∃ o, (Obj.cells #[.string (str topic), pu, .int .i64 qos, .bool retain, .string (str src), .int .i64 expires, qu, .int .i64 origin, .int .i64 number, .int .i64 hops] 34) = o := ⟨_, rfl⟩
  have hb0 : Below w.heap.size w ((w.alloc O0).alloc O1) := ((Below.refl _ _).alloc (Nat.le_refl _) _).alloc (by simp) _
  have n0 := block_alloc (o' := O1) (heap_alloc_new w O0)
  have n1 := heap_alloc_new (w.alloc O0) O1
  rw [show (w.alloc O0).heap.size = w.heap.size + 1 by simp] at n1
  have HB0 := Lib.hid hb0
  have N0 := Lib.hid n0
  have N1 := Lib.hid n1
  rw [← hO0, ← hO1] at HB0 N0 N1
  clear hb0 n0 n1 hO0 hO1
  have HR := Lib.hid hR
  have HP := Lib.hid (hp.below HB0.out)
  have HP2 := Lib.hid (hp2.below HB0.out)
  have HQ := Lib.hid (hq.below HB0.out)
  have HQ2 := Lib.hid (hq2.below HB0.out)
  have hsr : Hid (sameR props props = true) := decide_eq_true rfl
  clear hp hq hp2 hq2 hR
  go_enter Tryz.func152, Tryz.ntmps152
  go_wp2_with (first
    | (go_at_call 53; go_must (refine equal_any _ _ payload payload _ HP.out HP2.out _ ?_); rw [beq_self_eq_true])
    | (go_at_call 169; go_must (refine psame_any _ _ props props true hsr.out _ HQ.out HQ2.out _ ?_); intro w3 hb3; have r0 := row_on N0.out hb3; have r1 := row_on N1.out hb3; have c7 := cell_of_row w3 _ 7 _ _ _ r0; have c8 := cell_of_row w3 _ 8 _ _ _ r0; have c9 := cell_of_row w3 _ 9 _ _ _ r0; have d7 := cell_of_row w3 _ 7 _ _ _ r1; have d8 := cell_of_row w3 _ 8 _ _ _ r1; have d9 := cell_of_row w3 _ 9 _ _ _ r1))
  all_goals exact HR.out _ (below_then HB0.out hb3 HB0.out.size)

set_option maxRecDepth 100000 in
theorem slequal_none (a b : Option Addr) (c e : Nat) (w : World) (R : Ending → World → Prop)
    (hR : R (.returned (.bool true)) w) :
    Calls Tryz.prog 153 #[.slice a 0 c, .slice b 0 e] w R := by
  have HR := Lib.hid hR
  clear hR
  go_enter Tryz.func153, Tryz.ntmps153
  go_wp2
  refine wp_loop_rounds 1 ?_
  rw [rounds_succ]
  go_wp2
  exact HR.out

set_option maxRecDepth 100000 in
set_option maxHeartbeats 4000000 in
theorem nsamei_g (t : List UInt8) (a b d a2 b2 d2 : Option Addr) (c e f c2 e2 f2 : Nat) (ha : Z0 a c) (hb : Z0 b e) (ha2 : Z0 a2 c2) (hb2 : Z0 b2 e2) (w : World) (R : Ending → World → Prop)
    (hR : ∀ w', Below w.heap.size w w' → R (.returned (.bool true)) w') :
    Calls Tryz.prog 114 #[(Value.agg #[.string (str (gI t).note.topic), (.slice a 0 c), .int .i64 (gI t).note.qos, .bool (gI t).note.retain, .string (str (gI t).note.src), .int .i64 (gI t).note.expires, (.slice b 0 e), .int .i64 (gI t).note.origin, .int .i64 (gI t).note.number, .int .i64 (gI t).note.hops, .int .i64 (gI t).qos, .bool (gI t).keep, (.slice d 0 f), .string (str (gI t).share)]), (Value.agg #[.string (str (gI t).note.topic), (.slice a2 0 c2), .int .i64 (gI t).note.qos, .bool (gI t).note.retain, .string (str (gI t).note.src), .int .i64 (gI t).note.expires, (.slice b2 0 e2), .int .i64 (gI t).note.origin, .int .i64 (gI t).note.number, .int .i64 (gI t).note.hops, .int .i64 (gI t).qos, .bool (gI t).keep, (.slice d2 0 f2), .string (str (gI t).share)])] w R := by
  have HR := Lib.hid hR
  unfold gI gN
  simp only
  obtain ⟨O0, hO0⟩ : ∃ o, (Obj.cells #[.string (str t), .slice a 0 c, .int .i64 0, .bool false, .string (str []), .int .i64 0, .slice b 0 e, .int .i64 0, .int .i64 0, .int .i64 0, .int .i64 2, .bool false, .slice d 0 f, .string (str [])] 36) = o := ⟨_, rfl⟩
  obtain ⟨O1, hO1⟩ : ∃ o, (Obj.cells #[.string (str t), .slice a2 0 c2, .int .i64 0, .bool false, .string (str []), .int .i64 0, .slice b2 0 e2, .int .i64 0, .int .i64 0, .int .i64 0, .int .i64 2, .bool false, .slice d2 0 f2, .string (str [])] 36) = o := ⟨_, rfl⟩
  have hb1 : Below w.heap.size w ((w.alloc O0).alloc O1) := ((Below.refl _ _).alloc (Nat.le_refl _) _).alloc (by simp) _
  have n0 := block_alloc (o' := O1) (heap_alloc_new w O0)
  have n1 := heap_alloc_new (w.alloc O0) O1
  rw [show (w.alloc O0).heap.size = w.heap.size + 1 by simp] at n1
  have HB1 := Lib.hid hb1
  have N0 := Lib.hid n0
  have N1 := Lib.hid n1
  rw [← hO0, ← hO1] at HB1 N0 N1
  have HA := Lib.hid ha
  have HBB := Lib.hid hb
  have HA2 := Lib.hid ha2
  have HBB2 := Lib.hid hb2
  clear hb1 n0 n1 hO0 hO1 hR ha hb ha2 hb2
  go_enter Tryz.func114, Tryz.ntmps114
  go_wp2_with (first
    | (go_at_call 152; go_must (refine nsame_any (gN t) _ _ _ _ _ (HA.out.bs _) (HBB.out.ps _) (HA2.out.bs _) (HBB2.out.ps _) _ ?_); intro w3 hb3; have r0 := row_on N0.out hb3; have r1 := row_on N1.out hb3; have c10 := cell_of_row w3 _ 10 _ _ _ r0; have c11 := cell_of_row w3 _ 11 _ _ _ r0; have c12 := cell_of_row w3 _ 12 _ _ _ r0; have c13 := cell_of_row w3 _ 13 _ _ _ r0; have d10 := cell_of_row w3 _ 10 _ _ _ r1; have d11 := cell_of_row w3 _ 11 _ _ _ r1; have d12 := cell_of_row w3 _ 12 _ _ _ r1; have d13 := cell_of_row w3 _ 13 _ _ _ r1; have HB3 := Lib.hid (below_then HB1.out hb3 HB1.out.size); clear hb3 r0 r1)
    | (go_at_call 153; go_must (refine slequal_none _ _ _ _ _ _ ?_)))
  all_goals exact HR.out _ HB3.out
end Go.Proofs.YtgimbocoamnkjaaGreatDoor

/- (*session.cursor).flight at the bytes of a released flight: walked. -/
namespace Go.Proofs.YtgimbocoamnkjaaGreatDoor
open Go.RowKit

theorem num_1 : IntKind.i64.wrap (getU (putL 1 2)) = 1 := by decide +kernel
theorem num_b3 : IntKind.i64.wrap (getU [b8 3]) = 3 := by decide +kernel

set_option maxRecDepth 100000 in
set_option maxHeartbeats 4000000 in
theorem sflight_g (N : Nat) (t : List UInt8) (ht : GT t) (r : List UInt8) (w0 w : World) (h : CR w0 106 N ⟨putL 1 2 ++ ([b8 3] ++ ((dataL (imBy (gI t))).1 ++ r)), false⟩ w) (hT : Tabs w0) (R : Ending → World → Prop)
    (hR : ∀ da dc pa pc w', Z0 da dc → Z0 pa pc → CR w0 106 N ⟨r, false⟩ w' → w.grownBy w' (some N) → R (.returned (.agg #[.int .i64 1, .int .i64 3, .string (str t), .slice da 0 dc, .int .i64 0, .bool false, .string ⟨#[]⟩, .int .i64 0, .slice pa 0 pc, .int .i64 0, .int .i64 0, .int .i64 0, .int .i64 2, .bool false, .slice none 0 0, .string ⟨#[]⟩])) w') :
    Calls Tryz.prog 50 #[.pointer (some ⟨N, 0, none⟩)] w R := by
  have HR := Lib.hid hR
  have HGT := Lib.hid ht
  have HT := Lib.hid hT
  have hb1 : Below w.heap.size w (w.alloc (Obj.cells #[.int .i64 0, .int .i64 0, .string ⟨#[]⟩, .slice none 0 0, .int .i64 0, .bool false, .string ⟨#[]⟩, .int .i64 0, .slice none 0 0, .int .i64 0, .int .i64 0, .int .i64 0, .int .i64 0, .bool false, .slice none 0 0, .string ⟨#[]⟩] 51)) := (Below.refl _ _).alloc (Nat.le_refl _) _
  have hA1 := heap_alloc_new w (Obj.cells #[.int .i64 0, .int .i64 0, .string ⟨#[]⟩, .slice none 0 0, .int .i64 0, .bool false, .string ⟨#[]⟩, .int .i64 0, .slice none 0 0, .int .i64 0, .int .i64 0, .int .i64 0, .int .i64 0, .bool false, .slice none 0 0, .string ⟨#[]⟩] 51)
  have HC1 := Lib.hid (h.below hb1)
  have hNA : N < w.heap.size := h.lt
  have HGR1 : Hid (w.grownBy (w.alloc (Obj.cells #[.int .i64 0, .int .i64 0, .string ⟨#[]⟩, .slice none 0 0, .int .i64 0, .bool false, .string ⟨#[]⟩, .int .i64 0, .slice none 0 0, .int .i64 0, .int .i64 0, .int .i64 0, .int .i64 0, .bool false, .slice none 0 0, .string ⟨#[]⟩] 51)) (some N)) := grown_bel hb1
  have HNA := Lib.hid hNA
  have hm1 : Hid True := trivial
  clear hR ht hT h hb1 hNA
  go_enter Tryz.func50, Tryz.ntmps50
  go_upto_region 1 with fail
  generalize w.alloc (Obj.cells #[.int .i64 0, .int .i64 0, .string ⟨#[]⟩, .slice none 0 0, .int .i64 0, .bool false, .string ⟨#[]⟩, .int .i64 0, .slice none 0 0, .int .i64 0, .int .i64 0, .int .i64 0, .int .i64 0, .bool false, .slice none 0 0, .string ⟨#[]⟩] 51) = w1 at HC1 hA1 HGR1 ⊢
  obtain ⟨A, hAA⟩ : ∃ A, w.heap.size = A := ⟨_, rfl⟩
  rw [hAA] at hA1 HNA ⊢
  have HNE : Hid (A ≠ N) := Nat.ne_of_gt HNA.out
  have HA1 := Lib.hid hA1
  have HAA := Lib.hid hAA
  clear hA1 hAA
  go_upto_region 2 with (first
    | (have hq := hm1; go_at_call 45; go_must (refine snum_any N 2 (putL 1 2) _ (putL_length _ _) 1 num_1 w0 _ HC1.out _ ?_); intro w2 hc2 hg2; have HC2 := Lib.hid hc2; have HA2 := Lib.hid (grown_row hg2 HA1.out HNE.out); have HG2 := Lib.hid (grownBy_trans HGR1.out hg2); clear hq hm1 hc2 hg2)
    | (go_at_call 45; go_must (refine snum_any N 1 [b8 3] _ rfl 3 num_b3 w0 _ HC2.out _ ?_); intro w3 hc3 hg3; have HC3 := Lib.hid hc3; have HA3 := Lib.hid (grown_row hg3 HA2.out HNE.out); have HG3 := Lib.hid (grownBy_trans HG2.out hg3); clear hc3 hg3)
    | (go_at_call 49; go_must (refine sitem_g N t HGT.out _ w0 _ HC3.out HT.out _ ?_); intro da dc pa pc w4 hz1 hz2 hc4 hg4; have HZ1 := Lib.hid hz1; have HZ2 := Lib.hid hz2; have HC4 := Lib.hid hc4; have HA4 := Lib.hid (grown_row hg4 HA3.out HNE.out); have HG4 := Lib.hid (grownBy_trans HG3.out hg4); clear hz1 hz2 hc4 hg4))
  have hn5 := heap_alloc_new w4 (Obj.cells #[.int .i64 1, .int .i64 3, .string (str t), .slice da 0 dc, .int .i64 0, .bool false, .string ⟨#[]⟩, .int .i64 0, .slice pa 0 pc, .int .i64 0, .int .i64 0, .int .i64 0, .int .i64 2, .bool false, .slice none 0 0, .string ⟨#[]⟩] 51)
  have hb5 := (Below.refl w4.heap.size w4).alloc (Nat.le_refl _) (Obj.cells #[.int .i64 1, .int .i64 3, .string (str t), .slice da 0 dc, .int .i64 0, .bool false, .string ⟨#[]⟩, .int .i64 0, .slice pa 0 pc, .int .i64 0, .int .i64 0, .int .i64 0, .int .i64 2, .bool false, .slice none 0 0, .string ⟨#[]⟩] 51)
  generalize w4.alloc (Obj.cells #[.int .i64 1, .int .i64 3, .string (str t), .slice da 0 dc, .int .i64 0, .bool false, .string ⟨#[]⟩, .int .i64 0, .slice pa 0 pc, .int .i64 0, .int .i64 0, .int .i64 0, .int .i64 2, .bool false, .slice none 0 0, .string ⟨#[]⟩] 51) = w5 at hn5 hb5 ⊢
  have hlt := HC4.out.lt
  obtain ⟨T, hTT⟩ : ∃ T, w4.heap.size = T := ⟨_, rfl⟩
  rw [hTT] at hn5 hlt ⊢
  have HTN : Hid (T ≠ N) := Nat.ne_of_gt hlt
  have d2 := cell_of_row w5 T 2 _ _ _ hn5
  have HN5 := Lib.hid hn5
  have HC5 := Lib.hid (HC4.out.below hb5)
  have HA5 := Lib.hid (row_on HA4.out hb5)
  have HG5 := Lib.hid (grownBy_trans HG4.out (grown_bel hb5))
  clear hn5 hb5 hTT hlt
  go_upto_region 3 with fail
  have hm6 := heap_alloc_new w5 (Obj.cells #[.string (str t), .slice none 0 0, .int .i64 0, .bool false, .string ⟨#[]⟩, .int .i64 0, .slice none 0 0, .int .i64 0, .int .i64 0, .int .i64 0, .int .i64 2, .bool false, .slice none 0 0, .string ⟨#[]⟩] 36)
  have hb6 := (Below.refl w5.heap.size w5).alloc (Nat.le_refl _) (Obj.cells #[.string (str t), .slice none 0 0, .int .i64 0, .bool false, .string ⟨#[]⟩, .int .i64 0, .slice none 0 0, .int .i64 0, .int .i64 0, .int .i64 0, .int .i64 2, .bool false, .slice none 0 0, .string ⟨#[]⟩] 36)
  generalize w5.alloc (Obj.cells #[.string (str t), .slice none 0 0, .int .i64 0, .bool false, .string ⟨#[]⟩, .int .i64 0, .slice none 0 0, .int .i64 0, .int .i64 0, .int .i64 0, .int .i64 2, .bool false, .slice none 0 0, .string ⟨#[]⟩] 36) = w6 at hm6 hb6 ⊢
  obtain ⟨G, hGG⟩ : ∃ G, w5.heap.size = G := ⟨_, rfl⟩
  rw [hGG] at hm6 ⊢
  have hn6 := row_on HN5.out hb6
  obtain ⟨t0, t1, t2, t3, t4, t5, t6, t7, t8, t9, t10, t11, t12, t13, t14, t15⟩ := slT hn6
  obtain ⟨⟨i0, i1, i2, i3, i4, i5, i6⟩, i7, i8, i9, i10, i11, i12, i13⟩ := it14 (w := w6) hm6
  have hc6 := HC5.out.below hb6
  obtain ⟨la, lc, hr6, _⟩ := hc6.row
  have c1 : w6.cell? ⟨N, 1, none⟩ = some (.bool false) := cell_of_row w6 N 1 _ _ _ hr6
  have HN6 := Lib.hid hn6
  have HC6 := Lib.hid hc6
  have HA6 := Lib.hid (row_on HA5.out hb6)
  have HG6 := Lib.hid (grownBy_trans HG5.out (grown_bel hb6))
  clear hm6 hb6 hGG hn6 hc6 hr6 d2
  go_upto_region 10 with (first
    | (go_at_call 114; go_must (refine nsamei_g t da pa none none none none dc pc 0 0 0 0 HZ1.out HZ2.out Z0.nil Z0.nil _ _ ?_); intro w7 hb7; have hc7 := HC6.out.below hb7; have HC7 := Lib.hid hc7; have HN7 := Lib.hid (row_on HN6.out hb7); have HA7 := Lib.hid (row_on HA6.out hb7); have HG7 := Lib.hid (grownBy_trans HG6.out (grown_bel hb7)); obtain ⟨la7, lc7, hr7, _⟩ := hc7.row; have f17 := frozen_block hr7 1; have c17 : w7.cell? ⟨N, 1, none⟩ = some (.bool false) := cell_of_row w7 N 1 _ _ _ hr7; clear hb7 hc7 hr7 c1 t0 t1 t2 t3 t4 t5 t6 t7 t8 t9 t10 t11 t12 t13 t14 t15 i0 i1 i2 i3 i4 i5 i6 i7 i8 i9 i10 i11 i12 i13))
  have hg8 := grownBy_setCell w7 ⟨N, 1, none⟩ (.bool false)
  have hc8 := HC7.out.mark false
  have hn8 := grown_row hg8 HN7.out HTN.out
  have ha8 := grown_row hg8 HA7.out HNE.out
  have hgr8 := grownBy_trans HG7.out hg8
  generalize w7.setCell ⟨N, 1, none⟩ (.bool false) = w8 at hc8 hn8 ha8 hgr8 ⊢
  obtain ⟨la8, lc8, hr8, _⟩ := hc8.row
  have c18 : w8.cell? ⟨N, 1, none⟩ = some (.bool false) := cell_of_row w8 N 1 _ _ _ hr8
  have f18 := frozen_block hr8 1
  have d0 := cell_of_row w8 T 0 _ _ _ hn8
  have HN8 := Lib.hid hn8
  have HC8 := Lib.hid hc8
  have HA8 := Lib.hid ha8
  have HG8 := Lib.hid hgr8
  clear hg8 hc8 hn8 ha8 hgr8 c17 f17 hr8
  go_upto_region 11 with fail
  have hg9 := grownBy_setCell w8 ⟨N, 1, none⟩ (.bool false)
  have hc9 := HC8.out.mark false
  have hn9 := grown_row hg9 HN8.out HTN.out
  have ha9 := grown_row hg9 HA8.out HNE.out
  have hgr9 := grownBy_trans HG8.out hg9
  generalize w8.setCell ⟨N, 1, none⟩ (.bool false) = w9 at hc9 hn9 ha9 hgr9 ⊢
  have HN9 := Lib.hid hn9
  have HC9 := Lib.hid hc9
  have HA9 := Lib.hid ha9
  have HG9 := Lib.hid hgr9
  clear hg9 hc9 hn9 ha9 hgr9 c18 f18 d0
  go_wp2_with (first
    | (refine wpList_load_row (o := ⟨some 69, .load 51 (.tmp 3), _, _, _, _⟩) (by rfl) 51 (.tmp 3) (by rfl) (T) (by rfl) 51 _ (0, 0) _ (HN9).out (Tryz.underlying51) (by rfl) (by kernel_rfl) ?_)
    | (refine wpList_store_row (o := ⟨none, .store 51 (.tmp 2) (.tmp 69), _, _, _, _⟩) (by rfl) 51 (.tmp 2) (.tmp 69) (by rfl) (A) _ (by rfl) (by rfl) 51 _ (HA9).out (by kernel_rfl) (by rfl) (by simp [Value.oneCell']) ?_))
  refine bodyPost_ret (results_cell_row rfl _ _ A 51 #[.int .i64 1, .int .i64 3, .string (str t), .slice da 0 dc, .int .i64 0, .bool false, .string ⟨#[]⟩, .int .i64 0, .slice pa 0 pc, .int .i64 0, .int .i64 0, .int .i64 0, .int .i64 2, .bool false, .slice none 0 0, .string ⟨#[]⟩] (0, 0) _ rfl (setRow_heap _ A _ _ _ _ HA9.out) Tryz.underlying51 rfl (by kernel_rfl)) rfl ?_
  have hg10 := grownBy_setRowQ w9 A #[.int .i64 1, .int .i64 3, .string (str t), .slice da 0 dc, .int .i64 0, .bool false, .string ⟨#[]⟩, .int .i64 0, .slice pa 0 pc, .int .i64 0, .int .i64 0, .int .i64 0, .int .i64 2, .bool false, .slice none 0 0, .string ⟨#[]⟩]
  exact HR.out da dc pa pc _ HZ1.out HZ2.out (HC9.out.other hg10 HNE.out.symm (below_setRow HC9.out.low (Nat.le_trans HC9.out.nn (Nat.le_of_lt HNA.out)) _)) (grown_then HG9.out hg10 (Nat.le_of_eq HAA.out))
end Go.Proofs.YtgimbocoamnkjaaGreatDoor
