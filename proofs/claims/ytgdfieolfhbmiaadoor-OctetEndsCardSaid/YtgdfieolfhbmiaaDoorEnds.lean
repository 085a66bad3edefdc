import Derived.Test.YtgdfieolfhbmiaaDoorWakes1
import Derived.Test.YtgdfieolfhbmiaaDoorGet
import Derived.Test.YtgdfieolfhbmiaaDoorVarLaws
namespace Go.Proofs.YtgdfieolfhbmiaaDoor
open Go.RowKit

def bads : List (List UInt8) := [[0], [192, 128], [237, 160, 128], [244, 144, 128, 128], [128], [226, 130], [97, 255, 98], [224, 128, 175]]
theorem bads_not : ∀ k : Fin 8, isTextL (bads.getD k.val []) = false := by decide +kernel
theorem bads_len : ∀ k : Fin 8, (bads.getD k.val []).length ≤ 4 := by decide +kernel
theorem en1 : isTextL [] = true := by decide +kernel
theorem en2 : isTextL [195, 169, 226, 130, 172, 244, 143, 191, 191, 239, 191, 190] = true := by decide +kernel
theorem en3 : isTextL [1] = true := by decide +kernel
theorem en4 : gvL [255, 255, 255, 255] = (0, 0, 12) := by decide +kernel
theorem en5 : gvL [128, 0] = (0, 0, 12) := by decide +kernel
theorem en6 : varR 268435456 = ([], 10) := by decide +kernel
theorem en7 : varR (-1) = ([], 10) := by decide +kernel
theorem en8 : putW 1 0 = [] := by decide +kernel
theorem en9 : putW 1 9 = [] := by decide +kernel

theorem bvz (n : Nat) : (madeCells #[Value.int .u8 0] n).toList = bv (List.replicate n 0) := by
  rw [made1, bv_replicate]
  rfl
theorem dataz (n : Nat) (h : n ≤ 65535) : ∃ D : List UInt8, D.length = n + 2 ∧ Hid (dataL (List.replicate n 0) = (D, 0)) :=
  ⟨putL n 2 ++ List.replicate n 0, by rw [List.length_append, putL_length, List.length_replicate]; omega, by unfold dataL; rw [if_neg (by rw [List.length_replicate]; omega), List.length_replicate]; exact Lib.hid rfl⟩
theorem dataz' (n : Nat) (h : 65535 < n) : Hid (dataL (List.replicate n 0) = ([], 10)) := by unfold dataL; rw [if_pos (by rw [List.length_replicate]; omega)]; exact Lib.hid rfl

set_option maxRecDepth 100000 in
set_option maxHeartbeats 8000000 in
theorem ends_law (w : World) (hT : Tabs w) (R : Ending → World → Prop)
    (hR : ∀ w', Below w.heap.size w w' → R (.returned (.bool true)) w') :
    Calls Tryd.prog 5 #[] w R := by
  obtain ⟨n1, hn1, hm1⟩ : ∃ n : Nat, Hid (n = 65536) ∧ (65536 : Int) = (n : Int) := ⟨65536, rfl, rfl⟩
  obtain ⟨n2, hn2, hm2⟩ : ∃ n : Nat, Hid (n = 65535) ∧ (65535 : Int) = (n : Int) := ⟨65535, rfl, rfl⟩
  have b1 : n1 = 65536 := hn1.out
  have b2 : n2 = 65535 := hn2.out
  obtain ⟨D, hDl, HD⟩ : ∃ D : List UInt8, D.length = n2 + 2 ∧ Hid (dataL (List.replicate n2 0) = (D, 0)) := dataz n2 (by omega)
  have HZ : Hid (dataL (List.replicate n1 0) = ([], 10)) := dataz' n1 (by omega)
  go_enter Tryd.func5, Tryd.ntmps5
  go_wp2_with (go_at_call 18; go_must (refine var_any 268435456 [] 10 en6 _ _ ?_))
  intro ad1 c1 w1 hown1 hb1
  clear hown1
  go_wp2_with (go_at_call 18; go_must (refine var_any (-1) [] 10 en7 _ _ ?_))
  intro ad2 c2 w2 hown2 hb2
  have hx2 := below_then hb1 hb2 hb1.size
  have hz2 := hx2.size
  clear hown2 hb1 hb2
  go_wp2_with (go_at_call_of 20 (Value.slice (some ⟨w2.heap.size, 0, none⟩) 4 4); go_must (refine getvar_any _ [255, 255, 255, 255] 0 0 12 en4 _ (bs_lit #[.int .u8 255, .int .u8 255, .int .u8 255, .int .u8 255] [255, 255, 255, 255] rfl (by simp)) _ ?_))
  have hbs4 : Bs ((w2.alloc (Obj.cells #[Value.int IntKind.u8 255, Value.int IntKind.u8 255, Value.int IntKind.u8 255, Value.int IntKind.u8 255] 5)).alloc (Obj.cells #[Value.int IntKind.u8 128, Value.int IntKind.u8 0] 5)) (.slice (some ⟨w2.heap.size + 1, 0, none⟩) 2 2) [128, 0] := bs_row _ [128, 0] (by simp) rfl rfl (by simp)
  refine getvar_any _ [128, 0] 0 0 12 en5 ((w2.alloc (Obj.cells #[Value.int IntKind.u8 255, Value.int IntKind.u8 255, Value.int IntKind.u8 255, Value.int IntKind.u8 255] 5)).alloc (Obj.cells #[Value.int IntKind.u8 128, Value.int IntKind.u8 0] 5)) hbs4 _ ?_
  clear hbs4
  have hx4 := (hx2.alloc hz2 (Obj.cells #[Value.int IntKind.u8 255, Value.int IntKind.u8 255, Value.int IntKind.u8 255, Value.int IntKind.u8 255] 5)).alloc (by simp; omega) (Obj.cells #[Value.int IntKind.u8 128, Value.int IntKind.u8 0] 5)
  have hz4 := hx4.size
  generalize (w2.alloc (Obj.cells #[Value.int IntKind.u8 255, Value.int IntKind.u8 255, Value.int IntKind.u8 255, Value.int IntKind.u8 255] 5)).alloc (Obj.cells #[Value.int IntKind.u8 128, Value.int IntKind.u8 0] 5) = w4 at hx4 hz4 ⊢
  clear hx2 hz2 b1 b2
  obtain ⟨i, hi, hz, hi1, hi2⟩ := info_parts Tryd.info5
  go_wp2_with (at_make; go_must (refine wpList_make_full _ (by rfl) _ _ 23 (by rfl) w4.heap.size 5 i (.int .u8 0) 1 Tryd.underlying23 hi hz hi1 _ _ _ _ n1 rfl rfl hm1 hm1 (by rw [hi2]; omega) (by unfold maxLen; omega) (Nat.le_refl _) ?_))
  intro w5 hown5 hg5
  rw [bvz] at hown5
  have hbs5 := (bs_of_owns hown5).2
  rw [List.length_replicate] at hbs5
  have hx5 := hx4.grown hg5 hz4 (fun k hk => by cases hk)
  have hz5 := hx5.size
  clear hown5 hg5 hx4 hz4
  go_wp2_with (go_at_call 22; go_must (refine data_any _ _ [] 10 HZ.out _ hbs5 _ ?_))
  intro ad6 c6 w6 hown6 hb6
  have hx6 := below_then hx5 hb6 hz5
  have hz6 := hx6.size
  clear hown6 hb6 hx5 hz5 hbs5 HZ
  go_wp2_with (at_make; go_must (refine wpList_make_full _ (by rfl) _ _ 23 (by rfl) w6.heap.size 5 i (.int .u8 0) 1 Tryd.underlying23 hi hz hi1 _ _ _ _ n2 rfl rfl hm2 hm2 (by rw [hi2]; omega) (by unfold maxLen; omega) (Nat.le_refl _) ?_))
  intro w7 hown7 hg7
  rw [bvz] at hown7
  have hbs7 := (bs_of_owns hown7).2
  rw [List.length_replicate] at hbs7
  have hx7 := hx6.grown hg7 hz6 (fun k hk => by cases hk)
  have hz7 := hx7.size
  clear hown7 hg7 hx6 hz6 hi hz hi1 hi2
  go_wp2_with (go_at_call 22; go_must (refine data_any _ _ D 0 HD.out _ hbs7 _ ?_))
  intro ad8 c8 w8 hown8 hb8
  have hx8 := below_then hx7 hb8 hz7
  have hz8 := hx8.size
  clear hown8 hb8 hx7 hz7 hbs7 HD
  go_wp2
  go_loopw [16] (fun i wr => ∃ k : Nat, k ≤ 8 ∧ i = .int .i64 k ∧ Below w.heap.size w wr ∧ Hid (∀ j, j < 8 → wr.cell? ⟨w8.heap.size, j, none⟩ = some (.string (str (bads.getD j []))))) (fun i _ => 8 - (intOf i).toNat)
  case atStart =>
    refine ⟨0, by omega, rfl, hx8.alloc hz8 _, fun j hj => ?_⟩
    have h := cell_of_row _ w8.heap.size j _ _ _ (heap_alloc_new w8 (.cells #[Value.string (str [0]), Value.string (str [192, 128]), Value.string (str [237, 160, 128]), Value.string (str [244, 144, 128, 128]), Value.string (str [128]), Value.string (str [226, 130]), Value.string (str [97, 255, 98]), Value.string (str [224, 128, 175])] 9))
    refine Eq.trans h ?_
    obtain rfl | rfl | rfl | rfl | rfl | rfl | rfl | rfl : j = 0 ∨ j = 1 ∨ j = 2 ∨ j = 3 ∨ j = 4 ∨ j = 5 ∨ j = 6 ∨ j = 7 := by omega
    all_goals rfl
  case round =>
    obtain ⟨k, hk, rfl, hb, hc⟩ := hrel
    clear hx8 hz8
    have hTr := hT.below hb
    have hzr := hb.size
    by_cases hlt : k < 8
    · have hck := hc.out k hlt
      have hbn := bads_not ⟨k, hlt⟩
      have hbl := bads_len ⟨k, hlt⟩
      simp only at hbn hbl
      obtain ⟨q, hq⟩ : ∃ q, bads.getD k [] = q := ⟨_, rfl⟩
      rw [hq] at hck hbn hbl
      have HBN := Lib.hid hbn
      have hkk : (k : Int) < 8 := by omega
      clear hq hbn
      go_wp2_with (go_at_call 23; go_must (refine istext_any q _ (by omega) hTr _ ?_))
      rw [HBN.out]
      intro w9 hb9
      have hx9 := below_then hb hb9 hzr
      have hc9 : Hid (∀ j, j < 8 → w9.cell? ⟨w8.heap.size, j, none⟩ = some (.string (str (bads.getD j [])))) := fun j hj => cell_later hb9 (hc.out j hj)
      clear hb hb9 hTr hc hck
      go_wp2
      go_roundw
      case rel => exact ⟨k + 1, by omega, by go_num, hx9, hc9⟩
      case measure => simp [intOf]; omega
    · have hkk : ¬ (k : Int) < 8 := by omega
      clear hc
      have hlen : ((n2 : Int) + 2 == 65537) = true := by rw [beq_iff_eq]; omega
      have e1 : ∀ (w : World) (hT : Tabs w) (R' : Ending → World → Prop), (∀ w', Below w.heap.size w w' → R' (.returned (.bool true)) w') → Calls Tryd.prog 23 #[.string ⟨#[]⟩] w R' := fun w hT R' h => istext_any [] w (by simp) hT R' (by rw [en1]; exact h)
      have e2 : ∀ (w : World) (hT : Tabs w) (R' : Ending → World → Prop), (∀ w', Below w.heap.size w w' → R' (.returned (.bool true)) w') → Calls Tryd.prog 23 #[.string ⟨#[195, 169, 226, 130, 172, 244, 143, 191, 191, 239, 191, 190]⟩] w R' := fun w hT R' h => istext_any [195, 169, 226, 130, 172, 244, 143, 191, 191, 239, 191, 190] w (by simp) hT R' (by rw [en2]; exact h)
      have e3 : ∀ (w : World) (hT : Tabs w) (R' : Ending → World → Prop), (∀ w', Below w.heap.size w w' → R' (.returned (.bool true)) w') → Calls Tryd.prog 23 #[.string ⟨#[1]⟩] w R' := fun w hT R' h => istext_any [1] w (by simp) hT R' (by rw [en3]; exact h)
      have E2 := Lib.hid e2
      have E3 := Lib.hid e3
      clear e2 e3
      go_wp2_with (go_at_call 23; fail)
      refine e1 _ hTr _ ?_
      intro wa hba
      have hxa := below_then hb hba hzr
      have hza := hxa.size
      have hTa := hT.below hxa
      clear e1 hb hba hTr
      go_wp2_with (go_at_call 23; fail)
      refine E2.out _ hTa _ ?_
      intro wb hbb
      have hxb := below_then hxa hbb hza
      have hzb := hxb.size
      have hTb := hT.below hxb
      clear E2 hxa hbb hTa
      go_wp2_with (go_at_call 23; fail)
      refine E3.out _ hTb _ ?_
      intro wc hbc
      have hxc := below_then hxb hbc hzb
      have hzc := hxc.size
      clear E3 hxb hbc hTb
      go_wp2_with (first | (go_at_call 19; go_in) | (go_at_call 24; fail))
      refine put_any 1 (by decide) 0 [] en8 _ _ ?_
      intro ad11 c11 wd hownd hbd
      have hxd := below_then hxc hbd hzc
      have hzd := hxd.size
      clear hownd hbd hxc
      go_wp2_with (go_at_call 24; fail)
      refine put_any 1 (by decide) 9 [] en9 _ _ ?_
      intro ad12 c12 we howne hbe
      have hxe := below_then hxd hbe hzd
      have hze := hxe.size
      have hTe := hT.below hxe
      clear howne hbe hxd
      go_wp2_with (go_at_call 16; go_must (refine wakes_any _ hTe _ ?_))
      intro wf hbf
      have hxf := below_then hxe hbf hze
      clear hxe hbf hTe hT
      go_wp2
      exact hxf
end Go.Proofs.YtgdfieolfhbmiaaDoor
