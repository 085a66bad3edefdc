import Derived.Test.YtgdfieolfhbmiaaDoorBackLaws
import Derived.Test.YtgdfieolfhbmiaaDoorWakes1
namespace Go.Proofs.YtgdfieolfhbmiaaDoor
open Go.RowKit
theorem str_cut (l : List UInt8) (k : Nat) : (str l).extract 0 k = str (l.take k) := by
  apply ByteArray.ext
  simp [ByteArray.data_extract]

theorem below_succ {w w' : World} {o : Obj} (h : Below (w.heap.size + 1) (w.alloc o) w') : Below (w.alloc o).heap.size (w.alloc o) w' := by simpa using h

/-- What is left of a string of bytes. -/
theorem str_cut' (l : List UInt8) : ∃ S, (str l).extract 0 3000 = str S ∧ S.length ≤ 3000 := ⟨l.take 3000, str_cut l 3000, by rw [List.length_take]; omega⟩

set_option maxRecDepth 100000 in
set_option maxHeartbeats 16000000 in
theorem back_law (x : Nat) (hx : x < 18446744073709551616) (n : Int) (l : List UInt8) (hl : l.length ≤ 9223372036854775807) (v u : Value) (b tl : List UInt8) (w : World) (hv : Bs w v b) (hu : Bs w u tl) (hT : Tabs w) (R : Ending → World → Prop)
    (hR : ∀ w', Below w.heap.size w w' → R (.returned (.bool true)) w') :
    Calls Tryd.prog 8 #[.int .u64 x, .int .i64 n, .string (str l), v, u] w R := by
  have hsz := str_size l
  obtain ⟨B, hB⟩ : ∃ B, b.take (3000 : Int).toNat = B := ⟨_, rfl⟩
  have hBl : B.length ≤ 3000 := by rw [← hB, List.length_take]; show min 3000 _ ≤ 3000; omega
  obtain ⟨T, hT0⟩ : ∃ T, tl.take (100 : Int).toNat = T := ⟨_, rfl⟩
  have hTl : T.length ≤ 100 := by rw [← hT0, List.length_take]; show min 100 _ ≤ 100; omega
  obtain ⟨N, hN⟩ := Int.eq_ofNat_of_zero_le (within_bounds n 0 268435455 (by omega)).1
  have hN2 : N < 268435456 := by have := (within_bounds n 0 268435455 (by omega)).2; omega
  obtain ⟨P, hP⟩ : ∃ P, putW x 8 = P := ⟨_, rfl⟩
  have HG : Hid (getU P = x) := by rw [← hP]; exact getU_putW x hx
  obtain ⟨V, hV⟩ : ∃ V, varL N = V := ⟨_, rfl⟩
  have HR1 : Hid (varR (N : Int) = (V, 0)) := by rw [← hV]; exact varR_of N hN2
  have hVl : 1 ≤ V.length ∧ V.length ≤ 4 := by rw [← hV]; exact varF_length 3 N
  obtain ⟨J, hJ⟩ : ∃ J, [V, T].flatten = J := ⟨_, rfl⟩
  have hJl : J.length ≤ 104 := by rw [← hJ]; simp; omega
  have HG2 : Hid (gvL J = (N, V.length, 0)) := by rw [← hJ, ← hV]; simpa [Hid] using gvL_back N hN2 T
  obtain ⟨D, hD⟩ : ∃ D, putL B.length 2 ++ B = D := ⟨_, rfl⟩
  have HD : Hid (dataL B = (D, 0)) := by rw [← hD]; exact dataL_of B (by omega)
  have hDl : D.length = B.length + 2 := by rw [← hD, List.length_append, putL_length]; omega
  obtain ⟨J2, hJ2⟩ : ∃ J, [D, T].flatten = J := ⟨_, rfl⟩
  have hJ2l : J2.length ≤ 10000 := by rw [← hJ2]; simp; omega
  have HG3 : Hid (getDataL J2 = (B, (B.length : Int) + 2, 0)) := by rw [← hJ2, ← hD]; simpa [Hid] using getDataL_back B T (by omega)
  have HB := Lib.hid hB
  have HT0 := Lib.hid hT0
  have HN := Lib.hid hN
  have HP := Lib.hid hP
  have HJ := Lib.hid hJ
  have HJ2 := Lib.hid hJ2
  clear hB hT0 hN hP hJ hJ2 hV hD
  obtain ⟨S0, hS0, hS0l⟩ := str_cut' l
  have hBB : (B == B) = true := by simp
  have hwb := within_bounds n 0 268435455 (by omega)
  go_enter Tryd.func8, Tryd.ntmps8
  obtain ⟨S, hS, hSl⟩ : ∃ S : List UInt8, S = (if 3000 < l.length then S0 else l) ∧ S.length ≤ 3000 := ⟨_, rfl, by split <;> omega⟩
  by_cases hcut : 3000 < l.length
  all_goals
    first | (rw [if_pos hcut] at hS; subst hS) | (rw [if_neg hcut] at hS; subst hS)
    go_wp2_with (go_at_call 21; (try rw [hS0]); go_must (refine cut_any _ b B 3000 HB.out _ hv (by omega) _ ?_))
    clear hsz hS0
    intro ad0 c0 hb0
    go_wp2_with (go_at_call 21; go_must (refine cut_any _ tl T 100 HT0.out _ hu (by omega) _ ?_))
    intro ad9 c9 hb9
    clear hv hu
    go_wp2_with (go_at_call 17; go_must (refine within_any n 0 268435455 _ (by omega) (by omega) (by omega) _ ?_))
    rw [HN.out]
    go_wp2_with (go_at_call 24; go_must (refine put_any x hx 8 P HP.out _ _ ?_))
    intro ad1 c1 w1 hown1 hb1
    have hbs1 := (bs_of_owns hown1).2
    have hy0 := hb0.below hb1
    have hy9 := hb9.below hb1
    have hz1 := hb1.size
    clear hown1 hb0 hb9
    go_wp2_with (go_at_call 28; go_must (refine get_at _ _ x HG.out _ hbs1 _ ?_))
    clear hbs1
    go_wp2_with (go_at_call 18; go_must (refine var_any (N : Int) V 0 HR1.out _ _ ?_))
    intro ad2 c2 w2 hown2 hb2
    have hbV := (bs_of_owns hown2).2
    have hq0 := hy0.below hb2
    have hq9 := hy9.below hb2
    have hx2 := below_then hb1 hb2 hb1.size
    have hL2 := bss_lit2 (e := 23) hbV hq9
    have hz2 := hx2.size
    clear hown2 hy0 hy9 hb1 hb2 hbV
    go_wp2_with (go_at_call 11; go_must (refine join_any _ _ J HJ.out _ hL2 (by omega) _ ?_))
    intro ad3 c3 w3 hown3 hb3
    have hbJ := (bs_of_owns hown3).2
    have hx3 := below_then (hx2.alloc hz2 (Obj.cells #[Value.slice ad2 V.length c2, Value.slice ad9 T.length c9] 23)) hb3 (by omega)
    have hp0 := (hq0.alloc (Obj.cells #[Value.slice ad2 V.length c2, Value.slice ad9 T.length c9] 23)).below (below_succ hb3)
    have hp9 := (hq9.alloc (Obj.cells #[Value.slice ad2 V.length c2, Value.slice ad9 T.length c9] 23)).below (below_succ hb3)
    have hz3 := hx3.size
    clear hown3 hL2 hq0 hq9 hb3 hx2 hz2
    go_wp2_with (go_at_call 20; go_must (refine getvar_any _ _ N V.length 0 HG2.out _ hbJ _ ?_))
    clear hbJ
    go_wp2_with (go_at_call 22; go_must (refine data_any _ B D 0 HD.out _ hp0 _ ?_))
    intro ad4 c4 w4 hown4 hb4
    have hbD := (bs_of_owns hown4).2
    rw [hDl] at hbD
    have hr0 := hp0.below hb4
    have hr9 := hp9.below hb4
    have hx4 := below_then hx3 hb4 hz3
    have hL4 := bss_lit2 (e := 23) hbD hr9
    have hz4 := hx4.size
    clear hown4 hp0 hp9 hb4 hx3 hz3 hbD
    go_wp2_with (go_at_call 11; go_must (refine join_any _ _ J2 HJ2.out _ hL4 (by omega) _ ?_))
    intro ad5 c5 w5 hown5 hb5
    have hbJ2 := (bs_of_owns hown5).2
    have hx5 := below_then (hx4.alloc hz4 (Obj.cells #[Value.slice ad4 (B.length + 2) c4, Value.slice ad9 T.length c9] 23)) hb5 (by omega)
    have hs0 := (hr0.alloc (Obj.cells #[Value.slice ad4 (B.length + 2) c4, Value.slice ad9 T.length c9] 23)).below (below_succ hb5)
    have hs9 := (hr9.alloc (Obj.cells #[Value.slice ad4 (B.length + 2) c4, Value.slice ad9 T.length c9] 23)).below (below_succ hb5)
    have hz5 := hx5.size
    clear hown5 hL4 hr0 hr9 hb5 hx4 hz4
    go_wp2_with (go_at_call 37; go_must (refine getdata_any _ J2 B ((B.length : Int) + 2) 0 HG3.out _ hbJ2 _ ?_))
    intro ad6 c6 w6 hown6 hb6
    have hbB := (bs_of_owns hown6).2
    have ht0 := hs0.below hb6
    have ht9 := hs9.below hb6
    have hx6 := below_then hx5 hb6 hz5
    have hz6 := hx6.size
    clear hown6 hs0 hs9 hb6 hx5 hz5 hbJ2
    go_wp2_with (first | (go_at_call 19; go_in) | (go_at_call 13; fail))
    refine same_any _ _ B B _ hbB ht0 _ ?_
    rw [hBB]
    clear hbB ht0 HG HR1 HG2 HD HG3 HB HT0 HN HP HJ HJ2 hBB
    have hT6 := hT.below hx6
    obtain ⟨t, ht⟩ : ∃ t, isTextL S = t := ⟨_, rfl⟩
    cases t with
    | false =>
      have HE : Hid (textL S = ([], 13)) := textL_not S ht
      have HT := Lib.hid ht
      clear ht
      go_wp2_with (go_at_call 32; go_must (refine text_any S [] 13 HE.out _ (by omega) hT6 _ ?_))
      intro ad7 c7 w7 hown7 hb7
      have hx7 := below_then hx6 hb7 hz6
      have hT7 := hT.below hx7
      have hz7 := hx7.size
      clear hown7 hb7 hx6 hz6 hT6 ht9
      go_wp2_with (first | (go_at_call 19; go_in) | (go_at_call 23; go_must (refine istext_any S _ (by omega) hT7 _ ?_)))
      rw [HT.out]
      intro w8 hb8
      have hx8 := below_then hx7 hb8 hz7
      have hT8 := hT.below hx8
      have hz8 := hx8.size
      clear hb8 hx7 hz7 hT7
      go_wp2_with (go_at_call 16; go_must (refine wakes_any _ hT8 _ ?_))
      intro w9 hb9
      have hx9 := below_then hx8 hb9 hz8
      clear hb9 hx8 hz8 hT8 hT
      go_wp2
      exact hx9
    | true =>
      obtain ⟨X, hX⟩ : ∃ X, putL S.length 2 ++ S = X := ⟨_, rfl⟩
      have hXl : X.length = S.length + 2 := by rw [← hX, List.length_append, putL_length]; omega
      have HE : Hid (textL S = (X, 0)) := by rw [← hX]; exact textL_of S (by omega) ht
      obtain ⟨J3, hJ3⟩ : ∃ J, [X, T].flatten = J := ⟨_, rfl⟩
      have hJ3l : J3.length ≤ 10000 := by rw [← hJ3]; simp; omega
      have HE2 : Hid (getTextL J3 = (S, (S.length : Int) + 2, 0)) := by rw [← hJ3, ← hX]; simpa [Hid] using getTextL_back S T (by omega) ht
      have HJ3 := Lib.hid hJ3
      have hSS : (str S == str S) = true := by show ((str S).data == (str S).data) = true; simp
      clear ht hX hJ3
      go_wp2_with (go_at_call 32; go_must (refine text_any S X 0 HE.out _ (by omega) hT6 _ ?_))
      intro ad7 c7 w7 hown7 hb7
      have hbX := (bs_of_owns hown7).2
      rw [hXl] at hbX
      have hu9 := ht9.below hb7
      have hx7 := below_then hx6 hb7 hz6
      have hL7 := bss_lit2 (e := 23) hbX hu9
      have hz7 := hx7.size
      clear hown7 hb7 hx6 hz6 hT6 ht9 hbX hu9
      go_wp2_with (first | (go_at_call 19; go_in) | (go_at_call 11; go_must (refine join_any _ _ J3 HJ3.out _ hL7 (by omega) _ ?_)))
      intro ad8 c8 w8 hown8 hb8
      have hbJ3 := (bs_of_owns hown8).2
      have hx8 := below_then (hx7.alloc hz7 (Obj.cells #[Value.slice ad7 (S.length + 2) c7, Value.slice ad9 T.length c9] 23)) hb8 (by omega)
      have hT8 := hT.below hx8
      have hz8 := hx8.size
      clear hown8 hL7 hb8 hx7 hz7
      go_wp2_with (go_at_call 35; go_must (refine gettext_any _ J3 S ((S.length : Int) + 2) 0 HE2.out _ hbJ3 hT8 _ ?_))
      intro w9 hb9
      have hx9 := below_then hx8 hb9 hz8
      have hT9 := hT.below hx9
      have hz9 := hx9.size
      clear hb9 hx8 hz8 hT8 hbJ3
      go_wp2_with (first | (go_at_call 19; go_in) | (go_at_call 16; go_must (refine wakes_any _ hT9 _ ?_)))
      intro w10 hb10
      have hx10 := below_then hx9 hb10 hz9
      clear hb10 hx9 hz9 hT9 hT
      go_wp2
      exact hx10
end Go.Proofs.YtgdfieolfhbmiaaDoor
