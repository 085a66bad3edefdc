import Derived.Test.YtgdfieolfhbmiaaDoorNumbers
import Derived.Test.YtgdfieolfhbmiaaDoorBack
import Derived.Test.YtgdfieolfhbmiaaDoorRText
import Derived.Deep.RegionHeld3
namespace Go.Proofs.YtgdfieolfhbmiaaDoor
open Go.RowKit

theorem dataL_er (l D : List UInt8) (e : Int) (h : dataL l = (D, e)) : 0 ≤ e ∧ e ≤ 13 := by
  unfold dataL at h
  split at h <;> simp only [Prod.mk.injEq] at h <;> omega
theorem textL_er (l D : List UInt8) (e : Int) (h : textL l = (D, e)) : 0 ≤ e ∧ e ≤ 13 := by
  unfold textL at h
  split at h
  · exact dataL_er _ _ _ h
  · simp only [Prod.mk.injEq] at h; omega
theorem dataL_len (l D : List UInt8) (e : Int) (h : dataL l = (D, e)) : D.length ≤ l.length + 2 := by
  unfold dataL at h
  split at h
  · simp only [Prod.mk.injEq] at h; rw [← h.1]; simp
  · simp only [Prod.mk.injEq] at h; rw [← h.1, List.length_append, putL_length]; omega
theorem textL_len (l D : List UInt8) (e : Int) (h : textL l = (D, e)) : D.length ≤ l.length + 2 := by
  unfold textL at h
  split at h
  · exact dataL_len _ _ _ h
  · simp only [Prod.mk.injEq] at h; rw [← h.1]; simp
theorem getDataL_er (l D : List UInt8) (u e : Int) (h : getDataL l = (D, u, e)) : 0 ≤ e ∧ e ≤ 13 := by
  unfold getDataL at h
  split at h <;> simp only [Prod.mk.injEq] at h <;> omega
theorem getTextL_er (l D : List UInt8) (u e : Int) (h : getTextL l = (D, u, e)) : 0 ≤ e ∧ e ≤ 13 := by
  unfold getTextL at h
  split at h
  · simp only [Prod.mk.injEq] at h
    have := getDataL_er l (getDataL l).1 (getDataL l).2.1 (getDataL l).2.2 rfl
    omega
  · split at h <;> simp only [Prod.mk.injEq] at h <;> omega

set_option maxRecDepth 100000 in
set_option maxHeartbeats 16000000 in
theorem texts_law (l : List UInt8) (hl : l.length ≤ 9223372036854775807) (v : Value) (b : List UInt8) (w : World) (hv : Bs w v b) (hT : Tabs w) (R : Ending → World → Prop)
    (hR : ∀ w', Below w.heap.size w w' → R (.returned (.bool true)) w') :
    Calls Tryd.prog 7 #[.string (str l), v] w R := by
  have hsz := str_size l
  obtain ⟨B, hB⟩ : ∃ B, b.take (3000 : Int).toNat = B := ⟨_, rfl⟩
  have hBl : B.length ≤ 3000 := by rw [← hB, List.length_take]; show min 3000 _ ≤ 3000; omega
  obtain ⟨⟨D, ed⟩, hD⟩ : ∃ q, dataL B = q := ⟨_, rfl⟩
  have hDe := dataL_er _ _ _ hD
  have hDl := dataL_len _ _ _ hD
  obtain ⟨⟨X, ux, ex⟩, hX⟩ : ∃ q, getTextL B = q := ⟨_, rfl⟩
  have hXe := getTextL_er _ _ _ _ hX
  obtain ⟨⟨Y, uy, ey⟩, hY⟩ : ∃ q, getDataL B = q := ⟨_, rfl⟩
  have hYe := getDataL_er _ _ _ _ hY
  have hYl := getDataL_len _ _ _ _ hY
  obtain ⟨ib, hib⟩ : ∃ t, isTextL B = t := ⟨_, rfl⟩
  have HB := Lib.hid hB
  have HD := Lib.hid hD
  have HX := Lib.hid hX
  have HY := Lib.hid hY
  have HIB := Lib.hid hib
  have hDD : (D == D) = true := by simp
  have hYY : (Y == Y) = true := by simp
  have hXX : (str X == str X) = true := by show ((str X).data == (str X).data) = true; simp
  clear hB hD hX hY hib
  obtain ⟨S0, hS0, hS0l⟩ := str_cut' l
  go_enter Tryd.func7, Tryd.ntmps7
  obtain ⟨S, hS, hSl⟩ : ∃ S : List UInt8, S = (if 3000 < l.length then S0 else l) ∧ S.length ≤ 3000 := ⟨_, rfl, by split <;> omega⟩
  obtain ⟨⟨T, et⟩, hTT⟩ : ∃ q, textL S = q := ⟨_, rfl⟩
  have hTe := textL_er _ _ _ hTT
  have hTl := textL_len _ _ _ hTT
  obtain ⟨is, his⟩ : ∃ t, isTextL S = t := ⟨_, rfl⟩
  have HTT := Lib.hid hTT
  have HIS := Lib.hid his
  have hTTb : (T == T) = true := by simp
  clear hTT his
  by_cases hcut : 3000 < l.length
  all_goals
    first | (rw [if_pos hcut] at hS; subst hS) | (rw [if_neg hcut] at hS; subst hS)
    go_wp2_with (go_at_call 21; (try rw [hS0]); go_must (refine cut_any _ b B 3000 HB.out _ hv (by omega) _ ?_))
    clear hsz hS0
    intro ad0 c0 hb0
    clear hv
    go_wp2_with (go_at_call 9; go_must (refine lend_any _ B _ hb0 (by omega) _ ?_))
    intro g c w1 hlent hx1
    have hbL : Bs w1 (.slice (some ⟨g, 0, none⟩) B.length c) B := by
      have hl2 : (B ++ [165, 90]).length = B.length + 2 := by simp
      have h1 := (bs_of_owns hlent).2
      rw [hl2] at h1
      have h2 := Bs.cut (k := B.length) h1 (by omega)
      have e : (B ++ [165, 90]).take B.length = B := by simp
      rw [e] at h2
      exact h2
    have hgl : g < w1.heap.size := (hlent.lt g rfl).2
    have hz1 := hx1.size
    have hT1 := hT.below hx1
    go_wp2_with (go_at_call 32; go_must (refine text_any S T et HTT.out _ (by omega) hT1 _ ?_))
    intro ad2 c2 w2 hown2 hy2
    have hx2 := below_then hx1 hy2 hz1
    have hz2 := hx2.size
    have hs2 := hy2.size
    have hL2 := hbL.below hy2
    have hlent2 := owns_below hlent hy2
    have hTlt := hown2.lt
    clear hlent hbL hx1 hy2 hT1
    go_wp2_with (go_at_call 33; go_must (refine rtext_any S T et HTT.out _ (by omega) _ ?_))
    intro ad3 c3 w3 hown3 hy3
    have hx3 := below_then hx2 hy3 hz2
    have hz3 := hx3.size
    have hs3 := hy3.size
    have hL3 := hL2.below hy3
    have hlent3 := owns_below hlent2 hy3
    have hT3 := owns_below hown2 hy3
    have hU3 := (bs_of_owns hown3).2
    clear hlent2 hL2 hx2 hy3 hown2 hown3
    go_wp2_with (go_at_call 22; go_must (refine data_any _ B D ed HD.out _ hL3 _ ?_))
    intro ad4 c4 w4 hown4 hy4
    have hx4 := below_then hx3 hy4 hz3
    have hz4 := hx4.size
    have hs4 := hy4.size
    have hL4 := hL3.below hy4
    have hlent4 := owns_below hlent3 hy4
    have hT4 := owns_below hT3 hy4
    have hU4 := hU3.below hy4
    have hDlt := hown4.lt
    have hb4 := hb0.below hx4
    clear hlent3 hL3 hx3 hy4 hT3 hU3
    go_wp2_with (go_at_call 34; go_must (refine rdata_any _ B D ed HD.out _ hb4 _ ?_))
    intro ad5 c5 w5 hown5 hy5
    have hx5 := below_then hx4 hy5 hz4
    have hz5 := hx5.size
    have hs5 := hy5.size
    have hL5 := hL4.below hy5
    have hlent5 := owns_below hlent4 hy5
    have hT5 := owns_below hT4 hy5
    have hU5 := hU4.below hy5
    have hD5 := owns_below hown4 hy5
    have hC5 := (bs_of_owns hown5).2
    have hTb5 := hT.below hx5
    clear hlent4 hL4 hx4 hy5 hT4 hU4 hown4 hown5 hb4
    go_wp2_with (go_at_call 35; go_must (refine gettext_any _ B X ux ex HX.out _ hL5 hTb5 _ ?_))
    intro w6 hy6
    have hx6 := below_then hx5 hy6 hz5
    have hz6 := hx6.size
    have hs6 := hy6.size
    have hL6 := hL5.below hy6
    have hlent6 := owns_below hlent5 hy6
    have hT6 := owns_below hT5 hy6
    have hU6 := hU5.below hy6
    have hD6 := owns_below hD5 hy6
    have hC6 := hC5.below hy6
    have hb6 := hb0.below hx6
    clear hlent5 hL5 hx5 hy6 hT5 hU5 hD5 hC5 hTb5
    go_wp2_with (go_at_call 36; go_must (refine rgettext_any _ B X ux ex HX.out _ hb6 _ ?_))
    go_wp2_with (go_at_call 37; go_must (refine getdata_any _ B Y uy ey HY.out _ hL6 _ ?_))
    intro ad7 c7 w7 hown7 hy7
    have hx7 := below_then hx6 hy7 hz6
    have hz7 := hx7.size
    have hs7 := hy7.size
    have hlent7 := owns_below hlent6 hy7
    have hT7 := owns_below hT6 hy7
    have hU7 := hU6.below hy7
    have hD7 := owns_below hD6 hy7
    have hC7 := hC6.below hy7
    have hb7 := hb0.below hx7
    have hYlt := hown7.lt
    clear hlent6 hL6 hx6 hy7 hT6 hU6 hD6 hC6 hb6
    go_wp2_with (go_at_call 38; go_must (refine rgetdata_any _ B Y uy ey HY.out _ hb7 _ ?_))
    intro ad8 c8 hZ7
    have hx7d := hx7.drew
    have hTb7 := hT.below hx7d
    have hcL : B.length ≤ 9223372036854775807 := by omega
    have hcS : S.length ≤ 9223372036854775807 := by omega
    go_wp2_with fail
    have hcv7 := run_conv_bs (P := Tryd.prog) Tryd.underlying23 Tryd.underlying5 Tryd.underlying9 hb7.drew
    go_region_held3 (fun w' => (convert 23 9 (.slice ad0 B.length c0)).run Tryd.prog w' = .ok (.string (str B)) w') (first | exact hcv7 | exact hcv8 | exact hcv9) (first
      | (go_at_call_of 23 (str S); refine istext_any S _ hcS hTb7 _ ?_; rw [HIS.out]; intro w8 hy8; have hx8 := below_then hx7d hy8 hz7; have hz8 := hx8.size; have hs8 : w7.heap.size ≤ w8.heap.size := hy8.size; have hlent8 := owns_below (w := w7.drew) hlent7 hy8; have hT8 := owns_below (w := w7.drew) hT7 hy8; have hU8 := hU7.drew.below hy8; have hD8 := owns_below (w := w7.drew) hD7 hy8; have hC8 := hC7.drew.below hy8; have hb8 := hb0.below hx8; have hY8 := owns_below (w := w7.drew) hown7 hy8; have hZ8 := hZ7.drew.below hy8; have hcv8 := run_conv_bs (P := Tryd.prog) Tryd.underlying23 Tryd.underlying5 Tryd.underlying9 hb8; have hTb8 := hT.below hx8; clear hlent7 hx7 hx7d hy8 hT7 hU7 hD7 hC7 hb7 hZ7 hTb7 hown7 hcv7)
      | (go_at_call_of 39 (str S); refine ristext_any S _ hcS _ ?_; rw [HIS.out])
      | (go_at_call_of 23 (str B); refine istext_any B _ hcL hTb8 _ ?_; rw [HIB.out]; intro w9 hy9; have hx9 := below_then hx8 hy9 hz8; have hz9 := hx9.size; have hs9 := hy9.size; have hlent9 := owns_below hlent8 hy9; have hT9 := owns_below hT8 hy9; have hU9 := hU8.below hy9; have hD9 := owns_below hD8 hy9; have hC9 := hC8.below hy9; have hb9 := hb0.below hx9; have hY9 := owns_below hY8 hy9; have hZ9 := hZ8.below hy9; have hcv9 := run_conv_bs (P := Tryd.prog) Tryd.underlying23 Tryd.underlying5 Tryd.underlying9 hb9; have hTs9 := (bs_of_owns hT9).2; have hDs9 := (bs_of_owns hD9).2; have hYs9 := (bs_of_owns hY9).2; clear hlent8 hx8 hy9 hT8 hU8 hD8 hC8 hb8 hZ8 hTb8 hY8 hcv8)
      | (go_at_call_of 39 (str B); refine ristext_any B _ hcL _ ?_; rw [HIB.out])
      | (go_at_call_of 13 (Value.slice ad2 T.length c2); refine same_any _ _ T T _ hTs9 hU9 _ ?_)
      | (go_at_call_of 13 (Value.slice ad4 D.length c4); refine same_any _ _ D D _ hDs9 hC9 _ ?_)
      | (go_at_call 19; go_in))
    clear hU9 hDs9 hC9 hTs9 hcv9 hb9
    go_wp2_with (first | (go_at_call 19; go_in) | (go_at_call 13; go_must (refine same_any _ _ Y Y _ hYs9 hZ9 _ ?_)) | (go_at_call 30; fail))
    have hB6 := Bk.start (tb := 56) (ts := 23) (te := 5) w9 (B := w1.heap.size) (by omega)
    have hx10 := hx9.alloc hz9 (Obj.cells #[Value.slice none 0 0, Value.slice none 0 0, Value.slice none 0 0, Value.slice none 0 0, Value.slice none 0 0, Value.slice none 0 0] 56)
    have hlent10 := hlent9.alloc (Obj.cells #[Value.slice none 0 0, Value.slice none 0 0, Value.slice none 0 0, Value.slice none 0 0, Value.slice none 0 0, Value.slice none 0 0] 56)
    have hT10 := hT9.alloc (Obj.cells #[Value.slice none 0 0, Value.slice none 0 0, Value.slice none 0 0, Value.slice none 0 0, Value.slice none 0 0, Value.slice none 0 0] 56)
    have hD10 := owns_mono (base' := w1.heap.size) (hD9.alloc (Obj.cells #[Value.slice none 0 0, Value.slice none 0 0, Value.slice none 0 0, Value.slice none 0 0, Value.slice none 0 0, Value.slice none 0 0] 56)) (by omega)
    have hY10 := owns_mono (base' := w1.heap.size) (hY9.alloc (Obj.cells #[Value.slice none 0 0, Value.slice none 0 0, Value.slice none 0 0, Value.slice none 0 0, Value.slice none 0 0, Value.slice none 0 0] 56)) (by omega)
    obtain ⟨K, hK⟩ : ∃ K, w9.heap.size = K := ⟨_, rfl⟩
    have hs10 : (w9.alloc (Obj.cells #[Value.slice none 0 0, Value.slice none 0 0, Value.slice none 0 0, Value.slice none 0 0, Value.slice none 0 0, Value.slice none 0 0] 56)).heap.size = K + 1 := by simp [hK]
    rw [hK] at hB6
    rw [hK]
    change Bk _ _ _ (w9.alloc (Obj.cells #[Value.slice none 0 0, Value.slice none 0 0, Value.slice none 0 0, Value.slice none 0 0, Value.slice none 0 0, Value.slice none 0 0] 56)) _ _ _ _ _ at hB6
    generalize w9.alloc (Obj.cells #[Value.slice none 0 0, Value.slice none 0 0, Value.slice none 0 0, Value.slice none 0 0, Value.slice none 0 0, Value.slice none 0 0] 56) = w10 at hB6 hx10 hlent10 hT10 hD10 hY10 hs10 ⊢
    clear hT9 hD9 hY9 hlent9 hx9 hYs9 hZ9
    refine book_bytes w1.heap.size K [] [] [] ad2 c2 T w10 hB6 (by simp) hT10 (by simp) (by simp) (by omega) _ ?_
    intro w11 us1 hB11 hy11 hk11 hu11
    have hx11 := below_then hx10 hy11 hz1
    have hz11 := hy11.size
    have hlent11 := hk11 _ _ _ _ hlent10
    have hD11 := hk11 _ _ _ _ hD10
    have hY11 := hk11 _ _ _ _ hY10
    have hn11 : ∀ u ∈ us1, ∀ k, u.ownBlock = some k → w10.heap.size ≤ k := by
      intro u hu
      rcases hu11 u hu with h | h
      · simp at h
      · exact h
    have hd11 : ∀ v' ∈ [Value.slice ad2 T.length c2], Unlike v' (.slice ad4 D.length c4) := by
      intro v' hv' k hk hc
      obtain rfl := List.mem_singleton.1 hv'
      have := hTlt k hk
      have := hDlt k hc
      omega
    have hd11' : ∀ u ∈ us1, Unlike (.slice ad4 D.length c4) u := unlike_old (S := w10.heap.size) (fun k hk => by have := hDlt k hk; omega) hn11
    clear hB6 hy11 hk11 hu11 hT10 hD10 hY10 hlent10 hx10
    go_wp2_with (go_at_call 30; go_must (refine book_bytes w1.heap.size K _ us1 _ ad4 c4 D w11 hB11 (by simp) hD11 hd11 hd11' (by omega) _ ?_))
    intro w12 us2 hB12 hy12 hk12 hu12
    have hx12 := below_then hx11 hy12 hz1
    have hz12 := hy12.size
    have hlent12 := hk12 _ _ _ _ hlent11
    have hY12 := hk12 _ _ _ _ hY11
    have hd12 : ∀ v' ∈ [Value.slice ad2 T.length c2] ++ [Value.slice ad4 D.length c4], Unlike v' (.slice ad7 Y.length c7) := by
      intro v' hv' k hk hc
      have hY := hYlt k hc
      rcases List.mem_append.1 hv' with h | h
      · obtain rfl := List.mem_singleton.1 h
        have := hTlt k hk
        omega
      · obtain rfl := List.mem_singleton.1 h
        have := hDlt k hk
        omega
    have hd12' : ∀ u ∈ us2, Unlike (.slice ad7 Y.length c7) u := unlike_old (S := w10.heap.size) (fun k hk => by have := hYlt k hk; omega) (fun u hu k hk => by
      rcases hu12 u hu with h | h
      · exact hn11 u h k hk
      · have := h k hk; omega)
    clear hB11 hy12 hk12 hu12 hD11 hY11 hd11 hd11' hlent11 hx11 hn11
    go_wp2_with (go_at_call 30; go_must (refine book_bytes w1.heap.size K _ us2 _ ad7 c7 Y w12 hB12 (by simp) hY12 hd12 hd12' (by omega) _ ?_))
    intro w13 us3 hB13 hy13 hk13 hu13
    have hx13 := below_then hx12 hy13 hz1
    have hz13 := hx13.size
    have hlent13 := hk13 _ _ _ _ hlent12
    have hb13 := hb0.below hx13
    have hglo : w.heap.size ≤ g := (hlent13.lt g rfl).1
    clear hB12 hy13 hk13 hu13 hd12 hd12' hY12 hlent12 hx12 hTlt hDlt hYlt
    go_wp2_with (go_at_call 15; go_must (refine back_any g B.length c w.heap.size _ B _ rfl hlent13 hb13 _ ?_))
    intro w14 hg14
    have hB14 := hB13.far hg14 hgl
    have hx14 := hx13.grown hg14 hz13 (fun k hk => by have := Option.some.inj hk; omega)
    have hz14 := hx14.size
    clear hB13 hlent13 hb13 hg14 hx13 hb0
    go_wp2_with (go_at_call 31; go_must (refine close_any w1.heap.size K _ us3 _ w14 hB14 (by intro p hp; simp at hp; rcases hp with rfl | rfl | rfl <;> omega) (by simp) _ ?_))
    intro w15 hy15
    have hx15 := below_then hx14 hy15 hz1
    have hT15 := hT.below hx15
    have hz15 := hx15.size
    clear hB14 hy15 hx14
    go_wp2_with (go_at_call 16; go_must (refine wakes_any _ hT15 _ ?_))
    intro w16 hy16
    have hx16 := below_then hx15 hy16 hz15
    clear hx15 hy16 hT15 hT
    go_wp2
    exact hx16
end Go.Proofs.YtgdfieolfhbmiaaDoor
