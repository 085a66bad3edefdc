import Derived.Test.YtgdfieolfhbmiaaDoorCloseB
import Derived.Test.YtgdfieolfhbmiaaDoorWakes1
import Derived.Test.YtgdfieolfhbmiaaDoorVarLaws
import Derived.Test.YtgdfieolfhbmiaaDoorGet
namespace Go.Proofs.YtgdfieolfhbmiaaDoor
open Go.RowKit

theorem Bk.start {tb ts te : Nat} (w : World) {B : Nat} (hB : B ≤ w.heap.size) : Bk tb ts te (w.alloc (.cells (BkCells (.slice none 0 0) (.slice none 0 0)) tb)) B w.heap.size [] [] [] :=
  ⟨hB, ⟨_, _, heap_alloc_new w _, World.ownsRow_nil _ _ _ _, World.ownsRow_nil _ _ _ _, fun k hk => by simp [Value.ownBlock] at hk⟩, fun i hi => by simp at hi, .nil, fun v hv => by simp at hv⟩

theorem Bk.vs_lt {tb ts te : Nat} {w : World} {B K : Nat} {vs us : List Value} {ps : List (List UInt8)} (h : Bk tb ts te w B K vs us ps) : (∀ v ∈ vs, ∀ k, v.ownBlock = some k → k < w.heap.size) ∧ (∀ u ∈ us, ∀ k, u.ownBlock = some k → k < w.heap.size) := by
  obtain ⟨v0, v1, h0, h1, h2, h3⟩ := h.rows
  have l1 : vs.length = ps.length := by have := h1.1; omega
  have l2 : us.length = ps.length := by have := h2.1; omega
  refine ⟨fun v hv k hk => ?_, fun u hu k hk => ?_⟩
  · obtain ⟨i, hi, rfl⟩ := List.getElem_of_mem hv
    obtain ⟨a, b, e1, e2, e3, e4⟩ := h.each i (by omega)
    rw [List.getElem?_eq_getElem hi] at e1
    obtain rfl := Option.some.inj e1
    exact (e3.lt k hk).2
  · obtain ⟨i, hi, rfl⟩ := List.getElem_of_mem hu
    obtain ⟨a, b, e1, e2, e3, e4⟩ := h.each i (by omega)
    rw [List.getElem?_eq_getElem hi] at e2
    obtain rfl := Option.some.inj e2
    exact (e4.lt k hk).2

/-- What is made behind the book is unlike all in it. -/
theorem unlike_new {vs : List Value} {S : Nat} (h : ∀ v ∈ vs, ∀ k, v.ownBlock = some k → k < S) {u : Value} (hu : ∀ k, u.ownBlock = some k → S ≤ k) : ∀ v ∈ vs, Unlike v u := by
  intro v hv k hk hc
  have := h v hv k hk
  have := hu k hc
  omega
theorem unlike_old {us : List Value} {S : Nat} {v : Value} (hv : ∀ k, v.ownBlock = some k → k < S) (h : ∀ u ∈ us, ∀ k, u.ownBlock = some k → S ≤ k) : ∀ u ∈ us, Unlike v u := by
  intro u hu k hk hc
  have := h u hu k hc
  have := hv k hk
  omega

theorem putW_length (x : Nat) (width : Int) : (putW x width).length ≤ 8 := by
  unfold putW
  split
  · simp
  · rw [putL_length]; omega
theorem varR_length (n : Int) : (varR n).1.length ≤ 4 := by
  unfold varR
  split
  · simp
  · exact (varF_length 3 _).2

set_option maxRecDepth 100000 in
set_option maxHeartbeats 16000000 in
theorem numbers_law (x : Nat) (hx : x < 18446744073709551616) (wd n : Int) (v : Value) (b : List UInt8) (w : World) (hv : Bs w v b) (hT : Tabs w) (R : Ending → World → Prop)
    (hR : ∀ w', Below w.heap.size w w' → R (.returned (.bool true)) w') :
    Calls Tryd.prog 6 #[.int .u64 x, .int .i64 wd, .int .i64 n, v] w R := by
  obtain ⟨B, hB⟩ : ∃ B, b.take (2000 : Int).toNat = B := ⟨_, rfl⟩
  have hBl : B.length ≤ 2000 := by rw [← hB, List.length_take]; show min 2000 _ ≤ 2000; omega
  obtain ⟨P, hP⟩ : ∃ P, putW x wd = P := ⟨_, rfl⟩
  have hPl : P.length ≤ 8 := by rw [← hP]; exact putW_length _ _
  obtain ⟨⟨V, er⟩, hV⟩ : ∃ q, varR n = q := ⟨_, rfl⟩
  have hVl : V.length ≤ 4 := by have := varR_length n; rw [hV] at this; exact this
  have her : 0 ≤ er ∧ er ≤ 10 := by
    unfold varR at hV
    split at hV <;> simp only [Prod.mk.injEq] at hV <;> omega
  obtain ⟨⟨M, U, E⟩, hM⟩ : ∃ q, gvL B = q := ⟨_, rfl⟩
  obtain ⟨G, hG⟩ : ∃ G, getU B = G := ⟨_, rfl⟩
  have HB := Lib.hid hB
  have HP := Lib.hid hP
  have HV := Lib.hid hV
  have HM := Lib.hid hM
  have HG := Lib.hid hG
  have hPP : (P == P) = true := by simp
  have hVV : (V == V) = true := by simp
  clear hB hP hV hM hG
  go_enter Tryd.func6, Tryd.ntmps6
  go_wp2_with (go_at_call 21; go_must (refine cut_any _ b B 2000 HB.out _ hv (by omega) _ ?_))
  intro ad0 c0 hb0
  clear hv
  go_wp2_with (go_at_call 9; go_must (refine lend_any _ B _ hb0 (by omega) _ ?_))
  intro g c w1 hlent hx1
  have hl2 : (B ++ [165, 90]).length = B.length + 2 := by simp
  have hbL : Bs w1 (.slice (some ⟨g, 0, none⟩) B.length c) B := by
    have h1 := (bs_of_owns hlent).2
    rw [hl2] at h1
    have h2 := Bs.cut (k := B.length) h1 (by omega)
    have e : (B ++ [165, 90]).take B.length = B := by simp
    rw [e] at h2
    exact h2
  have hgl : g < w1.heap.size := (hlent.lt g rfl).2
  have hb1 := hb0.below hx1
  have hz1 := hx1.size
  clear hl2
  go_wp2_with (go_at_call 24; go_must (refine put_any x hx wd P HP.out _ _ ?_))
  intro ad2 c2 w2 hown2 hy2
  have hx2 := below_then hx1 hy2 hz1
  have hz2 := hx2.size
  have hs2 := hy2.size
  have hb2 := hb1.below hy2
  have hL2 := hbL.below hy2
  have hlent2 := owns_below hlent hy2
  clear hlent hb1 hbL hx1 hy2
  go_wp2_with (go_at_call 18; go_must (refine var_any n V er HV.out _ _ ?_))
  intro ad3 c3 w3 hown3 hy3
  have hx3 := below_then hx2 hy3 hz2
  have hz3 := hx3.size
  have hs3 := hy3.size
  have hb3 := hb2.below hy3
  have hL3 := hL2.below hy3
  have hlent3 := owns_below hlent2 hy3
  have hP3 := owns_below hown2 hy3
  have hPlt := hown2.lt
  clear hlent2 hb2 hL2 hx2 hy3 hown2
  go_wp2_with (go_at_call 25; go_must (refine rvar_any n V er HV.out _ _ ?_))
  intro ad4 c4 w4 hown4 hy4
  have hx4 := below_then hx3 hy4 hz3
  have hz4 := hx4.size
  have hs4 := hy4.size
  have hb4 := hb3.below hy4
  have hL4 := hL3.below hy4
  have hlent4 := owns_below hlent3 hy4
  have hP4 := owns_below hP3 hy4
  have hV4 := owns_below hown3 hy4
  have hVlt := hown3.lt
  have hbs4 := (bs_of_owns hown4).2
  clear hlent3 hb3 hL3 hx3 hy4 hown3 hP3 hown4
  go_wp2_with (go_at_call 20; go_must (refine getvar_any _ B M U E HM.out _ hL4 _ ?_))
  go_wp2_with (go_at_call 26; go_must (refine rgetvar_any _ B M U E HM.out _ hb4 _ ?_))
  go_wp2_with (go_at_call 27; go_must (refine rput_any x hx wd P HP.out _ _ ?_))
  intro ad5 c5 w5 hown5 hy5
  have hx5 := below_then hx4 hy5 hz4
  have hz5 := hx5.size
  have hs5 := hy5.size
  have hb5 := hb4.below hy5
  have hL5 := hL4.below hy5
  have hlent5 := owns_below hlent4 hy5
  have hP5 := owns_below hP4 hy5
  have hV5 := owns_below hV4 hy5
  have hbs5 := (bs_of_owns hown5).2
  have hbW5 := hbs4.below hy5
  have hbP5 := (bs_of_owns hP5).2
  have hbV5 := (bs_of_owns hV5).2
  clear hlent4 hb4 hL4 hx4 hy5 hown5 hP4 hV4 hbs4
  go_wp2_with (go_at_call 13; go_must (refine same_any _ _ P P _ hbP5 hbs5 _ ?_))
  clear hbs5 hbP5 hPP
  go_wp2_with (go_at_call 28; go_must (refine get_at _ B G HG.out _ hL5 _ ?_))
  go_wp2_with (go_at_call 29; go_must (refine rget_at _ B G HG.out _ hb5 _ ?_))
  go_wp2_with (go_at_call 13; go_must (refine same_any _ _ V V _ hbV5 hbW5 _ ?_))
  clear hbV5 hbW5 hVV hL5
  go_wp2_with (first | (go_at_call 19; go_in) | (go_at_call 30; fail))
  have hB6 := Bk.start (tb := 56) (ts := 23) (te := 5) w5 (B := w1.heap.size) (by omega)
  have hx6 := hx5.alloc hz5 (Obj.cells #[Value.slice none 0 0, Value.slice none 0 0, Value.slice none 0 0, Value.slice none 0 0, Value.slice none 0 0, Value.slice none 0 0] 56)
  have hlent6 := hlent5.alloc (Obj.cells #[Value.slice none 0 0, Value.slice none 0 0, Value.slice none 0 0, Value.slice none 0 0, Value.slice none 0 0, Value.slice none 0 0] 56)
  have hP6 := hP5.alloc (Obj.cells #[Value.slice none 0 0, Value.slice none 0 0, Value.slice none 0 0, Value.slice none 0 0, Value.slice none 0 0, Value.slice none 0 0] 56)
  have hV6 := hV5.alloc (Obj.cells #[Value.slice none 0 0, Value.slice none 0 0, Value.slice none 0 0, Value.slice none 0 0, Value.slice none 0 0, Value.slice none 0 0] 56)
  obtain ⟨K, hK⟩ : ∃ K, w5.heap.size = K := ⟨_, rfl⟩
  have hs6 : (w5.alloc (Obj.cells #[Value.slice none 0 0, Value.slice none 0 0, Value.slice none 0 0, Value.slice none 0 0, Value.slice none 0 0, Value.slice none 0 0] 56)).heap.size = K + 1 := by simp [hK]
  rw [hK] at hB6
  rw [hK]
  change Bk _ _ _ (w5.alloc (Obj.cells #[Value.slice none 0 0, Value.slice none 0 0, Value.slice none 0 0, Value.slice none 0 0, Value.slice none 0 0, Value.slice none 0 0] 56)) _ _ _ _ _ at hB6
  generalize w5.alloc (Obj.cells #[Value.slice none 0 0, Value.slice none 0 0, Value.slice none 0 0, Value.slice none 0 0, Value.slice none 0 0, Value.slice none 0 0] 56) = w6 at hB6 hx6 hlent6 hP6 hV6 hs6 ⊢
  clear hP5 hV5 hlent5 hb5 hx5
  refine book_bytes w1.heap.size K [] [] [] ad2 c2 P w6 hB6 (by simp) hP6 (by simp) (by simp) (by omega) _ ?_
  intro w7 us7 hB7 hy7 hk7 hu7
  have hx7 := below_then hx6 hy7 hz1
  have hz7 := hy7.size
  have hlent7 := hk7 _ _ _ _ hlent6
  have hV7 := owns_mono (base' := w1.heap.size) (hk7 _ _ _ _ hV6) hs2
  have hd7 : ∀ v' ∈ [Value.slice ad2 P.length c2], Unlike v' (.slice ad3 V.length c3) := by
    intro v' hv' k hk hc
    obtain rfl := List.mem_singleton.1 hv'
    have := hPlt k hk
    have := hVlt k hc
    omega
  have hd7' : ∀ u ∈ us7, Unlike (.slice ad3 V.length c3) u := by
    intro u hu k hk hc
    rcases hu7 u hu with h | h
    · simp at h
    · have := h k hc
      have := hVlt k hk
      omega
  clear hB6 hy7 hk7 hu7 hP6 hV6 hlent6 hx6
  go_wp2_with (go_at_call 30; go_must (refine book_bytes w1.heap.size K _ us7 _ ad3 c3 V w7 hB7 (by simp) hV7 hd7 hd7' (by omega) _ ?_))
  intro w8 us8 hB8 hy8 hk8 hu8
  have hx8 := below_then hx7 hy8 hz1
  have hz8 := hx8.size
  have hs8 := hy8.size
  have hlent8 := hk8 _ _ _ _ hlent7
  clear hB7 hy8 hk8 hu8 hV7 hd7 hd7' hlent7 hx7 hPlt hVlt
  go_wp2_with (go_at_call 24; go_must (refine put_any x hx wd P HP.out _ _ ?_))
  intro ad9 c9 w9 hown9 hy9
  have hx9 := below_then hx8 hy9 hz8
  have hB9 := hB8.below hy9
  have hlent9 := owns_below hlent8 hy9
  have hnew : ∀ k, (Value.slice ad9 P.length c9).ownBlock = some k → w8.heap.size ≤ k := fun k hk => (hown9.lt k hk).1
  have hd9 := unlike_new hB8.vs_lt.1 hnew
  have hd9' : ∀ u ∈ us8, Unlike (.slice ad9 P.length c9) u := fun u hu => (unlike_new hB8.vs_lt.2 hnew u hu).symm
  have hown9' := owns_mono (base' := w1.heap.size) hown9 (by omega)
  have hs9 := hy9.size
  clear hB8 hy9 hlent8 hx8 hnew hown9
  go_wp2_with (go_at_call 30; go_must (refine book_bytes w1.heap.size K _ us8 _ ad9 c9 P w9 hB9 (by simp) hown9' hd9 hd9' (by omega) _ ?_))
  intro w10 us10 hB10 hy10 hk10 hu10
  have hx10 := below_then hx9 hy10 hz1
  have hz10 := hx10.size
  have hlent10 := hk10 _ _ _ _ hlent9
  have hb10 := hb0.below hx10
  have hglo : w.heap.size ≤ g := (hlent10.lt g rfl).1
  clear hB9 hy10 hk10 hu10 hd9 hd9' hown9' hlent9 hx9
  go_wp2_with (go_at_call 15; go_must (refine back_any g B.length c w.heap.size _ B _ rfl hlent10 hb10 _ ?_))
  intro w11 hg11
  have hB11 := hB10.far hg11 hgl
  have hx11 := hx10.grown hg11 hz10 (fun k hk => by have := Option.some.inj hk; omega)
  have hz11 := hx11.size
  clear hB10 hlent10 hb10 hg11 hx10 hb0
  go_wp2_with (go_at_call 31; go_must (refine close_any w1.heap.size K _ us10 _ w11 hB11 (by intro p hp; simp at hp; rcases hp with rfl | rfl | rfl <;> omega) (by simp) _ ?_))
  intro w12 hy12
  have hx12 := below_then hx11 hy12 hz1
  have hT12 := hT.below hx12
  have hz12 := hx12.size
  clear hB11 hy12 hx11
  go_wp2_with (go_at_call 16; go_must (refine wakes_any _ hT12 _ ?_))
  intro w13 hy13
  have hx13 := below_then hx12 hy13 hz12
  clear hx12 hy13 hT12 hT
  go_wp2
  exact hx13
end Go.Proofs.YtgdfieolfhbmiaaDoor
