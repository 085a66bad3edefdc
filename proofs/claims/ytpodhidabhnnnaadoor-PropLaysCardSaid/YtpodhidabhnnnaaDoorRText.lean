
import Derived.Test.YtpodhidabhnnnaaDoorRIsText
import Derived.Test.YtpodhidabhnnnaaDoorGet
namespace Go.Proofs.YtpodhidabhnnnaaDoor
open Go.RowKit

set_option maxHeartbeats 1600000 in
theorem rdata_any (v : Value) (l D : List UInt8) (er : Int) (hD : dataL l = (D, er)) (w : World) (hv : Bs w v l) (R : Ending → World → Prop)
    (hR : ∀ ad c w', w'.ownsRow w.heap.size 5 1 (.slice ad D.length c) D.length (bv D) → Below w.heap.size w w' → R (.returned (.tuple #[.slice ad D.length c, .int .i64 er])) w') :
    Calls Tryd.prog 76 #[v] w R := by
  have hv' := hv
  obtain ⟨ad, c, rfl, hr, hc, hm, hnil⟩ := hv'
  by_cases hbig : 65535 < l.length
  · have e : dataL l = ([], 10) := by unfold dataL; rw [if_pos hbig]
    rw [hD] at e
    obtain ⟨rfl, rfl⟩ := Prod.mk.inj e
    clear e hD
    go_enter Tryd.func76, Tryd.ntmps76
    go_wp2
    exact hR _ _ _ (World.ownsRow_nil _ _ _ _) (Below.refl _ _)
  · have e : dataL l = (putL l.length 2 ++ l, 0) := by unfold dataL; rw [if_neg hbig]
    rw [hD] at e
    obtain ⟨e1, rfl⟩ := Prod.mk.inj e
    clear e hD
    obtain ⟨p, hp⟩ : ∃ p, p = putL l.length 2 := ⟨_, rfl⟩
    have hlp : p.length = 2 := by rw [hp]; exact putL_length _ _
    have HP2 : Hid (putW l.length 2 = p) := by rw [hp]; exact Lib.hid rfl
    have HF : Hid (p ++ l = D) := by rw [e1, hp]; exact Lib.hid rfl
    have hDl : D.length = 2 + l.length := by rw [e1, List.length_append, putL_length]
    rw [hDl] at hR
    clear e1 hp
    go_enter Tryd.func76, Tryd.ntmps76
    go_wp2_with (go_at_call 74; go_must (refine rput_any l.length (by omega) 2 p HP2.out _ _ ?_))
    intro ad1 c1 w1 hown1 hb1
    have hr1 := hr.below hb1
    clear HP2 hr
    go_wp2_with (at_builtin; go_must (refine wpList_app (by rfl) (.tmp 10) (.tmp 11) 22 (by rfl) w.heap.size 5 (.int .u8 0) 1 1 Tryd.underlying22 Tryd.info5 rfl (by decide) _ _ _ _ rfl hown1 _ _ _ _ rfl hr1 (bv_oneCell _) hnil (by unfold maxLen; omega) (by omega) hb1.size ?_))
    intro ad3 c3 w3 hown3 hg3
    have hb3 := below_app hb1 hg3 hb1.size hown1
    rw [← bv_append, HF.out] at hown3
    clear hr1 hown1 hg3 hb1
    go_wp2
    exact hR _ _ _ hown3 hb3

set_option maxHeartbeats 1600000 in
theorem rtext_any (l D : List UInt8) (er : Int) (hD : textL l = (D, er)) (w : World) (hl : l.length ≤ 140737488355328) (R : Ending → World → Prop)
    (hR : ∀ ad c w', w'.ownsRow w.heap.size 5 1 (.slice ad D.length c) D.length (bv D) → Below w.heap.size w w' → R (.returned (.tuple #[.slice ad D.length c, .int .i64 er])) w') :
    Calls Tryd.prog 75 #[.string (str l)] w R := by
  obtain ⟨t, ht⟩ : ∃ t, isTextL l = t := ⟨_, rfl⟩
  have hcv := fun w => Lib.run_convert_string_bytes (P := Tryd.prog) w 9 22 5 (str l) Tryd.underlying9 Tryd.underlying22 Tryd.underlying5
  have hsz : (str l).size = l.length := rfl
  cases t with
  | false =>
    have e : textL l = ([], 13) := by unfold textL; rw [ht]; rfl
    rw [hD] at e
    obtain ⟨rfl, rfl⟩ := Prod.mk.inj e
    clear e hD hcv
    clear hsz
    go_enter Tryd.func75, Tryd.ntmps75
    go_wp2_with (go_at_call 72; go_must (refine ristext_any l _ (by omega) _ ?_))
    exact hR _ _ _ (World.ownsRow_nil _ _ _ _) (Below.refl _ _)
  | true =>
    have e : dataL l = (D, er) := by rw [← hD]; unfold textL; rw [ht]; rfl
    have HE := Lib.hid e
    have HC := Lib.hid hcv
    have hb2 := bytesWorld_below w 5 (str l)
    have hbs := bytesWorld_bs w 5 l (by omega)
    have hc1 := hcv w
    rw [show (str l).size = l.length from rfl] at hc1
    clear hD e hcv hsz
    go_enter Tryd.func75, Tryd.ntmps75
    go_wp2_with (first | (go_at_call 72; go_must (refine ristext_any l _ (by omega) _ ?_)) | (go_at_call 76; go_must (refine rdata_any _ l D er HE.out _ hbs _ ?_)))
    intro ad4 c4 w4 hown4 hb4
    have hb5 := below_then hb2 hb4 hb2.size
    have hown5 := owns_mono (base' := w.heap.size) hown4 hb2.size
    clear hb4 hown4 hbs hb2 hc1
    go_wp2
    exact hR _ _ _ hown5 hb5

set_option maxHeartbeats 1600000 in
theorem rgetdata_any (v : Value) (l D : List UInt8) (u er : Int) (hD : getDataL l = (D, u, er)) (w : World) (hv : Bs w v l) (R : Ending → World → Prop)
    (hR : ∀ ad c, Bs w (.slice ad D.length c) D → R (.returned (.tuple #[.slice ad D.length c, .int .i64 u, .int .i64 er])) w) :
    Calls Tryd.prog 57 #[v] w R := by
  have hv' := hv
  obtain ⟨ad, c, rfl, hr, hc, hm, hnil⟩ := hv'
  rcases getDataL_cases l with ⟨h, e⟩ | ⟨n, hn, hn2, hl2, ⟨h, e⟩ | ⟨h, e⟩⟩
  · rw [hD] at e
    simp only [Prod.mk.injEq] at e
    obtain ⟨rfl, rfl, rfl⟩ := e
    clear hD
    go_enter Tryd.func57, Tryd.ntmps57
    go_wp2
    go_ret3
    exact hR _ _ ⟨none, 0, rfl, Rd.nil _ _ _, by simp, by omega, fun _ => rfl⟩
  · rw [hD] at e
    simp only [Prod.mk.injEq] at e
    obtain ⟨rfl, rfl, rfl⟩ := e
    clear hD
    have hb := hv.cut (k := 2) hl2
    have hx : ((l.length : Int) - 2 < (n : Int)) := by omega
    go_enter Tryd.func57, Tryd.ntmps57
    go_wp2_with (go_at_call 58; go_must (refine rget_at _ _ n hn.out _ hb _ ?_))
    go_ret3
    exact hR _ _ ⟨none, 0, rfl, Rd.nil _ _ _, by simp, by omega, fun _ => rfl⟩
  · rw [hD] at e
    simp only [Prod.mk.injEq] at e
    obtain ⟨e1, rfl, rfl⟩ := e
    have hDl : D.length = n := by rw [e1, List.length_drop, List.length_take]; omega
    have hb := hv.cut (k := 2) hl2
    obtain ⟨b, o, rfl, hcell⟩ := hr.byteAt (by omega)
    clear hcell hr
    have hb2 := hv.mid (i := 2) (j := 2 + n) (by omega) h
    rw [show 2 + n - 2 = n by omega] at hb2
    rw [← e1] at hb2
    simp only [Option.map_some, Addr.add, show ¬ (2 = 0) by decide, if_false] at hb2
    clear hD e1
    have hx : ¬ ((l.length : Int) - 2 < (n : Int)) := by omega
    rw [hDl] at hR
    by_cases hc2 : c = 2
    · subst hc2
      obtain rfl : n = 0 := by omega
      have hb3 : Bs w (.slice (some ⟨b, o, none⟩) 0 0) D := by
        obtain rfl : D = [] := List.eq_nil_of_length_eq_zero hDl
        exact ⟨_, 0, rfl, Rd.nil _ _ _, by simp, by omega, fun h => by cases h⟩
      clear hb2
      go_enter Tryd.func57, Tryd.ntmps57
      go_wp2_with (go_at_call 58; go_must (refine rget_at _ _ _ hn.out _ hb _ ?_))
      go_ret3
      exact hR _ _ hb3
    · go_enter Tryd.func57, Tryd.ntmps57
      go_wp2_with (go_at_call 58; go_must (refine rget_at _ _ n hn.out _ hb _ ?_))
      go_ret3
      show R (.returned (.tuple #[.slice (some ⟨b, o + 2, none⟩) (2 + n - 2) (c - 2), .int .i64 (2 + (n : Int)), .int .i64 0])) w
      rw [show 2 + n - 2 = n by omega]
      exact hR _ _ hb2

set_option maxHeartbeats 1600000 in
theorem rgettext_any (v : Value) (l S : List UInt8) (u er : Int) (hD : getTextL l = (S, u, er)) (w : World) (hv : Bs w v l) (R : Ending → World → Prop)
    (hR : R (.returned (.tuple #[.string (str S), .int .i64 u, .int .i64 er])) w) :
    Calls Tryd.prog 56 #[v] w R := by
  have hv' := hv
  obtain ⟨ad, c, rfl, hr, hc, hm, hnil⟩ := hv'
  clear hr
  obtain ⟨⟨d, u1, e1⟩, hg⟩ : ∃ g, getDataL l = g := ⟨_, rfl⟩
  have hdl := getDataL_len _ _ _ _ hg
  have HG := Lib.hid hg
  unfold getTextL at hD
  rw [hg] at hD
  simp only at hD
  clear hg
  have HRR := Lib.hid hR
  clear hR
  by_cases he : e1 = 0
  · subst he
    rw [if_neg (by simp)] at hD
    obtain ⟨t, ht⟩ : ∃ t, isTextL d = t := ⟨_, rfl⟩
    rw [ht] at hD
    cases t with
    | false =>
      simp only [Bool.false_eq_true, if_false, Prod.mk.injEq] at hD
      obtain ⟨rfl, rfl, rfl⟩ := hD
      go_enter Tryd.func56, Tryd.ntmps56
      go_wp2_with (go_at_call 57; go_must (refine rgetdata_any _ l d u1 0 HG.out _ hv _ ?_))
      intro ad1 c1 hbs
      have hcv := run_conv_bs (P := Tryd.prog) Tryd.underlying22 Tryd.underlying5 Tryd.underlying9 hbs
      clear hv hbs
      go_wp2_with (go_at_call 72; go_must (refine ristext_any d _ (by omega) _ ?_))
      go_ret3
      exact HRR.out
    | true =>
      simp only [if_true, Prod.mk.injEq] at hD
      obtain ⟨rfl, rfl, rfl⟩ := hD
      go_enter Tryd.func56, Tryd.ntmps56
      go_wp2_with (go_at_call 57; go_must (refine rgetdata_any _ l d u1 0 HG.out _ hv _ ?_))
      intro ad1 c1 hbs
      have hcv := run_conv_bs (P := Tryd.prog) Tryd.underlying22 Tryd.underlying5 Tryd.underlying9 hbs
      clear hv hbs
      go_wp2_with (go_at_call 72; go_must (refine ristext_any d _ (by omega) _ ?_))
      go_ret3
      exact HRR.out
  · rw [if_pos he] at hD
    simp only [Prod.mk.injEq] at hD
    obtain ⟨rfl, rfl, rfl⟩ := hD
    have hne : ((e1 : Int) == 0) = false := by simpa using he
    go_enter Tryd.func56, Tryd.ntmps56
    go_wp2_with (go_at_call 57; go_must (refine rgetdata_any _ l d u1 e1 HG.out _ hv _ ?_))
    intro ad1 c1 hbs
    clear hv hbs
    go_wp2
    go_ret3
    exact HRR.out
end Go.Proofs.YtpodhidabhnnnaaDoor
