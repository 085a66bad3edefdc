
import Derived.Test.YtpodhidabhnnnaaDoorData
namespace Go.Proofs.YtpodhidabhnnnaaDoor
open Go.RowKit

theorem getU_two (l : List UInt8) (h : 2 ≤ l.length) : getU (l.take 2) < 65536 := by
  match l, h with
  | a :: b :: r, _ =>
    have h1 := a.toNat_lt
    have h2 := b.toNat_lt
    show ((0 * 256 + a.toNat) % 18446744073709551616 * 256 + b.toNat) % 18446744073709551616 < 65536
    omega

/-- The cases of what is read. -/
theorem getDataL_cases (l : List UInt8) : (l.length < 2 ∧ getDataL l = ([], 0, 11)) ∨ ∃ n : Nat, Hid (getU (l.take 2) = n) ∧ n < 65536 ∧ 2 ≤ l.length ∧ ((l.length - 2 < n ∧ getDataL l = ([], 0, 11)) ∨ (2 + n ≤ l.length ∧ getDataL l = ((l.take (2 + n)).drop 2, 2 + (n : Int), 0))) := by
  by_cases h : l.length < 2
  · exact .inl ⟨h, by unfold getDataL; rw [if_pos (.inl h)]⟩
  · refine .inr ⟨_, rfl, getU_two l (by omega), by omega, ?_⟩
    by_cases h2 : l.length - 2 < getU (l.take 2)
    · exact .inl ⟨h2, by unfold getDataL; rw [if_pos (.inr h2)]⟩
    · exact .inr ⟨by omega, by unfold getDataL; rw [if_neg (by omega)]⟩

/-- A middle piece. -/
theorem Bs.mid {w : World} {ad : Option Addr} {n c i j : Nat} {l : List UInt8} (h : Bs w (.slice ad n c) l) (hi : i ≤ j) (hj : j ≤ l.length) :
    Bs w (.slice (ad.map fun a => a.add i) (j - i) (c - i)) ((l.take j).drop i) := by
  obtain ⟨ad', c', e, hr, h1, h2, h3⟩ := h
  simp only [Value.slice.injEq] at e
  obtain ⟨rfl, rfl, rfl⟩ := e
  have hl : ((l.take j).drop i).length = j - i := by rw [List.length_drop, List.length_take]; omega
  refine ⟨_, c - i, by rw [hl], ?_, by omega, by omega, ?_⟩
  · rw [hl]
    refine ⟨by simp [hl], fun h0 => ?_⟩
    obtain ⟨b, o, rfl, hc⟩ := hr.2 (by omega)
    refine ⟨b, o + i, by simp [Addr.add], fun q hq => ?_⟩
    rw [show o + i + q = o + (i + q) by omega, hc (i + q) (by omega)]
    simp only [bv, List.getElem?_map, List.getElem?_drop, List.getElem?_take]
    rw [if_pos (by omega)]
  · intro hn
    cases ad with
    | none => rw [h3 rfl]; omega
    | some a => simp at hn

theorem get_at (v : Value) (l : List UInt8) (n : Nat) (hn : getU l = n) (w : World) (hv : Bs w v l) (R : Ending → World → Prop)
    (hR : R (.returned (.int .u64 n)) w) : Calls Tryd.prog 69 #[v] w R := by
  subst hn
  exact get_any v l w hv R hR
theorem rget_at (v : Value) (l : List UInt8) (n : Nat) (hn : getU l = n) (w : World) (hv : Bs w v l) (R : Ending → World → Prop)
    (hR : R (.returned (.int .u64 n)) w) : Calls Tryd.prog 58 #[v] w R := by
  subst hn
  exact rget_any v l w hv R hR

set_option maxHeartbeats 4000000 in
theorem getdata_any (v : Value) (l D : List UInt8) (u er : Int) (hD : getDataL l = (D, u, er)) (w : World) (hv : Bs w v l) (R : Ending → World → Prop)
    (hR : ∀ ad c w', w'.ownsRow w.heap.size 5 1 (.slice ad D.length c) D.length (bv D) → Below w.heap.size w w' → R (.returned (.tuple #[.slice ad D.length c, .int .i64 u, .int .i64 er])) w') :
    Calls Tryd.prog 71 #[v] w R := by
  have hv' := hv
  obtain ⟨ad, c, rfl, hr, hc, hm, hnil⟩ := hv'
  rcases getDataL_cases l with ⟨h, e⟩ | ⟨n, hn, hn2, hl2, ⟨h, e⟩ | ⟨h, e⟩⟩
  · rw [hD] at e
    simp only [Prod.mk.injEq] at e
    obtain ⟨rfl, rfl, rfl⟩ := e
    clear hD
    go_enter Tryd.func71, Tryd.ntmps71
    go_wp2
    go_ret3
    exact hR _ _ _ (World.ownsRow_nil _ _ _ _) (Below.refl _ _)
  · rw [hD] at e
    simp only [Prod.mk.injEq] at e
    obtain ⟨rfl, rfl, rfl⟩ := e
    clear hD
    have hb := hv.cut (k := 2) hl2
    have hx : ((l.length : Int) - 2 < (n : Int)) := by omega
    go_enter Tryd.func71, Tryd.ntmps71
    go_wp2_with (go_at_call 69; go_must (refine get_at _ _ n hn.out _ hb _ ?_))
    go_wp2
    go_ret3
    exact hR _ _ _ (World.ownsRow_nil _ _ _ _) (Below.refl _ _)
  · rw [hD] at e
    simp only [Prod.mk.injEq] at e
    obtain ⟨e1, rfl, rfl⟩ := e
    have hDl : D.length = n := by rw [e1, List.length_drop, List.length_take]; omega
    have HF : Hid ([D].flatten = D) := by simp [Hid]
    have hb := hv.cut (k := 2) hl2
    obtain ⟨b, o, rfl, hcell⟩ := hr.byteAt (by omega)
    clear hcell hr
    have hb2 := hv.mid (i := 2) (j := 2 + n) (by omega) h
    rw [show 2 + n - 2 = n by omega] at hb2
    rw [← e1] at hb2
    simp only [Option.map_some, Addr.add] at hb2
    clear hD e1
    have hx : ¬ ((l.length : Int) - 2 < (n : Int)) := by omega
    rw [hDl] at hR
    have hc0 : c - 2 ≤ 9223372036854775807 := by omega
    have hlit : ∀ (ad' : Option Addr) (c' : Nat), Bs w (.slice ad' n c') D → Bss (w.alloc (.cells #[.slice ad' n c'] 22)) (.slice (some ⟨w.heap.size, 0, none⟩) 1 1) [D] := fun ad' c' hq => bss_lit1 hq
    by_cases hc2 : c = 2
    · subst hc2
      obtain rfl : n = 0 := by omega
      have hb3 : Bs w (.slice (some ⟨b, o, none⟩) 0 0) D := by
        obtain rfl : D = [] := List.eq_nil_of_length_eq_zero hDl
        exact ⟨_, 0, rfl, Rd.nil _ _ _, by simp, by omega, fun h => by cases h⟩
      have hB := hlit _ _ hb3
      clear hlit hb2
      go_enter Tryd.func71, Tryd.ntmps71
      go_wp2_with (go_at_call 69; go_must (refine get_at _ _ _ hn.out _ hb _ ?_))
      go_wp2_with (go_at_call 69; go_must (refine get_at _ _ _ hn.out _ hb _ ?_))
      go_wp2_with (go_at_call 47; go_must (refine join_any _ _ D HF.out _ hB (by omega) _ ?_))
      intro ad3 c3 w3 hown3 hb3'
      have hown4 := owns_mono (base' := w.heap.size) hown3 (by simp)
      have hb4 := below_then ((Below.refl w.heap.size w).alloc (Nat.le_refl _) _) hb3' (by simp)
      clear hb hB hb3 hn hown3 hb3'
      go_wp2
      go_ret3
      exact hR _ _ _ hown4 hb4
    · have hB := hlit _ _ hb2
      clear hlit hb2
      go_enter Tryd.func71, Tryd.ntmps71
      go_wp2_with (go_at_call 69; go_must (refine get_at _ _ n hn.out _ hb _ ?_))
      go_wp2_with (go_at_call 69; go_must (refine get_at _ _ n hn.out _ hb _ ?_))
      go_wp2_with (go_at_call 47; go_must (refine join_any _ _ D HF.out _ hB (by omega) _ ?_))
      intro ad3 c3 w3 hown3 hb3'
      have hown4 := owns_mono (base' := w.heap.size) hown3 (by simp)
      have hb4 := below_then ((Below.refl w.heap.size w).alloc (Nat.le_refl _) _) hb3' (by simp)
      clear hb hB hn hown3 hb3'
      go_wp2
      go_ret3
      exact hR _ _ _ hown4 hb4
theorem getDataL_len (l D : List UInt8) (u er : Int) (h : getDataL l = (D, u, er)) : D.length ≤ 65535 := by
  rcases getDataL_cases l with ⟨_, e⟩ | ⟨n, hn, hn2, hl2, ⟨_, e⟩ | ⟨h2, e⟩⟩
  · rw [h] at e; simp only [Prod.mk.injEq] at e; rw [e.1]; simp
  · rw [h] at e; simp only [Prod.mk.injEq] at e; rw [e.1]; simp
  · rw [h] at e; simp only [Prod.mk.injEq] at e; rw [e.1, List.length_drop, List.length_take]; omega

/-- What is read of a text with its length ahead. -/
def getTextL (l : List UInt8) : List UInt8 × Int × Int :=
  if (getDataL l).2.2 ≠ 0 then ([], 0, (getDataL l).2.2) else if isTextL (getDataL l).1 then ((getDataL l).1, (getDataL l).2.1, 0) else ([], 0, 13)

set_option maxHeartbeats 1600000 in
theorem gettext_any (v : Value) (l S : List UInt8) (u er : Int) (hD : getTextL l = (S, u, er)) (w : World) (hv : Bs w v l) (hT : Tabs w) (R : Ending → World → Prop)
    (hR : ∀ w', Below w.heap.size w w' → R (.returned (.tuple #[.string (str S), .int .i64 u, .int .i64 er])) w') :
    Calls Tryd.prog 70 #[v] w R := by
  have hv' := hv
  obtain ⟨ad, c, rfl, hr, hc, hm, hnil⟩ := hv'
  clear hr
  obtain ⟨⟨d, u1, e1⟩, hg⟩ : ∃ g, getDataL l = g := ⟨_, rfl⟩
  have hdl := getDataL_len _ _ _ _ hg
  have HG := Lib.hid hg
  unfold getTextL at hD
  rw [hg] at hD
  simp only at hD
  clear hg
  by_cases he : e1 = 0
  · subst he
    rw [if_neg (by simp)] at hD
    obtain ⟨t, ht⟩ : ∃ t, isTextL d = t := ⟨_, rfl⟩
    rw [ht] at hD
    have HT := Lib.hid ht
    clear ht
    cases t with
    | false =>
      simp only [Bool.false_eq_true, if_false, Prod.mk.injEq] at hD
      obtain ⟨rfl, rfl, rfl⟩ := hD
      go_enter Tryd.func70, Tryd.ntmps70
      go_wp2_with (go_at_call 71; go_must (refine getdata_any _ l d u1 0 HG.out _ hv _ ?_))
      intro ad1 c1 w1 hown1 hb1
      have hbs := (bs_of_owns hown1).2
      have hcv := run_conv_bs (P := Tryd.prog) Tryd.underlying22 Tryd.underlying5 Tryd.underlying9 hbs
      have hT1 := hT.below hb1
      clear hown1 hv hbs
      go_wp2_with (go_at_call 73; go_must (refine istext_any d _ (by omega) hT1 _ ?_))
      rw [HT.out]
      intro w2 hb2
      have hb3 := below_then hb1 hb2 hb1.size
      clear hb2 hb1 hcv hT hT1
      go_wp2
      go_ret3
      exact hR _ hb3
    | true =>
      simp only [if_true, Prod.mk.injEq] at hD
      obtain ⟨rfl, rfl, rfl⟩ := hD
      go_enter Tryd.func70, Tryd.ntmps70
      go_wp2_with (go_at_call 71; go_must (refine getdata_any _ l d u1 0 HG.out _ hv _ ?_))
      intro ad1 c1 w1 hown1 hb1
      have hbs := (bs_of_owns hown1).2
      have hcv := run_conv_bs (P := Tryd.prog) Tryd.underlying22 Tryd.underlying5 Tryd.underlying9 hbs
      have hT1 := hT.below hb1
      clear hown1 hv
      go_wp2_with (go_at_call 73; go_must (refine istext_any d _ (by omega) hT1 _ ?_))
      rw [HT.out]
      intro w2 hb2
      have hb3 := below_then hb1 hb2 hb1.size
      have hcv2 := run_conv_bs (P := Tryd.prog) Tryd.underlying22 Tryd.underlying5 Tryd.underlying9 (hbs.below hb2)
      clear hb2 hb1 hT hT1 hbs hcv
      go_wp2
      go_ret3
      exact hR _ hb3
  · rw [if_pos he] at hD
    simp only [Prod.mk.injEq] at hD
    obtain ⟨rfl, rfl, rfl⟩ := hD
    have hne : ((e1 : Int) == 0) = false := by simpa using he
    go_enter Tryd.func70, Tryd.ntmps70
    go_wp2_with (go_at_call 71; go_must (refine getdata_any _ l d u1 e1 HG.out _ hv _ ?_))
    intro ad1 c1 w1 hown1 hb1
    clear hown1 hv
    go_wp2
    go_ret3
    exact hR _ hb1
end Go.Proofs.YtpodhidabhnnnaaDoor
