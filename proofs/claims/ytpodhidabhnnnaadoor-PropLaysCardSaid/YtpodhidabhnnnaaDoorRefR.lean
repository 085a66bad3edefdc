/- The document's Read, walked. -/
import Derived.Test.YtpodhidabhnnnaaDoorRefF
namespace Go.Proofs.YtpodhidabhnnnaaDoor
open Go.RowKit

theorem rvalue_some (id : Int) (hk : kindL id ≠ 0) (v : Value) (b : List UInt8) (p : Pr) (u : Int) (hr : valueL id b = some (p, u)) (w : World) (hv : Bs w v b) (R : Ending → World → Prop)
    (hR : ∀ d w', w'.ownsRow w.heap.size 5 1 d p.data.length (bv p.data) → Below w.heap.size w w' → R (.returned (.tuple #[.agg #[.int .i64 p.id, .int .i64 p.num, .string (str p.text), .string (str p.pair), d], .int .i64 u, .bool true])) w') :
    Calls Tryd.prog 37 #[.int .i64 id, v] w R := by
  refine rvalue_any id hk v b _ hr w hv R (fun p' u' d w' h h1 h2 => ?_) (fun n s t a m c u q w' h => by cases h)
  simp only [Option.some.injEq, Prod.mk.injEq] at h
  obtain ⟨rfl, rfl⟩ := h
  exact hR d w' h1 h2
theorem rvalue_none (id : Int) (hk : kindL id ≠ 0) (v : Value) (b : List UInt8) (hr : valueL id b = none) (w : World) (hv : Bs w v b) (R : Ending → World → Prop)
    (hF : ∀ n s t a m c u w', Below w.heap.size w w' → R (.returned (.tuple #[.agg #[.int .i64 id, .int .i64 n, .string s, .string t, .slice a m c], .int .i64 u, .bool false])) w') :
    Calls Tryd.prog 37 #[.int .i64 id, v] w R := by
  refine rvalue_any id hk v b _ hr w hv R (fun p' u' d w' h => by cases h) (fun n s t a m c u q w' h hq h1 => ?_)
  subst hq
  exact hF n s t a m c u w' h1

set_option maxRecDepth 100000 in
set_option maxHeartbeats 8000000 in
theorem rread_any (wh : Int) (v : Value) (b : List UInt8) (out : List Pr) (used : Int) (c : Nat) (h : readL wh b = (out, used, c)) (hbl : b.length ≤ 100000000) (w : World) (hv : Bs w v b) (hT : Tabs w) (R : Ending → World → Prop)
    (hR : ∀ ad cc w', PsO w' w.heap.size (.slice ad out.length cc) out → Below w.heap.size w w' → R (.returned (.tuple #[.slice ad out.length cc, .int .i64 used, .int .i64 c])) w') :
    Calls Tryd.prog 11 #[.int .i64 wh, v] w R := by
  have HR := Lib.hid hR
  have HV := Lib.hid hv
  have HT := Lib.hid hT
  obtain ⟨va, vc, rfl, _, hvl, hvm, _⟩ := _root_.id hv
  obtain ⟨⟨n, y, z⟩, hg⟩ : ∃ g, gvL b = g := ⟨_, rfl⟩
  unfold readL at h
  rw [hg] at h
  simp only at h
  have HG := Lib.hid hg
  clear hR hv hT
  by_cases hz : z ≠ 0
  · rw [if_pos (.inl hz)] at h
    simp only [Prod.mk.injEq] at h
    obtain ⟨rfl, rfl, rfl⟩ := h
    have hzi : ¬ (z : Int) = 0 := by omega
    clear hg
    go_enter Tryd.func11, Tryd.ntmps11
    go_wp2_with (go_at_call 36; go_must (refine rgetvar_any _ b n y z HG.out _ HV.out _ ?_))
    try go_ret3
    exact HR.out none 0 _ (PsO.nil _ _) (Below.refl _ _)
  · have hz0 : z = 0 := by omega
    subst hz0
    obtain ⟨hn28, hyl, _⟩ := gvL_ok b n y hg
    clear hg
    by_cases hbig : b.length < n + y
    · rw [if_pos (.inr hbig)] at h
      simp only [Prod.mk.injEq] at h
      obtain ⟨rfl, rfl, rfl⟩ := h
      have hbi : (b.length : Int) - (y : Int) < (n : Int) := by omega
      go_enter Tryd.func11, Tryd.ntmps11
      go_wp2_with (go_at_call 36; go_must (refine rgetvar_any _ b n y 0 HG.out _ HV.out _ ?_))
      try go_ret3
      exact HR.out none 0 _ (PsO.nil _ _) (Below.refl _ _)
    · rw [if_neg (by simpa using hbig)] at h
      have hbi : ¬ ((b.length : Int) - (y : Int) < (n : Int)) := by omega
      obtain ⟨⟨o2, c2⟩, hF⟩ : ∃ o, readF n wh [] ((b.drop y).take n) = o := ⟨_, rfl⟩
      rw [hF] at h
      simp only at h
      have HF := Lib.hid hF
      have HH := Lib.hid h
      obtain ⟨La, hsl, hbs⟩ := bs_mid (lo := y) (hi := y + n) HV.out (by omega) (by omega)
      rw [Nat.add_sub_cancel_left] at hbs
      have hsl2 : ∀ w', (Instr.slice 22 (.slice va b.length vc) (some (.int .i64 (y : Int))) (some (.int .i64 ((y : Int) + (n : Int)))) none).run Tryd.prog w' = .ok (.slice La n (vc - y)) w' := by
        intro w'
        have := hsl w'
        rw [Nat.add_sub_cancel_left] at this
        rw [show (y : Int) + (n : Int) = ((y + n : Nat) : Int) by omega]
        exact this
      have hb0 : (b.take (y + n)).drop y = (b.drop y).take n := by rw [List.drop_take, Nat.add_sub_cancel_left]
      rw [hb0] at hbs
      have hlen0 : ((b.drop y).take n).length = n := by rw [List.length_take, List.length_drop]; omega
      have HBS := Lib.hid hbs
      have HL0 := Lib.hid hlen0
      clear h hF hsl hbs hb0 hlen0
      go_enter Tryd.func11, Tryd.ntmps11
      go_wp2_with (go_at_call 36; go_must (refine rgetvar_any _ b n y 0 HG.out _ HV.out _ ?_))
      clear hsl2
      go_loopg [10, 11] n (fun gn rest L wr => ∃ (f : Nat) (l' : List Pr) (b' : List UInt8) (ra : Option Addr) (rc : Nat), b'.length ≤ f ∧ gn = b'.length ∧ rest = .slice ra b'.length rc ∧ Hid (l'.length + b'.length ≤ b.length) ∧ Hid (PsO wr w.heap.size L l') ∧ Hid (∀ p ∈ l', PB p) ∧ Hid (Bs w (.slice ra b'.length rc) b') ∧ Below w.heap.size w wr ∧ Hid (readF f wh l' b' = (o2, c2)))
      case atStart =>
        refine ⟨n, [], (b.drop y).take n, La, vc - y, by rw [HL0.out]; omega, HL0.out.symm, by rw [HL0.out], Lib.hid (by rw [HL0.out]; simp; omega), Lib.hid (PsO.nil _ _), Lib.hid (fun p hp => by cases hp), by rw [HL0.out]; exact HBS, Below.refl _ _, HF⟩
      case round =>
        obtain ⟨f, l', b', ra, rc, hf, rfl, rfl, HLN, HPS, HPB, HBB, hb, HRF⟩ := hrel
        obtain ⟨wo, rfl⟩ : ∃ x, x = wr := ⟨_, rfl⟩
        obtain ⟨La', Lc, rfl⟩ := PsO.shape HPS.out
        have hbz := hb.size
        by_cases hpos : 0 < b'.length
        · have hposi : (0 : Int) < (b'.length : Int) := by omega
          obtain ⟨f', rfl⟩ : ∃ f', f = f' + 1 := ⟨f - 1, by omega⟩
          have hne : b' ≠ [] := fun hc => by rw [hc] at hpos; simp at hpos
          have hrf := HRF.out
          unfold readF at hrf
          rw [if_neg hne] at hrf
          obtain ⟨⟨sc, p, m⟩, hs⟩ : ∃ s, stepL wh l' b' = s := ⟨_, rfl⟩
          rw [hs] at hrf
          simp only at hrf
          have hs0 := hs
          unfold stepL at hs
          obtain ⟨⟨X, Y, Z⟩, hg⟩ : ∃ g, gvL b' = g := ⟨_, rfl⟩
          rw [hg] at hs
          simp only at hs
          have HGX := Lib.hid hg
          have hbad : sc ≠ 0 → (o2 = [] ∧ c2 = sc) ∧ ∀ w', Below w.heap.size w w' → R (.returned (.tuple #[.slice none 0 0, .int .i64 0, .int .i64 sc])) w' := by
            intro hsc
            rw [if_pos hsc] at hrf
            simp only [Prod.mk.injEq] at hrf
            refine ⟨⟨hrf.1.symm, hrf.2.symm⟩, fun w' hw' => ?_⟩
            have hh := HH.out
            rw [← hrf.2, if_pos hsc] at hh
            simp only [Prod.mk.injEq] at hh
            obtain ⟨rfl, rfl, rfl⟩ := hh
            exact HR.out none 0 _ (PsO.nil _ _) hw'
          by_cases hz : Z ≠ 0
          · rw [if_pos (.inl hz)] at hs
            simp only [Prod.mk.injEq] at hs
            obtain ⟨rfl, rfl, rfl⟩ := hs
            have HBAD := Lib.hid (hbad (by omega)).2
            have hzi : ¬ (Z : Int) = 0 := by omega
            clear hg hs0 hrf hbad HRF HH HF hne
            go_wp2_with (go_at_call 36; go_must (refine rgetvar_any _ b' X Y Z HGX.out _ (HBB.out.below hb) _ ?_))
            try go_ret3
            exact HBAD.out _ hb
          · have hz0 : Z = 0 := by omega
            subst hz0
            obtain ⟨_, hyl', _⟩ := gvL_ok b' X Y hg
            obtain ⟨mm, hm⟩ : ∃ mm, mayL (X : Int) wh = mm := ⟨_, rfl⟩
            rw [hm] at hs
            have HM := Lib.hid hm
            cases mm with
            | false =>
              simp only [ne_eq, not_true_eq_false, or_true, if_true, Prod.mk.injEq] at hs
              obtain ⟨rfl, rfl, rfl⟩ := hs
              have HBAD := Lib.hid (hbad (by omega)).2
              clear hg hs0 hrf hbad HRF HH HF hne hm
              go_wp2_with (first
                | (go_at_call 36; go_must (refine rgetvar_any _ b' X Y 0 HGX.out _ (HBB.out.below hb) _ ?_))
                | (go_at_call 17; go_must (refine rmay_at X wh false HM.out _ _ ?_); intro w1 hb1; have hx1 := below_then hb hb1 hb.size))
              try go_ret3
              exact HBAD.out _ hx1
            | true =>
              simp only [ne_eq, not_true_eq_false, Bool.true_eq_false, or_false, if_false] at hs
              have hkp : kindL (X : Int) ≠ 0 := may_kind hm
              have HKP := Lib.hid hkp
              obtain ⟨Lb, hslY, hbsY⟩ := bs_from HBB.out hyl'
              have HBSY := Lib.hid hbsY
              obtain ⟨fp, hfp⟩ : ∃ fp, (findL X l').getD zeroP = fp := ⟨_, rfl⟩
              obtain ⟨fq, hfq⟩ : ∃ fq, (findL X l').isSome = fq := ⟨_, rfl⟩
              have hhas : hasL X l' = fq := by rw [← hfq]; exact (hasL_find X l').symm
              rw [hhas] at hs
              have HFP := Lib.hid hfp
              have HFQ := Lib.hid hfq
              clear hfp hfq hhas hkp hbsY hm
              obtain ⟨r, hr⟩ : ∃ r, valueL (X : Int) (b'.drop Y) = r := ⟨_, rfl⟩
              rw [hr] at hs
              cases r with
              | none =>
                simp only [Prod.mk.injEq] at hs
                obtain ⟨rfl, rfl, rfl⟩ := hs
                have HBAD := Lib.hid (hbad (by omega)).2
                have HVN : ∀ w' R, Bs w' (Value.slice Lb (b'.length - Y) (rc - Y)) (b'.drop Y) → _ → Calls Tryd.prog 37 #[.int .i64 X, Value.slice Lb (b'.length - Y) (rc - Y)] w' R := fun w' R h1 h3 => rvalue_none X HKP.out _ _ hr w' h1 R h3
                have HVH := Lib.hid HVN
                clear hg hs0 hrf hbad HRF HH HF hne hr HVN
                go_wp2_with (first
                  | (go_at_call 36; go_must (refine rgetvar_any _ b' X Y 0 HGX.out _ (HBB.out.below hb) _ ?_))
                  | (go_at_call 17; go_must (refine rmay_at X wh true HM.out _ _ ?_); intro w1 hb1; have hx1 := below_then hb hb1 hb.size)
                  | (go_at_call 37; go_must (refine HVH.out _ _ (HBSY.out.below hx1) ?_); intro vn vs vt vaa vm vcc vu w2 hb2; have hx2 := below_then hx1 hb2 hx1.size))
                try go_ret3
                exact HBAD.out _ (hx2.alloc hx2.size _)
              | some pm =>
                obtain ⟨p', m'⟩ := pm
                simp only at hs
                obtain ⟨um, rfl, hum2, hpid, _, hgp, _⟩ := valueL_ok hr
                rw [List.length_drop] at hum2
                have HVS : ∀ w' R, Bs w' (Value.slice Lb (b'.length - Y) (rc - Y)) (b'.drop Y) → _ → Calls Tryd.prog 37 #[.int .i64 X, Value.slice Lb (b'.length - Y) (rc - Y)] w' R := fun w' R h1 h3 => rvalue_some X HKP.out _ _ p' um hr w' h1 R h3
                have HVH := Lib.hid HVS
                obtain ⟨nn, hnn⟩ : ∃ nn, numL p' = nn := ⟨_, rfl⟩
                have hnn2 : numL ⟨X, p'.num, [], [], []⟩ = nn := by rw [← hnn, numL_eq p', hpid]
                have HNN := Lib.hid hnn2
                have HPID := Lib.hid hpid
                have HGP := Lib.hid hgp
                have hYU : Y + um ≤ b'.length := by omega
                obtain ⟨Le, hslE, hbsE⟩ := bs_from HBB.out hYU
                have hslE2 : ∀ w', (Instr.slice 22 (.slice ra b'.length rc) (some (.int .i64 ((Y : Int) + (um : Int)))) none none).run Tryd.prog w' = .ok (.slice Le (b'.length - (Y + um)) (rc - (Y + um))) w' := by
                  intro w'
                  have := hslE w'
                  rw [show (Y : Int) + (um : Int) = ((Y + um : Nat) : Int) by omega]
                  exact this
                have HBSE := Lib.hid hbsE
                have hYb : (Y : Int) + (um : Int) ≤ 100000000 := by have := HLN.out; omega
                have hbl' : l'.length + 1 ≤ 100000000 := by have := HLN.out; omega
                clear HVS hr hgp hpid hnn2 hslE hbsE hum2
                have hoc : oftenL (X : Int) wh = (!((X : Int) != 38) || (((X : Int) == 11) && (wh == 3))) := by
                  unfold oftenL
                  by_cases a1 : (X : Int) = 38
                  · simp [a1]
                  · by_cases a2 : (X : Int) = 11 ∧ wh = 3
                    · simp [a2]
                    · have : ¬ ((X : Int) = 38 ∨ (X : Int) = 11 ∧ wh = 3) := fun h => h.elim a1 a2
                      rw [decide_eq_false this]
                      by_cases a3 : (X : Int) = 11
                      · have a4 : ¬ wh = 3 := fun h => a2 ⟨a3, h⟩
                        simp [a3, a4]
                      · simp [a1, a3]
                obtain ⟨q38, h38⟩ : ∃ q, ((X : Int) != 38) = q := ⟨_, rfl⟩
                obtain ⟨q11, h11⟩ : ∃ q, ((X : Int) == 11) = q := ⟨_, rfl⟩
                obtain ⟨q3, h3⟩ : ∃ q, (wh == 3) = q := ⟨_, rfl⟩
                rw [h38, h11, h3] at hoc
                rw [hoc] at hs
                have hcase : (fq = true ∧ (!q38 || (q11 && q3)) = false) ∨ ¬ (fq = true ∧ (!q38 || (q11 && q3)) = false) := Decidable.em _
                rcases hcase with hd | hd
                · rw [if_pos hd] at hs
                  simp only [Prod.mk.injEq] at hs
                  obtain ⟨rfl, rfl, rfl⟩ := hs
                  have HBAD := Lib.hid (hbad (by omega)).2
                  obtain ⟨rfl, hd2⟩ := hd
                  clear hg hs0 hrf hbad HRF HH HF hne hnn hoc
                  cases q38 with
                  | false => simp at hd2
                  | true =>
                    cases q11 with
                    | false =>
                      clear hd2
                      go_wp2_with (first
                        | (go_at_call 36; go_must (refine rgetvar_any _ b' X Y 0 HGX.out _ (HBB.out.below hb) _ ?_)) | (go_at_call 17; go_must (refine rmay_at X wh true HM.out _ _ ?_); intro w1 hy1; have hx1 := below_then hb hy1 hb.size) | (go_at_call 37; go_must (refine HVH.out _ _ (HBSY.out.below hx1) ?_); intro dv w2 hown2 hb2; obtain ⟨dva, dvc, rfl⟩ := owns_shape hown2; have hy2 := below_tr hy1 hb2; have nb := heap_alloc_new w2 (Obj.cells #[Value.int .i64 p'.id, Value.int .i64 p'.num, Value.string (str p'.text), Value.string (str p'.pair), Value.slice dva p'.data.length dvc] 43); have hb3 := (Below.refl w2.heap.size w2).alloc (Nat.le_refl _) (Obj.cells #[Value.int .i64 p'.id, Value.int .i64 p'.num, Value.string (str p'.text), Value.string (str p'.pair), Value.slice dva p'.data.length dvc] 43); have hy3 := below_tr hy2 hb3; have HO3 := Lib.hid (owns_mono (base' := wo.heap.size) (owns_below hown2 hb3) hy1.size); have NB := Lib.hid nb; clear hown2 hb2 hb3 nb) | (go_at_call 29; have nb := NB; go_must (refine rfind_any X _ l' fp true HFP.out HFQ.out _ ((HPS.out.ps HPB.out).below hy3) _ ?_); intro fa fc w4 hpc4 hb4; have hb4' := hb4.alloc hb4.size (Obj.cells #[.int .i64 fp.id, .int .i64 fp.num, .string (str fp.text), .string (str fp.pair), .slice fa fp.data.length fc] 43); have hy5 := below_tr hy3 hb4'; have hx5 := below_then hb hy5 hb.size; have n5 := row_later2 nb.out hb4'; have ee0 := cell_of_row _ w2.heap.size 0 _ _ _ n5; have ee1 := cell_of_row _ w2.heap.size 1 _ _ _ n5; have ee2 := cell_of_row _ w2.heap.size 2 _ _ _ n5; have ee3 := cell_of_row _ w2.heap.size 3 _ _ _ n5; have ee4 := cell_of_row _ w2.heap.size 4 _ _ _ n5; have ef0 := frozen_block n5 0; have ef1 := frozen_block n5 1; have ef2 := frozen_block n5 2; have ef3 := frozen_block n5 3; have ef4 := frozen_block n5 4; have HO5 := Lib.hid (owns_below HO3.out hb4'); clear hpc4 hb4 hb4' n5 nb NB HO3; skip) | (go_at_call 38; go_must (refine rnum_any X p'.num _ HNN.out _ _ ?_)))
                      try go_ret3
                      exact HBAD.out _ hx5
                    | true =>
                      cases q3 with
                      | true => simp at hd2
                      | false =>
                        clear hd2
                        go_wp2_with (first
                          | (go_at_call 36; go_must (refine rgetvar_any _ b' X Y 0 HGX.out _ (HBB.out.below hb) _ ?_)) | (go_at_call 17; go_must (refine rmay_at X wh true HM.out _ _ ?_); intro w1 hy1; have hx1 := below_then hb hy1 hb.size) | (go_at_call 37; go_must (refine HVH.out _ _ (HBSY.out.below hx1) ?_); intro dv w2 hown2 hb2; obtain ⟨dva, dvc, rfl⟩ := owns_shape hown2; have hy2 := below_tr hy1 hb2; have nb := heap_alloc_new w2 (Obj.cells #[Value.int .i64 p'.id, Value.int .i64 p'.num, Value.string (str p'.text), Value.string (str p'.pair), Value.slice dva p'.data.length dvc] 43); have hb3 := (Below.refl w2.heap.size w2).alloc (Nat.le_refl _) (Obj.cells #[Value.int .i64 p'.id, Value.int .i64 p'.num, Value.string (str p'.text), Value.string (str p'.pair), Value.slice dva p'.data.length dvc] 43); have hy3 := below_tr hy2 hb3; have HO3 := Lib.hid (owns_mono (base' := wo.heap.size) (owns_below hown2 hb3) hy1.size); have NB := Lib.hid nb; clear hown2 hb2 hb3 nb) | (go_at_call 29; have nb := NB; go_must (refine rfind_any X _ l' fp true HFP.out HFQ.out _ ((HPS.out.ps HPB.out).below hy3) _ ?_); intro fa fc w4 hpc4 hb4; have hb4' := hb4.alloc hb4.size (Obj.cells #[.int .i64 fp.id, .int .i64 fp.num, .string (str fp.text), .string (str fp.pair), .slice fa fp.data.length fc] 43); have hy5 := below_tr hy3 hb4'; have hx5 := below_then hb hy5 hb.size; have n5 := row_later2 nb.out hb4'; have ee0 := cell_of_row _ w2.heap.size 0 _ _ _ n5; have ee1 := cell_of_row _ w2.heap.size 1 _ _ _ n5; have ee2 := cell_of_row _ w2.heap.size 2 _ _ _ n5; have ee3 := cell_of_row _ w2.heap.size 3 _ _ _ n5; have ee4 := cell_of_row _ w2.heap.size 4 _ _ _ n5; have ef0 := frozen_block n5 0; have ef1 := frozen_block n5 1; have ef2 := frozen_block n5 2; have ef3 := frozen_block n5 3; have ef4 := frozen_block n5 4; have HO5 := Lib.hid (owns_below HO3.out hb4'); clear hpc4 hb4 hb4' n5 nb NB HO3; skip) | (go_at_call 38; go_must (refine rnum_any X p'.num _ HNN.out _ _ ?_)))
                        try go_ret3
                        exact HBAD.out _ hx5
                · rw [if_neg hd, hnn] at hs
                  by_cases hnz : nn ≠ 0
                  · rw [if_pos hnz] at hs
                    simp only [Prod.mk.injEq] at hs
                    obtain ⟨rfl, rfl, rfl⟩ := hs
                    have HBAD := Lib.hid (hbad hnz).2
                    have hnzi : ¬ (nn : Int) = 0 := by omega
                    have hnzb : ((nn : Int) != 0) = true := by simp; omega
                    clear hg hs0 hrf hbad HRF HH HF hne hnn hoc
                    cases fq with
                    | false =>
                      clear hd h38 h11 h3
                      go_wp2_with (first
                        | (go_at_call 36; go_must (refine rgetvar_any _ b' X Y 0 HGX.out _ (HBB.out.below hb) _ ?_)) | (go_at_call 17; go_must (refine rmay_at X wh true HM.out _ _ ?_); intro w1 hy1; have hx1 := below_then hb hy1 hb.size) | (go_at_call 37; go_must (refine HVH.out _ _ (HBSY.out.below hx1) ?_); intro dv w2 hown2 hb2; obtain ⟨dva, dvc, rfl⟩ := owns_shape hown2; have hy2 := below_tr hy1 hb2; have nb := heap_alloc_new w2 (Obj.cells #[Value.int .i64 p'.id, Value.int .i64 p'.num, Value.string (str p'.text), Value.string (str p'.pair), Value.slice dva p'.data.length dvc] 43); have hb3 := (Below.refl w2.heap.size w2).alloc (Nat.le_refl _) (Obj.cells #[Value.int .i64 p'.id, Value.int .i64 p'.num, Value.string (str p'.text), Value.string (str p'.pair), Value.slice dva p'.data.length dvc] 43); have hy3 := below_tr hy2 hb3; have HO3 := Lib.hid (owns_mono (base' := wo.heap.size) (owns_below hown2 hb3) hy1.size); have NB := Lib.hid nb; clear hown2 hb2 hb3 nb) | (go_at_call 29; have nb := NB; go_must (refine rfind_any X _ l' fp false HFP.out HFQ.out _ ((HPS.out.ps HPB.out).below hy3) _ ?_); intro fa fc w4 hpc4 hb4; have hb4' := hb4.alloc hb4.size (Obj.cells #[.int .i64 fp.id, .int .i64 fp.num, .string (str fp.text), .string (str fp.pair), .slice fa fp.data.length fc] 43); have hy5 := below_tr hy3 hb4'; have hx5 := below_then hb hy5 hb.size; have n5 := row_later2 nb.out hb4'; have ee0 := cell_of_row _ w2.heap.size 0 _ _ _ n5; have ee1 := cell_of_row _ w2.heap.size 1 _ _ _ n5; have ee2 := cell_of_row _ w2.heap.size 2 _ _ _ n5; have ee3 := cell_of_row _ w2.heap.size 3 _ _ _ n5; have ee4 := cell_of_row _ w2.heap.size 4 _ _ _ n5; have ef0 := frozen_block n5 0; have ef1 := frozen_block n5 1; have ef2 := frozen_block n5 2; have ef3 := frozen_block n5 3; have ef4 := frozen_block n5 4; have HO5 := Lib.hid (owns_below HO3.out hb4'); clear hpc4 hb4 hb4' n5 nb NB HO3; skip) | (go_at_call 38; go_must (refine rnum_any X p'.num _ HNN.out _ _ ?_)))
                      try go_ret3
                      exact HBAD.out _ hx5
                    | true =>
                      cases q38 with
                      | false =>
                        clear hd h11 h3
                        go_wp2_with (first
                          | (go_at_call 36; go_must (refine rgetvar_any _ b' X Y 0 HGX.out _ (HBB.out.below hb) _ ?_)) | (go_at_call 17; go_must (refine rmay_at X wh true HM.out _ _ ?_); intro w1 hy1; have hx1 := below_then hb hy1 hb.size) | (go_at_call 37; go_must (refine HVH.out _ _ (HBSY.out.below hx1) ?_); intro dv w2 hown2 hb2; obtain ⟨dva, dvc, rfl⟩ := owns_shape hown2; have hy2 := below_tr hy1 hb2; have nb := heap_alloc_new w2 (Obj.cells #[Value.int .i64 p'.id, Value.int .i64 p'.num, Value.string (str p'.text), Value.string (str p'.pair), Value.slice dva p'.data.length dvc] 43); have hb3 := (Below.refl w2.heap.size w2).alloc (Nat.le_refl _) (Obj.cells #[Value.int .i64 p'.id, Value.int .i64 p'.num, Value.string (str p'.text), Value.string (str p'.pair), Value.slice dva p'.data.length dvc] 43); have hy3 := below_tr hy2 hb3; have HO3 := Lib.hid (owns_mono (base' := wo.heap.size) (owns_below hown2 hb3) hy1.size); have NB := Lib.hid nb; clear hown2 hb2 hb3 nb) | (go_at_call 29; have nb := NB; go_must (refine rfind_any X _ l' fp true HFP.out HFQ.out _ ((HPS.out.ps HPB.out).below hy3) _ ?_); intro fa fc w4 hpc4 hb4; have hb4' := hb4.alloc hb4.size (Obj.cells #[.int .i64 fp.id, .int .i64 fp.num, .string (str fp.text), .string (str fp.pair), .slice fa fp.data.length fc] 43); have hy5 := below_tr hy3 hb4'; have hx5 := below_then hb hy5 hb.size; have n5 := row_later2 nb.out hb4'; have ee0 := cell_of_row _ w2.heap.size 0 _ _ _ n5; have ee1 := cell_of_row _ w2.heap.size 1 _ _ _ n5; have ee2 := cell_of_row _ w2.heap.size 2 _ _ _ n5; have ee3 := cell_of_row _ w2.heap.size 3 _ _ _ n5; have ee4 := cell_of_row _ w2.heap.size 4 _ _ _ n5; have ef0 := frozen_block n5 0; have ef1 := frozen_block n5 1; have ef2 := frozen_block n5 2; have ef3 := frozen_block n5 3; have ef4 := frozen_block n5 4; have HO5 := Lib.hid (owns_below HO3.out hb4'); clear hpc4 hb4 hb4' n5 nb NB HO3; skip) | (go_at_call 38; go_must (refine rnum_any X p'.num _ HNN.out _ _ ?_)))
                        try go_ret3
                        exact HBAD.out _ hx5
                      | true =>
                        cases q11 with
                        | false => simp at hd
                        | true =>
                          cases q3 with
                          | false => simp at hd
                          | true =>
                            clear hd
                            go_wp2_with (first
                              | (go_at_call 36; go_must (refine rgetvar_any _ b' X Y 0 HGX.out _ (HBB.out.below hb) _ ?_)) | (go_at_call 17; go_must (refine rmay_at X wh true HM.out _ _ ?_); intro w1 hy1; have hx1 := below_then hb hy1 hb.size) | (go_at_call 37; go_must (refine HVH.out _ _ (HBSY.out.below hx1) ?_); intro dv w2 hown2 hb2; obtain ⟨dva, dvc, rfl⟩ := owns_shape hown2; have hy2 := below_tr hy1 hb2; have nb := heap_alloc_new w2 (Obj.cells #[Value.int .i64 p'.id, Value.int .i64 p'.num, Value.string (str p'.text), Value.string (str p'.pair), Value.slice dva p'.data.length dvc] 43); have hb3 := (Below.refl w2.heap.size w2).alloc (Nat.le_refl _) (Obj.cells #[Value.int .i64 p'.id, Value.int .i64 p'.num, Value.string (str p'.text), Value.string (str p'.pair), Value.slice dva p'.data.length dvc] 43); have hy3 := below_tr hy2 hb3; have HO3 := Lib.hid (owns_mono (base' := wo.heap.size) (owns_below hown2 hb3) hy1.size); have NB := Lib.hid nb; clear hown2 hb2 hb3 nb) | (go_at_call 29; have nb := NB; go_must (refine rfind_any X _ l' fp true HFP.out HFQ.out _ ((HPS.out.ps HPB.out).below hy3) _ ?_); intro fa fc w4 hpc4 hb4; have hb4' := hb4.alloc hb4.size (Obj.cells #[.int .i64 fp.id, .int .i64 fp.num, .string (str fp.text), .string (str fp.pair), .slice fa fp.data.length fc] 43); have hy5 := below_tr hy3 hb4'; have hx5 := below_then hb hy5 hb.size; have n5 := row_later2 nb.out hb4'; have ee0 := cell_of_row _ w2.heap.size 0 _ _ _ n5; have ee1 := cell_of_row _ w2.heap.size 1 _ _ _ n5; have ee2 := cell_of_row _ w2.heap.size 2 _ _ _ n5; have ee3 := cell_of_row _ w2.heap.size 3 _ _ _ n5; have ee4 := cell_of_row _ w2.heap.size 4 _ _ _ n5; have ef0 := frozen_block n5 0; have ef1 := frozen_block n5 1; have ef2 := frozen_block n5 2; have ef3 := frozen_block n5 3; have ef4 := frozen_block n5 4; have HO5 := Lib.hid (owns_below HO3.out hb4'); clear hpc4 hb4 hb4' n5 nb NB HO3; skip) | (go_at_call 38; go_must (refine rnum_any X p'.num _ HNN.out _ _ ?_)))
                            try go_ret3
                            exact HBAD.out _ hx5
                  · rw [if_neg hnz] at hs
                    simp only [Prod.mk.injEq] at hs
                    have hn0 : nn = 0 := by omega
                    subst hn0
                    obtain ⟨rfl, rfl, rfl⟩ := hs
                    rw [if_neg (by simp), show ((Y : Int) + (um : Int)).toNat = Y + um by omega] at hrf
                    have HRF3 := Lib.hid hrf
                    obtain ⟨u9, hu9, hu10, _, _, _, _, _, hi0, hi1, _, _⟩ := stepL_ok hs0
                    have hu1 : 1 ≤ Y + um := by omega
                    have HPBP := Lib.hid (HGP.out.pb hi0 hi1)
                    obtain ⟨ds, hds, hrow, heach, hap⟩ := HPS.out
                    have HDS := Lib.hid hds
                    have HEACH := Lib.hid heach
                    have HROW := Lib.hid hrow
                    have HAP := Lib.hid hap
                    clear heach hrow hap hg hs0 hrf hbad HRF hne hnn hoc hu9 hu10 hi0 hi1 hnz
                    cases fq with
                    | false =>
                      clear hd h38 h11 h3
                      go_wp2_with (first
                        | (go_at_call 36; go_must (refine rgetvar_any _ b' X Y 0 HGX.out _ (HBB.out.below hb) _ ?_)) | (go_at_call 17; go_must (refine rmay_at X wh true HM.out _ _ ?_); intro w1 hy1; have hx1 := below_then hb hy1 hb.size) | (go_at_call 37; go_must (refine HVH.out _ _ (HBSY.out.below hx1) ?_); intro dv w2 hown2 hb2; obtain ⟨dva, dvc, rfl⟩ := owns_shape hown2; have hy2 := below_tr hy1 hb2; have nb := heap_alloc_new w2 (Obj.cells #[Value.int .i64 p'.id, Value.int .i64 p'.num, Value.string (str p'.text), Value.string (str p'.pair), Value.slice dva p'.data.length dvc] 43); have hb3 := (Below.refl w2.heap.size w2).alloc (Nat.le_refl _) (Obj.cells #[Value.int .i64 p'.id, Value.int .i64 p'.num, Value.string (str p'.text), Value.string (str p'.pair), Value.slice dva p'.data.length dvc] 43); have hy3 := below_tr hy2 hb3; have HO3 := Lib.hid (owns_mono (base' := wo.heap.size) (owns_below hown2 hb3) hy1.size); have NB := Lib.hid nb; clear hown2 hb2 hb3 nb) | (go_at_call 29; have nb := NB; go_must (refine rfind_any X _ l' fp false HFP.out HFQ.out _ ((HPS.out.ps HPB.out).below hy3) _ ?_); intro fa fc w4 hpc4 hb4; have hb4' := hb4.alloc hb4.size (Obj.cells #[.int .i64 fp.id, .int .i64 fp.num, .string (str fp.text), .string (str fp.pair), .slice fa fp.data.length fc] 43); have hy5 := below_tr hy3 hb4'; have hx5 := below_then hb hy5 hb.size; have n5 := row_later2 nb.out hb4'; have ee0 := cell_of_row _ w2.heap.size 0 _ _ _ n5; have ee1 := cell_of_row _ w2.heap.size 1 _ _ _ n5; have ee2 := cell_of_row _ w2.heap.size 2 _ _ _ n5; have ee3 := cell_of_row _ w2.heap.size 3 _ _ _ n5; have ee4 := cell_of_row _ w2.heap.size 4 _ _ _ n5; have ef0 := frozen_block n5 0; have ef1 := frozen_block n5 1; have ef2 := frozen_block n5 2; have ef3 := frozen_block n5 3; have ef4 := frozen_block n5 4; have HO5 := Lib.hid (owns_below HO3.out hb4'); clear hpc4 hb4 hb4' n5 nb NB HO3; (have hrow5 := owns_below HROW.out hy5; have hrd := rd_lit (w4.alloc (Obj.cells #[.int .i64 fp.id, .int .i64 fp.num, .string (str fp.text), .string (str fp.pair), .slice fa fp.data.length fc] 43)) #[Value.int .i64 p'.id, Value.int .i64 p'.num, Value.string (str p'.text), Value.string (str p'.pair), Value.slice dva p'.data.length dvc] 43 5 1 rfl; rw [show (w4.alloc (Obj.cells #[.int .i64 fp.id, .int .i64 fp.num, .string (str fp.text), .string (str fp.pair), .slice fa fp.data.length fc] 43)).heap.size = w4.heap.size + 1 by simp] at hrd)) | (go_at_call 38; go_must (refine rnum_any X p'.num _ HNN.out _ _ ?_))
                        | (at_builtin; go_must (refine wpList_app (by rfl) (.tmp 98) (.tmp 100) 25 (by rfl) w.heap.size 43 (.agg #[Value.int .i64 0, Value.int .i64 0, Value.string ⟨#[]⟩, Value.string ⟨#[]⟩, Value.slice none 0 0]) 5 72 Tryd.underlying25 Tryd.info43 rfl (by decide) _ _ _ _ rfl (World.ownsRow.alloc hrow5 _) _ _ _ _ rfl hrd (pc_oneCell _ _ _) (by simp) (by unfold maxLen; omega) (by omega) (Nat.le_trans hx5.size (by simp)) ?_)))
                      intro ad6 c6 w6 hown6 hg6
                      have hk6 : Keeps 5 (w4.alloc (Obj.cells #[.int .i64 fp.id, .int .i64 fp.num, .string (str fp.text), .string (str fp.pair), .slice fa fp.data.length fc] 43)) w6 := (Keeps.below ((Below.refl _ _).alloc (Nat.le_refl _) _)).trans (Keeps.grown5 (hrow5.alloc _) hg6 (by decide))
                      have hbN : Below w.heap.size w w6 := below_app (hx5.alloc hx5.size _) hg6 (Nat.le_trans hx5.size (by simp)) (hrow5.alloc _)
                      have hnew : ∀ v ∈ ds, Unlike v (.slice dva p'.data.length dvc) := by
                        intro v hv k hk hc
                        obtain ⟨i, hi, rfl⟩ := List.getElem_of_mem hv
                        have h1 := ((HEACH.out i (by rw [← HDS.out]; exact hi)).lt k hk).2
                        have h2 := (HO5.out.lt k hc).1
                        omega
                      have hPS6 : PsO w6 w.heap.size (.slice ad6 (l'.length + 1) c6) (l' ++ [p']) := PsO.push HDS.out (fun i hi => owns_below (HEACH.out i hi) hy5) hk6 hown6 (owns_mono HO5.out hb.size) HAP.out hnew
                      have HPS6 := Lib.hid hPS6
                      have HPB6 : Hid (∀ q ∈ l' ++ [p'], PB q) := Lib.hid fun q hq => by
                        rcases List.mem_append.1 hq with h | h
                        · exact HPB.out q h
                        · obtain rfl := List.mem_singleton.1 h
                          exact HPBP.out
                      clear hPS6 hnew hk6 hown6 hg6 hrow5 hrd hx5 hy5
                      go_wp2
                      go_roundg (b'.drop (Y + um)).length
                      case measure => rw [List.length_drop]; omega
                      case rel => exact ⟨f', l' ++ [p'], b'.drop (Y + um), Le, rc - (Y + um), by rw [List.length_drop]; omega, rfl, by rw [List.length_drop], Lib.hid (by have := HLN.out; rw [List.length_append, List.length_drop]; simp; omega), HPS6, HPB6, by rw [List.length_drop]; exact HBSE, hbN, HRF3⟩
                    | true =>
                      cases q38 with
                      | false =>
                        clear hd h11 h3
                        go_wp2_with (first
                          | (go_at_call 36; go_must (refine rgetvar_any _ b' X Y 0 HGX.out _ (HBB.out.below hb) _ ?_)) | (go_at_call 17; go_must (refine rmay_at X wh true HM.out _ _ ?_); intro w1 hy1; have hx1 := below_then hb hy1 hb.size) | (go_at_call 37; go_must (refine HVH.out _ _ (HBSY.out.below hx1) ?_); intro dv w2 hown2 hb2; obtain ⟨dva, dvc, rfl⟩ := owns_shape hown2; have hy2 := below_tr hy1 hb2; have nb := heap_alloc_new w2 (Obj.cells #[Value.int .i64 p'.id, Value.int .i64 p'.num, Value.string (str p'.text), Value.string (str p'.pair), Value.slice dva p'.data.length dvc] 43); have hb3 := (Below.refl w2.heap.size w2).alloc (Nat.le_refl _) (Obj.cells #[Value.int .i64 p'.id, Value.int .i64 p'.num, Value.string (str p'.text), Value.string (str p'.pair), Value.slice dva p'.data.length dvc] 43); have hy3 := below_tr hy2 hb3; have HO3 := Lib.hid (owns_mono (base' := wo.heap.size) (owns_below hown2 hb3) hy1.size); have NB := Lib.hid nb; clear hown2 hb2 hb3 nb) | (go_at_call 29; have nb := NB; go_must (refine rfind_any X _ l' fp true HFP.out HFQ.out _ ((HPS.out.ps HPB.out).below hy3) _ ?_); intro fa fc w4 hpc4 hb4; have hb4' := hb4.alloc hb4.size (Obj.cells #[.int .i64 fp.id, .int .i64 fp.num, .string (str fp.text), .string (str fp.pair), .slice fa fp.data.length fc] 43); have hy5 := below_tr hy3 hb4'; have hx5 := below_then hb hy5 hb.size; have n5 := row_later2 nb.out hb4'; have ee0 := cell_of_row _ w2.heap.size 0 _ _ _ n5; have ee1 := cell_of_row _ w2.heap.size 1 _ _ _ n5; have ee2 := cell_of_row _ w2.heap.size 2 _ _ _ n5; have ee3 := cell_of_row _ w2.heap.size 3 _ _ _ n5; have ee4 := cell_of_row _ w2.heap.size 4 _ _ _ n5; have ef0 := frozen_block n5 0; have ef1 := frozen_block n5 1; have ef2 := frozen_block n5 2; have ef3 := frozen_block n5 3; have ef4 := frozen_block n5 4; have HO5 := Lib.hid (owns_below HO3.out hb4'); clear hpc4 hb4 hb4' n5 nb NB HO3; (have hrow5 := owns_below HROW.out hy5; have hrd := rd_lit (w4.alloc (Obj.cells #[.int .i64 fp.id, .int .i64 fp.num, .string (str fp.text), .string (str fp.pair), .slice fa fp.data.length fc] 43)) #[Value.int .i64 p'.id, Value.int .i64 p'.num, Value.string (str p'.text), Value.string (str p'.pair), Value.slice dva p'.data.length dvc] 43 5 1 rfl; rw [show (w4.alloc (Obj.cells #[.int .i64 fp.id, .int .i64 fp.num, .string (str fp.text), .string (str fp.pair), .slice fa fp.data.length fc] 43)).heap.size = w4.heap.size + 1 by simp] at hrd)) | (go_at_call 38; go_must (refine rnum_any X p'.num _ HNN.out _ _ ?_))
                          | (at_builtin; go_must (refine wpList_app (by rfl) (.tmp 98) (.tmp 100) 25 (by rfl) w.heap.size 43 (.agg #[Value.int .i64 0, Value.int .i64 0, Value.string ⟨#[]⟩, Value.string ⟨#[]⟩, Value.slice none 0 0]) 5 72 Tryd.underlying25 Tryd.info43 rfl (by decide) _ _ _ _ rfl (World.ownsRow.alloc hrow5 _) _ _ _ _ rfl hrd (pc_oneCell _ _ _) (by simp) (by unfold maxLen; omega) (by omega) (Nat.le_trans hx5.size (by simp)) ?_)))
                        intro ad6 c6 w6 hown6 hg6
                        have hk6 : Keeps 5 (w4.alloc (Obj.cells #[.int .i64 fp.id, .int .i64 fp.num, .string (str fp.text), .string (str fp.pair), .slice fa fp.data.length fc] 43)) w6 := (Keeps.below ((Below.refl _ _).alloc (Nat.le_refl _) _)).trans (Keeps.grown5 (hrow5.alloc _) hg6 (by decide))
                        have hbN : Below w.heap.size w w6 := below_app (hx5.alloc hx5.size _) hg6 (Nat.le_trans hx5.size (by simp)) (hrow5.alloc _)
                        have hnew : ∀ v ∈ ds, Unlike v (.slice dva p'.data.length dvc) := by
                          intro v hv k hk hc
                          obtain ⟨i, hi, rfl⟩ := List.getElem_of_mem hv
                          have h1 := ((HEACH.out i (by rw [← HDS.out]; exact hi)).lt k hk).2
                          have h2 := (HO5.out.lt k hc).1
                          omega
                        have hPS6 : PsO w6 w.heap.size (.slice ad6 (l'.length + 1) c6) (l' ++ [p']) := PsO.push HDS.out (fun i hi => owns_below (HEACH.out i hi) hy5) hk6 hown6 (owns_mono HO5.out hb.size) HAP.out hnew
                        have HPS6 := Lib.hid hPS6
                        have HPB6 : Hid (∀ q ∈ l' ++ [p'], PB q) := Lib.hid fun q hq => by
                          rcases List.mem_append.1 hq with h | h
                          · exact HPB.out q h
                          · obtain rfl := List.mem_singleton.1 h
                            exact HPBP.out
                        clear hPS6 hnew hk6 hown6 hg6 hrow5 hrd hx5 hy5
                        go_wp2
                        go_roundg (b'.drop (Y + um)).length
                        case measure => rw [List.length_drop]; omega
                        case rel => exact ⟨f', l' ++ [p'], b'.drop (Y + um), Le, rc - (Y + um), by rw [List.length_drop]; omega, rfl, by rw [List.length_drop], Lib.hid (by have := HLN.out; rw [List.length_append, List.length_drop]; simp; omega), HPS6, HPB6, by rw [List.length_drop]; exact HBSE, hbN, HRF3⟩
                      | true =>
                        cases q11 with
                        | false => simp at hd
                        | true =>
                          cases q3 with
                          | false => simp at hd
                          | true =>
                            clear hd
                            go_wp2_with (first
                              | (go_at_call 36; go_must (refine rgetvar_any _ b' X Y 0 HGX.out _ (HBB.out.below hb) _ ?_)) | (go_at_call 17; go_must (refine rmay_at X wh true HM.out _ _ ?_); intro w1 hy1; have hx1 := below_then hb hy1 hb.size) | (go_at_call 37; go_must (refine HVH.out _ _ (HBSY.out.below hx1) ?_); intro dv w2 hown2 hb2; obtain ⟨dva, dvc, rfl⟩ := owns_shape hown2; have hy2 := below_tr hy1 hb2; have nb := heap_alloc_new w2 (Obj.cells #[Value.int .i64 p'.id, Value.int .i64 p'.num, Value.string (str p'.text), Value.string (str p'.pair), Value.slice dva p'.data.length dvc] 43); have hb3 := (Below.refl w2.heap.size w2).alloc (Nat.le_refl _) (Obj.cells #[Value.int .i64 p'.id, Value.int .i64 p'.num, Value.string (str p'.text), Value.string (str p'.pair), Value.slice dva p'.data.length dvc] 43); have hy3 := below_tr hy2 hb3; have HO3 := Lib.hid (owns_mono (base' := wo.heap.size) (owns_below hown2 hb3) hy1.size); have NB := Lib.hid nb; clear hown2 hb2 hb3 nb) | (go_at_call 29; have nb := NB; go_must (refine rfind_any X _ l' fp true HFP.out HFQ.out _ ((HPS.out.ps HPB.out).below hy3) _ ?_); intro fa fc w4 hpc4 hb4; have hb4' := hb4.alloc hb4.size (Obj.cells #[.int .i64 fp.id, .int .i64 fp.num, .string (str fp.text), .string (str fp.pair), .slice fa fp.data.length fc] 43); have hy5 := below_tr hy3 hb4'; have hx5 := below_then hb hy5 hb.size; have n5 := row_later2 nb.out hb4'; have ee0 := cell_of_row _ w2.heap.size 0 _ _ _ n5; have ee1 := cell_of_row _ w2.heap.size 1 _ _ _ n5; have ee2 := cell_of_row _ w2.heap.size 2 _ _ _ n5; have ee3 := cell_of_row _ w2.heap.size 3 _ _ _ n5; have ee4 := cell_of_row _ w2.heap.size 4 _ _ _ n5; have ef0 := frozen_block n5 0; have ef1 := frozen_block n5 1; have ef2 := frozen_block n5 2; have ef3 := frozen_block n5 3; have ef4 := frozen_block n5 4; have HO5 := Lib.hid (owns_below HO3.out hb4'); clear hpc4 hb4 hb4' n5 nb NB HO3; (have hrow5 := owns_below HROW.out hy5; have hrd := rd_lit (w4.alloc (Obj.cells #[.int .i64 fp.id, .int .i64 fp.num, .string (str fp.text), .string (str fp.pair), .slice fa fp.data.length fc] 43)) #[Value.int .i64 p'.id, Value.int .i64 p'.num, Value.string (str p'.text), Value.string (str p'.pair), Value.slice dva p'.data.length dvc] 43 5 1 rfl; rw [show (w4.alloc (Obj.cells #[.int .i64 fp.id, .int .i64 fp.num, .string (str fp.text), .string (str fp.pair), .slice fa fp.data.length fc] 43)).heap.size = w4.heap.size + 1 by simp] at hrd)) | (go_at_call 38; go_must (refine rnum_any X p'.num _ HNN.out _ _ ?_))
                              | (at_builtin; go_must (refine wpList_app (by rfl) (.tmp 98) (.tmp 100) 25 (by rfl) w.heap.size 43 (.agg #[Value.int .i64 0, Value.int .i64 0, Value.string ⟨#[]⟩, Value.string ⟨#[]⟩, Value.slice none 0 0]) 5 72 Tryd.underlying25 Tryd.info43 rfl (by decide) _ _ _ _ rfl (World.ownsRow.alloc hrow5 _) _ _ _ _ rfl hrd (pc_oneCell _ _ _) (by simp) (by unfold maxLen; omega) (by omega) (Nat.le_trans hx5.size (by simp)) ?_)))
                            intro ad6 c6 w6 hown6 hg6
                            have hk6 : Keeps 5 (w4.alloc (Obj.cells #[.int .i64 fp.id, .int .i64 fp.num, .string (str fp.text), .string (str fp.pair), .slice fa fp.data.length fc] 43)) w6 := (Keeps.below ((Below.refl _ _).alloc (Nat.le_refl _) _)).trans (Keeps.grown5 (hrow5.alloc _) hg6 (by decide))
                            have hbN : Below w.heap.size w w6 := below_app (hx5.alloc hx5.size _) hg6 (Nat.le_trans hx5.size (by simp)) (hrow5.alloc _)
                            have hnew : ∀ v ∈ ds, Unlike v (.slice dva p'.data.length dvc) := by
                              intro v hv k hk hc
                              obtain ⟨i, hi, rfl⟩ := List.getElem_of_mem hv
                              have h1 := ((HEACH.out i (by rw [← HDS.out]; exact hi)).lt k hk).2
                              have h2 := (HO5.out.lt k hc).1
                              omega
                            have hPS6 : PsO w6 w.heap.size (.slice ad6 (l'.length + 1) c6) (l' ++ [p']) := PsO.push HDS.out (fun i hi => owns_below (HEACH.out i hi) hy5) hk6 hown6 (owns_mono HO5.out hb.size) HAP.out hnew
                            have HPS6 := Lib.hid hPS6
                            have HPB6 : Hid (∀ q ∈ l' ++ [p'], PB q) := Lib.hid fun q hq => by
                              rcases List.mem_append.1 hq with h | h
                              · exact HPB.out q h
                              · obtain rfl := List.mem_singleton.1 h
                                exact HPBP.out
                            clear hPS6 hnew hk6 hown6 hg6 hrow5 hrd hx5 hy5
                            go_wp2
                            go_roundg (b'.drop (Y + um)).length
                            case measure => rw [List.length_drop]; omega
                            case rel => exact ⟨f', l' ++ [p'], b'.drop (Y + um), Le, rc - (Y + um), by rw [List.length_drop]; omega, rfl, by rw [List.length_drop], Lib.hid (by have := HLN.out; rw [List.length_append, List.length_drop]; simp; omega), HPS6, HPB6, by rw [List.length_drop]; exact HBSE, hbN, HRF3⟩
        · have hb0 : b' = [] := List.eq_nil_of_length_eq_zero (by omega)
          subst hb0
          have hrf := HRF.out
          rw [readF_nil] at hrf
          simp only [Prod.mk.injEq] at hrf
          obtain ⟨rfl, rfl⟩ := hrf
          have hh := HH.out
          rw [if_neg (by simp)] at hh
          simp only [Prod.mk.injEq] at hh
          obtain ⟨rfl, rfl, rfl⟩ := hh
          clear HH HRF HF
          go_wp2
          try go_ret3
          exact HR.out _ _ _ HPS.out hb
end Go.Proofs.YtpodhidabhnnnaaDoor
