/- prop.one, walked. -/
import Derived.Test.YtgimbocoamnkjaaGreatDoorM11
namespace Go.Proofs.YtgimbocoamnkjaaGreatDoor
open Go.RowKit

theorem value_some (id : Int) (hk : kindL id ≠ 0) (v : Value) (b : List UInt8) (p : Pr) (u : Int) (hr : valueL id b = some (p, u)) (w : World) (hv : Bs w v b) (hT : Tabs w) (R : Ending → World → Prop)
    (hR : ∀ d w', w'.ownsRow w.heap.size 5 1 d p.data.length (bv p.data) → Below w.heap.size w w' → R (.returned (.tuple #[.agg #[.int .i64 p.id, .int .i64 p.num, .string (str p.text), .string (str p.pair), d], .int .i64 u, .bool true])) w') :
    Calls Tryz.prog 212 #[.int .i64 id, v] w R := by
  refine value_any id hk v b _ hr w hv hT R (fun p' u' d w' h h1 h2 => ?_) (fun n s t a m c u q w' h => by cases h)
  simp only [Option.some.injEq, Prod.mk.injEq] at h
  obtain ⟨rfl, rfl⟩ := h
  exact hR d w' h1 h2
theorem value_none (id : Int) (hk : kindL id ≠ 0) (v : Value) (b : List UInt8) (hr : valueL id b = none) (w : World) (hv : Bs w v b) (hT : Tabs w) (R : Ending → World → Prop)
    (hF : ∀ n s t a m c u w', Below w.heap.size w w' → R (.returned (.tuple #[.agg #[.int .i64 id, .int .i64 n, .string s, .string t, .slice a m c], .int .i64 u, .bool false])) w') :
    Calls Tryz.prog 212 #[.int .i64 id, v] w R := by
  refine value_any id hk v b _ hr w hv hT R (fun p' u' d w' h => by cases h) (fun n s t a m c u q w' h hq h1 => ?_)
  subst hq
  exact hF n s t a m c u w' h1

set_option maxRecDepth 100000 in
set_option maxHeartbeats 2000000 in
theorem one_any (wh : Int) (v u : Value) (b : List UInt8) (l : List Pr) (c : Nat) (p : Pr) (m : Int) (hs : stepL wh l b = (c, p, m)) (w : World) (hv : Bs w v b) (hu : Ps w u l) (hT : Tabs w) (R : Ending → World → Prop)
    (hOk : c = 0 → ∀ d w', w'.ownsRow w.heap.size 5 1 d p.data.length (bv p.data) → Below w.heap.size w w' → R (.returned (.tuple #[.agg #[.int .i64 p.id, .int .i64 p.num, .string (str p.text), .string (str p.pair), d], .int .i64 m, .int .i64 0])) w')
    (hBad : c ≠ 0 → ∀ x y s t a k q w', Below w.heap.size w w' → R (.returned (.tuple #[.agg #[.int .i64 x, .int .i64 y, .string s, .string t, .slice a k q], .int .i64 0, .int .i64 c])) w') :
    Calls Tryz.prog 191 #[.int .i64 wh, v, u] w R := by
  have HV := Lib.hid hv
  have HU := Lib.hid hu
  have HT := Lib.hid hT
  obtain ⟨va, vc, rfl, _, hvl, hvm, _⟩ := _root_.id hv
  obtain ⟨ua, uc, rfl, _⟩ := _root_.id hu
  obtain ⟨⟨x, y, z⟩, hg⟩ : ∃ g, gvL b = g := ⟨_, rfl⟩
  have hs0 := hs
  unfold stepL at hs
  rw [hg] at hs
  simp only at hs
  have HG := Lib.hid hg
  have hbA := (Below.refl w.heap.size w).alloc (Nat.le_refl _) (Obj.cells #[Value.int .i64 0, Value.int .i64 0, Value.string ⟨#[]⟩, Value.string ⟨#[]⟩, Value.slice none 0 0] 147)
  have N0 : Hid ((w.alloc (Obj.cells #[Value.int .i64 0, Value.int .i64 0, Value.string ⟨#[]⟩, Value.string ⟨#[]⟩, Value.slice none 0 0] 147)).heap[w.heap.size]? = some (Obj.cells #[Value.int .i64 0, Value.int .i64 0, Value.string ⟨#[]⟩, Value.string ⟨#[]⟩, Value.slice none 0 0] 147)) := Lib.hid (heap_alloc_new w _)
  have HBA := Lib.hid hbA
  clear hv hu hT hbA
  by_cases hz : z ≠ 0
  · rw [if_pos (.inl hz)] at hs
    simp only [Prod.mk.injEq] at hs
    obtain ⟨rfl, rfl, rfl⟩ := hs
    have hbad := hBad (by omega)
    have HB := Lib.hid hbad
    have hzi : ¬ (z : Int) = 0 := by omega
    clear hOk hBad hbad hs0 hg
    go_enter Tryz.func191, Tryz.ntmps191
    go_wp2_with (go_at_call 190; go_must (refine getvar_any _ b x y z HG.out _ (HV.out.below HBA.out) _ ?_))
    refine bodyPost_ret (results_cell_two rfl _ _ w.heap.size 147 #[.int .i64 0, .int .i64 0, .string ⟨#[]⟩, .string ⟨#[]⟩, .slice none 0 0] (0, 0) _ _ _ rfl rfl rfl N0.out Tryz.underlying147 rfl (by kernel_rfl)) rfl ?_
    exact HB.out _ _ _ _ _ _ _ _ HBA.out
  · have hz0 : z = 0 := by omega
    subst hz0
    obtain ⟨_, hyl, _⟩ := gvL_ok b x y hg
    obtain ⟨mm, hm⟩ : ∃ mm, mayL (x : Int) wh = mm := ⟨_, rfl⟩
    rw [hm] at hs
    have HM := Lib.hid hm
    cases mm with
    | false =>
      simp only [ne_eq, not_true_eq_false, or_true, if_true, Prod.mk.injEq] at hs
      obtain ⟨rfl, rfl, rfl⟩ := hs
      have hbad := hBad (by omega)
      have HB := Lib.hid hbad
      clear hOk hBad hbad hs0 hg hm
      go_enter Tryz.func191, Tryz.ntmps191
      go_wp2_with (first
        | (go_at_call 190; go_must (refine getvar_any _ b x y 0 HG.out _ (HV.out.below HBA.out) _ ?_))
        | (go_at_call 211; go_must (refine may_any x wh false HM.out _ _ ?_); intro w1 hb1; have nr := row_later2 N0.out hb1; have ae0 := cell_of_row _ w.heap.size 0 _ _ _ nr; have ae1 := cell_of_row _ w.heap.size 1 _ _ _ nr; have ae2 := cell_of_row _ w.heap.size 2 _ _ _ nr; have ae3 := cell_of_row _ w.heap.size 3 _ _ _ nr; have ae4 := cell_of_row _ w.heap.size 4 _ _ _ nr; have af0 := frozen_block nr 0; have af1 := frozen_block nr 1; have af2 := frozen_block nr 2; have af3 := frozen_block nr 3; have af4 := frozen_block nr 4; have N1 := Lib.hid nr; have hx1 := below_tr HBA.out hb1; clear nr N0 hb1))
      refine bodyPost_ret (results_cell_two rfl _ _ w.heap.size 147 #[.int .i64 0, .int .i64 0, .string ⟨#[]⟩, .string ⟨#[]⟩, .slice none 0 0] (0, 0) _ _ _ rfl rfl rfl (done5 N1.out rfl _ _ _ _ _) Tryz.underlying147 rfl (by kernel_rfl)) rfl ?_
      exact HB.out _ _ _ _ _ _ _ _ (below_set5 hx1 (Nat.le_refl _) _ _ _ _ _)
    | true =>
      simp only [ne_eq, not_true_eq_false, Bool.true_eq_false, or_false, if_false] at hs
      have hkp : kindL (x : Int) ≠ 0 := may_kind hm
      have HKP := Lib.hid hkp
      obtain ⟨La, hsl, hbs⟩ := bs_from HV.out hyl
      have HBS := Lib.hid hbs
      obtain ⟨fp, hfp⟩ : ∃ fp, (findL x l).getD zeroP = fp := ⟨_, rfl⟩
      obtain ⟨fq, hfq⟩ : ∃ fq, (findL x l).isSome = fq := ⟨_, rfl⟩
      have hhas : hasL x l = fq := by rw [← hfq]; exact (hasL_find x l).symm
      rw [hhas] at hs
      have HFP := Lib.hid hfp
      have HFQ := Lib.hid hfq
      clear hfp hfq hhas hkp hbs hm
      obtain ⟨r, hr⟩ : ∃ r, valueL (x : Int) (b.drop y) = r := ⟨_, rfl⟩
      rw [hr] at hs
      have HRV := Lib.hid hr
      cases r with
      | none =>
        simp only [Prod.mk.injEq] at hs
        obtain ⟨rfl, rfl, rfl⟩ := hs
        have hbad := hBad (by omega)
        have HB := Lib.hid hbad
        have hrv : valueL (x : Int) (b.drop y) = none := hr
        have HVN : ∀ w' R, Bs w' (Value.slice La (b.length - y) (vc - y)) (b.drop y) → Tabs w' → _ → Calls Tryz.prog 212 #[.int .i64 x, Value.slice La (b.length - y) (vc - y)] w' R := fun w' R h1 h2 h3 => value_none x HKP.out _ _ hrv w' h1 h2 R h3
        have HVH := Lib.hid HVN
        clear hOk hBad hbad hs0 hg hr hrv HVN HRV
        go_enter Tryz.func191, Tryz.ntmps191
        go_wp2_with (first
          | (go_at_call 190; go_must (refine getvar_any _ b x y 0 HG.out _ (HV.out.below HBA.out) _ ?_))
          | (go_at_call 211; go_must (refine may_any x wh true HM.out _ _ ?_); intro w1 hb1; have nr := row_later2 N0.out hb1; have ae0 := cell_of_row _ w.heap.size 0 _ _ _ nr; have ae1 := cell_of_row _ w.heap.size 1 _ _ _ nr; have ae2 := cell_of_row _ w.heap.size 2 _ _ _ nr; have ae3 := cell_of_row _ w.heap.size 3 _ _ _ nr; have ae4 := cell_of_row _ w.heap.size 4 _ _ _ nr; have af0 := frozen_block nr 0; have af1 := frozen_block nr 1; have af2 := frozen_block nr 2; have af3 := frozen_block nr 3; have af4 := frozen_block nr 4; have N1 := Lib.hid nr; have hx1 := below_tr HBA.out hb1; clear nr N0 hb1)
          | (go_at_call 212; go_must (refine HVH.out _ _ (HBS.out.below hx1) (HT.out.below hx1) ?_); intro vn vs vt vaa vm vcc vu w2 hb2; have nr := row_later2 N1.out hb2; clear ae0 ae1 ae2 ae3 ae4 af0 af1 af2 af3 af4; have be0 := cell_of_row _ w.heap.size 0 _ _ _ nr; have be1 := cell_of_row _ w.heap.size 1 _ _ _ nr; have be2 := cell_of_row _ w.heap.size 2 _ _ _ nr; have be3 := cell_of_row _ w.heap.size 3 _ _ _ nr; have be4 := cell_of_row _ w.heap.size 4 _ _ _ nr; have bf0 := frozen_block nr 0; have bf1 := frozen_block nr 1; have bf2 := frozen_block nr 2; have bf3 := frozen_block nr 3; have bf4 := frozen_block nr 4; have N2 := Lib.hid nr; have hx2 := below_tr hx1 hb2; clear nr N1 hb2)
          | (go_at_call 213; have hx3 := below_set5 hx2 (Nat.le_refl w.heap.size) (.int .i64 x) (.int .i64 vn) (.string vs) (.string vt) (.slice vaa vm vcc); have n3 := done5 N2.out rfl (.int .i64 x) (.int .i64 vn) (.string vs) (.string vt) (.slice vaa vm vcc); go_must (refine pfind_any x _ l fp fq HFP.out HFQ.out _ (HU.out.below hx3) _ ?_); intro fa fc w4 hown4 hb4; have hb5 := hb4.alloc hb4.size (Obj.cells #[.int .i64 fp.id, .int .i64 fp.num, .string (str fp.text), .string (str fp.pair), .slice fa fp.data.length fc] 147); have n5 := row_later2 n3 hb5; clear be0 be1 be2 be3 be4 bf0 bf1 bf2 bf3 bf4; have ee0 := cell_of_row _ w.heap.size 0 _ _ _ n5; have ee1 := cell_of_row _ w.heap.size 1 _ _ _ n5; have ee2 := cell_of_row _ w.heap.size 2 _ _ _ n5; have ee3 := cell_of_row _ w.heap.size 3 _ _ _ n5; have ee4 := cell_of_row _ w.heap.size 4 _ _ _ n5; have ef0 := frozen_block n5 0; have ef1 := frozen_block n5 1; have ef2 := frozen_block n5 2; have ef3 := frozen_block n5 3; have ef4 := frozen_block n5 4; have N5 := Lib.hid n5; have hx5 := below_then hx3 hb5 (below_set5 hx2 (Nat.le_refl w.heap.size) (.int .i64 x) (.int .i64 vn) (.string vs) (.string vt) (.slice vaa vm vcc)).size; skip; clear n3 n5 hown4 hb4 hb5 N2))
        refine bodyPost_ret (results_cell_two rfl _ _ w.heap.size 147 #[.int .i64 x, .int .i64 vn, .string vs, .string vt, .slice vaa vm vcc] (0, 0) _ _ _ rfl rfl rfl (done5 N5.out rfl _ _ _ _ _) Tryz.underlying147 rfl (by kernel_rfl)) rfl ?_
        exact HB.out _ _ _ _ _ _ _ _ (below_set5 hx5 (Nat.le_refl _) _ _ _ _ _)
      | some pm =>
        obtain ⟨p', m'⟩ := pm
        simp only at hs
        obtain ⟨um, hum, hum2, hpid, _, hgp, _⟩ := valueL_ok hr
        rw [List.length_drop] at hum2
        have HVS : ∀ w' R, Bs w' (Value.slice La (b.length - y) (vc - y)) (b.drop y) → Tabs w' → _ → Calls Tryz.prog 212 #[.int .i64 x, Value.slice La (b.length - y) (vc - y)] w' R := fun w' R h1 h2 h3 => value_some x HKP.out _ _ p' m' hr w' h1 h2 R h3
        have HVH := Lib.hid HVS
        have hm0 : 0 ≤ m' := by omega
        have hm1 : (y : Int) + m' ≤ 9223372036854775807 := by omega
        have hld := hgp.ld
        have HPID := Lib.hid hpid
        clear hpid
        clear HVS hr HRV hum hum2 hgp
        obtain ⟨oo, ho⟩ : ∃ oo, oftenL (x : Int) wh = oo := ⟨_, rfl⟩
        rw [ho] at hs
        have HO := Lib.hid ho
        clear ho
        by_cases hto : fq = true ∧ oo = false
        · rw [if_pos hto] at hs
          obtain ⟨rfl, rfl⟩ := hto
          simp only [Prod.mk.injEq] at hs
          obtain ⟨rfl, rfl, rfl⟩ := hs
          have hbad := hBad (by omega)
          have HB := Lib.hid hbad
          clear hOk hBad hbad hs0 hg
          have HOF : ∀ w' (R : Ending → World → Prop), R (.returned (.bool false)) w' → Calls Tryz.prog 214 #[.int .i64 x, .int .i64 wh] w' R := fun w' R h => often_any x wh w' R (by rw [HO.out]; exact h)
          have HOH := Lib.hid HOF
          clear HOF
          go_enter Tryz.func191, Tryz.ntmps191
          go_wp2_with (first
            | (go_at_call 190; go_must (refine getvar_any _ b x y 0 HG.out _ (HV.out.below HBA.out) _ ?_))
            | (go_at_call 211; go_must (refine may_any x wh true HM.out _ _ ?_); intro w1 hb1; have nr := row_later2 N0.out hb1; have ae0 := cell_of_row _ w.heap.size 0 _ _ _ nr; have ae1 := cell_of_row _ w.heap.size 1 _ _ _ nr; have ae2 := cell_of_row _ w.heap.size 2 _ _ _ nr; have ae3 := cell_of_row _ w.heap.size 3 _ _ _ nr; have ae4 := cell_of_row _ w.heap.size 4 _ _ _ nr; have af0 := frozen_block nr 0; have af1 := frozen_block nr 1; have af2 := frozen_block nr 2; have af3 := frozen_block nr 3; have af4 := frozen_block nr 4; have N1 := Lib.hid nr; have hx1 := below_tr HBA.out hb1; clear nr N0 hb1)
            | (go_at_call 212; go_must (refine HVH.out _ _ (HBS.out.below hx1) (HT.out.below hx1) ?_); intro dv w2 hown2 hb2; obtain ⟨dva, dvc, rfl⟩ := owns_shape hown2; have nr := row_later2 N1.out hb2; clear ae0 ae1 ae2 ae3 ae4 af0 af1 af2 af3 af4; have be0 := cell_of_row _ w.heap.size 0 _ _ _ nr; have be1 := cell_of_row _ w.heap.size 1 _ _ _ nr; have be2 := cell_of_row _ w.heap.size 2 _ _ _ nr; have be3 := cell_of_row _ w.heap.size 3 _ _ _ nr; have be4 := cell_of_row _ w.heap.size 4 _ _ _ nr; have bf0 := frozen_block nr 0; have bf1 := frozen_block nr 1; have bf2 := frozen_block nr 2; have bf3 := frozen_block nr 3; have bf4 := frozen_block nr 4; have N2 := Lib.hid nr; have hx2 := below_tr hx1 hb2; clear nr N1 hb2 hown2)
            | (go_at_call 213; have hx3 := below_set5 hx2 (Nat.le_refl w.heap.size) (.int .i64 p'.id) (.int .i64 p'.num) (.string (str p'.text)) (.string (str p'.pair)) (.slice dva p'.data.length dvc); have n3 := done5 N2.out rfl (.int .i64 p'.id) (.int .i64 p'.num) (.string (str p'.text)) (.string (str p'.pair)) (.slice dva p'.data.length dvc); go_must (refine pfind_any x _ l fp true HFP.out HFQ.out _ (HU.out.below hx3) _ ?_); intro fa fc w4 hown4 hb4; have hb5 := hb4.alloc hb4.size (Obj.cells #[.int .i64 fp.id, .int .i64 fp.num, .string (str fp.text), .string (str fp.pair), .slice fa fp.data.length fc] 147); have n5 := row_later2 n3 hb5; clear be0 be1 be2 be3 be4 bf0 bf1 bf2 bf3 bf4; have ee0 := cell_of_row _ w.heap.size 0 _ _ _ n5; have ee1 := cell_of_row _ w.heap.size 1 _ _ _ n5; have ee2 := cell_of_row _ w.heap.size 2 _ _ _ n5; have ee3 := cell_of_row _ w.heap.size 3 _ _ _ n5; have ee4 := cell_of_row _ w.heap.size 4 _ _ _ n5; have ef0 := frozen_block n5 0; have ef1 := frozen_block n5 1; have ef2 := frozen_block n5 2; have ef3 := frozen_block n5 3; have ef4 := frozen_block n5 4; have N5 := Lib.hid n5; have hx5 := below_then hx3 hb5 (below_set5 hx2 (Nat.le_refl w.heap.size) (.int .i64 p'.id) (.int .i64 p'.num) (.string (str p'.text)) (.string (str p'.pair)) (.slice dva p'.data.length dvc)).size; skip; clear n3 n5 hown4 hb4 hb5 N2)
            | (go_at_call 214; go_must (refine HOH.out _ _ ?_)))
          refine bodyPost_ret (results_cell_two rfl _ _ w.heap.size 147 #[.int .i64 p'.id, .int .i64 p'.num, .string (str p'.text), .string (str p'.pair), .slice dva p'.data.length dvc] (0, 0) _ _ _ rfl rfl rfl (done5 N5.out rfl _ _ _ _ _) Tryz.underlying147 rfl (by kernel_rfl)) rfl ?_
          exact HB.out _ _ _ _ _ _ _ _ (below_set5 hx5 (Nat.le_refl _) _ _ _ _ _)
        · rw [if_neg hto] at hs
          obtain ⟨nn, hnn⟩ : ∃ nn, numL p' = nn := ⟨_, rfl⟩
          rw [hnn] at hs
          by_cases hnz : nn ≠ 0
          · rw [if_pos hnz] at hs
            simp only [Prod.mk.injEq] at hs
            obtain ⟨rfl, rfl, rfl⟩ := hs
            have hbad := hBad hnz
            have HB := Lib.hid hbad
            have hfit : decide (numL p' = 0) = false := decide_eq_false (by omega)
            have HFT := Lib.hid hfit
            have hc : ((x : Int) = 35 ∧ nn = 148) ∨ (¬ (x : Int) = 35 ∧ nn = 130) := by
              rw [← hnn] at hnz ⊢
              unfold numL at hnz ⊢
              rw [HPID.out] at hnz ⊢
              by_cases h35 : (x : Int) = 35
              · left
                refine ⟨h35, ?_⟩
                rw [h35] at hnz ⊢
                simp only [show kindL 35 = 2 from by decide, Nat.reduceEqDiff, false_and, if_false, Int.reduceEq, or_self, true_and] at hnz ⊢
                by_cases hn0 : p'.num = 0
                · rw [if_pos hn0]
                · rw [if_neg hn0] at hnz
                  exact absurd rfl hnz
              · right
                refine ⟨h35, ?_⟩
                simp only [h35, false_and, if_false] at hnz ⊢
                split
                · rfl
                · rename_i h1
                  rw [if_neg h1] at hnz
                  split
                  · rfl
                  · rename_i h2
                    rw [if_neg h2] at hnz
                    exact absurd rfl hnz
            clear hOk hBad hbad hs0 hg hnn hfit
            have HOF : ∀ w' (R : Ending → World → Prop), R (.returned (.bool oo)) w' → Calls Tryz.prog 214 #[.int .i64 x, .int .i64 wh] w' R := fun w' R h => often_any x wh w' R (by rw [HO.out]; exact h)
            have HOH := Lib.hid HOF
            clear HOF
            rcases hc with ⟨h35, rfl⟩ | ⟨h35, rfl⟩
            · have H35 := Lib.hid h35
              clear h35
              cases fq with
              | false =>
                go_enter Tryz.func191, Tryz.ntmps191
                go_wp2_with (first
                  | (go_at_call 190; go_must (refine getvar_any _ b x y 0 HG.out _ (HV.out.below HBA.out) _ ?_))
                  | (go_at_call 211; go_must (refine may_any x wh true HM.out _ _ ?_); intro w1 hb1; have nr := row_later2 N0.out hb1; have ae0 := cell_of_row _ w.heap.size 0 _ _ _ nr; have ae1 := cell_of_row _ w.heap.size 1 _ _ _ nr; have ae2 := cell_of_row _ w.heap.size 2 _ _ _ nr; have ae3 := cell_of_row _ w.heap.size 3 _ _ _ nr; have ae4 := cell_of_row _ w.heap.size 4 _ _ _ nr; have af0 := frozen_block nr 0; have af1 := frozen_block nr 1; have af2 := frozen_block nr 2; have af3 := frozen_block nr 3; have af4 := frozen_block nr 4; have N1 := Lib.hid nr; have hx1 := below_tr HBA.out hb1; clear nr N0 hb1)
                  | (go_at_call 212; go_must (refine HVH.out _ _ (HBS.out.below hx1) (HT.out.below hx1) ?_); intro dv w2 hown2 hb2; obtain ⟨dva, dvc, rfl⟩ := owns_shape hown2; have nr := row_later2 N1.out hb2; clear ae0 ae1 ae2 ae3 ae4 af0 af1 af2 af3 af4; have be0 := cell_of_row _ w.heap.size 0 _ _ _ nr; have be1 := cell_of_row _ w.heap.size 1 _ _ _ nr; have be2 := cell_of_row _ w.heap.size 2 _ _ _ nr; have be3 := cell_of_row _ w.heap.size 3 _ _ _ nr; have be4 := cell_of_row _ w.heap.size 4 _ _ _ nr; have bf0 := frozen_block nr 0; have bf1 := frozen_block nr 1; have bf2 := frozen_block nr 2; have bf3 := frozen_block nr 3; have bf4 := frozen_block nr 4; have N2 := Lib.hid nr; have hx2 := below_tr hx1 hb2; clear nr N1 hb2 hown2)
                  | (go_at_call 213; have hx3 := below_set5 hx2 (Nat.le_refl w.heap.size) (.int .i64 p'.id) (.int .i64 p'.num) (.string (str p'.text)) (.string (str p'.pair)) (.slice dva p'.data.length dvc); have n3 := done5 N2.out rfl (.int .i64 p'.id) (.int .i64 p'.num) (.string (str p'.text)) (.string (str p'.pair)) (.slice dva p'.data.length dvc); go_must (refine pfind_any x _ l fp false HFP.out HFQ.out _ (HU.out.below hx3) _ ?_); intro fa fc w4 hown4 hb4; have hb5 := hb4.alloc hb4.size (Obj.cells #[.int .i64 fp.id, .int .i64 fp.num, .string (str fp.text), .string (str fp.pair), .slice fa fp.data.length fc] 147); have n5 := row_later2 n3 hb5; clear be0 be1 be2 be3 be4 bf0 bf1 bf2 bf3 bf4; have ee0 := cell_of_row _ w.heap.size 0 _ _ _ n5; have ee1 := cell_of_row _ w.heap.size 1 _ _ _ n5; have ee2 := cell_of_row _ w.heap.size 2 _ _ _ n5; have ee3 := cell_of_row _ w.heap.size 3 _ _ _ n5; have ee4 := cell_of_row _ w.heap.size 4 _ _ _ n5; have ef0 := frozen_block n5 0; have ef1 := frozen_block n5 1; have ef2 := frozen_block n5 2; have ef3 := frozen_block n5 3; have ef4 := frozen_block n5 4; have N5 := Lib.hid n5; have hx5 := below_then hx3 hb5 (below_set5 hx2 (Nat.le_refl w.heap.size) (.int .i64 p'.id) (.int .i64 p'.num) (.string (str p'.text)) (.string (str p'.pair)) (.slice dva p'.data.length dvc)).size; skip; clear n3 n5 hown4 hb4 hb5 N2)
                  | (go_at_call 214; go_must (refine HOH.out _ _ ?_))
                  | (go_at_call 215; go_must (refine fits_any _ p' _ HFT.out _ _ ?_); intro w6 hb6; have nr := row_later2 N5.out hb6; clear ee0 ee1 ee2 ee3 ee4 ef0 ef1 ef2 ef3 ef4; have ge0 := cell_of_row _ w.heap.size 0 _ _ _ nr; have ge1 := cell_of_row _ w.heap.size 1 _ _ _ nr; have ge2 := cell_of_row _ w.heap.size 2 _ _ _ nr; have ge3 := cell_of_row _ w.heap.size 3 _ _ _ nr; have ge4 := cell_of_row _ w.heap.size 4 _ _ _ nr; have gf0 := frozen_block nr 0; have gf1 := frozen_block nr 1; have gf2 := frozen_block nr 2; have gf3 := frozen_block nr 3; have gf4 := frozen_block nr 4; have N6 := Lib.hid nr; have hx6 := below_tr hx5 hb6; have h35 := H35.out; clear nr N5 hb6))
                refine bodyPost_ret (results_cell_two rfl _ _ w.heap.size 147 #[.int .i64 p'.id, .int .i64 p'.num, .string (str p'.text), .string (str p'.pair), .slice dva p'.data.length dvc] (0, 0) _ _ _ rfl rfl rfl (done5 N6.out rfl _ _ _ _ _) Tryz.underlying147 rfl (by kernel_rfl)) rfl ?_
                exact HB.out _ _ _ _ _ _ _ _ (below_set5 hx6 (Nat.le_refl _) _ _ _ _ _)
              | true =>
                obtain rfl : oo = true := by cases oo with
                  | true => rfl
                  | false => exact absurd ⟨rfl, rfl⟩ hto
                clear hto
                go_enter Tryz.func191, Tryz.ntmps191
                go_wp2_with (first
                  | (go_at_call 190; go_must (refine getvar_any _ b x y 0 HG.out _ (HV.out.below HBA.out) _ ?_))
                  | (go_at_call 211; go_must (refine may_any x wh true HM.out _ _ ?_); intro w1 hb1; have nr := row_later2 N0.out hb1; have ae0 := cell_of_row _ w.heap.size 0 _ _ _ nr; have ae1 := cell_of_row _ w.heap.size 1 _ _ _ nr; have ae2 := cell_of_row _ w.heap.size 2 _ _ _ nr; have ae3 := cell_of_row _ w.heap.size 3 _ _ _ nr; have ae4 := cell_of_row _ w.heap.size 4 _ _ _ nr; have af0 := frozen_block nr 0; have af1 := frozen_block nr 1; have af2 := frozen_block nr 2; have af3 := frozen_block nr 3; have af4 := frozen_block nr 4; have N1 := Lib.hid nr; have hx1 := below_tr HBA.out hb1; clear nr N0 hb1)
                  | (go_at_call 212; go_must (refine HVH.out _ _ (HBS.out.below hx1) (HT.out.below hx1) ?_); intro dv w2 hown2 hb2; obtain ⟨dva, dvc, rfl⟩ := owns_shape hown2; have nr := row_later2 N1.out hb2; clear ae0 ae1 ae2 ae3 ae4 af0 af1 af2 af3 af4; have be0 := cell_of_row _ w.heap.size 0 _ _ _ nr; have be1 := cell_of_row _ w.heap.size 1 _ _ _ nr; have be2 := cell_of_row _ w.heap.size 2 _ _ _ nr; have be3 := cell_of_row _ w.heap.size 3 _ _ _ nr; have be4 := cell_of_row _ w.heap.size 4 _ _ _ nr; have bf0 := frozen_block nr 0; have bf1 := frozen_block nr 1; have bf2 := frozen_block nr 2; have bf3 := frozen_block nr 3; have bf4 := frozen_block nr 4; have N2 := Lib.hid nr; have hx2 := below_tr hx1 hb2; clear nr N1 hb2 hown2)
                  | (go_at_call 213; have hx3 := below_set5 hx2 (Nat.le_refl w.heap.size) (.int .i64 p'.id) (.int .i64 p'.num) (.string (str p'.text)) (.string (str p'.pair)) (.slice dva p'.data.length dvc); have n3 := done5 N2.out rfl (.int .i64 p'.id) (.int .i64 p'.num) (.string (str p'.text)) (.string (str p'.pair)) (.slice dva p'.data.length dvc); go_must (refine pfind_any x _ l fp true HFP.out HFQ.out _ (HU.out.below hx3) _ ?_); intro fa fc w4 hown4 hb4; have hb5 := hb4.alloc hb4.size (Obj.cells #[.int .i64 fp.id, .int .i64 fp.num, .string (str fp.text), .string (str fp.pair), .slice fa fp.data.length fc] 147); have n5 := row_later2 n3 hb5; clear be0 be1 be2 be3 be4 bf0 bf1 bf2 bf3 bf4; have ee0 := cell_of_row _ w.heap.size 0 _ _ _ n5; have ee1 := cell_of_row _ w.heap.size 1 _ _ _ n5; have ee2 := cell_of_row _ w.heap.size 2 _ _ _ n5; have ee3 := cell_of_row _ w.heap.size 3 _ _ _ n5; have ee4 := cell_of_row _ w.heap.size 4 _ _ _ n5; have ef0 := frozen_block n5 0; have ef1 := frozen_block n5 1; have ef2 := frozen_block n5 2; have ef3 := frozen_block n5 3; have ef4 := frozen_block n5 4; have N5 := Lib.hid n5; have hx5 := below_then hx3 hb5 (below_set5 hx2 (Nat.le_refl w.heap.size) (.int .i64 p'.id) (.int .i64 p'.num) (.string (str p'.text)) (.string (str p'.pair)) (.slice dva p'.data.length dvc)).size; skip; clear n3 n5 hown4 hb4 hb5 N2)
                  | (go_at_call 214; go_must (refine HOH.out _ _ ?_))
                  | (go_at_call 215; go_must (refine fits_any _ p' _ HFT.out _ _ ?_); intro w6 hb6; have nr := row_later2 N5.out hb6; clear ee0 ee1 ee2 ee3 ee4 ef0 ef1 ef2 ef3 ef4; have ge0 := cell_of_row _ w.heap.size 0 _ _ _ nr; have ge1 := cell_of_row _ w.heap.size 1 _ _ _ nr; have ge2 := cell_of_row _ w.heap.size 2 _ _ _ nr; have ge3 := cell_of_row _ w.heap.size 3 _ _ _ nr; have ge4 := cell_of_row _ w.heap.size 4 _ _ _ nr; have gf0 := frozen_block nr 0; have gf1 := frozen_block nr 1; have gf2 := frozen_block nr 2; have gf3 := frozen_block nr 3; have gf4 := frozen_block nr 4; have N6 := Lib.hid nr; have hx6 := below_tr hx5 hb6; have h35 := H35.out; clear nr N5 hb6))
                refine bodyPost_ret (results_cell_two rfl _ _ w.heap.size 147 #[.int .i64 p'.id, .int .i64 p'.num, .string (str p'.text), .string (str p'.pair), .slice dva p'.data.length dvc] (0, 0) _ _ _ rfl rfl rfl (done5 N6.out rfl _ _ _ _ _) Tryz.underlying147 rfl (by kernel_rfl)) rfl ?_
                exact HB.out _ _ _ _ _ _ _ _ (below_set5 hx6 (Nat.le_refl _) _ _ _ _ _)
            · cases fq with
              | false =>
                go_enter Tryz.func191, Tryz.ntmps191
                go_wp2_with (first
                  | (go_at_call 190; go_must (refine getvar_any _ b x y 0 HG.out _ (HV.out.below HBA.out) _ ?_))
                  | (go_at_call 211; go_must (refine may_any x wh true HM.out _ _ ?_); intro w1 hb1; have nr := row_later2 N0.out hb1; have ae0 := cell_of_row _ w.heap.size 0 _ _ _ nr; have ae1 := cell_of_row _ w.heap.size 1 _ _ _ nr; have ae2 := cell_of_row _ w.heap.size 2 _ _ _ nr; have ae3 := cell_of_row _ w.heap.size 3 _ _ _ nr; have ae4 := cell_of_row _ w.heap.size 4 _ _ _ nr; have af0 := frozen_block nr 0; have af1 := frozen_block nr 1; have af2 := frozen_block nr 2; have af3 := frozen_block nr 3; have af4 := frozen_block nr 4; have N1 := Lib.hid nr; have hx1 := below_tr HBA.out hb1; clear nr N0 hb1)
                  | (go_at_call 212; go_must (refine HVH.out _ _ (HBS.out.below hx1) (HT.out.below hx1) ?_); intro dv w2 hown2 hb2; obtain ⟨dva, dvc, rfl⟩ := owns_shape hown2; have nr := row_later2 N1.out hb2; clear ae0 ae1 ae2 ae3 ae4 af0 af1 af2 af3 af4; have be0 := cell_of_row _ w.heap.size 0 _ _ _ nr; have be1 := cell_of_row _ w.heap.size 1 _ _ _ nr; have be2 := cell_of_row _ w.heap.size 2 _ _ _ nr; have be3 := cell_of_row _ w.heap.size 3 _ _ _ nr; have be4 := cell_of_row _ w.heap.size 4 _ _ _ nr; have bf0 := frozen_block nr 0; have bf1 := frozen_block nr 1; have bf2 := frozen_block nr 2; have bf3 := frozen_block nr 3; have bf4 := frozen_block nr 4; have N2 := Lib.hid nr; have hx2 := below_tr hx1 hb2; clear nr N1 hb2 hown2)
                  | (go_at_call 213; have hx3 := below_set5 hx2 (Nat.le_refl w.heap.size) (.int .i64 p'.id) (.int .i64 p'.num) (.string (str p'.text)) (.string (str p'.pair)) (.slice dva p'.data.length dvc); have n3 := done5 N2.out rfl (.int .i64 p'.id) (.int .i64 p'.num) (.string (str p'.text)) (.string (str p'.pair)) (.slice dva p'.data.length dvc); go_must (refine pfind_any x _ l fp false HFP.out HFQ.out _ (HU.out.below hx3) _ ?_); intro fa fc w4 hown4 hb4; have hb5 := hb4.alloc hb4.size (Obj.cells #[.int .i64 fp.id, .int .i64 fp.num, .string (str fp.text), .string (str fp.pair), .slice fa fp.data.length fc] 147); have n5 := row_later2 n3 hb5; clear be0 be1 be2 be3 be4 bf0 bf1 bf2 bf3 bf4; have ee0 := cell_of_row _ w.heap.size 0 _ _ _ n5; have ee1 := cell_of_row _ w.heap.size 1 _ _ _ n5; have ee2 := cell_of_row _ w.heap.size 2 _ _ _ n5; have ee3 := cell_of_row _ w.heap.size 3 _ _ _ n5; have ee4 := cell_of_row _ w.heap.size 4 _ _ _ n5; have ef0 := frozen_block n5 0; have ef1 := frozen_block n5 1; have ef2 := frozen_block n5 2; have ef3 := frozen_block n5 3; have ef4 := frozen_block n5 4; have N5 := Lib.hid n5; have hx5 := below_then hx3 hb5 (below_set5 hx2 (Nat.le_refl w.heap.size) (.int .i64 p'.id) (.int .i64 p'.num) (.string (str p'.text)) (.string (str p'.pair)) (.slice dva p'.data.length dvc)).size; skip; clear n3 n5 hown4 hb4 hb5 N2)
                  | (go_at_call 214; go_must (refine HOH.out _ _ ?_))
                  | (go_at_call 215; go_must (refine fits_any _ p' _ HFT.out _ _ ?_); intro w6 hb6; have nr := row_later2 N5.out hb6; clear ee0 ee1 ee2 ee3 ee4 ef0 ef1 ef2 ef3 ef4; have ge0 := cell_of_row _ w.heap.size 0 _ _ _ nr; have ge1 := cell_of_row _ w.heap.size 1 _ _ _ nr; have ge2 := cell_of_row _ w.heap.size 2 _ _ _ nr; have ge3 := cell_of_row _ w.heap.size 3 _ _ _ nr; have ge4 := cell_of_row _ w.heap.size 4 _ _ _ nr; have gf0 := frozen_block nr 0; have gf1 := frozen_block nr 1; have gf2 := frozen_block nr 2; have gf3 := frozen_block nr 3; have gf4 := frozen_block nr 4; have N6 := Lib.hid nr; have hx6 := below_tr hx5 hb6; skip; clear nr N5 hb6))
                refine bodyPost_ret (results_cell_two rfl _ _ w.heap.size 147 #[.int .i64 p'.id, .int .i64 p'.num, .string (str p'.text), .string (str p'.pair), .slice dva p'.data.length dvc] (0, 0) _ _ _ rfl rfl rfl (done5 N6.out rfl _ _ _ _ _) Tryz.underlying147 rfl (by kernel_rfl)) rfl ?_
                exact HB.out _ _ _ _ _ _ _ _ (below_set5 hx6 (Nat.le_refl _) _ _ _ _ _)
              | true =>
                obtain rfl : oo = true := by cases oo with
                  | true => rfl
                  | false => exact absurd ⟨rfl, rfl⟩ hto
                clear hto
                go_enter Tryz.func191, Tryz.ntmps191
                go_wp2_with (first
                  | (go_at_call 190; go_must (refine getvar_any _ b x y 0 HG.out _ (HV.out.below HBA.out) _ ?_))
                  | (go_at_call 211; go_must (refine may_any x wh true HM.out _ _ ?_); intro w1 hb1; have nr := row_later2 N0.out hb1; have ae0 := cell_of_row _ w.heap.size 0 _ _ _ nr; have ae1 := cell_of_row _ w.heap.size 1 _ _ _ nr; have ae2 := cell_of_row _ w.heap.size 2 _ _ _ nr; have ae3 := cell_of_row _ w.heap.size 3 _ _ _ nr; have ae4 := cell_of_row _ w.heap.size 4 _ _ _ nr; have af0 := frozen_block nr 0; have af1 := frozen_block nr 1; have af2 := frozen_block nr 2; have af3 := frozen_block nr 3; have af4 := frozen_block nr 4; have N1 := Lib.hid nr; have hx1 := below_tr HBA.out hb1; clear nr N0 hb1)
                  | (go_at_call 212; go_must (refine HVH.out _ _ (HBS.out.below hx1) (HT.out.below hx1) ?_); intro dv w2 hown2 hb2; obtain ⟨dva, dvc, rfl⟩ := owns_shape hown2; have nr := row_later2 N1.out hb2; clear ae0 ae1 ae2 ae3 ae4 af0 af1 af2 af3 af4; have be0 := cell_of_row _ w.heap.size 0 _ _ _ nr; have be1 := cell_of_row _ w.heap.size 1 _ _ _ nr; have be2 := cell_of_row _ w.heap.size 2 _ _ _ nr; have be3 := cell_of_row _ w.heap.size 3 _ _ _ nr; have be4 := cell_of_row _ w.heap.size 4 _ _ _ nr; have bf0 := frozen_block nr 0; have bf1 := frozen_block nr 1; have bf2 := frozen_block nr 2; have bf3 := frozen_block nr 3; have bf4 := frozen_block nr 4; have N2 := Lib.hid nr; have hx2 := below_tr hx1 hb2; clear nr N1 hb2 hown2)
                  | (go_at_call 213; have hx3 := below_set5 hx2 (Nat.le_refl w.heap.size) (.int .i64 p'.id) (.int .i64 p'.num) (.string (str p'.text)) (.string (str p'.pair)) (.slice dva p'.data.length dvc); have n3 := done5 N2.out rfl (.int .i64 p'.id) (.int .i64 p'.num) (.string (str p'.text)) (.string (str p'.pair)) (.slice dva p'.data.length dvc); go_must (refine pfind_any x _ l fp true HFP.out HFQ.out _ (HU.out.below hx3) _ ?_); intro fa fc w4 hown4 hb4; have hb5 := hb4.alloc hb4.size (Obj.cells #[.int .i64 fp.id, .int .i64 fp.num, .string (str fp.text), .string (str fp.pair), .slice fa fp.data.length fc] 147); have n5 := row_later2 n3 hb5; clear be0 be1 be2 be3 be4 bf0 bf1 bf2 bf3 bf4; have ee0 := cell_of_row _ w.heap.size 0 _ _ _ n5; have ee1 := cell_of_row _ w.heap.size 1 _ _ _ n5; have ee2 := cell_of_row _ w.heap.size 2 _ _ _ n5; have ee3 := cell_of_row _ w.heap.size 3 _ _ _ n5; have ee4 := cell_of_row _ w.heap.size 4 _ _ _ n5; have ef0 := frozen_block n5 0; have ef1 := frozen_block n5 1; have ef2 := frozen_block n5 2; have ef3 := frozen_block n5 3; have ef4 := frozen_block n5 4; have N5 := Lib.hid n5; have hx5 := below_then hx3 hb5 (below_set5 hx2 (Nat.le_refl w.heap.size) (.int .i64 p'.id) (.int .i64 p'.num) (.string (str p'.text)) (.string (str p'.pair)) (.slice dva p'.data.length dvc)).size; skip; clear n3 n5 hown4 hb4 hb5 N2)
                  | (go_at_call 214; go_must (refine HOH.out _ _ ?_))
                  | (go_at_call 215; go_must (refine fits_any _ p' _ HFT.out _ _ ?_); intro w6 hb6; have nr := row_later2 N5.out hb6; clear ee0 ee1 ee2 ee3 ee4 ef0 ef1 ef2 ef3 ef4; have ge0 := cell_of_row _ w.heap.size 0 _ _ _ nr; have ge1 := cell_of_row _ w.heap.size 1 _ _ _ nr; have ge2 := cell_of_row _ w.heap.size 2 _ _ _ nr; have ge3 := cell_of_row _ w.heap.size 3 _ _ _ nr; have ge4 := cell_of_row _ w.heap.size 4 _ _ _ nr; have gf0 := frozen_block nr 0; have gf1 := frozen_block nr 1; have gf2 := frozen_block nr 2; have gf3 := frozen_block nr 3; have gf4 := frozen_block nr 4; have N6 := Lib.hid nr; have hx6 := below_tr hx5 hb6; skip; clear nr N5 hb6))
                refine bodyPost_ret (results_cell_two rfl _ _ w.heap.size 147 #[.int .i64 p'.id, .int .i64 p'.num, .string (str p'.text), .string (str p'.pair), .slice dva p'.data.length dvc] (0, 0) _ _ _ rfl rfl rfl (done5 N6.out rfl _ _ _ _ _) Tryz.underlying147 rfl (by kernel_rfl)) rfl ?_
                exact HB.out _ _ _ _ _ _ _ _ (below_set5 hx6 (Nat.le_refl _) _ _ _ _ _)
          · rw [if_neg hnz] at hs
            simp only [Prod.mk.injEq] at hs
            have hn0 : nn = 0 := by omega
            subst hn0
            obtain ⟨hc0, rfl, rfl⟩ := hs
            subst hc0
            have hok := hOk rfl
            have HB := Lib.hid hok
            have hfit : decide (numL p' = 0) = true := decide_eq_true hnn
            have HFT := Lib.hid hfit
            clear hOk hBad hok hs0 hg hnn hfit hnz
            have HOF : ∀ w' (R : Ending → World → Prop), R (.returned (.bool oo)) w' → Calls Tryz.prog 214 #[.int .i64 x, .int .i64 wh] w' R := fun w' R h => often_any x wh w' R (by rw [HO.out]; exact h)
            have HOH := Lib.hid HOF
            clear HOF
            cases fq with
            | false =>
              go_enter Tryz.func191, Tryz.ntmps191
              go_wp2_with (first
                | (go_at_call 190; go_must (refine getvar_any _ b x y 0 HG.out _ (HV.out.below HBA.out) _ ?_))
                | (go_at_call 211; go_must (refine may_any x wh true HM.out _ _ ?_); intro w1 hb1; have nr := row_later2 N0.out hb1; have ae0 := cell_of_row _ w.heap.size 0 _ _ _ nr; have ae1 := cell_of_row _ w.heap.size 1 _ _ _ nr; have ae2 := cell_of_row _ w.heap.size 2 _ _ _ nr; have ae3 := cell_of_row _ w.heap.size 3 _ _ _ nr; have ae4 := cell_of_row _ w.heap.size 4 _ _ _ nr; have af0 := frozen_block nr 0; have af1 := frozen_block nr 1; have af2 := frozen_block nr 2; have af3 := frozen_block nr 3; have af4 := frozen_block nr 4; have N1 := Lib.hid nr; have hx1 := below_tr HBA.out hb1; clear nr N0 hb1)
                | (go_at_call 212; go_must (refine HVH.out _ _ (HBS.out.below hx1) (HT.out.below hx1) ?_); intro dv w2 hown2 hb2; obtain ⟨dva, dvc, rfl⟩ := owns_shape hown2; have nr := row_later2 N1.out hb2; clear ae0 ae1 ae2 ae3 ae4 af0 af1 af2 af3 af4; have be0 := cell_of_row _ w.heap.size 0 _ _ _ nr; have be1 := cell_of_row _ w.heap.size 1 _ _ _ nr; have be2 := cell_of_row _ w.heap.size 2 _ _ _ nr; have be3 := cell_of_row _ w.heap.size 3 _ _ _ nr; have be4 := cell_of_row _ w.heap.size 4 _ _ _ nr; have bf0 := frozen_block nr 0; have bf1 := frozen_block nr 1; have bf2 := frozen_block nr 2; have bf3 := frozen_block nr 3; have bf4 := frozen_block nr 4; have N2 := Lib.hid nr; have hx2 := below_tr hx1 hb2; have HOWN2 := Lib.hid (owns_mono (base' := w.heap.size) hown2 hx1.size); clear nr N1 hb2 hown2)
                | (go_at_call 213; have hx3 := below_set5 hx2 (Nat.le_refl w.heap.size) (.int .i64 p'.id) (.int .i64 p'.num) (.string (str p'.text)) (.string (str p'.pair)) (.slice dva p'.data.length dvc); have n3 := done5 N2.out rfl (.int .i64 p'.id) (.int .i64 p'.num) (.string (str p'.text)) (.string (str p'.pair)) (.slice dva p'.data.length dvc); go_must (refine pfind_any x _ l fp false HFP.out HFQ.out _ (HU.out.below hx3) _ ?_); intro fa fc w4 hown4 hb4; have hb5 := hb4.alloc hb4.size (Obj.cells #[.int .i64 fp.id, .int .i64 fp.num, .string (str fp.text), .string (str fp.pair), .slice fa fp.data.length fc] 147); have n5 := row_later2 n3 hb5; clear be0 be1 be2 be3 be4 bf0 bf1 bf2 bf3 bf4; have ee0 := cell_of_row _ w.heap.size 0 _ _ _ n5; have ee1 := cell_of_row _ w.heap.size 1 _ _ _ n5; have ee2 := cell_of_row _ w.heap.size 2 _ _ _ n5; have ee3 := cell_of_row _ w.heap.size 3 _ _ _ n5; have ee4 := cell_of_row _ w.heap.size 4 _ _ _ n5; have ef0 := frozen_block n5 0; have ef1 := frozen_block n5 1; have ef2 := frozen_block n5 2; have ef3 := frozen_block n5 3; have ef4 := frozen_block n5 4; have N5 := Lib.hid n5; have hx5 := below_then hx3 hb5 (below_set5 hx2 (Nat.le_refl w.heap.size) (.int .i64 p'.id) (.int .i64 p'.num) (.string (str p'.text)) (.string (str p'.pair)) (.slice dva p'.data.length dvc)).size; have HOWN5 := Lib.hid (owns_below (keeps5 (te := 5) N2.out (by decide) (.int .i64 p'.id) (.int .i64 p'.num) (.string (str p'.text)) (.string (str p'.pair)) (.slice dva p'.data.length dvc) _ _ _ _ HOWN2.out) hb5); clear n3 n5 hown4 hb4 hb5 N2)
                | (go_at_call 214; go_must (refine HOH.out _ _ ?_))
                | (go_at_call 215; go_must (refine fits_any _ p' _ HFT.out _ _ ?_); intro w6 hb6; have nr := row_later2 N5.out hb6; clear ee0 ee1 ee2 ee3 ee4 ef0 ef1 ef2 ef3 ef4; have ge0 := cell_of_row _ w.heap.size 0 _ _ _ nr; have ge1 := cell_of_row _ w.heap.size 1 _ _ _ nr; have ge2 := cell_of_row _ w.heap.size 2 _ _ _ nr; have ge3 := cell_of_row _ w.heap.size 3 _ _ _ nr; have ge4 := cell_of_row _ w.heap.size 4 _ _ _ nr; have gf0 := frozen_block nr 0; have gf1 := frozen_block nr 1; have gf2 := frozen_block nr 2; have gf3 := frozen_block nr 3; have gf4 := frozen_block nr 4; have N6 := Lib.hid nr; have hx6 := below_tr hx5 hb6; have HOWN6 := Lib.hid (owns_below HOWN5.out hb6); clear nr N5 hb6))
              refine bodyPost_ret (results_cell_two rfl _ _ w.heap.size 147 #[.int .i64 p'.id, .int .i64 p'.num, .string (str p'.text), .string (str p'.pair), .slice dva p'.data.length dvc] (0, 0) _ _ _ rfl rfl rfl (done5 N6.out rfl _ _ _ _ _) Tryz.underlying147 rfl (by kernel_rfl)) rfl ?_
              exact HB.out _ _ (keeps5 N6.out (by decide) _ _ _ _ _ _ _ _ _ HOWN6.out) (below_set5 hx6 (Nat.le_refl _) _ _ _ _ _)
            | true =>
              obtain rfl : oo = true := by cases oo with
                | true => rfl
                | false => exact absurd ⟨rfl, rfl⟩ hto
              clear hto
              go_enter Tryz.func191, Tryz.ntmps191
              go_wp2_with (first
                | (go_at_call 190; go_must (refine getvar_any _ b x y 0 HG.out _ (HV.out.below HBA.out) _ ?_))
                | (go_at_call 211; go_must (refine may_any x wh true HM.out _ _ ?_); intro w1 hb1; have nr := row_later2 N0.out hb1; have ae0 := cell_of_row _ w.heap.size 0 _ _ _ nr; have ae1 := cell_of_row _ w.heap.size 1 _ _ _ nr; have ae2 := cell_of_row _ w.heap.size 2 _ _ _ nr; have ae3 := cell_of_row _ w.heap.size 3 _ _ _ nr; have ae4 := cell_of_row _ w.heap.size 4 _ _ _ nr; have af0 := frozen_block nr 0; have af1 := frozen_block nr 1; have af2 := frozen_block nr 2; have af3 := frozen_block nr 3; have af4 := frozen_block nr 4; have N1 := Lib.hid nr; have hx1 := below_tr HBA.out hb1; clear nr N0 hb1)
                | (go_at_call 212; go_must (refine HVH.out _ _ (HBS.out.below hx1) (HT.out.below hx1) ?_); intro dv w2 hown2 hb2; obtain ⟨dva, dvc, rfl⟩ := owns_shape hown2; have nr := row_later2 N1.out hb2; clear ae0 ae1 ae2 ae3 ae4 af0 af1 af2 af3 af4; have be0 := cell_of_row _ w.heap.size 0 _ _ _ nr; have be1 := cell_of_row _ w.heap.size 1 _ _ _ nr; have be2 := cell_of_row _ w.heap.size 2 _ _ _ nr; have be3 := cell_of_row _ w.heap.size 3 _ _ _ nr; have be4 := cell_of_row _ w.heap.size 4 _ _ _ nr; have bf0 := frozen_block nr 0; have bf1 := frozen_block nr 1; have bf2 := frozen_block nr 2; have bf3 := frozen_block nr 3; have bf4 := frozen_block nr 4; have N2 := Lib.hid nr; have hx2 := below_tr hx1 hb2; have HOWN2 := Lib.hid (owns_mono (base' := w.heap.size) hown2 hx1.size); clear nr N1 hb2 hown2)
                | (go_at_call 213; have hx3 := below_set5 hx2 (Nat.le_refl w.heap.size) (.int .i64 p'.id) (.int .i64 p'.num) (.string (str p'.text)) (.string (str p'.pair)) (.slice dva p'.data.length dvc); have n3 := done5 N2.out rfl (.int .i64 p'.id) (.int .i64 p'.num) (.string (str p'.text)) (.string (str p'.pair)) (.slice dva p'.data.length dvc); go_must (refine pfind_any x _ l fp true HFP.out HFQ.out _ (HU.out.below hx3) _ ?_); intro fa fc w4 hown4 hb4; have hb5 := hb4.alloc hb4.size (Obj.cells #[.int .i64 fp.id, .int .i64 fp.num, .string (str fp.text), .string (str fp.pair), .slice fa fp.data.length fc] 147); have n5 := row_later2 n3 hb5; clear be0 be1 be2 be3 be4 bf0 bf1 bf2 bf3 bf4; have ee0 := cell_of_row _ w.heap.size 0 _ _ _ n5; have ee1 := cell_of_row _ w.heap.size 1 _ _ _ n5; have ee2 := cell_of_row _ w.heap.size 2 _ _ _ n5; have ee3 := cell_of_row _ w.heap.size 3 _ _ _ n5; have ee4 := cell_of_row _ w.heap.size 4 _ _ _ n5; have ef0 := frozen_block n5 0; have ef1 := frozen_block n5 1; have ef2 := frozen_block n5 2; have ef3 := frozen_block n5 3; have ef4 := frozen_block n5 4; have N5 := Lib.hid n5; have hx5 := below_then hx3 hb5 (below_set5 hx2 (Nat.le_refl w.heap.size) (.int .i64 p'.id) (.int .i64 p'.num) (.string (str p'.text)) (.string (str p'.pair)) (.slice dva p'.data.length dvc)).size; have HOWN5 := Lib.hid (owns_below (keeps5 (te := 5) N2.out (by decide) (.int .i64 p'.id) (.int .i64 p'.num) (.string (str p'.text)) (.string (str p'.pair)) (.slice dva p'.data.length dvc) _ _ _ _ HOWN2.out) hb5); clear n3 n5 hown4 hb4 hb5 N2)
                | (go_at_call 214; go_must (refine HOH.out _ _ ?_))
                | (go_at_call 215; go_must (refine fits_any _ p' _ HFT.out _ _ ?_); intro w6 hb6; have nr := row_later2 N5.out hb6; clear ee0 ee1 ee2 ee3 ee4 ef0 ef1 ef2 ef3 ef4; have ge0 := cell_of_row _ w.heap.size 0 _ _ _ nr; have ge1 := cell_of_row _ w.heap.size 1 _ _ _ nr; have ge2 := cell_of_row _ w.heap.size 2 _ _ _ nr; have ge3 := cell_of_row _ w.heap.size 3 _ _ _ nr; have ge4 := cell_of_row _ w.heap.size 4 _ _ _ nr; have gf0 := frozen_block nr 0; have gf1 := frozen_block nr 1; have gf2 := frozen_block nr 2; have gf3 := frozen_block nr 3; have gf4 := frozen_block nr 4; have N6 := Lib.hid nr; have hx6 := below_tr hx5 hb6; have HOWN6 := Lib.hid (owns_below HOWN5.out hb6); clear nr N5 hb6))
              refine bodyPost_ret (results_cell_two rfl _ _ w.heap.size 147 #[.int .i64 p'.id, .int .i64 p'.num, .string (str p'.text), .string (str p'.pair), .slice dva p'.data.length dvc] (0, 0) _ _ _ rfl rfl rfl (done5 N6.out rfl _ _ _ _ _) Tryz.underlying147 rfl (by kernel_rfl)) rfl ?_
              exact HB.out _ _ (keeps5 N6.out (by decide) _ _ _ _ _ _ _ _ _ HOWN6.out) (below_set5 hx6 (Nat.le_refl _) _ _ _ _ _)
end Go.Proofs.YtgimbocoamnkjaaGreatDoor
