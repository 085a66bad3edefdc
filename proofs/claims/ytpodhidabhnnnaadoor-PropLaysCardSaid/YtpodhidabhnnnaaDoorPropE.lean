/- prop.Lay, walked. -/
import Derived.Test.YtpodhidabhnnnaaDoorPropD
namespace Go.Proofs.YtpodhidabhnnnaaDoor
open Go.RowKit

theorem bss2 {w : World} {e : Nat} {v1 v2 : Value} {a b : List UInt8} (h1 : Bs w v1 a) (h2 : Bs w v2 b) : Bss (w.alloc (.cells #[v1, v2] e)) (.slice (some ⟨w.heap.size, 0, none⟩) 2 2) [a, b] :=
  bss_lit [v1, v2] [a, b] rfl (by simp) fun i hi => by
    match i, hi with
    | 0, _ => exact ⟨v1, rfl, h1⟩
    | 1, _ => exact ⟨v2, rfl, h2⟩
theorem flat2 (a b : List UInt8) : [a, b].flatten = a ++ b := by simp

set_option maxRecDepth 100000 in
set_option maxHeartbeats 4000000 in
theorem lay_any (wh : Int) (v : Value) (l : List Pr) (x : List UInt8) (c : Nat) (h : layL wh l = (x, c)) (hbl : (l.flatMap laidL).length ≤ 90000000) (w : World) (hv : Ps w v l) (hT : Tabs w) (R : Ending → World → Prop)
    (hR : ∀ ad cc w', w'.ownsRow w.heap.size 5 1 (.slice ad x.length cc) x.length (bv x) → Below w.heap.size w w' → R (.returned (.tuple #[.slice ad x.length cc, .int .i64 c])) w') :
    Calls Tryd.prog 23 #[.int .i64 wh, v] w R := by
  have HR := Lib.hid hR
  have HV := Lib.hid hv
  have HT := Lib.hid hT
  have HH := Lib.hid h
  have HBL := Lib.hid hbl
  obtain ⟨va, vc, rfl, _, hvm, _⟩ := _root_.id hv
  clear hR hv hT h hbl
  go_enter Tryd.func23, Tryd.ntmps23
  go_wp2
  go_loopg [6, 8, 16] l.length (fun gn L _ i wr => ∃ (k : Nat) (B : List UInt8) (ba : Option Addr) (bc : Nat), k ≤ l.length ∧ gn = l.length - k ∧ i = .int .i64 k ∧ L = .slice ba B.length bc ∧ Hid ((l.take k).flatMap laidL = B) ∧ B.length ≤ 90000000 ∧ Hid (wr.ownsRow w.heap.size 5 1 (.slice ba B.length bc) B.length (bv B)) ∧ Below w.heap.size w wr)
  case atStart => exact ⟨0, [], none, 0, Nat.zero_le _, by omega, rfl, rfl, Lib.hid rfl, by simp, Lib.hid (World.ownsRow_nil _ _ _ _), Below.refl _ _⟩
  case round =>
    obtain ⟨k, B, ba, bc, hk, rfl, rfl, rfl, HB, hB9, HOWN, hb⟩ := hrel
    obtain ⟨wo, rfl⟩ : ∃ y, y = wr := ⟨_, rfl⟩
    by_cases hlt : k < l.length
    · have hkk : (k : Int) < (l.length : Int) := by omega
      obtain ⟨va', vc', ee, _, _, _, v4⟩ := HV.out.below hb
      simp only [Value.slice.injEq] at ee
      obtain ⟨rfl, -, rfl⟩ := ee
      obtain ⟨vb, vo, rfl, v5⟩ := v4 (by omega)
      obtain ⟨d0, ⟨p0, p1, p2, p3, p4⟩, hec⟩ := v5 k hlt
      have HT1 : Hid (l.take (k + 1) = l.take k ++ [l[k]]) := Lib.hid (List.take_succ_eq_append_getElem hlt)
      obtain ⟨y, hy⟩ : ∃ y, l[k] = y := ⟨_, rfl⟩
      rw [hy] at p0 p1 p2 p3 hec HT1
      obtain ⟨d1, d2, d3, rfl⟩ : ∃ a n c, d0 = .slice a n c := by obtain ⟨a, c, h, _⟩ := hec.hd; exact ⟨_, _, _, h⟩
      have hyE : Below wo.heap.size wo (wo.alloc (Obj.cells #[.int .i64 y.id, .int .i64 y.num, .string (str y.text), .string (str y.pair), .slice d1 d2 d3] 43)) := (Below.refl _ _).alloc (Nat.le_refl _) _
      have HEC := Lib.hid (hec.below hyE)
      have HBE := Lib.hid (below_tr hb hyE)
      have HOE := Lib.hid (owns_below HOWN.out hyE)
      obtain ⟨J, hJ⟩ : ∃ J, laidL y = J := ⟨_, rfl⟩
      have HJ := Lib.hid hJ
      have hB1 : (l.take (k + 1)).flatMap laidL = B ++ J := by rw [HT1.out, List.flatMap_append, HB.out, List.flatMap_singleton, hJ]
      have hlen1 : (B ++ J).length ≤ 90000000 := by
        rw [← hB1]
        refine Nat.le_trans ?_ HBL.out
        conv => rhs; rw [← List.take_append_drop (k + 1) l, List.flatMap_append, List.length_append]
        omega
      rw [List.length_append] at hlen1
      have HB1 := Lib.hid hB1
      clear v4 v5 hy hec hyE hJ HT1 hB1
      go_wp2_with (first
        | (go_at_call 45; go_must (refine laid_any _ y J HJ.out _ HEC.out (HT.out.below HBE.out) _ ?_); intro ja jc w5 hown5 hb5; have hx5 := below_then HBE.out hb5 HBE.out.size; have hO5 := owns_below HOE.out hb5; obtain ⟨ja', jc', hje, hrd5, _, _, hnil5⟩ := (bs_of_owns hown5).2; simp only [Value.slice.injEq] at hje; obtain ⟨rfl, -, rfl⟩ := hje)
        | (at_builtin; go_must (refine wpList_app (by rfl) (.tmp 20) (.tmp 22) 22 (by rfl) w.heap.size 5 (.int .u8 0) 1 1 Tryd.underlying22 Tryd.info5 rfl (by decide) _ _ _ _ rfl hO5 _ _ _ _ rfl hrd5 (bv_oneCell _) hnil5 (by unfold maxLen; omega) (by omega) (by have := hx5.size; omega) ?_)))
      intro ad6 c6 w6 hown6 hg6
      have hb6 := below_app hx5 hg6 (by have := hx5.size; omega) hO5
      rw [← bv_append] at hown6
      have hO6 : w6.ownsRow w.heap.size 5 1 (.slice ad6 (B ++ J).length c6) (B ++ J).length (bv (B ++ J)) := by rw [List.length_append]; exact hown6
      have HO6 := Lib.hid hO6
      clear hO6 hown6 hg6 hO5 hrd5 hnil5 hown5 hb5 hx5
      go_wp2
      go_roundg (l.length - (k + 1))
      case measure => omega
      case rel => exact ⟨k + 1, B ++ J, ad6, c6, by omega, rfl, by go_num, by rw [List.length_append], HB1, by rw [List.length_append]; exact hlen1, HO6, hb6⟩
    · have hkk : ¬ (k : Int) < (l.length : Int) := by omega
      have hfull : l.flatMap laidL = B := by have := HB.out; rwa [List.take_of_length_le (by omega)] at this
      have hh := HH.out
      unfold layL at hh
      rw [hfull] at hh
      obtain ⟨V, er, hV⟩ : ∃ V er, varR (B.length : Int) = (V, er) := ⟨_, _, rfl⟩
      rw [hV] at hh
      simp only at hh
      have HVV := Lib.hid hV
      have hvl : V.length ≤ 4 := by have := varR_len (B.length : Int); rw [hV] at this; exact this
      clear HH hfull hV
      by_cases her : er ≠ 0
      · rw [if_pos her] at hh
        simp only [Prod.mk.injEq] at hh
        obtain ⟨rfl, rfl⟩ := hh
        go_wp2_with (go_at_call 46; go_must (refine var_any _ V er HVV.out _ _ ?_); intro va1 vc1 w5 hown5 hb5; have hx5 := below_then hb hb5 hb.size)
        try go_ret2
        exact HR.out none 0 _ (World.ownsRow_nil _ _ _ _) hx5
      · have her0 : er = 0 := by omega
        subst her0
        rw [if_neg her] at hh
        obtain ⟨Y, hY⟩ : ∃ Y, V ++ B = Y := ⟨_, rfl⟩
        have hyl : Y.length ≤ 90000004 := by rw [← hY, List.length_append]; omega
        have HJF : Hid ([V, B].flatten = Y) := Lib.hid (by rw [flat2]; exact hY)
        rw [hY] at hh
        obtain ⟨m, used, rc, hrd⟩ : ∃ m used rc, readL wh Y = (m, used, rc) := ⟨_, _, _, rfl⟩
        rw [hrd] at hh
        have HRD := Lib.hid hrd
        have HHH := Lib.hid hh
        clear hh hY her
        by_cases hrc : rc = 0
        · subst hrc
          have HPB : Hid (∀ p ∈ m, PB p) := Lib.hid (by
            obtain ⟨_, _, _, _, _, _, _, _, _, h8, _⟩ := readL_ok hrd
            exact fun p hp => by
              obtain ⟨g1, _, _, g4, g5⟩ := h8 p hp
              exact g1.pb g4 g5)
          clear hrd
          by_cases hus : used = (Y.length : Int)
          · subst hus
            obtain ⟨sr, hsr⟩ : ∃ sr, sameR m l = sr := ⟨_, rfl⟩
            have HSR := Lib.hid hsr
            cases sr with
            | true =>
              have hml : m = l := of_decide_eq_true hsr
              have hh := HHH.out
              rw [if_pos (by rw [hml])] at hh
              simp only [Prod.mk.injEq] at hh
              obtain ⟨rfl, rfl⟩ := hh
              clear hsr HHH hml
              go_wp2_with (first
                | (go_at_call 46; go_must (refine var_any _ V 0 HVV.out _ _ ?_); intro va1 vc1 w5 hown5 hb5; have hx5 := below_then hb hb5 hb.size; have hO5 := owns_below HOWN.out hb5; have hB := bss2 (e := 22) (bs_of_owns hown5).2 (bs_of_owns hO5).2)
                | (go_at_call 47; go_must (refine join_any _ [V, B] Y HJF.out _ hB (by omega) _ ?_); intro ya yc w6 hown6 hb6; have hx6 := below_then (hx5.alloc hx5.size _) hb6 (by have := hx5.size; simp; omega); have HO6 := Lib.hid (owns_mono (base' := w.heap.size) hown6 (by have := hx5.size; simp; omega)); clear hown6 hb6 hB hO5 hown5 hb5)
                | (go_at_call 10; go_must (refine read_any wh _ Y m _ 0 HRD.out (by omega) _ (bs_of_owns HO6.out).2 (HT.out.below hx6) _ ?_); intro ma mc w7 hps7 hb7; have hx7 := below_then hx6 hb7 hx6.size; have HO7 := Lib.hid (owns_below HO6.out hb7); have HPS7 := Lib.hid (hps7.ps HPB.out); clear hps7 hb7)
                | (go_at_call 24; go_must (refine psame_any _ _ m l true HSR.out _ HPS7.out (HV.out.below hx7) _ ?_); intro w8 hb8; have hx8 := below_then hx7 hb8 hx7.size; have HO8 := Lib.hid (owns_below HO7.out hb8)))
              try go_ret2
              exact HR.out _ _ _ HO8.out hx8
            | false =>
              have hml : m ≠ l := of_decide_eq_false hsr
              have hh := HHH.out
              rw [if_neg (by simp [hml])] at hh
              simp only [Prod.mk.injEq] at hh
              obtain ⟨rfl, rfl⟩ := hh
              clear hsr HHH hml
              go_wp2_with (first
                | (go_at_call 46; go_must (refine var_any _ V 0 HVV.out _ _ ?_); intro va1 vc1 w5 hown5 hb5; have hx5 := below_then hb hb5 hb.size; have hO5 := owns_below HOWN.out hb5; have hB := bss2 (e := 22) (bs_of_owns hown5).2 (bs_of_owns hO5).2)
                | (go_at_call 47; go_must (refine join_any _ [V, B] Y HJF.out _ hB (by omega) _ ?_); intro ya yc w6 hown6 hb6; have hx6 := below_then (hx5.alloc hx5.size _) hb6 (by have := hx5.size; simp; omega); have HO6 := Lib.hid (owns_mono (base' := w.heap.size) hown6 (by have := hx5.size; simp; omega)); clear hown6 hb6 hB hO5 hown5 hb5)
                | (go_at_call 10; go_must (refine read_any wh _ Y m _ 0 HRD.out (by omega) _ (bs_of_owns HO6.out).2 (HT.out.below hx6) _ ?_); intro ma mc w7 hps7 hb7; have hx7 := below_then hx6 hb7 hx6.size; have HPS7 := Lib.hid (hps7.ps HPB.out); clear hps7 hb7)
                | (go_at_call 24; go_must (refine psame_any _ _ m l false HSR.out _ HPS7.out (HV.out.below hx7) _ ?_); intro w8 hb8; have hx8 := below_then hx7 hb8 hx7.size))
              try go_ret2
              exact HR.out none 0 _ (World.ownsRow_nil _ _ _ _) hx8
          · have hne : (used != (Y.length : Int)) = true := by simp [hus]
            have hh := HHH.out
            rw [if_neg (by simp [hus])] at hh
            simp only [Prod.mk.injEq] at hh
            obtain ⟨rfl, rfl⟩ := hh
            clear HHH
            go_wp2_with (first
              | (go_at_call 46; go_must (refine var_any _ V 0 HVV.out _ _ ?_); intro va1 vc1 w5 hown5 hb5; have hx5 := below_then hb hb5 hb.size; have hO5 := owns_below HOWN.out hb5; have hB := bss2 (e := 22) (bs_of_owns hown5).2 (bs_of_owns hO5).2)
              | (go_at_call 47; go_must (refine join_any _ [V, B] Y HJF.out _ hB (by omega) _ ?_); intro ya yc w6 hown6 hb6; have hx6 := below_then (hx5.alloc hx5.size _) hb6 (by have := hx5.size; simp; omega); have HO6 := Lib.hid (owns_mono (base' := w.heap.size) hown6 (by have := hx5.size; simp; omega)); clear hown6 hb6 hB hO5 hown5 hb5)
              | (go_at_call 10; go_must (refine read_any wh _ Y m used 0 HRD.out (by omega) _ (bs_of_owns HO6.out).2 (HT.out.below hx6) _ ?_); intro ma mc w7 hps7 hb7; have hx7 := below_then hx6 hb7 hx6.size; clear hps7 hb7))
            try go_ret2
            exact HR.out none 0 _ (World.ownsRow_nil _ _ _ _) hx7
        · have hrci : ¬ (rc : Int) = 0 := by omega
          have hh := HHH.out
          rw [if_neg (by simp [hrc])] at hh
          simp only [Prod.mk.injEq] at hh
          obtain ⟨rfl, rfl⟩ := hh
          clear HHH hrd
          go_wp2_with (first
            | (go_at_call 46; go_must (refine var_any _ V 0 HVV.out _ _ ?_); intro va1 vc1 w5 hown5 hb5; have hx5 := below_then hb hb5 hb.size; have hO5 := owns_below HOWN.out hb5; have hB := bss2 (e := 22) (bs_of_owns hown5).2 (bs_of_owns hO5).2)
            | (go_at_call 47; go_must (refine join_any _ [V, B] Y HJF.out _ hB (by omega) _ ?_); intro ya yc w6 hown6 hb6; have hx6 := below_then (hx5.alloc hx5.size _) hb6 (by have := hx5.size; simp; omega); have HO6 := Lib.hid (owns_mono (base' := w.heap.size) hown6 (by have := hx5.size; simp; omega)); clear hown6 hb6 hB hO5 hown5 hb5)
            | (go_at_call 10; go_must (refine read_any wh _ Y m used rc HRD.out (by omega) _ (bs_of_owns HO6.out).2 (HT.out.below hx6) _ ?_); intro ma mc w7 hps7 hb7; have hx7 := below_then hx6 hb7 hx6.size; clear hps7 hb7))
          try go_ret2
          exact HR.out none 0 _ (World.ownsRow_nil _ _ _ _) hx7
end Go.Proofs.YtpodhidabhnnnaaDoor
