import Derived.Test.YtgdfieolfhbmiaaDoorWakes1
import Derived.StillTailTactics
namespace Go.Proofs.YtgdfieolfhbmiaaDoor
open Go.RowKit
theorem Tryd.info23 : (Tryd.prog.info? 23).map (fun i => (i.zero, i.size, i.bytes)) = some (some (.slice none 0 0), 1, 24) := by kernel_rfl

set_option maxRecDepth 100000 in
set_option maxHeartbeats 4000000 in
theorem sums_any (v : Value) (ls0 : List (List UInt8)) (w : World) (hv : Bss w v ls0) (hT : Tabs w) (hbulk : ∀ l ∈ ls0, l.length ≤ 1099511627776) (R : Ending → World → Prop)
    (hR : ∀ w', Below w.heap.size w w' → R (.returned (.bool true)) w') :
    Calls Tryd.prog 3 #[v] w R := by
  obtain ⟨ls, hls⟩ : ∃ ls, ls = ls0.take 20 := ⟨_, rfl⟩
  have hl20 : ls.length ≤ 20 := by rw [hls, List.length_take]; omega
  have hb2 : ∀ l ∈ ls, l.length ≤ 1099511627776 := fun l hl => hbulk l (List.mem_of_mem_take (hls ▸ hl))
  have hfl : ls.flatten.length ≤ 140737488355328 := by
    have h1 : ∀ (m : List (List UInt8)), (∀ l ∈ m, l.length ≤ 1099511627776) → m.flatten.length ≤ m.length * 1099511627776 := by
      intro m
      induction m with
      | nil => simp
      | cons x r ih =>
        intro hm
        have := ih (fun l hl => hm l (List.mem_cons_of_mem _ hl))
        have h2 := hm x List.mem_cons_self
        simp only [List.flatten_cons, List.length_append, List.length_cons]
        omega
    have := h1 ls hb2
    omega
  obtain ⟨ad, c, hvv, hv2, hlen0, hcap0⟩ : ∃ ad c, v = .slice ad ls0.length c ∧ Bss w (.slice ad ls.length c) ls ∧ ls0.length ≤ c ∧ c ≤ 9223372036854775807 := by
    have hv' := hv
    obtain ⟨ad, c, vs, rfl, hr, h1, h2, h3, h4⟩ := hv'
    refine ⟨ad, c, rfl, ?_, h1, h2⟩
    have := hv.cut (k := ls.length) (by rw [hls, List.length_take]; omega)
    have e : ls0.take ls.length = ls := by
      rw [hls, List.length_take]
      by_cases h : 20 ≤ ls0.length
      · rw [Nat.min_eq_left h]
      · rw [Nat.min_eq_right (by omega), List.take_of_length_le (Nat.le_refl _), List.take_of_length_le (by omega)]
    rwa [e] at this
  subst hvv
  have hbig : (20 < ls0.length ∧ ls.length = 20) ∨ (¬ 20 < ls0.length ∧ ls0.length = ls.length) := by
    rw [hls, List.length_take]; omega
  clear hls hv hbulk
  have hT0 := Lib.hid hT
  have HF := Lib.hid hfl
  have HB := Lib.hid hb2
  clear hfl hb2
  go_enter Tryd.func3, Tryd.ntmps3
  have HV := Lib.hid hv2
  clear hv2
  rcases hbig with ⟨hgt, hl⟩ | ⟨hgt, hl⟩
  all_goals first | (have HL := Lib.hid (show 20 = ls.length from hl.symm); have hd : decide ((20 : Int) < (ls0.length : Int)) = true := (by simp; omega); clear hl; go_wp2; conv => arg 4; rw [HL.out]) | (rw [hl] at hlen0 hgt ⊢; have hd : decide ((20 : Int) < (ls.length : Int)) = false := (by simp; omega); clear hl; go_wp2)
  all_goals
    clear hd hlen0 hgt
    obtain ⟨ad0, c0, vs0, hvv, hr, hc, hm, hnil, hvs⟩ := HV.out
    simp only [Value.slice.injEq, true_and] at hvv
    obtain ⟨rfl, rfl⟩ := hvv
    go_loopw [3, 4] (fun x i wr => ∃ k : Nat, k ≤ ls.length ∧ i = .int .i64 k ∧ (∃ vs ad' c', x = .slice ad' k c' ∧ wr.ownsRow w.heap.size 23 1 (.slice ad' k c') k vs ∧ Lent wr w.heap.size 5 vs (ls.take k)) ∧ Below w.heap.size w wr) (fun _ i _ => ls.length - (intOf i).toNat)
    case atStart => exact ⟨0, Nat.zero_le _, rfl, ⟨[], _, _, rfl, World.ownsRow_nil _ _ _ _, Lent.nil _ _ _⟩, Below.refl _ _⟩
    case round =>
      obtain ⟨k, hk, rfl, ⟨vs, ad', c', rfl, hown, hlent⟩, hb⟩ := hrel
      by_cases hlt : k < ls.length
      · obtain ⟨b, o, rfl, hcell⟩ := hr.2 (by omega)
        obtain ⟨v', hv', hbs⟩ := hvs k hlt
        have hck := (hb.cell (p := ⟨b, o + k, none⟩) (World.block_lt_of_cell? _ _ ((hcell k (by omega)).trans hv'))).trans ((hcell k (by omega)).trans hv')
        have hbs' := hbs.below hb
        have hl1 := HB.out ls[k] (List.getElem_mem hlt)
        have HT := Lib.hid (take_snoc' ls k hlt)
        obtain ⟨l, hl⟩ : ∃ l, l = ls[k] := ⟨_, rfl⟩
        rw [← hl] at hbs' hl1 HT
        obtain ⟨ad2, c2, rfl, _⟩ := id hbs'
        clear hcell hr hvs hv' hbs hl
        go_wp2_with (go_at_call 9; go_must (refine lend_any _ l _ hbs' (by omega) _ ?_))
        intro g1 c1 w1 hown1 hb1
        have hlr := Lent.lt hlent
        have hown2 := owns_below hown hb1
        have hlent2 := hlent.below hb1
        have hb2 := below_then hb hb1 hb.size
        have hsz := hb2.size
        have hsz1 := hb.size
        go_wp2_with (at_builtin; go_must (refine wpList_app (by rfl) (.tmp 20) (.tmp 26) 22 (by rfl) w.heap.size 23 (.slice none 0 0) 1 24 Tryd.underlying22 Tryd.info23 rfl (by decide) _ _ _ _ rfl (World.ownsRow.alloc hown2 _) _ _ _ _ rfl (rd_lit _ _ _ 1 1 rfl) (slice_oneCell _ _ _) (by simp) (by unfold maxLen; omega) (by omega) (by simp; omega) ?_))
        intro ad3 c3 w3 hown3 hg3
        have hlent3 := (hlent2.alloc (Obj.cells #[Value.slice (some ⟨g1, 0, none⟩) l.length c1] 23)).app (hown2.alloc _) hg3 (by decide)
        have hown4 := owns_grown (hown1.alloc (Obj.cells #[Value.slice (some ⟨g1, 0, none⟩) l.length c1] 23)) hg3 (by
          intro j hj
          simp only [Value.ownBlock, Option.some.injEq] at hj
          subst hj
          intro hc
          exact own_ne hown1 hown2 (by decide) g1 hc.symm rfl)
        have hown5 := owns_mono (base' := w.heap.size) hown4 hsz1
        have hlk : (ls.take k).length = k := by rw [List.length_take]; omega
        have hlent4 := hlent3.snoc (l := l) rfl (by
          intro j hj G c' hG
          have h1 := hlr j hj G c' _ hG
          have h2 := (hown1.lt g1 rfl).1
          omega) (by have h2 := (hown1.lt g1 rfl).1; omega) hown5
        rw [← HT.out] at hlent4
        have hb3 := below_app (hb2.alloc hsz _) hg3 (by simp; omega) (hown2.alloc _)
        clear hlent hlent2 hlent3 hown hown1 hown2 hown4 hown5 hb hb1 hb2 hg3 hlr hlk hck hbs'
        have hown6 : w3.ownsRow w.heap.size 23 1 (.slice ad3 (k + 1) c3) (k + 1) (vs ++ [Value.slice (some ⟨g1, 0, none⟩) l.length c1]) := hown3
        clear hown3
        go_wp2
        go_roundw
        case rel => exact ⟨k + 1, by omega, by go_num, ⟨_, _, _, rfl, hown6, hlent4⟩, hb3⟩
        case measure => simp [intOf]; omega
      · have hkk : k = ls.length := by omega
        subst hkk
        rw [List.take_length] at hlent
        have hbss := hlent.bss hown
        have hv3 := HV.out.below hb
        obtain ⟨J, hJ⟩ : ∃ J, ls.flatten = J := ⟨_, rfl⟩
        have HJ := Lib.hid hJ
        have hJ2 : J.length ≤ 140737488355328 := by rw [← hJ]; exact HF.out
        have hT3 := hT.below hb
        have HS : Hid (([J] : List (List UInt8)).flatten = J) := by simp [Hid]
        have hfrom := hlent.from
        obtain ⟨S, hSS⟩ : ∃ S, S = wr.heap.size := ⟨_, rfl⟩
        rw [← hSS] at hfrom
        have HS2 : Hid (S ≤ wr.heap.size) := by rw [hSS]; exact Nat.le_refl _
        clear hSS
        clear hJ hr hvs
        go_wp2_with (go_at_call 10; go_must (refine rjoin_any _ ls J HJ.out _ hv3 hJ2 _ ?_))
        intro ad1 c1 w1 hown1 hb1
        have hbsA := (bs_of_owns hown1).2
        have hb4 := below_then hb hb1 hb.size
        have hlent1 := hlent.below hb1
        have hfrom1 := hfrom.below hb1
        have hA1 : ∀ b o, ad1 = some ⟨b, o, none⟩ → S ≤ b := fun b o h => Nat.le_trans HS2.out (own_from hown1 b o h)
        have HS1 : Hid (S ≤ w1.heap.size) := Nat.le_trans HS2.out hb1.size
        have hownL := owns_below hown hb1
        have hbss1 := (hlent1.bss hownL).2
        have hT4 := hT3.below hb1
        have hv4 := hv3.below hb1
        clear hown1 hb1 hlent hown hb hbss hfrom hT3 hv3 hT
        go_wp2_with (go_at_call 11; go_must (refine join_any _ ls J HJ.out _ hbss1 hJ2 _ ?_))
        intro ad2 c2 w2 hown2 hb2
        have hbsJ := (bs_of_owns hown2).2
        have hJ1 : ∀ b o, ad2 = some ⟨b, o, none⟩ → S ≤ b := fun b o h => Nat.le_trans HS1.out (own_from hown2 b o h)
        have hfrom2 := hfrom1.below hb2
        have hb5 := below_then hb4 hb2 hb4.size
        have hbsA2 := hbsA.below hb2
        have hlent2 := hlent1.below hb2
        have hownL2 := owns_below hownL hb2
        have hbss2 := hbss1.below hb2
        have hT5 := hT4.below hb2
        have hv5 := hv4.below hb2
        clear hown2 hb2 hlent1 hownL hfrom1 hbss1 hT4 hv4 hbsA
        go_wp2_with (go_at_call 12; go_must (refine sum_any _ ls _ hbss2 _ ?_))
        rw [HJ.out]
        have hJJ : (J == J) = true := by simp
        have hss : ((sumL J : Int) != (sumL J : Int)) = false := by simp
        have hB1 := bss_row1 (e := 23) (rfl : w2.heap.size = w2.heap.size) hbsA2
        go_wp2_with (first | (go_at_call 13; go_must (refine same_any _ _ J J _ hbsJ hbsA2 _ ?_)) | (go_at_call 14; go_must (refine rsum_any _ J _ hbsA2 _ ?_)) | (go_at_call 12; go_must (refine sum_any _ [J] _ hB1 _ ?_); rw [HS.out]))
        have hfrom3 := hfrom2.below ((Below.refl _ _).alloc (Nat.le_refl _) (Obj.cells #[Value.slice ad1 J.length c1] 23))
        have hownL3 := hownL2.alloc (Obj.cells #[Value.slice ad1 J.length c1] 23)
        have hbsJ3 := hbsJ.alloc (Obj.cells #[Value.slice ad1 J.length c1] 23)
        have hbsA3 := hbsA2.alloc (Obj.cells #[Value.slice ad1 J.length c1] 23)
        have hb6 := hb5.alloc hb5.size (Obj.cells #[Value.slice ad1 J.length c1] 23)
        clear hfrom2 hownL2 hbsJ hbsA2 hb5 hlent2 hbss2 hT5 hv5 hB1 hb4
        go_loopw [8] (fun i wx => ∃ k : Nat, k ≤ ls.length ∧ i = .int .i64 k ∧ LentFrom k S wx w.heap.size 5 vs ls ∧ wx.ownsRow w.heap.size 23 1 (.slice ad' ls.length c') ls.length vs ∧ Bs wx (.slice ad2 J.length c2) J ∧ Bs wx (.slice ad1 J.length c1) J ∧ Below w.heap.size w wx) (fun i _ => ls.length - (intOf i).toNat)
        case atStart => exact ⟨0, Nat.zero_le _, rfl, hfrom3, hownL3, hbsJ3, hbsA3, hb6⟩
        case round =>
          obtain ⟨k, hk, rfl, hfrom, hownL, hbsJ, hbsA, hbx⟩ := hrel
          clear hfrom3 hownL3 hbsJ3 hbsA3 hb6
          by_cases hlt2 : k < ls.length
          · obtain ⟨g, cg, hBg, hgS, hvg, hog, hnext⟩ := hfrom.at hlt2
            obtain ⟨r, rfl⟩ := owns_head hownL (by omega)
            have hcl := hownL.cellAt k (by omega)
            rw [hvg] at hcl
            have hv6 := HV.out.below hbx
            obtain ⟨ad6, c6, vs6, hvv6, hr6, _, _, _, hvs6⟩ := hv6
            simp only [Value.slice.injEq, true_and] at hvv6
            obtain ⟨rfl, rfl⟩ := hvv6
            obtain ⟨b, o, rfl, hcell6⟩ := hr6.2 (by omega)
            obtain ⟨v6, hv6, hbs6⟩ := hvs6 k hlt2
            have hcp := (hcell6 k (by omega)).trans hv6
            have hnd := hnext
            obtain ⟨l, hl⟩ : ∃ l, l = ls[k] := ⟨_, rfl⟩
            rw [← hl] at hog hcl hbs6
            obtain ⟨adp, cp, rfl, _⟩ := id hbs6
            have hcl2 : (k : Int) < (ls.length : Int) := by omega
            clear hr6 hcell6 hvs6 hv6 hl hfrom hnext hvg
            go_wp2
            go_still_tail 8, (by kernel_rfl)
            change wpList _ _ _ _ _ wr.drew
            generalize hw7 : wr.drew = w7
            have hog7 : w7.ownsRow w.heap.size 5 1 (.slice (some ⟨g, 0, none⟩) (l.length + 2) cg) (l.length + 2) (bv (l ++ [165, 90])) := by rw [← hw7]; exact hog
            have hbs7 : Bs w7 (.slice adp l.length cp) l := by rw [← hw7]; exact hbs6.drew
            have hW7 := Lib.hid hw7
            clear hw7
            go_wp2_with (go_at_call 15; go_must (refine back_any g l.length cg w.heap.size _ l _ rfl hog7 hbs7 _ ?_))
            intro w8 hg8
            rw [← hW7.out] at hg8
            have hg9 := grownBy_drew hg8
            have hfrom8 := hnd w8 hg9
            have hownL8 := owns_grown hownL hg9 (fun j hj hc => own_ne hog hownL (by decide) j hj (Option.some.inj hc).symm)
            have hbsJ8 := hbsJ.grown hg9 (fun b o h hc => by have := hJ1 b o h; have := Option.some.inj hc; omega)
            have hbsA8 := hbsA.grown hg9 (fun b o h hc => by have := hA1 b o h; have := Option.some.inj hc; omega)
            have hb8 := hbx.grown hg9 hbx.size (fun j hj => by cases hj; exact hBg)
            clear hog7 hbs7 hW7 hg8 hg9 hnd hownL hbsJ hbsA hbx hcl hcp hog hbs6
            go_wp2
            go_roundw
            case rel => exact ⟨k + 1, by omega, by go_num, hfrom8, hownL8, hbsJ8, hbsA8, hb8⟩
            case measure => simp [intOf]; omega
          · have hT9 := hT0.out.below hbx
            go_wp2_with (first | (go_at_call 13; go_must (refine same_any _ _ J J _ hbsJ hbsA _ ?_)) | (go_at_call 16; go_must (refine wakes_any _ hT9 _ ?_)))
            intro w9 hb9
            have hb10 := below_then hbx hb9 hbx.size
            go_wp2
            exact hb10
end Go.Proofs.YtgdfieolfhbmiaaDoor
