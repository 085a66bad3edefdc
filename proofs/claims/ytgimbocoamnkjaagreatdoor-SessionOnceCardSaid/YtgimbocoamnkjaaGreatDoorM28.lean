/- session.Read at the bytes of the session of the law SessionOnce: walked. -/
import Derived.Test.YtgimbocoamnkjaaGreatDoorM26
import Derived.Test.YtgimbocoamnkjaaGreatDoorM27
import Derived.Deep.RegionLaw
import Derived.Test.YtgimbocoamnkjaaGreatDoorM20
import Derived.Test.YtgimbocoamnkjaaGreatDoorM24
namespace Go.Proofs.YtgimbocoamnkjaaGreatDoor
open Go.RowKit

/-- The session's bytes. -/
def sBy (t : List UInt8) : List UInt8 := (textL [99]).1 ++ (putL 0 8 ++ (putL 0 8 ++ ([b8 0] ++ ([b8 0] ++ ([b8 0] ++ ([b8 1] ++ (putL 1 2 ++ ([b8 3] ++ ((dataL (imBy (gI t))).1 ++ ([b8 0] ++ []))))))))))
theorem sBy_eq (t : List UInt8) : seBy [99] 0 0 false ⟨1, 3, gI t⟩ = sBy t := by
  have h0 : n64 0 = 0 := by decide
  have h1 : n64 1 = 1 := by decide
  unfold seBy seHd sBy
  simp only [h0, h1, List.append_assoc, List.append_nil, Bool.false_eq_true, if_false]
theorem sBy_len {t : List UInt8} (h : GT t) : (sBy t).length ≤ 1000 := by
  have h1 := h.il
  have h2 := dataL_leneq (l := imBy (gI t)) (by omega)
  have h3 := textL_lenle (l := [99]) (by decide)
  unfold sBy
  simp only [List.length_append, putL_length, List.length_cons, List.length_nil] at h3 ⊢
  omega
theorem c_text : isTextL [99] = true := by decide +kernel
theorem num_0 (k : Nat) (h : k = 8 ∨ k = 2) : IntKind.i64.wrap (getU (putL 0 k)) = 0 := by rcases h with rfl | rfl <;> decide +kernel
theorem num_b0 : IntKind.i64.wrap (getU [b8 0]) = 0 := by decide +kernel
theorem num_b1 : IntKind.i64.wrap (getU [b8 1]) = 1 := by decide +kernel
theorem sr_lt {w : World} {M : Nat → Prop} {S : Nat} {s : Sess} (h : SR w M S s) : ∀ b, M b → b < w.heap.size := by
  obtain ⟨NB, MB, GB, GM, sv, qv, fv, hx⟩ := h
  exact hx.lt
/-- The session while it is read, with one flight or none. -/
def oS (nums : List Int) (fs : List Fl) : Sess := ⟨[99], 0, 0, false, [], [], fs, nums, []⟩

set_option maxRecDepth 100000 in
set_option maxHeartbeats 8000000 in
theorem sread_g (t : List UInt8) (ht : GT t) (v : Value) (w : World) (hv : Bs w v (sBy t)) (hT : Tabs w) (R : Ending → World → Prop)
    (hR : ∀ S M w', SR w' M S (oS [1] [⟨1, 3, gI t⟩]) → (∀ b, M b → w.heap.size ≤ b) → Below w.heap.size w w' → R (.returned (.tuple #[.pointer (some ⟨S, 0, none⟩), .int .i64 0])) w') :
    Calls Tryz.prog 13 #[v] w R := by
  have HR := Lib.hid hR
  have HGT := Lib.hid ht
  have HT := Lib.hid hT
  have HV := Lib.hid hv
  have hsl := sBy_len ht
  obtain ⟨va, vc, rfl, _⟩ := id hv
  have b1 : Below w.heap.size w (w.alloc (Obj.cells #[.slice va (sBy t).length vc, .bool false] 106)) := (Below.refl _ _).alloc (Nat.le_refl _) _
  have hcr : CR w 106 w.heap.size ⟨sBy t, false⟩ (w.alloc (Obj.cells #[.slice va (sBy t).length vc, .bool false] 106)) := ⟨⟨va, vc, heap_alloc_new _ _, hv⟩, b1, Nat.le_refl _, by simp only; omega⟩
  have hcr' : CR w 106 w.heap.size ⟨(textL [99]).1 ++ (putL 0 8 ++ (putL 0 8 ++ ([b8 0] ++ ([b8 0] ++ ([b8 0] ++ ([b8 1] ++ (putL 1 2 ++ ([b8 3] ++ ((dataL (imBy (gI t))).1 ++ ([b8 0] ++ [])))))))))), false⟩ (w.alloc (Obj.cells #[.slice va (sBy t).length vc, .bool false] 106)) := hcr
  have HC1 := Lib.hid hcr'
  have hm1 : Hid True := trivial
  clear hR ht hT hv hsl b1 hcr hcr'
  go_enter Tryz.func13, Tryz.ntmps13
  go_upto_region 2 with fail
  generalize w.alloc (Obj.cells #[.slice va (sBy t).length vc, .bool false] 106) = w1 at HC1 ⊢
  obtain ⟨N, hN⟩ : ∃ N, w.heap.size = N := ⟨_, rfl⟩
  have HNN := Lib.hid hN
  rw [hN] at HC1 ⊢
  clear hN
  go_upto_region 3 with (first
    | (go_at_call 44; go_must (refine stext_any N [99] _ (by decide) c_text w _ HC1.out HT.out _ ?_); intro w2 hc2 hg2; have HC2 := Lib.hid hc2; clear hc2 hg2)
    | (go_at_call 6; go_must (refine snew_any [99] _ _ ?_); intro S M w3 hsr hM hb3; have HS3 : Hid (RS w w3 N S M (oS [] []) _) := Lib.hid (RS.mk (HC2.out.below hb3) hsr (fun b hb => Nat.lt_of_lt_of_le HC2.out.lt (hM b hb)) (fun _ h => by cases h) (fun _ h => by cases h)); clear hsr hM hb3))
  go_upto_region 4 with (first
    | (have hq := hm1; go_at_call 45; go_must (refine snum_any N 8 (putL 0 8) _ (putL_length _ _) 0 (num_0 8 (.inl rfl)) w _ HS3.out.cr _ ?_); intro w4 hc4 hg4; have HS4 := Lib.hid (HS3.out.cur hc4 hg4); clear hq hm1 hc4 hg4)
    | (go_at_call 45; go_must (refine snum_any N 8 (putL 0 8) _ (putL_length _ _) 0 (num_0 8 (.inl rfl)) w _ HS4.out.cr _ ?_); intro w5 hc5 hg5; have HS5 := Lib.hid (HS4.out.cur hc5 hg5); clear hc5 hg5))
  go_upto_region 5 with (first
    | (go_at_call 45; go_must (refine snum_any N 1 [b8 0] _ rfl 0 num_b0 w _ HS5.out.cr _ ?_); intro w6 hc6 hg6; have HS6 := Lib.hid (HS5.out.cur hc6 hg6); clear hc6 hg6)
    | (go_at_call 46; go_must (refine sset_any S (oS [] []) 0 0 false _ M HS6.out.sr _ ?_); intro w7 hr7 hs7; have HS7 : Hid (RS w w7 N S M (oS [] []) _) := Lib.hid (HS6.out.ses hs7 hr7 (fun _ h => by cases h) (fun _ h => by cases h)); clear hr7 hs7))
  obtain ⟨la7, lc7, hr7, _⟩ := HS7.out.cr.row
  have c1 : w7.cell? ⟨N, 1, none⟩ = some (.bool false) := cell_of_row w7 N 1 _ _ _ hr7
  have f1 := frozen_block hr7 1
  clear hr7
  go_upto_region 6 with fail
  have hs8 := HS7.out.cur (HS7.out.cr.mark false) (grownBy_setCell w7 ⟨N, 1, none⟩ (.bool false))
  generalize w7.setCell ⟨N, 1, none⟩ (.bool false) = w8 at hs8 ⊢
  have HS8 := Lib.hid hs8
  clear hs8 c1 f1
  go_wp2_with (first
    | (go_at_call 45; go_must (refine snum_any N 1 [b8 0] _ rfl 0 num_b0 w _ HS8.out.cr _ ?_); intro w9 hc9 hg9; have HS9 := Lib.hid (HS8.out.cur hc9 hg9); clear hc9 hg9))
  refine wp_loop_rounds 1 ?_
  rw [rounds_succ]
  go_wp2_with (first
    | (go_at_call 45; go_must (refine snum_any N 1 [b8 0] _ rfl 0 num_b0 w _ HS9.out.cr _ ?_); intro w10 hc10 hg10; have HS10 := Lib.hid (HS9.out.cur hc10 hg10); clear hc10 hg10))
  refine wp_loop_rounds 1 ?_
  rw [rounds_succ]
  go_wp2_with (first
    | (go_at_call 45; go_must (refine snum_any N 1 [b8 1] _ rfl 1 num_b1 w _ HS10.out.cr _ ?_); intro w11 hc11 hg11; have HS11 := Lib.hid (HS10.out.cur hc11 hg11); clear hc11 hg11))
  refine wp_loop_rounds 2 ?_
  rw [rounds_succ]
  go_upto_block 5 with fail
  go_cut [] from 99 to 128 (fun wx => ∃ M', Hid (RS w wx N S M' (oS [1] [⟨1, 3, gI t⟩]) ([b8 0] ++ [])))
  case first =>
    go_upto_region 18 with (first
      | (go_at_call 50; go_must (refine sflight_g N t HGT.out _ w _ HS11.out.cr HT.out _ ?_); intro da dc pa pc w12 hz1 hz2 hc12 hg12; have HZ1 := Lib.hid hz1; have HZ2 := Lib.hid hz2; have HS12 := Lib.hid (HS11.out.cur hc12 hg12); clear hz1 hz2 hc12 hg12))
    have hn13 := heap_alloc_new w12 (Obj.cells #[.int .i64 1, .int .i64 3, .string (str t), .slice da 0 dc, .int .i64 0, .bool false, .string ⟨#[]⟩, .int .i64 0, .slice pa 0 pc, .int .i64 0, .int .i64 0, .int .i64 0, .int .i64 2, .bool false, .slice none 0 0, .string ⟨#[]⟩] 51)
    have hs13 := HS12.out.below ((Below.refl w12.heap.size w12).alloc (Nat.le_refl _) (Obj.cells #[.int .i64 1, .int .i64 3, .string (str t), .slice da 0 dc, .int .i64 0, .bool false, .string ⟨#[]⟩, .int .i64 0, .slice pa 0 pc, .int .i64 0, .int .i64 0, .int .i64 0, .int .i64 2, .bool false, .slice none 0 0, .string ⟨#[]⟩] 51))
    generalize w12.alloc (Obj.cells #[.int .i64 1, .int .i64 3, .string (str t), .slice da 0 dc, .int .i64 0, .bool false, .string ⟨#[]⟩, .int .i64 0, .slice pa 0 pc, .int .i64 0, .int .i64 0, .int .i64 0, .int .i64 2, .bool false, .slice none 0 0, .string ⟨#[]⟩] 51) = w13 at hn13 hs13 ⊢
    obtain ⟨T, hTT⟩ : ∃ T, w12.heap.size = T := ⟨_, rfl⟩
    rw [hTT] at hn13 ⊢
    have HN13 := Lib.hid hn13
    have HS13 := Lib.hid hs13
    have HTT := Lib.hid hTT
    clear hn13 hs13 hTT
    obtain ⟨NB, MB, GB, GM, sv, qv, fv, hx13⟩ := HS13.out.sr
    have hd13 := (Below.refl w13.heap.size w13).drew
    have hx13d := hx13.below hd13
    have hs13d := HS13.out.below hd13
    have hn13d := row_on HN13.out hd13
    have HTM : Hid (∀ b, M b → T ≠ b) := fun b hb => by have h1 := sr_lt HS12.out.sr b hb; have h2 := HTT.out; omega
    have HTN : Hid (T ≠ N) := by have h1 := HS12.out.cr.lt; have h2 := HTT.out; show _ ≠ _; omega
    have HSN : Hid (S ≠ N) := Nat.ne_of_gt (HS13.out.lo S hx13.mS)
    obtain ⟨la13, lc13, hr13, _⟩ := hs13d.cr.row
    have k18 := And.intro (ss9 hx13d.hS).1.1 (And.intro (cell_of_row w13.drew T 0 _ _ _ hn13d) (And.intro (cell_of_row w13.drew N 1 _ _ _ hr13) (frozen_block hr13 1)))
    clear hd13 hr13 hx13
    go_cut [] from 101 to 118 (fun wx => Hid (RS w wx N S M (oS [1] []) ([b8 0] ++ [])) ∧ Hid (wx.heap[T]? = some (Obj.cells #[.int .i64 1, .int .i64 3, .string (str t), .slice da 0 dc, .int .i64 0, .bool false, .string ⟨#[]⟩, .int .i64 0, .slice pa 0 pc, .int .i64 0, .int .i64 0, .int .i64 0, .int .i64 2, .bool false, .slice none 0 0, .string ⟨#[]⟩] 51)))
    case first =>
      go_region_held3 (fun x => x.cell? ⟨S, 0, none⟩ = some (.pointer (some ⟨NB, 0, none⟩)) ∧ x.cell? ⟨T, 0, none⟩ = some (.int .i64 1) ∧ x.cell? ⟨N, 1, none⟩ = some (.bool false) ∧ x.frozen? ⟨N, 1, none⟩ = false)
        (first | with_reducible exact k18 | with_reducible exact k19 | with_reducible exact k20 | go_keep)
        (first
          | (go_at_call 51; refine ihold_yes NB MB [] 1 (by decide) (by decide) rfl (by decide) _ hx13d.hn _ ?_; intro w14 hst14 hg14; have hx14 := SX.turn hx13d hg14 hst14; have hs14 := hs13d.ses (s' := oS [1] []) hx14.2 ⟨NB, MB, GB, GM, sv, qv, fv, hx14.1⟩ (fun _ h => by cases h) (fun _ h => by cases h); have hn14 := grown_row hg14 hn13d (HTM.out MB hx13d.mN); obtain ⟨la14, lc14, hr14, _⟩ := hs14.cr.row; have k19 := And.intro (ss9 hx14.1.hS).1.1 (And.intro (cell_of_row w14 T 0 _ _ _ hn14) (And.intro (cell_of_row w14 N 1 _ _ _ hr14) (frozen_block hr14 1))); have hg20 := grownBy_setCell w14 ⟨N, 1, none⟩ (.bool false); have hs20 := hs14.cur (hs14.cr.mark false) hg20; have hn20 := grown_row hg20 hn14 HTN.out; obtain ⟨la20, lc20, hr20, _⟩ := hs20.cr.row; have k20 := And.intro (ss9 (grown_row hg20 hx14.1.hS HSN.out)).1.1 (And.intro (cell_of_row _ T 0 _ _ _ hn20) (And.intro (cell_of_row _ N 1 _ _ _ hr20) (frozen_block hr20 1)))))
      all_goals
        go_wp2_with fail
        go_meet
        exact ⟨Lib.hid hs20, Lib.hid hn20⟩
    obtain ⟨HS15, HN15⟩ := hcut
    obtain ⟨w15, rfl⟩ : ∃ x, x = wc := ⟨_, rfl⟩
    clear HS13 HN13 hx13d hs13d hn13d k18
    go_upto_region 19 with fail
    obtain ⟨NB2, MB2, GB2, GM2, sv2, qv2, fv2, hx15⟩ := HS15.out.sr
    have hd15 := (Below.refl w15.heap.size w15).drew
    have hx15d := hx15.below hd15
    have hn15d := row_on HN15.out hd15
    have hy5 : Below w15.drew.heap.size w15.drew (w15.drew.alloc (Obj.cells #[.int .i64 1, .int .i64 3, .string (str t), .slice da 0 dc, .int .i64 0, .bool false, .string ⟨#[]⟩, .int .i64 0, .slice pa 0 pc, .int .i64 0, .int .i64 0, .int .i64 0, .int .i64 2, .bool false, .slice none 0 0, .string ⟨#[]⟩] 51)) := (Below.refl _ _).alloc (Nat.le_refl _) _
    have HX5 := Lib.hid (hx15d.below hy5)
    have HS5b := Lib.hid ((HS15.out.below hd15).below hy5)
    obtain ⟨fps, hfps, hfrow, _, _⟩ := HX5.out.hf
    obtain rfl : fps = [] := by
      cases fps with
      | nil => rfl
      | cons a b => cases hfps
    obtain ⟨fa, fc, hfv⟩ : ∃ a c, fv2 = .slice a 0 c := owns_shape hfrow
    subst hfv
    have HFROW : Hid ((w15.drew.alloc (Obj.cells #[.int .i64 1, .int .i64 3, .string (str t), .slice da 0 dc, .int .i64 0, .bool false, .string ⟨#[]⟩, .int .i64 0, .slice pa 0 pc, .int .i64 0, .int .i64 0, .int .i64 0, .int .i64 2, .bool false, .slice none 0 0, .string ⟨#[]⟩] 51)).ownsRow 0 51 16 (.slice fa 0 fc) 0 []) := hfrow
    have c7 : w15.drew.cell? ⟨S, 7, none⟩ = some (.slice fa 0 fc) := (ss9 hx15d.hS).2.2.2.1
    have c75 : (w15.alloc (Obj.cells #[.int .i64 1, .int .i64 3, .string (str t), .slice da 0 dc, .int .i64 0, .bool false, .string ⟨#[]⟩, .int .i64 0, .slice pa 0 pc, .int .i64 0, .int .i64 0, .int .i64 0, .int .i64 2, .bool false, .slice none 0 0, .string ⟨#[]⟩] 51)).drew.cell? ⟨S, 7, none⟩ = some (.slice fa 0 fc) := cell_later hy5 c7
    obtain ⟨t0, t1, t2, t3, t4, t5, t6, t7, t8, t9, t10, t11, t12, t13, t14, t15⟩ := slT hn15d
    clear hx15 hx15d hn15d hfps hfrow hd15 hy5
    go_region_law (first
      | refine step_appAt (by rfl) (.tmp 123) (.tmp 125) 48 (by rfl) 0 51 (Value.agg #[.int .i64 0, .int .i64 0, .string ⟨#[]⟩, .slice none 0 0, .int .i64 0, .bool false, .string ⟨#[]⟩, .int .i64 0, .slice none 0 0, .int .i64 0, .int .i64 0, .int .i64 0, .int .i64 0, .bool false, .slice none 0 0, .string ⟨#[]⟩]) 16 200 Tryz.underlying48 infoFl rfl (by decide) fa 0 fc _ (by rfl) HFROW.out (some ⟨w15.heap.size, 0, none⟩) 1 1 [.int .i64 1, .int .i64 3, .string (str t), .slice da 0 dc, .int .i64 0, .bool false, .string ⟨#[]⟩, .int .i64 0, .slice pa 0 pc, .int .i64 0, .int .i64 0, .int .i64 0, .int .i64 2, .bool false, .slice none 0 0, .string ⟨#[]⟩] (by rfl) (rd_lit w15.drew #[.int .i64 1, .int .i64 3, .string (str t), .slice da 0 dc, .int .i64 0, .bool false, .string ⟨#[]⟩, .int .i64 0, .slice pa 0 pc, .int .i64 0, .int .i64 0, .int .i64 0, .int .i64 2, .bool false, .slice none 0 0, .string ⟨#[]⟩] 51 16 1 rfl) (fl_oneCell _ _ _ _ _ _ _) (fun h => by cases h) (by unfold maxLen; omega) (by omega) (Nat.zero_le _) ?_; intro ad6 fc6 w6 hrow6 hg6 hat6; have r6 := block_grown hg6 HX5.out.hS (own_block_ne HX5.out.hS HFROW.out (by decide)); have e7 := (ss9 r6).2.2.2.1; have f7 := frozen_block r6 7)
    all_goals
      obtain ⟨M7, hx7, hs7, _⟩ := SX.fly (fs := [⟨1, 3, gI t⟩]) (ps := [((.slice da 0 dc, .slice pa 0 pc, .slice none 0 0), ⟨1, 3, gI t⟩)]) HX5.out rfl (fun p hp => by
        obtain rfl := List.mem_singleton.1 hp
        exact ⟨fun _ y _ => HZ1.out.im HZ2.out Z0.nil y t, HGT.out.ib⟩) hrow6 hg6 hat6
      have HS16 := Lib.hid (HS5b.out.ses (s' := oS [1] [⟨1, 3, gI t⟩]) hs7 ⟨NB2, MB2, GB2, GM2, sv2, qv2, _, hx7⟩ (fun _ h => by cases h) (fun f hf => by
        obtain rfl := List.mem_singleton.1 hf
        exact gI_void t))
      clear hx7 hs7 hrow6 hg6 hat6 r6
      go_wp2_with fail
      go_meet
      exact ⟨M7, HS16⟩
  obtain ⟨M7, HS16⟩ := hcut
  obtain ⟨w16, rfl⟩ : ∃ x, x = wc := ⟨_, rfl⟩
  go_wp2_with fail
  rw [rounds_succ]
  go_wp2_with (first
    | (go_at_call 45; go_must (refine snum_any N 1 [b8 0] _ rfl 0 num_b0 w _ HS16.out.cr _ ?_); intro w17 hc17 hg17; have HS17 := Lib.hid (HS16.out.cur hc17 hg17); clear hc17 hg17))
  obtain ⟨la17, lc17, hr17, _⟩ := HS17.out.cr.row
  have c17 : w17.cell? ⟨N, 1, none⟩ = some (.bool false) := cell_of_row w17 N 1 _ _ _ hr17
  have c07 : w17.cell? ⟨N, 0, none⟩ = some (.slice la17 0 lc17) := cell_of_row w17 N 0 _ _ _ hr17
  have HPL : Hid (((⟨1, 3, gI t⟩ : Fl).item.note.props.flatMap laidL).length ≤ 90000000) := Nat.zero_le _
  have HL1 : Hid ((sBy t).length ≤ 140000000) := Nat.le_trans (sBy_len HGT.out) (by decide)
  have HL2 : Hid ((ntBy (⟨1, 3, gI t⟩ : Fl).item.note).length ≤ 140000000) := Nat.le_trans HGT.out.nl (by decide)
  have HL3 : Hid ((imBy (⟨1, 3, gI t⟩ : Fl).item).length ≤ 140000000) := Nat.le_trans HGT.out.il (by decide)
  clear hr17
  refine wp_loop_rounds 1 ?_
  rw [rounds_succ]
  go_wp2_with (first
    | (go_at_call 14; go_must (refine slay_any S [99] 0 0 false ⟨1, 3, gI t⟩ [1] (by decide) rfl HPL.out _ M7 HS17.out.sr (HT.out.below HS17.out.cr.low) (sBy t) (sBy_eq t) HL1.out HL2.out HL3.out _ ?_); intro ya yc w18 ho18 hb18; have HY18 := Lib.hid (bs_len ho18); have HS18 := Lib.hid (HS17.out.below hb18); clear ho18 hb18)
    | (go_at_call 53; go_must (refine equal_any _ _ (sBy t) (sBy t) _ HY18.out (HV.out.below HS18.out.cr.low) _ ?_); rw [beq_self_eq_true]))
  exact HR.out S M7 _ HS18.out.sr (fun b hb => by have := HS18.out.lo b hb; have := HNN.out; omega) HS18.out.cr.low
end Go.Proofs.YtgimbocoamnkjaaGreatDoor

/- (*Session).Orphans at a session with one flight, which is not of QoS 1: walked. -/
namespace Go.Proofs.YtgimbocoamnkjaaGreatDoor
open Go.RowKit

set_option maxRecDepth 100000 in
set_option maxHeartbeats 4000000 in
theorem orphans_any (S : Nat) (client : List UInt8) (expiry ends : Int) (online : Bool) (f : Fl) (nums : List Int) (hst : ¬ f.state = 1) (w : World) (M : Nat → Prop) (h : SR w M S ⟨client, expiry, ends, online, [], [], [f], nums, []⟩) (R : Ending → World → Prop)
    (hR : ∀ w', Below w.heap.size w w' → R (.returned (.slice none 0 0)) w') :
    Calls Tryz.prog 17 #[.pointer (some ⟨S, 0, none⟩)] w R := by
  have HR := Lib.hid hR
  obtain ⟨NB, MB, GB, GM, sv, qv, fv, hx⟩ := h
  obtain ⟨sa, sc, hsv⟩ := owns_shape hx.hs
  subst hsv
  obtain ⟨qps, _, hqr, _⟩ := hx.hq
  obtain ⟨qa, qc, hqv⟩ := hqr.shape
  subst hqv
  obtain ⟨ps, hps, hrow, hcon, _⟩ := hx.hf
  obtain ⟨⟨⟨v1, v2, v3⟩, f'⟩, rfl⟩ : ∃ p, ps = [p] := by
    match ps, hps with
    | [p], _ => exact ⟨p, rfl⟩
  obtain rfl : f = f' := (by simpa using hps : f' = f).symm
  obtain ⟨fa, fc, hfv⟩ := owns_shape hrow
  subst hfv
  obtain ⟨g, hg⟩ := owns_head hrow (Nat.zero_lt_one)
  subst hg
  have him := hcon _ (List.mem_singleton.2 rfl)
  obtain ⟨⟨pa, pc, e1⟩, ⟨qa2, qc2, e2⟩, ea, ec, e3⟩ := him.1.out.shape
  simp only at e1 e2 e3
  subst e1
  subst e2
  subst e3
  have hcell := fun j (hj : j < 16) => fl_cells hrow (k := 0) (Nat.zero_lt_one) j hj
  have HCELL := Lib.hid (fun j hj => hcell j hj : ∀ j, j < [Value.int .i64 f.id, .int .i64 f.state, .string (str f.item.note.topic), (.slice pa f.item.note.payload.length pc), .int .i64 f.item.note.qos, .bool f.item.note.retain, .string (str f.item.note.src), .int .i64 f.item.note.expires, (.slice qa2 f.item.note.props.length qc2), .int .i64 f.item.note.origin, .int .i64 f.item.note.number, .int .i64 f.item.note.hops, .int .i64 f.item.qos, .bool f.item.keep, (.slice ea f.item.ids.length ec), .string (str f.item.share)].length → w.cell? ⟨g, 0 * 16 + j, none⟩ = [Value.int .i64 f.id, .int .i64 f.state, .string (str f.item.note.topic), (.slice pa f.item.note.payload.length pc), .int .i64 f.item.note.qos, .bool f.item.note.retain, .string (str f.item.note.src), .int .i64 f.item.note.expires, (.slice qa2 f.item.note.props.length qc2), .int .i64 f.item.note.origin, .int .i64 f.item.note.number, .int .i64 f.item.note.hops, .int .i64 f.item.qos, .bool f.item.keep, (.slice ea f.item.ids.length ec), .string (str f.item.share)][j]?)
  have HXS := Lib.hid hx.hS
  have c7 := cell_of_row w S 7 _ _ _ hx.hS
  have c6 := cell_of_row w S 6 _ _ _ hx.hS
  clear hR hx hqr hrow hcon him hcell
  go_enter Tryz.func17, Tryz.ntmps17
  go_wp2_with fail
  refine wp_loop_rounds 2 ?_
  rw [rounds_succ]
  go_upto_region 5 with (first
    | (refine wpList_load_at (o := ⟨some 16, .load 51 (.tmp 15), _, _, _, _⟩) (by rfl) 51 (.tmp 15) (by rfl) (g) (0 * 16) (by rfl) ([Value.int .i64 f.id, .int .i64 f.state, .string (str f.item.note.topic), (.slice pa f.item.note.payload.length pc), .int .i64 f.item.note.qos, .bool f.item.note.retain, .string (str f.item.note.src), .int .i64 f.item.note.expires, (.slice qa2 f.item.note.props.length qc2), .int .i64 f.item.note.origin, .int .i64 f.item.note.number, .int .i64 f.item.note.hops, .int .i64 f.item.qos, .bool f.item.keep, (.slice ea f.item.ids.length ec), .string (str f.item.share)]) _ (HCELL.out) (Tryz.underlying51) (by rfl) (by kernel_rfl) ?_))
  have hb1 := (Below.refl w.heap.size w).alloc (Nat.le_refl _) (Obj.cells #[Value.int .i64 f.id, .int .i64 f.state, .string (str f.item.note.topic), (.slice pa f.item.note.payload.length pc), .int .i64 f.item.note.qos, .bool f.item.note.retain, .string (str f.item.note.src), .int .i64 f.item.note.expires, (.slice qa2 f.item.note.props.length qc2), .int .i64 f.item.note.origin, .int .i64 f.item.note.number, .int .i64 f.item.note.hops, .int .i64 f.item.qos, .bool f.item.keep, (.slice ea f.item.ids.length ec), .string (str f.item.share)] 51)
  have n1 := heap_alloc_new w (Obj.cells #[Value.int .i64 f.id, .int .i64 f.state, .string (str f.item.note.topic), (.slice pa f.item.note.payload.length pc), .int .i64 f.item.note.qos, .bool f.item.note.retain, .string (str f.item.note.src), .int .i64 f.item.note.expires, (.slice qa2 f.item.note.props.length qc2), .int .i64 f.item.note.origin, .int .i64 f.item.note.number, .int .i64 f.item.note.hops, .int .i64 f.item.qos, .bool f.item.keep, (.slice ea f.item.ids.length ec), .string (str f.item.share)] 51)
  generalize w.alloc (Obj.cells #[Value.int .i64 f.id, .int .i64 f.state, .string (str f.item.note.topic), (.slice pa f.item.note.payload.length pc), .int .i64 f.item.note.qos, .bool f.item.note.retain, .string (str f.item.note.src), .int .i64 f.item.note.expires, (.slice qa2 f.item.note.props.length qc2), .int .i64 f.item.note.origin, .int .i64 f.item.note.number, .int .i64 f.item.note.hops, .int .i64 f.item.qos, .bool f.item.keep, (.slice ea f.item.ids.length ec), .string (str f.item.share)] 51) = w1 at hb1 n1 ⊢
  have d1 := cell_of_row w1 _ 1 _ _ _ n1
  have d6 := cell_of_row w1 S 6 _ _ _ (row_on HXS.out hb1)
  have HB1 := Lib.hid hb1
  clear hb1 n1 c6 c7
  go_wp2_with fail
  rw [rounds_succ]
  go_wp2_with fail
  refine wp_loop_rounds 1 ?_
  rw [rounds_succ]
  go_wp2_with fail
  exact HR.out _ HB1.out
end Go.Proofs.YtgimbocoamnkjaaGreatDoor

/- tidingslaw20.wakes, walked. -/
namespace Go.Proofs.YtgimbocoamnkjaaGreatDoor
open Go.RowKit

theorem wk_next {s s' : Sess} {X x : Im} {id : Int} {ok : Bool} (hq : s.queue = [X]) (hX : X.qos = 1) (hf : s.flights = []) (hn : s.nums = []) (h : NextR s 1 x id ok s') : ok = true ∧ id = 1 ∧ s'.flights = [⟨1, 1, X⟩] := by
  have hr : readyL s 1 = true := by
    unfold readyL
    rw [hq, hf]
    simp
  cases h with
  | no h => rw [hr] at h; cases h
  | out y rest hq' h hz => rw [hq] at hq'; cases hq'; omega
  | fly y rest d hq' h hz h1 h2 hc ha =>
    rw [hq] at hq'
    cases hq'
    rw [hn] at h2
    have hd : d = 1 := by simp at h2; omega
    subst hd
    refine ⟨rfl, rfl, ?_⟩
    show s.flights ++ [⟨1, X.qos, X⟩] = _
    rw [hf, hX]
    rfl

theorem wk_land {s : Sess} {f : Fl} (h : s.flights = [f]) : (landS s 0).flights = [] := by
  unfold landS
  show (s.flights.eraseIdx 0) = []
  rw [h]
  rfl
theorem wk_idx {s : Sess} {x : Im} (h : s.flights = [⟨1, 1, x⟩]) : idxP (hitF 1 [1]) s.flights = 0 := by
  rw [h]
  rfl
theorem wk_idx0 {s : Sess} {p : Fl → Bool} (h : s.flights = []) : idxP p s.flights = -1 := by
  rw [h]
  rfl
theorem imX_bounds : ImB ⟨⟨[], [], 0, false, [], 0, [], 0, 0, 0⟩, 1, false, [], []⟩ := ⟨⟨by simp, by simp, by simp, by simp, by simp, by decide⟩, by simp, by simp, by decide⟩
theorem imX_c (w : World) : ImC w (.slice none 0 0) (.slice none 0 0) (.slice none 0 0) ⟨⟨[], [], 0, false, [], 0, [], 0, 0, 0⟩, 1, false, [], []⟩ :=
  ImO.c (B := 0) ⟨World.ownsRow_nil _ _ _ _, PsO.nil _ _, World.ownsRow_nil _ _ _ _⟩ imX_bounds

set_option maxRecDepth 100000 in
set_option maxHeartbeats 4000000 in
theorem wakes_any (w : World) (R : Ending → World → Prop)
    (hR : ∀ w', Below w.heap.size w w' → R (.returned (.bool true)) w') :
    Calls Tryz.prog 7 #[] w R := by
  have HR := Lib.hid hR
  clear hR
  obtain ⟨s0, hs0⟩ : ∃ s, newS [99] = s := ⟨_, rfl⟩
  have hi0 : SInv s0 := hs0 ▸ SInv.new [99]
  have hc0 : s0.client = [99] := by rw [← hs0]; rfl
  obtain ⟨X, hX⟩ : ∃ x : Im, (⟨⟨[], [], 0, false, [], 0, [], 0, 0, 0⟩, 1, false, [], []⟩ : Im) = x := ⟨_, rfl⟩
  have hXq : X.qos = 1 := by rw [← hX]
  obtain ⟨s1, hs1⟩ : ∃ s, pushS s0 X = (s, true) := ⟨{ s0 with queue := s0.queue ++ [X] }, by unfold pushS; rw [if_pos (by rw [← hs0]; decide)]⟩
  have hi1 : SInv s1 := by
    have := hi0.pushS (x := X) (by omega)
    rw [hs1] at this
    exact this
  have hsf : s1.queue = [X] ∧ s1.flights = [] ∧ s1.nums = [] := by
    have h1 : s1 = { s0 with queue := s0.queue ++ [X] } := by
      rw [show s1 = (pushS s0 X).1 from (congrArg Prod.fst hs1).symm]
      unfold pushS
      rw [if_pos (by rw [← hs0]; decide)]
    rw [h1, ← hs0]
    exact ⟨rfl, rfl, rfl⟩
  have HI0 := Lib.hid hi0
  have HI1 := Lib.hid hi1
  have HS0 := Lib.hid hs0
  have HS1 := Lib.hid hs1
  have HC0 := Lib.hid hc0
  have HSF := Lib.hid hsf
  have HX := Lib.hid hX
  have HXQ := Lib.hid hXq
  have hm1 : Hid True := trivial
  clear hi0 hi1 hs0 hs1 hc0 hsf hX hXq
  go_enter Tryz.func7, Tryz.ntmps7
  go_wp2_with (first
    | (go_at_call 6; go_must (refine new_sw [99] _ _ ?_); intro S w1 h1; rw [HS0.out] at h1; have HW1 := Lib.hid h1; clear h1)
    | (go_at_call 36; go_must (refine client_sw S s0 w _ HW1.out _ ?_); rw [HC0.out])
    | (go_at_call 8; go_must (refine push_sw S s0 ⟨⟨[], [], 0, false, [], 0, [], 0, 0, 0⟩, 1, false, [], []⟩ true s1 (by rw [HX.out]; exact HS1.out) HI0.out _ _ _ w _ HW1.out (imX_c _) imX_bounds _ ?_); intro w2 h2; have HW2 := Lib.hid h2; clear h2)
    | (go_at_call 10; go_must (refine next_sw S s1 1 HI1.out w _ HW2.out _ ?_); intro x id ok s3 pa pc qa qc ea ec w3 hn h3 _ _; have HI3 := Lib.hid (hn.inv HI1.out); obtain ⟨e1, e2, e3⟩ := wk_next HSF.out.1 HXQ.out HSF.out.2.1 HSF.out.2.2 hn; subst e1; subst e2; have HW3 := Lib.hid h3; have HF3 := Lib.hid e3; have N3 := Lib.hid (heap_alloc_new w3 (Obj.cells #[.string ⟨#[]⟩, .slice none 0 0, .int .i64 0, .bool false, .string ⟨#[]⟩, .int .i64 0, .slice none 0 0, .int .i64 0, .int .i64 0, .int .i64 0, .int .i64 0, .bool false, .slice none 0 0, .string ⟨#[]⟩] 36)); clear h3 hn e3)
    | (refine wpList_store_row (o := ⟨none, .store 36 (.tmp 3) (.tmp 20), _, _, _, _⟩) (by rfl) 36 (.tmp 3) (.tmp 20) (by rfl) w3.heap.size _ (by rfl) (by rfl) 36 _ N3.out (by kernel_rfl) (by rfl) (by simp [Value.oneCell']) ?_; rw [World.setRow_alloc_new]; have h4 := HW3.out.below ((Below.refl w3.heap.size w3).alloc (Nat.le_refl _) (Obj.cells #[.string (str x.note.topic), (.slice pa x.note.payload.length pc), .int .i64 x.note.qos, .bool x.note.retain, .string (str x.note.src), .int .i64 x.note.expires, (.slice qa x.note.props.length qc), .int .i64 x.note.origin, .int .i64 x.note.number, .int .i64 x.note.hops, .int .i64 x.qos, .bool x.keep, (.slice ea x.ids.length ec), .string (str x.share)] 36)); generalize w3.alloc (Obj.cells #[.string (str x.note.topic), (.slice pa x.note.payload.length pc), .int .i64 x.note.qos, .bool x.note.retain, .string (str x.note.src), .int .i64 x.note.expires, (.slice qa x.note.props.length qc), .int .i64 x.note.origin, .int .i64 x.note.number, .int .i64 x.note.hops, .int .i64 x.qos, .bool x.keep, (.slice ea x.ids.length ec), .string (str x.share)] 36) = w4 at h4 ⊢; have HW4 := Lib.hid h4; clear h4)
    | (have hq := hm1; go_at_call 12; go_must (refine ack_sw S s3 1 0 (wk_idx HF3.out) HI3.out w _ HW4.out _ ?_); intro w5 h5; have hi5 := SInv.land (p := hitF 1 [1]) (z := 0) HI3.out (wk_idx HF3.out); have hf5 : (landS s3 0).flights = [] := wk_land HF3.out; generalize landS s3 0 = s5 at h5 hi5 hf5; have HW5 := Lib.hid h5; have HI5 := Lib.hid hi5; have HF5 := Lib.hid hf5; clear hq hm1 h5 hi5 hf5)
    | (go_at_call 12; go_must (refine ack_sw S s5 1 (-1) (wk_idx0 HF5.out) HI5.out w _ HW5.out _ ?_); intro w6 h6; rw [show landS s5 (-1) = s5 from if_pos (by decide)] at h6; have HW6 := Lib.hid h6; clear h6)
    | (go_at_call 16; go_must (refine flights_sw S s5 0 (by rw [HF5.out, List.length_nil]) HI5.out w _ HW6.out _ ?_); intro fa fc qs w7 _ _ h7 _))
  all_goals exact HR.out _ h7.low
end Go.Proofs.YtgimbocoamnkjaaGreatDoor

/- tidingslaw19.plain, walked. -/
namespace Go.Proofs.YtgimbocoamnkjaaGreatDoor
open Go.RowKit

def plainL (l : List UInt8) : List UInt8 := (l.take 30).map fun b => b8 (97 + (b.toNat : Int) % 26)
theorem plainL_len (l : List UInt8) : (plainL l).length ≤ 30 := by unfold plainL; rw [List.length_map, List.length_take]; omega
theorem str_app (l m : List UInt8) : str l ++ str m = str (l ++ m) := by
  simp only [str]
  apply ByteArray.ext
  simp

theorem bs_at {w : World} {ad : Option Addr} {n c k : Nat} {l : List UInt8} (h : Bs w (.slice ad n c) l) (hk : k < l.length) : ∃ b o, ad = some ⟨b, o, none⟩ ∧ w.cell? ⟨b, o + k, none⟩ = some (.int .u8 ((l[k]).toNat : Int)) := by
  obtain ⟨_, hr, _⟩ := h.parts
  obtain ⟨b, o, rfl, hc⟩ := hr.2 (by omega)
  refine ⟨b, o, rfl, ?_⟩
  rw [hc k (by omega)]
  simp [bv, hk]
set_option maxRecDepth 100000 in
set_option maxHeartbeats 1000000 in
theorem plain_any (v : Value) (l P : List UInt8) (hP : plainL l = P) (w : World) (hv : Bs w v l) (R : Ending → World → Prop)
    (hR : ∀ w', Below w.heap.size w w' → R (.returned (.string (str P))) w') :
    Calls Tryz.prog 38 #[v] w R := by
  have HR := Lib.hid hR
  have HV := Lib.hid hv
  have HP := Lib.hid hP
  obtain ⟨va, vc, rfl, _⟩ := hv
  clear hR hP
  go_enter Tryz.func38, Tryz.ntmps38
  go_wp2
  go_loopg [3, 4] (min l.length 30) (fun gn r i wr => ∃ (k : Nat) (Q : List UInt8), k ≤ min l.length 30 ∧ gn = min l.length 30 - k ∧ i = .int .i64 k ∧ r = .string (str Q) ∧ Hid ((l.take k).map (fun b => b8 (97 + (b.toNat : Int) % 26)) = Q) ∧ Hid (Below w.heap.size w wr))
  case atStart => exact ⟨0, [], Nat.zero_le _, by omega, rfl, rfl, Lib.hid rfl, Lib.hid (Below.refl _ _)⟩
  case round =>
    obtain ⟨k, Q, hk, rfl, rfl, rfl, HQ, HB⟩ := hrel
    obtain ⟨wo, rfl⟩ : ∃ x, x = wr := ⟨_, rfl⟩
    by_cases hlt : k < min l.length 30
    · have hk1 : k < l.length := by omega
      have hkk : (k : Int) < (l.length : Int) := by omega
      have hk30 : (k : Int) < 30 := by omega
      obtain ⟨g, o, rfl, hc⟩ := bs_at (HV.out.below HB.out) hk1
      have HT : Hid ((l.take (k + 1)).map (fun b => b8 (97 + (b.toNat : Int) % 26)) = Q ++ [b8 (97 + ((l[k]).toNat : Int) % 26)]) := by
        show _ = _
        rw [List.take_succ_eq_append_getElem hk1, List.map_append, HQ.out]
        rfl
      obtain ⟨x, hx⟩ : ∃ x, l[k] = x := ⟨_, rfl⟩
      rw [hx] at hc HT
      have hxb := x.toNat_lt
      have hb8 : ((b8 (97 + (x.toNat : Int) % 26)).toNat : Int) = 97 + (x.toNat : Int) % 26 := by rw [b8_toNat]; omega
      obtain ⟨y, hy⟩ : ∃ y, b8 (97 + (x.toNat : Int) % 26) = y := ⟨_, rfl⟩
      rw [hy] at hb8 HT
      have k7 : (convert 22 9 (.slice (some ⟨wo.heap.size, 0, none⟩) 1 1)).run Tryz.prog (wo.alloc (Obj.cells #[Value.int .u8 (97 + (x.toNat : Int) % 26)] 5)) = .ok (.string (str [y])) (wo.alloc (Obj.cells #[Value.int .u8 (97 + (x.toNat : Int) % 26)] 5)) := run_conv_bs (P := Tryz.prog) Tryz.underlying22 Tryz.underlying5 Tryz.underlying9 (bs_lit (w := wo) (e := 5) #[Value.int .u8 (97 + (x.toNat : Int) % 26)] [y] (by rw [← hb8]; rfl) (by simp))
      have HB2 := Lib.hid (below_then HB.out ((Below.refl wo.heap.size wo).alloc (Nat.le_refl _) (Obj.cells #[Value.int .u8 (97 + (x.toNat : Int) % 26)] 5)) HB.out.size)
      have hQl : Q.length ≤ 30 := by rw [← HQ.out, List.length_map, List.length_take]; omega
      have hns : ¬ (str Q).size + (str [y]).size > 9223372036854775807 := by show ¬ (Q.length + 1 > 9223372036854775807); omega
      have hsa := str_app Q [y]
      clear hx HQ hb8 hy hxb hQl
      go_wp2
      go_roundg (min l.length 30 - (k + 1))
      case measure => omega
      case rel => exact ⟨k + 1, Q ++ [y], by omega, rfl, by go_num, rfl, HT, HB2⟩
    · have hkn : k = min l.length 30 := by omega
      have hfin : Q = P := by
        rw [← HQ.out, ← HP.out, hkn]
        unfold plainL
        by_cases h : l.length ≤ 30
        · rw [Nat.min_eq_left h, List.take_of_length_le (Nat.le_refl _), List.take_of_length_le h]
        · rw [Nat.min_eq_right (by omega)]
      subst hfin
      by_cases hk1 : k < l.length
      · have hkk : (k : Int) < (l.length : Int) := by omega
        have hk30 : ¬ (k : Int) < 30 := by omega
        go_wp2
        exact HR.out _ HB.out
      · have hkk : ¬ (k : Int) < (l.length : Int) := by omega
        go_wp2
        exact HR.out _ HB.out
end Go.Proofs.YtgimbocoamnkjaaGreatDoor

/- (tidingslaw19.Props).list, walked. -/
namespace Go.Proofs.YtgimbocoamnkjaaGreatDoor
open Go.RowKit

/-- The properties that are meant. -/
def listL (fm : Int) (co cr us : List UInt8) : List Pr :=
  (if 0 ≤ fm then [⟨1, bits .and .i64 fm 1, [], [], []⟩] else []) ++ (if 0 < co.length then [⟨3, 0, plainL co, [], []⟩] else []) ++ (if 0 < cr.length then [⟨9, 0, [], [], cr.take 30⟩] else []) ++ (us.take 4).map fun u => ⟨38, 0, plainL [u], plainL us, []⟩

/-- A row of properties of the call's own (from block w.heap.size on), their data in an older world W. -/
structure OL (W w wr : World) (ad : Option Addr) (n c : Nat) (ds : List Value) (l : List Pr) : Prop where
  nl : n = l.length
  len : ds.length = l.length
  row : wr.ownsRow w.heap.size 147 5 (.slice ad n c) n (pcs ds l)
  old : Pds W ds l
  low : Below w.heap.size w wr
  wow : Below W.heap.size W w
  hn : n ≤ 100
theorem OL.below {W w wr wr' : World} {ad : Option Addr} {n c : Nat} {ds : List Value} {l : List Pr} (h : OL W w wr ad n c ds l) (hb : Below wr.heap.size wr wr') : OL W w wr' ad n c ds l := ⟨h.nl, h.len, owns_below h.row hb, h.old, below_then h.low hb h.low.size, h.wow, h.hn⟩
theorem OL.push {W w wr wr' : World} {ad ad' : Option Addr} {n c c' : Nat} {ds : List Value} {l : List Pr} {d : Value} {p : Pr} (h : OL W w wr ad n c ds l) (hd : PC W d p) (hr : wr'.ownsRow w.heap.size 147 5 (.slice ad' (n + 1) c') (n + 1) (pcs ds l ++ [.int .i64 p.id, .int .i64 p.num, .string (str p.text), .string (str p.pair), d])) (hg : wr.grownBy wr' (Value.slice ad n c).ownBlock) (hn : n ≤ 99) :
    OL W w wr' ad' (n + 1) c' (ds ++ [d]) (l ++ [p]) :=
  ⟨by rw [List.length_append, ← h.nl]; rfl, by rw [List.length_append, List.length_append, h.len]; rfl, by rw [pcs_snoc ds l h.len]; exact hr, by
    refine ⟨by rw [List.length_append, List.length_append, h.len]; rfl, fun i d' p' h1 h2 => ?_⟩
    by_cases hi : i < l.length
    · rw [List.getElem?_append_left (by rw [h.len]; exact hi)] at h1
      rw [List.getElem?_append_left hi] at h2
      exact h.old.2 i d' p' h1 h2
    · have hi1 : i = l.length := by
        have := (List.getElem?_eq_some_iff.1 h2).1
        simp at this
        omega
      subst hi1
      rw [List.getElem?_append_right (by rw [h.len]; exact Nat.le_refl _), h.len, Nat.sub_self] at h1
      rw [List.getElem?_append_right (Nat.le_refl _), Nat.sub_self] at h2
      simp only [List.getElem?_cons_zero, Option.some.injEq] at h1 h2
      subst h1 h2
      exact hd, below_app h.low hg h.low.size h.row, h.wow, by omega⟩
theorem pc_plain (w : World) {id num : Int} {t u : List UInt8} (h1 : -9223372036854775808 ≤ id) (h2 : id ≤ 9223372036854775807) (h3 : -9223372036854775808 ≤ num) (h4 : num ≤ 9223372036854775807) (h5 : t.length ≤ 100) (h6 : u.length ≤ 100) : PC w (.slice none 0 0) ⟨id, num, t, u, []⟩ :=
  ⟨bs_none w, by simp, by show t.length ≤ _; omega, by show u.length ≤ _; omega, h1, h2, h3, h4⟩
theorem pc_data {w : World} {d : Value} {C : List UInt8} (h : Bs w d C) (hl : C.length ≤ 140737488351232) : PC w d ⟨9, 0, [], [], C⟩ :=
  ⟨h, hl, by show 0 ≤ _; omega, by show 0 ≤ _; omega, by show _ ≤ (9 : Int); omega, by show (9 : Int) ≤ _; omega, by show _ ≤ (0 : Int); omega, by show (0 : Int) ≤ _; omega⟩
theorem OL.nil (W w wr : World) (hW : Below W.heap.size W w) (hb : Below w.heap.size w wr) : OL W w wr none 0 0 [] [] := ⟨rfl, rfl, World.ownsRow_nil _ _ _ _, ⟨rfl, fun i d p h => by simp at h⟩, hb, hW, by omega⟩
/-- The same, when the call is over. -/
structure OP (W : World) (B : Nat) (wr : World) (ad : Option Addr) (n c : Nat) (ds : List Value) (l : List Pr) : Prop where
  nl : n = l.length
  len : ds.length = l.length
  row : wr.ownsRow B 147 5 (.slice ad n c) n (pcs ds l)
  old : Pds W ds l
  low : Below W.heap.size W wr
theorem OL.op {W w wr : World} {ad : Option Addr} {n c : Nat} {ds : List Value} {l : List Pr} (h : OL W w wr ad n c ds l) : OP W w.heap.size wr ad n c ds l := ⟨h.nl, h.len, h.row, h.old, below_then h.wow h.low h.wow.size⟩
theorem OP.below {W wr wr' : World} {B : Nat} {ad : Option Addr} {n c : Nat} {ds : List Value} {l : List Pr} (h : OP W B wr ad n c ds l) (hb : Below wr.heap.size wr wr') : OP W B wr' ad n c ds l := ⟨h.nl, h.len, owns_below h.row hb, h.old, below_then h.low hb h.low.size⟩
/-- A block below the row is written over. -/
theorem OP.grown {W wr wr' : World} {B N : Nat} {ad : Option Addr} {n c : Nat} {ds : List Value} {l : List Pr} (h : OP W B wr ad n c ds l) (hg : wr.grownBy wr' (some N)) (h1 : N < B) (h2 : W.heap.size ≤ N) : OP W B wr' ad n c ds l :=
  ⟨h.nl, h.len, owns_of_block h.row (fun k hk => hg.block k (h.row.lt k hk).2 (fun e => by have := (h.row.lt k hk).1; have := Option.some.inj e; omega)), h.old, below_grown h.low hg h.low.size (fun k hk => by cases hk; exact h2)⟩
theorem OP.ps {W wr : World} {B : Nat} {ad : Option Addr} {n c : Nat} {ds : List Value} {l : List Pr} (h : OP W B wr ad n c ds l) : Ps wr (.slice ad l.length c) l := by
  have hr := h.row
  have hc := owns_cap hr
  unfold maxLen at hc
  rw [h.nl] at hr hc
  refine ⟨ad, c, rfl, hc.1, by omega, owns_nil hr, fun h0 => ?_⟩
  obtain ⟨g, rfl⟩ := owns_head hr h0
  refine ⟨g, 0, rfl, fun i hi => ?_⟩
  have hat : ∀ j, j < 5 → wr.cell? ⟨g, 0 + i * 5 + j, none⟩ = (pc (ds[i]'(by rw [h.len]; exact hi), l[i]))[j]? := fun j hj => by
    rw [Nat.zero_add, hr.cellAt (i * 5 + j) (by omega), pcs_at ds l h.len i hi j hj]
  exact ⟨ds[i]'(by rw [h.len]; exact hi), ⟨hat 0 (by omega), hat 1 (by omega), hat 2 (by omega), hat 3 (by omega), hat 4 (by omega)⟩, (h.old.2 i _ _ (List.getElem?_eq_getElem _) (List.getElem?_eq_getElem hi)).below h.low⟩
theorem lit5 (w : World) (N : Nat) (hN : N = w.heap.size) {i j : Int} {s t : ByteArray} {d : Value} : Rd (w.alloc (Obj.cells #[.int .i64 i, .int .i64 j, .string s, .string t, d] 147)) 5 (some ⟨N, 0, none⟩) 1 [.int .i64 i, .int .i64 j, .string s, .string t, d] := by
  subst hN
  exact rd_lit w #[.int .i64 i, .int .i64 j, .string s, .string t, d] 147 5 1 rfl

theorem pr4 {w : World} {M t : Nat} {a b c x : Value} (h : w.heap[M]? = some (.cells #[a, b, c, x] t (0, 0))) : w.cell? ⟨M, 0, none⟩ = some a ∧ w.cell? ⟨M, 1, none⟩ = some b ∧ w.cell? ⟨M, 2, none⟩ = some c ∧ w.cell? ⟨M, 3, none⟩ = some x :=
  ⟨cell_of_row w M 0 _ _ _ h, cell_of_row w M 1 _ _ _ h, cell_of_row w M 2 _ _ _ h, cell_of_row w M 3 _ _ _ h⟩
/-- One byte of a slice, as a slice. -/
theorem bs_one1 {w : World} {La : Option Addr} {n c k : Nat} {l : List UInt8} (h : Bs w (.slice La n c) l) (hk : k < l.length) :
    ∃ Lx, (∀ w', (Instr.slice 22 (.slice La n c) (some (.int .i64 (k : Int))) (some (.int .i64 ((k : Int) + 1))) none).run Tryz.prog w' = .ok (.slice Lx 1 (c - k)) w') ∧ Bs w (.slice Lx 1 (c - k)) [l[k]] := by
  have hp := h.piece (lo := k) (hi := k + 1) (by omega) (by omega)
  obtain ⟨rfl, _, hc, _, _⟩ := h.parts
  have he : Tryz.prog.elem 22 = 5 := by simp [Program.elem, Tryz.underlying22]
  obtain ⟨i, hi0, hz, hi1, hi2⟩ := info_parts Tryz.info5
  have e : (l.take (k + 1)).drop k = [l[k]] := by
    rw [List.take_succ_eq_append_getElem hk, List.drop_append, List.drop_of_length_le (by rw [List.length_take]; omega)]
    have : (l.take k).length = k := by rw [List.length_take]; omega
    simp [this]
  rw [e, show k + 1 - k = 1 by omega] at hp
  refine ⟨_, fun w' => ?_, hp⟩
  rw [run_slice_lh (P := Tryz.prog) w' _ La l.length c (by rw [he]; exact Tryz.underlying22) .i64 .i64 k ((k : Int) + 1) (by omega) (by omega) (by omega), he]
  have h1 : ((k : Int) + 1).toNat = k + 1 := by omega
  simp [sizeOf, typeInfo, hi0, hi1, sliced, h1]
/-- A piece of bytes that an older world holds. -/
theorem cut_old (v : Value) (l C : List UInt8) (n : Int) (hC : l.take n.toNat = C) (W w : World) (hv : Bs W v l) (h0 : 0 ≤ n) (R : Ending → World → Prop)
    (hR : ∀ ad c, Bs W (.slice ad C.length c) C → R (.returned (.slice ad C.length c)) w) :
    Calls Tryz.prog 30 #[v, .int .i64 n] w R := by
  subst hC
  have hv' := hv
  obtain ⟨ad, c, rfl, hr, hc, hm, hnil⟩ := hv'
  clear hr
  go_enter Tryz.func30, Tryz.ntmps30
  by_cases hlt : n < l.length
  · have hB := hv.cut (k := n.toNat) (by omega)
    go_wp2
    have e : (l.take n.toNat).length = n.toNat := by rw [List.length_take]; omega
    have := hR ad c
    rw [e] at this
    exact this hB
  · have hB : l.take n.toNat = l := List.take_of_length_le (by omega)
    go_wp2
    have := hR ad c
    rw [hB] at this
    exact this hv

end Go.Proofs.YtgimbocoamnkjaaGreatDoor
