/- The document's Decode: walked. -/
import Derived.Test.YtpodgocmcnkfdaaDecP
import Derived.Test.YtpodgocmcnkfdaaREnc
import Derived.Test.YtpodgocmcnkfdaaDec
namespace Go.Proofs.Ytpodgocmcnkfdaa
open Go.RowKit

set_option maxRecDepth 100000 in
set_option maxHeartbeats 6400000 in
theorem rdec_any (v : Value) (l : List UInt8) (E : Ed) (z : Int) (hD : decL false l = (E, z)) (w : World) (hv : Bs w v l) (hl : l.length ≤ 100000) (R : Ending → World → Prop)
    (hR : ∀ xv yv w', PlsO w' w.heap.size xv E.add → w'.ownsRow w.heap.size 3 1 yv E.drop.length (iv E.drop) → (∀ n ∈ E.drop, (Lit.int .i64 n).wf = true) → Below w.heap.size w w' → R (.returned (.tuple #[.agg #[.int .i64 E.log, .int .i64 E.next, .int .i64 E.seq, xv, yv], .int .i64 z])) w') :
    Calls Try.prog 27 #[v] w R := by
  have HR := Lib.hid hR
  have HD := Lib.hid hD
  have HV := Lib.hid hv
  obtain ⟨va, vc, rfl, _⟩ := hv
  clear hR hD
  obtain ⟨N4, hN4⟩ : ∃ N, w.heap.size + 1 = N := ⟨_, rfl⟩
  obtain ⟨⟨x1, s1⟩, h1⟩ : ∃ q, numR false 8 ⟨l, false⟩ = q := ⟨_, rfl⟩
  obtain ⟨⟨x2, s2⟩, h2⟩ : ∃ q, numR false 8 s1 = q := ⟨_, rfl⟩
  obtain ⟨⟨x3, s3⟩, h3⟩ : ∃ q, numR false 8 s2 = q := ⟨_, rfl⟩
  obtain ⟨⟨x4, s4⟩, h4⟩ : ∃ q, numR false 2 s3 = q := ⟨_, rfl⟩
  have b4 := numR_two false 2 (by omega) s3
  rw [h4] at b4
  have b4' : 0 ≤ x4 ∧ x4 < 65536 := b4
  obtain ⟨n4, rfl⟩ : ∃ n : Nat, x4 = n := ⟨x4.toNat, by omega⟩
  have l1 : s1.b.length ≤ l.length := by have := numR_len false 8 ⟨l, false⟩; rw [h1] at this; exact this
  have l2 : s2.b.length ≤ s1.b.length := by have := numR_len false 8 s1; rw [h2] at this; exact this
  have l3 : s3.b.length ≤ s2.b.length := by have := numR_len false 8 s2; rw [h3] at this; exact this
  have l4 : s4.b.length ≤ s3.b.length := by have := numR_len false 2 s3; rw [h4] at this; exact this
  have H1 := Lib.hid h1
  have H2 := Lib.hid h2
  have H3 := Lib.hid h3
  have H4 := Lib.hid h4
  have L1 := Lib.hid l1
  have L2 := Lib.hid l2
  have L3 := Lib.hid l3
  have L4 := Lib.hid l4
  clear h1 h2 h3 h4 b4 l1 l2 l3 l4
  have hb1 : Below w.heap.size w ((w.alloc (Obj.cells #[Value.int .i64 0, .int .i64 0, .int .i64 0, .slice none 0 0, .slice none 0 0] 27)).alloc (Obj.cells #[.slice va l.length vc, .bool false] 97)) := ((Below.refl w.heap.size w).alloc (Nat.le_refl _) _).alloc (by simp) _
  have hn2 : ((w.alloc (Obj.cells #[Value.int .i64 0, .int .i64 0, .int .i64 0, .slice none 0 0, .slice none 0 0] 27)).alloc (Obj.cells #[.slice va l.length vc, .bool false] 97)).heap[w.heap.size]? = some (Obj.cells #[Value.int .i64 0, .int .i64 0, .int .i64 0, .slice none 0 0, .slice none 0 0] 27) := block_alloc (heap_alloc_new w _)
  have hn4 : ((w.alloc (Obj.cells #[Value.int .i64 0, .int .i64 0, .int .i64 0, .slice none 0 0, .slice none 0 0] 27)).alloc (Obj.cells #[.slice va l.length vc, .bool false] 97)).heap[N4]? = some (Obj.cells #[.slice va l.length vc, .bool false] 97) := by
    have h := heap_alloc_new (w.alloc (Obj.cells #[Value.int .i64 0, .int .i64 0, .int .i64 0, .slice none 0 0, .slice none 0 0] 27)) (Obj.cells #[.slice va l.length vc, .bool false] 97)
    rw [show (w.alloc (Obj.cells #[Value.int .i64 0, .int .i64 0, .int .i64 0, .slice none 0 0, .slice none 0 0] 27)).heap.size = N4 by rw [← hN4]; simp] at h
    exact h
  have D0 : Hid (DR w ((w.alloc (Obj.cells #[Value.int .i64 0, .int .i64 0, .int .i64 0, .slice none 0 0, .slice none 0 0] 27)).alloc (Obj.cells #[.slice va l.length vc, .bool false] 97)) N4 97 va vc ⟨l, false⟩) := ⟨hb1, by omega, by rw [← hN4]; simp, hn4, HV.out, hl⟩
  have HN2 := Lib.hid hn2
  have HS1 : Hid True := trivial
  have h24 : w.heap.size < N4 := by omega
  clear hb1 hn2 hn4
  go_enter Try.func27, Try.ntmps27
  have hne2 : some N4 ≠ some w.heap.size := fun e => by cases e; omega
  go_wp2_with (first
    | (have hq := HS1; go_at_call 55; go_must (refine rnumr_any N4 8 ⟨l, false⟩ _ _ x1 s1 (H1).out w _ (D0).out.hb (D0).out.hlt (D0).out.hN (D0).out.hrow (D0).out.hbs (Nat.le_trans (D0).out.hlen (by decide)) _ ?_); intro a1 c1 w2 hr' hb' hg'; have D1 := Lib.hid (DR.step (D0).out (L1.out) hr' hb' hg'); (have M2 := Lib.hid (block_grown hg' HN2.out hne2)); have HS2 : Hid True := trivial; clear hq HS1 hr' hb' hg')
    | (have hq := HS2; go_at_call 55; go_must (refine rnumr_any N4 8 s1 _ _ x2 s2 (H2).out w _ (D1).out.hb (D1).out.hlt (D1).out.hN (D1).out.hrow (D1).out.hbs (Nat.le_trans (D1).out.hlen (by decide)) _ ?_); intro a2 c2 w3 hr' hb' hg'; have D2 := Lib.hid (DR.step (D1).out (L2.out) hr' hb' hg'); (have M3 := Lib.hid (block_grown hg' M2.out hne2)); have HS3 : Hid True := trivial; clear hq HS2 hr' hb' hg')
    | (have hq := HS3; go_at_call 55; go_must (refine rnumr_any N4 8 s2 _ _ x3 s3 (H3).out w _ (D2).out.hb (D2).out.hlt (D2).out.hN (D2).out.hrow (D2).out.hbs (Nat.le_trans (D2).out.hlen (by decide)) _ ?_); intro a3 c3 w5 hr' hb' hg'; have D3 := Lib.hid (DR.step (D2).out (L3.out) hr' hb' hg'); (have M5 := Lib.hid (block_grown hg' M3.out hne2); have hal : Below w5.heap.size w5 (w5.alloc (Obj.cells #[Value.int .i64 x1, .int .i64 x2, .int .i64 x3, .slice none 0 0, .slice none 0 0] 27)) := (Below.refl _ _).alloc (Nat.le_refl _) _; have D3a := Lib.hid (D3.out.below hal); have E3 : Hid (DL (w5.alloc (Obj.cells #[Value.int .i64 x1, .int .i64 x2, .int .i64 x3, .slice none 0 0, .slice none 0 0] 27)) w.heap.size N4 w5.heap.size x1 x2 x3 (.slice none 0 0) (.slice none 0 0) [] []) := Lib.hid ⟨h24, D3.out.hlt, row_on M5.out hal, heap_alloc_new w5 (Obj.cells #[Value.int .i64 x1, .int .i64 x2, .int .i64 x3, .slice none 0 0, .slice none 0 0] 27), PlsO.nil _ _, World.ownsRow_nil _ _ _ _⟩; clear hal); have HS4 : Hid True := trivial; clear hq HS3 hr' hb' hg')
    | (have hq := HS4; go_at_call 55; go_must (refine rnumr_any N4 2 s3 _ _ (n4 : Int) s4 (H4).out w _ (D3a).out.hb (D3a).out.hlt (D3a).out.hN (D3a).out.hrow (D3a).out.hbs (Nat.le_trans (D3a).out.hlen (by decide)) _ ?_); intro a4 c4 w6 hr' hb' hg'; have D4 := Lib.hid (DR.step (D3a).out (L4.out) hr' hb' hg'); (have E4 := Lib.hid (E3.out.step hg')); have HS5 : Hid True := trivial; clear hq HS4 hr' hb' hg'))
  obtain ⟨N5, hN5⟩ : ∃ N, w5.heap.size = N := ⟨_, rfl⟩
  rw [hN5] at E4 ⊢
  obtain ⟨⟨AD, s5⟩, h5⟩ : ∃ q, addsR false n4 s4 [] = q := ⟨_, rfl⟩
  have H5 := Lib.hid h5
  clear h5 hN5 HS5 E3 D3a D3 D2 D1 D0 M5 M3 M2 HN2
  go_loopg [7] n4 (fun gn i wr => ∃ (k j : Nat) (s : Rs) (P : List Pl) (ra : Option Addr) (rc : Nat) (pa : Option Addr) (pc : Nat), j + k = n4 ∧ gn = k ∧ i = .int .i64 j ∧ P.length + k ≤ n4 ∧ Hid (addsR false k s P = (AD, s5)) ∧ Hid (DR w wr N4 97 ra rc s) ∧ Hid (DL wr w.heap.size N4 N5 x1 x2 x3 (.slice pa P.length pc) (.slice none 0 0) P []))
  case atStart => exact ⟨n4, 0, s4, [], a4, c4, none, 0, Nat.zero_add _, rfl, rfl, by simp, H5, D4, E4⟩
  case round =>
    obtain ⟨k, j, s, P, ra, rc, pa, pc, hk, hgn, rfl, hPk, HAD, D5, E5⟩ := hrel
    clear D4 E4
    obtain ⟨wo, rfl⟩ : ∃ x, x = wr := ⟨_, rfl⟩
    have g1 : wo.cell? ⟨N4, 1, none⟩ = some (.bool s.bad) := cell_of_row wo N4 1 _ _ _ D5.out.hrow
    by_cases hk0 : k = 0
    · subst hk0
      obtain ⟨rfl, rfl⟩ : P = AD ∧ s = s5 := by
        have := HAD.out
        rw [addsR] at this
        cases this
        exact ⟨rfl, rfl⟩
      have hjn : ¬ (j : Int) < (n4 : Int) := by omega
      clear hgn
      obtain ⟨⟨x6, s6⟩, q6⟩ : ∃ q, numR false 2 s = q := ⟨_, rfl⟩
      have r6 := numR_two false 2 (by omega) s
      rw [q6] at r6
      have r6' : 0 ≤ x6 ∧ x6 < 65536 := r6
      obtain ⟨n6, rfl⟩ : ∃ n : Nat, x6 = n := ⟨x6.toNat, by omega⟩
      have l6 : s6.b.length ≤ s.b.length := by have := numR_len false 2 s; rw [q6] at this; exact this
      have HQ6 := Lib.hid q6
      have L6 := Lib.hid l6
      obtain ⟨⟨DD, s7⟩, h7⟩ : ∃ q, dropsR false n6 s6 [] = q := ⟨_, rfl⟩
      have hDDl : DD.length ≤ 65535 := by have := dropsR_len false n6 s6 []; rw [h7] at this; simp at this; omega
      have hDDw : ∀ x ∈ DD, (Lit.int .i64 x).wf = true := by have := dropsR_wf false n6 s6 [] (fun x hx => by cases hx); rw [h7] at this; exact this
      have hparse : parseR false l = (⟨x1, x2, x3, P, DD⟩, s7) := by
        unfold parseR
        simp only [H1.out, H2.out, H3.out, H4.out, Int.toNat_natCast, H5.out, HQ6.out, h7]
      have HPARSE := Lib.hid hparse
      have H7 := Lib.hid h7
      have HDDW := Lib.hid hDDw
      have HX1 : Hid True := trivial
      have h45 := E5.out.h45
      clear q6 r6 l6 h7 hDDw hparse
      go_wp2_with (have hq := HX1; go_at_call 55; go_must (refine rnumr_any N4 2 s _ _ (n6 : Int) s6 (HQ6).out w _ (D5).out.hb (D5).out.hlt (D5).out.hN (D5).out.hrow (D5).out.hbs (Nat.le_trans (D5).out.hlen (by decide)) _ ?_); intro e1 d1 w7 hr' hb' hg'; have D6 := Lib.hid (DR.step (D5).out (L6.out) hr' hb' hg'); (have E6 := Lib.hid (E5.out.step hg')); have HX2 : Hid True := trivial; clear hq HX1 hr' hb' hg')
      clear HX2 D5 E5 g1
      go_loopg [9] n6 (fun gn i wr => ∃ (k j : Nat) (s : Rs) (Q : List Int) (ra : Option Addr) (rc : Nat) (da : Option Addr) (dc : Nat), j + k = n6 ∧ gn = k ∧ i = .int .i64 j ∧ Q.length + k ≤ n6 ∧ Hid (dropsR false k s Q = (DD, s7)) ∧ Hid (DR w wr N4 97 ra rc s) ∧ Hid (DL wr w.heap.size N4 N5 x1 x2 x3 (.slice pa P.length pc) (.slice da Q.length dc) P Q))
      case atStart => exact ⟨n6, 0, s6, [], e1, d1, none, 0, Nat.zero_add _, rfl, rfl, by simp, H7, D6, E6⟩
      case round =>
        obtain ⟨k, j, s, Q, ra, rc, da, dc, hk, hgn, rfl, hQk, HAD, D5, E5⟩ := hrel
        clear D6 E6
        obtain ⟨wo, rfl⟩ : ∃ x, x = wr := ⟨_, rfl⟩
        have g1 : wo.cell? ⟨N4, 1, none⟩ = some (.bool s.bad) := cell_of_row wo N4 1 _ _ _ D5.out.hrow
        by_cases hk0 : k = 0
        · subst hk0
          obtain ⟨rfl, rfl⟩ : Q = DD ∧ s = s7 := by
            have := HAD.out
            rw [dropsR] at this
            cases this
            exact ⟨rfl, rfl⟩
          have hjn : ¬ (j : Int) < (n6 : Int) := by omega
          clear hgn
          cases hbad : s.bad with
          | true =>
            rw [hbad] at g1
            obtain ⟨⟨X, er⟩, hX⟩ : ∃ q, encL ⟨x1, x2, x3, P, Q⟩ = q := ⟨_, rfl⟩
            have hdec := HD.out
            unfold decL at hdec
            rw [HPARSE.out] at hdec
            simp only at hdec
            rw [hX] at hdec
            have HDEC := Lib.hid hdec
            have HX := Lib.hid hX
            obtain ⟨g50, g51, g52, g53, g54⟩ := pb_of_row E5.out.h5
            have HPV := Lib.hid E5.out.hp.pls
            have HQV := Lib.hid (is_of_owns (L := Q) E5.out.hq rfl)
            have hhb := D5.out.hb
            clear hdec hX
            have hz := HDEC.out
            rw [hbad, Bool.true_or, if_pos rfl] at hz
            cases hz
            go_wp2_with (first
              | (go_at_call 24; go_must (refine renc_any x1 x2 x3 _ _ P Q X _ HX.out _ HPV.out HQV.out (by omega) _ ?_); intro ea ec w9 ho9 hb9; have b9 := Lib.hid (below_then hhb hb9 hhb.size); have R2 := Lib.hid (row_on E5.out.h2 hb9); have R4 := row_on D5.out.hrow hb9; have k41 : w9.cell? ⟨N4, 1, none⟩ = some (.bool true) := (by have h := cell_of_row w9 N4 1 _ _ _ R4; rw [hbad] at h; exact h); have E9 := Lib.hid (E5.out.below hb9); have HO9 := Lib.hid ho9; have HV9 := Lib.hid (HV.out.below b9.out); obtain ⟨l50, l51, l52, l53, l54⟩ := pb_of_row E9.out.h5; have cv1 := run_conv_bs (P := Try.prog) Try.underlying39 Try.underlying5 Try.underlying9 (bs_of_owns HO9.out).2; have cv2 := run_conv_bs (P := Try.prog) Try.underlying39 Try.underlying5 Try.underlying9 HV9.out; clear R4 ho9 hb9)
              | (refine wpList_store_row (o := ⟨none, .store 27 (.tmp 2) (.tmp 100), _, _, _, _⟩) (by rfl) 27 (.tmp 2) (.tmp 100) (by rfl) (w.heap.size) _ (by rfl) (by rfl) 27 _ (R2).out (by kernel_rfl) (by rfl) (by simp [Value.oneCell']) ?_))
            refine bodyPost_ret (res_one rfl _ _ w.heap.size 27 #[Value.int .i64 0, Value.int .i64 0, Value.int .i64 0, .slice none 0 0, .slice none 0 0] (0, 0) _ (.int .i64 80) rfl rfl (setRow_heap _ w.heap.size _ _ _ _ R2.out) Try.underlying27 rfl (by kernel_rfl)) rfl ?_
            exact HR.out _ _ _ (PlsO.nil _ _) (World.ownsRow_nil _ _ _ _) (fun n hn => by cases hn) (below_setRow b9.out (Nat.le_refl _) _)
          | false =>
            rw [hbad] at g1
            obtain ⟨⟨X, er⟩, hX⟩ : ∃ q, encL ⟨x1, x2, x3, P, Q⟩ = q := ⟨_, rfl⟩
            have hdec := HD.out
            unfold decL at hdec
            rw [HPARSE.out] at hdec
            simp only at hdec
            rw [hX] at hdec
            have HDEC := Lib.hid hdec
            have HX := Lib.hid hX
            obtain ⟨g50, g51, g52, g53, g54⟩ := pb_of_row E5.out.h5
            have HPV := Lib.hid E5.out.hp.pls
            have HQV := Lib.hid (is_of_owns (L := Q) E5.out.hq rfl)
            have hhb := D5.out.hb
            clear hdec hX
            obtain ⟨eqb, heq⟩ : ∃ b, (X == l) = b := ⟨_, rfl⟩
            have HEQ := Lib.hid heq
            by_cases her : er = 0
            · subst her
              cases eqb with
              | false =>
                have hz := HDEC.out
                have hne : decide (X = l) = false := decide_eq_false (fun e => by have h := HEQ.out; rw [e] at h; simp at h)
                rw [hbad, hne, Bool.and_false, Bool.false_or, Bool.not_false, if_pos rfl] at hz
                cases hz
                go_wp2_with (first
                  | (go_at_call 24; go_must (refine renc_any x1 x2 x3 _ _ P Q X _ HX.out _ HPV.out HQV.out (by omega) _ ?_); intro ea ec w9 ho9 hb9; have b9 := Lib.hid (below_then hhb hb9 hhb.size); have R2 := Lib.hid (row_on E5.out.h2 hb9); have R4 := row_on D5.out.hrow hb9; have k41 : w9.cell? ⟨N4, 1, none⟩ = some (.bool false) := (by have h := cell_of_row w9 N4 1 _ _ _ R4; rw [hbad] at h; exact h); have E9 := Lib.hid (E5.out.below hb9); have HO9 := Lib.hid ho9; have HV9 := Lib.hid (HV.out.below b9.out); obtain ⟨l50, l51, l52, l53, l54⟩ := pb_of_row E9.out.h5; have cv1 := run_conv_bs (P := Try.prog) Try.underlying39 Try.underlying5 Try.underlying9 (bs_of_owns HO9.out).2; have cv2 := run_conv_bs (P := Try.prog) Try.underlying39 Try.underlying5 Try.underlying9 HV9.out; clear R4 ho9 hb9)
                  | (refine wpList_store_row (o := ⟨none, .store 27 (.tmp 2) (.tmp 100), _, _, _, _⟩) (by rfl) 27 (.tmp 2) (.tmp 100) (by rfl) (w.heap.size) _ (by rfl) (by rfl) 27 _ (R2).out (by kernel_rfl) (by rfl) (by simp [Value.oneCell']) ?_))
                refine bodyPost_ret (res_one rfl _ _ w.heap.size 27 #[Value.int .i64 0, Value.int .i64 0, Value.int .i64 0, .slice none 0 0, .slice none 0 0] (0, 0) _ (.int .i64 80) rfl rfl (setRow_heap _ w.heap.size _ _ _ _ R2.out) Try.underlying27 rfl (by kernel_rfl)) rfl ?_
                exact HR.out _ _ _ (PlsO.nil _ _) (World.ownsRow_nil _ _ _ _) (fun n hn => by cases hn) (below_setRow b9.out (Nat.le_refl _) _)
              | true =>
                have hz := HDEC.out
                have hXl : X = l := by simpa using HEQ.out
                rw [hbad, decide_eq_true (rfl : (0 : Int) = 0), decide_eq_true hXl, Bool.and_self, Bool.not_true, Bool.or_self, if_neg (by simp)] at hz
                cases hz
                clear hXl
                go_wp2_with (first
                  | (go_at_call 24; go_must (refine renc_any x1 x2 x3 _ _ P Q X _ HX.out _ HPV.out HQV.out (by omega) _ ?_); intro ea ec w9 ho9 hb9; have b9 := Lib.hid (below_then hhb hb9 hhb.size); have R2 := Lib.hid (row_on E5.out.h2 hb9); have R4 := row_on D5.out.hrow hb9; have k41 : w9.cell? ⟨N4, 1, none⟩ = some (.bool false) := (by have h := cell_of_row w9 N4 1 _ _ _ R4; rw [hbad] at h; exact h); have E9 := Lib.hid (E5.out.below hb9); have HO9 := Lib.hid ho9; have HV9 := Lib.hid (HV.out.below b9.out); obtain ⟨l50, l51, l52, l53, l54⟩ := pb_of_row E9.out.h5; have cv1 := run_conv_bs (P := Try.prog) Try.underlying39 Try.underlying5 Try.underlying9 (bs_of_owns HO9.out).2; have cv2 := run_conv_bs (P := Try.prog) Try.underlying39 Try.underlying5 Try.underlying9 HV9.out; clear R4 ho9 hb9)
                  | (refine wpList_store_row (o := ⟨none, .store 27 (.tmp 2) (.tmp 101), _, _, _, _⟩) (by rfl) 27 (.tmp 2) (.tmp 101) (by rfl) (w.heap.size) _ (by rfl) (by rfl) 27 _ (R2).out (by kernel_rfl) (by rfl) (by simp [Value.oneCell']) ?_))
                refine bodyPost_ret (res_one rfl _ _ w.heap.size 27 #[Value.int .i64 x1, Value.int .i64 x2, Value.int .i64 x3, .slice pa P.length pc, .slice da Q.length dc] (0, 0) _ (.int .i64 0) rfl rfl (setRow_heap _ w.heap.size _ _ _ _ R2.out) Try.underlying27 rfl (by kernel_rfl)) rfl ?_
                have hN25 : w.heap.size < N5 + 1 := by have := E9.out.h24; have := E9.out.h45; omega
                exact HR.out _ _ _ ((E9.out.hp.setRow_low hN25).mono (by omega)) (owns_mono (owns_setRow_low E9.out.hq hN25) (by omega)) HDDW.out (below_setRow b9.out (Nat.le_refl _) _)
            · have hd : (er != 0) = true := by simpa using her
              have hz := HDEC.out
              rw [hbad, decide_eq_false her, Bool.false_and, Bool.false_or, Bool.not_false, if_pos rfl] at hz
              cases hz
              clear her
              go_wp2_with (first
                | (go_at_call 24; go_must (refine renc_any x1 x2 x3 _ _ P Q X _ HX.out _ HPV.out HQV.out (by omega) _ ?_); intro ea ec w9 ho9 hb9; have b9 := Lib.hid (below_then hhb hb9 hhb.size); have R2 := Lib.hid (row_on E5.out.h2 hb9); have R4 := row_on D5.out.hrow hb9; have k41 : w9.cell? ⟨N4, 1, none⟩ = some (.bool false) := (by have h := cell_of_row w9 N4 1 _ _ _ R4; rw [hbad] at h; exact h); have E9 := Lib.hid (E5.out.below hb9); have HO9 := Lib.hid ho9; have HV9 := Lib.hid (HV.out.below b9.out); obtain ⟨l50, l51, l52, l53, l54⟩ := pb_of_row E9.out.h5; have cv1 := run_conv_bs (P := Try.prog) Try.underlying39 Try.underlying5 Try.underlying9 (bs_of_owns HO9.out).2; have cv2 := run_conv_bs (P := Try.prog) Try.underlying39 Try.underlying5 Try.underlying9 HV9.out; clear R4 ho9 hb9)
                | (refine wpList_store_row (o := ⟨none, .store 27 (.tmp 2) (.tmp 100), _, _, _, _⟩) (by rfl) 27 (.tmp 2) (.tmp 100) (by rfl) (w.heap.size) _ (by rfl) (by rfl) 27 _ (R2).out (by kernel_rfl) (by rfl) (by simp [Value.oneCell']) ?_))
              refine bodyPost_ret (res_one rfl _ _ w.heap.size 27 #[Value.int .i64 0, Value.int .i64 0, Value.int .i64 0, .slice none 0 0, .slice none 0 0] (0, 0) _ (.int .i64 80) rfl rfl (setRow_heap _ w.heap.size _ _ _ _ R2.out) Try.underlying27 rfl (by kernel_rfl)) rfl ?_
              exact HR.out _ _ _ (PlsO.nil _ _) (World.ownsRow_nil _ _ _ _) (fun n hn => by cases hn) (below_setRow b9.out (Nat.le_refl _) _)
        have hkp : (j : Int) < (n6 : Int) := by omega
        have hkd : decide ((j : Int) < (n6 : Int)) = true := decide_eq_true hkp
        obtain ⟨k, rfl⟩ : ∃ j, k = j + 1 := ⟨k - 1, by omega⟩
        have HGN := Lib.hid hgn
        clear hgn
        cases hbad : s.bad with
        | true =>
          rw [hbad] at g1
          obtain ⟨rfl, rfl⟩ : Q = DD ∧ s = s7 := by
            have := HAD.out
            rw [dropsR, if_pos hbad] at this
            cases this
            exact ⟨rfl, rfl⟩
          obtain ⟨⟨X, er⟩, hX⟩ : ∃ q, encL ⟨x1, x2, x3, P, Q⟩ = q := ⟨_, rfl⟩
          have hdec := HD.out
          unfold decL at hdec
          rw [HPARSE.out] at hdec
          simp only at hdec
          rw [hX] at hdec
          have HDEC := Lib.hid hdec
          have HX := Lib.hid hX
          obtain ⟨g50, g51, g52, g53, g54⟩ := pb_of_row E5.out.h5
          have HPV := Lib.hid E5.out.hp.pls
          have HQV := Lib.hid (is_of_owns (L := Q) E5.out.hq rfl)
          have hhb := D5.out.hb
          clear hdec hX
          have hz := HDEC.out
          rw [hbad, Bool.true_or, if_pos rfl] at hz
          cases hz
          go_wp2_with (first
            | (go_at_call 24; go_must (refine renc_any x1 x2 x3 _ _ P Q X _ HX.out _ HPV.out HQV.out (by omega) _ ?_); intro ea ec w9 ho9 hb9; have b9 := Lib.hid (below_then hhb hb9 hhb.size); have R2 := Lib.hid (row_on E5.out.h2 hb9); have R4 := row_on D5.out.hrow hb9; have k41 : w9.cell? ⟨N4, 1, none⟩ = some (.bool true) := (by have h := cell_of_row w9 N4 1 _ _ _ R4; rw [hbad] at h; exact h); have E9 := Lib.hid (E5.out.below hb9); have HO9 := Lib.hid ho9; have HV9 := Lib.hid (HV.out.below b9.out); obtain ⟨l50, l51, l52, l53, l54⟩ := pb_of_row E9.out.h5; have cv1 := run_conv_bs (P := Try.prog) Try.underlying39 Try.underlying5 Try.underlying9 (bs_of_owns HO9.out).2; have cv2 := run_conv_bs (P := Try.prog) Try.underlying39 Try.underlying5 Try.underlying9 HV9.out; clear R4 ho9 hb9)
            | (refine wpList_store_row (o := ⟨none, .store 27 (.tmp 2) (.tmp 100), _, _, _, _⟩) (by rfl) 27 (.tmp 2) (.tmp 100) (by rfl) (w.heap.size) _ (by rfl) (by rfl) 27 _ (R2).out (by kernel_rfl) (by rfl) (by simp [Value.oneCell']) ?_))
          refine bodyPost_ret (res_one rfl _ _ w.heap.size 27 #[Value.int .i64 0, Value.int .i64 0, Value.int .i64 0, .slice none 0 0, .slice none 0 0] (0, 0) _ (.int .i64 80) rfl rfl (setRow_heap _ w.heap.size _ _ _ _ R2.out) Try.underlying27 rfl (by kernel_rfl)) rfl ?_
          exact HR.out _ _ _ (PlsO.nil _ _) (World.ownsRow_nil _ _ _ _) (fun n hn => by cases hn) (below_setRow b9.out (Nat.le_refl _) _)
        | false =>
          rw [hbad] at g1
          obtain ⟨⟨y, t1⟩, q1⟩ : ∃ q, numR false 8 s = q := ⟨_, rfl⟩
          have u1 : t1.b.length ≤ s.b.length := by have := numR_len false 8 s; rw [q1] at this; exact this
          have hnx : dropsR false k t1 (Q ++ [y]) = (DD, s7) := by
            have := HAD.out
            rw [dropsR, if_neg (by simp [hbad]), q1] at this
            exact this
          have HQ1 := Lib.hid q1
          have U1 := Lib.hid u1
          have HNX := Lib.hid hnx
          have D5d := Lib.hid (D5.out.below (Below.refl wo.heap.size wo).drew)
          have E5d := Lib.hid (E5.out.below (Below.refl wo.heap.size wo).drew)
          have f54 := cell_of_row wo.drew N5 4 _ _ _ E5d.out.h5
          clear q1 u1 hnx
          go_wp2_with fail
          go_region_law (first
            | (go_simp; go_at_call 55; refine rnumr_any N4 8 s _ _ y t1 HQ1.out w _ D5d.out.hb D5d.out.hlt D5d.out.hN D5d.out.hrow D5d.out.hbs (Nat.le_trans D5d.out.hlen (by decide)) _ ?_; intro e2 d2 w8 hr' hb' hg'; have D6 := Lib.hid (DR.step D5d.out U1.out hr' hb' hg'); have E6 := Lib.hid (E5d.out.step hg'); have f64 := cell_of_row w8 N5 4 _ _ _ E6.out.h5; have f64a := cell_later ((Below.refl w8.heap.size w8).alloc (Nat.le_refl _) (Obj.cells #[Value.int .i64 y] 3)) f64; have hN58 : N5 < w8.heap.size := (Array.getElem?_eq_some_iff.1 E6.out.h5).1; have hrow8 := E6.out.hq.alloc (Obj.cells #[Value.int .i64 y] 3))
            | (refine step_appAt (by rfl) (.tmp 74) (.tmp 77) 25 (by rfl) (N5 + 1) 3 (.int .i64 0) 1 8 Try.underlying25 infoInt rfl (by decide) da Q.length dc _ (by rfl) hrow8 (some ⟨w8.heap.size, 0, none⟩) 1 1 [Value.int .i64 y] (by rfl) (rd_lit w8 #[Value.int .i64 y] 3 1 1 rfl) (one_oneCell _ _) (fun h => by cases h) (by unfold maxLen; omega) (by omega) (by simp; omega) ?_; intro ad6 c6 w14 hown6 hg6 hat6; have r5 := block_grown hg6 (block_alloc (o' := Obj.cells #[Value.int .i64 y] 3) E6.out.h5) (own_ne5 hrow8); have k5c := cell_of_row w14 N5 4 _ _ _ r5; have k5f := frozen_block r5 4))
          all_goals
            have hown5 : ∀ k, (Value.slice da Q.length dc).ownBlock = some k → N5 < k := fun k hk => by
              have := (hrow8.lt k hk).1
              omega
            have d15 : Hid (DR w (w14.setCell ⟨N5, 4, none⟩ (.slice ad6 (Q.length + 1) c6)) N4 97 e2 d2 t1) :=
              ((D6.out.below ((Below.refl _ _).alloc (Nat.le_refl _) (Obj.cells #[Value.int .i64 y] 3))).grow hg6 (fun k hk => Nat.lt_trans h45 (hown5 k hk))).grow (grownBy_setCell w14 ⟨N5, 4, none⟩ _) (fun k hk => by cases hk; exact h45)
            have HLEN : Hid (Q.length + 1 = (Q ++ [y]).length) := by show _ = _; rw [List.length_append]; rfl
            have e15 : Hid (DL (w14.setCell ⟨N5, 4, none⟩ (.slice ad6 (Q.length + 1) c6)) w.heap.size N4 N5 x1 x2 x3 (.slice pa P.length pc) (.slice ad6 (Q ++ [y]).length c6) P (Q ++ [y])) := by
              refine ⟨E6.out.h24, E6.out.h45, ?_, ?_, ?_, ?_⟩
              · have h24 := E6.out.h24
                rw [heap_setCell_other _ _ _ _ (by show w.heap.size ≠ N5; omega)]
                exact block_grown hg6 (block_alloc E6.out.h2) (fun e => by have := hown5 _ e; omega)
              · rw [heap_setCell_same w14 N5 4 _ _ _ r5, ← HLEN.out]
                rfl
              · exact ((E6.out.hp.below ((Below.refl _ _).alloc (Nat.le_refl _) (Obj.cells #[Value.int .i64 y] 3))).grownInt hrow8 hg6).low (a := ⟨N5, 4, none⟩) (by show N5 < N5 + 1; omega) _
              · rw [← HLEN.out, iv_append]
                exact ownsRow_setCell_below hown6 (by show N5 < N5 + 1; omega) _
            clear hr' hb' hg' f64 f64a hN58 hrow8 hown6 hg6 hat6 r5 k5c k5f hown5 D6 E6 D5d E5d f54
            go_wp2_with fail
            go_roundg k
            case measure => have := HGN.out; omega
            case rel => exact ⟨k, j + 1, t1, Q ++ [y], e2, d2, ad6, c6, by omega, rfl, by go_num, (by rw [← HLEN.out]; omega), HNX, d15, e15⟩
    have hkp : (j : Int) < (n4 : Int) := by omega
    have hkd : decide ((j : Int) < (n4 : Int)) = true := decide_eq_true hkp
    obtain ⟨k, rfl⟩ : ∃ j, k = j + 1 := ⟨k - 1, by omega⟩
    have HGN := Lib.hid hgn
    clear hgn
    cases hbad : s.bad with
    | true =>
      rw [hbad] at g1
      obtain ⟨rfl, rfl⟩ : P = AD ∧ s = s5 := by
        have := HAD.out
        rw [addsR, if_pos hbad] at this
        cases this
        exact ⟨rfl, rfl⟩
      obtain ⟨⟨x6, s6⟩, q6⟩ : ∃ q, numR false 2 s = q := ⟨_, rfl⟩
      have r6 := numR_two false 2 (by omega) s
      rw [q6] at r6
      have r6' : 0 ≤ x6 ∧ x6 < 65536 := r6
      obtain ⟨n6, rfl⟩ : ∃ n : Nat, x6 = n := ⟨x6.toNat, by omega⟩
      have l6 : s6.b.length ≤ s.b.length := by have := numR_len false 2 s; rw [q6] at this; exact this
      have HQ6 := Lib.hid q6
      have L6 := Lib.hid l6
      obtain ⟨⟨DD, s7⟩, h7⟩ : ∃ q, dropsR false n6 s6 [] = q := ⟨_, rfl⟩
      have hDDl : DD.length ≤ 65535 := by have := dropsR_len false n6 s6 []; rw [h7] at this; simp at this; omega
      have hDDw : ∀ x ∈ DD, (Lit.int .i64 x).wf = true := by have := dropsR_wf false n6 s6 [] (fun x hx => by cases hx); rw [h7] at this; exact this
      have hparse : parseR false l = (⟨x1, x2, x3, P, DD⟩, s7) := by
        unfold parseR
        simp only [H1.out, H2.out, H3.out, H4.out, Int.toNat_natCast, H5.out, HQ6.out, h7]
      have HPARSE := Lib.hid hparse
      have H7 := Lib.hid h7
      have HDDW := Lib.hid hDDw
      have HX1 : Hid True := trivial
      have h45 := E5.out.h45
      clear q6 r6 l6 h7 hDDw hparse
      go_wp2_with (have hq := HX1; go_at_call 55; go_must (refine rnumr_any N4 2 s _ _ (n6 : Int) s6 (HQ6).out w _ (D5).out.hb (D5).out.hlt (D5).out.hN (D5).out.hrow (D5).out.hbs (Nat.le_trans (D5).out.hlen (by decide)) _ ?_); intro e1 d1 w7 hr' hb' hg'; have D6 := Lib.hid (DR.step (D5).out (L6.out) hr' hb' hg'); (have E6 := Lib.hid (E5.out.step hg')); have HX2 : Hid True := trivial; clear hq HX1 hr' hb' hg')
      clear HX2 D5 E5 g1
      go_loopg [9] n6 (fun gn i wr => ∃ (k j : Nat) (s : Rs) (Q : List Int) (ra : Option Addr) (rc : Nat) (da : Option Addr) (dc : Nat), j + k = n6 ∧ gn = k ∧ i = .int .i64 j ∧ Q.length + k ≤ n6 ∧ Hid (dropsR false k s Q = (DD, s7)) ∧ Hid (DR w wr N4 97 ra rc s) ∧ Hid (DL wr w.heap.size N4 N5 x1 x2 x3 (.slice pa P.length pc) (.slice da Q.length dc) P Q))
      case atStart => exact ⟨n6, 0, s6, [], e1, d1, none, 0, Nat.zero_add _, rfl, rfl, by simp, H7, D6, E6⟩
      case round =>
        obtain ⟨k, j, s, Q, ra, rc, da, dc, hk, hgn, rfl, hQk, HAD, D5, E5⟩ := hrel
        clear D6 E6
        obtain ⟨wo, rfl⟩ : ∃ x, x = wr := ⟨_, rfl⟩
        have g1 : wo.cell? ⟨N4, 1, none⟩ = some (.bool s.bad) := cell_of_row wo N4 1 _ _ _ D5.out.hrow
        by_cases hk0 : k = 0
        · subst hk0
          obtain ⟨rfl, rfl⟩ : Q = DD ∧ s = s7 := by
            have := HAD.out
            rw [dropsR] at this
            cases this
            exact ⟨rfl, rfl⟩
          have hjn : ¬ (j : Int) < (n6 : Int) := by omega
          clear hgn
          cases hbad : s.bad with
          | true =>
            rw [hbad] at g1
            obtain ⟨⟨X, er⟩, hX⟩ : ∃ q, encL ⟨x1, x2, x3, P, Q⟩ = q := ⟨_, rfl⟩
            have hdec := HD.out
            unfold decL at hdec
            rw [HPARSE.out] at hdec
            simp only at hdec
            rw [hX] at hdec
            have HDEC := Lib.hid hdec
            have HX := Lib.hid hX
            obtain ⟨g50, g51, g52, g53, g54⟩ := pb_of_row E5.out.h5
            have HPV := Lib.hid E5.out.hp.pls
            have HQV := Lib.hid (is_of_owns (L := Q) E5.out.hq rfl)
            have hhb := D5.out.hb
            clear hdec hX
            have hz := HDEC.out
            rw [hbad, Bool.true_or, if_pos rfl] at hz
            cases hz
            go_wp2_with (first
              | (go_at_call 24; go_must (refine renc_any x1 x2 x3 _ _ P Q X _ HX.out _ HPV.out HQV.out (by omega) _ ?_); intro ea ec w9 ho9 hb9; have b9 := Lib.hid (below_then hhb hb9 hhb.size); have R2 := Lib.hid (row_on E5.out.h2 hb9); have R4 := row_on D5.out.hrow hb9; have k41 : w9.cell? ⟨N4, 1, none⟩ = some (.bool true) := (by have h := cell_of_row w9 N4 1 _ _ _ R4; rw [hbad] at h; exact h); have E9 := Lib.hid (E5.out.below hb9); have HO9 := Lib.hid ho9; have HV9 := Lib.hid (HV.out.below b9.out); obtain ⟨l50, l51, l52, l53, l54⟩ := pb_of_row E9.out.h5; have cv1 := run_conv_bs (P := Try.prog) Try.underlying39 Try.underlying5 Try.underlying9 (bs_of_owns HO9.out).2; have cv2 := run_conv_bs (P := Try.prog) Try.underlying39 Try.underlying5 Try.underlying9 HV9.out; clear R4 ho9 hb9)
              | (refine wpList_store_row (o := ⟨none, .store 27 (.tmp 2) (.tmp 100), _, _, _, _⟩) (by rfl) 27 (.tmp 2) (.tmp 100) (by rfl) (w.heap.size) _ (by rfl) (by rfl) 27 _ (R2).out (by kernel_rfl) (by rfl) (by simp [Value.oneCell']) ?_))
            refine bodyPost_ret (res_one rfl _ _ w.heap.size 27 #[Value.int .i64 0, Value.int .i64 0, Value.int .i64 0, .slice none 0 0, .slice none 0 0] (0, 0) _ (.int .i64 80) rfl rfl (setRow_heap _ w.heap.size _ _ _ _ R2.out) Try.underlying27 rfl (by kernel_rfl)) rfl ?_
            exact HR.out _ _ _ (PlsO.nil _ _) (World.ownsRow_nil _ _ _ _) (fun n hn => by cases hn) (below_setRow b9.out (Nat.le_refl _) _)
          | false =>
            rw [hbad] at g1
            obtain ⟨⟨X, er⟩, hX⟩ : ∃ q, encL ⟨x1, x2, x3, P, Q⟩ = q := ⟨_, rfl⟩
            have hdec := HD.out
            unfold decL at hdec
            rw [HPARSE.out] at hdec
            simp only at hdec
            rw [hX] at hdec
            have HDEC := Lib.hid hdec
            have HX := Lib.hid hX
            obtain ⟨g50, g51, g52, g53, g54⟩ := pb_of_row E5.out.h5
            have HPV := Lib.hid E5.out.hp.pls
            have HQV := Lib.hid (is_of_owns (L := Q) E5.out.hq rfl)
            have hhb := D5.out.hb
            clear hdec hX
            obtain ⟨eqb, heq⟩ : ∃ b, (X == l) = b := ⟨_, rfl⟩
            have HEQ := Lib.hid heq
            by_cases her : er = 0
            · subst her
              cases eqb with
              | false =>
                have hz := HDEC.out
                have hne : decide (X = l) = false := decide_eq_false (fun e => by have h := HEQ.out; rw [e] at h; simp at h)
                rw [hbad, hne, Bool.and_false, Bool.false_or, Bool.not_false, if_pos rfl] at hz
                cases hz
                go_wp2_with (first
                  | (go_at_call 24; go_must (refine renc_any x1 x2 x3 _ _ P Q X _ HX.out _ HPV.out HQV.out (by omega) _ ?_); intro ea ec w9 ho9 hb9; have b9 := Lib.hid (below_then hhb hb9 hhb.size); have R2 := Lib.hid (row_on E5.out.h2 hb9); have R4 := row_on D5.out.hrow hb9; have k41 : w9.cell? ⟨N4, 1, none⟩ = some (.bool false) := (by have h := cell_of_row w9 N4 1 _ _ _ R4; rw [hbad] at h; exact h); have E9 := Lib.hid (E5.out.below hb9); have HO9 := Lib.hid ho9; have HV9 := Lib.hid (HV.out.below b9.out); obtain ⟨l50, l51, l52, l53, l54⟩ := pb_of_row E9.out.h5; have cv1 := run_conv_bs (P := Try.prog) Try.underlying39 Try.underlying5 Try.underlying9 (bs_of_owns HO9.out).2; have cv2 := run_conv_bs (P := Try.prog) Try.underlying39 Try.underlying5 Try.underlying9 HV9.out; clear R4 ho9 hb9)
                  | (refine wpList_store_row (o := ⟨none, .store 27 (.tmp 2) (.tmp 100), _, _, _, _⟩) (by rfl) 27 (.tmp 2) (.tmp 100) (by rfl) (w.heap.size) _ (by rfl) (by rfl) 27 _ (R2).out (by kernel_rfl) (by rfl) (by simp [Value.oneCell']) ?_))
                refine bodyPost_ret (res_one rfl _ _ w.heap.size 27 #[Value.int .i64 0, Value.int .i64 0, Value.int .i64 0, .slice none 0 0, .slice none 0 0] (0, 0) _ (.int .i64 80) rfl rfl (setRow_heap _ w.heap.size _ _ _ _ R2.out) Try.underlying27 rfl (by kernel_rfl)) rfl ?_
                exact HR.out _ _ _ (PlsO.nil _ _) (World.ownsRow_nil _ _ _ _) (fun n hn => by cases hn) (below_setRow b9.out (Nat.le_refl _) _)
              | true =>
                have hz := HDEC.out
                have hXl : X = l := by simpa using HEQ.out
                rw [hbad, decide_eq_true (rfl : (0 : Int) = 0), decide_eq_true hXl, Bool.and_self, Bool.not_true, Bool.or_self, if_neg (by simp)] at hz
                cases hz
                clear hXl
                go_wp2_with (first
                  | (go_at_call 24; go_must (refine renc_any x1 x2 x3 _ _ P Q X _ HX.out _ HPV.out HQV.out (by omega) _ ?_); intro ea ec w9 ho9 hb9; have b9 := Lib.hid (below_then hhb hb9 hhb.size); have R2 := Lib.hid (row_on E5.out.h2 hb9); have R4 := row_on D5.out.hrow hb9; have k41 : w9.cell? ⟨N4, 1, none⟩ = some (.bool false) := (by have h := cell_of_row w9 N4 1 _ _ _ R4; rw [hbad] at h; exact h); have E9 := Lib.hid (E5.out.below hb9); have HO9 := Lib.hid ho9; have HV9 := Lib.hid (HV.out.below b9.out); obtain ⟨l50, l51, l52, l53, l54⟩ := pb_of_row E9.out.h5; have cv1 := run_conv_bs (P := Try.prog) Try.underlying39 Try.underlying5 Try.underlying9 (bs_of_owns HO9.out).2; have cv2 := run_conv_bs (P := Try.prog) Try.underlying39 Try.underlying5 Try.underlying9 HV9.out; clear R4 ho9 hb9)
                  | (refine wpList_store_row (o := ⟨none, .store 27 (.tmp 2) (.tmp 101), _, _, _, _⟩) (by rfl) 27 (.tmp 2) (.tmp 101) (by rfl) (w.heap.size) _ (by rfl) (by rfl) 27 _ (R2).out (by kernel_rfl) (by rfl) (by simp [Value.oneCell']) ?_))
                refine bodyPost_ret (res_one rfl _ _ w.heap.size 27 #[Value.int .i64 x1, Value.int .i64 x2, Value.int .i64 x3, .slice pa P.length pc, .slice da Q.length dc] (0, 0) _ (.int .i64 0) rfl rfl (setRow_heap _ w.heap.size _ _ _ _ R2.out) Try.underlying27 rfl (by kernel_rfl)) rfl ?_
                have hN25 : w.heap.size < N5 + 1 := by have := E9.out.h24; have := E9.out.h45; omega
                exact HR.out _ _ _ ((E9.out.hp.setRow_low hN25).mono (by omega)) (owns_mono (owns_setRow_low E9.out.hq hN25) (by omega)) HDDW.out (below_setRow b9.out (Nat.le_refl _) _)
            · have hd : (er != 0) = true := by simpa using her
              have hz := HDEC.out
              rw [hbad, decide_eq_false her, Bool.false_and, Bool.false_or, Bool.not_false, if_pos rfl] at hz
              cases hz
              clear her
              go_wp2_with (first
                | (go_at_call 24; go_must (refine renc_any x1 x2 x3 _ _ P Q X _ HX.out _ HPV.out HQV.out (by omega) _ ?_); intro ea ec w9 ho9 hb9; have b9 := Lib.hid (below_then hhb hb9 hhb.size); have R2 := Lib.hid (row_on E5.out.h2 hb9); have R4 := row_on D5.out.hrow hb9; have k41 : w9.cell? ⟨N4, 1, none⟩ = some (.bool false) := (by have h := cell_of_row w9 N4 1 _ _ _ R4; rw [hbad] at h; exact h); have E9 := Lib.hid (E5.out.below hb9); have HO9 := Lib.hid ho9; have HV9 := Lib.hid (HV.out.below b9.out); obtain ⟨l50, l51, l52, l53, l54⟩ := pb_of_row E9.out.h5; have cv1 := run_conv_bs (P := Try.prog) Try.underlying39 Try.underlying5 Try.underlying9 (bs_of_owns HO9.out).2; have cv2 := run_conv_bs (P := Try.prog) Try.underlying39 Try.underlying5 Try.underlying9 HV9.out; clear R4 ho9 hb9)
                | (refine wpList_store_row (o := ⟨none, .store 27 (.tmp 2) (.tmp 100), _, _, _, _⟩) (by rfl) 27 (.tmp 2) (.tmp 100) (by rfl) (w.heap.size) _ (by rfl) (by rfl) 27 _ (R2).out (by kernel_rfl) (by rfl) (by simp [Value.oneCell']) ?_))
              refine bodyPost_ret (res_one rfl _ _ w.heap.size 27 #[Value.int .i64 0, Value.int .i64 0, Value.int .i64 0, .slice none 0 0, .slice none 0 0] (0, 0) _ (.int .i64 80) rfl rfl (setRow_heap _ w.heap.size _ _ _ _ R2.out) Try.underlying27 rfl (by kernel_rfl)) rfl ?_
              exact HR.out _ _ _ (PlsO.nil _ _) (World.ownsRow_nil _ _ _ _) (fun n hn => by cases hn) (below_setRow b9.out (Nat.le_refl _) _)
        have hkp : (j : Int) < (n6 : Int) := by omega
        have hkd : decide ((j : Int) < (n6 : Int)) = true := decide_eq_true hkp
        obtain ⟨k, rfl⟩ : ∃ j, k = j + 1 := ⟨k - 1, by omega⟩
        have HGN := Lib.hid hgn
        clear hgn
        cases hbad : s.bad with
        | true =>
          rw [hbad] at g1
          obtain ⟨rfl, rfl⟩ : Q = DD ∧ s = s7 := by
            have := HAD.out
            rw [dropsR, if_pos hbad] at this
            cases this
            exact ⟨rfl, rfl⟩
          obtain ⟨⟨X, er⟩, hX⟩ : ∃ q, encL ⟨x1, x2, x3, P, Q⟩ = q := ⟨_, rfl⟩
          have hdec := HD.out
          unfold decL at hdec
          rw [HPARSE.out] at hdec
          simp only at hdec
          rw [hX] at hdec
          have HDEC := Lib.hid hdec
          have HX := Lib.hid hX
          obtain ⟨g50, g51, g52, g53, g54⟩ := pb_of_row E5.out.h5
          have HPV := Lib.hid E5.out.hp.pls
          have HQV := Lib.hid (is_of_owns (L := Q) E5.out.hq rfl)
          have hhb := D5.out.hb
          clear hdec hX
          have hz := HDEC.out
          rw [hbad, Bool.true_or, if_pos rfl] at hz
          cases hz
          go_wp2_with (first
            | (go_at_call 24; go_must (refine renc_any x1 x2 x3 _ _ P Q X _ HX.out _ HPV.out HQV.out (by omega) _ ?_); intro ea ec w9 ho9 hb9; have b9 := Lib.hid (below_then hhb hb9 hhb.size); have R2 := Lib.hid (row_on E5.out.h2 hb9); have R4 := row_on D5.out.hrow hb9; have k41 : w9.cell? ⟨N4, 1, none⟩ = some (.bool true) := (by have h := cell_of_row w9 N4 1 _ _ _ R4; rw [hbad] at h; exact h); have E9 := Lib.hid (E5.out.below hb9); have HO9 := Lib.hid ho9; have HV9 := Lib.hid (HV.out.below b9.out); obtain ⟨l50, l51, l52, l53, l54⟩ := pb_of_row E9.out.h5; have cv1 := run_conv_bs (P := Try.prog) Try.underlying39 Try.underlying5 Try.underlying9 (bs_of_owns HO9.out).2; have cv2 := run_conv_bs (P := Try.prog) Try.underlying39 Try.underlying5 Try.underlying9 HV9.out; clear R4 ho9 hb9)
            | (refine wpList_store_row (o := ⟨none, .store 27 (.tmp 2) (.tmp 100), _, _, _, _⟩) (by rfl) 27 (.tmp 2) (.tmp 100) (by rfl) (w.heap.size) _ (by rfl) (by rfl) 27 _ (R2).out (by kernel_rfl) (by rfl) (by simp [Value.oneCell']) ?_))
          refine bodyPost_ret (res_one rfl _ _ w.heap.size 27 #[Value.int .i64 0, Value.int .i64 0, Value.int .i64 0, .slice none 0 0, .slice none 0 0] (0, 0) _ (.int .i64 80) rfl rfl (setRow_heap _ w.heap.size _ _ _ _ R2.out) Try.underlying27 rfl (by kernel_rfl)) rfl ?_
          exact HR.out _ _ _ (PlsO.nil _ _) (World.ownsRow_nil _ _ _ _) (fun n hn => by cases hn) (below_setRow b9.out (Nat.le_refl _) _)
        | false =>
          rw [hbad] at g1
          obtain ⟨⟨y, t1⟩, q1⟩ : ∃ q, numR false 8 s = q := ⟨_, rfl⟩
          have u1 : t1.b.length ≤ s.b.length := by have := numR_len false 8 s; rw [q1] at this; exact this
          have hnx : dropsR false k t1 (Q ++ [y]) = (DD, s7) := by
            have := HAD.out
            rw [dropsR, if_neg (by simp [hbad]), q1] at this
            exact this
          have HQ1 := Lib.hid q1
          have U1 := Lib.hid u1
          have HNX := Lib.hid hnx
          have D5d := Lib.hid (D5.out.below (Below.refl wo.heap.size wo).drew)
          have E5d := Lib.hid (E5.out.below (Below.refl wo.heap.size wo).drew)
          have f54 := cell_of_row wo.drew N5 4 _ _ _ E5d.out.h5
          clear q1 u1 hnx
          go_wp2_with fail
          go_region_law (first
            | (go_simp; go_at_call 55; refine rnumr_any N4 8 s _ _ y t1 HQ1.out w _ D5d.out.hb D5d.out.hlt D5d.out.hN D5d.out.hrow D5d.out.hbs (Nat.le_trans D5d.out.hlen (by decide)) _ ?_; intro e2 d2 w8 hr' hb' hg'; have D6 := Lib.hid (DR.step D5d.out U1.out hr' hb' hg'); have E6 := Lib.hid (E5d.out.step hg'); have f64 := cell_of_row w8 N5 4 _ _ _ E6.out.h5; have f64a := cell_later ((Below.refl w8.heap.size w8).alloc (Nat.le_refl _) (Obj.cells #[Value.int .i64 y] 3)) f64; have hN58 : N5 < w8.heap.size := (Array.getElem?_eq_some_iff.1 E6.out.h5).1; have hrow8 := E6.out.hq.alloc (Obj.cells #[Value.int .i64 y] 3))
            | (refine step_appAt (by rfl) (.tmp 74) (.tmp 77) 25 (by rfl) (N5 + 1) 3 (.int .i64 0) 1 8 Try.underlying25 infoInt rfl (by decide) da Q.length dc _ (by rfl) hrow8 (some ⟨w8.heap.size, 0, none⟩) 1 1 [Value.int .i64 y] (by rfl) (rd_lit w8 #[Value.int .i64 y] 3 1 1 rfl) (one_oneCell _ _) (fun h => by cases h) (by unfold maxLen; omega) (by omega) (by simp; omega) ?_; intro ad6 c6 w14 hown6 hg6 hat6; have r5 := block_grown hg6 (block_alloc (o' := Obj.cells #[Value.int .i64 y] 3) E6.out.h5) (own_ne5 hrow8); have k5c := cell_of_row w14 N5 4 _ _ _ r5; have k5f := frozen_block r5 4))
          all_goals
            have hown5 : ∀ k, (Value.slice da Q.length dc).ownBlock = some k → N5 < k := fun k hk => by
              have := (hrow8.lt k hk).1
              omega
            have d15 : Hid (DR w (w14.setCell ⟨N5, 4, none⟩ (.slice ad6 (Q.length + 1) c6)) N4 97 e2 d2 t1) :=
              ((D6.out.below ((Below.refl _ _).alloc (Nat.le_refl _) (Obj.cells #[Value.int .i64 y] 3))).grow hg6 (fun k hk => Nat.lt_trans h45 (hown5 k hk))).grow (grownBy_setCell w14 ⟨N5, 4, none⟩ _) (fun k hk => by cases hk; exact h45)
            have HLEN : Hid (Q.length + 1 = (Q ++ [y]).length) := by show _ = _; rw [List.length_append]; rfl
            have e15 : Hid (DL (w14.setCell ⟨N5, 4, none⟩ (.slice ad6 (Q.length + 1) c6)) w.heap.size N4 N5 x1 x2 x3 (.slice pa P.length pc) (.slice ad6 (Q ++ [y]).length c6) P (Q ++ [y])) := by
              refine ⟨E6.out.h24, E6.out.h45, ?_, ?_, ?_, ?_⟩
              · have h24 := E6.out.h24
                rw [heap_setCell_other _ _ _ _ (by show w.heap.size ≠ N5; omega)]
                exact block_grown hg6 (block_alloc E6.out.h2) (fun e => by have := hown5 _ e; omega)
              · rw [heap_setCell_same w14 N5 4 _ _ _ r5, ← HLEN.out]
                rfl
              · exact ((E6.out.hp.below ((Below.refl _ _).alloc (Nat.le_refl _) (Obj.cells #[Value.int .i64 y] 3))).grownInt hrow8 hg6).low (a := ⟨N5, 4, none⟩) (by show N5 < N5 + 1; omega) _
              · rw [← HLEN.out, iv_append]
                exact ownsRow_setCell_below hown6 (by show N5 < N5 + 1; omega) _
            clear hr' hb' hg' f64 f64a hN58 hrow8 hown6 hg6 hat6 r5 k5c k5f hown5 D6 E6 D5d E5d f54
            go_wp2_with fail
            go_roundg k
            case measure => have := HGN.out; omega
            case rel => exact ⟨k, j + 1, t1, Q ++ [y], e2, d2, ad6, c6, by omega, rfl, by go_num, (by rw [← HLEN.out]; omega), HNX, d15, e15⟩
    | false =>
      rw [hbad] at g1
      obtain ⟨⟨y1, t1⟩, q1⟩ : ∃ q, numR false 8 s = q := ⟨_, rfl⟩
      obtain ⟨⟨y2, t2⟩, q2⟩ : ∃ q, numR false 1 t1 = q := ⟨_, rfl⟩
      obtain ⟨⟨y3, t3⟩, q3⟩ : ∃ q, numR false 8 t2 = q := ⟨_, rfl⟩
      obtain ⟨⟨y4, t4⟩, q4⟩ : ∃ q, numR false 1 t3 = q := ⟨_, rfl⟩
      have r4 := numR_two false 1 (by omega) t3
      rw [q4] at r4
      have r4' : 0 ≤ y4 ∧ y4 < 256 := r4
      obtain ⟨m4, rfl⟩ : ∃ n : Nat, y4 = n := ⟨y4.toNat, by omega⟩
      have r2 := numR_two false 1 (by omega) t1
      rw [q2] at r2
      have r2' : 0 ≤ y2 ∧ y2 < 256 := r2
      obtain ⟨m2, rfl⟩ : ∃ n : Nat, y2 = n := ⟨y2.toNat, by omega⟩
      obtain ⟨⟨T1, t5⟩, q5⟩ : ∃ q, takeL false m4 t4 = q := ⟨_, rfl⟩
      obtain ⟨⟨y6, t6⟩, q6⟩ : ∃ q, numR false 1 t5 = q := ⟨_, rfl⟩
      have r6 := numR_two false 1 (by omega) t5
      rw [q6] at r6
      have r6' : 0 ≤ y6 ∧ y6 < 256 := r6
      obtain ⟨m6, rfl⟩ : ∃ n : Nat, y6 = n := ⟨y6.toNat, by omega⟩
      obtain ⟨⟨T2, t7⟩, q7⟩ : ∃ q, takeL false m6 t6 = q := ⟨_, rfl⟩
      have hpl : placeR false s = (⟨y1, (m2 : Int), y3, T1, T2⟩, t7) := by
        unfold placeR textR
        simp only [q1, q2, q3, q4, Int.toNat_natCast, q5, q6, q7]
      have hnx : addsR false k t7 (P ++ [⟨y1, (m2 : Int), y3, T1, T2⟩]) = (AD, s5) := by
        have := HAD.out
        rw [addsR, if_neg (by simp [hbad]), hpl] at this
        exact this
      have hplb : PlB ⟨y1, (m2 : Int), y3, T1, T2⟩ := by
        have := placeR_b false s
        rw [hpl] at this
        exact this
      have u1 : t1.b.length ≤ s.b.length := by have := numR_len false 8 s; rw [q1] at this; exact this
      have u2 : t2.b.length ≤ t1.b.length := by have := numR_len false 1 t1; rw [q2] at this; exact this
      have u3 : t3.b.length ≤ t2.b.length := by have := numR_len false 8 t2; rw [q3] at this; exact this
      have u4 : t4.b.length ≤ t3.b.length := by have := numR_len false 1 t3; rw [q4] at this; exact this
      have u5 : t5.b.length ≤ t4.b.length := by have := (takeL_len false m4 t4).2; rw [q5] at this; exact this
      have u6 : t6.b.length ≤ t5.b.length := by have := numR_len false 1 t5; rw [q6] at this; exact this
      have u7 : t7.b.length ≤ t6.b.length := by have := (takeL_len false m6 t6).2; rw [q7] at this; exact this
      have HQ1 := Lib.hid q1
      have HQ2 := Lib.hid q2
      have HQ3 := Lib.hid q3
      have HQ4 := Lib.hid q4
      have HQ5 := Lib.hid q5
      have HQ6 := Lib.hid q6
      have HQ7 := Lib.hid q7
      have U1 := Lib.hid u1
      have U2 := Lib.hid u2
      have U3 := Lib.hid u3
      have U4 := Lib.hid u4
      have U5 := Lib.hid u5
      have U6 := Lib.hid u6
      have U7 := Lib.hid u7
      have HNX := Lib.hid hnx
      have HPLB := Lib.hid hplb
      have HT1 : Hid True := trivial
      have h45 := E5.out.h45
      clear q1 q2 q3 q4 q5 q6 q7 u1 u2 u3 u4 u5 u6 u7 r2 r4 r6 hnx hplb hpl
      go_wp2_with (first
        | (have hq := HT1; go_at_call 55; go_must (refine rnumr_any N4 8 s _ _ y1 t1 (HQ1).out w _ (D5).out.hb (D5).out.hlt (D5).out.hN (D5).out.hrow (D5).out.hbs (Nat.le_trans (D5).out.hlen (by decide)) _ ?_); intro e1 d1 w7 hr' hb' hg'; have D6 := Lib.hid (DR.step (D5).out (U1.out) hr' hb' hg'); (have E6 := Lib.hid (E5.out.step hg')); have HT2 : Hid True := trivial; clear hq HT1 hr' hb' hg')
        | (have hq := HT2; go_at_call 55; go_must (refine rnumr_any N4 1 t1 _ _ (m2 : Int) t2 (HQ2).out w _ (D6).out.hb (D6).out.hlt (D6).out.hN (D6).out.hrow (D6).out.hbs (Nat.le_trans (D6).out.hlen (by decide)) _ ?_); intro e2 d2 w71 hr' hb' hg'; have D7 := Lib.hid (DR.step (D6).out (U2.out) hr' hb' hg'); (have E7 := Lib.hid (E6.out.step hg')); have HT3 : Hid True := trivial; clear hq HT2 hr' hb' hg')
        | (have hq := HT3; go_at_call 55; go_must (refine rnumr_any N4 8 t2 _ _ y3 t3 (HQ3).out w _ (D7).out.hb (D7).out.hlt (D7).out.hN (D7).out.hrow (D7).out.hbs (Nat.le_trans (D7).out.hlen (by decide)) _ ?_); intro e3 d3 w8 hr' hb' hg'; have D8 := Lib.hid (DR.step (D7).out (U3.out) hr' hb' hg'); (have E8 := Lib.hid (E7.out.step hg'); have hal : Below w8.heap.size w8 (w8.alloc (Obj.cells #[Value.int .i64 y1, .int .i64 (m2 : Int), .int .i64 y3, .slice none 0 0, .slice none 0 0] 41)) := (Below.refl _ _).alloc (Nat.le_refl _) _; have D8a := Lib.hid (D8.out.below hal); have P8 := Lib.hid (heap_alloc_new w8 (Obj.cells #[Value.int .i64 y1, .int .i64 (m2 : Int), .int .i64 y3, .slice none 0 0, .slice none 0 0] 41)); have G8 : Hid (w8.grownBy (w8.alloc (Obj.cells #[Value.int .i64 y1, .int .i64 (m2 : Int), .int .i64 y3, .slice none 0 0, .slice none 0 0] 41)) (some N4)) := Lib.hid (grown_bel hal); have hN48 := D8.out.hlt; have hz8 : w8.heap.size < (w8.alloc (Obj.cells #[Value.int .i64 y1, .int .i64 (m2 : Int), .int .i64 y3, .slice none 0 0, .slice none 0 0] 41)).heap.size := (by simp); have hne7 : some N4 ≠ some w8.heap.size := (fun e => by cases e; omega); clear hal); have HT4 : Hid True := trivial; clear hq HT3 hr' hb' hg')
        | (have hq := HT4; go_at_call 55; go_must (refine rnumr_any N4 1 t3 _ _ (m4 : Int) t4 (HQ4).out w _ (D8a).out.hb (D8a).out.hlt (D8a).out.hN (D8a).out.hrow (D8a).out.hbs (Nat.le_trans (D8a).out.hlen (by decide)) _ ?_); intro e4 d4 w9 hr' hb' hg'; have D9 := Lib.hid (DR.step (D8a).out (U4.out) hr' hb' hg'); (have P9 := Lib.hid (block_grown hg' P8.out hne7); have G9 := Lib.hid (grownBy_trans G8.out hg'); have hz9 := Nat.lt_of_lt_of_le hz8 hg'.size); have HT5 : Hid True := trivial; clear hq HT4 hr' hb' hg')
        | (have hq := HT5; go_at_call 56; go_must (refine rtake_any N4 m4 t4 _ _ T1 t5 (HQ5).out w _ (D9).out.hb (D9).out.hlt (D9).out.hN (D9).out.hrow (D9).out.hbs (Nat.le_trans (D9).out.hlen (by decide)) _ ?_); intro xa xc e5 d5 w10 ho' hr' hb' hg'; have D10 := Lib.hid (DR.step (D9).out (U5.out) hr' hb' hg'); (have p10 := block_grown hg' P9.out hne7; have pc3 := cell_of_row w10 w8.heap.size 3 _ _ _ p10; have pf3 := frozen_block p10 3; have D10s : Hid (DR w (w10.setCell ⟨w8.heap.size, 3, none⟩ (.slice xa T1.length xc)) N4 97 e5 d5 t5) := Lib.hid (D10.out.grow (grownBy_setCell w10 ⟨w8.heap.size, 3, none⟩ (.slice xa T1.length xc)) (fun k hk => by cases hk; exact hN48)); have G10s : Hid (w8.grownBy (w10.setCell ⟨w8.heap.size, 3, none⟩ (.slice xa T1.length xc)) (some N4)) := Lib.hid (grownBy_new (grownBy_trans G9.out hg') (Nat.le_refl _) _); have O1 : Hid (World.ownsRow (w10.setCell ⟨w8.heap.size, 3, none⟩ (.slice xa T1.length xc)) w9.heap.size 5 1 (.slice xa T1.length xc) T1.length (bv T1)) := Lib.hid (ownsRow_setCell_below ho' (by show w8.heap.size < w9.heap.size; exact hz9) _); have P10 : Hid (((w10.setCell ⟨w8.heap.size, 3, none⟩ (.slice xa T1.length xc))).heap[w8.heap.size]? = some (Obj.cells #[Value.int .i64 y1, .int .i64 (m2 : Int), .int .i64 y3, .slice xa T1.length xc, .slice none 0 0] 41)) := Lib.hid (by rw [heap_setCell_same w10 w8.heap.size 3 _ _ _ p10]; rfl); have hN49 := Nat.lt_trans hN48 hz9; have hN8D : w8.heap.size < ((w10.setCell ⟨w8.heap.size, 3, none⟩ (.slice xa T1.length xc))).heap.size := (by have h := Nat.lt_of_lt_of_le hz9 hg'.size; simpa [World.setCell] using h); clear p10); have HT6 : Hid True := trivial; clear hq HT5 ho' hr' hb' hg')
        | (have hq := HT6; go_at_call 55; go_must (refine rnumr_any N4 1 t5 _ _ (m6 : Int) t6 (HQ6).out w _ (D10s).out.hb (D10s).out.hlt (D10s).out.hN (D10s).out.hrow (D10s).out.hbs (Nat.le_trans (D10s).out.hlen (by decide)) _ ?_); intro e6 d6 w11 hr' hb' hg'; have D11 := Lib.hid (DR.step (D10s).out (U6.out) hr' hb' hg'); (have P11 := Lib.hid (block_grown hg' P10.out hne7); have G11 := Lib.hid (grownBy_trans G10s.out hg'); have O11 := Lib.hid (owns_grown O1.out hg' (own_apart O1.out hN49)); have hz11 : w8.heap.size < w11.heap.size := Nat.lt_of_lt_of_le hN8D (Nat.le_trans (Nat.le_of_eq rfl) hg'.size)); have HT7 : Hid True := trivial; clear hq HT6 hr' hb' hg')
        | (have hq := HT7; go_at_call 56; go_must (refine rtake_any N4 m6 t6 _ _ T2 t7 (HQ7).out w _ (D11).out.hb (D11).out.hlt (D11).out.hN (D11).out.hrow (D11).out.hbs (Nat.le_trans (D11).out.hlen (by decide)) _ ?_); intro ya yc e7 d7 w12 ho' hr' hb' hg'; have D12 := Lib.hid (DR.step (D11).out (U7.out) hr' hb' hg'); (have p12 := block_grown hg' P11.out hne7; have pc4 := cell_of_row w12 w8.heap.size 4 _ _ _ p12; have pf4 := frozen_block p12 4; have D12s : Hid (DR w (w12.setCell ⟨w8.heap.size, 4, none⟩ (.slice ya T2.length yc)) N4 97 e7 d7 t7) := Lib.hid (D12.out.grow (grownBy_setCell w12 ⟨w8.heap.size, 4, none⟩ (.slice ya T2.length yc)) (fun k hk => by cases hk; exact hN48)); have G12s : Hid (w8.grownBy (w12.setCell ⟨w8.heap.size, 4, none⟩ (.slice ya T2.length yc)) (some N4)) := Lib.hid (grownBy_new (grownBy_trans G11.out hg') (Nat.le_refl _) _); have O12 : Hid (World.ownsRow (w12.setCell ⟨w8.heap.size, 4, none⟩ (.slice ya T2.length yc)) w9.heap.size 5 1 (.slice xa T1.length xc) T1.length (bv T1)) := Lib.hid (ownsRow_setCell_below (owns_grown O11.out hg' (own_apart O11.out hN49)) (by show w8.heap.size < w9.heap.size; exact hz9) _); have O2 : Hid (World.ownsRow (w12.setCell ⟨w8.heap.size, 4, none⟩ (.slice ya T2.length yc)) w11.heap.size 5 1 (.slice ya T2.length yc) T2.length (bv T2)) := Lib.hid (ownsRow_setCell_below ho' (by show w8.heap.size < w11.heap.size; exact hz11) _); have hp12 : ((w12.setCell ⟨w8.heap.size, 4, none⟩ (.slice ya T2.length yc))).heap[w8.heap.size]? = some (Obj.cells #[Value.int .i64 y1, .int .i64 (m2 : Int), .int .i64 y3, .slice xa T1.length xc, .slice ya T2.length yc] 41) := (by rw [heap_setCell_same w12 w8.heap.size 4 _ _ _ p12]; rfl); have E12 := Lib.hid (E8.out.step G12s.out); obtain ⟨v0, v1, v2, v3, v4⟩ := pb_of_row hp12; have f53 := cell_of_row _ N5 3 _ _ _ E12.out.h5; have hsz : ((w12.setCell ⟨w8.heap.size, 4, none⟩ (.slice ya T2.length yc))).heap.size = w12.heap.size := (by simp [World.setCell]); have hN5 : N5 < w8.heap.size := (Array.getElem?_eq_some_iff.1 E8.out.h5).1; obtain ⟨kv, hkv, hrow12, heach⟩ := E12.out.hp; have rdl : Rd (((w12.setCell ⟨w8.heap.size, 4, none⟩ (.slice ya T2.length yc))).alloc (Obj.cells #[Value.int .i64 y1, .int .i64 (m2 : Int), .int .i64 y3, .slice xa T1.length xc, .slice ya T2.length yc] 41)) 5 (some ⟨w12.heap.size, 0, none⟩) 1 [Value.int .i64 y1, .int .i64 (m2 : Int), .int .i64 y3, .slice xa T1.length xc, .slice ya T2.length yc] := (by have h := rd_lit ((w12.setCell ⟨w8.heap.size, 4, none⟩ (.slice ya T2.length yc))) #[Value.int .i64 y1, .int .i64 (m2 : Int), .int .i64 y3, .slice xa T1.length xc, .slice ya T2.length yc] 41 5 1 rfl; rw [hsz] at h; exact h); have hz12 : w8.heap.size < w12.heap.size := Nat.lt_of_lt_of_le hz11 hg'.size; have hbase : N5 + 1 ≤ (((w12.setCell ⟨w8.heap.size, 4, none⟩ (.slice ya T2.length yc))).alloc (Obj.cells #[Value.int .i64 y1, .int .i64 (m2 : Int), .int .i64 y3, .slice xa T1.length xc, .slice ya T2.length yc] 41)).heap.size := (by have := hsz; simp at this ⊢; omega); clear p12 hp12); have HT8 : Hid True := trivial; clear hq HT7 ho' hr' hb' hg')
        | (have hq := HT8; at_builtin; go_must (refine wpList_appAt (by rfl) (.tmp 54) (.tmp 56) 22 (by rfl) (N5 + 1) 41 (.agg #[.int .i64 0, .int .i64 0, .int .i64 0, .slice none 0 0, .slice none 0 0]) 5 72 Try.underlying22 infoPlace rfl (by decide) pa P.length pc _ (by rfl) (hrow12.alloc (Obj.cells #[Value.int .i64 y1, .int .i64 (m2 : Int), .int .i64 y3, .slice xa T1.length xc, .slice ya T2.length yc] 41)) (some ⟨w12.heap.size, 0, none⟩) 1 1 [Value.int .i64 y1, .int .i64 (m2 : Int), .int .i64 y3, .slice xa T1.length xc, .slice ya T2.length yc] (by rfl) rdl (plc_oneCell _ _ _ _ _ _ _ _ _) (fun h => by cases h) (by unfold maxLen; omega) (by omega) hbase ?_); intro ad6 c6 w14 hown6 hg6 _; have r5 := block_grown hg6 (block_alloc (o' := (Obj.cells #[Value.int .i64 y1, .int .i64 (m2 : Int), .int .i64 y3, .slice xa T1.length xc, .slice ya T2.length yc] 41)) E12.out.h5) (own_ne5 (hrow12.alloc (Obj.cells #[Value.int .i64 y1, .int .i64 (m2 : Int), .int .i64 y3, .slice xa T1.length xc, .slice ya T2.length yc] 41))); have k5c := cell_of_row w14 N5 3 _ _ _ r5; have k5f := frozen_block r5 3; have HOWN6 := Lib.hid hown6; have HG6 := Lib.hid hg6; have R5 := Lib.hid r5; clear hq HT8 hown6 hg6 r5))
      have e6 : Hid (PlsO w14 (N5 + 1) (.slice ad6 (P.length + 1) c6) (P ++ [⟨y1, (m2 : Int), y3, T1, T2⟩])) :=
        PlsO.push (w := ((w12.setCell ⟨w8.heap.size, 4, none⟩ (.slice ya T2.length yc))).alloc (Obj.cells #[Value.int .i64 y1, .int .i64 (m2 : Int), .int .i64 y3, .slice xa T1.length xc, .slice ya T2.length yc] 41)) (p := ⟨y1, (m2 : Int), y3, T1, T2⟩) hkv (fun i h => (heach i h).below ((Below.refl _ _).alloc (Nat.le_refl _) (Obj.cells #[Value.int .i64 y1, .int .i64 (m2 : Int), .int .i64 y3, .slice xa T1.length xc, .slice ya T2.length yc] 41))) (keeps_grownP (hrow12.alloc (Obj.cells #[Value.int .i64 y1, .int .i64 (m2 : Int), .int .i64 y3, .slice xa T1.length xc, .slice ya T2.length yc] 41)) HG6.out (by decide)) HOWN6.out ⟨owns_mono (O12.out.alloc (Obj.cells #[Value.int .i64 y1, .int .i64 (m2 : Int), .int .i64 y3, .slice xa T1.length xc, .slice ya T2.length yc] 41)) (by omega), owns_mono (O2.out.alloc (Obj.cells #[Value.int .i64 y1, .int .i64 (m2 : Int), .int .i64 y3, .slice xa T1.length xc, .slice ya T2.length yc] 41)) (by omega), HPLB.out⟩
      have hg14 : ((w12.setCell ⟨w8.heap.size, 4, none⟩ (.slice ya T2.length yc))).grownBy (((w12.setCell ⟨w8.heap.size, 4, none⟩ (.slice ya T2.length yc))).alloc (Obj.cells #[Value.int .i64 y1, .int .i64 (m2 : Int), .int .i64 y3, .slice xa T1.length xc, .slice ya T2.length yc] 41)) none := grown_bel ((Below.refl _ _).alloc (Nat.le_refl _) (Obj.cells #[Value.int .i64 y1, .int .i64 (m2 : Int), .int .i64 y3, .slice xa T1.length xc, .slice ya T2.length yc] 41))
      have hown5 : ∀ k, (Value.slice pa P.length pc).ownBlock = some k → N5 < k := fun k hk => by
        have := (hrow12.lt k hk).1
        omega
      have d15 : Hid (DR w (w14.setCell ⟨N5, 3, none⟩ (.slice ad6 (P.length + 1) c6)) N4 97 e7 d7 t7) :=
        ((D12s.out.below ((Below.refl _ _).alloc (Nat.le_refl _) (Obj.cells #[Value.int .i64 y1, .int .i64 (m2 : Int), .int .i64 y3, .slice xa T1.length xc, .slice ya T2.length yc] 41))).grow HG6.out (fun k hk => Nat.lt_trans h45 (hown5 k hk))).grow (grownBy_setCell w14 ⟨N5, 3, none⟩ _) (fun k hk => by cases hk; exact h45)
      have e15 : Hid (DL (w14.setCell ⟨N5, 3, none⟩ (.slice ad6 (P.length + 1) c6)) w.heap.size N4 N5 x1 x2 x3 (.slice ad6 (P.length + 1) c6) (.slice none 0 0) (P ++ [⟨y1, (m2 : Int), y3, T1, T2⟩]) []) := by
        refine ⟨E12.out.h24, E12.out.h45, ?_, ?_, e6.out.low (a := ⟨N5, 3, none⟩) (by show N5 < N5 + 1; omega) _, World.ownsRow_nil _ _ _ _⟩
        · rw [heap_setCell_other _ _ _ _ (by show w.heap.size ≠ N5; omega)]
          exact block_grown HG6.out (block_alloc E12.out.h2) (fun e => by have := hown5 _ e; omega)
        · rw [heap_setCell_same w14 N5 3 _ _ _ R5.out]
          rfl
      have hlen : P.length + 1 = (P ++ [(⟨y1, (m2 : Int), y3, T1, T2⟩ : Pl)]).length := by rw [List.length_append]; rfl
      have HLEN := Lib.hid hlen
      have E15 : Hid (DL (w14.setCell ⟨N5, 3, none⟩ (.slice ad6 (P.length + 1) c6)) w.heap.size N4 N5 x1 x2 x3 (.slice ad6 (P ++ [(⟨y1, (m2 : Int), y3, T1, T2⟩ : Pl)]).length c6) (.slice none 0 0) (P ++ [⟨y1, (m2 : Int), y3, T1, T2⟩]) []) := by
        have h := e15.out
        exact ⟨h.h24, h.h45, h.h2, by rw [← HLEN.out]; exact h.h5, by rw [← HLEN.out]; exact h.hp, h.hq⟩
      clear hlen e15
      go_roundg k
      case measure => have := HGN.out; omega
      case rel => exact ⟨k, j + 1, t7, P ++ [⟨y1, (m2 : Int), y3, T1, T2⟩], e7, d7, ad6, c6, by omega, rfl, by go_num, (by rw [← HLEN.out]; omega), HNX, d15, E15⟩
end Go.Proofs.Ytpodgocmcnkfdaa
