/- The document's Encode: walked. -/
import Derived.Test.YtpodgocmcnkfdaaEnc8
import Derived.Test.YtpodgocmcnkfdaaRApB
import Derived.Deep.CutRange
namespace Go.Proofs.Ytpodgocmcnkfdaa
open Go.RowKit

theorem via8 {α β γ δ ε ζ η ω : Type} {H G : α → β → γ → δ → ε → ζ → η → ω → Prop} {goal : Prop} (m : (∀ a b c d e f g w, H a b c d e f g w → G a b c d e f g w) → goal) (t : ∀ a b c d e f g w, H a b c d e f g w → G a b c d e f g w) : goal := m t
theorem numberL_parts {n : Int} (h : numberL n = true) : 0 ≤ n ∧ n ≤ 1099511627776 := by
  unfold numberL at h
  simp only [Bool.and_eq_true, decide_eq_true_eq] at h
  exact h
theorem lit_apart {w : World} {B e size n N : Nat} {v : Value} {xs : List Value} (h : w.ownsRow B e size v n xs) (hN : N = w.heap.size := by rfl) : ∀ b o, (some (⟨N, 0, none⟩ : Addr)) = some ⟨b, o, none⟩ → some b ≠ v.ownBlock := fun b o e hc => by
  cases e
  have := (h.lt _ hc.symm).2
  omega
theorem b8_lit {x : Int} (h0 : 0 ≤ x) (h1 : x ≤ 255) : [Value.int .u8 x] = bv [b8 x] := by
  have : ((b8 x).toNat : Int) = x := by rw [b8_toNat]; omega
  rw [bv_one, this]

set_option maxRecDepth 100000 in
set_option maxHeartbeats 60000000 in
theorem renc_any (log next seq : Int) (av dv : Value) (add : List Pl) (dr : List Int) (X : List UInt8) (z : Int) (hX : encL ⟨log, next, seq, add, dr⟩ = (X, z)) (w : World) (hav : Pls w av add) (hdv : Is w dv dr) (hal : add.length ≤ 1000000) (R : Ending → World → Prop)
    (hR : ∀ ad c w', w'.ownsRow w.heap.size 5 1 (.slice ad X.length c) X.length (bv X) → Below w.heap.size w w' → R (.returned (.tuple #[.slice ad X.length c, .int .i64 z])) w') :
    Calls Try.prog 24 #[.agg #[.int .i64 log, .int .i64 next, .int .i64 seq, av, dv]] w R := by
  have HR := Lib.hid hR
  have HA := Lib.hid hav
  have HD := Lib.hid hdv
  obtain ⟨aa, ac, rfl, _⟩ := hav
  obtain ⟨da, dc, rfl, _⟩ := hdv
  have hb0 : Below w.heap.size w (w.alloc (edB log next seq (.slice aa add.length ac) (.slice da dr.length dc))) := (Below.refl w.heap.size w).alloc (Nat.le_refl _) _
  have hn0 := heap_alloc_new w (edB log next seq (.slice aa add.length ac) (.slice da dr.length dc))
  have hz1 : w.heap.size < (w.alloc (edB log next seq (.slice aa add.length ac) (.slice da dr.length dc))).heap.size := by simp
  unfold edB at hb0 hn0 hz1
  have HB := Lib.hid hb0
  have HN := Lib.hid hn0
  clear hR hn0 hb0
  have hsplit : okB ⟨log, next, seq, add, dr⟩ = (okH ⟨log, next, seq, add, dr⟩ && (add.all okP && dr.all numberL)) := rfl
  have hbadz : okB ⟨log, next, seq, add, dr⟩ = false → X = [] ∧ z = 80 := fun h => by
    unfold encL at hX
    rw [h, if_neg (by simp)] at hX
    cases hX
    exact ⟨rfl, rfl⟩
  have hoks : okB ⟨log, next, seq, add, dr⟩ = true → X = encB ⟨log, next, seq, add, dr⟩ ∧ z = 0 := fun h => by
    unfold encL at hX
    rw [h, if_pos rfl] at hX
    cases hX
    exact ⟨rfl, rfl⟩
  have HBADZ := Lib.hid hbadz
  have HOKS := Lib.hid hoks
  have HSPL := Lib.hid hsplit
  clear hX hbadz hoks hsplit
  obtain ⟨b1, h1⟩ : ∃ b, numberL log = b := ⟨_, rfl⟩
  obtain ⟨b2, h2⟩ : ∃ b, numberL next = b := ⟨_, rfl⟩
  obtain ⟨b3, h3⟩ : ∃ b, numberL seq = b := ⟨_, rfl⟩
  have hoh : okH ⟨log, next, seq, add, dr⟩ = (b1 && (b2 && (b3 && (decide (add.length ≤ 65535) && decide (dr.length ≤ 65535))))) := by rw [← h1, ← h2, ← h3]; rfl
  have H1 := Lib.hid h1
  have H2 := Lib.hid h2
  have H3 := Lib.hid h3
  have HOH := Lib.hid hoh
  clear h1 h2 h3 hoh
  cases b1 with
  | false =>
    obtain ⟨rfl, rfl⟩ := HBADZ.out (by rw [HSPL.out, HOH.out]; rfl)
    go_enter Try.func24, Try.ntmps24
    go_wp2_with (go_at_call 42; go_must (refine in_any log _ _ false H1.out _ _ ?_))
    exact HR.out none 0 _ (World.ownsRow_nil _ _ _ _) HB.out
  | true =>
  cases b2 with
  | false =>
    obtain ⟨rfl, rfl⟩ := HBADZ.out (by rw [HSPL.out, HOH.out]; rfl)
    go_enter Try.func24, Try.ntmps24
    go_wp2_with (first
      | (go_at_call_of 42 (Value.int .i64 log); go_must (refine in_any log _ _ true H1.out _ _ ?_))
      | (go_at_call 42; go_must (refine in_any next _ _ false H2.out _ _ ?_)))
    all_goals exact HR.out none 0 _ (World.ownsRow_nil _ _ _ _) HB.out
  | true =>
  cases b3 with
  | false =>
    obtain ⟨rfl, rfl⟩ := HBADZ.out (by rw [HSPL.out, HOH.out]; rfl)
    go_enter Try.func24, Try.ntmps24
    go_wp2_with (first | (go_at_call_of 42 (Value.int .i64 log); go_must (refine in_any log _ _ true H1.out _ _ ?_)) | (go_at_call_of 42 (Value.int .i64 next); go_must (refine in_any next _ _ true H2.out _ _ ?_)) | (go_at_call_of 42 (Value.int .i64 seq); go_must (refine in_any seq _ _ false H3.out _ _ ?_)))
    all_goals exact HR.out none 0 _ (World.ownsRow_nil _ _ _ _) HB.out
  | true =>
  by_cases h4 : 65535 < add.length
  · have h4z : (65535 : Int) < (add.length : Int) := by omega
    obtain ⟨rfl, rfl⟩ := HBADZ.out (by rw [HSPL.out, HOH.out]; simp; omega)
    go_enter Try.func24, Try.ntmps24
    go_wp2_with (first | (go_at_call_of 42 (Value.int .i64 log); go_must (refine in_any log _ _ true H1.out _ _ ?_)) | (go_at_call_of 42 (Value.int .i64 next); go_must (refine in_any next _ _ true H2.out _ _ ?_)) | (go_at_call_of 42 (Value.int .i64 seq); go_must (refine in_any seq _ _ true H3.out _ _ ?_)))
    all_goals exact HR.out none 0 _ (World.ownsRow_nil _ _ _ _) HB.out
  have h4z : ¬ (65535 : Int) < (add.length : Int) := by omega
  by_cases h5 : 65535 < dr.length
  · have h5z : (65535 : Int) < (dr.length : Int) := by omega
    obtain ⟨rfl, rfl⟩ := HBADZ.out (by rw [HSPL.out, HOH.out]; simp; omega)
    go_enter Try.func24, Try.ntmps24
    go_wp2_with (first | (go_at_call_of 42 (Value.int .i64 log); go_must (refine in_any log _ _ true H1.out _ _ ?_)) | (go_at_call_of 42 (Value.int .i64 next); go_must (refine in_any next _ _ true H2.out _ _ ?_)) | (go_at_call_of 42 (Value.int .i64 seq); go_must (refine in_any seq _ _ true H3.out _ _ ?_)))
    all_goals exact HR.out none 0 _ (World.ownsRow_nil _ _ _ _) HB.out
  have h5z : ¬ (65535 : Int) < (dr.length : Int) := by omega
  have HT : Hid (okB ⟨log, next, seq, add, dr⟩ = (add.all okP && dr.all numberL)) := by
    show _ = _
    rw [HSPL.out, HOH.out, decide_eq_true (show add.length ≤ 65535 by omega), decide_eq_true (show dr.length ≤ 65535 by omega)]
    rfl
  obtain ⟨PA, hPA⟩ : ∃ P, putL log.toNat 8 = P := ⟨_, rfl⟩
  obtain ⟨PB, hPB⟩ : ∃ P, putL next.toNat 8 = P := ⟨_, rfl⟩
  obtain ⟨PC, hPC⟩ : ∃ P, putL seq.toNat 8 = P := ⟨_, rfl⟩
  obtain ⟨PD, hPD⟩ : ∃ P, putL ((add.length : Int)).toNat 2 = P := ⟨_, rfl⟩
  obtain ⟨HD8, hHD⟩ : ∃ P, headB ⟨log, next, seq, add, dr⟩ = P := ⟨_, rfl⟩
  have hHJ : PA ++ PB ++ PC ++ PD = HD8 := by
    rw [← hPA, ← hPB, ← hPC, ← hPD, ← hHD]
    simp [headB]
  have hlA : PA.length = 8 := by rw [← hPA, putL_length]
  have hlB : PB.length = 8 := by rw [← hPB, putL_length]
  have hlC : PC.length = 8 := by rw [← hPC, putL_length]
  have hlD : PD.length = 2 := by rw [← hPD, putL_length]
  have HPA := Lib.hid hPA
  have HPB := Lib.hid hPB
  have HPC := Lib.hid hPC
  have HPD := Lib.hid hPD
  have HHD := Lib.hid hHD
  have HHJ := Lib.hid hHJ
  have HLS := Lib.hid (And.intro hlA (And.intro hlB (And.intro hlC hlD)))
  have N1 := numberL_parts H1.out
  have N2 := numberL_parts H2.out
  have N3 := numberL_parts H3.out
  clear hPA hPB hPC hPD hHD hHJ hlA hlB hlC hlD HSPL HOH
  go_enter Try.func24, Try.ntmps24
  go_wp2_with (first | (go_at_call_of 42 (Value.int .i64 log); go_must (refine in_any log _ _ true H1.out _ _ ?_)) | (go_at_call_of 42 (Value.int .i64 next); go_must (refine in_any next _ _ true H2.out _ _ ?_)) | (go_at_call_of 42 (Value.int .i64 seq); go_must (refine in_any seq _ _ true H3.out _ _ ?_)))
  generalize w.alloc (Obj.cells #[Value.int .i64 log, .int .i64 next, .int .i64 seq, .slice aa add.length ac, .slice da dr.length dc] 27) = w1 at HB HN hz1 ⊢
  have HND : Hid (w1.drew.heap[w.heap.size]? = some _) := HN.out
  have s0 := v4_of_row5 HND.out
  go_region_held3 (fun x => (x.cell? ⟨w.heap.size, 0, none⟩ = some (Value.int .i64 log) ∧ x.cell? ⟨w.heap.size, 1, none⟩ = some (Value.int .i64 next) ∧ x.cell? ⟨w.heap.size, 2, none⟩ = some (Value.int .i64 seq) ∧ x.cell? ⟨w.heap.size, 3, none⟩ = some (Value.slice aa add.length ac)))
    (first | exact s0 | exact v4_later hk1 s0 | exact v4_later hk2 s0 | exact v4_later hk3 s0 | exact v4_later hk4 s0 | exact v4_later hk5 s0 | go_keep)
    (first
      | (go_at_call_of 51 (Value.int .i64 log); refine rnum_any log 8 N1.1 N1.2 (by omega) (by omega) PA HPA.out _ _ ?_; intro xa xc w3 ho3 hk1)
      | (go_at_call_of 51 (Value.int .i64 next); refine rnum_any next 8 N2.1 N2.2 (by omega) (by omega) PB HPB.out _ _ ?_; intro ya yc w4 ho4 hkb; have hk2 := below_tra hk1 hkb; have hown4 := owns_below ho3 hkb; have ht1 : Hid True := trivial)
      | (have hq := ht1; refine step_appAt (by rfl) (.tmp 38) (.tmp 41) 39 (by rfl) w1.drew.heap.size 5 (.int .u8 0) 1 1 Try.underlying39 Try.info5 rfl (by decide) xa PA.length xc _ (by rfl) hown4 ya PB.length yc (bv PB) (by rfl) (rd_of_owns ho4) (bv_oneCell _) (owns_nil ho4) (by have := HLS.out; unfold maxLen; omega) (by have := HLS.out; omega) hk2.size ?_; intro ad5 c5 w5 hown5 hg5 _; have hk3 := below_app hk2 hg5 hk2.size hown4; clear hq ht1 hown4)
      | (go_at_call_of 51 (Value.int .i64 seq); refine rnum_any seq 8 N3.1 N3.2 (by omega) (by omega) PC HPC.out _ _ ?_; intro za zc w6 ho6 hkc; have hk4 := below_tra hk3 hkc; have hown6 := owns_below hown5 hkc)
      | (refine step_appAt (by rfl) (.tmp 42) (.tmp 45) 39 (by rfl) w1.drew.heap.size 5 (.int .u8 0) 1 1 Try.underlying39 Try.info5 rfl (by decide) ad5 (PA.length + PB.length) c5 _ (by rfl) hown6 za PC.length zc (bv PC) (by rfl) (rd_of_owns ho6) (bv_oneCell _) (owns_nil ho6) (by have := HLS.out; unfold maxLen; omega) (by have := HLS.out; omega) hk4.size ?_; intro ad7 c7 w7 hown7 hg7 _; have hk5 := below_app hk4 hg7 hk4.size hown6))
  have hw7 : Below w1.heap.size w1 w7 := below_tra (Below.refl w1.heap.size w1).drew hk5
  rw [← bv_append, ← bv_append] at hown7
  have ho7' : w7.ownsRow w1.heap.size 5 1 (.slice ad7 24 c7) 24 (bv (PA ++ PB ++ PC)) := by
    have e : PA.length + PB.length + PC.length = 24 := by have := HLS.out; omega
    rw [e] at hown7
    exact hown7
  have HE24 : Hid (PA.length + PB.length + PC.length = 24) := by have := HLS.out; show _ = _; omega
  have HW7 := Lib.hid hw7
  have HO7 := Lib.hid ho7'
  have hn7 := row_on HN.out hw7
  obtain ⟨g0, g1, g2, g3⟩ := v4_of_row5 hn7
  rename_i hHeld
  clear hHeld s0 hk1 hkb hk2 hk3 hkc hk4 hk5 ho3 ho4 ho6 hown5 hown6 hown7 hg5 hg7 hn7 hw7 ho7' HND
  rw [HE24.out]
  go_wp2_with (first
    | (go_at_call 51; go_must (refine rnum_any (add.length : Int) 2 (by omega) (by omega) (by omega) (by omega) PD HPD.out _ _ ?_); intro ua uc w8 ho8 hk8; have HO8 := Lib.hid ho8; have hb8 := below_tra HW7.out hk8; have HB8 := Lib.hid hb8; have HOWN8 := Lib.hid (owns_below HO7.out hk8); clear ho8 hk8)
    | (have hq := HOWN8.out; at_builtin; go_must (refine wpList_appAt (by rfl) (.tmp 47) (.tmp 51) 39 (by rfl) w1.heap.size 5 (.int .u8 0) 1 1 Try.underlying39 Try.info5 rfl (by decide) ad7 24 c7 _ (by rfl) HOWN8.out ua PD.length uc (bv PD) (by rfl) (rd_of_owns HO8.out) (bv_oneCell _) (owns_nil HO8.out) (by have := HLS.out; unfold maxLen; omega) (by have := HLS.out; omega) hb8.size ?_); intro ad9 c9 w9 hown9 hg9 _; have hb9 := below_app hb8 hg9 hb8.size HOWN8.out; have HB9 := Lib.hid hb9; rw [← bv_append, HHJ.out] at hown9; have HO9 := Lib.hid hown9; clear hown9 hg9 hb9 hb8))
  have HE26 : Hid (24 + PD.length = 26) := by have := HLS.out; show _ = _; omega
  rw [HE26.out] at HO9 ⊢
  have HH26 : Hid (26 = HD8.length) := by
    show _ = _
    rw [← HHJ.out]
    have := HLS.out
    simp only [List.length_append]
    omega
  clear g0 g1 g2 g3
  go_loopg [4, 5] add.length (fun gn sb i wr => ∃ (k c n : Nat) (ad : Option Addr) (M : List UInt8), k ≤ add.length ∧ gn = add.length - k ∧ i = .int .i64 k ∧ sb = .slice ad n c ∧ n ≤ 26 + 300 * k ∧ Hid ((add.take k).all okP = true) ∧ Hid (HD8 ++ (add.take k).flatMap placeB = M) ∧ Hid (n = M.length) ∧ Hid (wr.ownsRow w1.heap.size 5 1 (.slice ad n c) n (bv M)) ∧ Hid (Below w1.heap.size w1 wr))
  case atStart => exact ⟨0, c9, 26, ad9, HD8, Nat.zero_le _, by omega, rfl, rfl, by omega, rfl, (Lib.hid (by simp)), HH26, HO9, HB9⟩
  case round =>
    obtain ⟨k, c, n, ad, M, hk, rfl, rfl, rfl, hn, HF, HM, HNM, HO, HBR⟩ := hrel
    clear HW7 HO7 HO8 HOWN8 HB8 HO9 HB9
    obtain ⟨wo, rfl⟩ : ∃ x, x = wr := ⟨_, rfl⟩
    have hbw : Below w.heap.size w wo := below_then HB.out HBR.out HB.out.size
    have hrn := row_on HN.out HBR.out
    have f3 : wo.cell? ⟨w.heap.size, 3, none⟩ = some (Value.slice aa add.length ac) := cell_of_row _ w.heap.size 3 _ _ _ hrn
    have f4 : wo.cell? ⟨w.heap.size, 4, none⟩ = some (Value.slice da dr.length dc) := cell_of_row _ w.heap.size 4 _ _ _ hrn
    by_cases hlt : k < add.length
    · have hkk : (k : Int) < (add.length : Int) := by omega
      obtain ⟨va', vc', ee, _, _, _, v4⟩ := HA.out
      simp only [Value.slice.injEq] at ee
      obtain ⟨rfl, -, rfl⟩ := ee
      obtain ⟨vb, vo, rfl, v5⟩ := v4 (by omega)
      obtain ⟨px, py, q5, hpc⟩ := v5 k hlt
      obtain ⟨p0, p1, p2, p3, p4⟩ := q5.below hbw
      have hfs := flat_succ placeB add k hlt
      have htk : (add.take (k + 1)).all okP = ((add.take k).all okP && okP add[k]) := by
        rw [List.take_succ_eq_append_getElem hlt, List.all_append]
        simp
      have hmem : add[k] ∈ add := List.getElem_mem _
      obtain ⟨p, hp⟩ : ∃ p, add[k] = p := ⟨_, rfl⟩
      rw [hp] at p0 p1 p2 hpc hfs htk hmem
      have s1 := hpc.shape
      have HPC5 := Lib.hid hpc
      have HBW := Lib.hid hbw
      obtain ⟨PB5, hPB5⟩ : ∃ P, placeB p = P := ⟨_, rfl⟩
      rw [hPB5] at hfs
      have HFS : Hid (HD8 ++ (add.take (k + 1)).flatMap placeB = M ++ PB5) := by
        show _ = _
        rw [hfs, ← HM.out, List.append_assoc]
      have HBAD : Hid (okP p = false → X = [] ∧ z = 80) := fun h => HBADZ.out (by
        rw [HT.out]
        have : add.all okP = false := by rw [List.all_eq_false]; exact ⟨p, hmem, by simp [h]⟩
        rw [this]
        rfl)
      have HTK := Lib.hid htk
      have HPB5 := Lib.hid hPB5
      clear v4 v5 hp hpc hfs q5 hbw htk hmem hPB5 hrn
      obtain ⟨pn, pl, pc, pa, pb⟩ := p
      simp only at *
      obtain ⟨⟨a1, a2, rfl⟩, b1, b2, rfl⟩ := s1
      have hya : Below wo.heap.size wo (wo.alloc (Obj.cells #[Value.int .i64 pn, .int .i64 pl, .int .i64 pc, .slice a1 pa.length a2, .slice b1 pb.length b2] 41)) := (Below.refl _ _).alloc (Nat.le_refl _) _
      have HYA : Hid (Below w.heap.size w (wo.alloc (Obj.cells #[Value.int .i64 pn, .int .i64 pl, .int .i64 pc, .slice a1 pa.length a2, .slice b1 pb.length b2] 41))) := below_then HBW.out hya HBW.out.size
      have HOKP : Hid (okP ⟨pn, pl, pc, pa, pb⟩ = (numberL pn && (decide (0 ≤ pl ∧ pl ≤ 255) && (numberL pc && (decide (pa.length ≤ 128) && decide (pb.length ≤ 128)))))) := rfl
      obtain ⟨c1, k1⟩ : ∃ b, numberL pn = b := ⟨_, rfl⟩
      obtain ⟨c2, k2⟩ : ∃ b, (decide ((0 : Int) ≤ pl) && decide (pl ≤ 255)) = b := ⟨_, rfl⟩
      obtain ⟨c3, k3⟩ : ∃ b, numberL pc = b := ⟨_, rfl⟩
      have k2e : decide (0 ≤ pl ∧ pl ≤ 255) = c2 := by rw [← k2, Bool.decide_and]
      have K1 := Lib.hid k1
      have K2 := Lib.hid k2
      have K3 := Lib.hid k3
      have K2E := Lib.hid k2e
      clear k1 k2 k3 k2e
      cases c1 with
      | false =>
        obtain ⟨rfl, rfl⟩ := HBAD.out (by rw [HOKP.out, K1.out]; rfl)
        clear HBAD HTK HF
        go_wp2_with (first
  | (go_at_call_of 42 (Value.int .i64 pn); go_must (refine in_any pn _ _ false K1.out _ _ ?_))
  | (go_at_call_of 42 (Value.int .i64 pl); go_must (refine in_any pl _ _ true K2.out _ _ ?_))
  | (go_at_call_of 42 (Value.int .i64 pc); go_must (refine in_any pc _ _ true K3.out _ _ ?_)))
        all_goals exact HR.out none 0 _ (World.ownsRow_nil _ _ _ _) HYA.out
      | true =>
      cases c2 with
      | false =>
        obtain ⟨rfl, rfl⟩ := HBAD.out (by rw [HOKP.out, K1.out, K2E.out]; rfl)
        clear HBAD HTK HF
        go_wp2_with (first
  | (go_at_call_of 42 (Value.int .i64 pn); go_must (refine in_any pn _ _ true K1.out _ _ ?_))
  | (go_at_call_of 42 (Value.int .i64 pl); go_must (refine in_any pl _ _ false K2.out _ _ ?_))
  | (go_at_call_of 42 (Value.int .i64 pc); go_must (refine in_any pc _ _ true K3.out _ _ ?_)))
        all_goals exact HR.out none 0 _ (World.ownsRow_nil _ _ _ _) HYA.out
      | true =>
      cases c3 with
      | false =>
        obtain ⟨rfl, rfl⟩ := HBAD.out (by rw [HOKP.out, K1.out, K2E.out, K3.out]; rfl)
        clear HBAD HTK HF
        go_wp2_with (first
  | (go_at_call_of 42 (Value.int .i64 pn); go_must (refine in_any pn _ _ true K1.out _ _ ?_))
  | (go_at_call_of 42 (Value.int .i64 pl); go_must (refine in_any pl _ _ true K2.out _ _ ?_))
  | (go_at_call_of 42 (Value.int .i64 pc); go_must (refine in_any pc _ _ false K3.out _ _ ?_)))
        all_goals exact HR.out none 0 _ (World.ownsRow_nil _ _ _ _) HYA.out
      | true =>
      by_cases d4 : 128 < pa.length
      · have d4z : (128 : Int) < (pa.length : Int) := by omega
        obtain ⟨rfl, rfl⟩ := HBAD.out (by rw [HOKP.out]; simp; omega)
        clear HBAD HTK HF
        go_wp2_with (first
  | (go_at_call_of 42 (Value.int .i64 pn); go_must (refine in_any pn _ _ true K1.out _ _ ?_))
  | (go_at_call_of 42 (Value.int .i64 pl); go_must (refine in_any pl _ _ true K2.out _ _ ?_))
  | (go_at_call_of 42 (Value.int .i64 pc); go_must (refine in_any pc _ _ true K3.out _ _ ?_)))
        all_goals exact HR.out none 0 _ (World.ownsRow_nil _ _ _ _) HYA.out
      have d4z : ¬ (128 : Int) < (pa.length : Int) := by omega
      by_cases d5 : 128 < pb.length
      · have d5z : (128 : Int) < (pb.length : Int) := by omega
        obtain ⟨rfl, rfl⟩ := HBAD.out (by rw [HOKP.out]; simp; omega)
        clear HBAD HTK HF
        go_wp2_with (first
  | (go_at_call_of 42 (Value.int .i64 pn); go_must (refine in_any pn _ _ true K1.out _ _ ?_))
  | (go_at_call_of 42 (Value.int .i64 pl); go_must (refine in_any pl _ _ true K2.out _ _ ?_))
  | (go_at_call_of 42 (Value.int .i64 pc); go_must (refine in_any pc _ _ true K3.out _ _ ?_)))
        all_goals exact HR.out none 0 _ (World.ownsRow_nil _ _ _ _) HYA.out
      have d5z : ¬ (128 : Int) < (pb.length : Int) := by omega
      have hl8 : 0 ≤ pl ∧ pl ≤ 255 := by have := K2E.out; simpa using this
      have hokp : okP ⟨pn, pl, pc, pa, pb⟩ = true := by
        rw [HOKP.out, K1.out, K2E.out, K3.out]
        simp
        omega
      have HF2 : Hid ((add.take (k + 1)).all okP = true) := by
        show _ = _
        rw [HTK.out, HF.out, hokp]
        rfl
      have hpl := placeB_len hokp
      rw [HPB5.out] at hpl
      have hwl8 : IntKind.u8.wrap pl = pl := by rw [IntKind.wrap_u8]; omega
      have hwa8 : IntKind.u8.wrap (pa.length : Int) = (pa.length : Int) := by rw [IntKind.wrap_u8]; omega
      have hwb8 : IntKind.u8.wrap (pb.length : Int) = (pb.length : Int) := by rw [IntKind.wrap_u8]; omega
      have HLT8 := Lib.hid (b8_lit hl8.1 hl8.2)
      have HLTA := Lib.hid (b8_lit (x := (pa.length : Int)) (by omega) (by omega))
      have HLTB := Lib.hid (b8_lit (x := (pb.length : Int)) (by omega) (by omega))
      obtain ⟨QA, hQA⟩ : ∃ P, putL pn.toNat ((8 : Int)).toNat = P := ⟨_, rfl⟩
      obtain ⟨QB, hQB⟩ : ∃ P, putL pc.toNat ((8 : Int)).toNat = P := ⟨_, rfl⟩
      have hQAl : QA.length = 8 := by rw [← hQA, putL_length]; rfl
      have hQBl : QB.length = 8 := by rw [← hQB, putL_length]; rfl
      have hQJ : M ++ QA ++ [b8 pl] ++ QB ++ [b8 (pa.length : Int)] ++ pa ++ [b8 (pb.length : Int)] ++ pb = M ++ PB5 := by
        rw [← hQA, ← hQB, ← HPB5.out]
        simp [placeB]
      have HQA := Lib.hid hQA
      have HQB := Lib.hid hQB
      have HQJ := Lib.hid hQJ
      have HQL := Lib.hid (And.intro hQAl hQBl)
      have kn1 := numberL_parts K1.out
      have kn3 := numberL_parts K3.out
      have hrp := heap_alloc_new wo (Obj.cells #[Value.int .i64 pn, .int .i64 pl, .int .i64 pc, .slice a1 pa.length a2, .slice b1 pb.length b2] 41)
      have HO1 := Lib.hid (owns_below HO.out hya)
      have HB1 := Lib.hid (below_tra HBR.out hya)
      clear HBAD HTK HF HOKP hokp hQA hQB hQJ hQAl hQBl HM
      go_upto_region 11 with (first
  | (go_at_call_of 42 (Value.int .i64 pn); go_must (refine in_any pn _ _ true K1.out _ _ ?_))
  | (go_at_call_of 42 (Value.int .i64 pl); go_must (refine in_any pl _ _ true K2.out _ _ ?_))
  | (go_at_call_of 42 (Value.int .i64 pc); go_must (refine in_any pc _ _ true K3.out _ _ ?_)))
      generalize wo.alloc (Obj.cells #[Value.int .i64 pn, .int .i64 pl, .int .i64 pc, .slice a1 pa.length a2, .slice b1 pb.length b2] 41) = wa at hrp hya HYA HO1 HB1 ⊢
      have HRP := Lib.hid hrp
      clear hrp f3 f4 p0 p1 p2 p3 p4
      go_cut [4] from 53 to 127 (fun sb wx => ∃ (nad : Option Addr) (nn ncc : Nat), sb = .slice nad nn ncc ∧ Hid (nn = n + (QA).length + 1) ∧ Hid (wx.heap[wo.heap.size]? = some (Obj.cells #[Value.int .i64 pn, .int .i64 pl, .int .i64 pc, .slice a1 pa.length a2, .slice b1 pb.length b2] 41)) ∧ Hid (wx.ownsRow w1.heap.size 5 1 (.slice nad nn ncc) nn (bv (M ++ QA ++ [b8 pl]))) ∧ Hid (Below w1.heap.size w1 wx))
      case first =>
        have hrd0 : wa.drew.heap[wo.heap.size]? = some (Obj.cells #[Value.int .i64 pn, .int .i64 pl, .int .i64 pc, .slice a1 pa.length a2, .slice b1 pb.length b2] 41) := (HRP).out
        have s0 := pb_of_row hrd0
        have hod0 := owns_below (HO1).out ((Below.refl wa.heap.size wa).drew)
        have hbd0 : Below w1.heap.size w1 wa.drew := (HB1).out.drew
        have hrdl := block_alloc (o' := (Obj.cells #[Value.int .u8 pl] 5)) hrd0
        have hodl := hod0.alloc (Obj.cells #[Value.int .u8 pl] 5)
        have hbdl := hbd0.alloc hbd0.size (Obj.cells #[Value.int .u8 pl] 5)
        have hrlb := rd_lit wa.drew #[Value.int .u8 pl] 5 1 1 rfl
        go_region_held3 (fun x => (x.cell? ⟨wo.heap.size, 0, none⟩ = some (Value.int .i64 pn) ∧ x.cell? ⟨wo.heap.size, 1, none⟩ = some (Value.int .i64 pl) ∧ x.cell? ⟨wo.heap.size, 2, none⟩ = some (Value.int .i64 pc) ∧ x.cell? ⟨wo.heap.size, 3, none⟩ = some (Value.slice a1 pa.length a2) ∧ x.cell? ⟨wo.heap.size, 4, none⟩ = some (Value.slice b1 pb.length b2)))
          (first | exact s0 | exact pb_of_row hrdl | exact pb_of_row hr3 | exact pb_of_row hr3l | exact pb_of_row hr4 | exact pb_of_row hr4l | exact pb_of_row hr5 | go_keep)
          (first
            | (go_at_call 51; refine rnum_any pn 8 (kn1).1 (kn1).2 (by omega) (by omega) QA (HQA).out _ _ ?_; intro xa xc w3 ho3 hk1; have hr3 := row_on hrd0 hk1; have hown3 := owns_below hod0 hk1; have hb3 := below_tra hbd0 hk1; have hown3l := hown3.alloc (Obj.cells #[Value.int .u8 pl] 5); have hr3l := block_alloc (o' := (Obj.cells #[Value.int .u8 pl] 5)) hr3; have hb3l := hb3.alloc hb3.size (Obj.cells #[Value.int .u8 pl] 5); have hrl3 := rd_lit w3 #[Value.int .u8 pl] 5 1 1 rfl)
            | (go_at_call 51; refine rnum_any pn 8 (kn1).1 (kn1).2 (by omega) (by omega) QA (HQA).out _ _ ?_; intro xa xc w3 ho3 hk1; have hr3 := row_on hrdl hk1; have hown3 := owns_below hodl hk1; have hb3 := below_tra hbdl hk1; have hrb3 := hrlb.below hk1)
            | (have hq := hown3l; refine step_appAt (by rfl) (.tmp 93) (.tmp 96) 39 (by rfl) w1.heap.size 5 (.int .u8 0) 1 1 Try.underlying39 Try.info5 rfl (by decide) ad n c _ (by rfl) hown3l xa (QA).length xc (bv QA) (by rfl) (rd_of_owns (ho3.alloc (Obj.cells #[Value.int .u8 pl] 5))) (bv_oneCell _) (owns_nil ho3) (by have := HQL.out; unfold maxLen; omega) (by have := HQL.out; omega) hb3l.size ?_; intro ad4 c4 w4 hown4 hg4 hat4; have hr4 := block_grown hg4 hr3l (own_block_ne hr3l hown3l (by decide)); have hb4 := below_app hb3l hg4 hb3l.size hown3l; have hrl4 := rd_grown hg4 hrl3 (lit_apart hown3); clear hq hown3l)
            | (have hq := hown3l; refine step_appAt (by rfl) (.tmp 93) (.tmp 96) 39 (by rfl) w1.heap.size 5 (.int .u8 0) 1 1 Try.underlying39 Try.info5 rfl (by decide) ad n c _ (by rfl) hown3 xa (QA).length xc (bv QA) (by rfl) (rd_of_owns ho3) (bv_oneCell _) (owns_nil ho3) (by have := HQL.out; unfold maxLen; omega) (by have := HQL.out; omega) hb3.size ?_; intro ad4 c4 w4 hown4 hg4 hat4; have hr4 := block_grown hg4 hr3 (own_block_ne hr3 hown3 (by decide)); have hb4 := below_app hb3 hg4 hb3.size hown3; have hown4l := hown4.alloc (Obj.cells #[Value.int .u8 pl] 5); have hr4l := block_alloc (o' := (Obj.cells #[Value.int .u8 pl] 5)) hr4; have hb4l := hb4.alloc hb4.size (Obj.cells #[Value.int .u8 pl] 5); have hrl4l := rd_lit w4 #[Value.int .u8 pl] 5 1 1 rfl; clear hq hown3l)
            | (have hq := hrb3; refine step_appAt (by rfl) (.tmp 93) (.tmp 96) 39 (by rfl) w1.heap.size 5 (.int .u8 0) 1 1 Try.underlying39 Try.info5 rfl (by decide) ad n c _ (by rfl) hown3 xa (QA).length xc (bv QA) (by rfl) (rd_of_owns ho3) (bv_oneCell _) (owns_nil ho3) (by have := HQL.out; unfold maxLen; omega) (by have := HQL.out; omega) hb3.size ?_; intro ad4 c4 w4 hown4 hg4 hat4; have hr4 := block_grown hg4 hr3 (own_block_ne hr3 hown3 (by decide)); have hb4 := below_app hb3 hg4 hb3.size hown3; have hrb4 := rd_grown hg4 hrb3 (lit_apart hod0); clear hq hrb3)
            | (have hq := hrl4; refine step_appAt (by rfl) (.tmp 97) (.tmp 101) 39 (by rfl) w1.heap.size 5 (.int .u8 0) 1 1 Try.underlying39 Try.info5 rfl (by decide) ad4 (n + (QA).length) c4 _ (by rfl) hown4 (some ⟨w3.heap.size, 0, none⟩) 1 1 [Value.int .u8 pl] (by rfl) hrl4 (one_oneCell _ _) (fun h => by cases h) (by have := HQL.out; unfold maxLen; omega) (by have := HQL.out; omega) hb4.size ?_; intro ad5 c5 w5 hown5 hg5 hat5; have hr5 := block_grown hg5 hr4 (own_block_ne hr4 hown4 (by decide)); have hb5 := below_app hb4 hg5 hb4.size hown4)
            | (have hq := hrl4l; refine step_appAt (by rfl) (.tmp 97) (.tmp 101) 39 (by rfl) w1.heap.size 5 (.int .u8 0) 1 1 Try.underlying39 Try.info5 rfl (by decide) ad4 (n + (QA).length) c4 _ (by rfl) hown4l (some ⟨w4.heap.size, 0, none⟩) 1 1 [Value.int .u8 pl] (by rfl) hrl4l (one_oneCell _ _) (fun h => by cases h) (by have := HQL.out; unfold maxLen; omega) (by have := HQL.out; omega) hb4l.size ?_; intro ad5 c5 w5 hown5 hg5 hat5; have hr5 := block_grown hg5 hr4l (own_block_ne hr4l hown4l (by decide)); have hb5 := below_app hb4l hg5 hb4l.size hown4l)
            | (have hq := hrb4; refine step_appAt (by rfl) (.tmp 97) (.tmp 101) 39 (by rfl) w1.heap.size 5 (.int .u8 0) 1 1 Try.underlying39 Try.info5 rfl (by decide) ad4 (n + (QA).length) c4 _ (by rfl) hown4 (some ⟨wa.heap.size, 0, none⟩) 1 1 [Value.int .u8 pl] (by rfl) hrb4 (one_oneCell _ _) (fun h => by cases h) (by have := HQL.out; unfold maxLen; omega) (by have := HQL.out; omega) hb4.size ?_; intro ad5 c5 w5 hown5 hg5 hat5; have hr5 := block_grown hg5 hr4 (own_block_ne hr4 hown4 (by decide)); have hb5 := below_app hb4 hg5 hb4.size hown4))
        all_goals
          rw [(HLT8).out, ← bv_append, ← bv_append] at hown5
          go_wp2_with fail
          go_meet
          exact ⟨ad5, _, c5, rfl, Lib.hid rfl, Lib.hid hr5, Lib.hid hown5, Lib.hid hb5⟩
      obtain ⟨adna, na, cna, rfl, HEna, HRna, HOna, HBna⟩ := hcut
      obtain ⟨wna, rfl⟩ : ∃ x, x = wc := ⟨_, rfl⟩
      have hnab : na ≤ n + 9 := by have := HQL.out; have := HEna.out; omega
      go_upto_region 12 with fail
      go_cut [4] from 53 to 127 (fun sb wx => ∃ (nad : Option Addr) (nn ncc : Nat), sb = .slice nad nn ncc ∧ Hid (nn = na + (QB).length + 1) ∧ Hid (wx.heap[wo.heap.size]? = some (Obj.cells #[Value.int .i64 pn, .int .i64 pl, .int .i64 pc, .slice a1 pa.length a2, .slice b1 pb.length b2] 41)) ∧ Hid (wx.ownsRow w1.heap.size 5 1 (.slice nad nn ncc) nn (bv (M ++ QA ++ [b8 pl] ++ QB ++ [b8 (pa.length : Int)]))) ∧ Hid (Below w1.heap.size w1 wx))
      case first =>
        have hrd0 : wna.drew.heap[wo.heap.size]? = some (Obj.cells #[Value.int .i64 pn, .int .i64 pl, .int .i64 pc, .slice a1 pa.length a2, .slice b1 pb.length b2] 41) := (HRna).out
        have s0 := pb_of_row hrd0
        have hod0 := owns_below (HOna).out ((Below.refl wna.heap.size wna).drew)
        have hbd0 : Below w1.heap.size w1 wna.drew := (HBna).out.drew
        have hrdl := block_alloc (o' := (Obj.cells #[Value.int .u8 (pa.length : Int)] 5)) hrd0
        have hodl := hod0.alloc (Obj.cells #[Value.int .u8 (pa.length : Int)] 5)
        have hbdl := hbd0.alloc hbd0.size (Obj.cells #[Value.int .u8 (pa.length : Int)] 5)
        have hrlb := rd_lit wna.drew #[Value.int .u8 (pa.length : Int)] 5 1 1 rfl
        go_region_held3 (fun x => (x.cell? ⟨wo.heap.size, 0, none⟩ = some (Value.int .i64 pn) ∧ x.cell? ⟨wo.heap.size, 1, none⟩ = some (Value.int .i64 pl) ∧ x.cell? ⟨wo.heap.size, 2, none⟩ = some (Value.int .i64 pc) ∧ x.cell? ⟨wo.heap.size, 3, none⟩ = some (Value.slice a1 pa.length a2) ∧ x.cell? ⟨wo.heap.size, 4, none⟩ = some (Value.slice b1 pb.length b2)))
          (first | exact s0 | exact pb_of_row hrdl | exact pb_of_row hr3 | exact pb_of_row hr3l | exact pb_of_row hr4 | exact pb_of_row hr4l | exact pb_of_row hr5 | go_keep)
          (first
            | (go_at_call 51; refine rnum_any pc 8 (kn3).1 (kn3).2 (by omega) (by omega) QB (HQB).out _ _ ?_; intro xa xc w3 ho3 hk1; have hr3 := row_on hrd0 hk1; have hown3 := owns_below hod0 hk1; have hb3 := below_tra hbd0 hk1; have hown3l := hown3.alloc (Obj.cells #[Value.int .u8 (pa.length : Int)] 5); have hr3l := block_alloc (o' := (Obj.cells #[Value.int .u8 (pa.length : Int)] 5)) hr3; have hb3l := hb3.alloc hb3.size (Obj.cells #[Value.int .u8 (pa.length : Int)] 5); have hrl3 := rd_lit w3 #[Value.int .u8 (pa.length : Int)] 5 1 1 rfl)
            | (go_at_call 51; refine rnum_any pc 8 (kn3).1 (kn3).2 (by omega) (by omega) QB (HQB).out _ _ ?_; intro xa xc w3 ho3 hk1; have hr3 := row_on hrdl hk1; have hown3 := owns_below hodl hk1; have hb3 := below_tra hbdl hk1; have hrb3 := hrlb.below hk1)
            | (have hq := hown3l; refine step_appAt (by rfl) (.tmp 103) (.tmp 106) 39 (by rfl) w1.heap.size 5 (.int .u8 0) 1 1 Try.underlying39 Try.info5 rfl (by decide) adna na cna _ (by rfl) hown3l xa (QB).length xc (bv QB) (by rfl) (rd_of_owns (ho3.alloc (Obj.cells #[Value.int .u8 (pa.length : Int)] 5))) (bv_oneCell _) (owns_nil ho3) (by have := HQL.out; unfold maxLen; omega) (by have := HQL.out; omega) hb3l.size ?_; intro ad4 c4 w4 hown4 hg4 hat4; have hr4 := block_grown hg4 hr3l (own_block_ne hr3l hown3l (by decide)); have hb4 := below_app hb3l hg4 hb3l.size hown3l; have hrl4 := rd_grown hg4 hrl3 (lit_apart hown3); clear hq hown3l)
            | (have hq := hown3l; refine step_appAt (by rfl) (.tmp 103) (.tmp 106) 39 (by rfl) w1.heap.size 5 (.int .u8 0) 1 1 Try.underlying39 Try.info5 rfl (by decide) adna na cna _ (by rfl) hown3 xa (QB).length xc (bv QB) (by rfl) (rd_of_owns ho3) (bv_oneCell _) (owns_nil ho3) (by have := HQL.out; unfold maxLen; omega) (by have := HQL.out; omega) hb3.size ?_; intro ad4 c4 w4 hown4 hg4 hat4; have hr4 := block_grown hg4 hr3 (own_block_ne hr3 hown3 (by decide)); have hb4 := below_app hb3 hg4 hb3.size hown3; have hown4l := hown4.alloc (Obj.cells #[Value.int .u8 (pa.length : Int)] 5); have hr4l := block_alloc (o' := (Obj.cells #[Value.int .u8 (pa.length : Int)] 5)) hr4; have hb4l := hb4.alloc hb4.size (Obj.cells #[Value.int .u8 (pa.length : Int)] 5); have hrl4l := rd_lit w4 #[Value.int .u8 (pa.length : Int)] 5 1 1 rfl; clear hq hown3l)
            | (have hq := hrb3; refine step_appAt (by rfl) (.tmp 103) (.tmp 106) 39 (by rfl) w1.heap.size 5 (.int .u8 0) 1 1 Try.underlying39 Try.info5 rfl (by decide) adna na cna _ (by rfl) hown3 xa (QB).length xc (bv QB) (by rfl) (rd_of_owns ho3) (bv_oneCell _) (owns_nil ho3) (by have := HQL.out; unfold maxLen; omega) (by have := HQL.out; omega) hb3.size ?_; intro ad4 c4 w4 hown4 hg4 hat4; have hr4 := block_grown hg4 hr3 (own_block_ne hr3 hown3 (by decide)); have hb4 := below_app hb3 hg4 hb3.size hown3; have hrb4 := rd_grown hg4 hrb3 (lit_apart hod0); clear hq hrb3)
            | (have hq := hrl4; refine step_appAt (by rfl) (.tmp 107) (.tmp 112) 39 (by rfl) w1.heap.size 5 (.int .u8 0) 1 1 Try.underlying39 Try.info5 rfl (by decide) ad4 (na + (QB).length) c4 _ (by rfl) hown4 (some ⟨w3.heap.size, 0, none⟩) 1 1 [Value.int .u8 (pa.length : Int)] (by rfl) hrl4 (one_oneCell _ _) (fun h => by cases h) (by have := HQL.out; unfold maxLen; omega) (by have := HQL.out; omega) hb4.size ?_; intro ad5 c5 w5 hown5 hg5 hat5; have hr5 := block_grown hg5 hr4 (own_block_ne hr4 hown4 (by decide)); have hb5 := below_app hb4 hg5 hb4.size hown4)
            | (have hq := hrl4l; refine step_appAt (by rfl) (.tmp 107) (.tmp 112) 39 (by rfl) w1.heap.size 5 (.int .u8 0) 1 1 Try.underlying39 Try.info5 rfl (by decide) ad4 (na + (QB).length) c4 _ (by rfl) hown4l (some ⟨w4.heap.size, 0, none⟩) 1 1 [Value.int .u8 (pa.length : Int)] (by rfl) hrl4l (one_oneCell _ _) (fun h => by cases h) (by have := HQL.out; unfold maxLen; omega) (by have := HQL.out; omega) hb4l.size ?_; intro ad5 c5 w5 hown5 hg5 hat5; have hr5 := block_grown hg5 hr4l (own_block_ne hr4l hown4l (by decide)); have hb5 := below_app hb4l hg5 hb4l.size hown4l)
            | (have hq := hrb4; refine step_appAt (by rfl) (.tmp 107) (.tmp 112) 39 (by rfl) w1.heap.size 5 (.int .u8 0) 1 1 Try.underlying39 Try.info5 rfl (by decide) ad4 (na + (QB).length) c4 _ (by rfl) hown4 (some ⟨wna.heap.size, 0, none⟩) 1 1 [Value.int .u8 (pa.length : Int)] (by rfl) hrb4 (one_oneCell _ _) (fun h => by cases h) (by have := HQL.out; unfold maxLen; omega) (by have := HQL.out; omega) hb4.size ?_; intro ad5 c5 w5 hown5 hg5 hat5; have hr5 := block_grown hg5 hr4 (own_block_ne hr4 hown4 (by decide)); have hb5 := below_app hb4 hg5 hb4.size hown4))
        all_goals
          rw [(HLTA).out, ← bv_append, ← bv_append] at hown5
          go_wp2_with fail
          go_meet
          exact ⟨ad5, _, c5, rfl, Lib.hid rfl, Lib.hid hr5, Lib.hid hown5, Lib.hid hb5⟩
      obtain ⟨adnb, nb, cnb, rfl, HEnb, HRnb, HOnb, HBnb⟩ := hcut
      obtain ⟨wnb, rfl⟩ : ∃ x, x = wc := ⟨_, rfl⟩
      have hnbb : nb ≤ n + 18 := by have := HQL.out; have := HEnb.out; omega
      go_upto_region 13 with fail
      go_cut [4] from 53 to 127 (fun sb wx => ∃ (nad : Option Addr) (nn ncc : Nat), sb = .slice nad nn ncc ∧ Hid (nn = nb + pa.length + 1) ∧ Hid (wx.heap[wo.heap.size]? = some (Obj.cells #[Value.int .i64 pn, .int .i64 pl, .int .i64 pc, .slice a1 pa.length a2, .slice b1 pb.length b2] 41)) ∧ Hid (wx.ownsRow w1.heap.size 5 1 (.slice nad nn ncc) nn (bv (M ++ QA ++ [b8 pl] ++ QB ++ [b8 (pa.length : Int)] ++ pa ++ [b8 (pb.length : Int)]))) ∧ Hid (Below w1.heap.size w1 wx))
      case first =>
        have hrd0 : wnb.drew.heap[wo.heap.size]? = some (Obj.cells #[Value.int .i64 pn, .int .i64 pl, .int .i64 pc, .slice a1 pa.length a2, .slice b1 pb.length b2] 41) := HRnb.out
        have s0 := pb_of_row hrd0
        have hod0 := owns_below HOnb.out ((Below.refl wnb.heap.size wnb).drew)
        have hbd0 : Below w1.heap.size w1 wnb.drew := HBnb.out.drew
        have hodl := hod0.alloc (Obj.cells #[Value.int .u8 (pb.length : Int)] 5)
        have hrdl := block_alloc (o' := (Obj.cells #[Value.int .u8 (pb.length : Int)] 5)) hrd0
        have hbdl := hbd0.alloc hbd0.size (Obj.cells #[Value.int .u8 (pb.length : Int)] 5)
        have hrl3 := rd_lit wnb.drew #[Value.int .u8 (pb.length : Int)] 5 1 1 rfl
        have hpx := Lib.hid (HPC5.out.hx.below (below_then HB.out hbdl HB.out.size)).parts
        have hpx0 := Lib.hid (HPC5.out.hx.below (below_then HB.out hbd0 HB.out.size)).parts
        go_region_held3 (fun x => (x.cell? ⟨wo.heap.size, 0, none⟩ = some (Value.int .i64 pn) ∧ x.cell? ⟨wo.heap.size, 1, none⟩ = some (Value.int .i64 pl) ∧ x.cell? ⟨wo.heap.size, 2, none⟩ = some (Value.int .i64 pc) ∧ x.cell? ⟨wo.heap.size, 3, none⟩ = some (Value.slice a1 pa.length a2) ∧ x.cell? ⟨wo.heap.size, 4, none⟩ = some (Value.slice b1 pb.length b2)))
          (first | exact s0 | exact pb_of_row hrdl | exact pb_of_row hr4 | exact pb_of_row hr4l | exact pb_of_row hr5 | go_keep)
          (first
            | (have hq := hodl; refine step_appAt (by rfl) (.tmp 114) (.tmp 116) 39 (by rfl) w1.heap.size 5 (.int .u8 0) 1 1 Try.underlying39 Try.info5 rfl (by decide) adnb nb cnb _ (by rfl) hodl a1 pa.length a2 (bv pa) (by rfl) hpx.out.2.1 (bv_oneCell _) hpx.out.2.2.2.2 (by unfold maxLen; omega) (by omega) hbdl.size ?_; intro ad4 c4 w4 hown4 hg4 hat4; have hr4 := block_grown hg4 hrdl (own_block_ne hrdl hodl (by decide)); have hb4 := below_app hbdl hg4 hbdl.size hodl; have hrl4 := rd_grown hg4 hrl3 (lit_apart hod0); clear hq hodl)
            | (have hq := hodl; refine step_appAt (by rfl) (.tmp 114) (.tmp 116) 39 (by rfl) w1.heap.size 5 (.int .u8 0) 1 1 Try.underlying39 Try.info5 rfl (by decide) adnb nb cnb _ (by rfl) hod0 a1 pa.length a2 (bv pa) (by rfl) hpx0.out.2.1 (bv_oneCell _) hpx0.out.2.2.2.2 (by unfold maxLen; omega) (by omega) hbd0.size ?_; intro ad4 c4 w4 hown4 hg4 hat4; have hr4 := block_grown hg4 hrd0 (own_block_ne hrd0 hod0 (by decide)); have hb4 := below_app hbd0 hg4 hbd0.size hod0; have hown4l := hown4.alloc (Obj.cells #[Value.int .u8 (pb.length : Int)] 5); have hr4l := block_alloc (o' := (Obj.cells #[Value.int .u8 (pb.length : Int)] 5)) hr4; have hb4l := hb4.alloc hb4.size (Obj.cells #[Value.int .u8 (pb.length : Int)] 5); have hrl4l := rd_lit w4 #[Value.int .u8 (pb.length : Int)] 5 1 1 rfl; clear hq hodl)
            | (have hq := hrl4; refine step_appAt (by rfl) (.tmp 117) (.tmp 122) 39 (by rfl) w1.heap.size 5 (.int .u8 0) 1 1 Try.underlying39 Try.info5 rfl (by decide) ad4 (nb + pa.length) c4 _ (by rfl) hown4 (some ⟨wnb.drew.heap.size, 0, none⟩) 1 1 [Value.int .u8 (pb.length : Int)] (by rfl) hrl4 (one_oneCell _ _) (fun h => by cases h) (by unfold maxLen; omega) (by omega) hb4.size ?_; intro ad5 c5 w5 hown5 hg5 hat5; have hr5 := block_grown hg5 hr4 (own_block_ne hr4 hown4 (by decide)); have hb5 := below_app hb4 hg5 hb4.size hown4)
            | (have hq := hrl4l; refine step_appAt (by rfl) (.tmp 117) (.tmp 122) 39 (by rfl) w1.heap.size 5 (.int .u8 0) 1 1 Try.underlying39 Try.info5 rfl (by decide) ad4 (nb + pa.length) c4 _ (by rfl) hown4l (some ⟨w4.heap.size, 0, none⟩) 1 1 [Value.int .u8 (pb.length : Int)] (by rfl) hrl4l (one_oneCell _ _) (fun h => by cases h) (by unfold maxLen; omega) (by omega) hb4l.size ?_; intro ad5 c5 w5 hown5 hg5 hat5; have hr5 := block_grown hg5 hr4l (own_block_ne hr4l hown4l (by decide)); have hb5 := below_app hb4l hg5 hb4l.size hown4l))
        all_goals
          rw [HLTB.out, ← bv_append, ← bv_append] at hown5
          go_wp2_with fail
          go_meet
          exact ⟨ad5, _, c5, rfl, Lib.hid rfl, Lib.hid hr5, Lib.hid hown5, Lib.hid hb5⟩
      obtain ⟨adnc, nc, cnc, rfl, HEnc, HRnc, HOnc, HBnc⟩ := hcut
      obtain ⟨wnc, rfl⟩ : ∃ x, x = wc := ⟨_, rfl⟩
      have hncb : nc ≤ n + 150 := by have := HEnc.out; omega
      have hb5 := HBnc.out
      have hpy := Lib.hid (HPC5.out.hy.below (below_then HB.out hb5 HB.out.size)).parts
      obtain ⟨q0, q1, q2, q3, q4⟩ := pb_of_row HRnc.out
      have hsz := HBnc.out.size
      clear hb5
      go_wp2_with (at_builtin; refine wpList_appAt (by rfl) (.tmp 124) (.tmp 126) 39 (by rfl) w1.heap.size 5 (.int .u8 0) 1 1 Try.underlying39 Try.info5 rfl (by decide) adnc nc cnc _ (by rfl) HOnc.out b1 pb.length b2 (bv pb) (by rfl) hpy.out.2.1 (bv_oneCell _) hpy.out.2.2.2.2 (by unfold maxLen; omega) (by omega) hsz ?_; intro ad6 c6 w6 hown6 hg6 _; have hb6 : Hid (Below w1.heap.size w1 w6) := below_app HBnc.out hg6 hsz HOnc.out; rw [← bv_append, HQJ.out] at hown6; have HO6 := Lib.hid hown6; clear hown6 hg6)
      have hlen6 : nc + pb.length = (M ++ PB5).length := by
        have h1 := congrArg List.length HQJ.out
        simp only [List.length_append, List.length_cons, List.length_nil] at h1 ⊢
        have := HEna.out
        have := HEnb.out
        have := HEnc.out
        have := HNM.out
        omega
      have HL6 := Lib.hid hlen6
      have hbound : nc + pb.length ≤ 26 + 300 * (k + 1) := by
        have h1 : (M ++ PB5).length = n + PB5.length := by rw [List.length_append, ← HNM.out]
        omega
      clear hlen6 q0 q1 q2 q3 q4
      go_roundg (add.length - (k + 1))
      case measure => omega
      case rel => exact ⟨k + 1, c6, nc + pb.length, ad6, M ++ PB5, by omega, rfl, by go_num, rfl, hbound, HF2, HFS, HL6, HO6, hb6⟩
    · have hkk : ¬ (k : Int) < (add.length : Int) := by omega
      have hMM : M = HD8 ++ add.flatMap placeB := by rw [← HM.out, List.take_of_length_le (by omega)]
      have HAK : Hid (add.all okP = true) := by
        have := HF.out
        rw [List.take_of_length_le (by omega)] at this
        exact this
      have HMM := Lib.hid hMM
      have HRN := Lib.hid hrn
      have HBW := Lib.hid hbw
      obtain ⟨PE, hPE⟩ : ∃ P, putL ((dr.length : Int)).toNat ((2 : Int)).toNat = P := ⟨_, rfl⟩
      have HPEL : Hid (PE.length = 2) := by show _ = _; rw [← hPE, putL_length]; rfl
      have HPE := Lib.hid hPE
      clear hMM hPE HM HF hrn hbw
      go_wp2_with (first
        | (go_at_call 51; go_must (refine rnum_any (dr.length : Int) 2 (by omega) (by omega) (by omega) (by omega) PE HPE.out _ _ ?_); intro ea ec w3 ho3 hk1; have hn1 : w1.heap.size ≤ w3.heap.size := Nat.le_trans HBR.out.size hk1.size; have hown3 := Lib.hid (owns_below HO.out hk1); have HO3 := Lib.hid ho3; have HK1 := Lib.hid hk1; clear ho3 hk1 f4)
        | (have hq := hown3.out; at_builtin; go_must (refine wpList_appAt (by rfl) (.tmp 128) (.tmp 132) 39 (by rfl) w1.heap.size 5 (.int .u8 0) 1 1 Try.underlying39 Try.info5 rfl (by decide) ad n c _ (by rfl) hown3.out ea PE.length ec (bv PE) (by rfl) (rd_of_owns HO3.out) (bv_oneCell _) (owns_nil HO3.out) (by have := HPEL.out; unfold maxLen; omega) (by have := HPEL.out; omega) hn1 ?_); intro ad4 c4 w4 hown4 hg4 _; have hb4 : Hid (Below w1.heap.size w1 w4) := below_app (below_tra HBR.out HK1.out) hg4 hn1 hown3.out; rw [← bv_append] at hown4; have HO4 := Lib.hid hown4; clear hq hown3 hown4 hg4))
      have hM2 : M ++ PE = HD8 ++ add.flatMap placeB ++ putL dr.length 2 := by rw [HMM.out, ← HPE.out]; rfl
      obtain ⟨M2, hMM2⟩ : ∃ m, M ++ PE = m := ⟨_, rfl⟩
      rw [hMM2] at hM2 HO4
      have hnl : n + PE.length = M2.length := by rw [← hMM2, List.length_append, ← HNM.out]
      have hnb : n + PE.length ≤ 30000000 := by have := HPEL.out; omega
      have HM2 := Lib.hid hM2
      obtain ⟨n2, hn2⟩ : ∃ m, n + PE.length = m := ⟨_, rfl⟩
      rw [hn2] at HO4 hnl hnb ⊢
      have HNL := Lib.hid hnl
      clear hM2 hMM2 hnl hn2 HO HMM HNM
      go_loopg [4, 7] dr.length (fun gn sb i wr => ∃ (k c n : Nat) (ad : Option Addr) (M : List UInt8), k ≤ dr.length ∧ gn = dr.length - k ∧ i = .int .i64 k ∧ sb = .slice ad n c ∧ n ≤ n2 + 8 * k ∧ Hid ((dr.take k).all numberL = true) ∧ Hid (M2 ++ dropB (dr.take k) = M) ∧ Hid (n = M.length) ∧ Hid (wr.ownsRow w1.heap.size 5 1 (.slice ad n c) n (bv M)) ∧ Hid (Below w1.heap.size w1 wr))
      case atStart => exact ⟨0, c4, n2, ad4, M2, Nat.zero_le _, by omega, rfl, rfl, by omega, rfl, (Lib.hid (by simp [dropB])), HNL, HO4, hb4⟩
      case round =>
        obtain ⟨k, c, n, ad, M, hk, rfl, rfl, rfl, hn, HF, HM, HNM, HO, HBR⟩ := hrel
        obtain ⟨wo, rfl⟩ : ∃ x, x = wr := ⟨_, rfl⟩
        have hbw : Below w.heap.size w wo := below_then HB.out HBR.out HB.out.size
        have hrn := row_on HN.out HBR.out
        have f4 : wo.cell? ⟨w.heap.size, 4, none⟩ = some (Value.slice da dr.length dc) := cell_of_row _ w.heap.size 4 _ _ _ hrn
        by_cases hlt : k < dr.length
        · have hkk : (k : Int) < (dr.length : Int) := by omega
          obtain ⟨db, d0, hda, hdc⟩ := (HD.out.below hbw).at k hlt
          rw [hda] at f4
          have hfs : dropB (dr.take (k + 1)) = dropB (dr.take k) ++ putL dr[k].toNat 8 := flat_succ _ dr k hlt
          have htk : (dr.take (k + 1)).all numberL = ((dr.take k).all numberL && numberL dr[k]) := by
            rw [List.take_succ_eq_append_getElem hlt, List.all_append]
            simp
          have hmem : dr[k] ∈ dr := List.getElem_mem _
          obtain ⟨m, hm⟩ : ∃ m, dr[k] = m := ⟨_, rfl⟩
          rw [hm] at hdc hfs htk hmem
          have HBAD : Hid (numberL m = false → X = [] ∧ z = 80) := fun h => HBADZ.out (by
            rw [HT.out]
            have : dr.all numberL = false := by rw [List.all_eq_false]; exact ⟨m, hmem, by simp [h]⟩
            rw [this, Bool.and_false])
          obtain ⟨cm, km⟩ : ∃ b, numberL m = b := ⟨_, rfl⟩
          rw [km] at htk
          have KM := Lib.hid km
          have HTK := Lib.hid htk
          have HBW := Lib.hid hbw
          clear hm htk hmem km hbw hrn hda
          cases cm with
          | false =>
            obtain ⟨rfl, rfl⟩ := HBAD.out KM.out
            go_wp2_with (go_at_call 42; go_must (refine in_any m _ _ false KM.out _ _ ?_))
            all_goals exact HR.out none 0 _ (World.ownsRow_nil _ _ _ _) HBW.out
          | true =>
            have HF2 : Hid ((dr.take (k + 1)).all numberL = true) := by show _ = _; rw [HTK.out, HF.out]; rfl
            have km2 := numberL_parts KM.out
            obtain ⟨QE, hQE⟩ : ∃ P, putL m.toNat ((8 : Int)).toNat = P := ⟨_, rfl⟩
            have HQL : Hid (QE.length = 8) := by show _ = _; rw [← hQE, putL_length]; rfl
            have HFS : Hid (M2 ++ dropB (dr.take (k + 1)) = M ++ QE) := by
              show _ = _
              rw [hfs, ← HM.out, List.append_assoc, ← hQE]
              rfl
            have HQE := Lib.hid hQE
            clear hfs hQE HTK HBAD HF
            go_wp2_with (first
              | (go_at_call 42; go_must (refine in_any m _ _ true KM.out _ _ ?_))
              | (go_at_call 51; go_must (refine rnum_any m 8 km2.1 km2.2 (by omega) (by omega) QE HQE.out _ _ ?_); intro ea ec w3 ho3 hk1; have hn1 : w1.heap.size ≤ w3.heap.size := Nat.le_trans HBR.out.size hk1.size; have hown3 := Lib.hid (owns_below HO.out hk1); have HO3 := Lib.hid ho3; have HK1 := Lib.hid hk1; clear ho3 hk1)
              | (have hq := hown3.out; at_builtin; go_must (refine wpList_appAt (by rfl) (.tmp 148) (.tmp 154) 39 (by rfl) w1.heap.size 5 (.int .u8 0) 1 1 Try.underlying39 Try.info5 rfl (by decide) ad n c _ (by rfl) hown3.out ea QE.length ec (bv QE) (by rfl) (rd_of_owns HO3.out) (bv_oneCell _) (owns_nil HO3.out) (by have := HQL.out; unfold maxLen; omega) (by have := HQL.out; omega) hn1 ?_); intro ad4 c4 w4 hown4 hg4 _; have hb4 : Hid (Below w1.heap.size w1 w4) := below_app (below_tra HBR.out HK1.out) hg4 hn1 hown3.out; rw [← bv_append] at hown4; have HO4 := Lib.hid hown4; clear hq hown3 hown4 hg4))
            have HL9 : Hid (n + QE.length = (M ++ QE).length) := by show _ = _; rw [List.length_append, ← HNM.out]
            go_roundg (dr.length - (k + 1))
            case measure => omega
            case rel => exact ⟨k + 1, c4, n + QE.length, ad4, M ++ QE, by omega, rfl, by go_num, rfl, (by have := HQL.out; omega), HF2, HFS, HL9, HO4, hb4⟩
        · have hkk : ¬ (k : Int) < (dr.length : Int) := by omega
          obtain ⟨rfl, rfl⟩ := HOKS.out (by
            have h1 := HF.out
            rw [List.take_of_length_le (by omega)] at h1
            rw [HT.out, HAK.out, h1]
            rfl)
          have hfin : encB ⟨log, next, seq, add, dr⟩ = M := by
            rw [← HM.out, List.take_of_length_le (by omega), HM2.out, ← HHD.out]
            rfl
          have hnM := HNM.out
          have ho := HO.out
          rw [hnM] at ho
          have HOF : Hid (wo.ownsRow w.heap.size 5 1 (.slice ad M.length c) M.length (bv M)) := owns_mono ho HB.out.size
          have HRM : Hid (R (Ending.returned (.tuple #[.slice ad M.length c, .int .i64 0])) wo) := by
            have := HR.out ad c wo
            rw [hfin] at this
            exact this HOF.out hbw
          have HNE := Lib.hid hnM
          clear hfin hnM ho HOF HR hrn
          go_wp2
          have := HRM.out
          rw [← HNE.out] at this
          exact this
end Go.Proofs.Ytpodgocmcnkfdaa
