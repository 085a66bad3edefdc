/- Whether an edit can be laid (laid, with the search of slices.ContainsFunc); eight bytes of a number, a text with its length ahead: walked. -/
import Derived.Test.YtpodgocmcnkfdaaEncP
import Derived.Test.YtpodgocmcnkfdaaIs
import Derived.Test.YtpodgocmcnkfdaaAppB
namespace Go.Proofs.Ytpodgocmcnkfdaa
open Go.RowKit

theorem laidc_any (n : Int) (t : Bool) (ht : (!(numberL n)) = t) (w : World) (R : Ending → World → Prop) (hR : R (.returned (.bool t)) w) : Calls Try.prog 67 #[.int .i64 n] w R := by
  obtain ⟨b, hb⟩ : ∃ b, numberL n = b := ⟨_, rfl⟩
  rw [hb] at ht
  have HB := Lib.hid hb
  subst ht
  clear hb
  go_enter Try.func67, Try.ntmps67
  go_wp2_with (go_at_call 39; go_must (refine number_any n b HB.out _ _ ?_))
  exact hR

/-- The first of the numbers that may not be; -1: there is none. -/
theorem indexf_any (v : Value) (l : List Int) (w : World) (hv : Is w v l) (R : Ending → World → Prop) (hR : ∀ i : Int, (decide (0 ≤ i) = !(l.all numberL)) → R (.returned (.int .i64 i)) w) :
    Calls Try.prog 75 #[v, .func (.func 67) #[] #[]] w R := by
  have HR := Lib.hid hR
  have HV := Lib.hid hv
  have hlen := hv.len
  obtain ⟨va, vc, rfl, _⟩ := hv
  clear hR
  go_enter Try.func75, Try.ntmps75
  go_wp2
  go_loopg [8] l.length (fun gn i wr => ∃ k : Nat, k ≤ l.length ∧ gn = l.length - k ∧ i = .int .i64 k ∧ wr = w ∧ Hid ((l.take k).all numberL = true))
  case atStart => exact ⟨0, Nat.zero_le _, by omega, rfl, rfl, rfl⟩
  case round =>
    obtain ⟨k, hk, rfl, rfl, rfl, HF⟩ := hrel
    by_cases hlt : k < l.length
    · have hkk : (k : Int) < (l.length : Int) := by omega
      obtain ⟨b, o, rfl, hc⟩ := HV.out.at k hlt
      obtain ⟨m, hm⟩ : ∃ m, l[k] = m := ⟨_, rfl⟩
      rw [hm] at hc
      have HM := Lib.hid hm
      have HT : Hid ((l.take (k + 1)).all numberL = ((l.take k).all numberL && numberL m)) := by
        show _ = _
        rw [List.take_succ_eq_append_getElem hlt, List.all_append, hm]
        simp
      obtain ⟨t, ht⟩ : ∃ t, (!(numberL m)) = t := ⟨_, rfl⟩
      have HTT := Lib.hid ht
      clear hm ht
      cases t with
      | true =>
        have hfin : decide ((0 : Int) ≤ (k : Int)) = !(l.all numberL) := by
          have h1 : numberL m = false := by have := HTT.out; simpa using this
          have h2 : l.all numberL = false := by
            rw [List.all_eq_false]
            exact ⟨m, by rw [← HM.out]; exact List.getElem_mem _, by simp [h1]⟩
          rw [h2]
          simp
        have HFIN := Lib.hid hfin
        clear hfin
        go_wp2_with (go_at_call 67; go_must (refine laidc_any m true HTT.out _ _ ?_))
        exact HR.out _ HFIN.out
      | false =>
        have hf : Hid ((l.take (k + 1)).all numberL = true) := by
          show _ = _
          rw [HT.out, HF.out]
          have := HTT.out
          simpa using this
        go_wp2_with (go_at_call 67; go_must (refine laidc_any m false HTT.out _ _ ?_))
        go_roundg (l.length - (k + 1))
        case measure => omega
        case rel => exact ⟨k + 1, by omega, rfl, by go_num, rfl, hf⟩
    · have hkk : ¬ (k : Int) < (l.length : Int) := by omega
      have hfin : decide ((0 : Int) ≤ -1) = !(l.all numberL) := by
        have := HF.out
        rw [List.take_of_length_le (by omega)] at this
        rw [this]
        rfl
      have HFIN := Lib.hid hfin
      clear hfin
      go_wp2
      exact HR.out _ HFIN.out
theorem containsf_any (v : Value) (l : List Int) (w : World) (hv : Is w v l) (R : Ending → World → Prop) (hR : R (.returned (.bool (!(l.all numberL)))) w) :
    Calls Try.prog 66 #[v, .func (.func 67) #[] #[]] w R := by
  have HR := Lib.hid hR
  have HV := Lib.hid hv
  obtain ⟨va, vc, rfl, _⟩ := hv
  obtain ⟨t, ht⟩ : ∃ t, (!(l.all numberL)) = t := ⟨_, rfl⟩
  rw [ht] at HR
  have HT := Lib.hid ht
  clear hR ht
  go_enter Try.func66, Try.ntmps66
  go_wp2_with (go_at_call 75; go_must (refine indexf_any _ l _ HV.out _ ?_); intro i hi; rw [HT.out] at hi)
  all_goals exact HR.out

theorem eight_any (n : Int) (hn : numberL n = true) (P : List UInt8) (hP : putL n.toNat 8 = P) (w : World) (R : Ending → World → Prop)
    (hR : ∀ ad c w', w'.ownsRow w.heap.size 5 1 (.slice ad P.length c) P.length (bv P) → Below w.heap.size w w' → R (.returned (.slice ad P.length c)) w') :
    Calls Try.prog 48 #[.int .i64 n] w R := by
  unfold numberL at hn
  simp only [Bool.and_eq_true, decide_eq_true_eq] at hn
  obtain ⟨m, rfl⟩ : ∃ m : Nat, n = m := ⟨n.toNat, by omega⟩
  have hm : m ≤ 1099511627776 := by omega
  have hw : IntKind.u64.wrap (m : Int) = (m : Int) := by rw [IntKind.wrap_u64]; omega
  have HP : Hid (putW m 8 = P) := by
    show _ = _
    unfold putW
    rw [if_neg (by omega), ← hP]
    rfl
  have HR := Lib.hid hR
  clear hR hP hn
  go_enter Try.func48, Try.ntmps48
  go_wp2_with (go_at_call 49; go_must (refine put_any m (by omega) 8 P HP.out _ _ ?_); intro ad c w1 h1 h2; have H1 := Lib.hid h1; have H2 := Lib.hid h2; clear h1 h2)
  exact HR.out _ _ _ H1.out H2.out
theorem rnum_any (n width : Int) (h0 : 0 ≤ n) (h1 : n ≤ 1099511627776) (hw1 : 1 ≤ width) (hw2 : width ≤ 8) (P : List UInt8) (hP : putL n.toNat width.toNat = P) (w : World) (R : Ending → World → Prop)
    (hR : ∀ ad c w', w'.ownsRow w.heap.size 5 1 (.slice ad P.length c) P.length (bv P) → Below w.heap.size w w' → R (.returned (.slice ad P.length c)) w') :
    Calls Try.prog 51 #[.int .i64 n, .int .i64 width] w R := by
  obtain ⟨m, rfl⟩ : ∃ m : Nat, n = m := ⟨n.toNat, by omega⟩
  have hm : m ≤ 1099511627776 := by omega
  have hw : IntKind.u64.wrap (m : Int) = (m : Int) := by rw [IntKind.wrap_u64]; omega
  have HP : Hid (putW m width = P) := by
    show _ = _
    unfold putW
    rw [if_neg (by omega), ← hP]
    rfl
  have HR := Lib.hid hR
  clear hR hP h0 h1
  go_enter Try.func51, Try.ntmps51
  go_wp2_with (go_at_call 68; go_must (refine rput_any m (by omega) width P HP.out _ _ ?_); intro ad c w1 h1 h2; have H1 := Lib.hid h1; have H2 := Lib.hid h2; clear h1 h2)
  exact HR.out _ _ _ H1.out H2.out
theorem short_any (v : Value) (l P : List UInt8) (hl : l.length ≤ 128) (hP : [b8 (l.length : Int)] ++ l = P) (w : World) (hv : Bs w v l) (R : Ending → World → Prop)
    (hR : ∀ ad c w', w'.ownsRow w.heap.size 5 1 (.slice ad P.length c) P.length (bv P) → Below w.heap.size w w' → R (.returned (.slice ad P.length c)) w') :
    Calls Try.prog 50 #[v] w R := by
  have HR := Lib.hid hR
  have HV := Lib.hid hv
  obtain ⟨va, vc, rfl, _⟩ := hv
  obtain ⟨x, hx⟩ : ∃ x : Int, IntKind.u8.wrap (l.length : Int) = x := ⟨_, rfl⟩
  have hxb : x = ((b8 (l.length : Int)).toNat : Int) := by rw [← hx, b8_toNat, IntKind.wrap_u8]
  have hb1 : Bs (w.alloc (Obj.cells #[Value.int .u8 x] 5)) (.slice (some ⟨w.heap.size, 0, none⟩) 1 1) [b8 (l.length : Int)] := bs_lit #[Value.int .u8 x] [b8 (l.length : Int)] (by rw [hxb]; rfl) (by simp)
  have hbs : Bss ((w.alloc (Obj.cells #[Value.int .u8 x] 5)).alloc (Obj.cells #[Value.slice (some ⟨w.heap.size, 0, none⟩) 1 1, Value.slice va l.length vc] 39)) (.slice (some ⟨w.heap.size + 1, 0, none⟩) 2 2) [[b8 (l.length : Int)], l] := bss_row2 (by simp) hb1 (HV.out.alloc _)
  have HBS := Lib.hid hbs
  have HB2 : Hid (Below w.heap.size w ((w.alloc (Obj.cells #[Value.int .u8 x] 5)).alloc (Obj.cells #[Value.slice (some ⟨w.heap.size, 0, none⟩) 1 1, Value.slice va l.length vc] 39))) := ((Below.refl w.heap.size w).alloc (Nat.le_refl _) _).alloc (by simp) _
  have HJ : Hid ([[b8 (l.length : Int)], l].flatten = P) := by
    show _ = _
    rw [← hP]
    simp
  have hPl : P.length ≤ 140737488355328 := by rw [← hP]; simp; omega
  clear hR hb1 hbs hP hxb
  go_enter Try.func50, Try.ntmps50
  go_wp2_with (go_at_call 47; go_must (refine join_any _ _ P HJ.out _ HBS.out hPl _ ?_); intro ad c w3 h1 h2; have H1 := Lib.hid (owns_mono h1 HB2.out.size); have H2 := Lib.hid (below_then HB2.out h2 HB2.out.size); clear h1 h2)
  exact HR.out _ _ _ H1.out H2.out

/-- The edit's box. -/
def edB (log next seq : Int) (x y : Value) : Obj := .cells #[.int .i64 log, .int .i64 next, .int .i64 seq, x, y] 27

set_option maxRecDepth 100000 in
set_option maxHeartbeats 6400000 in
theorem laid_any (log next seq : Int) (av dv : Value) (add : List Pl) (dr : List Int) (t : Bool) (ht : okB ⟨log, next, seq, add, dr⟩ = t) (w : World) (hav : Pls w av add) (hdv : Is w dv dr) (hal : add.length ≤ 1000000) (R : Ending → World → Prop)
    (hR : ∀ w', Below w.heap.size w w' → R (.returned (.bool t)) w') :
    Calls Try.prog 46 #[.agg #[.int .i64 log, .int .i64 next, .int .i64 seq, av, dv]] w R := by
  have HR := Lib.hid hR
  have HA := Lib.hid hav
  have HD := Lib.hid hdv
  obtain ⟨aa, ac, rfl, _⟩ := hav
  obtain ⟨da, dc, rfl, _⟩ := hdv
  have hb0 : Below w.heap.size w (w.alloc (edB log next seq (.slice aa add.length ac) (.slice da dr.length dc))) := (Below.refl w.heap.size w).alloc (Nat.le_refl _) _
  have hn0 := heap_alloc_new w (edB log next seq (.slice aa add.length ac) (.slice da dr.length dc))
  unfold edB at hb0 hn0
  have HB := Lib.hid hb0
  have HN := Lib.hid hn0
  clear hR hb0 hn0
  unfold okB okH at ht
  simp only at ht
  obtain ⟨b1, h1⟩ : ∃ b, numberL log = b := ⟨_, rfl⟩
  obtain ⟨b2, h2⟩ : ∃ b, numberL next = b := ⟨_, rfl⟩
  obtain ⟨b3, h3⟩ : ∃ b, numberL seq = b := ⟨_, rfl⟩
  rw [h1, h2, h3] at ht
  have H1 := Lib.hid h1
  have H2 := Lib.hid h2
  have H3 := Lib.hid h3
  clear h1 h2 h3
  cases b1 with
  | false =>
    obtain rfl : t = false := by rw [← ht]; rfl
    clear ht
    go_enter Try.func46, Try.ntmps46
    go_wp2_with (go_at_call 39; go_must (refine number_any log false H1.out _ _ ?_))
    exact HR.out _ HB.out
  | true =>
  cases b2 with
  | false =>
    obtain rfl : t = false := by rw [← ht]; rfl
    clear ht
    go_enter Try.func46, Try.ntmps46
    go_wp2_with (first
      | (go_at_call_of 39 (Value.int .i64 log); go_must (refine number_any log true H1.out _ _ ?_))
      | (go_at_call 39; go_must (refine number_any next false H2.out _ _ ?_)))
    all_goals exact HR.out _ HB.out
  | true =>
  cases b3 with
  | false =>
    obtain rfl : t = false := by rw [← ht]; rfl
    clear ht
    go_enter Try.func46, Try.ntmps46
    go_wp2_with (first | (go_at_call_of 39 (Value.int .i64 log); go_must (refine number_any log true H1.out _ _ ?_)) | (go_at_call_of 39 (Value.int .i64 next); go_must (refine number_any next true H2.out _ _ ?_)) | (go_at_call_of 39 (Value.int .i64 seq); go_must (refine number_any seq false H3.out _ _ ?_)))
    all_goals exact HR.out _ HB.out
  | true =>
  by_cases h4 : 65535 < add.length
  · have h4z : (65535 : Int) < (add.length : Int) := by omega
    obtain rfl : t = false := by rw [← ht]; simp; omega
    clear ht
    go_enter Try.func46, Try.ntmps46
    go_wp2_with (first | (go_at_call_of 39 (Value.int .i64 log); go_must (refine number_any log true H1.out _ _ ?_)) | (go_at_call_of 39 (Value.int .i64 next); go_must (refine number_any next true H2.out _ _ ?_)) | (go_at_call_of 39 (Value.int .i64 seq); go_must (refine number_any seq true H3.out _ _ ?_)))
    all_goals exact HR.out _ HB.out
  have h4z : ¬ (65535 : Int) < (add.length : Int) := by omega
  by_cases h5 : 65535 < dr.length
  · have h5z : (65535 : Int) < (dr.length : Int) := by omega
    obtain rfl : t = false := by rw [← ht]; simp; omega
    clear ht
    go_enter Try.func46, Try.ntmps46
    go_wp2_with (first | (go_at_call_of 39 (Value.int .i64 log); go_must (refine number_any log true H1.out _ _ ?_)) | (go_at_call_of 39 (Value.int .i64 next); go_must (refine number_any next true H2.out _ _ ?_)) | (go_at_call_of 39 (Value.int .i64 seq); go_must (refine number_any seq true H3.out _ _ ?_)))
    all_goals exact HR.out _ HB.out
  have h5z : ¬ (65535 : Int) < (dr.length : Int) := by omega
  have HT : Hid ((add.all okP && dr.all numberL) = t) := by
    show _ = _
    rw [← ht, decide_eq_true (show add.length ≤ 65535 by omega), decide_eq_true (show dr.length ≤ 65535 by omega)]
    rfl
  clear ht
  go_enter Try.func46, Try.ntmps46
  go_wp2_with (first | (go_at_call_of 39 (Value.int .i64 log); go_must (refine number_any log true H1.out _ _ ?_)) | (go_at_call_of 39 (Value.int .i64 next); go_must (refine number_any next true H2.out _ _ ?_)) | (go_at_call_of 39 (Value.int .i64 seq); go_must (refine number_any seq true H3.out _ _ ?_)))
  generalize w.alloc (Obj.cells #[.int .i64 log, .int .i64 next, .int .i64 seq, .slice aa add.length ac, .slice da dr.length dc] 27) = w1 at HB HN ⊢
  have hz1 := HB.out.size
  go_loopg [36] add.length (fun gn i wr => ∃ k : Nat, k ≤ add.length ∧ gn = add.length - k ∧ i = .int .i64 k ∧ Hid ((add.take k).all okP = true) ∧ Hid (Below w1.heap.size w1 wr))
  case atStart => exact ⟨0, Nat.zero_le _, by omega, rfl, rfl, Below.refl _ _⟩
  case round =>
    obtain ⟨k, hk, rfl, rfl, HF, HBR⟩ := hrel
    obtain ⟨wo, rfl⟩ : ∃ x, x = wr := ⟨_, rfl⟩
    have hbw : Below w.heap.size w wo := below_then HB.out HBR.out HB.out.size
    by_cases hlt : k < add.length
    · have hkk : (k : Int) < (add.length : Int) := by omega
      obtain ⟨va', vc', ee, _, _, _, v4⟩ := HA.out
      simp only [Value.slice.injEq] at ee
      obtain ⟨rfl, -, rfl⟩ := ee
      obtain ⟨vb, vo, rfl, v5⟩ := v4 (by omega)
      obtain ⟨px, py, q5, hpc⟩ := v5 k hlt
      obtain ⟨p0, p1, p2, p3, p4⟩ := q5.below hbw
      have htk : (add.take (k + 1)).all okP = ((add.take k).all okP && okP add[k]) := by
        rw [List.take_succ_eq_append_getElem hlt, List.all_append]
        simp
      have hmem : add[k] ∈ add := List.getElem_mem _
      obtain ⟨p, hp⟩ : ∃ p, add[k] = p := ⟨_, rfl⟩
      rw [hp] at p0 p1 p2 hpc htk hmem
      have s1 := hpc.shape
      have HTK := Lib.hid htk
      have HBAD : Hid (okP p = false → t = false) := fun h => by
        rw [← HT.out]
        have : add.all okP = false := by rw [List.all_eq_false]; exact ⟨p, hmem, by simp [h]⟩
        rw [this]
        rfl
      have HBW := Lib.hid hbw
      clear v4 v5 hp hpc htk hmem q5 hbw
      obtain ⟨pn, pl, pc, pa, pb⟩ := p
      simp only at *
      obtain ⟨⟨a1, a2, rfl⟩, b1, b2, rfl⟩ := s1
      have hyA : Below w.heap.size w (wo.alloc (Obj.cells #[Value.int .i64 pn, .int .i64 pl, .int .i64 pc, .slice a1 pa.length a2, .slice b1 pb.length b2] 41)) := below_then HBW.out ((Below.refl wo.heap.size wo).alloc (Nat.le_refl _) _) HBW.out.size
      have HYA := Lib.hid hyA
      have HYB : Hid (Below w1.heap.size w1 (wo.alloc (Obj.cells #[Value.int .i64 pn, .int .i64 pl, .int .i64 pc, .slice a1 pa.length a2, .slice b1 pb.length b2] 41))) := below_tra HBR.out ((Below.refl wo.heap.size wo).alloc (Nat.le_refl _) _)
      clear hyA
      have HOKP : Hid (okP ⟨pn, pl, pc, pa, pb⟩ = (numberL pn && (decide (0 ≤ pl ∧ pl ≤ 255) && (numberL pc && (decide (pa.length ≤ 128) && decide (pb.length ≤ 128)))))) := rfl
      obtain ⟨c1, k1⟩ : ∃ b, numberL pn = b := ⟨_, rfl⟩
      obtain ⟨c3, k3⟩ : ∃ b, numberL pc = b := ⟨_, rfl⟩
      have K1 := Lib.hid k1
      have K3 := Lib.hid k3
      clear k1 k3
      cases c1 with
      | false =>
        obtain rfl : t = false := HBAD.out (by rw [HOKP.out, K1.out]; rfl)
        clear HBAD HTK HF HOKP
        go_wp2_with (first
  | (go_at_call_of 39 (Value.int .i64 pn); go_must (refine number_any pn false K1.out _ _ ?_))
  | (go_at_call_of 39 (Value.int .i64 pc); go_must (refine number_any pc false K3.out _ _ ?_)))
        all_goals exact HR.out _ HYA.out
      | true =>
      by_cases d1 : pl < 0
      · obtain rfl : t = false := HBAD.out (by rw [HOKP.out]; simp; omega)
        clear HBAD HTK HF HOKP
        go_wp2_with (first
  | (go_at_call_of 39 (Value.int .i64 pn); go_must (refine number_any pn true K1.out _ _ ?_))
  | (go_at_call_of 39 (Value.int .i64 pc); go_must (refine number_any pc false K3.out _ _ ?_)))
        all_goals exact HR.out _ HYA.out
      by_cases d2 : 255 < pl
      · obtain rfl : t = false := HBAD.out (by rw [HOKP.out]; simp; omega)
        clear HBAD HTK HF HOKP
        go_wp2_with (first
  | (go_at_call_of 39 (Value.int .i64 pn); go_must (refine number_any pn true K1.out _ _ ?_))
  | (go_at_call_of 39 (Value.int .i64 pc); go_must (refine number_any pc false K3.out _ _ ?_)))
        all_goals exact HR.out _ HYA.out
      cases c3 with
      | false =>
        obtain rfl : t = false := HBAD.out (by rw [HOKP.out, K3.out]; simp)
        clear HBAD HTK HF HOKP
        go_wp2_with (first
  | (go_at_call_of 39 (Value.int .i64 pn); go_must (refine number_any pn true K1.out _ _ ?_))
  | (go_at_call_of 39 (Value.int .i64 pc); go_must (refine number_any pc false K3.out _ _ ?_)))
        all_goals exact HR.out _ HYA.out
      | true =>
      by_cases d4 : 128 < pa.length
      · have d4z : (128 : Int) < (pa.length : Int) := by omega
        obtain rfl : t = false := HBAD.out (by rw [HOKP.out]; simp; omega)
        clear HBAD HTK HF HOKP
        go_wp2_with (first
  | (go_at_call_of 39 (Value.int .i64 pn); go_must (refine number_any pn true K1.out _ _ ?_))
  | (go_at_call_of 39 (Value.int .i64 pc); go_must (refine number_any pc true K3.out _ _ ?_)))
        all_goals exact HR.out _ HYA.out
      have d4z : ¬ (128 : Int) < (pa.length : Int) := by omega
      by_cases d5 : 128 < pb.length
      · have d5z : (128 : Int) < (pb.length : Int) := by omega
        obtain rfl : t = false := HBAD.out (by rw [HOKP.out]; simp; omega)
        clear HBAD HTK HF HOKP
        go_wp2_with (first
  | (go_at_call_of 39 (Value.int .i64 pn); go_must (refine number_any pn true K1.out _ _ ?_))
  | (go_at_call_of 39 (Value.int .i64 pc); go_must (refine number_any pc true K3.out _ _ ?_)))
        all_goals exact HR.out _ HYA.out
      have d5z : ¬ (128 : Int) < (pb.length : Int) := by omega
      have HF2 : Hid ((add.take (k + 1)).all okP = true) := by
        show _ = _
        rw [HTK.out, HF.out, HOKP.out, K1.out, K3.out]
        simp
        omega
      clear HBAD HTK HF
      go_wp2_with (first
  | (go_at_call_of 39 (Value.int .i64 pn); go_must (refine number_any pn true K1.out _ _ ?_))
  | (go_at_call_of 39 (Value.int .i64 pc); go_must (refine number_any pc true K3.out _ _ ?_)))
      go_roundg (add.length - (k + 1))
      case measure => omega
      case rel => exact ⟨k + 1, by omega, rfl, by go_num, HF2, HYB⟩
    · have hkk : ¬ (k : Int) < (add.length : Int) := by omega
      have HDW := Lib.hid (HD.out.below hbw)
      have hr := row_on HN.out HBR.out
      have g4 : wo.cell? ⟨w.heap.size, 4, none⟩ = some (Value.slice da dr.length dc) := cell_of_row _ w.heap.size 4 _ _ _ hr
      have HBW := Lib.hid hbw
      obtain ⟨u, hu⟩ : ∃ u, dr.all numberL = u := ⟨_, rfl⟩
      have hft : u = t := by
        rw [← HT.out, ← hu]
        have := HF.out
        rw [List.take_of_length_le (by omega)] at this
        rw [this, Bool.true_and]
      subst hft
      have HU := Lib.hid hu
      clear hr hbw hu HT HF
      go_wp2_with (go_at_call 66; go_must (refine containsf_any _ dr _ HDW.out _ ?_); rw [HU.out])
      all_goals
        have e : (!(!u)) = u := Bool.not_not u
        first | exact HR.out _ HBW.out | (rw [← e]; exact HR.out _ HBW.out)
end Go.Proofs.Ytpodgocmcnkfdaa
