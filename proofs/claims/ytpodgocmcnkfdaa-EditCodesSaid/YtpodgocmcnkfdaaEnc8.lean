/- edit.Encode: walked. -/
import Derived.Test.YtpodgocmcnkfdaaEncW
import Derived.Deep.CutRange
import Derived.Deep.CutBlock
import Derived.Test.YtpodgocmcnkfdaaV4
import Derived.Test.YtpodgocmcnkfdaaApp0
import Derived.Deep.RegionHeld3
namespace Go.Proofs.Ytpodgocmcnkfdaa
open Go.RowKit

theorem bss_row4 {w : World} {e g : Nat} {v0 v1 v2 v3 : Value} {l0 l1 l2 l3 : List UInt8} (hg : g = w.heap.size) (h0 : Bs w v0 l0) (h1 : Bs w v1 l1) (h2 : Bs w v2 l2) (h3 : Bs w v3 l3) : Bss (w.alloc (.cells #[v0, v1, v2, v3] e)) (.slice (some ⟨g, 0, none⟩) 4 4) [l0, l1, l2, l3] := by
  subst hg
  exact bss_lit [v0, v1, v2, v3] [l0, l1, l2, l3] rfl (by simp) fun i hi => by
    match i, hi with
    | 0, _ => exact ⟨v0, rfl, h0⟩
    | 1, _ => exact ⟨v1, rfl, h1⟩
    | 2, _ => exact ⟨v2, rfl, h2⟩
    | 3, _ => exact ⟨v3, rfl, h3⟩
theorem bss_row5 {w : World} {e g : Nat} {v0 v1 v2 v3 v4 : Value} {l0 l1 l2 l3 l4 : List UInt8} (hg : g = w.heap.size) (h0 : Bs w v0 l0) (h1 : Bs w v1 l1) (h2 : Bs w v2 l2) (h3 : Bs w v3 l3) (h4 : Bs w v4 l4) : Bss (w.alloc (.cells #[v0, v1, v2, v3, v4] e)) (.slice (some ⟨g, 0, none⟩) 5 5) [l0, l1, l2, l3, l4] := by
  subst hg
  exact bss_lit [v0, v1, v2, v3, v4] [l0, l1, l2, l3, l4] rfl (by simp) fun i hi => by
    match i, hi with
    | 0, _ => exact ⟨v0, rfl, h0⟩
    | 1, _ => exact ⟨v1, rfl, h1⟩
    | 2, _ => exact ⟨v2, rfl, h2⟩
    | 3, _ => exact ⟨v3, rfl, h3⟩
    | 4, _ => exact ⟨v4, rfl, h4⟩
theorem v4_of_row5 {w : World} {M t : Nat} {a b c x y : Value} (h : w.heap[M]? = some (.cells #[a, b, c, x, y] t (0, 0))) : w.cell? ⟨M, 0, none⟩ = some a ∧ w.cell? ⟨M, 1, none⟩ = some b ∧ w.cell? ⟨M, 2, none⟩ = some c ∧ w.cell? ⟨M, 3, none⟩ = some x :=
  ⟨cell_of_row w M 0 _ _ _ h, cell_of_row w M 1 _ _ _ h, cell_of_row w M 2 _ _ _ h, cell_of_row w M 3 _ _ _ h⟩
theorem pbm_later {w w' : World} {b : Nat} {x y p q r : Value} (hb : Below w.heap.size w w') (h : w.cell? ⟨b, 0, none⟩ = some p ∧ w.cell? ⟨b, 1, none⟩ = some q ∧ w.cell? ⟨b, 2, none⟩ = some r ∧ w.cell? ⟨b, 3, none⟩ = some x ∧ w.cell? ⟨b, 4, none⟩ = some y) :
    w'.cell? ⟨b, 0, none⟩ = some p ∧ w'.cell? ⟨b, 1, none⟩ = some q ∧ w'.cell? ⟨b, 2, none⟩ = some r ∧ w'.cell? ⟨b, 3, none⟩ = some x ∧ w'.cell? ⟨b, 4, none⟩ = some y :=
  ⟨cell_later hb h.1, cell_later hb h.2.1, cell_later hb h.2.2.1, cell_later hb h.2.2.2.1, cell_later hb h.2.2.2.2⟩
theorem bs_own {w : World} {B e c : Nat} {ad : Option Addr} {l : List UInt8} (h : w.ownsRow B e 1 (.slice ad l.length c) l.length (bv l)) : Bs w (.slice ad l.length c) l := (bs_of_owns h).2
theorem okB_parts {log next seq : Int} {add : List Pl} {dr : List Int} (h : okB ⟨log, next, seq, add, dr⟩ = true) : numberL log = true ∧ numberL next = true ∧ numberL seq = true ∧ add.length ≤ 65535 ∧ dr.length ≤ 65535 ∧ add.all okP = true ∧ dr.all numberL = true := by
  unfold okB okH at h
  simp only [Bool.and_eq_true, decide_eq_true_eq] at h
  obtain ⟨⟨h1, h2, h3, h4, h5⟩, h6, h7⟩ := h
  exact ⟨h1, h2, h3, h4, h5, h6, h7⟩
theorem placeB_len {p : Pl} (h : okP p = true) : (placeB p).length ≤ 300 := by
  unfold okP at h
  simp only [Bool.and_eq_true, decide_eq_true_eq] at h
  unfold placeB
  simp only [List.length_append, putL_length, List.length_cons, List.length_nil]
  omega
theorem places_len : ∀ (l : List Pl), l.all okP = true → (l.flatMap placeB).length ≤ 300 * l.length
  | [], _ => by simp
  | p :: l, h => by
    rw [List.all_cons, Bool.and_eq_true] at h
    rw [List.flatMap_cons, List.length_append, List.length_cons]
    have := placeB_len h.1
    have := places_len l h.2
    omega
theorem dropB_len : ∀ (l : List Int), (dropB l).length = 8 * l.length
  | [] => rfl
  | n :: l => by
    have e : dropB (n :: l) = putL n.toNat 8 ++ dropB l := rfl
    rw [e, List.length_append, putL_length, dropB_len l, List.length_cons]
    omega
theorem all_take {α : Type} (f : α → Bool) (l : List α) (k : Nat) (h : l.all f = true) : (l.take k).all f = true := by
  rw [List.all_eq_true] at h ⊢
  exact fun x hx => h x (List.mem_of_mem_take hx)
theorem asize (w : World) (o : Obj) : w.heap.size + 1 = (w.alloc o).heap.size := by simp
theorem flat_succ {α : Type} (f : α → List UInt8) (l : List α) (k : Nat) (hk : k < l.length) : (l.take (k + 1)).flatMap f = (l.take k).flatMap f ++ f l[k] := by
  rw [List.take_succ_eq_append_getElem hk, List.flatMap_append]
  simp

set_option maxRecDepth 100000 in
set_option maxHeartbeats 6400000 in
theorem eenc_any (log next seq : Int) (av dv : Value) (add : List Pl) (dr : List Int) (X : List UInt8) (z : Int) (hX : encL ⟨log, next, seq, add, dr⟩ = (X, z)) (w : World) (hav : Pls w av add) (hdv : Is w dv dr) (hal : add.length ≤ 1000000) (R : Ending → World → Prop)
    (hR : ∀ ad c w', w'.ownsRow w.heap.size 5 1 (.slice ad X.length c) X.length (bv X) → Below w.heap.size w w' → R (.returned (.tuple #[.slice ad X.length c, .int .i64 z])) w') :
    Calls Try.prog 23 #[.agg #[.int .i64 log, .int .i64 next, .int .i64 seq, av, dv]] w R := by
  have HR := Lib.hid hR
  have HA := Lib.hid hav
  have HD := Lib.hid hdv
  obtain ⟨aa, ac, rfl, _⟩ := hav
  obtain ⟨da, dc, rfl, _⟩ := hdv
  have hb0 : Below w.heap.size w (w.alloc (edB log next seq (.slice aa add.length ac) (.slice da dr.length dc))) := (Below.refl w.heap.size w).alloc (Nat.le_refl _) _
  have hn0 := heap_alloc_new w (edB log next seq (.slice aa add.length ac) (.slice da dr.length dc))
  unfold edB at hb0 hn0
  have HB := Lib.hid hb0
  have HN := Lib.hid hn0
  clear hR hn0
  unfold encL at hX
  cases hok : okB ⟨log, next, seq, add, dr⟩ with
  | false =>
    rw [hok, if_neg (by simp)] at hX
    cases hX
    have HOK := Lib.hid hok
    have HA1 := Lib.hid (HA.out.below hb0)
    have HD1 := Lib.hid (HD.out.below hb0)
    clear hok hb0
    go_enter Try.func23, Try.ntmps23
    go_wp2_with (go_at_call 46; go_must (refine laid_any log next seq _ _ add dr false HOK.out _ HA1.out HD1.out hal _ ?_); intro w2 hb2; have HB2 := Lib.hid (below_then HB.out hb2 HB.out.size); clear hb2)
    all_goals exact HR.out none 0 _ (World.ownsRow_nil _ _ _ _) HB2.out
  | true =>
    rw [hok, if_pos rfl] at hX
    cases hX
    obtain ⟨n1, n2, n3, n4, n5, n6, n7⟩ := okB_parts hok
    have HOK := Lib.hid hok
    have HA1 := Lib.hid (HA.out.below hb0)
    have HD1 := Lib.hid (HD.out.below hb0)
    have N1 := Lib.hid n1
    have N2 := Lib.hid n2
    have N3 := Lib.hid n3
    have N6 := Lib.hid n6
    have N7 := Lib.hid n7
    have hwl : IntKind.u64.wrap (add.length : Int) = (add.length : Int) := by rw [IntKind.wrap_u64]; omega
    have hwd : IntKind.u64.wrap (dr.length : Int) = (dr.length : Int) := by rw [IntKind.wrap_u64]; omega
    clear hok hb0 n1 n2 n3 n6 n7
    go_enter Try.func23, Try.ntmps23
    go_wp2_with (go_at_call 46; go_must (refine laid_any log next seq _ _ add dr true HOK.out _ HA1.out HD1.out hal _ ?_); intro w2 hb2; have HB2 := Lib.hid (below_then HB.out hb2 HB.out.size); have HB12 := Lib.hid hb2; have HN2 := Lib.hid (row_on HN.out hb2); clear hb2)
    have HND : Hid (w2.drew.heap[w.heap.size]? = some _) := HN2.out
    have s0 := v4_of_row5 HND.out
    obtain ⟨PA, hPA⟩ : ∃ P, putL log.toNat 8 = P := ⟨_, rfl⟩
    obtain ⟨PB, hPB⟩ : ∃ P, putL next.toNat 8 = P := ⟨_, rfl⟩
    obtain ⟨PC, hPC⟩ : ∃ P, putL seq.toNat 8 = P := ⟨_, rfl⟩
    obtain ⟨PD, hPD⟩ : ∃ P, putL add.length 2 = P := ⟨_, rfl⟩
    obtain ⟨HD8, hHD⟩ : ∃ P, headB ⟨log, next, seq, add, dr⟩ = P := ⟨_, rfl⟩
    have hHJ : [PA, PB, PC, PD].flatten = HD8 := by
      rw [← hPA, ← hPB, ← hPC, ← hPD, ← hHD]
      simp [headB]
    have hHl : HD8.length = 26 := by
      rw [← hHD]
      simp [headB, putL_length]
    have hPD2 : putW add.length 2 = PD := by
      rw [← hPD]
      unfold putW
      rw [if_neg (by omega)]
      rfl
    have HPA := Lib.hid hPA
    have HPB := Lib.hid hPB
    have HPC := Lib.hid hPC
    have HPD := Lib.hid hPD2
    have HHD := Lib.hid hHD
    have HHJ := Lib.hid hHJ
    have HHL := Lib.hid hHl
    clear hPA hPB hPC hPD hPD2 hHD hHJ hHl
    go_region_held3 (fun x => (x.cell? ⟨w.heap.size, 0, none⟩ = some (Value.int .i64 log) ∧ x.cell? ⟨w.heap.size, 1, none⟩ = some (Value.int .i64 next) ∧ x.cell? ⟨w.heap.size, 2, none⟩ = some (Value.int .i64 seq) ∧ x.cell? ⟨w.heap.size, 3, none⟩ = some (Value.slice aa add.length ac)))
      (first | exact s0 | exact v4_later hk1 s0 | exact v4_later hk2 s0 | exact v4_later hk3 s0 | exact v4_later hk4 s0 | exact v4_later hk7 s0 | go_keep)
      (first
        | (go_at_call_of 48 (Value.int .i64 log); refine eight_any log N1.out PA HPA.out _ _ ?_; intro xa xc w3 ho3 hk1)
        | (go_at_call_of 48 (Value.int .i64 next); refine eight_any next N2.out PB HPB.out _ _ ?_; intro ya yc w4 ho4 hkb; have hk2 := below_tra hk1 hkb)
        | (go_at_call_of 48 (Value.int .i64 seq); refine eight_any seq N3.out PC HPC.out _ _ ?_; intro za zc w5 ho5 hkc; have hk3 := below_tra hk2 hkc)
        | (go_at_call 49; refine put_any add.length (by omega) 2 PD HPD.out _ _ ?_; intro ua uc w6 ho6 hkd; have hk4 := below_tra hk3 hkd)
        | (go_at_call 47; refine join_any _ [PA, PB, PC, PD] HD8 HHJ.out _ (bss_row4 rfl ((bs_own ho3).below (below_tra hkb (below_tra hkc hkd))) ((bs_own ho4).below (below_tra hkc hkd)) ((bs_own ho5).below hkd) (bs_own ho6)) (by have := HHL.out; omega) _ ?_; intro ja jc w7 ho7 hkj; have hk7 := below_tra hk4 (below_tra (b := w6.alloc (Obj.cells #[Value.slice xa PA.length xc, Value.slice ya PB.length yc, Value.slice za PC.length zc, Value.slice ua PD.length uc] 39)) ((Below.refl _ _).alloc (Nat.le_refl _) _) hkj)))
    have hw7 : Below (w.alloc (Obj.cells #[Value.int .i64 log, .int .i64 next, .int .i64 seq, .slice aa add.length ac, .slice da dr.length dc] 27)).heap.size (w.alloc (Obj.cells #[Value.int .i64 log, .int .i64 next, .int .i64 seq, .slice aa add.length ac, .slice da dr.length dc] 27)) w7 := below_tra (HB12.out.drew) hk7
    have ho7' : w7.ownsRow (w.alloc (Obj.cells #[Value.int .i64 log, .int .i64 next, .int .i64 seq, .slice aa add.length ac, .slice da dr.length dc] 27)).heap.size 5 1 (.slice ja HD8.length jc) HD8.length (bv HD8) := owns_mono ho7 (by
      have h1 := HB12.out.size
      have h2 := hk4.size
      have h3 : w2.heap.size ≤ w6.heap.size := h2
      simp at h1 ⊢
      omega)
    rename_i hHeld
    clear hHeld s0 hk1 hkb hk2 hkc hk3 hkd hk4 hkj hk7 ho3 ho4 ho5 ho6 ho7 HA1 HD1 HB2 HN2 HND HOK
    have hz1 : w.heap.size < (w.alloc (Obj.cells #[Value.int .i64 log, .int .i64 next, .int .i64 seq, .slice aa add.length ac, .slice da dr.length dc] 27)).heap.size := by simp
    generalize w.alloc (Obj.cells #[Value.int .i64 log, .int .i64 next, .int .i64 seq, .slice aa add.length ac, .slice da dr.length dc] 27) = w1 at HB HN HB12 hw7 ho7' hz1
    have HW7 := Lib.hid hw7
    have HO7 : Hid (w7.ownsRow w1.heap.size 5 1 (.slice ja 26 jc) 26 (bv HD8)) := by rw [← HHL.out]; exact ho7'
    have hn7 := row_on HN.out hw7
    obtain ⟨g0, g1, g2, g3⟩ := v4_of_row5 hn7
    clear hn7 hw7 ho7'
    rw [HHL.out]
    go_wp2_with fail
    clear g0 g1 g2 g3
    go_loopg [4, 31] add.length (fun gn sb i wr => ∃ (k c n : Nat) (ad : Option Addr) (M : List UInt8), k ≤ add.length ∧ gn = add.length - k ∧ i = .int .i64 k ∧ sb = .slice ad n c ∧ n ≤ 26 + 300 * k ∧ Hid (HD8 ++ (add.take k).flatMap placeB = M) ∧ Hid (n = M.length) ∧ Hid (wr.ownsRow w1.heap.size 5 1 (.slice ad n c) n (bv M)) ∧ Hid (Below w1.heap.size w1 wr))
    case atStart => exact ⟨0, jc, 26, ja, HD8, Nat.zero_le _, by omega, rfl, rfl, by omega, (Lib.hid (by simp)), Lib.hid HHL.out.symm, HO7, HW7⟩
    case round =>
      obtain ⟨k, c, n, ad, M, hk, rfl, rfl, rfl, hn, HM, HNM, HO, HBR⟩ := hrel
      clear HW7 HO7
      obtain ⟨wo, rfl⟩ : ∃ x, x = wr := ⟨_, rfl⟩
      have hbw : Below w.heap.size w wo := below_then HB.out HBR.out HB.out.size
      by_cases hlt : k < add.length
      · have hkk : (k : Int) < (add.length : Int) := by omega
        obtain ⟨va', vc', ee, _, _, _, v4⟩ := HA.out
        simp only [Value.slice.injEq] at ee
        obtain ⟨rfl, -, rfl⟩ := ee
        obtain ⟨vb, vo, rfl, v5⟩ := v4 (by omega)
        obtain ⟨px, py, q5, hpc⟩ := v5 k hlt
        obtain ⟨p0, p1, p2, p3, p4⟩ := q5.below hbw
        have hfs := flat_succ placeB add k hlt
        have hokp := List.all_eq_true.1 N6.out add[k] (List.getElem_mem _)
        obtain ⟨p, hp⟩ : ∃ p, add[k] = p := ⟨_, rfl⟩
        rw [hp] at p0 p1 p2 hpc hfs hokp
        have s1 := hpc.shape
        have HPC5 := Lib.hid (hpc.below hbw)
        have hpl := placeB_len hokp
        obtain ⟨PB5, hPB5⟩ : ∃ P, placeB p = P := ⟨_, rfl⟩
        rw [hPB5] at hfs hpl
        have HFS : Hid (HD8 ++ (add.take (k + 1)).flatMap placeB = M ++ PB5) := by
          show _ = _
          rw [hfs, ← HM.out, List.append_assoc]
        clear v4 v5 hp hpc hfs q5 hbw
        obtain ⟨pn, pl, pc, pa, pb⟩ := p
        simp only at *
        obtain ⟨⟨a1, a2, rfl⟩, b1, b2, rfl⟩ := s1
        unfold okP at hokp
        simp only [Bool.and_eq_true, decide_eq_true_eq] at hokp
        obtain ⟨k1, ⟨k2, k2'⟩, k3, k4, k5⟩ := hokp
        have K1 := Lib.hid k1
        have K3 := Lib.hid k3
        have hwl8 : IntKind.u8.wrap pl = pl := by rw [IntKind.wrap_u8]; omega
        have hl8 : pl = ((b8 pl).toNat : Int) := by rw [b8_toNat]; omega
        have HL8 := Lib.hid hl8
        obtain ⟨QA, hQA⟩ : ∃ P, putL pn.toNat 8 = P := ⟨_, rfl⟩
        obtain ⟨QB, hQB⟩ : ∃ P, putL pc.toNat 8 = P := ⟨_, rfl⟩
        obtain ⟨QC, hQC⟩ : ∃ P, [b8 (pa.length : Int)] ++ pa = P := ⟨_, rfl⟩
        obtain ⟨QD, hQD⟩ : ∃ P, [b8 (pb.length : Int)] ++ pb = P := ⟨_, rfl⟩
        have hQJ : [QA, [b8 pl], QB, QC, QD].flatten = PB5 := by
          rw [← hQA, ← hQB, ← hQC, ← hQD, ← hPB5]
          simp [placeB]
        have HQA := Lib.hid hQA
        have HQB := Lib.hid hQB
        have HQC := Lib.hid hQC
        have HQD := Lib.hid hQD
        have HQJ := Lib.hid hQJ
        have hrp := heap_alloc_new wo (Obj.cells #[Value.int .i64 pn, .int .i64 pl, .int .i64 pc, .slice a1 pa.length a2, .slice b1 pb.length b2] 41)
        have hba : Below wo.heap.size wo (wo.alloc (Obj.cells #[Value.int .i64 pn, .int .i64 pl, .int .i64 pc, .slice a1 pa.length a2, .slice b1 pb.length b2] 41)) := (Below.refl _ _).alloc (Nat.le_refl _) _
        clear hl8 hQA hQB hQC hQD hQJ hPB5 k1 k2 k2' k3
        go_upto_block 1 with fail
        go_cut [4] from 32 to 55 (fun sb wx => ∃ (nad : Option Addr) (ncc : Nat), sb = .slice nad (n + PB5.length) ncc ∧ Hid (wx.ownsRow w1.heap.size 5 1 (.slice nad (n + PB5.length) ncc) (n + PB5.length) (bv (M ++ PB5))) ∧ Hid (Below w1.heap.size w1 wx))
        case first =>
          go_wp2_with fail
          generalize wo.alloc (Obj.cells #[Value.int .i64 pn, .int .i64 pl, .int .i64 pc, .slice a1 pa.length a2, .slice b1 pb.length b2] 41) = wa at hrp hba ⊢
          clear p0 p1 p2 p3 p4
          have HRP : Hid (wa.drew.heap[wo.heap.size]? = some _) := hrp
          have s0 := pb_of_row HRP.out
          have HBA : Hid (Below wo.heap.size wo wa.drew) := hba.drew
          have HX := Lib.hid (HPC5.out.hx.below HBA.out)
          have HY := Lib.hid (HPC5.out.hy.below HBA.out)
          have HBL : Hid (_ = bv [b8 pl]) := (by rw [HL8.out]; simp [bv, ← HL8.out] : #[Value.int .u8 pl].toList = bv [b8 pl])
          have hk0 : Below wa.drew.heap.size wa.drew wa.drew := Below.refl _ _
          have hal0 : Below wa.drew.heap.size wa.drew (wa.alloc (Obj.cells #[Value.int .u8 pl] 5)).drew := (Below.refl wa.drew.heap.size wa.drew).alloc (Nat.le_refl _) _
          have hl0 : True ∧ Bs (wa.alloc (Obj.cells #[Value.int .u8 pl] 5)).drew (.slice (some ⟨wa.heap.size, 0, none⟩) 1 1) [b8 pl] := And.intro trivial (bs_lit (w := wa.drew) #[Value.int .u8 pl] [b8 pl] HBL.out (show 1 ≤ 9223372036854775807 by decide))
          clear hrp hba
          go_region_held3 (fun x => (x.cell? ⟨wo.heap.size, 0, none⟩ = some (Value.int .i64 pn) ∧ x.cell? ⟨wo.heap.size, 1, none⟩ = some (Value.int .i64 pl) ∧ x.cell? ⟨wo.heap.size, 2, none⟩ = some (Value.int .i64 pc) ∧ x.cell? ⟨wo.heap.size, 3, none⟩ = some (Value.slice a1 pa.length a2) ∧ x.cell? ⟨wo.heap.size, 4, none⟩ = some (Value.slice b1 pb.length b2)))
            (first | with_reducible exact s0 | with_reducible exact pbm_later hal0 s0 | with_reducible exact pbm_later hk3 s0 | with_reducible exact pbm_later (below_tra hk3 hal3) s0 | with_reducible exact pbm_later hk4 s0 | with_reducible exact pbm_later (below_tra hk4 hal4) s0 | with_reducible exact pbm_later hk5 s0 | with_reducible exact pbm_later (below_tra hk5 hal5) s0 | with_reducible exact pbm_later hk6 s0 | with_reducible exact pbm_later (below_tra hk6 hal6) s0 | with_reducible exact pbm_later hk7 s0 | with_reducible exact pb_of_row hr9 | go_keep)
            (first
              | (go_at_call_of 48 (Value.int .i64 pn); refine eight_any pn K1.out QA HQA.out _ _ ?_; intro xa xc w3 ho3 hb3; have hqa := bs_own ho3; have hk3 := (by first | with_reducible exact below_tra hk0 hb3 | with_reducible exact below_tra hal0 hb3 : Below wa.drew.heap.size wa.drew w3); have hal3 : Below w3.heap.size w3 (w3.alloc (Obj.cells #[Value.int .u8 pl] 5)) := (Below.refl _ _).alloc (Nat.le_refl _) _; (first | (have hl3 : Bs w3 _ [b8 pl] := (by with_reducible exact hl0.2.below hb3); have hlk3 := And.intro trivial hl3; clear hl3) | (have hlk3 : True ∧ Bs w3 _ [b8 pl] := And.intro trivial (by with_reducible exact hlk0.2.below hb3)) | (have hl3 := And.intro trivial (bs_lit (w := w3) (e := 5) #[Value.int .u8 pl] [b8 pl] HBL.out (show 1 ≤ 9223372036854775807 by decide)))))
              | (go_at_call_of 48 (Value.int .i64 pc); refine eight_any pc K3.out QB HQB.out _ _ ?_; intro ya yc w4 ho4 hb4; have hqb := bs_own ho4; have hk4 := (by first | with_reducible exact below_tra hk3 hb4 | with_reducible exact below_tra (below_tra hk3 hal3) hb4 : Below wa.drew.heap.size wa.drew w4); replace hqa := (by first | with_reducible exact hqa.below hb4 | with_reducible exact (hqa.below hal3).below hb4 : Bs w4 (.slice xa QA.length xc) QA); have hal4 : Below w4.heap.size w4 (w4.alloc (Obj.cells #[Value.int .u8 pl] 5)) := (Below.refl _ _).alloc (Nat.le_refl _) _; (first | (have hl4 : Bs w4 _ [b8 pl] := (by with_reducible exact hl3.2.below hb4); have hlk4 := And.intro trivial hl4; clear hl4) | (have hlk4 : True ∧ Bs w4 _ [b8 pl] := And.intro trivial (by with_reducible exact hlk3.2.below hb4)) | (have hl4 := And.intro trivial (bs_lit (w := w4) (e := 5) #[Value.int .u8 pl] [b8 pl] HBL.out (show 1 ≤ 9223372036854775807 by decide)))))
              | (go_at_call_of 50 (Value.slice a1 pa.length a2); refine short_any _ pa QC k4 HQC.out _ (by first | with_reducible exact HX.out.below hk4 | with_reducible exact HX.out.below (below_tra hk4 hal4)) _ ?_; intro za zc w5 ho5 hb5; have hqc := bs_own ho5; have hk5 := (by first | with_reducible exact below_tra hk4 hb5 | with_reducible exact below_tra (below_tra hk4 hal4) hb5 : Below wa.drew.heap.size wa.drew w5); replace hqa := (by first | with_reducible exact hqa.below hb5 | with_reducible exact (hqa.below hal4).below hb5 : Bs w5 (.slice xa QA.length xc) QA); replace hqb := (by first | with_reducible exact hqb.below hb5 | with_reducible exact (hqb.below hal4).below hb5 : Bs w5 (.slice ya QB.length yc) QB); have hal5 : Below w5.heap.size w5 (w5.alloc (Obj.cells #[Value.int .u8 pl] 5)) := (Below.refl _ _).alloc (Nat.le_refl _) _; (first | (have hl5 : Bs w5 _ [b8 pl] := (by with_reducible exact hl4.2.below hb5); have hlk5 := And.intro trivial hl5; clear hl5) | (have hlk5 : True ∧ Bs w5 _ [b8 pl] := And.intro trivial (by with_reducible exact hlk4.2.below hb5)) | (have hl5 := And.intro trivial (bs_lit (w := w5) (e := 5) #[Value.int .u8 pl] [b8 pl] HBL.out (show 1 ≤ 9223372036854775807 by decide)))))
              | (go_at_call_of 50 (Value.slice b1 pb.length b2); refine short_any _ pb QD k5 HQD.out _ (by first | with_reducible exact HY.out.below hk5 | with_reducible exact HY.out.below (below_tra hk5 hal5)) _ ?_; intro ua uc w6 ho6 hb6; have hqd := bs_own ho6; have hk6 := (by first | with_reducible exact below_tra hk5 hb6 | with_reducible exact below_tra (below_tra hk5 hal5) hb6 : Below wa.drew.heap.size wa.drew w6); replace hqa := (by first | with_reducible exact hqa.below hb6 | with_reducible exact (hqa.below hal5).below hb6 : Bs w6 (.slice xa QA.length xc) QA); replace hqb := (by first | with_reducible exact hqb.below hb6 | with_reducible exact (hqb.below hal5).below hb6 : Bs w6 (.slice ya QB.length yc) QB); replace hqc := (by first | with_reducible exact hqc.below hb6 | with_reducible exact (hqc.below hal5).below hb6 : Bs w6 (.slice za QC.length zc) QC); have hal6 : Below w6.heap.size w6 (w6.alloc (Obj.cells #[Value.int .u8 pl] 5)) := (Below.refl _ _).alloc (Nat.le_refl _) _; (first | (have hl6 : Bs w6 _ [b8 pl] := (by with_reducible exact hl5.2.below hb6); have hlk6 := And.intro trivial hl6; clear hl6) | (have hlk6 : True ∧ Bs w6 _ [b8 pl] := And.intro trivial (by with_reducible exact hlk5.2.below hb6)) | (have hl6 := And.intro trivial (bs_lit (w := w6) (e := 5) #[Value.int .u8 pl] [b8 pl] HBL.out (show 1 ≤ 9223372036854775807 by decide)))); have HG6 := Lib.hid (asize w6 (Obj.cells #[Value.int .u8 pl] 5)))
              | (have hq := hlk6; go_at_call 47; have HALX := Lib.hid (fun o => below_tra hk6 ((Below.refl w6.heap.size w6).alloc (Nat.le_refl _) o) : ∀ o : Obj, Below wa.drew.heap.size wa.drew (w6.alloc o)); have hbss := bss_row5 (e := 39) (g := w6.heap.size) rfl hqa hlk6.2 hqb hqc hqd; refine join_any _ _ PB5 HQJ.out _ hbss (by omega) _ ?_; clear hbss; intro ja jc w7 ho7 hb7; have hk7 := below_tra (HALX.out _) hb7; have hn1 : w1.heap.size ≤ w7.heap.size := Nat.le_trans HBR.out.size (Nat.le_trans HBA.out.size hk7.size); have hown7 := owns_below (owns_below HO.out HBA.out) hk7; have hr7 := row_on HRP.out hk7; clear hb7 hq hlk6)
              | (have hq := hl6; go_at_call 47; have HALX := Lib.hid (fun o => below_tra (below_tra hk6 hal6) ((Below.refl (w6.alloc (Obj.cells #[Value.int .u8 pl] 5)).heap.size (w6.alloc (Obj.cells #[Value.int .u8 pl] 5))).alloc (Nat.le_refl _) o) : ∀ o : Obj, Below wa.drew.heap.size wa.drew ((w6.alloc (Obj.cells #[Value.int .u8 pl] 5)).alloc o)); have hbss := bss_row5 (e := 39) HG6.out (hqa.below hal6) hl6.2 (hqb.below hal6) (hqc.below hal6) (hqd.below hal6); refine join_any _ _ PB5 HQJ.out _ hbss (by omega) _ ?_; clear hbss; intro ja jc w7 ho7 hb7; have hk7 := below_tra (HALX.out _) hb7; have hn1 : w1.heap.size ≤ w7.heap.size := Nat.le_trans HBR.out.size (Nat.le_trans HBA.out.size hk7.size); have hown7 := owns_below (owns_below HO.out HBA.out) hk7; have hr7 := row_on HRP.out hk7; clear hb7 hq hl6)
              | (refine step_appAt (by rfl) (.tmp 35) (.tmp 53) 39 (by rfl) w1.heap.size 5 (.int .u8 0) 1 1 Try.underlying39 Try.info5 rfl (by decide) ad n c _ (by rfl) hown7 ja PB5.length jc (bv PB5) (by rfl) (rd_of_owns ho7) (bv_oneCell _) (owns_nil ho7) (by unfold maxLen; omega) (by omega) hn1 ?_; intro ad9 c9 w9 hown9 hg9 hat9; have hr9 := block_grown hg9 hr7 (own_block_ne hr7 hown7 (by decide))))
          all_goals
            have hb9 : Hid (Below w1.heap.size w1 w9) := below_app (below_tra HBR.out (below_tra HBA.out hk7)) hg9 hn1 hown7
            rw [← bv_append] at hown9
            go_wp2_with fail
            go_meet
            exact ⟨ad9, c9, rfl, Lib.hid hown9, hb9⟩
        clear p0 p1 p2 p3 p4 hrp hba
        obtain ⟨ad9, c9, rfl, HO9, hb9⟩ := hcut
        have HL9 : Hid (n + PB5.length = (M ++ PB5).length) := by show _ = _; rw [List.length_append, ← HNM.out]
        go_wp2_with fail
        go_roundg (add.length - (k + 1))
        case measure => omega
        case rel => exact ⟨k + 1, c9, n + PB5.length, ad9, M ++ PB5, by omega, rfl, by go_num, rfl, by omega, HFS, HL9, HO9, hb9⟩
      · have hkk : ¬ (k : Int) < (add.length : Int) := by omega
        have hMM : M = HD8 ++ add.flatMap placeB := by rw [← HM.out, List.take_of_length_le (by omega)]
        have HMM := Lib.hid hMM
        have hn7 := row_on HN.out HBR.out
        have g4 : wo.cell? ⟨w.heap.size, 4, none⟩ = some (Value.slice da dr.length dc) := cell_of_row _ w.heap.size 4 _ _ _ hn7
        obtain ⟨PE, hPE⟩ : ∃ P, putL dr.length 2 = P := ⟨_, rfl⟩
        have hPE2 : putW dr.length 2 = PE := by
          rw [← hPE]
          unfold putW
          rw [if_neg (by omega)]
          rfl
        have HPEL : Hid (PE.length = 2) := by show _ = _; rw [← hPE, putL_length]
        have HPE := Lib.hid hPE
        have HPE2 := Lib.hid hPE2
        have HN7 := Lib.hid hn7
        have HBW := Lib.hid hbw
        clear hMM hPE hPE2 hn7 hbw HM
        go_wp2_with (first
          | (go_at_call 49; go_must (refine put_any dr.length (by omega) 2 PE HPE2.out _ _ ?_); intro ea ec w3 ho3 hk1; have hn1 : w1.heap.size ≤ w3.heap.size := Nat.le_trans HBR.out.size hk1.size; have hown3 := Lib.hid (owns_below HO.out hk1); have HO3 := Lib.hid ho3; have HK1 := Lib.hid hk1; have g5 : w3.cell? ⟨w.heap.size, 4, none⟩ = some (Value.slice da dr.length dc) := cell_of_row _ w.heap.size 4 _ _ _ (row_on HN7.out hk1); clear ho3 hk1)
          | (have hq := hown3.out; at_builtin; go_must (refine wpList_appAt (by rfl) (.tmp 56) (.tmp 61) 39 (by rfl) w1.heap.size 5 (.int .u8 0) 1 1 Try.underlying39 Try.info5 rfl (by decide) ad n c _ (by rfl) hown3.out ea PE.length ec (bv PE) (by rfl) (rd_of_owns HO3.out) (bv_oneCell _) (owns_nil HO3.out) (by have := HPEL.out; unfold maxLen; omega) (by have := HPEL.out; omega) hn1 ?_); intro ad4 c4 w4 hown4 hg4 _; have hb4 : Hid (Below w1.heap.size w1 w4) := below_app (below_tra HBR.out HK1.out) hg4 hn1 hown3.out; rw [← bv_append] at hown4; have HO4 := Lib.hid hown4; have g6 : w4.cell? ⟨w.heap.size, 4, none⟩ = some (Value.slice da dr.length dc) := cell_of_row _ w.heap.size 4 _ _ _ (row_on HN.out hb4.out); clear hq hown3 hown4 hg4))
        have hM2 : M ++ PE = HD8 ++ add.flatMap placeB ++ putL dr.length 2 := by rw [HMM.out, ← HPE.out]
        obtain ⟨M2, hMM2⟩ : ∃ m, M ++ PE = m := ⟨_, rfl⟩
        rw [hMM2] at hM2 HO4
        have hnl : n + PE.length = M2.length := by rw [← hMM2, List.length_append, ← HNM.out]
        have hnb : n + PE.length ≤ 30000000 := by have := HPEL.out; omega
        have HM2 := Lib.hid hM2
        obtain ⟨n2, hn2⟩ : ∃ m, n + PE.length = m := ⟨_, rfl⟩
        rw [hn2] at HO4 hnl hnb ⊢
        have HNL := Lib.hid hnl
        clear hM2 hMM2 hnl hn2 HO HMM HNM g4 g5 g6
        go_loopg [4, 66] dr.length (fun gn sb i wr => ∃ (k c n : Nat) (ad : Option Addr) (M : List UInt8), k ≤ dr.length ∧ gn = dr.length - k ∧ i = .int .i64 k ∧ sb = .slice ad n c ∧ n ≤ n2 + 8 * k ∧ Hid (M2 ++ dropB (dr.take k) = M) ∧ Hid (n = M.length) ∧ Hid (wr.ownsRow w1.heap.size 5 1 (.slice ad n c) n (bv M)) ∧ Hid (Below w1.heap.size w1 wr))
        case atStart => exact ⟨0, c4, n2, ad4, M2, Nat.zero_le _, by omega, rfl, rfl, by omega, (Lib.hid (by simp [dropB])), HNL, HO4, hb4⟩
        case round =>
          obtain ⟨k, c, n, ad, M, hk, rfl, rfl, rfl, hn, HM, HNM, HO, HBR⟩ := hrel
          obtain ⟨wo, rfl⟩ : ∃ x, x = wr := ⟨_, rfl⟩
          have hbw : Below w.heap.size w wo := below_then HB.out HBR.out HB.out.size
          by_cases hlt : k < dr.length
          · have hkk : (k : Int) < (dr.length : Int) := by omega
            obtain ⟨db, d0, rfl, hdc⟩ := (HD.out.below hbw).at k hlt
            have hokn := List.all_eq_true.1 N7.out dr[k] (List.getElem_mem _)
            have hfs : dropB (dr.take (k + 1)) = dropB (dr.take k) ++ putL dr[k].toNat 8 := flat_succ _ dr k hlt
            obtain ⟨m, hm⟩ : ∃ m, dr[k] = m := ⟨_, rfl⟩
            rw [hm] at hdc hokn hfs
            obtain ⟨QE, hQE⟩ : ∃ P, putL m.toNat 8 = P := ⟨_, rfl⟩
            have HQL : Hid (QE.length = 8) := by show _ = _; rw [← hQE, putL_length]
            have HFS : Hid (M2 ++ dropB (dr.take (k + 1)) = M ++ QE) := by
              show _ = _
              rw [hfs, ← HM.out, List.append_assoc, hQE]
            have HQE := Lib.hid hQE
            have HOKN := Lib.hid hokn
            clear hm hfs hQE hokn hbw
            go_wp2_with (first
              | (go_at_call 48; go_must (refine eight_any m HOKN.out QE HQE.out _ _ ?_); intro ea ec w3 ho3 hk1; have hn1 : w1.heap.size ≤ w3.heap.size := Nat.le_trans HBR.out.size hk1.size; have hown3 := Lib.hid (owns_below HO.out hk1); have HO3 := Lib.hid ho3; have HK1 := Lib.hid hk1; clear ho3 hk1)
              | (at_builtin; go_must (refine wpList_appAt (by rfl) (.tmp 70) (.tmp 72) 39 (by rfl) w1.heap.size 5 (.int .u8 0) 1 1 Try.underlying39 Try.info5 rfl (by decide) ad n c _ (by rfl) hown3.out ea QE.length ec (bv QE) (by rfl) (rd_of_owns HO3.out) (bv_oneCell _) (owns_nil HO3.out) (by have := HQL.out; unfold maxLen; omega) (by have := HQL.out; omega) hn1 ?_); intro ad4 c4 w4 hown4 hg4 _; have hb4 : Hid (Below w1.heap.size w1 w4) := below_app (below_tra HBR.out HK1.out) hg4 hn1 hown3.out; rw [← bv_append] at hown4; have HO4 := Lib.hid hown4; clear hown4 hg4))
            have HL9 : Hid (n + QE.length = (M ++ QE).length) := by show _ = _; rw [List.length_append, ← HNM.out]
            go_roundg (dr.length - (k + 1))
            case measure => omega
            case rel => exact ⟨k + 1, c4, n + QE.length, ad4, M ++ QE, by omega, rfl, by go_num, rfl, (by have := HQL.out; omega), HFS, HL9, HO4, hb4⟩
          · have hkk : ¬ (k : Int) < (dr.length : Int) := by omega
            have hfin : encB ⟨log, next, seq, add, dr⟩ = M := by
              rw [← HM.out, List.take_of_length_le (by omega), HM2.out, ← HHD.out]
              rfl
            have hnM := HNM.out
            have ho := HO.out
            rw [hnM] at ho
            have HOF : Hid (wo.ownsRow w.heap.size 5 1 (.slice ad M.length c) M.length (bv M)) := owns_mono ho HB.out.size
            have HRM : Hid (R (Ending.returned (.tuple #[.slice ad M.length c, .int .i64 0])) wo) := by
              have := HR.out ad c wo
              rw [hfin] at this
              exact this HOF.out hbw
            have HNE := Lib.hid hnM
            clear hfin hnM ho HOF HR
            go_wp2
            have := HRM.out
            rw [← HNE.out] at this
            exact this
end Go.Proofs.Ytpodgocmcnkfdaa
