/- note's cursor: take, number, text, data: walked. -/
import Derived.Test.YtgimbocoamnkjaaGreatDoorM20
namespace Go.Proofs.YtgimbocoamnkjaaGreatDoor
open Go.RowKit

/-- What is left of bytes, and whether they were too few. -/
structure Cu where
  b : List UInt8
  bad : Bool
deriving DecidableEq
def takeC (n : Nat) (s : Cu) : List UInt8 × Cu := if (s.bad || decide (s.b.length < n)) = true then ([], ⟨s.b, true⟩) else (s.b.take n, ⟨s.b.drop n, s.bad⟩)
def numC (n : Nat) (s : Cu) : Int × Cu := (IntKind.i64.wrap (getU (takeC n s).1), (takeC n s).2)
def textC (s : Cu) : List UInt8 × Cu := ((getTextL s.b).1, (takeC (getTextL s.b).2.1.toNat ⟨s.b, s.bad || (getTextL s.b).2.2 != 0⟩).2)
def dataC (s : Cu) : List UInt8 × Cu := ((getDataL s.b).1, (takeC (getDataL s.b).2.1.toNat ⟨s.b, s.bad || (getDataL s.b).2.2 != 0⟩).2)
/-- A cursor in block N, made behind world w0, where its bytes lie. -/
structure CR (w0 : World) (t N : Nat) (s : Cu) (w : World) : Prop where
  row : ∃ ad c, w.heap[N]? = some (.cells #[.slice ad s.b.length c, .bool s.bad] t (0, 0)) ∧ Bs w0 (.slice ad s.b.length c) s.b
  low : Below w0.heap.size w0 w
  nn : w0.heap.size ≤ N
  len : s.b.length ≤ 140737488355328
theorem CR.below {w0 : World} {t N : Nat} {s : Cu} {w w' : World} (h : CR w0 t N s w) (hb : Below w.heap.size w w') : CR w0 t N s w' := by
  obtain ⟨ad, c, hr, hs⟩ := h.row
  exact ⟨⟨ad, c, row_on hr hb, hs⟩, below_then h.low hb h.low.size, h.nn, h.len⟩
theorem bs_rd {w : World} {ad : Option Addr} {n c : Nat} {l : List UInt8} (h : Rd w 1 ad n (bv l)) (hc : n ≤ c) (hm : c ≤ 9223372036854775807) (hn : ad = none → c = 0) : n = l.length ∧ Bs w (.slice ad n c) l := by
  have e := h.len
  subst e
  exact ⟨rfl, ad, c, rfl, h, hc, hm, hn⟩

theorem rd_dropP {w : World} {size n m : Nat} {ad : Option Addr} {cs : List Value} (h : Rd w size ad n cs) (hm : m ≤ n) : Rd w size (ad.map (·.add (m * size))) (n - m) (cs.drop (m * size)) := by
  have hms := Nat.mul_le_mul_right size hm
  have hsub : (n - m) * size = n * size - m * size := Nat.sub_mul _ _ _
  refine ⟨by have := h.1; rw [List.length_drop]; omega, fun h0 => ?_⟩
  obtain ⟨b, o, rfl, hc⟩ := h.2 (by omega)
  refine ⟨b, o + m * size, by rw [Option.map_some, Addr.add_lit], fun j hj => ?_⟩
  rw [Nat.add_assoc, hc (m * size + j) (by omega), List.getElem?_drop]
/-- 's[j:]', the address under a name. -/
theorem slice_fromP {P : Program} {t e : TypeId} {La : Option Addr} {n c j size bytes : Nat} {z : Value} (ht : P.underlying t = some (.slice e)) (hinfo : (P.info? e).map (fun i => (i.zero, i.size, i.bytes)) = some (some z, size, bytes)) (hj : j ≤ n) (hc : n ≤ c) (hnil : La = none → c = 0) :
    ∃ Lx, (∀ w, (Instr.slice t (.slice La n c) (some (.int .i64 (j : Int))) none none).run P w = .ok (.slice Lx (n - j) (c - j)) w) ∧ (Lx = none → c - j = 0) ∧ ∀ w cs, Rd w size La n cs → Rd w size Lx (n - j) (cs.drop (j * size)) := by
  obtain ⟨i, hi, hz, hi1, hi2⟩ := info_parts hinfo
  have he : P.elem t = e := by simp [Program.elem, ht]
  refine ⟨if c = j then La else La.map (·.add (j * size)), fun w => ?_, fun h => ?_, fun w cs h => ?_⟩
  · rw [run_slice_l (P := P) w t La n c (by rw [he]; exact ht) .i64 j (by omega) (by omega), he]
    simp [sizeOf, typeInfo, hi, hi1, sliced]
  · by_cases hcj : c = j
    · omega
    · rw [if_neg hcj] at h
      have := hnil (by simpa using h)
      omega
  · by_cases hcj : c = j
    · have hnj : n - j = 0 := by omega
      have hcs : cs.drop (j * size) = [] := List.drop_of_length_le (by rw [h.1]; exact Nat.mul_le_mul_right _ (by omega))
      rw [hnj, hcs]
      exact Rd.nil _ _ _
    · rw [if_neg hcj]
      exact rd_dropP h hj

set_option maxRecDepth 100000 in
set_option maxHeartbeats 3200000 in
theorem ntake_any (t N n : Nat) (s : Cu) (T : List UInt8) (S : Cu) (hT : takeC n s = (T, S)) (hn : n ≤ 9223372036854775807) (w0 w : World) (h : CR w0 t N s w) (R : Ending → World → Prop)
    (hR : ∀ xa xc w', Bs w0 (.slice xa T.length xc) T → CR w0 t N S w' → w.grownBy w' (some N) → R (.returned (.slice xa T.length xc)) w') :
    Calls Tryz.prog 168 #[.pointer (some ⟨N, 0, none⟩), .int .i64 n] w R := by
  obtain ⟨sb, bad⟩ := s
  obtain ⟨⟨ad, c, hrow, hbs⟩, hlow, hnn, hlen⟩ := h
  simp only at hrow hbs hlen
  have HR := Lib.hid hR
  have HROW := Lib.hid hrow
  have c0 := cell_of_row w N 0 _ _ _ hrow
  have c1 : w.cell? ⟨N, 1, none⟩ = some (.bool bad) := cell_of_row w N 1 _ _ _ hrow
  have f1 := frozen_block hrow 1
  have f0 := frozen_block hrow 0
  have hp := hbs.parts
  have HBS := Lib.hid hbs
  have HB := Lib.hid hlow
  clear hR hrow hbs hlow
  have HBAD : Hid (takeC n ⟨sb, bad⟩ = ([], ⟨sb, true⟩) → CR w0 t N S (w.setCell ⟨N, 1, none⟩ (.bool true)) ∧ T = [] ∧ Bs w0 (.slice none T.length 0) T) := by
    intro e
    rw [e] at hT
    cases hT
    refine ⟨⟨⟨ad, c, ?_, HBS.out⟩, HB.out.setCell hnn _, hnn, hlen⟩, rfl, ⟨none, 0, rfl, ⟨rfl, fun h => absurd rfl h⟩, Nat.le_refl _, by omega, fun _ => rfl⟩⟩
    rw [heap_setCell_same w N 1 _ _ _ HROW.out]
    rfl
  cases bad with
  | true =>
    obtain ⟨k1, rfl, k2⟩ := HBAD.out (by unfold takeC; simp)
    clear hT HBAD
    have K1 := Lib.hid k1
    clear k1
    go_enter Tryz.func168, Tryz.ntmps168
    go_wp2
    exact HR.out none 0 _ k2 K1.out (grownBy_setCell w ⟨N, 1, none⟩ _)
  | false =>
  by_cases hl : sb.length < n
  · have hlz : (n : Int) > (sb.length : Int) := by omega
    obtain ⟨k1, rfl, k2⟩ := HBAD.out (by unfold takeC; simp [hl])
    clear hT HBAD
    have K1 := Lib.hid k1
    clear k1
    go_enter Tryz.func168, Tryz.ntmps168
    go_wp2
    exact HR.out none 0 _ k2 K1.out (grownBy_setCell w ⟨N, 1, none⟩ _)
  · have hlz : ¬ (n : Int) > (sb.length : Int) := by omega
    have hlc : (n : Int) ≤ (c : Int) := by have := hp.2.2.1; omega
    have e : takeC n ⟨sb, false⟩ = (sb.take n, ⟨sb.drop n, false⟩) := by unfold takeC; simp; omega
    rw [e] at hT
    obtain ⟨Lx, hsl, hnx, hLx⟩ := slice_fromP (P := Tryz.prog) (j := n) Tryz.underlying22 Tryz.info5 (show n ≤ sb.length by omega) hp.2.2.1 hp.2.2.2.2
    have hrd : Rd w0 1 Lx (sb.length - n) (bv (sb.drop n)) := by
      have := hLx w0 _ hp.2.1
      rw [Nat.mul_one] at this
      have e : (bv sb).drop n = bv (sb.drop n) := by unfold bv; rw [List.map_drop]
      rwa [e] at this
    obtain ⟨hdl, hdb⟩ := bs_rd (c := c - n) hrd (by have := hp.2.2.1; omega) (by have := hp.2.2.2.1; omega) hnx
    have hbw : Bs w0 (.slice ad n c) (sb.take n) := Bs.cut HBS.out (by omega)
    have htl : (sb.take n).length = n := by rw [List.length_take]; omega
    cases hT
    have HBW := Lib.hid hbw
    have hcr : CR w0 t N ⟨sb.drop n, false⟩ (w.setCell ⟨N, 0, none⟩ (.slice Lx (sb.length - n) (c - n))) := by
      refine ⟨⟨Lx, c - n, ?_, ?_⟩, HB.out.setCell hnn _, hnn, by simp only [List.length_drop]; omega⟩
      · rw [heap_setCell_same w N 0 _ _ _ HROW.out, hdl]
        rfl
      · simp only
        rw [← hdl]
        exact hdb
    have HCR := Lib.hid hcr
    have HTL := Lib.hid htl
    clear hp hLx hrd hdb hbw hdl hcr HBAD e htl f1
    go_enter Tryz.func168, Tryz.ntmps168
    go_wp2
    have hr := HR.out ad c (w.setCell ⟨N, 0, none⟩ (.slice Lx (sb.length - n) (c - n)))
    rw [HTL.out] at hr
    exact hr HBW.out HCR.out (grownBy_setCell w ⟨N, 0, none⟩ _)

theorem CR.lt {w0 : World} {t N : Nat} {s : Cu} {w : World} (h : CR w0 t N s w) : N < w.heap.size := by
  obtain ⟨ad, c, hr, _⟩ := h.row
  exact (Array.getElem?_eq_some_iff.1 hr).1
theorem CR.mark {w0 : World} {t N : Nat} {b : List UInt8} {x : Bool} {w : World} (h : CR w0 t N ⟨b, x⟩ w) (y : Bool) : CR w0 t N ⟨b, y⟩ (w.setCell ⟨N, 1, none⟩ (.bool y)) := by
  obtain ⟨ad, c, hr, hs⟩ := h.row
  refine ⟨⟨ad, c, ?_, hs⟩, h.low.setCell h.nn _, h.nn, h.len⟩
  rw [heap_setCell_same w N 1 _ _ _ hr]
  rfl
theorem own_off {w : World} {B e size n N : Nat} {v : Value} {xs : List Value} (h : w.ownsRow B e size v n xs) (hN : N < B) : ∀ k, v.ownBlock = some k → some k ≠ some N := fun k hk e => by
  have := (h.lt k hk).1
  cases e
  omega
theorem getDataL_u (l D : List UInt8) (u er : Int) (h : getDataL l = (D, u, er)) : 0 ≤ u ∧ u ≤ 65537 := by
  rcases getDataL_cases l with ⟨_, e⟩ | ⟨n, hn, hn2, hl2, ⟨_, e⟩ | ⟨h2, e⟩⟩ <;> (rw [h] at e; simp only [Prod.mk.injEq] at e; omega)
theorem getTextL_u (l D : List UInt8) (u er : Int) (h : getTextL l = (D, u, er)) : 0 ≤ u ∧ u ≤ 65537 := by
  obtain ⟨D', u', er', hd⟩ : ∃ D u er, getDataL l = (D, u, er) := ⟨_, _, _, rfl⟩
  have := getDataL_u l D' u' er' hd
  unfold getTextL at h
  rw [hd] at h
  simp only at h
  split at h
  · cases h; omega
  · split at h <;> cases h <;> omega

set_option maxRecDepth 100000 in
set_option maxHeartbeats 1600000 in
theorem nnum_any (t N n : Nat) (s : Cu) (x : Int) (S : Cu) (hx : numC n s = (x, S)) (hn : n ≤ 9223372036854775807) (w0 w : World) (h : CR w0 t N s w) (R : Ending → World → Prop)
    (hR : ∀ w', CR w0 t N S w' → w.grownBy w' (some N) → R (.returned (.int .i64 x)) w') :
    Calls Tryz.prog 150 #[.pointer (some ⟨N, 0, none⟩), .int .i64 n] w R := by
  have HR := Lib.hid hR
  obtain ⟨T, S', hT⟩ : ∃ T S, takeC n s = (T, S) := ⟨_, _, rfl⟩
  unfold numC at hx
  rw [hT] at hx
  simp only [Prod.mk.injEq] at hx
  obtain ⟨hx, rfl⟩ := hx
  obtain ⟨g, hg⟩ : ∃ g, getU T = g := ⟨_, rfl⟩
  rw [hg] at hx
  have HX := Lib.hid hx
  have HG := Lib.hid hg
  have HT := Lib.hid hT
  have HC := Lib.hid h
  clear hR hT hx hg h
  go_enter Tryz.func150, Tryz.ntmps150
  go_wp2_with (first
    | (go_at_call 168; go_must (refine ntake_any t N n s T S' HT.out hn w0 _ HC.out _ ?_); intro xa xc w2 hb2 hc2 hg2; have HB2 := Lib.hid (hb2.below hc2.low); have HC2 := Lib.hid hc2; have HG2 := Lib.hid hg2; clear hb2 hc2 hg2)
    | (go_at_call 109; go_must (refine get_at _ T g HG.out _ HB2.out _ ?_)))
  have e : wrap64 (g : Int) = x := by rw [← HX.out, IntKind.wrap_i64]; unfold wrap64; omega
  show R (.returned (.int .i64 (wrap64 (g : Int)))) w2
  rw [e]
  exact HR.out _ HC2.out HG2.out

set_option maxRecDepth 100000 in
set_option maxHeartbeats 3200000 in
theorem ntext_any (t N : Nat) (s : Cu) (T : List UInt8) (S : Cu) (hx : textC s = (T, S)) (w0 w : World) (h : CR w0 t N s w) (hT : Tabs w0) (R : Ending → World → Prop)
    (hR : ∀ w', CR w0 t N S w' → w.grownBy w' (some N) → R (.returned (.string (str T))) w') :
    Calls Tryz.prog 151 #[.pointer (some ⟨N, 0, none⟩)] w R := by
  have HR := Lib.hid hR
  obtain ⟨sb, bad⟩ := s
  obtain ⟨D, u, er, hD⟩ : ∃ D u er, getTextL sb = (D, u, er) := ⟨_, _, _, rfl⟩
  have hu := getTextL_u _ _ _ _ hD
  obtain ⟨n, rfl⟩ : ∃ n : Nat, u = (n : Int) := ⟨u.toNat, by omega⟩
  unfold textC at hx
  simp only [hD, Int.toNat_natCast] at hx
  obtain ⟨X, S', hk⟩ : ∃ X S, takeC n ⟨sb, bad || er != 0⟩ = (X, S) := ⟨_, _, rfl⟩
  rw [hk] at hx
  simp only [Prod.mk.injEq] at hx
  obtain ⟨rfl, rfl⟩ := hx
  have HD := Lib.hid hD
  have HC := Lib.hid h
  have HT := Lib.hid hT
  have hlt := h.lt
  obtain ⟨ad, c, hrow, hbs⟩ := h.row
  simp only at hrow hbs
  have c0 := cell_of_row w N 0 _ _ _ hrow
  have HBS := Lib.hid (hbs.below h.low)
  have hn : n ≤ 9223372036854775807 := by omega
  have HLT := Lib.hid hlt
  clear hR hD h hbs hu hrow hlt hT
  cases bad with
  | true =>
    rw [Bool.true_or] at hk
    have HK := Lib.hid hk
    clear hk
    go_enter Tryz.func151, Tryz.ntmps151
    go_wp2_with (first
      | (go_at_call 108; go_must (refine gettext_any _ sb D n _ HD.out _ HBS.out (HT.out.below HC.out.low) _ ?_); intro w2 hb2; have HB2 := Lib.hid hb2; obtain ⟨ad2, c2, hrow2, _⟩ := (HC.out.below hb2).row; have c1 := cell_of_row w2 N 1 _ _ _ hrow2; have f1 := frozen_block hrow2 1; clear hb2 hrow2 c0)
      | (go_at_call 168; go_must (refine ntake_any t N n ⟨sb, true⟩ X S' HK.out hn w0 _ ((HC.out.below HB2.out).mark true) _ ?_); intro xa xc w4 _ hc4 hg4; have HC4 := Lib.hid hc4; have HGT := Lib.hid hg4; have HG4 := Lib.hid (grownBy_trans (grown_bel HB2.out) (grownBy_trans (grownBy_setCell w2 ⟨N, 1, none⟩ (.bool true)) hg4)); clear hc4 hg4))
    exact HR.out _ HC4.out HG4.out
  | false =>
    rw [Bool.false_or] at hk
    have HK := Lib.hid hk
    clear hk
    go_enter Tryz.func151, Tryz.ntmps151
    go_wp2_with (first
      | (go_at_call 108; go_must (refine gettext_any _ sb D n _ HD.out _ HBS.out (HT.out.below HC.out.low) _ ?_); intro w2 hb2; have HB2 := Lib.hid hb2; obtain ⟨ad2, c2, hrow2, _⟩ := (HC.out.below hb2).row; have c1 := cell_of_row w2 N 1 _ _ _ hrow2; have f1 := frozen_block hrow2 1; clear hb2 hrow2 c0)
      | (go_at_call 168; go_must (refine ntake_any t N n ⟨sb, er != 0⟩ X S' HK.out hn w0 _ ((HC.out.below HB2.out).mark (er != 0)) _ ?_); intro xa xc w4 _ hc4 hg4; have HC4 := Lib.hid hc4; have HGT := Lib.hid hg4; have HG4 := Lib.hid (grownBy_trans (grown_bel HB2.out) (grownBy_trans (grownBy_setCell w2 ⟨N, 1, none⟩ (.bool (er != 0))) hg4)); clear hc4 hg4))
    exact HR.out _ HC4.out HG4.out

set_option maxRecDepth 100000 in
set_option maxHeartbeats 3200000 in
theorem ndata_any (t N : Nat) (s : Cu) (T : List UInt8) (S : Cu) (hx : dataC s = (T, S)) (w0 w : World) (h : CR w0 t N s w) (R : Ending → World → Prop)
    (hR : ∀ xa xc w', w'.ownsRow w.heap.size 5 1 (.slice xa T.length xc) T.length (bv T) → CR w0 t N S w' → w.grownBy w' (some N) → R (.returned (.slice xa T.length xc)) w') :
    Calls Tryz.prog 148 #[.pointer (some ⟨N, 0, none⟩)] w R := by
  have HR := Lib.hid hR
  obtain ⟨sb, bad⟩ := s
  obtain ⟨D, u, er, hD⟩ : ∃ D u er, getDataL sb = (D, u, er) := ⟨_, _, _, rfl⟩
  have hu := getDataL_u _ _ _ _ hD
  obtain ⟨n, rfl⟩ : ∃ n : Nat, u = (n : Int) := ⟨u.toNat, by omega⟩
  unfold dataC at hx
  simp only [hD, Int.toNat_natCast] at hx
  obtain ⟨X, S', hk⟩ : ∃ X S, takeC n ⟨sb, bad || er != 0⟩ = (X, S) := ⟨_, _, rfl⟩
  rw [hk] at hx
  simp only [Prod.mk.injEq] at hx
  obtain ⟨rfl, rfl⟩ := hx
  have HD := Lib.hid hD
  have HC := Lib.hid h

  have hlt := h.lt
  obtain ⟨ad, c, hrow, hbs⟩ := h.row
  simp only at hrow hbs
  have c0 := cell_of_row w N 0 _ _ _ hrow
  have HBS := Lib.hid (hbs.below h.low)
  have hn : n ≤ 9223372036854775807 := by omega
  have HLT := Lib.hid hlt
  clear hR hD h hbs hu hrow hlt
  cases bad with
  | true =>
    rw [Bool.true_or] at hk
    have HK := Lib.hid hk
    clear hk
    go_enter Tryz.func148, Tryz.ntmps148
    go_wp2_with (first
      | (go_at_call 112; go_must (refine getdata_any _ sb D n _ HD.out _ HBS.out _ ?_); intro da dc w2 ho2 hb2; have HO2 := Lib.hid ho2; clear ho2; have HB2 := Lib.hid hb2; obtain ⟨ad2, c2, hrow2, _⟩ := (HC.out.below hb2).row; have c1 := cell_of_row w2 N 1 _ _ _ hrow2; have f1 := frozen_block hrow2 1; clear hb2 hrow2 c0)
      | (go_at_call 168; go_must (refine ntake_any t N n ⟨sb, true⟩ X S' HK.out hn w0 _ ((HC.out.below HB2.out).mark true) _ ?_); intro xa xc w4 _ hc4 hg4; have HC4 := Lib.hid hc4; have HGT := Lib.hid hg4; have HG4 := Lib.hid (grownBy_trans (grown_bel HB2.out) (grownBy_trans (grownBy_setCell w2 ⟨N, 1, none⟩ (.bool true)) hg4)); clear hc4 hg4))
    exact HR.out da dc _ (owns_grown (owns_grown HO2.out (grownBy_setCell w2 ⟨N, 1, none⟩ _) (own_off HO2.out HLT.out)) HGT.out (own_off HO2.out HLT.out)) HC4.out HG4.out
  | false =>
    rw [Bool.false_or] at hk
    have HK := Lib.hid hk
    clear hk
    go_enter Tryz.func148, Tryz.ntmps148
    go_wp2_with (first
      | (go_at_call 112; go_must (refine getdata_any _ sb D n _ HD.out _ HBS.out _ ?_); intro da dc w2 ho2 hb2; have HO2 := Lib.hid ho2; clear ho2; have HB2 := Lib.hid hb2; obtain ⟨ad2, c2, hrow2, _⟩ := (HC.out.below hb2).row; have c1 := cell_of_row w2 N 1 _ _ _ hrow2; have f1 := frozen_block hrow2 1; clear hb2 hrow2 c0)
      | (go_at_call 168; go_must (refine ntake_any t N n ⟨sb, er != 0⟩ X S' HK.out hn w0 _ ((HC.out.below HB2.out).mark (er != 0)) _ ?_); intro xa xc w4 _ hc4 hg4; have HC4 := Lib.hid hc4; have HGT := Lib.hid hg4; have HG4 := Lib.hid (grownBy_trans (grown_bel HB2.out) (grownBy_trans (grownBy_setCell w2 ⟨N, 1, none⟩ (.bool (er != 0))) hg4)); clear hc4 hg4))
    exact HR.out da dc _ (owns_grown (owns_grown HO2.out (grownBy_setCell w2 ⟨N, 1, none⟩ _) (own_off HO2.out HLT.out)) HGT.out (own_off HO2.out HLT.out)) HC4.out HG4.out

end Go.Proofs.YtgimbocoamnkjaaGreatDoor

/- (*note.reader).marks, walked. -/
namespace Go.Proofs.YtgimbocoamnkjaaGreatDoor
open Go.RowKit

set_option maxRecDepth 100000 in
set_option maxHeartbeats 1600000 in
theorem nmarks_any (t N : Nat) (s : Cu) (x : Int) (S : Cu) (hx : numC 1 s = (x, S)) (w0 w : World) (h : CR w0 t N s w) (R : Ending → World → Prop)
    (hR : ∀ w', CR w0 t N S w' → w.grownBy w' (some N) → R (.returned (.tuple #[.int .i64 (bits .and .i64 x 3), .bool (bits .and .i64 x 4 != 0)])) w') :
    Calls Tryz.prog 149 #[.pointer (some ⟨N, 0, none⟩)] w R := by
  have HR := Lib.hid hR
  have HX := Lib.hid hx
  have HC := Lib.hid h
  clear hR hx h
  go_enter Tryz.func149, Tryz.ntmps149
  go_wp2_with (first
    | (go_at_call 150; go_must (refine nnum_any t N 1 s x S HX.out (by decide) w0 _ HC.out _ ?_); intro w2 hc2 hg2; have HC2 := Lib.hid hc2; have HG2 := Lib.hid hg2; clear hc2 hg2))
  exact HR.out _ HC2.out HG2.out
end Go.Proofs.YtgimbocoamnkjaaGreatDoor
