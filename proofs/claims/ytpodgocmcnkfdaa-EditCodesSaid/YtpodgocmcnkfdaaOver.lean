/- The tables of a level that have keys in common with a range: edit.Over and the document's, walked. -/
import Derived.Test.YtpodgocmcnkfdaaRChk
import Derived.Test.YtpodgocmcnkfdaaIs
namespace Go.Proofs.Ytpodgocmcnkfdaa
open Go.RowKit

def overB (level : Int) (least most : List UInt8) (p : Pl) : Bool := decide (p.level = level) && (decide (Lib.compareBytes p.least most ≤ 0) && decide (Lib.compareBytes least p.most ≤ 0))
def overL (l : List Pl) (level : Int) (least most : List UInt8) : List Int := (l.filter (overB level least most)).map (·.num)
theorem iv_append (a b : List Int) : iv (a ++ b) = iv a ++ iv b := by unfold iv; rw [List.map_append]
theorem iv_oneCell (l : List Int) : ∀ u ∈ iv l, u.oneCell' = true := by
  intro u hu
  obtain ⟨x, _, rfl⟩ := List.mem_map.1 hu
  rfl
theorem iv_length (l : List Int) : (iv l).length = l.length := by unfold iv; rw [List.length_map]
theorem overL_succ (l : List Pl) (level : Int) (least most : List UInt8) (k : Nat) (hk : k < l.length) :
    overL (l.take (k + 1)) level least most = if overB level least most l[k] = true then overL (l.take k) level least most ++ [l[k].num] else overL (l.take k) level least most := by
  unfold overL
  rw [List.take_succ_eq_append_getElem hk, List.filter_append]
  by_cases h : overB level least most l[k] = true
  · rw [if_pos h, List.filter_cons, if_pos h, List.map_append]
    rfl
  · rw [if_neg h, List.filter_cons, if_neg h]
    simp
theorem overL_len (l : List Pl) (level : Int) (least most : List UInt8) (k : Nat) : (overL (l.take k) level least most).length ≤ k := by
  unfold overL
  rw [List.length_map]
  exact Nat.le_trans (List.length_filter_le _ _) (by rw [List.length_take]; omega)
theorem infoInt : (Try.prog.info? 3).map (fun i => (i.zero, i.size, i.bytes)) = some (some (.int .i64 0), 1, 8) := by kernel_rfl

set_option maxRecDepth 100000 in
set_option maxHeartbeats 3200000 in
theorem over_any (log next seq level : Int) (v x y : Value) (l : List Pl) (least most : List UInt8) (L : List Int) (hL : overL l level least most = L) (hl : l.length ≤ 1000000) (w : World) (hv : Pls w v l) (hx : Bs w x least) (hy : Bs w y most) (R : Ending → World → Prop)
    (hR : ∀ ad c w', w'.ownsRow w.heap.size 3 1 (.slice ad L.length c) L.length (iv L) → Below w.heap.size w w' → R (.returned (.slice ad L.length c)) w') :
    Calls Try.prog 21 #[.agg #[.int .i64 log, .int .i64 next, .int .i64 seq, v], .int .i64 level, x, y] w R := by
  have HR := Lib.hid hR
  have HV := Lib.hid hv
  have HX := Lib.hid hx
  have HY0 := Lib.hid hy
  have HL := Lib.hid hL
  obtain ⟨va, vc, rfl, _⟩ := hv
  obtain ⟨xa, xc, rfl, _⟩ := hx
  obtain ⟨ya, yc, rfl, _⟩ := hy
  have hb0 : Below (w.heap.size + 1) (w.alloc (vnO log next seq (.slice va l.length vc))) (w.alloc (vnO log next seq (.slice va l.length vc))) := Below.refl _ _
  have hw1 : Below w.heap.size w (w.alloc (vnO log next seq (.slice va l.length vc))) := (Below.refl w.heap.size w).alloc (Nat.le_refl _) _
  have N0 := Lib.hid (heap_alloc_new w (vnO log next seq (.slice va l.length vc)))
  have hz0 : w.heap.size + 1 ≤ (w.alloc (vnO log next seq (.slice va l.length vc))).heap.size := by simp
  unfold vnO at hb0 hw1 N0 hz0
  clear hR hL
  go_enter Try.func21, Try.ntmps21
  go_wp2
  generalize w.alloc (Obj.cells #[.int .i64 log, .int .i64 next, .int .i64 seq, .slice va l.length vc] 24) = w1 at hb0 hw1 N0 hz0 ⊢
  go_loopg [9, 15] l.length (fun gn s9 i wr => ∃ (k : Nat) (ad : Option Addr) (c n : Nat) (O : List Int), k ≤ l.length ∧ gn = l.length - k ∧ i = .int .i64 k ∧ s9 = .slice ad n c ∧ n ≤ k ∧ Hid (overL (l.take k) level least most = O) ∧ Hid (n = O.length) ∧ wr.ownsRow (w.heap.size + 1) 3 1 (.slice ad n c) n (iv O) ∧ Below (w.heap.size + 1) w1 wr ∧ w.heap.size + 1 ≤ wr.heap.size)
  case atStart => exact ⟨0, none, 0, 0, [], Nat.zero_le _, by omega, rfl, rfl, Nat.le_refl _, rfl, rfl, World.ownsRow_nil _ _ _ _, hb0, hz0⟩
  case round =>
    obtain ⟨k, ad, c, n, O, hk, rfl, rfl, rfl, hnk, HO, hnO, hown, hb, hz⟩ := hrel
    have hbw : Below w.heap.size w wr := hw1.trans (hb.mono (Nat.le_succ _))
    have hNr : wr.heap[w.heap.size]? = some (Obj.cells #[.int .i64 log, .int .i64 next, .int .i64 seq, .slice va l.length vc] 24) := by rw [hb.block _ (Nat.lt_succ_self _)]; exact N0.out
    have va3 : wr.cell? ⟨w.heap.size, 3, none⟩ = some (Value.slice va l.length vc) := cell_of_row _ w.heap.size 3 _ _ _ hNr
    have hzlt : w.heap.size < wr.heap.size := by omega
    clear hNr
    by_cases hlt : k < l.length
    · have hkk : (k : Int) < (l.length : Int) := by omega
      obtain ⟨va', vc', ee, _, _, _, v4⟩ := HV.out.below hbw
      simp only [Value.slice.injEq] at ee
      obtain ⟨rfl, -, rfl⟩ := ee
      obtain ⟨vb, vo, rfl, v5⟩ := v4 (by omega)
      obtain ⟨px, py, ⟨p0, p1, p2, p3, p4⟩, hpc⟩ := v5 k hlt
      have hsu := overL_succ l level least most k hlt
      rw [HO.out] at hsu
      obtain ⟨p, hp⟩ : ∃ p, l[k] = p := ⟨_, rfl⟩
      rw [hp] at p0 p1 p2 hpc hsu
      have s1 := hpc.shape
      have HPC := Lib.hid hpc
      have HSU := Lib.hid hsu
      clear v4 v5 hp hpc hsu HO
      obtain ⟨pn, pl, pc, pa, pb⟩ := p
      simp only at *
      obtain ⟨⟨a1, a2, rfl⟩, b1, b2, rfl⟩ := s1
      have hyA : Below wr.heap.size wr (wr.alloc (Obj.cells #[.int .i64 pn, .int .i64 pl, .int .i64 pc, .slice a1 pa.length a2, .slice b1 pb.length b2] 41)) := (Below.refl _ _).alloc (Nat.le_refl _) _
      have k1 := Lib.hid (HPC.out.hx.below hyA)
      have k2 := Lib.hid ((HY0.out.below hbw).below hyA)
      have k3 := Lib.hid ((HX.out.below hbw).below hyA)
      have k4 := Lib.hid (HPC.out.hy.below hyA)
      have hown2 := Lib.hid (hown.alloc (Obj.cells #[.int .i64 pn, .int .i64 pl, .int .i64 pc, .slice a1 pa.length a2, .slice b1 pb.length b2] 41))
      have hb2 := Lib.hid (hb.alloc hz (Obj.cells #[.int .i64 pn, .int .i64 pl, .int .i64 pc, .slice a1 pa.length a2, .slice b1 pb.length b2] 41))
      have hz2 : w.heap.size + 1 ≤ (wr.alloc (Obj.cells #[.int .i64 pn, .int .i64 pl, .int .i64 pc, .slice a1 pa.length a2, .slice b1 pb.length b2] 41)).heap.size := by simp; omega
      obtain ⟨z1, hz1⟩ : ∃ z, Lib.compareBytes pa most = z := ⟨_, rfl⟩
      obtain ⟨z2, hz2'⟩ : ∃ z, Lib.compareBytes least pb = z := ⟨_, rfl⟩
      have HZ1 := Lib.hid hz1
      have HZ2 := Lib.hid hz2'
      unfold overB at HSU
      simp only at HSU
      rw [hz1, hz2'] at HSU
      clear hz1 hz2' hown hb hyA
      by_cases h1 : pl = level
      rotate_left
      · have hd : (pl == level) = false := by simpa using h1
        have hso : Hid (overL (l.take (k + 1)) level least most = O) := by
          have := HSU.out
          rw [decide_eq_false h1, if_neg (by simp)] at this
          exact this
        clear HSU
        go_wp2_with (first | (first | (go_at_call_of 45 (Value.slice ya most.length yc); go_must (refine compare_any _ _ pa most z1 HZ1.out _ k1.out k2.out _ ?_)) | (go_at_call_of 45 (Value.slice xa least.length xc); go_must (refine compare_any _ _ least pb z2 HZ2.out _ k3.out k4.out _ ?_))))
        go_roundg (l.length - (k + 1))
        case measure => omega
        case rel => exact ⟨k + 1, ad, c, n, O, by omega, rfl, by go_num, rfl, by omega, hso, hnO, hown2.out, hb2.out, hz2⟩
      have hd1 : (pl == level) = true := by simpa using h1
      have H1 := Lib.hid h1
      clear h1
      by_cases h2 : z1 ≤ 0
      rotate_left
      · have hd : decide (z1 ≤ 0) = false := decide_eq_false h2
        have hso : Hid (overL (l.take (k + 1)) level least most = O) := by
          have := HSU.out
          rw [decide_eq_false h2, if_neg (by simp)] at this
          exact this
        clear HSU
        go_wp2_with (first | (first | (go_at_call_of 45 (Value.slice ya most.length yc); go_must (refine compare_any _ _ pa most z1 HZ1.out _ k1.out k2.out _ ?_)) | (go_at_call_of 45 (Value.slice xa least.length xc); go_must (refine compare_any _ _ least pb z2 HZ2.out _ k3.out k4.out _ ?_))))
        go_roundg (l.length - (k + 1))
        case measure => omega
        case rel => exact ⟨k + 1, ad, c, n, O, by omega, rfl, by go_num, rfl, by omega, hso, hnO, hown2.out, hb2.out, hz2⟩
      by_cases h3 : z2 ≤ 0
      rotate_left
      · have hd : decide (z2 ≤ 0) = false := decide_eq_false h3
        have hso : Hid (overL (l.take (k + 1)) level least most = O) := by
          have := HSU.out
          rw [decide_eq_false h3, if_neg (by simp)] at this
          exact this
        clear HSU
        go_wp2_with (first | (first | (go_at_call_of 45 (Value.slice ya most.length yc); go_must (refine compare_any _ _ pa most z1 HZ1.out _ k1.out k2.out _ ?_)) | (go_at_call_of 45 (Value.slice xa least.length xc); go_must (refine compare_any _ _ least pb z2 HZ2.out _ k3.out k4.out _ ?_))))
        go_roundg (l.length - (k + 1))
        case measure => omega
        case rel => exact ⟨k + 1, ad, c, n, O, by omega, rfl, by go_num, rfl, by omega, hso, hnO, hown2.out, hb2.out, hz2⟩
      have hso : Hid (overL (l.take (k + 1)) level least most = O ++ [pn]) := by
        have := HSU.out
        rw [decide_eq_true H1.out, decide_eq_true h2, decide_eq_true h3] at this
        exact this
      clear HSU
      have hd2 : decide (z1 ≤ 0) = true := decide_eq_true h2
      have hd3 : decide (z2 ≤ 0) = true := decide_eq_true h3
      have hrd1 : Rd ((wr.alloc (Obj.cells #[.int .i64 pn, .int .i64 pl, .int .i64 pc, .slice a1 pa.length a2, .slice b1 pb.length b2] 41)).alloc (Obj.cells #[Value.int .i64 pn] 3)) 1 (some ⟨wr.heap.size + 1, 0, none⟩) 1 [Value.int .i64 pn] := by
        have h := rd_lit (wr.alloc (Obj.cells #[.int .i64 pn, .int .i64 pl, .int .i64 pc, .slice a1 pa.length a2, .slice b1 pb.length b2] 41)) #[Value.int .i64 pn] 3 1 1 rfl
        rw [show (wr.alloc (Obj.cells #[.int .i64 pn, .int .i64 pl, .int .i64 pc, .slice a1 pa.length a2, .slice b1 pb.length b2] 41)).heap.size = wr.heap.size + 1 by simp] at h
        exact h
      go_wp2_with (first | (first | (go_at_call_of 45 (Value.slice ya most.length yc); go_must (refine compare_any _ _ pa most z1 HZ1.out _ k1.out k2.out _ ?_)) | (go_at_call_of 45 (Value.slice xa least.length xc); go_must (refine compare_any _ _ least pb z2 HZ2.out _ k3.out k4.out _ ?_))) | (at_builtin; go_must (refine wpList_appAt (by rfl) (.tmp 37) (.tmp 40) 25 (by rfl) (w.heap.size + 1) 3 (.int .i64 0) 1 8 Try.underlying25 infoInt rfl (by decide) ad n c _ (by rfl) (hown2.out.alloc (Obj.cells #[Value.int .i64 pn] 3)) (some ⟨wr.heap.size + 1, 0, none⟩) 1 1 [Value.int .i64 pn] (by rfl) hrd1 (one_oneCell _ _) (fun h => by cases h) (by unfold maxLen; omega) (by omega) (by simp; omega) ?_); intro ad6 c6 w6 hown6 hg6 _))
      have hb6 := below_app (hb2.out.alloc (by omega) (Obj.cells #[Value.int .i64 pn] 3)) hg6 (by simp; omega) (hown2.out.alloc (Obj.cells #[Value.int .i64 pn] 3))
      have hz6 : w.heap.size + 1 ≤ w6.heap.size := by have := hg6.size; simp at this; omega
      have hown7 : w6.ownsRow (w.heap.size + 1) 3 1 (.slice ad6 (n + 1) c6) (n + 1) (iv (O ++ [pn])) := by rw [iv_append]; exact hown6
      go_roundg (l.length - (k + 1))
      case measure => omega
      case rel => exact ⟨k + 1, ad6, c6, n + 1, O ++ [pn], by omega, rfl, by go_num, rfl, by omega, hso, (show Hid (n + 1 = (O ++ [pn]).length) from Lib.hid (by rw [hnO.out]; simp)), hown7, hb6, hz6⟩
    · have hkk : ¬ (k : Int) < (l.length : Int) := by omega
      obtain rfl : O = L := by rw [← HO.out, ← HL.out, List.take_of_length_le (by omega)]
      obtain rfl := hnO.out
      clear HO HL
      go_wp2
      exact HR.out _ _ _ (owns_mono hown (Nat.le_succ _)) hbw

end Go.Proofs.Ytpodgocmcnkfdaa
