/- merge.joined walked: tables' numbers with those of a level that have keys in common with them, in order. -/
import Derived.Test.YtgkgahjdjkmmnaaSInts
namespace Go.Proofs.Ytgkgahjdjkmmnaa
open Go.RowKit

def minP (m : List UInt8) (p : Pl) : List UInt8 := if Lib.compareBytes p.least m < 0 then p.least else m
def maxP (m : List UInt8) (p : Pl) : List UInt8 := if 0 < Lib.compareBytes p.most m then p.most else m
def leastOf (F : List Pl) : List UInt8 := F.foldl minP (F.headD default).least
def mostOf (F : List Pl) : List UInt8 := F.foldl maxP (F.headD default).most
def joinedU (l F : List Pl) (level : Int) : List Int := F.map (·.num) ++ overL l level (leastOf F) (mostOf F)
def joinedL (l F : List Pl) (level : Int) : List Int := sortI (joinedU l F level)
theorem foldl_at {α β : Type} (f : β → α → β) (b : β) (l : List α) (k : Nat) (hk : k < l.length) : (l.take (k + 1)).foldl f b = f ((l.take k).foldl f b) l[k] := by
  rw [List.take_succ_eq_append_getElem hk, List.foldl_append]
  rfl
theorem sortI_length (l : List Int) : (sortI l).length = l.length := (sortI_perm l).length_eq

set_option maxRecDepth 100000 in
set_option maxHeartbeats 6400000 in
theorem joined_any (log next seq level : Int) (v u : Value) (l F : List Pl) (h0 : 0 < F.length) (L : List Int) (hL : joinedL l F level = L) (hl : l.length ≤ 1000000) (hf : F.length ≤ 1000000) (w : World) (hv : Pls w v l) (hu : Pls w u F) (R : Ending → World → Prop)
    (hR : ∀ ad c w', w'.ownsRow w.heap.size 3 1 (.slice ad L.length c) L.length (iv L) → Below w.heap.size w w' → R (.returned (.slice ad L.length c)) w') :
    Calls Try.prog 42 #[.agg #[.int .i64 log, .int .i64 next, .int .i64 seq, v], u, .int .i64 level] w R := by
  have HR := Lib.hid hR
  have HV := Lib.hid hv
  have HU := Lib.hid hu
  have HL := Lib.hid hL
  obtain ⟨va, vc, rfl, _⟩ := hv
  obtain ⟨ua, uc, rfl, u1, u2, u3, u4⟩ := hu
  obtain ⟨ub, uo, rfl, u5⟩ := u4 h0
  have hb0 : Below (w.heap.size + 1) (w.alloc (vnO log next seq (.slice va l.length vc))) (w.alloc (vnO log next seq (.slice va l.length vc))) := Below.refl _ _
  have hw1 : Below w.heap.size w (w.alloc (vnO log next seq (.slice va l.length vc))) := (Below.refl w.heap.size w).alloc (Nat.le_refl _) _
  have N0 := Lib.hid (heap_alloc_new w (vnO log next seq (.slice va l.length vc)))
  have hz0 : w.heap.size + 1 ≤ (w.alloc (vnO log next seq (.slice va l.length vc))).heap.size := by simp
  obtain ⟨x0, y0, q5, hpc0⟩ := u5 0 h0
  obtain ⟨p0, hp0⟩ : ∃ p, F[0] = p := ⟨_, rfl⟩
  rw [hp0] at q5 hpc0
  have hhead : F.headD default = p0 := by
    rw [← hp0]
    cases F with
    | nil => simp at h0
    | cons a r => rfl
  have HHD := Lib.hid hhead
  unfold vnO at hb0 hw1 N0 hz0
  have q6 := q5.below hw1
  obtain ⟨q0, q1, q2, q3, q4⟩ := q6
  have s0 := hpc0.shape
  have HP0 := Lib.hid hpc0
  clear hR hL u4 u5 hhead hp0 hpc0 q5
  obtain ⟨n00, l00, c00, pa0, pb0⟩ := p0
  simp only at *
  obtain ⟨⟨a1, a2, rfl⟩, b1, b2, rfl⟩ := s0
  have h0z : (0 : Int) < (F.length : Int) := by omega
  go_enter Try.func42, Try.ntmps42
  go_wp2_with fail
  generalize w.alloc (Obj.cells #[.int .i64 log, .int .i64 next, .int .i64 seq, .slice va l.length vc] 52) = w1 at hb0 hw1 N0 hz0 q0 q1 q2 q3 q4 ⊢
  go_quiet (fail)
  go_wp2
  have hbd : Below (w.heap.size + 1) w1 (w1.drewN nq) := below_drewN hb0
  have hx0 : Hid (Bs w (.slice a1 pa0.length a2) pa0) := HP0.out.hx
  have hy0 : Hid (Bs w (.slice b1 pb0.length b2) pb0) := HP0.out.hy
  clear q0 q1 q2 q3 q4 hb0
  go_loopg [7, 8, 9, 22] F.length (fun gn s7 s8 s9 i wr => ∃ (k : Nat) (xa : Option Addr) (xc : Nat) (ya : Option Addr) (yc : Nat) (ad : Option Addr) (c : Nat) (lk mk : List UInt8) (O : List Int), k ≤ F.length ∧ gn = F.length - k ∧ i = .int .i64 k ∧ s7 = .slice xa lk.length xc ∧ s8 = .slice ya mk.length yc ∧ s9 = .slice ad k c ∧ Hid ((F.take k).foldl minP pa0 = lk) ∧ Hid ((F.take k).foldl maxP pb0 = mk) ∧ Hid ((F.take k).map (·.num) = O) ∧ Hid (Bs w (.slice xa lk.length xc) lk) ∧ Hid (Bs w (.slice ya mk.length yc) mk) ∧ Hid (wr.ownsRow (w.heap.size + 1) 3 1 (.slice ad k c) k (iv O)) ∧ Below (w.heap.size + 1) w1 wr ∧ w.heap.size + 1 ≤ wr.heap.size)
  case atStart => exact ⟨0, a1, a2, b1, b2, none, 0, pa0, pb0, [], Nat.zero_le _, by omega, rfl, rfl, rfl, rfl, rfl, rfl, rfl, hx0, hy0, World.ownsRow_nil _ _ _ _, hbd, hz0⟩
  case round =>
    obtain ⟨k, xa, xc, ya, yc, ad, c, lk, mk, O, hk, rfl, rfl, rfl, rfl, rfl, HLK, HMK, HO, HX, HY, HOW, hb, hz⟩ := hrel
    clear hx0 hy0 hbd
    have hbw : Below w.heap.size w wr := hw1.trans (hb.mono (Nat.le_succ _))
    by_cases hlt : k < F.length
    · have hkk : (k : Int) < (F.length : Int) := by omega
      obtain ⟨ua', uc', ee, _, _, _, v4⟩ := HU.out
      simp only [Value.slice.injEq] at ee
      obtain ⟨ee, -, rfl⟩ := ee
      obtain ⟨ub', uo', e2, v5⟩ := v4 h0
      obtain ⟨rfl, rfl⟩ : ub' = ub ∧ uo' = uo := by
        rw [e2] at ee
        simp only [Option.some.injEq, Addr.mk.injEq] at ee
        exact ⟨ee.1.symm, ee.2.1.symm⟩
      obtain ⟨px, py, q5, hpc⟩ := v5 k hlt
      obtain ⟨p0, p1, p2, p3, p4⟩ := q5.below hbw
      have e1 := foldl_at minP pa0 F k hlt
      have e3 := foldl_at maxP pb0 F k hlt
      have e4 : (F.take (k + 1)).map (·.num) = O ++ [F[k].num] := by
        rw [List.take_succ_eq_append_getElem hlt, List.map_append, HO.out]
        rfl
      rw [HLK.out] at e1
      rw [HMK.out] at e3
      obtain ⟨p, hp⟩ : ∃ p, F[k] = p := ⟨_, rfl⟩
      rw [hp] at p0 p1 p2 hpc e1 e3 e4
      have s1 := hpc.shape
      have HPC := Lib.hid hpc
      have E1 := Lib.hid e1
      have E3 := Lib.hid e3
      have E4 := Lib.hid e4
      clear v4 v5 hp hpc e1 e2 e3 e4 ee HLK HMK HO q5
      obtain ⟨pn, pl, pc, pa, pb⟩ := p
      simp only at *
      obtain ⟨⟨a1', a2', rfl⟩, b1', b2', rfl⟩ := s1
      obtain ⟨z1, hz1⟩ : ∃ z, Lib.compareBytes pa lk = z := ⟨_, rfl⟩
      obtain ⟨z2, hz2'⟩ : ∃ z, Lib.compareBytes pb mk = z := ⟨_, rfl⟩
      have HZ1 := Lib.hid hz1
      have HZ2 := Lib.hid hz2'
      unfold minP at E1
      unfold maxP at E3
      simp only at E1 E3 E4
      rw [hz1] at E1
      rw [hz2'] at E3
      have hyA : Below wr.heap.size wr (wr.alloc (Obj.cells #[.int .i64 pn, .int .i64 pl, .int .i64 pc, .slice a1' pa.length a2', .slice b1' pb.length b2'] 59)) := (Below.refl _ _).alloc (Nat.le_refl _) _
      have k1 := Lib.hid ((HPC.out.hx.below hbw).below hyA)
      have k2 := Lib.hid ((HX.out.below hbw).below hyA)
      have k3 := Lib.hid ((HPC.out.hy.below hbw).below hyA)
      have k4 := Lib.hid ((HY.out.below hbw).below hyA)
      have hown2 := Lib.hid (HOW.out.alloc (Obj.cells #[.int .i64 pn, .int .i64 pl, .int .i64 pc, .slice a1' pa.length a2', .slice b1' pb.length b2'] 59))
      have hb2 := Lib.hid (hb.alloc hz (Obj.cells #[.int .i64 pn, .int .i64 pl, .int .i64 pc, .slice a1' pa.length a2', .slice b1' pb.length b2'] 59))
      have hz2 : w.heap.size + 1 ≤ (wr.alloc (Obj.cells #[.int .i64 pn, .int .i64 pl, .int .i64 pc, .slice a1' pa.length a2', .slice b1' pb.length b2'] 59)).heap.size := by simp; omega
      have hrd1 : Rd ((wr.alloc (Obj.cells #[.int .i64 pn, .int .i64 pl, .int .i64 pc, .slice a1' pa.length a2', .slice b1' pb.length b2'] 59)).alloc (Obj.cells #[Value.int .i64 pn] 3)) 1 (some ⟨wr.heap.size + 1, 0, none⟩) 1 [Value.int .i64 pn] := by
        have h := rd_lit (wr.alloc (Obj.cells #[.int .i64 pn, .int .i64 pl, .int .i64 pc, .slice a1' pa.length a2', .slice b1' pb.length b2'] 59)) #[Value.int .i64 pn] 3 1 1 rfl
        rw [show (wr.alloc (Obj.cells #[.int .i64 pn, .int .i64 pl, .int .i64 pc, .slice a1' pa.length a2', .slice b1' pb.length b2'] 59)).heap.size = wr.heap.size + 1 by simp] at h
        exact h
      clear hz1 hz2' hb hyA
      by_cases h1 : z1 < 0
      · have hd1 : decide (z1 < 0) = true := decide_eq_true h1
        have E1' : Hid ((F.take (k + 1)).foldl minP pa0 = pa) := by
          have := E1.out
          rw [if_pos h1] at this
          exact this
        have X' : Hid (Bs w (.slice a1' pa.length a2') pa) := HPC.out.hx
        by_cases h2 : 0 < z2
        · have hd2 : decide (0 < z2) = true := decide_eq_true h2
          have E3' : Hid ((F.take (k + 1)).foldl maxP pb0 = pb) := by
            have := E3.out
            rw [if_pos h2] at this
            exact this
          have Y' : Hid (Bs w (.slice b1' pb.length b2') pb) := HPC.out.hy
          clear E1 E3
          go_wp2_with (first
            | (go_at_call_of 49 (Value.slice a1' pa.length a2'); go_must (refine compare_any _ _ pa lk z1 HZ1.out _ k1.out k2.out _ ?_))
            | (go_at_call_of 49 (Value.slice b1' pb.length b2'); go_must (refine compare_any _ _ pb mk z2 HZ2.out _ k3.out k4.out _ ?_))
            | (at_builtin; go_must (refine wpList_appAt (by rfl) (.tmp 40) (.tmp 43) 38 (by rfl) (w.heap.size + 1) 3 (.int .i64 0) 1 8 Try.underlying38 infoInt rfl (by decide) ad k c _ (by rfl) (hown2.out.alloc (Obj.cells #[Value.int .i64 pn] 3)) (some ⟨wr.heap.size + 1, 0, none⟩) 1 1 [Value.int .i64 pn] (by rfl) hrd1 (one_oneCell _ _) (fun h => by cases h) (by unfold maxLen; omega) (by omega) (by simp; omega) ?_); intro ad6 c6 w6 hown6 hg6 _))
          have hb6 := below_app (hb2.out.alloc (by omega) (Obj.cells #[Value.int .i64 pn] 3)) hg6 (by simp; omega) (hown2.out.alloc (Obj.cells #[Value.int .i64 pn] 3))
          have hz6 : w.heap.size + 1 ≤ w6.heap.size := by have := hg6.size; simp at this; omega
          have hown7 : Hid (w6.ownsRow (w.heap.size + 1) 3 1 (.slice ad6 (k + 1) c6) (k + 1) (iv (O ++ [pn]))) := by show World.ownsRow _ _ _ _ _ _ _; rw [iv_append]; exact hown6
          go_roundg (F.length - (k + 1))
          case measure => omega
          case rel => exact ⟨k + 1, a1', a2', b1', b2', ad6, c6, pa, pb, O ++ [pn], by omega, rfl, by go_num, rfl, rfl, rfl, E1', E3', E4, X', Y', hown7, hb6, hz6⟩
        · have hd2 : decide (0 < z2) = false := decide_eq_false h2
          have E3' : Hid ((F.take (k + 1)).foldl maxP pb0 = mk) := by
            have := E3.out
            rw [if_neg h2] at this
            exact this
          have Y' := HY
          clear E1 E3
          go_wp2_with (first
            | (go_at_call_of 49 (Value.slice a1' pa.length a2'); go_must (refine compare_any _ _ pa lk z1 HZ1.out _ k1.out k2.out _ ?_))
            | (go_at_call_of 49 (Value.slice b1' pb.length b2'); go_must (refine compare_any _ _ pb mk z2 HZ2.out _ k3.out k4.out _ ?_))
            | (at_builtin; go_must (refine wpList_appAt (by rfl) (.tmp 40) (.tmp 43) 38 (by rfl) (w.heap.size + 1) 3 (.int .i64 0) 1 8 Try.underlying38 infoInt rfl (by decide) ad k c _ (by rfl) (hown2.out.alloc (Obj.cells #[Value.int .i64 pn] 3)) (some ⟨wr.heap.size + 1, 0, none⟩) 1 1 [Value.int .i64 pn] (by rfl) hrd1 (one_oneCell _ _) (fun h => by cases h) (by unfold maxLen; omega) (by omega) (by simp; omega) ?_); intro ad6 c6 w6 hown6 hg6 _))
          have hb6 := below_app (hb2.out.alloc (by omega) (Obj.cells #[Value.int .i64 pn] 3)) hg6 (by simp; omega) (hown2.out.alloc (Obj.cells #[Value.int .i64 pn] 3))
          have hz6 : w.heap.size + 1 ≤ w6.heap.size := by have := hg6.size; simp at this; omega
          have hown7 : Hid (w6.ownsRow (w.heap.size + 1) 3 1 (.slice ad6 (k + 1) c6) (k + 1) (iv (O ++ [pn]))) := by show World.ownsRow _ _ _ _ _ _ _; rw [iv_append]; exact hown6
          go_roundg (F.length - (k + 1))
          case measure => omega
          case rel => exact ⟨k + 1, a1', a2', ya, yc, ad6, c6, pa, mk, O ++ [pn], by omega, rfl, by go_num, rfl, rfl, rfl, E1', E3', E4, X', Y', hown7, hb6, hz6⟩
      · have hd1 : decide (z1 < 0) = false := decide_eq_false h1
        have E1' : Hid ((F.take (k + 1)).foldl minP pa0 = lk) := by
          have := E1.out
          rw [if_neg h1] at this
          exact this
        have X' := HX
        by_cases h2 : 0 < z2
        · have hd2 : decide (0 < z2) = true := decide_eq_true h2
          have E3' : Hid ((F.take (k + 1)).foldl maxP pb0 = pb) := by
            have := E3.out
            rw [if_pos h2] at this
            exact this
          have Y' : Hid (Bs w (.slice b1' pb.length b2') pb) := HPC.out.hy
          clear E1 E3
          go_wp2_with (first
            | (go_at_call_of 49 (Value.slice a1' pa.length a2'); go_must (refine compare_any _ _ pa lk z1 HZ1.out _ k1.out k2.out _ ?_))
            | (go_at_call_of 49 (Value.slice b1' pb.length b2'); go_must (refine compare_any _ _ pb mk z2 HZ2.out _ k3.out k4.out _ ?_))
            | (at_builtin; go_must (refine wpList_appAt (by rfl) (.tmp 40) (.tmp 43) 38 (by rfl) (w.heap.size + 1) 3 (.int .i64 0) 1 8 Try.underlying38 infoInt rfl (by decide) ad k c _ (by rfl) (hown2.out.alloc (Obj.cells #[Value.int .i64 pn] 3)) (some ⟨wr.heap.size + 1, 0, none⟩) 1 1 [Value.int .i64 pn] (by rfl) hrd1 (one_oneCell _ _) (fun h => by cases h) (by unfold maxLen; omega) (by omega) (by simp; omega) ?_); intro ad6 c6 w6 hown6 hg6 _))
          have hb6 := below_app (hb2.out.alloc (by omega) (Obj.cells #[Value.int .i64 pn] 3)) hg6 (by simp; omega) (hown2.out.alloc (Obj.cells #[Value.int .i64 pn] 3))
          have hz6 : w.heap.size + 1 ≤ w6.heap.size := by have := hg6.size; simp at this; omega
          have hown7 : Hid (w6.ownsRow (w.heap.size + 1) 3 1 (.slice ad6 (k + 1) c6) (k + 1) (iv (O ++ [pn]))) := by show World.ownsRow _ _ _ _ _ _ _; rw [iv_append]; exact hown6
          go_roundg (F.length - (k + 1))
          case measure => omega
          case rel => exact ⟨k + 1, xa, xc, b1', b2', ad6, c6, lk, pb, O ++ [pn], by omega, rfl, by go_num, rfl, rfl, rfl, E1', E3', E4, X', Y', hown7, hb6, hz6⟩
        · have hd2 : decide (0 < z2) = false := decide_eq_false h2
          have E3' : Hid ((F.take (k + 1)).foldl maxP pb0 = mk) := by
            have := E3.out
            rw [if_neg h2] at this
            exact this
          have Y' := HY
          clear E1 E3
          go_wp2_with (first
            | (go_at_call_of 49 (Value.slice a1' pa.length a2'); go_must (refine compare_any _ _ pa lk z1 HZ1.out _ k1.out k2.out _ ?_))
            | (go_at_call_of 49 (Value.slice b1' pb.length b2'); go_must (refine compare_any _ _ pb mk z2 HZ2.out _ k3.out k4.out _ ?_))
            | (at_builtin; go_must (refine wpList_appAt (by rfl) (.tmp 40) (.tmp 43) 38 (by rfl) (w.heap.size + 1) 3 (.int .i64 0) 1 8 Try.underlying38 infoInt rfl (by decide) ad k c _ (by rfl) (hown2.out.alloc (Obj.cells #[Value.int .i64 pn] 3)) (some ⟨wr.heap.size + 1, 0, none⟩) 1 1 [Value.int .i64 pn] (by rfl) hrd1 (one_oneCell _ _) (fun h => by cases h) (by unfold maxLen; omega) (by omega) (by simp; omega) ?_); intro ad6 c6 w6 hown6 hg6 _))
          have hb6 := below_app (hb2.out.alloc (by omega) (Obj.cells #[Value.int .i64 pn] 3)) hg6 (by simp; omega) (hown2.out.alloc (Obj.cells #[Value.int .i64 pn] 3))
          have hz6 : w.heap.size + 1 ≤ w6.heap.size := by have := hg6.size; simp at this; omega
          have hown7 : Hid (w6.ownsRow (w.heap.size + 1) 3 1 (.slice ad6 (k + 1) c6) (k + 1) (iv (O ++ [pn]))) := by show World.ownsRow _ _ _ _ _ _ _; rw [iv_append]; exact hown6
          go_roundg (F.length - (k + 1))
          case measure => omega
          case rel => exact ⟨k + 1, xa, xc, ya, yc, ad6, c6, lk, mk, O ++ [pn], by omega, rfl, by go_num, rfl, rfl, rfl, E1', E3', E4, X', Y', hown7, hb6, hz6⟩
    · have hkk : ¬ (k : Int) < (F.length : Int) := by omega
      have hNr : wr.heap[w.heap.size]? = some (Obj.cells #[.int .i64 log, .int .i64 next, .int .i64 seq, .slice va l.length vc] 52) := by rw [hb.block _ (Nat.lt_succ_self _)]; exact N0.out
      have g0 : wr.cell? ⟨w.heap.size, 0, none⟩ = some (Value.int .i64 log) := cell_of_row _ w.heap.size 0 _ _ _ hNr
      have g1 : wr.cell? ⟨w.heap.size, 1, none⟩ = some (Value.int .i64 next) := cell_of_row _ w.heap.size 1 _ _ _ hNr
      have g2 : wr.cell? ⟨w.heap.size, 2, none⟩ = some (Value.int .i64 seq) := cell_of_row _ w.heap.size 2 _ _ _ hNr
      have g3 : wr.cell? ⟨w.heap.size, 3, none⟩ = some (Value.slice va l.length vc) := cell_of_row _ w.heap.size 3 _ _ _ hNr
      have hlk : leastOf F = lk := by
        rw [← HLK.out, List.take_of_length_le (by omega)]
        unfold leastOf
        rw [HHD.out]
      have hmk : mostOf F = mk := by
        rw [← HMK.out, List.take_of_length_le (by omega)]
        unfold mostOf
        rw [HHD.out]
      have hO : F.map (·.num) = O := by rw [← HO.out, List.take_of_length_le (by omega)]
      obtain ⟨Q, hQ⟩ : ∃ Q, overL l level lk mk = Q := ⟨_, rfl⟩
      have hfin : sortI (O ++ Q) = L := by
        rw [← HL.out]
        unfold joinedL joinedU
        rw [hlk, hmk, hO, hQ]
      have HFIN := Lib.hid hfin
      have HQ := Lib.hid hQ
      have hkF : O.length = k := by rw [← hO, List.length_map]; omega
      have HKF := Lib.hid hkF
      have hQl : Q.length ≤ 1000000 := by
        have := overL_len l level lk mk l.length
        rw [List.take_length, hQ] at this
        omega
      have hk0 : 0 < k := by omega
      clear HLK HMK HO hlk hmk hO hQ hfin hkF HL hNr
      obtain ⟨qn, hqn⟩ : ∃ qn, Q.length = qn := ⟨_, rfl⟩
      rw [hqn] at hQl
      have HQN := Lib.hid hqn
      clear hqn
      go_wp2_with (first
        | (go_at_call 27; go_must (refine over_any log next seq level _ _ _ l lk mk Q HQ.out hl _ (HV.out.below hbw) (HX.out.below hbw) (HY.out.below hbw) _ ?_); intro ad5 c5 w5 hown5 hb5; rw [HQN.out] at hown5 ⊢; have hr5 := Lib.hid (owns_below HOW.out hb5); have ho5 := Lib.hid hown5; have hb6 := Lib.hid (hb.trans (hb5.mono hz)); have hz6 := Nat.le_trans hz hb5.size; clear hown5 hb5)
        | (at_builtin; go_must (refine wpList_appAt (by rfl) (.tmp 46) (.tmp 51) 38 (by rfl) (w.heap.size + 1) 3 (.int .i64 0) 1 8 Try.underlying38 infoInt rfl (by decide) ad k c _ (by rfl) hr5.out ad5 qn c5 (iv Q) (by rfl) (rd_of_owns ho5.out) (iv_oneCell _) (owns_nil ho5.out) (by unfold maxLen; omega) (by omega) hz6 ?_); intro ad7 c7 w7 hown7 hg7 _; rw [← iv_append] at hown7; have ho7 := Lib.hid hown7; have hb7 := Lib.hid (below_app hb6.out hg7 hz6 hr5.out); have hz7 := Nat.le_trans hz6 hg7.size; clear hown7 hg7)
        | (go_at_call 58; go_must (refine sorti_any ad7 (k + qn) c7 (w.heap.size + 1) (O ++ Q) _ ho7.out (by rw [List.length_append, HKF.out, HQN.out]) (by omega) (by omega) _ ?_); intro w8 hown8 hg8; rw [HFIN.out] at hown8; have ho8 := Lib.hid hown8; have hb8 := Lib.hid (below_app hb7.out hg8 hz7 ho7.out); clear hown8 hg8))
      have hLn : L.length = k + qn := by rw [← HFIN.out, sortI_length, List.length_append, HKF.out, HQN.out]
      have := HR.out ad7 c7 w8
      rw [hLn] at this
      exact this (owns_mono ho8.out (Nat.le_succ _)) (hw1.trans (hb8.out.mono (Nat.le_succ _)))
end Go.Proofs.Ytgkgahjdjkmmnaa
