/- The document's Check: walked; it answers as the program's. -/
import Derived.Test.YtpodgocmcnkfdaaChk
namespace Go.Proofs.Ytpodgocmcnkfdaa
open Go.RowKit

theorem compareBytes_anti : ∀ (a b : List UInt8), Lib.compareBytes b a = -Lib.compareBytes a b
  | [], [] => by simp [Lib.compareBytes]
  | [], _ :: _ => by simp [Lib.compareBytes]
  | _ :: _, [] => by simp [Lib.compareBytes]
  | x :: a, y :: b => by
    unfold Lib.compareBytes
    by_cases h1 : x < y
    · have h2 : ¬ y < x := fun h => UInt8.lt_irrefl x (UInt8.lt_trans h1 h)
      rw [if_neg h2, if_pos h1, if_pos h1]
      simp
    · by_cases h2 : y < x
      · rw [if_pos h2, if_neg h1, if_pos h2]
      · rw [if_neg h2, if_neg h1, if_neg h1, if_neg h2, compareBytes_anti a b]
theorem compareBytes_le (a b : List UInt8) : decide (Lib.compareBytes a b ≤ 0) = (Op.bytesLess a b || a == b) := by
  rw [bytesLess_eq]
  have h0 := compareBytes_zero a b
  by_cases h : Lib.compareBytes a b < 0
  · rw [decide_eq_true (show Lib.compareBytes a b ≤ 0 by omega), decide_eq_true h, Bool.true_or]
  · rw [decide_eq_false h, Bool.false_or]
    by_cases he : a = b
    · rw [decide_eq_true (by have := h0.2 he; omega)]
      simp [he]
    · rw [decide_eq_false (fun hc => he (h0.1 (by omega)))]
      simp [he]
theorem compareBytes_trans : ∀ (a b c : List UInt8), Lib.compareBytes a b < 0 → Lib.compareBytes b c < 0 → Lib.compareBytes a c < 0
  | [], [], c, h, _ => by simp [Lib.compareBytes] at h
  | [], _ :: _, [], _, h => by simp [Lib.compareBytes] at h
  | [], _ :: _, _ :: _, _, _ => by simp [Lib.compareBytes]
  | _ :: _, [], c, h, _ => by simp [Lib.compareBytes] at h
  | _ :: _, _ :: _, [], _, h => by simp [Lib.compareBytes] at h
  | x :: a, y :: b, z :: c, h1, h2 => by
    unfold Lib.compareBytes at h1 h2 ⊢
    by_cases e1 : x < y
    · by_cases e2 : y < z
      · rw [if_pos (UInt8.lt_trans e1 e2)]; omega
      · rw [if_neg e2] at h2
        by_cases e3 : z < y
        · rw [if_pos e3] at h2; omega
        · obtain rfl : y = z := UInt8.le_antisymm (UInt8.not_lt.1 e3) (UInt8.not_lt.1 e2)
          rw [if_pos e1]; omega
    · rw [if_neg e1] at h1
      by_cases e4 : y < x
      · rw [if_pos e4] at h1; omega
      · rw [if_neg e4] at h1
        obtain rfl : x = y := UInt8.le_antisymm (UInt8.not_lt.1 e4) (UInt8.not_lt.1 e1)
        by_cases e2 : x < z
        · rw [if_pos e2]; omega
        · rw [if_neg e2] at h2
          by_cases e3 : z < x
          · rw [if_pos e3] at h2; omega
          · rw [if_neg e3] at h2
            rw [if_neg e2, if_neg e3]
            exact compareBytes_trans a b c h1 h2
theorem compareBytes_le_lt {a b c : List UInt8} (h1 : Lib.compareBytes a b ≤ 0) (h2 : Lib.compareBytes b c < 0) : Lib.compareBytes a c < 0 := by
  rcases Int.lt_or_eq_of_le h1 with h | h
  · exact compareBytes_trans _ _ _ h h2
  · rw [(compareBytes_zero a b).1 h]
    exact h2

theorem apart_ahead (p q : Pl) (next : Int) (h : tableL p next = true) : apartL p q = aheadL p q := by
  have hle : Lib.compareBytes p.least p.most ≤ 0 := by
    unfold tableL at h
    simp only [Bool.and_eq_true, decide_eq_true_eq] at h
    exact h.2.2.2.2.2.2.2.2
  unfold apartL aheadL
  rw [ordL_sorts]
  unfold sortsL
  by_cases h1 : p.level = q.level
  · by_cases h2 : p.level = 0
    · have h2' : q.level = 0 := by rw [← h1]; exact h2
      simp [h1, h2']
    · have h3 : ¬ p.level ≠ q.level := fun hc => hc h1
      rw [if_neg h3, if_neg h3, if_neg h2, if_neg h2, decide_eq_false h3, decide_eq_false h2, Bool.false_or, Bool.false_or]
      by_cases h4 : Lib.compareBytes p.most q.least < 0
      · rw [decide_eq_true h4, decide_eq_true (compareBytes_le_lt hle h4)]
        rfl
      · rw [decide_eq_false h4, Bool.and_false]
  · rw [if_pos h1, if_pos h1, decide_eq_true h1, Bool.true_or, Bool.and_true]
theorem tabsK_eq (next : Int) : ∀ (r d : List Pl), (∀ p ∈ d, tableL p next = true) → tabsK apartL next d r = tabsK aheadL next d r
  | [], d, _ => by rw [tabsK, tabsK]
  | p :: r, d, hd => by
    rw [tabsK, tabsK]
    cases hp : tableL p next with
    | false => simp
    | true =>
      have e : behindP apartL d p = behindP aheadL d p := by
        unfold behindP
        cases hq : d.getLast? with
        | none => rfl
        | some q => exact apart_ahead q p next (hd q (List.mem_of_getLast? hq))
      rw [e, tabsK_eq next r (d ++ [p]) (fun x hx => by
        rcases List.mem_append.1 hx with hx | hx
        · exact hd x hx
        · rw [List.mem_singleton.1 hx]; exact hp)]
theorem checkL_eq (log next seq : Int) (l : List Pl) : checkL apartL log next seq l = checkL aheadL log next seq l := by
  unfold checkL
  rw [tabsK_eq next l [] (fun p hp => by cases hp)]

theorem tableL_parts (p : Pl) (next : Int) : tableL p next = (decide (1 ≤ p.num) && (decide (p.num < next) && ((decide (0 ≤ p.level) && decide (p.level ≤ 3)) && ((decide (1 ≤ p.count) && decide (p.count ≤ 65536)) && (decide (p.least.length ≤ 128) && (decide (p.most.length ≤ 128) && (Op.bytesLess p.least p.most || p.least == p.most))))))) := by
  unfold tableL
  rw [compareBytes_le]
  simp only [Bool.and_assoc]

set_option maxRecDepth 100000 in
set_option maxHeartbeats 6400000 in
theorem rcheck_any (log next seq : Int) (v : Value) (l : List Pl) (t : Bool) (ht : checkL apartL log next seq l = t) (hl : l.length ≤ 1000000) (w : World) (hv : Pls w v l) (R : Ending → World → Prop)
    (hR : ∀ w', Below w.heap.size w w' → R (.returned (errI t 80)) w') :
    Calls Try.prog 14 #[.agg #[.int .i64 log, .int .i64 next, .int .i64 seq, v]] w R := by
  rw [checkL_eq] at ht
  have HR := Lib.hid hR
  have HV := Lib.hid hv
  obtain ⟨va, vc, rfl, v1, v2, v3, _⟩ := hv
  have hb0 : Below w.heap.size w (w.alloc (vnO log next seq (.slice va l.length vc))) := (Below.refl w.heap.size w).alloc (Nat.le_refl _) _
  have HB := Lib.hid hb0
  have N0 := Lib.hid (heap_alloc_new w (vnO log next seq (.slice va l.length vc)))
  unfold vnO at HB N0
  clear hR hb0
  unfold checkL headL at ht
  obtain ⟨b1, h1⟩ : ∃ b, numberL log = b := ⟨_, rfl⟩
  obtain ⟨b2, h2⟩ : ∃ b, numberL next = b := ⟨_, rfl⟩
  obtain ⟨b3, h3⟩ : ∃ b, numberL seq = b := ⟨_, rfl⟩
  rw [h1, h2, h3] at ht
  have H1 := Lib.hid h1
  have H2 := Lib.hid h2
  have H3 := Lib.hid h3
  clear h1 h2 h3
  cases b1 with
  | false =>
    obtain rfl : t = false := by rw [← ht]; rfl
    clear ht
    go_enter Try.func14, Try.ntmps14
    go_wp2_with (go_at_call 42; go_must (refine in_any log 0 1099511627776 false H1.out _ _ ?_))
    exact HR.out _ HB.out
  | true =>
  cases b2 with
  | false =>
    obtain rfl : t = false := by rw [← ht]; rfl
    clear ht
    go_enter Try.func14, Try.ntmps14
    go_wp2_with (first
      | (go_at_call_of 42 (Value.int .i64 log); go_must (refine in_any log 0 1099511627776 true H1.out _ _ ?_))
      | (go_at_call 42; go_must (refine in_any next 0 1099511627776 false H2.out _ _ ?_)))
    all_goals exact HR.out _ HB.out
  | true =>
  cases b3 with
  | false =>
    obtain rfl : t = false := by rw [← ht]; rfl
    clear ht
    go_enter Try.func14, Try.ntmps14
    go_wp2_with (first | (go_at_call_of 42 (Value.int .i64 log); go_must (refine in_any log 0 1099511627776 true H1.out _ _ ?_)) | (go_at_call_of 42 (Value.int .i64 next); go_must (refine in_any next 0 1099511627776 true H2.out _ _ ?_)) | (go_at_call_of 42 (Value.int .i64 seq); go_must (refine in_any seq 0 1099511627776 false H3.out _ _ ?_)))
    all_goals exact HR.out _ HB.out
  | true =>
  by_cases h4 : next ≤ log ∧ log ≠ 0
  · obtain rfl : t = false := by rw [← ht]; simp [h4]
    obtain ⟨h5, h6⟩ := h4
    have hd : (log != 0) = true := by simpa using h6
    clear ht
    go_enter Try.func14, Try.ntmps14
    go_wp2_with (first | (go_at_call_of 42 (Value.int .i64 log); go_must (refine in_any log 0 1099511627776 true H1.out _ _ ?_)) | (go_at_call_of 42 (Value.int .i64 next); go_must (refine in_any next 0 1099511627776 true H2.out _ _ ?_)) | (go_at_call_of 42 (Value.int .i64 seq); go_must (refine in_any seq 0 1099511627776 true H3.out _ _ ?_)))
    all_goals exact HR.out _ HB.out
  have HT : Hid (tabsK aheadL next (l.take 0) (l.drop 0) = t) := by
    show _ = _
    rw [← ht, List.drop_zero, List.take_zero]
    by_cases h5 : next ≤ log
    · have h6 : log = 0 := by
        by_cases h : log = 0
        · exact h
        · exact absurd ⟨h5, h⟩ h4
      simp [h6]
    · simp [h5]
  clear ht
  by_cases h5 : next ≤ log
  · obtain rfl : log = 0 := by
      by_cases h : log = 0
      · exact h
      · exact absurd ⟨h5, h⟩ h4
    clear h4
    go_enter Try.func14, Try.ntmps14
    go_wp2_with (first | (go_at_call_of 42 (Value.int .i64 next); go_must (refine in_any next 0 1099511627776 true H2.out _ _ ?_)) | (go_at_call_of 42 (Value.int .i64 seq); go_must (refine in_any seq 0 1099511627776 true H3.out _ _ ?_)) | (go_at_call 42; go_must (refine in_any 0 0 1099511627776 true H1.out _ _ ?_)))
    generalize w.alloc (Obj.cells #[.int .i64 0, .int .i64 next, .int .i64 seq, .slice va l.length vc] 24) = w1 at N0 HB ⊢
    have hB0 := HB.out
    have hZ0 : w.heap.size + 1 ≤ w1.heap.size := (Array.getElem?_eq_some_iff.1 N0.out).1
    clear HB H1 H2 H3
    go_loopg [3] l.length (fun gn i wr => ∃ k : Nat, k ≤ l.length ∧ gn = l.length - k ∧ i = .int .i64 k ∧ Hid (wr.heap[w.heap.size]? = some (Obj.cells #[.int .i64 0, .int .i64 next, .int .i64 seq, .slice va l.length vc] 24)) ∧ Below w.heap.size w wr ∧ w.heap.size + 1 ≤ wr.heap.size ∧ Hid (tabsK aheadL next (l.take k) (l.drop k) = t))
    case atStart => exact ⟨0, Nat.zero_le _, by omega, rfl, N0, hB0, hZ0, HT⟩
    case round =>
      obtain ⟨k, hk, rfl, rfl, HN, hbw, hz, HS⟩ := hrel
      clear N0 hB0 hZ0 HT
      have hzlt : w.heap.size < wr.heap.size := by omega
      have va3 : wr.cell? ⟨w.heap.size, 3, none⟩ = some (Value.slice va l.length vc) := cell_of_row _ w.heap.size 3 _ _ _ HN.out
      by_cases hlt : k < l.length
      · have hkk : (k : Int) < (l.length : Int) := by omega
        obtain ⟨va', vc', ee, _, _, _, v4⟩ := HV.out.below hbw
        simp only [Value.slice.injEq] at ee
        obtain ⟨rfl, -, rfl⟩ := ee
        obtain ⟨vb, vo, rfl, v5⟩ := v4 (by omega)
        obtain ⟨x, y, ⟨p0, p1, p2, p3, p4⟩, hpc⟩ := v5 k hlt
        have hat := tabsK_at aheadL next l k hlt
        rw [HS.out] at hat
        obtain ⟨p, hp⟩ : ∃ p, l[k] = p := ⟨_, rfl⟩
        rw [hp] at p0 p1 p2 hpc hat
        obtain ⟨tw, htw⟩ : ∃ tw, ((l.take k).any fun q => decide (q.num = p.num)) = tw := ⟨_, rfl⟩
        rw [htw, tableL_parts] at hat
        have HAT := Lib.hid hat
        have HPC := Lib.hid hpc
        have HTW := Lib.hid htw
        have s1 := hpc.shape
        have HV5 := Lib.hid v5
        have va1 : wr.cell? ⟨w.heap.size, 1, none⟩ = some (Value.int .i64 next) := cell_of_row _ w.heap.size 1 _ _ _ HN.out
        clear v4 v5 hp hat hpc HS htw
        obtain ⟨pn, pl, pc, pa, pb⟩ := p
        simp only at *
        obtain ⟨⟨a1, a2, rfl⟩, b1, b2, rfl⟩ := s1
        have hyA : Below wr.heap.size wr (wr.alloc (Obj.cells #[.int .i64 pn, .int .i64 pl, .int .i64 pc, .slice a1 pa.length a2, .slice b1 pb.length b2] 41)) := (Below.refl _ _).alloc (Nat.le_refl _) _
        have kk1 := run_conv_bs (P := Try.prog) Try.underlying39 Try.underlying5 Try.underlying9 (HPC.out.hx.below hyA)
        have kk2 := run_conv_bs (P := Try.prog) Try.underlying39 Try.underlying5 Try.underlying9 (HPC.out.hy.below hyA)
        have HY := Lib.hid hyA
        have HBE := Lib.hid (below_then hbw hyA (by omega))
        clear hyA
        obtain ⟨bl, hbl⟩ : ∃ b, (decide (0 ≤ pl) && decide (pl ≤ 3)) = b := ⟨_, rfl⟩
        obtain ⟨bc, hbc⟩ : ∃ b, (decide (1 ≤ pc) && decide (pc ≤ 65536)) = b := ⟨_, rfl⟩
        obtain ⟨lt, hlt2⟩ : ∃ b, Op.bytesLess pa pb = b := ⟨_, rfl⟩
        obtain ⟨eb, heb⟩ : ∃ b, (pa == pb) = b := ⟨_, rfl⟩
        rw [hbl, hbc, hlt2, heb] at HAT
        have HBL := Lib.hid hbl
        have HBC := Lib.hid hbc
        clear hbl hbc
        by_cases h1 : 1 ≤ pn
        rotate_left
        · obtain rfl : t = false := by rw [HAT.out, decide_eq_false h1]; simp
          clear HAT
          go_wp2_with (first | (go_at_call_of 42 (Value.int .i64 pl); go_must (refine in_any pl 0 3 _ HBL.out _ _ ?_)) | (go_at_call_of 42 (Value.int .i64 pc); go_must (refine in_any pc 1 65536 _ HBC.out _ _ ?_)))
          all_goals exact HR.out _ HBE.out
        by_cases h2 : pn < next
        rotate_left
        · obtain rfl : t = false := by rw [HAT.out, decide_eq_false h2]; simp
          clear HAT
          go_wp2_with (first | (go_at_call_of 42 (Value.int .i64 pl); go_must (refine in_any pl 0 3 _ HBL.out _ _ ?_)) | (go_at_call_of 42 (Value.int .i64 pc); go_must (refine in_any pc 1 65536 _ HBC.out _ _ ?_)))
          all_goals exact HR.out _ HBE.out
        exact absurd h2 (by omega)
      · have hkk : ¬ (k : Int) < (l.length : Int) := by omega
        obtain rfl : t = true := by rw [← HS.out, tabsK_end _ _ _ _ (by omega)]
        clear HS
        go_wp2
        exact HR.out _ hbw
  · clear h4
    go_enter Try.func14, Try.ntmps14
    go_wp2_with (first | (go_at_call_of 42 (Value.int .i64 log); go_must (refine in_any log 0 1099511627776 true H1.out _ _ ?_)) | (go_at_call_of 42 (Value.int .i64 next); go_must (refine in_any next 0 1099511627776 true H2.out _ _ ?_)) | (go_at_call_of 42 (Value.int .i64 seq); go_must (refine in_any seq 0 1099511627776 true H3.out _ _ ?_)))
    generalize w.alloc (Obj.cells #[.int .i64 log, .int .i64 next, .int .i64 seq, .slice va l.length vc] 24) = w1 at N0 HB ⊢
    have hB0 := HB.out
    have hZ0 : w.heap.size + 1 ≤ w1.heap.size := (Array.getElem?_eq_some_iff.1 N0.out).1
    clear HB H1 H2 H3
    go_loopg [3] l.length (fun gn i wr => ∃ k : Nat, k ≤ l.length ∧ gn = l.length - k ∧ i = .int .i64 k ∧ Hid (wr.heap[w.heap.size]? = some (Obj.cells #[.int .i64 log, .int .i64 next, .int .i64 seq, .slice va l.length vc] 24)) ∧ Below w.heap.size w wr ∧ w.heap.size + 1 ≤ wr.heap.size ∧ Hid (tabsK aheadL next (l.take k) (l.drop k) = t))
    case atStart => exact ⟨0, Nat.zero_le _, by omega, rfl, N0, hB0, hZ0, HT⟩
    case round =>
      obtain ⟨k, hk, rfl, rfl, HN, hbw, hz, HS⟩ := hrel
      clear N0 hB0 hZ0 HT
      have hzlt : w.heap.size < wr.heap.size := by omega
      have va3 : wr.cell? ⟨w.heap.size, 3, none⟩ = some (Value.slice va l.length vc) := cell_of_row _ w.heap.size 3 _ _ _ HN.out
      by_cases hlt : k < l.length
      · have hkk : (k : Int) < (l.length : Int) := by omega
        obtain ⟨va', vc', ee, _, _, _, v4⟩ := HV.out.below hbw
        simp only [Value.slice.injEq] at ee
        obtain ⟨rfl, -, rfl⟩ := ee
        obtain ⟨vb, vo, rfl, v5⟩ := v4 (by omega)
        obtain ⟨x, y, ⟨p0, p1, p2, p3, p4⟩, hpc⟩ := v5 k hlt
        have hat := tabsK_at aheadL next l k hlt
        rw [HS.out] at hat
        obtain ⟨p, hp⟩ : ∃ p, l[k] = p := ⟨_, rfl⟩
        rw [hp] at p0 p1 p2 hpc hat
        obtain ⟨tw, htw⟩ : ∃ tw, ((l.take k).any fun q => decide (q.num = p.num)) = tw := ⟨_, rfl⟩
        rw [htw, tableL_parts] at hat
        have HAT := Lib.hid hat
        have HPC := Lib.hid hpc
        have HTW := Lib.hid htw
        have s1 := hpc.shape
        have HV5 := Lib.hid v5
        have va1 : wr.cell? ⟨w.heap.size, 1, none⟩ = some (Value.int .i64 next) := cell_of_row _ w.heap.size 1 _ _ _ HN.out
        clear v4 v5 hp hat hpc HS htw
        obtain ⟨pn, pl, pc, pa, pb⟩ := p
        simp only at *
        obtain ⟨⟨a1, a2, rfl⟩, b1, b2, rfl⟩ := s1
        have hyA : Below wr.heap.size wr (wr.alloc (Obj.cells #[.int .i64 pn, .int .i64 pl, .int .i64 pc, .slice a1 pa.length a2, .slice b1 pb.length b2] 41)) := (Below.refl _ _).alloc (Nat.le_refl _) _
        have kk1 := run_conv_bs (P := Try.prog) Try.underlying39 Try.underlying5 Try.underlying9 (HPC.out.hx.below hyA)
        have kk2 := run_conv_bs (P := Try.prog) Try.underlying39 Try.underlying5 Try.underlying9 (HPC.out.hy.below hyA)
        have HY := Lib.hid hyA
        have HBE := Lib.hid (below_then hbw hyA (by omega))
        clear hyA
        obtain ⟨bl, hbl⟩ : ∃ b, (decide (0 ≤ pl) && decide (pl ≤ 3)) = b := ⟨_, rfl⟩
        obtain ⟨bc, hbc⟩ : ∃ b, (decide (1 ≤ pc) && decide (pc ≤ 65536)) = b := ⟨_, rfl⟩
        obtain ⟨lt, hlt2⟩ : ∃ b, Op.bytesLess pa pb = b := ⟨_, rfl⟩
        obtain ⟨eb, heb⟩ : ∃ b, (pa == pb) = b := ⟨_, rfl⟩
        rw [hbl, hbc, hlt2, heb] at HAT
        have HBL := Lib.hid hbl
        have HBC := Lib.hid hbc
        clear hbl hbc
        by_cases h1 : 1 ≤ pn
        rotate_left
        · obtain rfl : t = false := by rw [HAT.out, decide_eq_false h1]; simp
          clear HAT
          go_wp2_with (first | (go_at_call_of 42 (Value.int .i64 pl); go_must (refine in_any pl 0 3 _ HBL.out _ _ ?_)) | (go_at_call_of 42 (Value.int .i64 pc); go_must (refine in_any pc 1 65536 _ HBC.out _ _ ?_)))
          all_goals exact HR.out _ HBE.out
        by_cases h2 : pn < next
        rotate_left
        · obtain rfl : t = false := by rw [HAT.out, decide_eq_false h2]; simp
          clear HAT
          go_wp2_with (first | (go_at_call_of 42 (Value.int .i64 pl); go_must (refine in_any pl 0 3 _ HBL.out _ _ ?_)) | (go_at_call_of 42 (Value.int .i64 pc); go_must (refine in_any pc 1 65536 _ HBC.out _ _ ?_)))
          all_goals exact HR.out _ HBE.out
        rw [decide_eq_true h1, decide_eq_true h2, Bool.true_and, Bool.true_and] at HAT
        cases bl with
        | false =>
          obtain rfl : t = false := by rw [HAT.out]; simp
          clear HAT
          go_wp2_with (first | (go_at_call_of 42 (Value.int .i64 pl); go_must (refine in_any pl 0 3 _ HBL.out _ _ ?_)) | (go_at_call_of 42 (Value.int .i64 pc); go_must (refine in_any pc 1 65536 _ HBC.out _ _ ?_)))
          all_goals exact HR.out _ HBE.out
        | true =>
        cases bc with
        | false =>
          obtain rfl : t = false := by rw [HAT.out]; simp
          clear HAT
          go_wp2_with (first | (go_at_call_of 42 (Value.int .i64 pl); go_must (refine in_any pl 0 3 _ HBL.out _ _ ?_)) | (go_at_call_of 42 (Value.int .i64 pc); go_must (refine in_any pc 1 65536 _ HBC.out _ _ ?_)))
          all_goals exact HR.out _ HBE.out
        | true =>
        rw [Bool.true_and, Bool.true_and] at HAT
        by_cases h7 : pa.length ≤ 128
        rotate_left
        · obtain rfl : t = false := by rw [HAT.out, decide_eq_false h7]; simp
          have h7' : ¬ (pa.length : Int) ≤ 128 := by omega
          clear HAT
          go_wp2_with (first | (go_at_call_of 42 (Value.int .i64 pl); go_must (refine in_any pl 0 3 _ HBL.out _ _ ?_)) | (go_at_call_of 42 (Value.int .i64 pc); go_must (refine in_any pc 1 65536 _ HBC.out _ _ ?_)))
          all_goals exact HR.out _ HBE.out
        have h7' : (pa.length : Int) ≤ 128 := by omega
        by_cases h8 : pb.length ≤ 128
        rotate_left
        · obtain rfl : t = false := by rw [HAT.out, decide_eq_false h8]; simp
          have h8' : ¬ (pb.length : Int) ≤ 128 := by omega
          clear HAT
          go_wp2_with (first | (go_at_call_of 42 (Value.int .i64 pl); go_must (refine in_any pl 0 3 _ HBL.out _ _ ?_)) | (go_at_call_of 42 (Value.int .i64 pc); go_must (refine in_any pc 1 65536 _ HBC.out _ _ ?_)))
          all_goals exact HR.out _ HBE.out
        have h8' : (pb.length : Int) ≤ 128 := by omega
        rw [decide_eq_true h7, decide_eq_true h8, Bool.true_and, Bool.true_and] at HAT
        cases lt with
        | true =>
          have HAT2 : Hid (t = (!tw && (behindP aheadL (l.take k) ⟨pn, pl, pc, pa, pb⟩ && tabsK aheadL next (l.take (k + 1)) (l.drop (k + 1))))) := by
            have := HAT.out
            rw [Bool.true_or, Bool.true_and] at this
            exact this
          clear HAT h7 h8
          go_wp2_with (first | (go_at_call_of 42 (Value.int .i64 pl); go_must (refine in_any pl 0 3 _ HBL.out _ _ ?_)) | (go_at_call_of 42 (Value.int .i64 pc); go_must (refine in_any pc 1 65536 _ HBC.out _ _ ?_)))
          obtain ⟨wo, rfl⟩ : ∃ x, x = wr := ⟨_, rfl⟩
          have NV := Lib.hid (row_on HN.out HY.out)
          have NP : Hid ((wo.alloc (Obj.cells #[.int .i64 pn, .int .i64 pl, .int .i64 pc, .slice a1 pa.length a2, .slice b1 pb.length b2] 41)).heap[wo.heap.size]? = some (Obj.cells #[.int .i64 pn, .int .i64 pl, .int .i64 pc, .slice a1 pa.length a2, .slice b1 pb.length b2] 41)) := Lib.hid (heap_alloc_new wo _)
          have hzP : wo.heap.size + 1 ≤ (wo.alloc (Obj.cells #[.int .i64 pn, .int .i64 pl, .int .i64 pc, .slice a1 pa.length a2, .slice b1 pb.length b2] 41)).heap.size := by simp
          clear kk1 kk2 p0 p1 p2 p3 p4 va1 va3
          generalize wo.alloc (Obj.cells #[.int .i64 pn, .int .i64 pl, .int .i64 pc, .slice a1 pa.length a2, .slice b1 pb.length b2] 41) = w2 at HY HBE NV NP hzP ⊢
          have HTW0 : Hid (((l.take k).drop 0).any (fun q => decide (q.num = pn)) = tw) := by rw [List.drop_zero]; exact HTW
          clear HTW
          go_loopg [5] k (fun gn i wr => ∃ j : Nat, j ≤ k ∧ gn = k - j ∧ i = .int .i64 j ∧ Grn w2 wr ∧ Hid (((l.take k).drop j).any (fun q => decide (q.num = pn)) = tw))
          case atStart => exact ⟨0, Nat.zero_le _, by omega, rfl, Grn.refl _, HTW0⟩
          case round =>
            obtain ⟨j, hj, rfl, rfl, hgr, HTJ⟩ := hrel
            clear HTW0
            have HG := Lib.hid hgr
            have hzr := hgr.below.size
            clear hgr
            by_cases hjk : j < k
            · have hjz : (j : Int) < (k : Int) := by omega
              have hjl : (j : Int) < (l.length : Int) := by omega
              obtain ⟨x', y', ⟨q0, q1, q2, q3, q4⟩, hqc⟩ := HV5.out j (by omega)
              have htj := HTJ.out
              rw [List.drop_eq_getElem_cons (by rw [List.length_take]; omega), List.any_cons, List.getElem_take] at htj
              obtain ⟨q, hq⟩ : ∃ q, l[j] = q := ⟨_, rfl⟩
              rw [hq] at q0 htj
              obtain ⟨qn, ql, qc, qa, qb⟩ := q
              simp only at *
              have g0 : _ = some (Value.slice (some ⟨vb, vo, none⟩) l.length vc) := cell_later HG.out.below (cell_of_row _ w.heap.size 3 _ _ _ NV.out)
              have f0 : _ = some (Value.int .i64 pn) := cell_later HG.out.below (cell_of_row _ wo.heap.size 0 _ _ _ NP.out)
              have e0 := cell_later HG.out.below (cell_later HY.out q0)
              have HTJ2 := Lib.hid htj
              clear q0 q1 q2 q3 q4 hqc hq htj HTJ
              by_cases hqp : qn = pn
              · obtain rfl : tw = true := by rw [← HTJ2.out, decide_eq_true hqp, Bool.true_or]
                obtain rfl : t = false := by rw [HAT2.out]; rfl
                have hd : (qn == pn) = true := by simpa using hqp
                clear HAT2 HTJ2
                go_wp2_with fail
                go_quiet (fail)
                go_wp2
                all_goals exact HR.out _ (below_then HBE.out (HG.out.drewN _).below (by omega))
              · have hnx : Hid (((l.take k).drop (j + 1)).any (fun q => decide (q.num = pn)) = tw) := by
                  have := HTJ2.out
                  rw [decide_eq_false hqp, Bool.false_or] at this
                  exact this
                have hd : (qn == pn) = false := by simpa using hqp
                clear HTJ2 HAT2
                go_wp2_with fail
                go_quiet (fail)
                go_wp2
                go_roundg (k - (j + 1))
                case measure => omega
                case rel => exact ⟨j + 1, by omega, rfl, by go_num, HG.out.drewN _, hnx⟩
            · have hjz : ¬ (j : Int) < (k : Int) := by omega
              obtain rfl : tw = false := by
                rw [← HTJ.out, List.drop_of_length_le (by rw [List.length_take]; omega)]
                rfl
              clear HTJ
              have HBR := Lib.hid (below_then HBE.out HG.out.below (by omega))
              have hNVr := row_on NV.out HG.out.below
              have hNPr := row_on NP.out HG.out.below
              have hcg : ∀ (A : Addr) (u : Value), wr.cell? A = some u → A.block < wr.heap.size → ∀ n os, (Sort.grow (wr.drewN n) os).cell? A = some u := fun A u h hA n os => cell_grown hA h n os
              have g1 : ∀ n os, _ = some (Value.slice (some ⟨vb, vo, none⟩) l.length vc) := hcg _ _ (cell_of_row _ w.heap.size 3 _ _ _ hNVr) (by show w.heap.size < _; omega)
              have f0 : ∀ n os, _ = some (Value.int .i64 pn) := hcg _ _ (cell_of_row _ wo.heap.size 0 _ _ _ hNPr) (by show wo.heap.size < _; omega)
              have f1 : ∀ n os, _ = some (Value.int .i64 pl) := hcg _ _ (cell_of_row _ wo.heap.size 1 _ _ _ hNPr) (by show wo.heap.size < _; omega)
              have f2 : ∀ n os, _ = some (Value.int .i64 pc) := hcg _ _ (cell_of_row _ wo.heap.size 2 _ _ _ hNPr) (by show wo.heap.size < _; omega)
              have f3 : ∀ n os, _ = some (Value.slice a1 pa.length a2) := hcg _ _ (cell_of_row _ wo.heap.size 3 _ _ _ hNPr) (by show wo.heap.size < _; omega)
              have f4 : ∀ n os, _ = some (Value.slice b1 pb.length b2) := hcg _ _ (cell_of_row _ wo.heap.size 4 _ _ _ hNPr) (by show wo.heap.size < _; omega)
              have hpg : ∀ n os, PlC (Sort.grow (wr.drewN n) os) (.slice a1 pa.length a2) (.slice b1 pb.length b2) ⟨pn, pl, pc, pa, pb⟩ := fun n os => ((HPC.out.below HY.out).below HG.out.below).below ((Grn.refl wr).grow n os).below
              have HPG := Lib.hid hpg
              have HCG := Lib.hid hcg
              have HNV := Lib.hid hNVr
              clear hpg hcg hNVr hNPr
              by_cases hk0 : k = 0
              · subst hk0
                have hnx : Hid (tabsK aheadL next (l.take (0 + 1)) (l.drop (0 + 1)) = t) := by
                  have := HAT2.out
                  rw [behindP_zero] at this
                  exact this.symm
                have hd : decide ((0 : Int) < ((0 : Nat) : Int)) = false := by simp
                clear HAT2
                go_wp2_with fail
                (refine wp_region_quiet_grown (by kernel_rfl) (by kernel_rfl) ?_; (repeat (go_big_quiet_step (fail))); refine wpQuiet_nil ?_; intro _ hw'; obtain ⟨⟨nq, osq⟩, hw''⟩ := hw'; subst hw'')
                go_wp2
                have hg8 := ((Grn.refl wr).grow nq osq).below
                go_roundg (l.length - (0 + 1))
                case measure => omega
                case rel => exact ⟨0 + 1, by omega, rfl, by go_num, Lib.hid (row_on HNV.out hg8), below_then HBR.out hg8 (by omega), (by have := hg8.size; omega), hnx⟩
              · obtain ⟨i, rfl⟩ : ∃ i, k = i + 1 := ⟨k - 1, by omega⟩
                obtain ⟨x', y', ⟨q0, q1, q2, q3, q4⟩, hqc⟩ := HV5.out i (by omega)
                have hbe := behindP_succ aheadL l i (by omega) ⟨pn, pl, pc, pa, pb⟩
                obtain ⟨q, hq⟩ : ∃ q, l[i] = q := ⟨_, rfl⟩
                rw [hq] at q0 q1 q2 hqc hbe
                obtain ⟨ap, hap⟩ : ∃ ap, aheadL q ⟨pn, pl, pc, pa, pb⟩ = ap := ⟨_, rfl⟩
                rw [hap] at hbe
                have HAT3 : Hid (t = (ap && tabsK aheadL next (l.take (i + 1 + 1)) (l.drop (i + 1 + 1)))) := by
                  have := HAT2.out
                  rw [hbe] at this
                  exact this
                have HAP := Lib.hid hap
                have s2 := hqc.shape
                have HQC := Lib.hid hqc
                clear HAT2 hbe hq hap hqc hk0
                obtain ⟨qn, ql, qc, qa, qb⟩ := q
                simp only at *
                obtain ⟨⟨c1, c2, rfl⟩, d1, d2, rfl⟩ := s2
                have hvb : vb < wr.heap.size := Nat.lt_of_lt_of_le (World.block_lt_of_cell? wo _ q0) (Nat.le_trans HY.out.size hzr)
                have e0 := HCG.out _ _ (cell_later HG.out.below (cell_later HY.out q0)) hvb
                have e1 := HCG.out _ _ (cell_later HG.out.below (cell_later HY.out q1)) hvb
                have e2 := HCG.out _ _ (cell_later HG.out.below (cell_later HY.out q2)) hvb
                have e3 := HCG.out _ _ (cell_later HG.out.below (cell_later HY.out q3)) hvb
                have e4 := HCG.out _ _ (cell_later HG.out.below (cell_later HY.out q4)) hvb
                have hqg : ∀ n os, PlC (Sort.grow (wr.drewN n) os) (.slice c1 qa.length c2) (.slice d1 qb.length d2) ⟨qn, ql, qc, qa, qb⟩ := fun n os => ((HQC.out.below HY.out).below HG.out.below).below ((Grn.refl wr).grow n os).below
                have HQG := Lib.hid hqg
                clear q0 q1 q2 q3 q4 hqg
                have hd : decide ((0 : Int) < ((i + 1 : Nat) : Int)) = true := decide_eq_true (by omega)
                have n0 : (0 : Int) < (i : Int) + 1 := by omega
                have n1 : IntKind.i64.wrap ((i : Int) + 1 - 1) = (i : Int) := by rw [show (i : Int) + 1 - 1 = i by omega, IntKind.wrap_i64]; omega
                have n5 : IntKind.i64.wrap (i : Int) = (i : Int) := by rw [IntKind.wrap_i64]; omega
                have n2 : (i : Int) < (l.length : Int) := by omega
                have n3 : (0 : Int) ≤ (i : Int) := by omega
                cases ap with
                | false =>
                  obtain rfl : t = false := by rw [HAT3.out]; rfl
                  clear HAT3
                  go_wp2_with fail
                  (refine wp_region_quiet_grown (by kernel_rfl) (by kernel_rfl) ?_; (repeat (go_big_quiet_step (first | (go_at_call 43; refine grn_calls (v := Value.bool false) ?_; refine ahead_any _ _ _ _ ⟨qn, ql, qc, qa, qb⟩ ⟨pn, pl, pc, pa, pb⟩ false HAP.out _ (HQG.out _ _) (HPG.out _ _) _ ?_; intro w' hw'; exact ⟨rfl, hw'⟩)))); refine wpQuiet_nil ?_; intro _ hw'; obtain ⟨⟨nq, osq⟩, hw''⟩ := hw'; subst hw'')
                  go_wp2
                  all_goals exact HR.out _ (below_then HBR.out ((Grn.refl wr).grow nq osq).below (by omega))
                | true =>
                  have hnx : Hid (tabsK aheadL next (l.take (i + 1 + 1)) (l.drop (i + 1 + 1)) = t) := Lib.hid HAT3.out.symm
                  clear HAT3
                  go_wp2_with fail
                  (refine wp_region_quiet_grown (by kernel_rfl) (by kernel_rfl) ?_; (repeat (go_big_quiet_step (first | (go_at_call 43; refine grn_calls (v := Value.bool true) ?_; refine ahead_any _ _ _ _ ⟨qn, ql, qc, qa, qb⟩ ⟨pn, pl, pc, pa, pb⟩ true HAP.out _ (HQG.out _ _) (HPG.out _ _) _ ?_; intro w' hw'; exact ⟨rfl, hw'⟩)))); refine wpQuiet_nil ?_; intro _ hw'; obtain ⟨⟨nq, osq⟩, hw''⟩ := hw'; subst hw'')
                  go_wp2
                  have hg8 := ((Grn.refl wr).grow nq osq).below
                  go_roundg (l.length - ((i + 1) + 1))
                  case measure => omega
                  case rel => exact ⟨(i + 1) + 1, by omega, rfl, by go_num, Lib.hid (row_on HNV.out hg8), below_then HBR.out hg8 (by omega), (by have := hg8.size; omega), hnx⟩
        | false =>
        cases eb with
        | true =>
          have HAT2 : Hid (t = (!tw && (behindP aheadL (l.take k) ⟨pn, pl, pc, pa, pb⟩ && tabsK aheadL next (l.take (k + 1)) (l.drop (k + 1))))) := by
            have := HAT.out
            rw [Bool.false_or, Bool.true_and] at this
            exact this
          clear HAT h7 h8
          go_wp2_with (first | (go_at_call_of 42 (Value.int .i64 pl); go_must (refine in_any pl 0 3 _ HBL.out _ _ ?_)) | (go_at_call_of 42 (Value.int .i64 pc); go_must (refine in_any pc 1 65536 _ HBC.out _ _ ?_)))
          obtain ⟨wo, rfl⟩ : ∃ x, x = wr := ⟨_, rfl⟩
          have NV := Lib.hid (row_on HN.out HY.out)
          have NP : Hid ((wo.alloc (Obj.cells #[.int .i64 pn, .int .i64 pl, .int .i64 pc, .slice a1 pa.length a2, .slice b1 pb.length b2] 41)).heap[wo.heap.size]? = some (Obj.cells #[.int .i64 pn, .int .i64 pl, .int .i64 pc, .slice a1 pa.length a2, .slice b1 pb.length b2] 41)) := Lib.hid (heap_alloc_new wo _)
          have hzP : wo.heap.size + 1 ≤ (wo.alloc (Obj.cells #[.int .i64 pn, .int .i64 pl, .int .i64 pc, .slice a1 pa.length a2, .slice b1 pb.length b2] 41)).heap.size := by simp
          clear kk1 kk2 p0 p1 p2 p3 p4 va1 va3
          generalize wo.alloc (Obj.cells #[.int .i64 pn, .int .i64 pl, .int .i64 pc, .slice a1 pa.length a2, .slice b1 pb.length b2] 41) = w2 at HY HBE NV NP hzP ⊢
          have HTW0 : Hid (((l.take k).drop 0).any (fun q => decide (q.num = pn)) = tw) := by rw [List.drop_zero]; exact HTW
          clear HTW
          go_loopg [5] k (fun gn i wr => ∃ j : Nat, j ≤ k ∧ gn = k - j ∧ i = .int .i64 j ∧ Grn w2 wr ∧ Hid (((l.take k).drop j).any (fun q => decide (q.num = pn)) = tw))
          case atStart => exact ⟨0, Nat.zero_le _, by omega, rfl, Grn.refl _, HTW0⟩
          case round =>
            obtain ⟨j, hj, rfl, rfl, hgr, HTJ⟩ := hrel
            clear HTW0
            have HG := Lib.hid hgr
            have hzr := hgr.below.size
            clear hgr
            by_cases hjk : j < k
            · have hjz : (j : Int) < (k : Int) := by omega
              have hjl : (j : Int) < (l.length : Int) := by omega
              obtain ⟨x', y', ⟨q0, q1, q2, q3, q4⟩, hqc⟩ := HV5.out j (by omega)
              have htj := HTJ.out
              rw [List.drop_eq_getElem_cons (by rw [List.length_take]; omega), List.any_cons, List.getElem_take] at htj
              obtain ⟨q, hq⟩ : ∃ q, l[j] = q := ⟨_, rfl⟩
              rw [hq] at q0 htj
              obtain ⟨qn, ql, qc, qa, qb⟩ := q
              simp only at *
              have g0 : _ = some (Value.slice (some ⟨vb, vo, none⟩) l.length vc) := cell_later HG.out.below (cell_of_row _ w.heap.size 3 _ _ _ NV.out)
              have f0 : _ = some (Value.int .i64 pn) := cell_later HG.out.below (cell_of_row _ wo.heap.size 0 _ _ _ NP.out)
              have e0 := cell_later HG.out.below (cell_later HY.out q0)
              have HTJ2 := Lib.hid htj
              clear q0 q1 q2 q3 q4 hqc hq htj HTJ
              by_cases hqp : qn = pn
              · obtain rfl : tw = true := by rw [← HTJ2.out, decide_eq_true hqp, Bool.true_or]
                obtain rfl : t = false := by rw [HAT2.out]; rfl
                have hd : (qn == pn) = true := by simpa using hqp
                clear HAT2 HTJ2
                go_wp2_with fail
                go_quiet (fail)
                go_wp2
                all_goals exact HR.out _ (below_then HBE.out (HG.out.drewN _).below (by omega))
              · have hnx : Hid (((l.take k).drop (j + 1)).any (fun q => decide (q.num = pn)) = tw) := by
                  have := HTJ2.out
                  rw [decide_eq_false hqp, Bool.false_or] at this
                  exact this
                have hd : (qn == pn) = false := by simpa using hqp
                clear HTJ2 HAT2
                go_wp2_with fail
                go_quiet (fail)
                go_wp2
                go_roundg (k - (j + 1))
                case measure => omega
                case rel => exact ⟨j + 1, by omega, rfl, by go_num, HG.out.drewN _, hnx⟩
            · have hjz : ¬ (j : Int) < (k : Int) := by omega
              obtain rfl : tw = false := by
                rw [← HTJ.out, List.drop_of_length_le (by rw [List.length_take]; omega)]
                rfl
              clear HTJ
              have HBR := Lib.hid (below_then HBE.out HG.out.below (by omega))
              have hNVr := row_on NV.out HG.out.below
              have hNPr := row_on NP.out HG.out.below
              have hcg : ∀ (A : Addr) (u : Value), wr.cell? A = some u → A.block < wr.heap.size → ∀ n os, (Sort.grow (wr.drewN n) os).cell? A = some u := fun A u h hA n os => cell_grown hA h n os
              have g1 : ∀ n os, _ = some (Value.slice (some ⟨vb, vo, none⟩) l.length vc) := hcg _ _ (cell_of_row _ w.heap.size 3 _ _ _ hNVr) (by show w.heap.size < _; omega)
              have f0 : ∀ n os, _ = some (Value.int .i64 pn) := hcg _ _ (cell_of_row _ wo.heap.size 0 _ _ _ hNPr) (by show wo.heap.size < _; omega)
              have f1 : ∀ n os, _ = some (Value.int .i64 pl) := hcg _ _ (cell_of_row _ wo.heap.size 1 _ _ _ hNPr) (by show wo.heap.size < _; omega)
              have f2 : ∀ n os, _ = some (Value.int .i64 pc) := hcg _ _ (cell_of_row _ wo.heap.size 2 _ _ _ hNPr) (by show wo.heap.size < _; omega)
              have f3 : ∀ n os, _ = some (Value.slice a1 pa.length a2) := hcg _ _ (cell_of_row _ wo.heap.size 3 _ _ _ hNPr) (by show wo.heap.size < _; omega)
              have f4 : ∀ n os, _ = some (Value.slice b1 pb.length b2) := hcg _ _ (cell_of_row _ wo.heap.size 4 _ _ _ hNPr) (by show wo.heap.size < _; omega)
              have hpg : ∀ n os, PlC (Sort.grow (wr.drewN n) os) (.slice a1 pa.length a2) (.slice b1 pb.length b2) ⟨pn, pl, pc, pa, pb⟩ := fun n os => ((HPC.out.below HY.out).below HG.out.below).below ((Grn.refl wr).grow n os).below
              have HPG := Lib.hid hpg
              have HCG := Lib.hid hcg
              have HNV := Lib.hid hNVr
              clear hpg hcg hNVr hNPr
              by_cases hk0 : k = 0
              · subst hk0
                have hnx : Hid (tabsK aheadL next (l.take (0 + 1)) (l.drop (0 + 1)) = t) := by
                  have := HAT2.out
                  rw [behindP_zero] at this
                  exact this.symm
                have hd : decide ((0 : Int) < ((0 : Nat) : Int)) = false := by simp
                clear HAT2
                go_wp2_with fail
                (refine wp_region_quiet_grown (by kernel_rfl) (by kernel_rfl) ?_; (repeat (go_big_quiet_step (fail))); refine wpQuiet_nil ?_; intro _ hw'; obtain ⟨⟨nq, osq⟩, hw''⟩ := hw'; subst hw'')
                go_wp2
                have hg8 := ((Grn.refl wr).grow nq osq).below
                go_roundg (l.length - (0 + 1))
                case measure => omega
                case rel => exact ⟨0 + 1, by omega, rfl, by go_num, Lib.hid (row_on HNV.out hg8), below_then HBR.out hg8 (by omega), (by have := hg8.size; omega), hnx⟩
              · obtain ⟨i, rfl⟩ : ∃ i, k = i + 1 := ⟨k - 1, by omega⟩
                obtain ⟨x', y', ⟨q0, q1, q2, q3, q4⟩, hqc⟩ := HV5.out i (by omega)
                have hbe := behindP_succ aheadL l i (by omega) ⟨pn, pl, pc, pa, pb⟩
                obtain ⟨q, hq⟩ : ∃ q, l[i] = q := ⟨_, rfl⟩
                rw [hq] at q0 q1 q2 hqc hbe
                obtain ⟨ap, hap⟩ : ∃ ap, aheadL q ⟨pn, pl, pc, pa, pb⟩ = ap := ⟨_, rfl⟩
                rw [hap] at hbe
                have HAT3 : Hid (t = (ap && tabsK aheadL next (l.take (i + 1 + 1)) (l.drop (i + 1 + 1)))) := by
                  have := HAT2.out
                  rw [hbe] at this
                  exact this
                have HAP := Lib.hid hap
                have s2 := hqc.shape
                have HQC := Lib.hid hqc
                clear HAT2 hbe hq hap hqc hk0
                obtain ⟨qn, ql, qc, qa, qb⟩ := q
                simp only at *
                obtain ⟨⟨c1, c2, rfl⟩, d1, d2, rfl⟩ := s2
                have hvb : vb < wr.heap.size := Nat.lt_of_lt_of_le (World.block_lt_of_cell? wo _ q0) (Nat.le_trans HY.out.size hzr)
                have e0 := HCG.out _ _ (cell_later HG.out.below (cell_later HY.out q0)) hvb
                have e1 := HCG.out _ _ (cell_later HG.out.below (cell_later HY.out q1)) hvb
                have e2 := HCG.out _ _ (cell_later HG.out.below (cell_later HY.out q2)) hvb
                have e3 := HCG.out _ _ (cell_later HG.out.below (cell_later HY.out q3)) hvb
                have e4 := HCG.out _ _ (cell_later HG.out.below (cell_later HY.out q4)) hvb
                have hqg : ∀ n os, PlC (Sort.grow (wr.drewN n) os) (.slice c1 qa.length c2) (.slice d1 qb.length d2) ⟨qn, ql, qc, qa, qb⟩ := fun n os => ((HQC.out.below HY.out).below HG.out.below).below ((Grn.refl wr).grow n os).below
                have HQG := Lib.hid hqg
                clear q0 q1 q2 q3 q4 hqg
                have hd : decide ((0 : Int) < ((i + 1 : Nat) : Int)) = true := decide_eq_true (by omega)
                have n0 : (0 : Int) < (i : Int) + 1 := by omega
                have n1 : IntKind.i64.wrap ((i : Int) + 1 - 1) = (i : Int) := by rw [show (i : Int) + 1 - 1 = i by omega, IntKind.wrap_i64]; omega
                have n5 : IntKind.i64.wrap (i : Int) = (i : Int) := by rw [IntKind.wrap_i64]; omega
                have n2 : (i : Int) < (l.length : Int) := by omega
                have n3 : (0 : Int) ≤ (i : Int) := by omega
                cases ap with
                | false =>
                  obtain rfl : t = false := by rw [HAT3.out]; rfl
                  clear HAT3
                  go_wp2_with fail
                  (refine wp_region_quiet_grown (by kernel_rfl) (by kernel_rfl) ?_; (repeat (go_big_quiet_step (first | (go_at_call 43; refine grn_calls (v := Value.bool false) ?_; refine ahead_any _ _ _ _ ⟨qn, ql, qc, qa, qb⟩ ⟨pn, pl, pc, pa, pb⟩ false HAP.out _ (HQG.out _ _) (HPG.out _ _) _ ?_; intro w' hw'; exact ⟨rfl, hw'⟩)))); refine wpQuiet_nil ?_; intro _ hw'; obtain ⟨⟨nq, osq⟩, hw''⟩ := hw'; subst hw'')
                  go_wp2
                  all_goals exact HR.out _ (below_then HBR.out ((Grn.refl wr).grow nq osq).below (by omega))
                | true =>
                  have hnx : Hid (tabsK aheadL next (l.take (i + 1 + 1)) (l.drop (i + 1 + 1)) = t) := Lib.hid HAT3.out.symm
                  clear HAT3
                  go_wp2_with fail
                  (refine wp_region_quiet_grown (by kernel_rfl) (by kernel_rfl) ?_; (repeat (go_big_quiet_step (first | (go_at_call 43; refine grn_calls (v := Value.bool true) ?_; refine ahead_any _ _ _ _ ⟨qn, ql, qc, qa, qb⟩ ⟨pn, pl, pc, pa, pb⟩ true HAP.out _ (HQG.out _ _) (HPG.out _ _) _ ?_; intro w' hw'; exact ⟨rfl, hw'⟩)))); refine wpQuiet_nil ?_; intro _ hw'; obtain ⟨⟨nq, osq⟩, hw''⟩ := hw'; subst hw'')
                  go_wp2
                  have hg8 := ((Grn.refl wr).grow nq osq).below
                  go_roundg (l.length - ((i + 1) + 1))
                  case measure => omega
                  case rel => exact ⟨(i + 1) + 1, by omega, rfl, by go_num, Lib.hid (row_on HNV.out hg8), below_then HBR.out hg8 (by omega), (by have := hg8.size; omega), hnx⟩
        | false =>
          obtain rfl : t = false := by rw [HAT.out]; simp
          clear HAT
          go_wp2_with (first | (go_at_call_of 42 (Value.int .i64 pl); go_must (refine in_any pl 0 3 _ HBL.out _ _ ?_)) | (go_at_call_of 42 (Value.int .i64 pc); go_must (refine in_any pc 1 65536 _ HBC.out _ _ ?_)))
          all_goals exact HR.out _ HBE.out
      · have hkk : ¬ (k : Int) < (l.length : Int) := by omega
        obtain rfl : t = true := by rw [← HS.out, tabsK_end _ _ _ _ (by omega)]
        clear HS
        go_wp2
        exact HR.out _ hbw
end Go.Proofs.Ytpodgocmcnkfdaa
