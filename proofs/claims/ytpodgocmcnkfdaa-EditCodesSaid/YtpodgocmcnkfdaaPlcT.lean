/- Which table may be, which may stand behind which: walked, program and document. -/
import Derived.Test.YtpodgocmcnkfdaaPlc
namespace Go.Proofs.Ytpodgocmcnkfdaa
open Go.RowKit

set_option maxRecDepth 100000 in
set_option maxHeartbeats 1600000 in
theorem apart_any (a b c d : Value) (p q : Pl) (t : Bool) (ht : apartL p q = t) (w : World) (hp : PlC w a b p) (hq : PlC w c d q) (R : Ending → World → Prop)
    (hR : ∀ w', Grn w w' → R (.returned (.bool t)) w') :
    Calls Try.prog 41 #[.agg #[.int .i64 p.num, .int .i64 p.level, .int .i64 p.count, a, b], .agg #[.int .i64 q.num, .int .i64 q.level, .int .i64 q.count, c, d]] w R := by
  have HR := Lib.hid hR
  have hb0 : Below w.heap.size w ((w.alloc (plO a b p)).alloc (plO c d q)) := ((Below.refl w.heap.size w).alloc (Nat.le_refl _) _).alloc (by simp) _
  have hb1 : Below w.heap.size w ((((w.alloc (plO a b p)).alloc (plO c d q)).alloc (plO a b p)).alloc (plO c d q)) := (hb0.alloc (by simp; omega) _).alloc (by simp; omega) _
  have k1 := Lib.hid (hp.below hb0)
  have k2 := Lib.hid (hq.below hb0)
  have k3 := Lib.hid (hp.hy.below hb1)
  have k4 := Lib.hid (hq.hx.below hb1)
  have s1 := hp.shape
  have s2 := hq.shape
  have HB := Lib.hid ((((Grn.refl w).alloc (plO a b p)).alloc (plO c d q)).alloc (plO a b p) |>.alloc (plO c d q))
  obtain ⟨z, hz⟩ : ∃ z, ordL p q = z := ⟨_, rfl⟩
  have HZ := Lib.hid hz
  unfold apartL at ht
  rw [hz] at ht
  clear hp hq hR hb0 hb1 hz
  obtain ⟨pn, pl, pc, pa, pb⟩ := p
  obtain ⟨qn, ql, qc, qa, qb⟩ := q
  unfold plO at k1 k2 k3 k4 HB
  simp only at *
  obtain ⟨⟨a1, a2, rfl⟩, b1, b2, rfl⟩ := s1
  obtain ⟨⟨c1, c2, rfl⟩, d1, d2, rfl⟩ := s2
  by_cases h1 : z < 0
  · by_cases h2 : pl = ql
    · subst h2
      by_cases h3 : pl = 0
      · subst h3
        obtain rfl : t = true := by rw [← ht]; simp [h1]
        clear ht
        go_enter Try.func41, Try.ntmps41
        go_wp2_with (go_at_call 36; go_must (refine order_pl _ _ _ _ ⟨pn, 0, pc, pa, pb⟩ ⟨qn, 0, qc, qa, qb⟩ z HZ.out _ k1.out k2.out _ ?_))
        all_goals exact HR.out _ HB.out
      · obtain ⟨y, hy⟩ : ∃ y, Lib.compareBytes pb qa = y := ⟨_, rfl⟩
        rw [hy] at ht
        have HY := Lib.hid hy
        have h4 : decide (y < 0) = t := by rw [← ht]; simp [h1, h3]
        have hd : (pl == 0) = false := by simpa using h3
        clear ht hy
        by_cases h5 : y < 0
        · obtain rfl : t = true := by rw [← h4]; simp [h5]
          clear h4
          go_enter Try.func41, Try.ntmps41
          go_wp2_with (first
            | (go_at_call 36; go_must (refine order_pl _ _ _ _ ⟨pn, pl, pc, pa, pb⟩ ⟨qn, pl, qc, qa, qb⟩ z HZ.out _ k1.out k2.out _ ?_))
            | (go_at_call 45; go_must (refine compare_any _ _ pb qa y HY.out _ k3.out k4.out _ ?_)))
          all_goals exact HR.out _ HB.out
        · obtain rfl : t = false := by rw [← h4]; simp [h5]
          have h6 : decide (y < 0) = false := by simpa using h5
          clear h4
          go_enter Try.func41, Try.ntmps41
          go_wp2_with (first
            | (go_at_call 36; go_must (refine order_pl _ _ _ _ ⟨pn, pl, pc, pa, pb⟩ ⟨qn, pl, qc, qa, qb⟩ z HZ.out _ k1.out k2.out _ ?_))
            | (go_at_call 45; go_must (refine compare_any _ _ pb qa y HY.out _ k3.out k4.out _ ?_)))
          all_goals exact HR.out _ HB.out
    · obtain rfl : t = true := by rw [← ht]; simp [h1, h2]
      have hd : (pl == ql) = false := by simpa using h2
      have hd2 : (pl != ql) = true := by simpa using h2
      clear ht
      go_enter Try.func41, Try.ntmps41
      go_wp2_with (go_at_call 36; go_must (refine order_pl _ _ _ _ ⟨pn, pl, pc, pa, pb⟩ ⟨qn, ql, qc, qa, qb⟩ z HZ.out _ k1.out k2.out _ ?_))
      all_goals exact HR.out _ HB.out
  · obtain rfl : t = false := by rw [← ht]; simp [h1]
    clear ht
    go_enter Try.func41, Try.ntmps41
    go_wp2_with (go_at_call 36; go_must (refine order_pl _ _ _ _ ⟨pn, pl, pc, pa, pb⟩ ⟨qn, ql, qc, qa, qb⟩ z HZ.out _ k1.out k2.out _ ?_))
    all_goals exact HR.out _ HB.out

set_option maxRecDepth 100000 in
set_option maxHeartbeats 3200000 in
theorem table_any (a b : Value) (p : Pl) (next : Int) (t : Bool) (ht : tableL p next = t) (w : World) (hp : PlC w a b p) (R : Ending → World → Prop)
    (hR : ∀ w', Grn w w' → R (.returned (.bool t)) w') :
    Calls Try.prog 40 #[.agg #[.int .i64 p.num, .int .i64 p.level, .int .i64 p.count, a, b], .int .i64 next] w R := by
  have HR := Lib.hid hR
  have hb0 : Below w.heap.size w (w.alloc (plO a b p)) := (Below.refl w.heap.size w).alloc (Nat.le_refl _) _
  have k1 := Lib.hid (hp.hx.below hb0)
  have k2 := Lib.hid (hp.hy.below hb0)
  have s1 := hp.shape
  have HB := Lib.hid ((Grn.refl w).alloc (plO a b p))
  unfold tableL at ht
  clear hp hR hb0
  obtain ⟨pn, pl, pc, pa, pb⟩ := p
  unfold plO at k1 k2 HB
  simp only at *
  obtain ⟨⟨a1, a2, rfl⟩, b1, b2, rfl⟩ := s1
  obtain ⟨y, hy⟩ : ∃ y, Lib.compareBytes pa pb = y := ⟨_, rfl⟩
  rw [hy] at ht
  have HY := Lib.hid hy
  clear hy
  have go : ∀ t', Hid ((decide (1 ≤ pn) && (decide (pn < next) && (decide (0 ≤ pl) && (decide (pl ≤ 3) && (decide (1 ≤ pc) && (decide (pc ≤ 65536) && (decide (pa.length ≤ 128) && (decide (pb.length ≤ 128) && decide (y ≤ 0))))))))) = t') → Hid (t' = t) := fun t' h => by rw [← h.out]; exact ht
  clear ht
  have GO := Lib.hid go
  clear go
  by_cases h1 : 1 ≤ pn
  rotate_left
  · obtain rfl : false = t := GO.out false (by simp [h1, Lib.hid])
    clear GO
    go_enter Try.func40, Try.ntmps40
    go_wp2_with (go_at_call 45; go_must (refine compare_any _ _ pa pb y HY.out _ k1.out k2.out _ ?_))
    all_goals exact HR.out _ HB.out
  by_cases h2 : pn < next
  rotate_left
  · obtain rfl : false = t := GO.out false (by simp [h2, Lib.hid])
    clear GO
    go_enter Try.func40, Try.ntmps40
    go_wp2_with (go_at_call 45; go_must (refine compare_any _ _ pa pb y HY.out _ k1.out k2.out _ ?_))
    all_goals exact HR.out _ HB.out
  by_cases h3 : 0 ≤ pl
  rotate_left
  · obtain rfl : false = t := GO.out false (by simp [h3, Lib.hid])
    clear GO
    go_enter Try.func40, Try.ntmps40
    go_wp2_with (go_at_call 45; go_must (refine compare_any _ _ pa pb y HY.out _ k1.out k2.out _ ?_))
    all_goals exact HR.out _ HB.out
  by_cases h4 : pl ≤ 3
  rotate_left
  · obtain rfl : false = t := GO.out false (by simp [h4, Lib.hid])
    clear GO
    go_enter Try.func40, Try.ntmps40
    go_wp2_with (go_at_call 45; go_must (refine compare_any _ _ pa pb y HY.out _ k1.out k2.out _ ?_))
    all_goals exact HR.out _ HB.out
  by_cases h5 : 1 ≤ pc
  rotate_left
  · obtain rfl : false = t := GO.out false (by simp [h5, Lib.hid])
    clear GO
    go_enter Try.func40, Try.ntmps40
    go_wp2_with (go_at_call 45; go_must (refine compare_any _ _ pa pb y HY.out _ k1.out k2.out _ ?_))
    all_goals exact HR.out _ HB.out
  by_cases h6 : pc ≤ 65536
  rotate_left
  · obtain rfl : false = t := GO.out false (by simp [h6, Lib.hid])
    clear GO
    go_enter Try.func40, Try.ntmps40
    go_wp2_with (go_at_call 45; go_must (refine compare_any _ _ pa pb y HY.out _ k1.out k2.out _ ?_))
    all_goals exact HR.out _ HB.out
  by_cases h7 : pa.length ≤ 128
  rotate_left
  · obtain rfl : false = t := GO.out false (by simp [h7, Lib.hid])
    have h7' : ¬ (pa.length : Int) ≤ 128 := by omega
    clear GO
    go_enter Try.func40, Try.ntmps40
    go_wp2_with (go_at_call 45; go_must (refine compare_any _ _ pa pb y HY.out _ k1.out k2.out _ ?_))
    all_goals exact HR.out _ HB.out
  have h7' : (pa.length : Int) ≤ 128 := by omega
  by_cases h8 : pb.length ≤ 128
  rotate_left
  · obtain rfl : false = t := GO.out false (by simp [h8, Lib.hid])
    have h8' : ¬ (pb.length : Int) ≤ 128 := by omega
    clear GO
    go_enter Try.func40, Try.ntmps40
    go_wp2_with (go_at_call 45; go_must (refine compare_any _ _ pa pb y HY.out _ k1.out k2.out _ ?_))
    all_goals exact HR.out _ HB.out
  have h8' : (pb.length : Int) ≤ 128 := by omega
  by_cases h9 : y ≤ 0
  · obtain rfl : true = t := GO.out true (by simp [h1, h2, h3, h4, h5, h6, h7, h8, h9, Lib.hid])
    clear GO
    go_enter Try.func40, Try.ntmps40
    go_wp2_with (go_at_call 45; go_must (refine compare_any _ _ pa pb y HY.out _ k1.out k2.out _ ?_))
    all_goals exact HR.out _ HB.out
  · obtain rfl : false = t := GO.out false (by simp [h9, Lib.hid])
    have h9' : decide (y ≤ 0) = false := by simpa using h9
    clear GO
    go_enter Try.func40, Try.ntmps40
    go_wp2_with (go_at_call 45; go_must (refine compare_any _ _ pa pb y HY.out _ k1.out k2.out _ ?_))
    all_goals exact HR.out _ HB.out

set_option maxRecDepth 100000 in
set_option maxHeartbeats 1600000 in
theorem ahead_any (a b c d : Value) (p q : Pl) (t : Bool) (ht : aheadL p q = t) (w : World) (hp : PlC w a b p) (hq : PlC w c d q) (R : Ending → World → Prop)
    (hR : ∀ w', Grn w w' → R (.returned (.bool t)) w') :
    Calls Try.prog 43 #[.agg #[.int .i64 p.num, .int .i64 p.level, .int .i64 p.count, a, b], .agg #[.int .i64 q.num, .int .i64 q.level, .int .i64 q.count, c, d]] w R := by
  have HR := Lib.hid hR
  have hb0 : Below w.heap.size w ((w.alloc (plO a b p)).alloc (plO c d q)) := ((Below.refl w.heap.size w).alloc (Nat.le_refl _) _).alloc (by simp) _
  have k1 := run_conv_bs (P := Try.prog) Try.underlying39 Try.underlying5 Try.underlying9 (hp.hy.below hb0)
  have k2 := run_conv_bs (P := Try.prog) Try.underlying39 Try.underlying5 Try.underlying9 (hq.hx.below hb0)
  have s1 := hp.shape
  have s2 := hq.shape
  have HB := Lib.hid (((Grn.refl w).alloc (plO a b p)).alloc (plO c d q))
  unfold aheadL at ht
  clear hp hq hR hb0
  obtain ⟨pn, pl, pc, pa, pb⟩ := p
  obtain ⟨qn, ql, qc, qa, qb⟩ := q
  unfold plO at k1 k2 HB
  simp only at *
  obtain ⟨⟨a1, a2, rfl⟩, b1, b2, rfl⟩ := s1
  obtain ⟨⟨c1, c2, rfl⟩, d1, d2, rfl⟩ := s2
  by_cases h1 : pl = ql
  · subst h1
    rw [if_neg (by simp)] at ht
    by_cases h2 : pl = 0
    · subst h2
      rw [if_pos rfl] at ht
      clear k1 k2
      go_enter Try.func43, Try.ntmps43
      go_wp2
      all_goals exact HR.out _ HB.out
    · rw [if_neg h2] at ht
      rw [← bytesLess_eq] at ht
      have hd : (pl == 0) = false := by simpa using h2
      go_enter Try.func43, Try.ntmps43
      go_wp2
      all_goals exact HR.out _ HB.out
  · rw [if_pos h1] at ht
    have hd : (pl == ql) = false := by simpa using h1
    have hd2 : (pl != ql) = true := by simpa using h1
    clear k1 k2
    go_enter Try.func43, Try.ntmps43
    go_wp2
    all_goals exact HR.out _ HB.out

set_option maxRecDepth 100000 in
set_option maxHeartbeats 1600000 in
theorem sorts_any (a b c d : Value) (p q : Pl) (t : Bool) (ht : sortsL p q = t) (w : World) (hp : PlC w a b p) (hq : PlC w c d q) (R : Ending → World → Prop)
    (hR : ∀ w', Grn w w' → R (.returned (.bool t)) w') :
    Calls Try.prog 38 #[.agg #[.int .i64 p.num, .int .i64 p.level, .int .i64 p.count, a, b], .agg #[.int .i64 q.num, .int .i64 q.level, .int .i64 q.count, c, d]] w R := by
  have HR := Lib.hid hR
  have hb0 : Below w.heap.size w ((w.alloc (plO a b p)).alloc (plO c d q)) := ((Below.refl w.heap.size w).alloc (Nat.le_refl _) _).alloc (by simp) _
  have k1 := run_conv_bs (P := Try.prog) Try.underlying39 Try.underlying5 Try.underlying9 (hp.hx.below hb0)
  have k2 := run_conv_bs (P := Try.prog) Try.underlying39 Try.underlying5 Try.underlying9 (hq.hx.below hb0)
  have s1 := hp.shape
  have s2 := hq.shape
  have HB := Lib.hid (((Grn.refl w).alloc (plO a b p)).alloc (plO c d q))
  unfold sortsL at ht
  clear hp hq hR hb0
  obtain ⟨pn, pl, pc, pa, pb⟩ := p
  obtain ⟨qn, ql, qc, qa, qb⟩ := q
  unfold plO at k1 k2 HB
  simp only at *
  obtain ⟨⟨a1, a2, rfl⟩, b1, b2, rfl⟩ := s1
  obtain ⟨⟨c1, c2, rfl⟩, d1, d2, rfl⟩ := s2
  by_cases h1 : pl = ql
  · subst h1
    rw [if_neg (by simp)] at ht
    by_cases h2 : pl = 0
    · subst h2
      rw [if_pos rfl] at ht
      clear k1 k2
      go_enter Try.func38, Try.ntmps38
      go_wp2
      all_goals exact HR.out _ HB.out
    · rw [if_neg h2] at ht
      rw [← bytesLess_eq] at ht
      have hd : (pl == 0) = false := by simpa using h2
      go_enter Try.func38, Try.ntmps38
      go_wp2
      all_goals exact HR.out _ HB.out
  · rw [if_pos h1] at ht
    have hd : (pl == ql) = false := by simpa using h1
    have hd2 : (pl != ql) = true := by simpa using h1
    clear k1 k2
    go_enter Try.func38, Try.ntmps38
    go_wp2
    all_goals exact HR.out _ HB.out
end Go.Proofs.Ytpodgocmcnkfdaa
