/- The same table, the same tables, the same version? The document's, walked. -/
import Derived.Test.YtpodgocmcnkfdaaAppP
import Derived.Test.YtpodgocmcnkfdaaPlcT
namespace Go.Proofs.Ytpodgocmcnkfdaa
open Go.RowKit

def sameP (p q : Pl) : Bool := p.num == q.num && (p.level == q.level && (p.count == q.count && (p.least == q.least && p.most == q.most)))
theorem sameP_iff (p q : Pl) : sameP p q = true ↔ p = q := by
  obtain ⟨a, b, c, d, e⟩ := p
  obtain ⟨a', b', c', d', e'⟩ := q
  unfold sameP
  simp
instance : DecidableEq Pl := fun p q => decidable_of_iff _ (sameP_iff p q)
instance : DecidableEq Vn := fun v u => decidable_of_iff (v.log = u.log ∧ v.next = u.next ∧ v.seq = u.seq ∧ v.tabs = u.tabs) (by cases v; cases u; simp)
def samePs (l m : List Pl) : Bool := decide (l = m)
def sameV (v u : Vn) : Bool := decide (v = u)

set_option maxRecDepth 100000 in
set_option maxHeartbeats 1600000 in
theorem rplace_any (a b c d : Value) (p q : Pl) (r : Bool) (hr : sameP p q = r) (w : World) (hp : PlC w a b p) (hq : PlC w c d q) (R : Ending → World → Prop)
    (hR : ∀ w', Below w.heap.size w w' → R (.returned (.bool r)) w') :
    Calls Try.prog 44 #[.agg #[.int .i64 p.num, .int .i64 p.level, .int .i64 p.count, a, b], .agg #[.int .i64 q.num, .int .i64 q.level, .int .i64 q.count, c, d]] w R := by
  have s1 := hp.shape
  have s2 := hq.shape
  obtain ⟨i, n, t, u, x⟩ := p
  obtain ⟨i', n', t', u', x'⟩ := q
  simp only at s1 s2
  obtain ⟨⟨p1, p2, rfl⟩, p3, p4, rfl⟩ := s1
  obtain ⟨⟨q1, q2, rfl⟩, q3, q4, rfl⟩ := s2
  have hb0 := ((Below.refl w.heap.size w).alloc (Nat.le_refl _) (Obj.cells #[Value.int .i64 i, .int .i64 n, .int .i64 t, .slice p1 u.length p2, .slice p3 x.length p4] 41)).alloc (by simp) (Obj.cells #[Value.int .i64 i', .int .i64 n', .int .i64 t', .slice q1 u'.length q2, .slice q3 x'.length q4] 41)
  have k1 := run_conv_bs (P := Try.prog) Try.underlying39 Try.underlying5 Try.underlying9 (hp.hx.below hb0)
  have k2 := run_conv_bs (P := Try.prog) Try.underlying39 Try.underlying5 Try.underlying9 (hq.hx.below hb0)
  have k3 := run_conv_bs (P := Try.prog) Try.underlying39 Try.underlying5 Try.underlying9 (hp.hy.below hb0)
  have k4 := run_conv_bs (P := Try.prog) Try.underlying39 Try.underlying5 Try.underlying9 (hq.hy.below hb0)
  unfold sameP at hr
  simp only at *
  obtain ⟨r1, h1⟩ : ∃ x, (i == i') = x := ⟨_, rfl⟩
  obtain ⟨r2, h2⟩ : ∃ x, (n == n') = x := ⟨_, rfl⟩
  obtain ⟨r3, h3⟩ : ∃ x, (t == t') = x := ⟨_, rfl⟩
  obtain ⟨r4, h4⟩ : ∃ x, (u == u') = x := ⟨_, rfl⟩
  obtain ⟨r5, h5⟩ : ∃ y, (x == x') = y := ⟨_, rfl⟩
  rw [h1, h2, h3, h4, h5] at hr
  have HR := Lib.hid hr
  clear hp hq hr
  cases r1 with
  | false =>
    obtain rfl : r = false := HR.out.symm
    clear HR
    go_enter Try.func44, Try.ntmps44
    go_wp2
    all_goals first | exact hb0 | exact hR _ hb0
  | true =>
  cases r2 with
  | false =>
    obtain rfl : r = false := HR.out.symm
    clear HR
    go_enter Try.func44, Try.ntmps44
    go_wp2
    all_goals first | exact hb0 | exact hR _ hb0
  | true =>
  cases r3 with
  | false =>
    obtain rfl : r = false := HR.out.symm
    clear HR
    go_enter Try.func44, Try.ntmps44
    go_wp2
    all_goals first | exact hb0 | exact hR _ hb0
  | true =>
  cases r4 with
  | false =>
    obtain rfl : r = false := HR.out.symm
    clear HR
    go_enter Try.func44, Try.ntmps44
    go_wp2
    all_goals first | exact hb0 | exact hR _ hb0
  | true =>
    obtain rfl : r = r5 := by have := HR.out; simpa using this.symm
    clear HR
    go_enter Try.func44, Try.ntmps44
    go_wp2
    all_goals first | exact hb0 | exact hR _ hb0

theorem pl5w_later {w w' : World} {b o : Nat} {x y : Value} {p : Pl} (hb : Below w.heap.size w w') (h : (w.cell? ⟨b, o, none⟩ = some (Value.int .i64 p.num) ∧ w.cell? ⟨b, o + 1, none⟩ = some (Value.int .i64 p.level) ∧ w.cell? ⟨b, o + 2, none⟩ = some (Value.int .i64 p.count) ∧ w.cell? ⟨b, o + 3, none⟩ = some x ∧ w.cell? ⟨b, o + 4, none⟩ = some y)) : (w'.cell? ⟨b, o, none⟩ = some (Value.int .i64 p.num) ∧ w'.cell? ⟨b, o + 1, none⟩ = some (Value.int .i64 p.level) ∧ w'.cell? ⟨b, o + 2, none⟩ = some (Value.int .i64 p.count) ∧ w'.cell? ⟨b, o + 3, none⟩ = some x ∧ w'.cell? ⟨b, o + 4, none⟩ = some y) :=
  ⟨cell_later hb h.1, cell_later hb h.2.1, cell_later hb h.2.2.1, cell_later hb h.2.2.2.1, cell_later hb h.2.2.2.2⟩

set_option maxRecDepth 100000 in
set_option maxHeartbeats 1600000 in
theorem rplaces_any (v u : Value) (l m : List Pl) (r : Bool) (hr : samePs l m = r) (w : World) (hv : Pls w v l) (hu : Pls w u m) (R : Ending → World → Prop)
    (hR : ∀ w', Below w.heap.size w w' → R (.returned (.bool r)) w') :
    Calls Try.prog 20 #[v, u] w R := by
  have HR := Lib.hid hR
  have HV := Lib.hid hv
  have HU := Lib.hid hu
  have HRR := Lib.hid hr
  clear hR hr
  obtain ⟨va, vc, rfl, _⟩ := hv
  obtain ⟨ua, uc, rfl, _⟩ := hu
  by_cases hlen : l.length = m.length
  · have hln : (l.length : Int) = (m.length : Int) := by omega
    have HLEN := Lib.hid hlen
    have hne : ((l.length : Int) != (m.length : Int)) = false := by simp [hlen]
    clear hlen hln
    go_enter Try.func20, Try.ntmps20
    go_wp2
    go_loopg [5] l.length (fun gn i wr => ∃ k : Nat, k ≤ l.length ∧ gn = l.length - k ∧ i = .int .i64 k ∧ Below w.heap.size w wr ∧ Hid (l.take k = m.take k))
    case atStart => exact ⟨0, Nat.zero_le _, by omega, rfl, Below.refl _ _, Lib.hid rfl⟩
    case round =>
      obtain ⟨k, hk, rfl, rfl, hb, HS⟩ := hrel
      obtain ⟨wo, rfl⟩ : ∃ x, x = wr := ⟨_, rfl⟩
      by_cases hlt : k < l.length
      · have hkk : (k : Int) < (l.length : Int) := by omega
        have hlt2 : k < m.length := by have := HLEN.out; omega
        have hkk2 : (k : Int) < (m.length : Int) := by omega
        obtain ⟨va', vc', ee, _, _, _, v4⟩ := HV.out.below hb
        simp only [Value.slice.injEq] at ee
        obtain ⟨rfl, -, rfl⟩ := ee
        obtain ⟨vb, vo, rfl, v5⟩ := v4 (by omega)
        obtain ⟨dx, dy, ⟨p0, p1, p2, p3, p4⟩, hec⟩ := v5 k hlt
        obtain ⟨ua', uc', ee, _, _, _, u4⟩ := HU.out.below hb
        simp only [Value.slice.injEq] at ee
        obtain ⟨rfl, -, rfl⟩ := ee
        obtain ⟨ub, uo, rfl, u5⟩ := u4 (by omega)
        obtain ⟨ex, ey, ⟨q0, q1, q2, q3, q4⟩, hed⟩ := u5 k hlt2
        have HT1 : Hid (l.take (k + 1) = l.take k ++ [l[k]]) := Lib.hid (List.take_succ_eq_append_getElem hlt)
        have HT2 : Hid (m.take (k + 1) = m.take k ++ [m[k]]) := Lib.hid (List.take_succ_eq_append_getElem hlt2)
        have HG1 : Hid (l[k]? = some l[k]) := Lib.hid (List.getElem?_eq_getElem hlt)
        have HG2 : Hid (m[k]? = some m[k]) := Lib.hid (List.getElem?_eq_getElem hlt2)
        obtain ⟨y, hy⟩ : ∃ y, l[k] = y := ⟨_, rfl⟩
        obtain ⟨y', hy'⟩ : ∃ y, m[k] = y := ⟨_, rfl⟩
        rw [hy] at p0 p1 p2 hec HT1 HG1
        rw [hy'] at q0 q1 q2 hed HT2 HG2
        have s1 := hec.shape
        have s2 := hed.shape
        obtain ⟨⟨p5, p6, rfl⟩, p7, p8, rfl⟩ := s1
        obtain ⟨⟨q5, q6, rfl⟩, q7, q8, rfl⟩ := s2
        obtain ⟨g, hg⟩ : ∃ g, sameP y y' = g := ⟨_, rfl⟩
        have HGG := Lib.hid hg
        clear v4 v5 u4 u5 hy hy' hg
        go_wp2
        have hbd : Below w.heap.size w wo.drew := hb.drew
        have HEC := Lib.hid (hec.below (Below.refl _ _).drew)
        have HED := Lib.hid (hed.below (Below.refl _ _).drew)
        have c0 : (wo.drew.cell? ⟨vb, vo + k * 5, none⟩ = some (Value.int .i64 y.num) ∧ wo.drew.cell? ⟨vb, vo + k * 5 + 1, none⟩ = some (Value.int .i64 y.level) ∧ wo.drew.cell? ⟨vb, vo + k * 5 + 2, none⟩ = some (Value.int .i64 y.count) ∧ wo.drew.cell? ⟨vb, vo + k * 5 + 3, none⟩ = some (.slice p5 y.least.length p6) ∧ wo.drew.cell? ⟨vb, vo + k * 5 + 4, none⟩ = some (.slice p7 y.most.length p8)) := ⟨p0, p1, p2, p3, p4⟩
        have c1 : (wo.drew.cell? ⟨ub, uo + k * 5, none⟩ = some (Value.int .i64 y'.num) ∧ wo.drew.cell? ⟨ub, uo + k * 5 + 1, none⟩ = some (Value.int .i64 y'.level) ∧ wo.drew.cell? ⟨ub, uo + k * 5 + 2, none⟩ = some (Value.int .i64 y'.count) ∧ wo.drew.cell? ⟨ub, uo + k * 5 + 3, none⟩ = some (.slice q5 y'.least.length q6) ∧ wo.drew.cell? ⟨ub, uo + k * 5 + 4, none⟩ = some (.slice q7 y'.most.length q8)) := ⟨q0, q1, q2, q3, q4⟩
        clear p0 p1 p2 p3 p4 q0 q1 q2 q3 q4 hec hed
        go_region_held (fun w' => (w'.cell? ⟨vb, vo + k * 5, none⟩ = some (Value.int .i64 y.num) ∧ w'.cell? ⟨vb, vo + k * 5 + 1, none⟩ = some (Value.int .i64 y.level) ∧ w'.cell? ⟨vb, vo + k * 5 + 2, none⟩ = some (Value.int .i64 y.count) ∧ w'.cell? ⟨vb, vo + k * 5 + 3, none⟩ = some (Value.slice p5 y.least.length p6) ∧ w'.cell? ⟨vb, vo + k * 5 + 4, none⟩ = some (Value.slice p7 y.most.length p8)) ∧ (w'.cell? ⟨ub, uo + k * 5, none⟩ = some (Value.int .i64 y'.num) ∧ w'.cell? ⟨ub, uo + k * 5 + 1, none⟩ = some (Value.int .i64 y'.level) ∧ w'.cell? ⟨ub, uo + k * 5 + 2, none⟩ = some (Value.int .i64 y'.count) ∧ w'.cell? ⟨ub, uo + k * 5 + 3, none⟩ = some (Value.slice q5 y'.least.length q6) ∧ w'.cell? ⟨ub, uo + k * 5 + 4, none⟩ = some (Value.slice q7 y'.most.length q8)))
          (first | exact ⟨c0, c1⟩ | exact ⟨f0, f1⟩ | go_keep)
          (first | (go_at_call 44; refine rplace_any _ _ _ _ y y' g HGG.out _ HEC.out HED.out _ ?_; intro w5 hb5; have f0 := pl5w_later hb5 c0; have f1 := pl5w_later hb5 c1; have hx5 := below_then hbd hb5 hbd.size; clear c0 c1))
        cases g with
        | true =>
          have hyy : y = y' := (sameP_iff y y').1 HGG.out
          have HN : Hid (l.take (k + 1) = m.take (k + 1)) := by
            refine Lib.hid ?_
            rw [HT1.out, HT2.out, HS.out, hyy]
          clear hyy
          go_wp2
          go_roundg (l.length - (k + 1))
          case measure => omega
          case rel => exact ⟨k + 1, by omega, rfl, by go_num, hx5, HN⟩
        | false =>
          have hne' : y ≠ y' := fun h => by have := (sameP_iff y y').2 h; rw [HGG.out] at this; cases this
          obtain rfl : r = false := by
            rw [← HRR.out]
            refine decide_eq_false fun h => hne' ?_
            have h1 := HG1.out
            rw [h, HG2.out] at h1
            exact (Option.some.inj h1).symm
          clear hne'
          go_wp2
          exact HR.out _ hx5
      · have hkk : ¬ (k : Int) < (l.length : Int) := by omega
        obtain rfl : r = true := by
          rw [← HRR.out]
          refine decide_eq_true ?_
          have := HS.out
          rwa [List.take_of_length_le (by omega), List.take_of_length_le (by have := HLEN.out; omega)] at this
        go_wp2
        exact HR.out _ hb
  · have hne : ((l.length : Int) != (m.length : Int)) = true := by simp; omega
    obtain rfl : r = false := by
      rw [← HRR.out]
      exact decide_eq_false fun h => hlen (by rw [h])
    have hln : ¬ (l.length : Int) = (m.length : Int) := by omega
    clear hlen
    go_enter Try.func20, Try.ntmps20
    go_wp2
    exact HR.out _ (Below.refl _ _)

set_option maxRecDepth 100000 in
set_option maxHeartbeats 1600000 in
theorem rsamev_any (tv tu : Value) (v u : Vn) (r : Bool) (hr : sameV v u = r) (w : World) (hv : Pls w tv v.tabs) (hu : Pls w tu u.tabs) (R : Ending → World → Prop)
    (hR : ∀ w', Below w.heap.size w w' → R (.returned (.bool r)) w') :
    Calls Try.prog 15 #[.agg #[.int .i64 v.log, .int .i64 v.next, .int .i64 v.seq, tv], .agg #[.int .i64 u.log, .int .i64 u.next, .int .i64 u.seq, tu]] w R := by
  have HR := Lib.hid hR
  have HRR := Lib.hid hr
  obtain ⟨a, b, c, l⟩ := v
  obtain ⟨a', b', c', m⟩ := u
  simp only at *
  have hv' := hv
  have hu' := hu
  obtain ⟨va, vc, rfl, _⟩ := hv'
  obtain ⟨ua, uc, rfl, _⟩ := hu'
  have hb0 := ((Below.refl w.heap.size w).alloc (Nat.le_refl _) (Obj.cells #[Value.int .i64 a, .int .i64 b, .int .i64 c, .slice va l.length vc] 24)).alloc (by simp) (Obj.cells #[Value.int .i64 a', .int .i64 b', .int .i64 c', .slice ua m.length uc] 24)
  have HB0 := Lib.hid hb0
  have h1 := Lib.hid (hv.below (hb0.trans (Below.refl _ _).drew))
  have h2 := Lib.hid (hu.below (hb0.trans (Below.refl _ _).drew))
  have h3 := Lib.hid (hv.below hb0)
  have h4 := Lib.hid (hu.below hb0)
  clear hR hr hv hu hb0
  by_cases e1 : a = a'
  rotate_left
  · obtain rfl : r = false := by rw [← HRR.out]; exact decide_eq_false fun h => e1 (by cases h; rfl)
    have hd : (a == a') = false := by simpa using e1
    clear e1
    go_enter Try.func15, Try.ntmps15
    go_wp2_with (go_at_call 20; go_must (refine rplaces_any _ _ l m false hs.out _ (by first | exact h1.out | exact h3.out) (by first | exact h2.out | exact h4.out) _ ?_); intro w5 hb5; have HB5 := Lib.hid (below_then HB0.out hb5 (by simp; omega)); clear hb5)
    all_goals first | exact HR.out _ HB0.out | exact HR.out _ HB0.out.drew | exact HR.out _ HB5.out
  subst e1
  by_cases e2 : b = b'
  rotate_left
  · obtain rfl : r = false := by rw [← HRR.out]; exact decide_eq_false fun h => e2 (by cases h; rfl)
    have hd : (b == b') = false := by simpa using e2
    clear e2
    go_enter Try.func15, Try.ntmps15
    go_wp2_with (go_at_call 20; go_must (refine rplaces_any _ _ l m false hs.out _ (by first | exact h1.out | exact h3.out) (by first | exact h2.out | exact h4.out) _ ?_); intro w5 hb5; have HB5 := Lib.hid (below_then HB0.out hb5 (by simp; omega)); clear hb5)
    all_goals first | exact HR.out _ HB0.out | exact HR.out _ HB0.out.drew | exact HR.out _ HB5.out
  subst e2
  by_cases e3 : c = c'
  rotate_left
  · obtain rfl : r = false := by rw [← HRR.out]; exact decide_eq_false fun h => e3 (by cases h; rfl)
    have hd : (c == c') = false := by simpa using e3
    clear e3
    go_enter Try.func15, Try.ntmps15
    go_wp2_with (go_at_call 20; go_must (refine rplaces_any _ _ l m false hs.out _ (by first | exact h1.out | exact h3.out) (by first | exact h2.out | exact h4.out) _ ?_); intro w5 hb5; have HB5 := Lib.hid (below_then HB0.out hb5 (by simp; omega)); clear hb5)
    all_goals first | exact HR.out _ HB0.out | exact HR.out _ HB0.out.drew | exact HR.out _ HB5.out
  subst e3
  have hs : Hid (samePs l m = r) := by
    show _ = _
    rw [← HRR.out]
    unfold samePs sameV
    by_cases h : l = m
    · subst h
      rw [decide_eq_true rfl, decide_eq_true rfl]
    · rw [decide_eq_false h, decide_eq_false (fun hc => h (by cases hc; rfl))]
  go_enter Try.func15, Try.ntmps15
  go_wp2_with (go_at_call 20; go_must (refine rplaces_any _ _ l m r hs.out _ (by first | exact h1.out | exact h3.out) (by first | exact h2.out | exact h4.out) _ ?_); intro w5 hb5; have HB5 := Lib.hid (below_then HB0.out hb5 (by simp; omega)); clear hb5)
  all_goals first | exact HR.out _ HB0.out | exact HR.out _ HB0.out.drew | exact HR.out _ HB5.out
end Go.Proofs.Ytpodgocmcnkfdaa
