/- The document's Alike and Same, walked. -/
import Derived.Test.YtgimbocoamnkjaaPr
import Derived.Deep.RegionHeld
namespace Go.Proofs.Ytgimbocoamnkjaa
open Go.RowKit

set_option maxRecDepth 100000 in
set_option maxHeartbeats 1600000 in
theorem ralike_any (d e : Value) (p q : Pr) (r : Bool) (hr : samePr p q = r) (w : World) (hp : PC w d p) (hq : PC w e q) (R : Ending → World → Prop)
    (hR : ∀ w', Below w.heap.size w w' → R (.returned (.bool r)) w') :
    Calls Try.prog 42 #[.agg #[.int .i64 p.id, .int .i64 p.num, .string (str p.text), .string (str p.pair), d], .agg #[.int .i64 q.id, .int .i64 q.num, .string (str q.text), .string (str q.pair), e]] w R := by
  obtain ⟨i, n, t, u, x⟩ := p
  obtain ⟨i', n', t', u', x'⟩ := q
  have hb0 := ((Below.refl w.heap.size w).alloc (Nat.le_refl _) (Obj.cells #[Value.int .i64 i, Value.int .i64 n, .string (str t), .string (str u), d] 84)).alloc (by simp) (Obj.cells #[Value.int .i64 i', Value.int .i64 n', .string (str t'), .string (str u'), e] 84)
  have k1 := run_conv_bs (P := Try.prog) Try.underlying26 Try.underlying5 Try.underlying9 (hp.hd.below hb0)
  have k2 := run_conv_bs (P := Try.prog) Try.underlying26 Try.underlying5 Try.underlying9 (hq.hd.below hb0)
  unfold samePr at hr
  simp only at *
  obtain ⟨r1, h1⟩ : ∃ x, (i == i') = x := ⟨_, rfl⟩
  obtain ⟨r2, h2⟩ : ∃ x, (n == n') = x := ⟨_, rfl⟩
  obtain ⟨r3, h3⟩ : ∃ x, (t == t') = x := ⟨_, rfl⟩
  obtain ⟨r4, h4⟩ : ∃ x, (u == u') = x := ⟨_, rfl⟩
  obtain ⟨r5, h5⟩ : ∃ y, (x == x') = y := ⟨_, rfl⟩
  rw [h1, h2, h3, h4, h5] at hr
  have HR := Lib.hid hr
  clear hp hq hr
  cases r1 with
  | false =>
    obtain rfl : r = false := HR.out.symm
    clear HR
    go_enter Try.func42, Try.ntmps42
    go_wp2
    all_goals first | exact hb0 | exact hR _ hb0
  | true =>
    cases r2 with
    | false =>
      obtain rfl : r = false := HR.out.symm
      clear HR
      go_enter Try.func42, Try.ntmps42
      go_wp2
      all_goals first | exact hb0 | exact hR _ hb0
    | true =>
      cases r3 with
      | false =>
        obtain rfl : r = false := HR.out.symm
        clear HR
        go_enter Try.func42, Try.ntmps42
        go_wp2
        all_goals first | exact hb0 | exact hR _ hb0
      | true =>
        cases r4 with
        | false =>
          obtain rfl : r = false := HR.out.symm
          clear HR
          go_enter Try.func42, Try.ntmps42
          go_wp2
          all_goals first | exact hb0 | exact hR _ hb0
        | true =>
          obtain rfl : r = r5 := by have := HR.out; simpa using this.symm
          clear HR
          go_enter Try.func42, Try.ntmps42
          go_wp2
          all_goals first | exact hb0 | exact hR _ hb0


theorem p5_later {w w' : World} {b o : Nat} {d : Value} {y : Pr} (hb : Below w.heap.size w w') (h : (w.cell? ⟨b, o, none⟩ = some (Value.int .i64 y.id) ∧ w.cell? ⟨b, o + 1, none⟩ = some (Value.int .i64 y.num) ∧ w.cell? ⟨b, o + 2, none⟩ = some (Value.string (str y.text)) ∧ w.cell? ⟨b, o + 3, none⟩ = some (Value.string (str y.pair)) ∧ w.cell? ⟨b, o + 4, none⟩ = some d)) : (w'.cell? ⟨b, o, none⟩ = some (Value.int .i64 y.id) ∧ w'.cell? ⟨b, o + 1, none⟩ = some (Value.int .i64 y.num) ∧ w'.cell? ⟨b, o + 2, none⟩ = some (Value.string (str y.text)) ∧ w'.cell? ⟨b, o + 3, none⟩ = some (Value.string (str y.pair)) ∧ w'.cell? ⟨b, o + 4, none⟩ = some d) := ⟨cell_later hb h.1, cell_later hb h.2.1, cell_later hb h.2.2.1, cell_later hb h.2.2.2.1, cell_later hb h.2.2.2.2⟩

set_option maxRecDepth 100000 in
set_option maxHeartbeats 1000000 in
theorem rsame_any (v u : Value) (l m : List Pr) (r : Bool) (hr : sameR l m = r) (w : World) (hv : Ps w v l) (hu : Ps w u m) (R : Ending → World → Prop)
    (hR : ∀ w', Below w.heap.size w w' → R (.returned (.bool r)) w') :
    Calls Try.prog 37 #[v, u] w R := by
  have HR := Lib.hid hR
  have HV := Lib.hid hv
  have HU := Lib.hid hu
  have HRR := Lib.hid hr
  clear hR hr
  obtain ⟨va, vc, rfl, _⟩ := hv
  obtain ⟨ua, uc, rfl, _⟩ := hu
  by_cases hlen : l.length = m.length
  · have hln : (l.length : Int) = (m.length : Int) := by omega
    have HLEN := Lib.hid hlen
    have hne : ((l.length : Int) != (m.length : Int)) = false := by simp [hlen]
    clear hlen hln
    go_enter Try.func37, Try.ntmps37
    go_wp2
    go_loopg [5] l.length (fun gn i wr => ∃ k : Nat, k ≤ l.length ∧ gn = l.length - k ∧ i = .int .i64 k ∧ Below w.heap.size w wr ∧ Hid (l.take k = m.take k))
    case atStart => exact ⟨0, Nat.zero_le _, by omega, rfl, Below.refl _ _, Lib.hid rfl⟩
    case round =>
      obtain ⟨k, hk, rfl, rfl, hb, HS⟩ := hrel
      obtain ⟨wo, rfl⟩ : ∃ x, x = wr := ⟨_, rfl⟩
      by_cases hlt : k < l.length
      · have hkk : (k : Int) < (l.length : Int) := by omega
        have hlt2 : k < m.length := by have := HLEN.out; omega
        have hkk2 : (k : Int) < (m.length : Int) := by omega
        obtain ⟨va', vc', ee, _, _, _, v4⟩ := HV.out.below hb
        simp only [Value.slice.injEq] at ee
        obtain ⟨rfl, -, rfl⟩ := ee
        obtain ⟨vb, vo, rfl, v5⟩ := v4 (by omega)
        obtain ⟨d0, ⟨p0, p1, p2, p3, p4⟩, hec⟩ := v5 k hlt
        obtain ⟨ua', uc', ee, _, _, _, u4⟩ := HU.out.below hb
        simp only [Value.slice.injEq] at ee
        obtain ⟨rfl, -, rfl⟩ := ee
        obtain ⟨ub, uo, rfl, u5⟩ := u4 (by omega)
        obtain ⟨e0, ⟨q0, q1, q2, q3, q4⟩, hed⟩ := u5 k hlt2
        have HT1 : Hid (l.take (k + 1) = l.take k ++ [l[k]]) := Lib.hid (List.take_succ_eq_append_getElem hlt)
        have HT2 : Hid (m.take (k + 1) = m.take k ++ [m[k]]) := Lib.hid (List.take_succ_eq_append_getElem hlt2)
        have HG1 : Hid (l[k]? = some l[k]) := Lib.hid (List.getElem?_eq_getElem hlt)
        have HG2 : Hid (m[k]? = some m[k]) := Lib.hid (List.getElem?_eq_getElem hlt2)
        obtain ⟨y, hy⟩ : ∃ y, l[k] = y := ⟨_, rfl⟩
        obtain ⟨y', hy'⟩ : ∃ y, m[k] = y := ⟨_, rfl⟩
        rw [hy] at p0 p1 p2 p3 hec HT1 HG1
        rw [hy'] at q0 q1 q2 q3 hed HT2 HG2
        obtain ⟨d1, d2, d3, rfl⟩ : ∃ a n c, d0 = .slice a n c := by obtain ⟨a, c, h, _⟩ := hec.hd; exact ⟨_, _, _, h⟩
        obtain ⟨e1, e2, e3, rfl⟩ : ∃ a n c, e0 = .slice a n c := by obtain ⟨a, c, h, _⟩ := hed.hd; exact ⟨_, _, _, h⟩
        obtain ⟨g, hg⟩ : ∃ g, samePr y y' = g := ⟨_, rfl⟩
        have HGG := Lib.hid hg
        clear v4 v5 u4 u5 hy hy' hg
        go_wp2
        have hbd : Below w.heap.size w wo.drew := hb.drew
        have HEC : Hid (PC wo.drew (.slice d1 d2 d3) y) := Lib.hid (hec.below (Below.refl _ _).drew)
        have HED : Hid (PC wo.drew (.slice e1 e2 e3) y') := Lib.hid (hed.below (Below.refl _ _).drew)
        have c0 : (wo.drew.cell? ⟨vb, vo + k * 5, none⟩ = some (Value.int .i64 y.id) ∧ wo.drew.cell? ⟨vb, vo + k * 5 + 1, none⟩ = some (Value.int .i64 y.num) ∧ wo.drew.cell? ⟨vb, vo + k * 5 + 2, none⟩ = some (Value.string (str y.text)) ∧ wo.drew.cell? ⟨vb, vo + k * 5 + 3, none⟩ = some (Value.string (str y.pair)) ∧ wo.drew.cell? ⟨vb, vo + k * 5 + 4, none⟩ = some (Value.slice d1 d2 d3)) := ⟨p0, p1, p2, p3, p4⟩
        have c1 : (wo.drew.cell? ⟨ub, uo + k * 5, none⟩ = some (Value.int .i64 y'.id) ∧ wo.drew.cell? ⟨ub, uo + k * 5 + 1, none⟩ = some (Value.int .i64 y'.num) ∧ wo.drew.cell? ⟨ub, uo + k * 5 + 2, none⟩ = some (Value.string (str y'.text)) ∧ wo.drew.cell? ⟨ub, uo + k * 5 + 3, none⟩ = some (Value.string (str y'.pair)) ∧ wo.drew.cell? ⟨ub, uo + k * 5 + 4, none⟩ = some (Value.slice e1 e2 e3)) := ⟨q0, q1, q2, q3, q4⟩
        clear p0 p1 p2 p3 p4 q0 q1 q2 q3 q4 hec hed
        go_region_held (fun w' => (w'.cell? ⟨vb, vo + k * 5, none⟩ = some (Value.int .i64 y.id) ∧ w'.cell? ⟨vb, vo + k * 5 + 1, none⟩ = some (Value.int .i64 y.num) ∧ w'.cell? ⟨vb, vo + k * 5 + 2, none⟩ = some (Value.string (str y.text)) ∧ w'.cell? ⟨vb, vo + k * 5 + 3, none⟩ = some (Value.string (str y.pair)) ∧ w'.cell? ⟨vb, vo + k * 5 + 4, none⟩ = some (Value.slice d1 d2 d3)) ∧ (w'.cell? ⟨ub, uo + k * 5, none⟩ = some (Value.int .i64 y'.id) ∧ w'.cell? ⟨ub, uo + k * 5 + 1, none⟩ = some (Value.int .i64 y'.num) ∧ w'.cell? ⟨ub, uo + k * 5 + 2, none⟩ = some (Value.string (str y'.text)) ∧ w'.cell? ⟨ub, uo + k * 5 + 3, none⟩ = some (Value.string (str y'.pair)) ∧ w'.cell? ⟨ub, uo + k * 5 + 4, none⟩ = some (Value.slice e1 e2 e3)))
          (first | exact ⟨c0, c1⟩ | exact ⟨f0, f1⟩ | go_keep)
          (first | (go_at_call 42; refine ralike_any _ _ y y' g HGG.out _ HEC.out HED.out _ ?_; intro w5 hb5; have f0 := p5_later hb5 c0; have f1 := p5_later hb5 c1; have hx5 := below_then hbd hb5 hbd.size; clear c0 c1))
        cases g with
        | true =>
          have hyy : y = y' := (samePr_iff y y').1 HGG.out
          have HN : Hid (l.take (k + 1) = m.take (k + 1)) := by
            refine Lib.hid ?_
            rw [HT1.out, HT2.out, HS.out, hyy]
          clear hyy
          go_wp2
          go_roundg (l.length - (k + 1))
          case measure => omega
          case rel => exact ⟨k + 1, by omega, rfl, by go_num, hx5, HN⟩
        | false =>
          have hne' : y ≠ y' := fun h => by have := (samePr_iff y y').2 h; rw [HGG.out] at this; cases this
          obtain rfl : r = false := by
            rw [← HRR.out]
            refine decide_eq_false fun h => hne' ?_
            have h1 := HG1.out
            rw [h, HG2.out] at h1
            exact (Option.some.inj h1).symm
          clear hne'
          go_wp2
          exact HR.out _ hx5
      · have hkk : ¬ (k : Int) < (l.length : Int) := by omega
        obtain rfl : r = true := by
          rw [← HRR.out]
          refine decide_eq_true ?_
          have := HS.out
          rwa [List.take_of_length_le (by omega), List.take_of_length_le (by have := HLEN.out; omega)] at this
        go_wp2
        exact HR.out _ hb
  · have hne : ((l.length : Int) != (m.length : Int)) = true := by simp; omega
    obtain rfl : r = false := by
      rw [← HRR.out]
      exact decide_eq_false fun h => hlen (by rw [h])
    have hln : ¬ (l.length : Int) = (m.length : Int) := by omega
    clear hlen
    go_enter Try.func37, Try.ntmps37
    go_wp2
    exact HR.out _ (Below.refl _ _)

end Go.Proofs.Ytgimbocoamnkjaa
