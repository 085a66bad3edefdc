/- The same numbers? The same edit? Walked. -/
import Derived.Test.YtpodgocmcnkfdaaIs
import Derived.Test.YtpodgocmcnkfdaaVerS
import Derived.Test.YtpodgocmcnkfdaaEds
namespace Go.Proofs.Ytpodgocmcnkfdaa
open Go.RowKit

set_option maxRecDepth 100000 in
set_option maxHeartbeats 3200000 in
theorem ints8_any (v u : Value) (l m : List Int) (t : Bool) (ht : (l == m) = t) (w : World) (hv : Is w v l) (hu : Is w u m) (R : Ending → World → Prop)
    (hR : ∀ w', Below w.heap.size w w' → R (.returned (.bool t)) w') :
    Calls Try.prog 57 #[v, u] w R := by
  have HR := Lib.hid hR
  have hv' := hv
  have hu' := hu
  clear hR
  by_cases hlen : l.length = m.length
  · have hst : Hid ((l.drop 0 == m.drop 0) = t) := by rw [List.drop_zero, List.drop_zero]; exact ht
    obtain ⟨n, hn⟩ : ∃ n, l.length = n := ⟨_, rfl⟩
    obtain ⟨va, vc, e1, _, v2, v3, _⟩ := hv'
    obtain ⟨ua, uc, e2, _, u2, u3, _⟩ := hu'
    rw [hn] at e1 v2
    rw [← hlen, hn] at e2 u2
    subst e1
    subst e2
    have HV := Lib.hid hv
    have HU := Lib.hid hu
    have hn1 : l.length = n := hn
    have hn2 : m.length = n := by rw [← hlen]; exact hn
    have HN1 := Lib.hid hn1
    have HN2 := Lib.hid hn2
    clear ht hlen hn hv hu hn1 hn2
    go_enter Try.func57, Try.ntmps57
    go_wp2
    go_loopg [5] n (fun gn i wr => ∃ k : Nat, k ≤ n ∧ gn = n - k ∧ i = .int .i64 k ∧ Below w.heap.size w wr ∧ Hid ((l.drop k == m.drop k) = t))
    case atStart => exact ⟨0, Nat.zero_le _, by omega, rfl, Below.refl _ _, hst⟩
    case round =>
      obtain ⟨k, hk, rfl, rfl, hb, HS⟩ := hrel
      clear hst
      by_cases hlt : k < n
      · have hkk : (k : Int) < (n : Int) := by omega
        obtain ⟨b1, o1, rfl, c1⟩ := (HV.out.below hb).at k (by rw [HN1.out]; exact hlt)
        obtain ⟨b2, o2, rfl, c2⟩ := (HU.out.below hb).at k (by rw [HN2.out]; exact hlt)
        have hss := HS.out
        rw [List.drop_eq_getElem_cons (by rw [HN1.out]; exact hlt), List.drop_eq_getElem_cons (l := m) (by rw [HN2.out]; exact hlt), List.cons_beq_cons] at hss
        obtain ⟨x, hx⟩ : ∃ x, l[k]'(by rw [HN1.out]; exact hlt) = x := ⟨_, rfl⟩
        obtain ⟨y, hy⟩ : ∃ y, m[k]'(by rw [HN2.out]; exact hlt) = y := ⟨_, rfl⟩
        rw [hx] at c1 hss
        rw [hy] at c2 hss
        have HSS := Lib.hid hss
        clear hx hy hss HS
        by_cases hxy : x = y
        · have hd : (x == y) = true := by simpa using hxy
          have hd2 : (x != y) = false := by simpa using hxy
          have hnx : Hid ((l.drop (k + 1) == m.drop (k + 1)) = t) := by
            have := HSS.out
            rw [hd, Bool.true_and] at this
            exact this
          clear HSS hxy
          go_wp2_with fail
          go_quiet (fail)
          go_wp2
          go_roundg (n - (k + 1))
          case measure => omega
          case rel => exact ⟨k + 1, by omega, rfl, by go_num, below_drewN hb _, hnx⟩
        · have hd : (x == y) = false := by simpa using hxy
          have hd2 : (x != y) = true := by simpa using hxy
          obtain rfl : t = false := by
            have := HSS.out
            rw [hd, Bool.false_and] at this
            exact this.symm
          clear HSS hxy
          go_wp2_with fail
          go_quiet (fail)
          go_wp2
          all_goals exact HR.out _ (below_drewN hb _)
      · have hkk : ¬ (k : Int) < (n : Int) := by omega
        obtain rfl : t = true := by
          rw [← HS.out, List.drop_of_length_le (by rw [HN1.out]; omega), List.drop_of_length_le (by rw [HN2.out]; omega)]
          rfl
        clear HS
        go_wp2
        exact HR.out _ hb
  · obtain ⟨va, vc, rfl, _, v2, v3, _⟩ := hv'
    obtain ⟨ua, uc, rfl, _, u2, u3, _⟩ := hu'
    have hne : ¬ (l.length : Int) = (m.length : Int) := by omega
    have hd : ((l.length : Int) == (m.length : Int)) = false := by simp; omega
    obtain rfl : t = false := by
      rw [← ht]
      simp
      intro h
      exact hlen (by rw [h])
    clear ht hlen hv hu
    go_enter Try.func57, Try.ntmps57
    go_wp2
    all_goals exact HR.out _ (Below.refl _ _)

set_option maxRecDepth 100000 in
set_option maxHeartbeats 3200000 in
theorem same8_any (e : Ed) (x y u v : Value) (w : World) (hx : Pls w x e.add) (hy : Is w y e.drop) (hu : Pls w u e.add) (hv : Is w v e.drop) (R : Ending → World → Prop)
    (hR : ∀ w', Below w.heap.size w w' → R (.returned (.bool true)) w') :
    Calls Try.prog 29 #[.agg #[.int .i64 e.log, .int .i64 e.next, .int .i64 e.seq, x, y], .agg #[.int .i64 e.log, .int .i64 e.next, .int .i64 e.seq, u, v]] w R := by
  have HR := Lib.hid hR
  obtain ⟨el, en, es, ea, ed⟩ := e
  simp only at hx hy hu hv
  have hb2 : Below w.heap.size w ((w.alloc (Obj.cells #[Value.int .i64 el, .int .i64 en, .int .i64 es, x, y] 27)).alloc (Obj.cells #[Value.int .i64 el, .int .i64 en, .int .i64 es, u, v] 27)) := ((Below.refl w.heap.size w).alloc (Nat.le_refl _) _).alloc (by simp) _
  have HB := Lib.hid hb2
  have HX := Lib.hid (hx.below hb2)
  have HY := Lib.hid (hy.below hb2)
  have HU := Lib.hid (hu.below hb2)
  have HV := Lib.hid (hv.below hb2)
  have hn0 : ((w.alloc (Obj.cells #[Value.int .i64 el, .int .i64 en, .int .i64 es, x, y] 27)).alloc (Obj.cells #[Value.int .i64 el, .int .i64 en, .int .i64 es, u, v] 27)).heap[w.heap.size]? = some (Obj.cells #[Value.int .i64 el, .int .i64 en, .int .i64 es, x, y] 27) := block_alloc (heap_alloc_new w _)
  have hn1 : ((w.alloc (Obj.cells #[Value.int .i64 el, .int .i64 en, .int .i64 es, x, y] 27)).alloc (Obj.cells #[Value.int .i64 el, .int .i64 en, .int .i64 es, u, v] 27)).heap[w.heap.size + 1]? = some (Obj.cells #[Value.int .i64 el, .int .i64 en, .int .i64 es, u, v] 27) := by
    have h := heap_alloc_new (w.alloc (Obj.cells #[Value.int .i64 el, .int .i64 en, .int .i64 es, x, y] 27)) (Obj.cells #[Value.int .i64 el, .int .i64 en, .int .i64 es, u, v] 27)
    rw [show (w.alloc (Obj.cells #[Value.int .i64 el, .int .i64 en, .int .i64 es, x, y] 27)).heap.size = w.heap.size + 1 by simp] at h
    exact h
  obtain ⟨xa, xc, rfl, _⟩ := hx
  obtain ⟨ya, yc, rfl, _⟩ := hy
  obtain ⟨ua, uc, rfl, _⟩ := hu
  obtain ⟨va, vc, rfl, _⟩ := hv
  have HN0 := Lib.hid hn0
  have HN1 := Lib.hid hn1
  have hsp : samePs ea ea = true := by simp [samePs]
  have HSP := Lib.hid hsp
  have HII : Hid ((ed == ed) = true) := by show _ = _; simp
  clear hR hb2 hsp hn0 hn1
  go_enter Try.func29, Try.ntmps29
  go_wp2_with (first
    | (go_at_call 20; go_must (refine rplaces_any _ _ ea ea true HSP.out _ HX.out HU.out _ ?_); intro w3 hb3; have HB3 := Lib.hid (below_then HB.out hb3 HB.out.size); have q0 := cell_of_row w3 w.heap.size 4 _ _ _ (row_on HN0.out hb3); have q1 := cell_of_row w3 (w.heap.size + 1) 4 _ _ _ (row_on HN1.out hb3); have HY3 := Lib.hid (HY.out.below hb3); have HV3 := Lib.hid (HV.out.below hb3); clear hb3)
    | (go_at_call 57; go_must (refine ints8_any _ _ ed ed true HII.out _ HY3.out HV3.out _ ?_); intro w4 hb4; have HB4 := Lib.hid (below_then HB3.out hb4 HB3.out.size); clear hb4))
  all_goals exact HR.out _ HB4.out
end Go.Proofs.Ytpodgocmcnkfdaa
