/- (*Session).land, Ack, Comp, walked. -/
import Derived.Test.YtgimbocoamnkjaaDelF
namespace Go.Proofs.Ytgimbocoamnkjaa
open Go.RowKit

theorem ps_one {w : World} {M : Nat → Prop} {ps : List (V3 × Fl)} (h : ∀ p ∈ ps, ImS w M p.1 p.2.item) : ∀ u ∈ ps.flatMap flP, u.oneCell' = true := by
  intro u hu
  obtain ⟨p, hp, hu⟩ := List.mem_flatMap.1 hu
  unfold flP at hu
  rcases List.mem_cons.1 hu with rfl | hu
  · rfl
  rcases List.mem_cons.1 hu with rfl | hu
  · rfl
  exact (h p hp).oneCell u hu

set_option maxRecDepth 100000 in
set_option maxHeartbeats 2000000 in
theorem land_any (S : Nat) (s : Sess) (i : Nat) (hi : i < s.flights.length) (hl : s.flights.length ≤ 100000) (d : Int) (hd : (s.flights[i]).id = d) (hI : I64 d) (w : World) (M : Nat → Prop) (h : SR w M S s) (R : Ending → World → Prop)
    (hR : ∀ M' w', SR w' M' S { s with nums := s.nums.erase d, flights := s.flights.eraseIdx i } → Sep M M' w w' → R (.returned (.tuple #[])) w') :
    Calls Try.prog 27 #[.pointer (some ⟨S, 0, none⟩), .int .i64 i] w R := by
  obtain ⟨NB, MB, GB, GM, sv, qv, fv, hx⟩ := h
  have HR := Lib.hid hR
  obtain ⟨ps, hps, hrow, hcon, hown⟩ := id hx.hf
  have hlen : s.flights.length = ps.length := by rw [← hps]; simp
  have hip : i < ps.length := by omega
  have hlp : ps.length ≤ 100000 := by omega
  rw [hlen] at hrow
  obtain ⟨fa, fc, hfv⟩ := owns_shape hrow
  subst hfv
  obtain ⟨g, hg⟩ := owns_head hrow (by omega)
  subst hg
  have hd1 : Below w.heap.size w w.drew := (Below.refl w.heap.size w).drew
  have hx1 := hx.below hd1
  have c0 := (ss9 hx1.hS).1.1
  have c7 := (ss9 hx1.hS).2.2.2.1
  have hrow1 := owns_below hrow hd1
  have hpd : (ps[i]).2.id = d := by
    rw [← hd]
    have : s.flights[i] = (ps[i]).2 := by
      have h2 := congrArg (fun l => l[i]?) hps
      simp only [List.getElem?_map, List.getElem?_eq_getElem hip, List.getElem?_eq_getElem hi, Option.map_some] at h2
      exact (Option.some.inj h2).symm
    rw [this]
  have cid : w.drew.cell? ⟨g, i * 16, none⟩ = some (.int .i64 d) := by
    have := fl_cells hrow1 hip 0 (by omega)
    rw [Nat.add_zero] at this
    rw [this, ← hpd]
    rfl
  obtain ⟨b, hb⟩ : ∃ b, s.nums.contains d = b := ⟨_, rfl⟩
  have hki : (i : Int) < (ps.length : Int) := by omega
  have hmap : (ps.eraseIdx i).map (·.2) = s.flights.eraseIdx i := by rw [← hps, List.eraseIdx_eq_take_drop_succ, List.eraseIdx_eq_take_drop_succ, List.map_append, List.map_take, List.map_drop]
  have hle : (s.flights.eraseIdx i).length = ps.length - 1 := by rw [List.length_eraseIdx_of_lt hi, hlen]
  have HX := Lib.hid hx1
  have HB := Lib.hid hb
  have HMAP := Lib.hid hmap
  have HLE := Lib.hid hle
  have HLEN := Lib.hid hlen
  have HCON := Lib.hid (show ∀ p ∈ ps, ImS w.drew M p.1 p.2.item from fun p hp => (hcon p hp).sep (.of_below hd1))
  have HROW := Lib.hid hrow1
  have HS1 := Lib.hid (Sep.of_below (M := M) hd1)
  clear hR hps hrow hcon hown hx hx1 hrow1 hb hmap hle hd1 hpd hlen hi hl hd
  go_enter Try.func27, Try.ntmps27
  go_wp2_with fail
  go_region_law (first
    | (go_simp; go_at_call 35; refine ifree_any NB MB s.nums d hI b HB.out w.drew HX.out.hn _ ?_; intro w3 hst3 hg3))
  all_goals
    obtain ⟨hx3, hs3⟩ := SX.turn HX.out hg3 hst3
    have hrow3 := owns_of_block HROW.out (fun k hk => hg3.block k ((HROW.out.lt k hk).2) (fun e => by
      have h1 := own_kind HROW.out k hk
      have h2 := HX.out.hn.2.kind
      rw [Option.some.inj e, h2] at h1
      revert h1
      decide))
    have c73 := (ss9 hx3.hS).2.2.2.1
    have HX3 := Lib.hid hx3
    have HS3 := Lib.hid (HS1.out.trans hs3)
    have HROW3 := Lib.hid hrow3
    have HCON3 := Lib.hid (show ∀ p ∈ ps, ImS w3 M p.1 p.2.item from fun p hp => (HCON.out p hp).sep hs3)
    clear hx3 hs3 hrow3 hst3 hg3 c0 c7 cid HX HROW HCON HS1
    go_wp2_with (first
      | (go_at_call 36; go_must (refine delf_any g fc ps i hip hlp w3 (ps_one HCON3.out) HROW3.out _ ?_); intro w5 hrow5 hg5; have r5 := block_grown hg5 HX3.out.hS (own_block_ne HX3.out.hS HROW3.out (by decide)); have c75 := (ss9 r5).2.2.2.1; have f75 := frozen_block r5 7; have HROW5 := Lib.hid hrow5; have HG5 := Lib.hid hg5; clear hrow5 hg5 r5))
    obtain ⟨M7, hx7, hs7, _⟩ := SX.fly (fv' := .slice (some ⟨g, 0, none⟩) (ps.length - 1) fc) (fs := s.flights.eraseIdx i) (ps := ps.eraseIdx i) HX3.out HMAP.out (fun p hp => HCON3.out p (List.mem_of_mem_eraseIdx hp)) (by rw [HLE.out]; exact HROW5.out) HG5.out (.inl rfl)
    go_end0
    exact HR.out _ _ ⟨NB, MB, GB, GM, sv, qv, _, hx7⟩ (HS3.out.trans hs7)

theorem idxP_some {α : Type} {p : α → Bool} {l : List α} {z : Int} (h : idxP p l = z) (hz : 0 ≤ z) : ∃ (k : Nat) (hk : k < l.length), z = (k : Int) ∧ p l[k] = true ∧ ∀ j (hj : j < k), p (l[j]'(by omega)) = false := by
  unfold idxP at h
  cases hf : l.findIdx? p with
  | none => rw [hf] at h; simp only at h; omega
  | some i =>
    rw [hf] at h
    obtain ⟨h1, h2, h3⟩ := List.findIdx?_eq_some_iff_getElem.1 hf
    exact ⟨i, h1, h.symm, h2, fun j hj => by simpa using h3 j hj⟩
theorem idxP_neg {α : Type} {p : α → Bool} {l : List α} {z : Int} (h : idxP p l = z) (hz : z < 0) : z = -1 ∧ ∀ x ∈ l, p x = false := by
  unfold idxP at h
  cases hf : l.findIdx? p with
  | none =>
    rw [hf] at h
    exact ⟨h.symm, List.findIdx?_eq_none_iff.1 hf⟩
  | some i => rw [hf] at h; simp only at h; omega

/-- What becomes of a session whose flight at z (if there is one) landed. -/
def landS (s : Sess) (z : Int) : Sess := if z < 0 then s else { s with nums := s.nums.erase ((s.flights[z.toNat]?.map (·.id)).getD 0), flights := s.flights.eraseIdx z.toNat }

/-- The states that a flight is asked for. -/
theorem one_is {w : World} {x : Int} : Is (w.alloc (Obj.cells #[Value.int .i64 x] 3)) (.slice (some ⟨w.heap.size, 0, none⟩) 1 1) [x] :=
  ⟨_, 1, rfl, rd_lit w #[Value.int .i64 x] 3 1 1 rfl, Nat.le_refl _, by decide, fun h => by cases h⟩
theorem two_is {w : World} {x y : Int} : Is (w.alloc (Obj.cells #[Value.int .i64 x, Value.int .i64 y] 3)) (.slice (some ⟨w.heap.size, 0, none⟩) 2 2) [x, y] :=
  ⟨_, 2, rfl, rd_lit w #[Value.int .i64 x, Value.int .i64 y] 3 1 2 rfl, Nat.le_refl _, by decide, fun h => by cases h⟩

set_option maxRecDepth 100000 in
set_option maxHeartbeats 800000 in
theorem ack_any (S : Nat) (s : Sess) (id : Int) (z : Int) (hz : idxP (hitF id [1]) s.flights = z) (hid : ∀ f ∈ s.flights, I64 f.id) (hl : s.flights.length ≤ 100000) (w : World) (M : Nat → Prop) (h : SR w M S s) (R : Ending → World → Prop)
    (hR : ∀ M' w', SR w' M' S (landS s z) → Sep M M' w w' → R (.returned (.bool (decide (0 ≤ z)))) w') :
    Calls Try.prog 12 #[.pointer (some ⟨S, 0, none⟩), .int .i64 id] w R := by
  have HR := Lib.hid hR
  have hb0 : Below w.heap.size w (w.alloc (Obj.cells #[Value.int .i64 1] 3)) := (Below.refl _ _).alloc (Nat.le_refl _) _
  have HB0 := Lib.hid hb0
  have H1 := Lib.hid (h.below hb0)
  have HI := Lib.hid (one_is (w := w) (x := 1))
  have HZ := Lib.hid hz
  clear hR hb0 h hz
  by_cases h0 : 0 ≤ z
  · obtain ⟨i, hi, rfl, _, _⟩ := idxP_some HZ.out h0
    have hI := hid _ (List.getElem_mem hi)
    obtain ⟨d, hd⟩ : ∃ d, (s.flights[i]).id = d := ⟨_, rfl⟩
    rw [hd] at hI
    have HL : Hid (landS s (i : Int) = { s with nums := s.nums.erase d, flights := s.flights.eraseIdx i }) := by
      show _ = _
      unfold landS
      rw [if_neg (by omega)]
      simp [List.getElem?_eq_getElem hi, hd]
    clear hid
    go_enter Try.func12, Try.ntmps12
    go_wp2_with (first
      | (go_at_call 26; go_must (refine flight_any S s id [1] (i : Int) HZ.out _ _ M H1.out (Nat.le_trans hl (by decide)) HI.out (by decide) _ ?_); intro w3 hb3; have HB3 := Lib.hid (below_then HB0.out hb3 HB0.out.size); have H3 := Lib.hid (H1.out.below hb3); clear hb3)
      | (go_at_call 27; go_must (refine land_any S s i hi hl d hd hI w3 M H3.out _ ?_); intro M5 w5 hx5 hs5; have HX5 := Lib.hid hx5; have HS5 := Lib.hid hs5; clear hx5 hs5))
    have := HR.out M5 w5 (by rw [HL.out]; exact HX5.out) ((Sep.of_below HB3.out).trans HS5.out)
    rw [decide_eq_true (by omega)] at this
    exact this
  · obtain ⟨rfl, _⟩ := idxP_neg HZ.out (by omega)
    clear hid
    go_enter Try.func12, Try.ntmps12
    go_wp2_with (go_at_call 26; go_must (refine flight_any S s id [1] (-1) HZ.out _ _ M H1.out (Nat.le_trans hl (by decide)) HI.out (by decide) _ ?_); intro w3 hb3; have HB3 := Lib.hid (below_then HB0.out hb3 HB0.out.size); have H3 := Lib.hid (H1.out.below hb3); clear hb3)
    exact HR.out M w3 H3.out (Sep.of_below HB3.out)

set_option maxRecDepth 100000 in
set_option maxHeartbeats 800000 in
theorem comp_any (S : Nat) (s : Sess) (id : Int) (z : Int) (hz : idxP (hitF id [3]) s.flights = z) (hid : ∀ f ∈ s.flights, I64 f.id) (hl : s.flights.length ≤ 100000) (w : World) (M : Nat → Prop) (h : SR w M S s) (R : Ending → World → Prop)
    (hR : ∀ M' w', SR w' M' S (landS s z) → Sep M M' w w' → R (.returned (.bool (decide (0 ≤ z)))) w') :
    Calls Try.prog 14 #[.pointer (some ⟨S, 0, none⟩), .int .i64 id] w R := by
  have HR := Lib.hid hR
  have hb0 : Below w.heap.size w (w.alloc (Obj.cells #[Value.int .i64 3] 3)) := (Below.refl _ _).alloc (Nat.le_refl _) _
  have HB0 := Lib.hid hb0
  have H1 := Lib.hid (h.below hb0)
  have HI := Lib.hid (one_is (w := w) (x := 3))
  have HZ := Lib.hid hz
  clear hR hb0 h hz
  by_cases h0 : 0 ≤ z
  · obtain ⟨i, hi, rfl, _, _⟩ := idxP_some HZ.out h0
    have hI := hid _ (List.getElem_mem hi)
    obtain ⟨d, hd⟩ : ∃ d, (s.flights[i]).id = d := ⟨_, rfl⟩
    rw [hd] at hI
    have HL : Hid (landS s (i : Int) = { s with nums := s.nums.erase d, flights := s.flights.eraseIdx i }) := by
      show _ = _
      unfold landS
      rw [if_neg (by omega)]
      simp [List.getElem?_eq_getElem hi, hd]
    clear hid
    go_enter Try.func14, Try.ntmps14
    go_wp2_with (first
      | (go_at_call 26; go_must (refine flight_any S s id [3] (i : Int) HZ.out _ _ M H1.out (Nat.le_trans hl (by decide)) HI.out (by decide) _ ?_); intro w3 hb3; have HB3 := Lib.hid (below_then HB0.out hb3 HB0.out.size); have H3 := Lib.hid (H1.out.below hb3); clear hb3)
      | (go_at_call 27; go_must (refine land_any S s i hi hl d hd hI w3 M H3.out _ ?_); intro M5 w5 hx5 hs5; have HX5 := Lib.hid hx5; have HS5 := Lib.hid hs5; clear hx5 hs5))
    have := HR.out M5 w5 (by rw [HL.out]; exact HX5.out) ((Sep.of_below HB3.out).trans HS5.out)
    rw [decide_eq_true (by omega)] at this
    exact this
  · obtain ⟨rfl, _⟩ := idxP_neg HZ.out (by omega)
    clear hid
    go_enter Try.func14, Try.ntmps14
    go_wp2_with (go_at_call 26; go_must (refine flight_any S s id [3] (-1) HZ.out _ _ M H1.out (Nat.le_trans hl (by decide)) HI.out (by decide) _ ?_); intro w3 hb3; have HB3 := Lib.hid (below_then HB0.out hb3 HB0.out.size); have H3 := Lib.hid (H1.out.below hb3); clear hb3)
    exact HR.out M w3 H3.out (Sep.of_below HB3.out)
end Go.Proofs.Ytgimbocoamnkjaa
