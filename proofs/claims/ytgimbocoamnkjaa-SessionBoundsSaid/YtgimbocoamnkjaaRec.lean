/- (*Session).Rec, walked. -/
import Derived.Test.YtgimbocoamnkjaaLand
namespace Go.Proofs.Ytgimbocoamnkjaa
open Go.RowKit

/-- The item of a flight that is released: its topic alone. -/
def relI (x : Im) : Im := ⟨⟨x.note.topic, [], 0, false, [], 0, [], 0, 0, 0⟩, 2, false, [], []⟩
theorem relI_b {x : Im} (h : ImB x) : ImB (relI x) := ⟨⟨h.n.t, by simp [relI], by simp [relI], by simp [relI], by simp [relI], by simp [relI]⟩, by simp [relI], by simp [relI], by simp [relI]⟩
theorem relI_c (w : World) (x : Im) : ImC w (.slice none 0 0) (.slice none 0 0) (.slice none 0 0) (relI x) :=
  ⟨⟨none, 0, rfl, ⟨rfl, fun h => by simp [relI] at h⟩, Nat.le_refl _, by decide, fun _ => rfl⟩, ⟨none, 0, rfl, Nat.le_refl _, by decide, fun _ => rfl, fun h => by simp [relI] at h⟩, ⟨none, 0, rfl, ⟨rfl, fun h => by simp [relI] at h⟩, Nat.le_refl _, by decide, fun _ => rfl⟩⟩
theorem relI_s {M : Nat → Prop} (w : World) {x : Im} (h : ImB x) : ImS w M (.slice none 0 0, .slice none 0 0, .slice none 0 0) (relI x) := ⟨fun _ w' _ => relI_c w' x, relI_b h⟩

/-- Flights were written over in their own row. -/
theorem SX.flyIn {w w1 : World} {M : Nat → Prop} {S NB MB GB GM g : Nat} {sv qv fv : Value} {s : Sess} {ps : List (V3 × Fl)} {fs : List Fl} (h : SX w M S NB MB GB GM sv qv fv s) (hv : fv.ownBlock = some g) (hps : ps.map (·.2) = fs) (hcon : ∀ p ∈ ps, ImS w M p.1 p.2.item)
    (hr : w1.ownsRow 0 54 16 fv fs.length (ps.flatMap flP)) (hg : w.grownBy w1 (some g)) : SX w1 M S NB MB GB GM sv qv fv { s with flights := fs } ∧ Sep M M w w1 := by
  have hk := h.hf.kind g hv
  have hs : Sep M M w w1 := .of_grown hg (fun k hk => by cases hk; exact h.hf.own g hv)
  obtain ⟨p1, p2, p3, p4, p5, _⟩ := h.parts g hg (fun _ hm => hm) hs
  refine ⟨⟨(p1 (by rw [hk]; decide)).trans h.hS, p2 (fun e => ?_) (by rw [hk]; decide), p3 (fun e => ?_) (by rw [hk]; decide), p4 (by rw [hk]; decide), p5 (by rw [hk]; decide), ⟨ps, hps, hr, fun p hp => (hcon p hp).sep hs, h.hf.own⟩, h.nb, h.nm, h.mS, h.mN, h.mG, h.ms, h.mNB, h.mGB, fun b hb => Nat.lt_of_lt_of_le (h.lt b hb) hg.size⟩, hs⟩
  · have := h.hn.kinds.2
    rw [← e, hk] at this
    revert this
    decide
  · have := h.hg.kinds.2
    rw [← e, hk] at this
    revert this
    decide

/-- A row of flights, one of them written over. -/
theorem set_flight {w : World} {g c : Nat} {ps : List (V3 × Fl)} {k : Nat} (hk : k < ps.length) (h : w.ownsRow 0 54 16 (.slice (some ⟨g, 0, none⟩) ps.length c) ps.length (ps.flatMap flP)) (u : Value) (vs : List Value) (p : V3 × Fl)
    (h0 : (flP p)[0]? = (flP ps[k])[0]?) (h1 : (flP p)[1]? = some u) (h2 : ∀ j, j < 14 → (flP p)[j + 2]? = vs[j]?) (hv : vs.length = 14) :
    ((w.setCell ⟨g, k * 16 + 1, none⟩ u).setCells g (k * 16 + 2) vs).ownsRow 0 54 16 (.slice (some ⟨g, 0, none⟩) ps.length c) ps.length ((ps.set k p).flatMap flP) := by
  have hlen : (ps.set k p).length = ps.length := by simp
  refine ⟨by rw [flatN_length 16 flP flP_length, hlen], ?_⟩
  rcases h.2 with ⟨hv, h0⟩ | ⟨g', cap, cur, hv', hB, hg, e1, e2, e3, e4⟩
  · cases hv
  · simp only [Value.slice.injEq, Option.some.injEq, Addr.mk.injEq] at hv'
    obtain ⟨⟨rfl, -, -⟩, -, rfl⟩ := hv'
    have k1 := heap_setCell_same w g (k * 16 + 1) cur _ u hg
    obtain ⟨cur2, m1, m2, m3⟩ := heap_setCells_row g 54 vs (k * 16 + 2) _ _ k1
    refine .inr ⟨g, c, cur2, rfl, hB, m1, e1, e2, by rw [m2, Array.size_setIfInBounds]; exact e3, ?_⟩
    have hcs : ps.length * 16 ≤ cur.size := by
      have := congrArg List.length e4
      rw [flatN_length 16 flP flP_length, List.length_take] at this
      simp at this
      omega
    have hat : ∀ j, j < ps.length * 16 → cur[j]? = (ps.flatMap flP)[j]? := fun j hj => by
      rw [← e4, List.getElem?_take, if_pos hj]
      simp
    apply List.ext_getElem?
    intro j
    rw [List.getElem?_take]
    by_cases hj : j < ps.length * 16
    · rw [if_pos hj]
      have e0 : cur2.toList[j]? = cur2[j]? := by simp
      have hi : j / 16 < ps.length := by omega
      have hr : j % 16 < 16 := Nat.mod_lt _ (by omega)
      have hji : j / 16 * 16 + j % 16 = j := by omega
      have hs := flatN 16 flP flP_length (ps.set k p) (j / 16) (j % 16) (by simpa using hi) hr
      have ho := flatN 16 flP flP_length ps (j / 16) (j % 16) hi hr
      rw [hji] at hs ho
      have hk16 : k * 16 + 2 + 14 ≤ ps.length * 16 := by omega
      rw [e0, m3, hs, hv]
      by_cases hkj : j / 16 = k
      · have hset : (ps.set k p)[j / 16]'(by simpa using hi) = p := by simp [hkj]
        rw [hset]
        by_cases c1 : k * 16 + 2 ≤ j
        · rw [if_pos (by simp only [Array.size_setIfInBounds]; omega)]
          have := h2 (j - (k * 16 + 2)) (by omega)
          rw [← this]
          congr 1
          omega
        · rw [if_neg (by omega), Array.getElem?_setIfInBounds]
          by_cases c2 : k * 16 + 1 = j
          · rw [if_pos c2, if_pos (by omega), show j % 16 = 1 by omega, h1]
          · rw [if_neg c2, hat j hj, ho, show j % 16 = 0 by omega, h0]
            congr 2
            have : ps[j / 16] = ps[k] := by congr
            rw [this]
      · have hset : (ps.set k p)[j / 16]'(by simpa using hi) = ps[j / 16] := by
          rw [List.getElem_set_ne (by omega)]
        rw [hset, if_neg (by omega), Array.getElem?_setIfInBounds, if_neg (by omega), hat j hj, ho]
    · rw [if_neg hj, List.getElem?_eq_none (by rw [flatN_length 16 flP flP_length, hlen]; omega)]

/-- What a Pubrec makes of a session whose flight stands at z. -/
def recS (s : Sess) (z : Int) (fine : Bool) : Sess × Bool × Bool := match s.flights[z.toNat]? with
  | none => (s, false, false)
  | some f => if z < 0 then (s, false, false) else if f.state = 3 then (s, true, true) else if fine = false then (landS s z, true, false) else ({ s with flights := s.flights.set z.toNat ⟨f.id, 3, relI f.item⟩ }, true, true)
theorem recS_neg {s : Sess} {fine : Bool} {z : Int} (h : z < 0) : recS s z fine = (s, false, false) := by
  unfold recS
  split
  · rfl
  · rw [if_pos h]
theorem recS_at {s : Sess} {fine : Bool} {i : Nat} (h : i < s.flights.length) : recS s (i : Int) fine = if (s.flights[i]).state = 3 then (s, true, true) else if fine = false then (landS s i, true, false) else ({ s with flights := s.flights.set i ⟨(s.flights[i]).id, 3, relI (s.flights[i]).item⟩ }, true, true) := by
  unfold recS
  simp [List.getElem?_eq_getElem h]
  intro h0
  omega

theorem SR.flightAt {w : World} {M : Nat → Prop} {S : Nat} {s : Sess} (h : SR w M S s) {i : Nat} (hi : i < s.flights.length) {f : Fl} (hf : s.flights[i] = f) : ∃ NB MB GB GM sv qv g n fc v1 v2 v3, ∃ ps : List (V3 × Fl), SX w M S NB MB GB GM sv qv (.slice (some ⟨g, 0, none⟩) n fc) s ∧ n = s.flights.length ∧ ps.map (·.2) = s.flights ∧ ∃ hip : i < ps.length, ps[i] = ((v1, v2, v3), f) ∧ ps.length = n ∧
    w.ownsRow 0 54 16 (.slice (some ⟨g, 0, none⟩) n fc) n (ps.flatMap flP) ∧ (∀ p ∈ ps, ImS w M p.1 p.2.item) ∧ (∀ j, j < 16 → w.cell? ⟨g, i * 16 + j, none⟩ = [Value.int .i64 f.id, .int .i64 f.state, .string (str f.item.note.topic), v1, .int .i64 f.item.note.qos, .bool f.item.note.retain, .string (str f.item.note.src), .int .i64 f.item.note.expires, v2, .int .i64 f.item.note.origin, .int .i64 f.item.note.number, .int .i64 f.item.note.hops, .int .i64 f.item.qos, .bool f.item.keep, v3, .string (str f.item.share)][j]?) ∧ w.cell? ⟨g, i * 16 + 1, none⟩ = some (.int .i64 f.state) ∧ w.cell? ⟨g, i * 16 + 2, none⟩ = some (.string (str f.item.note.topic)) ∧ (i : Int) < (n : Int) ∧ w.frozen? ⟨g, i * 16 + 1, none⟩ = false := by
  obtain ⟨NB, MB, GB, GM, sv, qv, fv, hx⟩ := h
  obtain ⟨ps, hps, hrow, hcon, hown⟩ := id hx.hf
  have hlen : s.flights.length = ps.length := by rw [← hps]; simp
  have hip : i < ps.length := by omega
  have hrow0 := hrow
  rw [hlen] at hrow
  obtain ⟨fa, fc, hfv⟩ := owns_shape hrow
  subst hfv
  obtain ⟨g, hg⟩ := owns_head hrow (by omega)
  subst hg
  have hpi : (ps[i]).2 = f := by
    rw [← hf]
    have h2 := congrArg (fun l => l[i]?) hps
    simp only [List.getElem?_map, List.getElem?_eq_getElem hip, List.getElem?_eq_getElem hi, Option.map_some] at h2
    exact Option.some.inj h2
  have hc := fl_cells hrow hip
  obtain ⟨⟨⟨v1, v2, v3⟩, f'⟩, hp⟩ : ∃ p, ps[i] = p := ⟨_, rfl⟩
  rw [hp] at hpi hc
  simp only at hpi
  subst hpi
  exact ⟨NB, MB, GB, GM, sv, qv, g, ps.length, fc, v1, v2, v3, ps, hx, hlen.symm, hps, hip, hp, rfl, hrow, hcon, hc, hc 1 (by omega), hc 2 (by omega), by omega, hrow.frozenAt _⟩

set_option maxRecDepth 100000 in
set_option maxHeartbeats 3000000 in
theorem rec_any (S : Nat) (s : Sess) (num : Int) (fine : Bool) (z : Int) (hz : idxP (hitF num [2, 3]) s.flights = z) (hid : ∀ f ∈ s.flights, I64 f.id) (hl : s.flights.length ≤ 100000) (s' : Sess) (a b : Bool) (hr : recS s z fine = (s', a, b)) (w : World) (M : Nat → Prop) (h : SR w M S s) (R : Ending → World → Prop)
    (hR : ∀ M' w', SR w' M' S s' → Sep M M' w w' → R (.returned (.tuple #[.bool a, .bool b])) w') :
    Calls Try.prog 13 #[.pointer (some ⟨S, 0, none⟩), .int .i64 num, .bool fine] w R := by
  have HR := Lib.hid hR
  have hb0 : Below w.heap.size w (w.alloc (Obj.cells #[Value.int .i64 2, Value.int .i64 3] 3)) := (Below.refl _ _).alloc (Nat.le_refl _) _
  have HB0 := Lib.hid hb0
  have H1 := Lib.hid (h.below hb0)
  have HI := Lib.hid (two_is (w := w) (x := 2) (y := 3))
  have HZ := Lib.hid hz
  clear hR hb0 h hz
  by_cases h0 : 0 ≤ z
  · obtain ⟨i, hi, rfl, _, _⟩ := idxP_some HZ.out h0
    have hI := hid _ (List.getElem_mem hi)
    rw [recS_at hi] at hr
    have hii : ¬ (i : Int) < 0 := by omega
    obtain ⟨⟨fid, fst, x⟩, hf⟩ : ∃ f, s.flights[i] = f := ⟨_, rfl⟩
    rw [hf] at hI hr
    simp only at hI hr
    clear hid
    by_cases h3 : fst = 3
    · subst h3
      rw [if_pos rfl] at hr
      cases hr
      go_enter Try.func13, Try.ntmps13
      go_wp2_with (go_at_call 26; go_must (refine flight_any S s num [2, 3] (i : Int) HZ.out _ _ M H1.out (Nat.le_trans hl (by decide)) HI.out (by decide) _ ?_; intro w3 hb3; have HB3 := Lib.hid (below_then HB0.out hb3 HB0.out.size); have H3 := Lib.hid (H1.out.below hb3); clear hb3; obtain ⟨NB, MB, GB, GM, sv, qv, g, n, fc, v1, v2, v3, ps, hx, hn, hps, hip, hpi, hpl, hrow, hcon, hcl, cst, ctp, hin, cfz⟩ := SR.flightAt H3.out hi hf; have c7 := (ss9 hx.hS).2.2.2.1;  have HX := Lib.hid hx; have HPS := Lib.hid hps; have HIP := Lib.hid hip; have HPI := Lib.hid hpi; have HPL := Lib.hid hpl; have HROW := Lib.hid hrow; have HCON := Lib.hid hcon; have HCL := Lib.hid hcl; have HN := Lib.hid hn; clear hx hn hps hpl hrow hcon hcl))
      exact HR.out M w3 H3.out (Sep.of_below HB3.out)
    rw [if_neg h3] at hr
    have h3' : (fst == 3) = false := by simpa using h3
    cases fine with
    | false =>
      rw [if_pos rfl] at hr
      cases hr
      have HL : Hid (landS s (i : Int) = { s with nums := s.nums.erase fid, flights := s.flights.eraseIdx i }) := by
        show _ = _
        unfold landS
        rw [if_neg (by omega)]
        simp [List.getElem?_eq_getElem hi, hf]
      have HFD : Hid ((s.flights[i]).id = fid) := by show _ = _; rw [hf]
      go_enter Try.func13, Try.ntmps13
      go_wp2_with (first
        | (go_at_call 26; go_must (refine flight_any S s num [2, 3] (i : Int) HZ.out _ _ M H1.out (Nat.le_trans hl (by decide)) HI.out (by decide) _ ?_; intro w3 hb3; have HB3 := Lib.hid (below_then HB0.out hb3 HB0.out.size); have H3 := Lib.hid (H1.out.below hb3); clear hb3; obtain ⟨NB, MB, GB, GM, sv, qv, g, n, fc, v1, v2, v3, ps, hx, hn, hps, hip, hpi, hpl, hrow, hcon, hcl, cst, ctp, hin, cfz⟩ := SR.flightAt H3.out hi hf; have c7 := (ss9 hx.hS).2.2.2.1;  have HX := Lib.hid hx; have HPS := Lib.hid hps; have HIP := Lib.hid hip; have HPI := Lib.hid hpi; have HPL := Lib.hid hpl; have HROW := Lib.hid hrow; have HCON := Lib.hid hcon; have HCL := Lib.hid hcl; have HN := Lib.hid hn; clear hx hn hps hpl hrow hcon hcl))
        | (go_at_call 27; go_must (refine land_any S s i hi hl fid HFD.out hI w3 M H3.out _ ?_); intro M5 w5 hx5 hs5; have HX5 := Lib.hid hx5; have HS5 := Lib.hid hs5; clear hx5 hs5))
      exact HR.out M5 w5 (by rw [HL.out]; exact HX5.out) ((Sep.of_below HB3.out).trans HS5.out)
    | true =>
      rw [if_neg (by decide)] at hr
      have HRR := Lib.hid hr
      clear hr
      go_enter Try.func13, Try.ntmps13
      go_wp2_with (first
        | (go_at_call 26; go_must (refine flight_any S s num [2, 3] (i : Int) HZ.out _ _ M H1.out (Nat.le_trans hl (by decide)) HI.out (by decide) _ ?_; intro w3 hb3; have HB3 := Lib.hid (below_then HB0.out hb3 HB0.out.size); have H3 := Lib.hid (H1.out.below hb3); clear hb3; obtain ⟨NB, MB, GB, GM, sv, qv, g, n, fc, v1, v2, v3, ps, hx, hn, hps, hip, hpi, hpl, hrow, hcon, hcl, cst, ctp, hin, cfz⟩ := SR.flightAt H3.out hi hf; have c7 := (ss9 hx.hS).2.2.2.1;  have HX := Lib.hid hx; have HPS := Lib.hid hps; have HIP := Lib.hid hip; have HPI := Lib.hid hpi; have HPL := Lib.hid hpl; have HROW := Lib.hid hrow; have HCON := Lib.hid hcon; have HCL := Lib.hid hcl; have HN := Lib.hid hn; clear hx hn hps hpl hrow hcon hcl))
        | (have hq := HROW; refine wpList_store_at (o := ⟨none, .store 44 (.tmp 52) (.tmp 50), _, _, _, _⟩) (by rfl) 44 (.tmp 52) (.tmp 50) (by rfl) g (i * 16 + 2) _ (by rfl) (by rfl) (fun j hj => ?_) (fun j hj => ?_) (by kernel_rfl) (by simp [Value.oneCell']) ?_))
      · have hst := (HROW.out.stored (i * 16 + 1) (Value.int .i64 3)).1
        have hj : j < 14 := hj
        have := HIP.out
        have := HPL.out
        have hfl := flatN_length 16 flP flP_length ps
        rw [Nat.add_assoc, hst.cellAt (i * 16 + (2 + j)) (by omega), List.getElem?_eq_getElem (by rw [List.length_set, hfl]; omega)]
        rfl
      · exact (HROW.out.stored (i * 16 + 1) (Value.int .i64 3)).1.frozenAt _
      have hsf := set_flight (k := i) HIP.out (by rw [HPL.out]; exact HROW.out) (.int .i64 3) [.string (str x.note.topic), .slice none 0 0, .int .i64 0, .bool false, .string ⟨#[]⟩, .int .i64 0, .slice none 0 0, .int .i64 0, .int .i64 0, .int .i64 0, .int .i64 2, .bool false, .slice none 0 0, .string ⟨#[]⟩] ((.slice none 0 0, .slice none 0 0, .slice none 0 0), ⟨fid, 3, relI x⟩) (by rw [HPI.out]; rfl) rfl (fun j _ => rfl) rfl
      have hlm : (ps.set i ((.slice none 0 0, .slice none 0 0, .slice none 0 0), ⟨fid, 3, relI x⟩)).map (·.2) = s.flights.set i ⟨fid, 3, relI x⟩ := by rw [List.map_set, HPS.out]
      rw [HPL.out] at hsf
      have hle6 : (s.flights.set i ⟨fid, 3, relI x⟩).length = n := by rw [List.length_set, ← HN.out]
      have hmem : (((v1, v2, v3), ⟨fid, fst, x⟩) : V3 × Fl) ∈ ps := by
        have := List.getElem_mem HIP.out
        rw [HPI.out] at this
        exact this
      have hbx : ImB x := (HCON.out _ hmem).2
      rw [← hle6] at hsf
      have hg6 := grownBy_trans (grownBy_setCell w3 ⟨g, i * 16 + 1, none⟩ (.int .i64 3)) (grownBy_setCells g [.string (str x.note.topic), .slice none 0 0, .int .i64 0, .bool false, .string ⟨#[]⟩, .int .i64 0, .slice none 0 0, .int .i64 0, .int .i64 0, .int .i64 0, .int .i64 2, .bool false, .slice none 0 0, .string ⟨#[]⟩] (i * 16 + 2) _)
      have hx' := HX.out
      rw [← hle6] at hx'
      obtain ⟨hx6, hs6⟩ := SX.flyIn hx' rfl hlm (fun p hp => by
        rcases List.mem_or_eq_of_mem_set hp with hp | rfl
        · exact HCON.out p hp
        · exact relI_s w3 hbx) hsf hg6
      rw [hle6] at hx6
      clear hle6 hmem hbx hg6 hx'
      clear hsf hlm
      cases HRR.out
      go_wp2
      exact HR.out M _ ⟨NB, MB, GB, GM, sv, qv, _, hx6⟩ ((Sep.of_below HB3.out).trans hs6)
  · obtain ⟨rfl, _⟩ := idxP_neg HZ.out (by omega)
    rw [recS_neg (by decide)] at hr
    cases hr
    clear hid
    go_enter Try.func13, Try.ntmps13
    go_wp2_with (go_at_call 26; go_must (refine flight_any S s num [2, 3] (-1) HZ.out _ _ M H1.out (Nat.le_trans hl (by decide)) HI.out (by decide) _ ?_); intro w3 hb3; have HB3 := Lib.hid (below_then HB0.out hb3 HB0.out.size); have H3 := Lib.hid (H1.out.below hb3); clear hb3)
    exact HR.out M w3 H3.out (Sep.of_below HB3.out)
end Go.Proofs.Ytgimbocoamnkjaa
