/- (*Session).Rec, walked. -/
import Derived.Test.YtgimbocoamnkjaaGreatDoorM19
import Derived.Test.YtgimbocoamnkjaaGreatDoorM15
import Derived.Test.YtgimbocoamnkjaaGreatDoorM18
import Derived.Deep.CutRange
namespace Go.Proofs.YtgimbocoamnkjaaGreatDoor
open Go.RowKit

/-- The item of a flight that is released: its topic alone. -/
def relI (x : Im) : Im := ⟨⟨x.note.topic, [], 0, false, [], 0, [], 0, 0, 0⟩, 2, false, [], []⟩
theorem relI_b {x : Im} (h : ImB x) : ImB (relI x) := ⟨⟨h.n.t, by simp [relI], by simp [relI], by simp [relI], by simp [relI], by simp [relI]⟩, by simp [relI], by simp [relI], by simp [relI]⟩
theorem relI_c (w : World) (x : Im) : ImC w (.slice none 0 0) (.slice none 0 0) (.slice none 0 0) (relI x) :=
  ⟨⟨none, 0, rfl, ⟨rfl, fun h => by simp [relI] at h⟩, Nat.le_refl _, by decide, fun _ => rfl⟩, ⟨none, 0, rfl, Nat.le_refl _, by decide, fun _ => rfl, fun h => by simp [relI] at h⟩, ⟨none, 0, rfl, ⟨rfl, fun h => by simp [relI] at h⟩, Nat.le_refl _, by decide, fun _ => rfl⟩⟩
theorem relI_s {M : Nat → Prop} (w : World) {x : Im} (h : ImB x) : ImS w M (.slice none 0 0, .slice none 0 0, .slice none 0 0) (relI x) := ⟨fun _ w' _ => relI_c w' x, relI_b h⟩

/-- Flights were written over in their own row. -/
theorem SX.flyIn {w w1 : World} {M : Nat → Prop} {S NB MB GB GM g : Nat} {sv qv fv : Value} {s : Sess} {ps : List (V3 × Fl)} {fs : List Fl} (h : SX w M S NB MB GB GM sv qv fv s) (hv : fv.ownBlock = some g) (hps : ps.map (·.2) = fs) (hcon : ∀ p ∈ ps, ImS w M p.1 p.2.item)
    (hr : w1.ownsRow 0 51 16 fv fs.length (ps.flatMap flP)) (hg : w.grownBy w1 (some g)) : SX w1 M S NB MB GB GM sv qv fv { s with flights := fs } ∧ Sep M M w w1 := by
  have hk := h.hf.kind g hv
  have hs : Sep M M w w1 := .of_grown hg (fun k hk => by cases hk; exact h.hf.own g hv)
  obtain ⟨p1, p2, p3, p4, p5, _⟩ := h.parts g hg (fun _ hm => hm) hs
  refine ⟨⟨(p1 (by rw [hk]; decide)).trans h.hS, p2 (fun e => ?_) (by rw [hk]; decide), p3 (fun e => ?_) (by rw [hk]; decide), p4 (by rw [hk]; decide), p5 (by rw [hk]; decide), ⟨ps, hps, hr, fun p hp => (hcon p hp).sep hs, h.hf.own⟩, h.nb, h.nm, h.mS, h.mN, h.mG, h.ms, h.mNB, h.mGB, fun b hb => Nat.lt_of_lt_of_le (h.lt b hb) hg.size⟩, hs⟩
  · have := h.hn.kinds.2
    rw [← e, hk] at this
    revert this
    decide
  · have := h.hg.kinds.2
    rw [← e, hk] at this
    revert this
    decide

/-- A row of flights, one of them written over. -/
theorem set_flight {w : World} {g c : Nat} {ps : List (V3 × Fl)} {k : Nat} (hk : k < ps.length) (h : w.ownsRow 0 51 16 (.slice (some ⟨g, 0, none⟩) ps.length c) ps.length (ps.flatMap flP)) (u : Value) (vs : List Value) (p : V3 × Fl)
    (h0 : (flP p)[0]? = (flP ps[k])[0]?) (h1 : (flP p)[1]? = some u) (h2 : ∀ j, j < 14 → (flP p)[j + 2]? = vs[j]?) (hv : vs.length = 14) :
    ((w.setCell ⟨g, k * 16 + 1, none⟩ u).setCells g (k * 16 + 2) vs).ownsRow 0 51 16 (.slice (some ⟨g, 0, none⟩) ps.length c) ps.length ((ps.set k p).flatMap flP) := by
  have hlen : (ps.set k p).length = ps.length := by simp
  refine ⟨by rw [flatN_length 16 flP flP_length, hlen], ?_⟩
  rcases h.2 with ⟨hv, h0⟩ | ⟨g', cap, cur, hv', hB, hg, e1, e2, e3, e4⟩
  · cases hv
  · simp only [Value.slice.injEq, Option.some.injEq, Addr.mk.injEq] at hv'
    obtain ⟨⟨rfl, -, -⟩, -, rfl⟩ := hv'
    have k1 := heap_setCell_same w g (k * 16 + 1) cur _ u hg
    obtain ⟨cur2, m1, m2, m3⟩ := heap_setCells_row g 51 vs (k * 16 + 2) _ _ k1
    refine .inr ⟨g, c, cur2, rfl, hB, m1, e1, e2, by rw [m2, Array.size_setIfInBounds]; exact e3, ?_⟩
    have hcs : ps.length * 16 ≤ cur.size := by
      have := congrArg List.length e4
      rw [flatN_length 16 flP flP_length, List.length_take] at this
      simp at this
      omega
    have hat : ∀ j, j < ps.length * 16 → cur[j]? = (ps.flatMap flP)[j]? := fun j hj => by
      rw [← e4, List.getElem?_take, if_pos hj]
      simp
    apply List.ext_getElem?
    intro j
    rw [List.getElem?_take]
    by_cases hj : j < ps.length * 16
    · rw [if_pos hj]
      have e0 : cur2.toList[j]? = cur2[j]? := by simp
      have hi : j / 16 < ps.length := by omega
      have hr : j % 16 < 16 := Nat.mod_lt _ (by omega)
      have hji : j / 16 * 16 + j % 16 = j := by omega
      have hs := flatN 16 flP flP_length (ps.set k p) (j / 16) (j % 16) (by simpa using hi) hr
      have ho := flatN 16 flP flP_length ps (j / 16) (j % 16) hi hr
      rw [hji] at hs ho
      have hk16 : k * 16 + 2 + 14 ≤ ps.length * 16 := by omega
      rw [e0, m3, hs, hv]
      by_cases hkj : j / 16 = k
      · have hset : (ps.set k p)[j / 16]'(by simpa using hi) = p := by simp [hkj]
        rw [hset]
        by_cases c1 : k * 16 + 2 ≤ j
        · rw [if_pos (by simp only [Array.size_setIfInBounds]; omega)]
          have := h2 (j - (k * 16 + 2)) (by omega)
          rw [← this]
          congr 1
          omega
        · rw [if_neg (by omega), Array.getElem?_setIfInBounds]
          by_cases c2 : k * 16 + 1 = j
          · rw [if_pos c2, if_pos (by omega), show j % 16 = 1 by omega, h1]
          · rw [if_neg c2, hat j hj, ho, show j % 16 = 0 by omega, h0]
            congr 2
            have : ps[j / 16] = ps[k] := by congr
            rw [this]
      · have hset : (ps.set k p)[j / 16]'(by simpa using hi) = ps[j / 16] := by
          rw [List.getElem_set_ne (by omega)]
        rw [hset, if_neg (by omega), Array.getElem?_setIfInBounds, if_neg (by omega), hat j hj, ho]
    · rw [if_neg hj, List.getElem?_eq_none (by rw [flatN_length 16 flP flP_length, hlen]; omega)]

/-- What a Pubrec makes of a session whose flight stands at z. -/
def recS (s : Sess) (z : Int) (fine : Bool) : Sess × Bool × Bool := match s.flights[z.toNat]? with
  | none => (s, false, false)
  | some f => if z < 0 then (s, false, false) else if f.state = 3 then (s, true, true) else if fine = false then (landS s z, true, false) else ({ s with flights := s.flights.set z.toNat ⟨f.id, 3, relI f.item⟩ }, true, true)
theorem recS_neg {s : Sess} {fine : Bool} {z : Int} (h : z < 0) : recS s z fine = (s, false, false) := by
  unfold recS
  split
  · rfl
  · rw [if_pos h]
theorem recS_at {s : Sess} {fine : Bool} {i : Nat} (h : i < s.flights.length) : recS s (i : Int) fine = if (s.flights[i]).state = 3 then (s, true, true) else if fine = false then (landS s i, true, false) else ({ s with flights := s.flights.set i ⟨(s.flights[i]).id, 3, relI (s.flights[i]).item⟩ }, true, true) := by
  unfold recS
  simp [List.getElem?_eq_getElem h]
  intro h0
  omega

theorem SR.flightAt {w : World} {M : Nat → Prop} {S : Nat} {s : Sess} (h : SR w M S s) {i : Nat} (hi : i < s.flights.length) {f : Fl} (hf : s.flights[i] = f) : ∃ NB MB GB GM sv qv g n fc v1 v2 v3, ∃ ps : List (V3 × Fl), SX w M S NB MB GB GM sv qv (.slice (some ⟨g, 0, none⟩) n fc) s ∧ n = s.flights.length ∧ ps.map (·.2) = s.flights ∧ ∃ hip : i < ps.length, ps[i] = ((v1, v2, v3), f) ∧ ps.length = n ∧
    w.ownsRow 0 51 16 (.slice (some ⟨g, 0, none⟩) n fc) n (ps.flatMap flP) ∧ (∀ p ∈ ps, ImS w M p.1 p.2.item) ∧ (∀ j, j < 16 → w.cell? ⟨g, i * 16 + j, none⟩ = [Value.int .i64 f.id, .int .i64 f.state, .string (str f.item.note.topic), v1, .int .i64 f.item.note.qos, .bool f.item.note.retain, .string (str f.item.note.src), .int .i64 f.item.note.expires, v2, .int .i64 f.item.note.origin, .int .i64 f.item.note.number, .int .i64 f.item.note.hops, .int .i64 f.item.qos, .bool f.item.keep, v3, .string (str f.item.share)][j]?) ∧ w.cell? ⟨g, i * 16 + 1, none⟩ = some (.int .i64 f.state) ∧ w.cell? ⟨g, i * 16 + 2, none⟩ = some (.string (str f.item.note.topic)) ∧ (i : Int) < (n : Int) ∧ w.frozen? ⟨g, i * 16 + 1, none⟩ = false := by
  obtain ⟨NB, MB, GB, GM, sv, qv, fv, hx⟩ := h
  obtain ⟨ps, hps, hrow, hcon, hown⟩ := id hx.hf
  have hlen : s.flights.length = ps.length := by rw [← hps]; simp
  have hip : i < ps.length := by omega
  have hrow0 := hrow
  rw [hlen] at hrow
  obtain ⟨fa, fc, hfv⟩ := owns_shape hrow
  subst hfv
  obtain ⟨g, hg⟩ := owns_head hrow (by omega)
  subst hg
  have hpi : (ps[i]).2 = f := by
    rw [← hf]
    have h2 := congrArg (fun l => l[i]?) hps
    simp only [List.getElem?_map, List.getElem?_eq_getElem hip, List.getElem?_eq_getElem hi, Option.map_some] at h2
    exact Option.some.inj h2
  have hc := fl_cells hrow hip
  obtain ⟨⟨⟨v1, v2, v3⟩, f'⟩, hp⟩ : ∃ p, ps[i] = p := ⟨_, rfl⟩
  rw [hp] at hpi hc
  simp only at hpi
  subst hpi
  exact ⟨NB, MB, GB, GM, sv, qv, g, ps.length, fc, v1, v2, v3, ps, hx, hlen.symm, hps, hip, hp, rfl, hrow, hcon, hc, hc 1 (by omega), hc 2 (by omega), by omega, hrow.frozenAt _⟩

set_option maxRecDepth 100000 in
set_option maxHeartbeats 3000000 in
theorem rec_any (S : Nat) (s : Sess) (num : Int) (fine : Bool) (z : Int) (hz : idxP (hitF num [2, 3]) s.flights = z) (hid : ∀ f ∈ s.flights, I64 f.id) (hl : s.flights.length ≤ 100000) (s' : Sess) (a b : Bool) (hr : recS s z fine = (s', a, b)) (w : World) (M : Nat → Prop) (h : SR w M S s) (R : Ending → World → Prop)
    (hR : ∀ M' w', SR w' M' S s' → Sep M M' w w' → R (.returned (.tuple #[.bool a, .bool b])) w') :
    Calls Tryz.prog 11 #[.pointer (some ⟨S, 0, none⟩), .int .i64 num, .bool fine] w R := by
  have HR := Lib.hid hR
  have hb0 : Below w.heap.size w (w.alloc (Obj.cells #[Value.int .i64 2, Value.int .i64 3] 3)) := (Below.refl _ _).alloc (Nat.le_refl _) _
  have HB0 := Lib.hid hb0
  have H1 := Lib.hid (h.below hb0)
  have HI := Lib.hid (two_is (w := w) (x := 2) (y := 3))
  have HZ := Lib.hid hz
  clear hR hb0 h hz
  by_cases h0 : 0 ≤ z
  · obtain ⟨i, hi, rfl, _, _⟩ := idxP_some HZ.out h0
    have hI := hid _ (List.getElem_mem hi)
    rw [recS_at hi] at hr
    have hii : ¬ (i : Int) < 0 := by omega
    obtain ⟨⟨fid, fst, x⟩, hf⟩ : ∃ f, s.flights[i] = f := ⟨_, rfl⟩
    rw [hf] at hI hr
    simp only at hI hr
    clear hid
    by_cases h3 : fst = 3
    · subst h3
      rw [if_pos rfl] at hr
      cases hr
      go_enter Tryz.func11, Tryz.ntmps11
      go_wp2_with (go_at_call 42; go_must (refine flight_any S s num [2, 3] (i : Int) HZ.out _ _ M H1.out (Nat.le_trans hl (by decide)) HI.out (by decide) _ ?_; intro w3 hb3; have HB3 := Lib.hid (below_then HB0.out hb3 HB0.out.size); have H3 := Lib.hid (H1.out.below hb3); clear hb3; obtain ⟨NB, MB, GB, GM, sv, qv, g, n, fc, v1, v2, v3, ps, hx, hn, hps, hip, hpi, hpl, hrow, hcon, hcl, cst, ctp, hin, cfz⟩ := SR.flightAt H3.out hi hf; have c7 := (ss9 hx.hS).2.2.2.1;  have HX := Lib.hid hx; have HPS := Lib.hid hps; have HIP := Lib.hid hip; have HPI := Lib.hid hpi; have HPL := Lib.hid hpl; have HROW := Lib.hid hrow; have HCON := Lib.hid hcon; have HCL := Lib.hid hcl; have HN := Lib.hid hn; clear hx hn hps hpl hrow hcon hcl))
      exact HR.out M w3 H3.out (Sep.of_below HB3.out)
    rw [if_neg h3] at hr
    have h3' : (fst == 3) = false := by simpa using h3
    cases fine with
    | false =>
      rw [if_pos rfl] at hr
      cases hr
      have HL : Hid (landS s (i : Int) = { s with nums := s.nums.erase fid, flights := s.flights.eraseIdx i }) := by
        show _ = _
        unfold landS
        rw [if_neg (by omega)]
        simp [List.getElem?_eq_getElem hi, hf]
      have HFD : Hid ((s.flights[i]).id = fid) := by show _ = _; rw [hf]
      go_enter Tryz.func11, Tryz.ntmps11
      go_wp2_with (first
        | (go_at_call 42; go_must (refine flight_any S s num [2, 3] (i : Int) HZ.out _ _ M H1.out (Nat.le_trans hl (by decide)) HI.out (by decide) _ ?_; intro w3 hb3; have HB3 := Lib.hid (below_then HB0.out hb3 HB0.out.size); have H3 := Lib.hid (H1.out.below hb3); clear hb3; obtain ⟨NB, MB, GB, GM, sv, qv, g, n, fc, v1, v2, v3, ps, hx, hn, hps, hip, hpi, hpl, hrow, hcon, hcl, cst, ctp, hin, cfz⟩ := SR.flightAt H3.out hi hf; have c7 := (ss9 hx.hS).2.2.2.1;  have HX := Lib.hid hx; have HPS := Lib.hid hps; have HIP := Lib.hid hip; have HPI := Lib.hid hpi; have HPL := Lib.hid hpl; have HROW := Lib.hid hrow; have HCON := Lib.hid hcon; have HCL := Lib.hid hcl; have HN := Lib.hid hn; clear hx hn hps hpl hrow hcon hcl))
        | (go_at_call 43; go_must (refine land_any S s i hi hl fid HFD.out hI w3 M H3.out _ ?_); intro M5 w5 hx5 hs5; have HX5 := Lib.hid hx5; have HS5 := Lib.hid hs5; clear hx5 hs5))
      exact HR.out M5 w5 (by rw [HL.out]; exact HX5.out) ((Sep.of_below HB3.out).trans HS5.out)
    | true =>
      rw [if_neg (by decide)] at hr
      have HRR := Lib.hid hr
      clear hr
      go_enter Tryz.func11, Tryz.ntmps11
      go_wp2_with (first
        | (go_at_call 42; go_must (refine flight_any S s num [2, 3] (i : Int) HZ.out _ _ M H1.out (Nat.le_trans hl (by decide)) HI.out (by decide) _ ?_; intro w3 hb3; have HB3 := Lib.hid (below_then HB0.out hb3 HB0.out.size); have H3 := Lib.hid (H1.out.below hb3); clear hb3; obtain ⟨NB, MB, GB, GM, sv, qv, g, n, fc, v1, v2, v3, ps, hx, hn, hps, hip, hpi, hpl, hrow, hcon, hcl, cst, ctp, hin, cfz⟩ := SR.flightAt H3.out hi hf; have c7 := (ss9 hx.hS).2.2.2.1;  have HX := Lib.hid hx; have HPS := Lib.hid hps; have HIP := Lib.hid hip; have HPI := Lib.hid hpi; have HPL := Lib.hid hpl; have HROW := Lib.hid hrow; have HCON := Lib.hid hcon; have HCL := Lib.hid hcl; have HN := Lib.hid hn; clear hx hn hps hpl hrow hcon hcl))
        | (have hq := HROW; refine wpList_store_at (o := ⟨none, .store 36 (.tmp 52) (.tmp 50), _, _, _, _⟩) (by rfl) 36 (.tmp 52) (.tmp 50) (by rfl) g (i * 16 + 2) _ (by rfl) (by rfl) (fun j hj => ?_) (fun j hj => ?_) (by kernel_rfl) (by simp [Value.oneCell']) ?_))
      · have hst := (HROW.out.stored (i * 16 + 1) (Value.int .i64 3)).1
        have hj : j < 14 := hj
        have := HIP.out
        have := HPL.out
        have hfl := flatN_length 16 flP flP_length ps
        rw [Nat.add_assoc, hst.cellAt (i * 16 + (2 + j)) (by omega), List.getElem?_eq_getElem (by rw [List.length_set, hfl]; omega)]
        rfl
      · exact (HROW.out.stored (i * 16 + 1) (Value.int .i64 3)).1.frozenAt _
      have hsf := set_flight (k := i) HIP.out (by rw [HPL.out]; exact HROW.out) (.int .i64 3) [.string (str x.note.topic), .slice none 0 0, .int .i64 0, .bool false, .string ⟨#[]⟩, .int .i64 0, .slice none 0 0, .int .i64 0, .int .i64 0, .int .i64 0, .int .i64 2, .bool false, .slice none 0 0, .string ⟨#[]⟩] ((.slice none 0 0, .slice none 0 0, .slice none 0 0), ⟨fid, 3, relI x⟩) (by rw [HPI.out]; rfl) rfl (fun j _ => rfl) rfl
      have hlm : (ps.set i ((.slice none 0 0, .slice none 0 0, .slice none 0 0), ⟨fid, 3, relI x⟩)).map (·.2) = s.flights.set i ⟨fid, 3, relI x⟩ := by rw [List.map_set, HPS.out]
      rw [HPL.out] at hsf
      have hle6 : (s.flights.set i ⟨fid, 3, relI x⟩).length = n := by rw [List.length_set, ← HN.out]
      have hmem : (((v1, v2, v3), ⟨fid, fst, x⟩) : V3 × Fl) ∈ ps := by
        have := List.getElem_mem HIP.out
        rw [HPI.out] at this
        exact this
      have hbx : ImB x := (HCON.out _ hmem).2
      rw [← hle6] at hsf
      have hg6 := grownBy_trans (grownBy_setCell w3 ⟨g, i * 16 + 1, none⟩ (.int .i64 3)) (grownBy_setCells g [.string (str x.note.topic), .slice none 0 0, .int .i64 0, .bool false, .string ⟨#[]⟩, .int .i64 0, .slice none 0 0, .int .i64 0, .int .i64 0, .int .i64 0, .int .i64 2, .bool false, .slice none 0 0, .string ⟨#[]⟩] (i * 16 + 2) _)
      have hx' := HX.out
      rw [← hle6] at hx'
      obtain ⟨hx6, hs6⟩ := SX.flyIn hx' rfl hlm (fun p hp => by
        rcases List.mem_or_eq_of_mem_set hp with hp | rfl
        · exact HCON.out p hp
        · exact relI_s w3 hbx) hsf hg6
      rw [hle6] at hx6
      clear hle6 hmem hbx hg6 hx'
      clear hsf hlm
      cases HRR.out
      go_wp2
      exact HR.out M _ ⟨NB, MB, GB, GM, sv, qv, _, hx6⟩ ((Sep.of_below HB3.out).trans hs6)
  · obtain ⟨rfl, _⟩ := idxP_neg HZ.out (by omega)
    rw [recS_neg (by decide)] at hr
    cases hr
    clear hid
    go_enter Tryz.func11, Tryz.ntmps11
    go_wp2_with (go_at_call 42; go_must (refine flight_any S s num [2, 3] (-1) HZ.out _ _ M H1.out (Nat.le_trans hl (by decide)) HI.out (by decide) _ ?_); intro w3 hb3; have HB3 := Lib.hid (below_then HB0.out hb3 HB0.out.size); have H3 := Lib.hid (H1.out.below hb3); clear hb3)
    exact HR.out M w3 H3.out (Sep.of_below HB3.out)
end Go.Proofs.YtgimbocoamnkjaaGreatDoor

/- (*Session).Lay at a session with one flight, nothing else: walked. -/
namespace Go.Proofs.YtgimbocoamnkjaaGreatDoor
open Go.RowKit

/-- The head of such a session's bytes. -/
def seHd (client : List UInt8) (expiry ends : Int) (online : Bool) : List UInt8 := (textL client).1 ++ putL (n64 expiry) 8 ++ putL (n64 ends) 8 ++ [b8 (if online then 1 else 0)] ++ [b8 0]
/-- The bytes of such a session. -/
def seBy (client : List UInt8) (expiry ends : Int) (online : Bool) (f : Fl) : List UInt8 :=
  seHd client expiry ends online ++ [b8 0] ++ [b8 1] ++ (putL (n64 f.id) 2 ++ [b8 f.state] ++ (dataL (imBy f.item)).1) ++ [b8 0]
theorem bss_rowF {w : World} {e g : Nat} {v0 v1 v2 v3 v4 : Value} {l0 l1 l2 l3 l4 : List UInt8} (hg : g = w.heap.size) (h0 : Bs w v0 l0) (h1 : Bs w v1 l1) (h2 : Bs w v2 l2) (h3 : Bs w v3 l3) (h4 : Bs w v4 l4) : Bss (w.alloc (.cells #[v0, v1, v2, v3, v4] e)) (.slice (some ⟨g, 0, none⟩) 5 5) [l0, l1, l2, l3, l4] := by
  subst hg
  exact bss_lit [v0, v1, v2, v3, v4] [l0, l1, l2, l3, l4] rfl (by simp) fun i hi => by
    match i, hi with
    | 0, _ => exact ⟨v0, rfl, h0⟩
    | 1, _ => exact ⟨v1, rfl, h1⟩
    | 2, _ => exact ⟨v2, rfl, h2⟩
    | 3, _ => exact ⟨v3, rfl, h3⟩
    | 4, _ => exact ⟨v4, rfl, h4⟩
theorem bss_rowD {w : World} {e g : Nat} {v0 v1 v2 v3 : Value} {l0 l1 l2 l3 : List UInt8} (hg : g = w.heap.size) (h0 : Bs w v0 l0) (h1 : Bs w v1 l1) (h2 : Bs w v2 l2) (h3 : Bs w v3 l3) : Bss (w.alloc (.cells #[v0, v1, v2, v3] e)) (.slice (some ⟨g, 0, none⟩) 4 4) [l0, l1, l2, l3] := by
  subst hg
  exact bss_lit [v0, v1, v2, v3] [l0, l1, l2, l3] rfl (by simp) fun i hi => by
    match i, hi with
    | 0, _ => exact ⟨v0, rfl, h0⟩
    | 1, _ => exact ⟨v1, rfl, h1⟩
    | 2, _ => exact ⟨v2, rfl, h2⟩
    | 3, _ => exact ⟨v3, rfl, h3⟩
theorem sone_var (b : Bool) (n r : Int) (hr : (if b then n else 0) = r) (w : World) (R : Ending → World → Prop) (hR : R (.returned (.int .i64 r)) w) : Calls Tryz.prog 58 #[.bool b, .int .i64 n] w R := by
  subst hr
  exact sone_any b n w R hR
/-- The cells that the head is laid from. -/
theorem slS {w : World} {S t : Nat} {fr : Nat × Nat} {a b c d e f g h i : Value} (hS : w.heap[S]? = some (.cells #[a, b, c, d, e, f, g, h, i] t fr)) : w.cell? ⟨S, 2, none⟩ = some c ∧ w.cell? ⟨S, 3, none⟩ = some d ∧ w.cell? ⟨S, 4, none⟩ = some e ∧ w.cell? ⟨S, 5, none⟩ = some f :=
  ⟨cell_of_row w S 2 _ _ _ hS, cell_of_row w S 3 _ _ _ hS, cell_of_row w S 4 _ _ _ hS, cell_of_row w S 5 _ _ _ hS⟩

theorem cells_on {w w' : World} {g o : Nat} {L : List Value} (h : ∀ j, j < L.length → w.cell? ⟨g, o + j, none⟩ = L[j]?) (hb : Below w.heap.size w w') : ∀ j, j < L.length → w'.cell? ⟨g, o + j, none⟩ = L[j]? := fun j hj => by
  have h1 := h j hj
  rw [List.getElem?_eq_getElem hj] at h1 ⊢
  exact cell_later hb h1
theorem slT {x : World} {T t : Nat} {fr : Nat × Nat} {a b c d e f g h i j k l m n o p : Value} (q : x.heap[T]? = some (.cells #[a, b, c, d, e, f, g, h, i, j, k, l, m, n, o, p] t fr)) : x.cell? ⟨T, 0, none⟩ = some a ∧ x.cell? ⟨T, 1, none⟩ = some b ∧ x.cell? ⟨T, 2, none⟩ = some c ∧ x.cell? ⟨T, 3, none⟩ = some d ∧ x.cell? ⟨T, 4, none⟩ = some e ∧ x.cell? ⟨T, 5, none⟩ = some f ∧ x.cell? ⟨T, 6, none⟩ = some g ∧ x.cell? ⟨T, 7, none⟩ = some h ∧ x.cell? ⟨T, 8, none⟩ = some i ∧ x.cell? ⟨T, 9, none⟩ = some j ∧ x.cell? ⟨T, 10, none⟩ = some k ∧ x.cell? ⟨T, 11, none⟩ = some l ∧ x.cell? ⟨T, 12, none⟩ = some m ∧ x.cell? ⟨T, 13, none⟩ = some n ∧ x.cell? ⟨T, 14, none⟩ = some o ∧ x.cell? ⟨T, 15, none⟩ = some p :=
  ⟨cell_of_row x T 0 _ _ _ q, cell_of_row x T 1 _ _ _ q, cell_of_row x T 2 _ _ _ q, cell_of_row x T 3 _ _ _ q, cell_of_row x T 4 _ _ _ q, cell_of_row x T 5 _ _ _ q, cell_of_row x T 6 _ _ _ q, cell_of_row x T 7 _ _ _ q, cell_of_row x T 8 _ _ _ q, cell_of_row x T 9 _ _ _ q, cell_of_row x T 10 _ _ _ q, cell_of_row x T 11 _ _ _ q, cell_of_row x T 12 _ _ _ q, cell_of_row x T 13 _ _ _ q, cell_of_row x T 14 _ _ _ q, cell_of_row x T 15 _ _ _ q⟩

set_option maxRecDepth 100000 in
set_option maxHeartbeats 8000000 in
theorem slay_any (S : Nat) (client : List UInt8) (expiry ends : Int) (online : Bool) (f : Fl) (nums : List Int) (hcl : client.length ≤ 100000) (hids : f.item.ids = []) (hlp : (f.item.note.props.flatMap laidL).length ≤ 90000000) (w : World) (M : Nat → Prop) (h : SR w M S ⟨client, expiry, ends, online, [], [], [f], nums, []⟩) (hT : Tabs w)
    (Y : List UInt8) (hY : seBy client expiry ends online f = Y) (hyl : Y.length ≤ 140000000) (hnl : (ntBy f.item.note).length ≤ 140000000) (hil : (imBy f.item).length ≤ 140000000) (R : Ending → World → Prop)
    (hR : ∀ ad c w', w'.ownsRow w.heap.size 5 1 (.slice ad Y.length c) Y.length (bv Y) → Below w.heap.size w w' → R (.returned (.slice ad Y.length c)) w') :
    Calls Tryz.prog 14 #[.pointer (some ⟨S, 0, none⟩)] w R := by
  have HR := Lib.hid hR
  have HT := Lib.hid hT
  have HIDS := Lib.hid hids
  clear hids
  have HSR := Lib.hid h
  obtain ⟨NB, MB, GB, GM, sv, qv, fv, hx⟩ := h
  obtain ⟨sa, sc, hsv⟩ := owns_shape hx.hs
  subst hsv
  obtain ⟨qps, _, hqr, _⟩ := hx.hq
  obtain ⟨qa, qc, hqv⟩ := hqr.shape
  subst hqv
  obtain ⟨ps, hps, hrow, hcon, _⟩ := hx.hf
  obtain ⟨⟨⟨v1, v2, v3⟩, f'⟩, rfl⟩ : ∃ p, ps = [p] := by
    match ps, hps with
    | [p], _ => exact ⟨p, rfl⟩
  obtain rfl : f = f' := (by simpa using hps : f' = f).symm
  obtain ⟨fa, fc, hfv⟩ := owns_shape hrow
  subst hfv
  obtain ⟨g, hg⟩ := owns_head hrow (Nat.zero_lt_one)
  subst hg
  have him := hcon _ (List.mem_singleton.2 rfl)
  obtain ⟨⟨pa, pc, e1⟩, ⟨qa2, qc2, e2⟩, ea, ec, e3⟩ := him.1.out.shape
  simp only at e1 e2 e3
  subst e1
  subst e2
  subst e3
  have hcell := fun j (hj : j < 16) => fl_cells hrow (k := 0) (Nat.zero_lt_one) j hj
  have HIM := Lib.hid him.1.out
  have HIB := Lib.hid him.2
  have HCELL := Lib.hid hcell
  have HXS := Lib.hid hx.hS
  have c1 := (ss9 hx.hS).1.2.1
  obtain ⟨⟨CC, ce⟩, hCC⟩ : ∃ q, textL client = q := ⟨_, rfl⟩
  obtain ⟨P1, hP1⟩ : ∃ q, putL (n64 expiry) 8 = q := ⟨_, rfl⟩
  obtain ⟨P2, hP2⟩ : ∃ q, putL (n64 ends) 8 = q := ⟨_, rfl⟩
  obtain ⟨HH, hHH⟩ : ∃ q, seHd client expiry ends online = q := ⟨_, rfl⟩
  obtain ⟨ON, hON⟩ : ∃ z : Int, (if online then 1 else 0) = z := ⟨_, rfl⟩
  have hHJ : [CC, P1, P2, [b8 ON], [b8 0]].flatten = HH := by
    rw [← hHH]
    unfold seHd
    simp only [hCC, hP1, hP2, hON]
    simp
  have HON := Lib.hid hON
  have HCC := Lib.hid hCC
  have HP1 : Hid (putW (n64 expiry) 8 = P1) := by show _ = _; rw [← hP1]; rfl
  have HP2 : Hid (putW (n64 ends) 8 = P2) := by show _ = _; rw [← hP2]; rfl
  have HHJ := Lib.hid hHJ
  have HHH := Lib.hid hHH
  have hHl : HH.length ≤ 140000000 := by
    have h1 := congrArg List.length hY
    unfold seBy at h1
    rw [hHH] at h1
    simp only [List.length_append] at h1
    omega
  have HHL := Lib.hid hHl
  have hwe : IntKind.u64.wrap expiry = (n64 expiry : Int) := by have := n64_wrap expiry; simpa using this
  have hwd : IntKind.u64.wrap ends = (n64 ends : Int) := by have := n64_wrap ends; simpa using this
  clear hON hR hT hx hqr hrow hcon him hcell hCC hP1 hP2 hHH hHJ hHl
  go_enter Tryz.func14, Tryz.ntmps14
  go_wp2_with (first
    | (go_at_call 54; go_must (refine text_any client CC ce HCC.out _ (by omega) HT.out _ ?_); intro ta tc w2 ho2 hb2; have HO2 := Lib.hid (bs_len ho2); have HB2 := Lib.hid hb2; have N2 := Lib.hid (row_on HXS.out hb2); clear ho2 hb2))
  have hk0 : Below w2.heap.size w2 w2.drew := (Below.refl _ _).drew
  have hn0 := row_on N2.out hk0
  have hc0 := HO2.out.below hk0
  go_cut [5] from 17 to 168 (fun sb wx => ∃ (ja : Option Addr) (jc : Nat), sb = .slice ja HH.length jc ∧ Hid (wx.ownsRow w.heap.size 5 1 (.slice ja HH.length jc) HH.length (bv HH)) ∧ Hid (Below w2.heap.size w2 wx))
  case first =>
    go_region_held3 (fun x => x.cell? ⟨S, 2, none⟩ = some (.int .i64 expiry) ∧ x.cell? ⟨S, 3, none⟩ = some (.int .i64 ends) ∧ x.cell? ⟨S, 4, none⟩ = some (.bool online) ∧ x.cell? ⟨S, 5, none⟩ = some (.slice sa 0 sc))
      (first | with_reducible exact slS hn0 | with_reducible exact slS hn3 | with_reducible exact slS hn4 | with_reducible exact slS hn5 | with_reducible exact slS hn6 | with_reducible exact slS hn7 | go_keep)
      (first
        | (have hq := hk0; go_at_call_of 56 (Value.int .u64 (n64 expiry : Int)); refine put_any (n64 expiry) (n64_lt _) 8 P1 HP1.out _ _ ?_; intro aa ac w3 ho3 hb3; have h1 := bs_len ho3; have hc3 := hc0.below hb3; have hn3 := row_on hn0 hb3; have hk3 := below_tra hk0 hb3; clear hq hk0)
        | (go_at_call_of 56 (Value.int .u64 (n64 ends : Int)); refine put_any (n64 ends) (n64_lt _) 8 P2 HP2.out _ _ ?_; intro ba bc w4 ho4 hb4; have h2 := bs_len ho4; replace h1 := h1.below hb4; have hc4 := hc3.below hb4; have hn4 := row_on hn3 hb4; have hk4 := below_tra hk3 hb4)
        | (go_at_call 58; refine sone_var online 1 ON HON.out _ _ ?_)
        | (have hq := hk4; go_at_call 57; refine small_any ON _ _ ?_; intro ca cc w5 ho5 hb5; have h3 := bs_len ho5; replace h1 := h1.below hb5; replace h2 := h2.below hb5; have hc5 := hc4.below hb5; have hn5 := row_on hn4 hb5; have hk5 := below_tra hk4 hb5; clear hq hk4)
        | (go_at_call 57; refine small_any 0 _ _ ?_; intro da dc w6 ho6 hb6; have h4 := bs_len ho6; replace h1 := h1.below hb6; replace h2 := h2.below hb6; replace h3 := h3.below hb6; have hc6 := hc5.below hb6; have hn6 := row_on hn5 hb6; have hk6 := below_tra hk5 hb6)
        | (go_at_call 55; have HALX := Lib.hid (fun o => below_tra hk6 ((Below.refl w6.heap.size w6).alloc (Nat.le_refl _) o) : ∀ o : Obj, Below w2.heap.size w2 (w6.alloc o)); have hbss := bss_rowF (e := 22) (g := w6.heap.size) rfl hc6 h1 h2 h3 h4; refine join_any _ _ HH HHJ.out _ hbss (by have := HHL.out; omega) _ ?_; clear hbss; intro ja jc w7 ho7 hb7; have HZ := Lib.hid (fun o => Nat.le_trans HB2.out.size (HALX.out o).size); have HB7 := Lib.hid (below_tra (HALX.out _) hb7); have hn7 := row_on N2.out HB7.out; have HO7 := Lib.hid ho7; clear hb7 ho7 HALX hk6 hc6 h1 h2 h3 h4 hn6))
    all_goals
      go_wp2_with fail
      go_meet
      exact ⟨ja, jc, rfl, Lib.hid (owns_mono HO7.out (HZ.out _)), HB7⟩
  obtain ⟨ja, jc, rfl, HOJ, HBJ⟩ := hcut
  obtain ⟨w8, rfl⟩ : ∃ x, x = wc := ⟨_, rfl⟩
  have hs8 := row_on N2.out HBJ.out
  have c5 := cell_of_row w8 S 5 _ _ _ hs8
  have c6 := cell_of_row w8 S 6 _ _ _ hs8
  have HS8 := Lib.hid hs8
  have HB8 : Hid (Below w.heap.size w w8) := below_then HB2.out HBJ.out HB2.out.size
  clear hk0 hn0 hc0 hs8
  go_wp2_with fail
  refine wp_loop_rounds 1 ?_
  rw [rounds_succ]
  go_wp2_with (first
    | (at_builtin; go_must (refine wpList_appAt (by rfl) (.tmp 91) (.tmp 98) 22 (by rfl) w.heap.size 5 (.int .u8 0) 1 1 Tryz.underlying22 Tryz.info5 rfl (by decide) ja HH.length jc _ (by rfl) (HOJ.out.alloc (Obj.cells #[Value.int .u8 0] 5)) (some ⟨w8.heap.size, 0, none⟩) 1 1 [Value.int .u8 0] (by rfl) (rd_lit w8 #[Value.int .u8 0] 5 1 1 rfl) (one_oneCell _ _) (fun h => by cases h) (by have := HHL.out; unfold maxLen; omega) (by have := HHL.out; omega) (Nat.le_trans HB8.out.size (by simp)) ?_); intro ad9 c9 w9 hown9 hg9 _; have hb9 := below_app (HB8.out.alloc HB8.out.size _) hg9 (Nat.le_trans HB8.out.size (by simp)) (HOJ.out.alloc (Obj.cells #[Value.int .u8 0] 5)); have HO9 := Lib.hid hown9; have HB9 := Lib.hid hb9; have hs9 := row_on HXS.out hb9; have c69 := cell_of_row w9 S 6 _ _ _ hs9; have c79 := cell_of_row w9 S 7 _ _ _ hs9; clear hown9 hg9 hb9 hs9))
  clear c5 c6
  refine wp_loop_rounds 1 ?_
  rw [rounds_succ]
  go_wp2_with (first
    | (at_builtin; go_must (refine wpList_appAt (by rfl) (.tmp 115) (.tmp 122) 22 (by rfl) w.heap.size 5 (.int .u8 0) 1 1 Tryz.underlying22 Tryz.info5 rfl (by decide) ad9 (HH.length + 1) c9 _ (by rfl) (HO9.out.alloc (Obj.cells #[Value.int .u8 1] 5)) (some ⟨w9.heap.size, 0, none⟩) 1 1 [Value.int .u8 1] (by rfl) (rd_lit w9 #[Value.int .u8 1] 5 1 1 rfl) (one_oneCell _ _) (fun h => by cases h) (by have := HHL.out; unfold maxLen; omega) (by have := HHL.out; omega) (Nat.le_trans HB9.out.size (by simp)) ?_); intro ad10 c10 w10 hown10 hg10 _; have hb10 := below_app (HB9.out.alloc HB9.out.size _) hg10 (Nat.le_trans HB9.out.size (by simp)) (HO9.out.alloc (Obj.cells #[Value.int .u8 1] 5)); have HO10 := Lib.hid hown10; have HB10 := Lib.hid hb10; have hs10 := row_on HXS.out hb10; have c7 := cell_of_row w10 S 7 _ _ _ hs10; have c8 := cell_of_row w10 S 8 _ _ _ hs10; clear hown10 hg10 hb10 hs10 c69 c79))
  have hc10 := cells_on (L := [Value.int .i64 f.id, .int .i64 f.state, .string (str f.item.note.topic), (.slice pa f.item.note.payload.length pc), .int .i64 f.item.note.qos, .bool f.item.note.retain, .string (str f.item.note.src), .int .i64 f.item.note.expires, (.slice qa2 f.item.note.props.length qc2), .int .i64 f.item.note.origin, .int .i64 f.item.note.number, .int .i64 f.item.note.hops, .int .i64 f.item.qos, .bool f.item.keep, (.slice ea f.item.ids.length ec), .string (str f.item.share)]) HCELL.out HB10.out
  have HC10 := Lib.hid hc10
  have N0 := Lib.hid (heap_alloc_new w10 (Obj.cells #[.int .i64 0, .int .i64 0, .string ⟨#[]⟩, .slice none 0 0, .int .i64 0, .bool false, .string ⟨#[]⟩, .int .i64 0, .slice none 0 0, .int .i64 0, .int .i64 0, .int .i64 0, .int .i64 0, .bool false, .slice none 0 0, .string ⟨#[]⟩] 51))
  clear hc10
  refine wp_loop_rounds 2 ?_
  rw [rounds_succ]
  go_upto_block 5 with fail
  obtain ⟨HL, hHL⟩ : ∃ q, HH ++ [b8 0] ++ [b8 1] = q := ⟨_, rfl⟩
  have hbs : Bs w10 (.slice ad10 (HH.length + 1 + 1) c10) HL := by
    refine bs_len (B := w.heap.size) (e := 5) ?_
    rw [← hHL, bv_append, bv_append]
    exact HO10.out
  have hHLl := congrArg List.length hHL
  simp only [List.length_append, List.length_cons, List.length_nil] at hHLl
  have HBS0 := Lib.hid hbs
  obtain ⟨P3, hP3⟩ : ∃ q, putL (n64 f.id) 2 = q := ⟨_, rfl⟩
  obtain ⟨IY, hIY⟩ : ∃ q, imBy f.item = q := ⟨_, rfl⟩
  obtain ⟨⟨DI, de⟩, hDI⟩ : ∃ q, dataL IY = q := ⟨_, rfl⟩
  obtain ⟨J2, hJ2⟩ : ∃ q, [HL, P3, [b8 f.state], DI].flatten = q := ⟨_, rfl⟩
  have hYJ : J2 ++ [b8 0] = Y := by
    rw [← hY, ← hJ2, ← hHL]
    unfold seBy
    simp only [HHH.out, hP3, hIY, hDI]
    simp
  have hJl : J2.length ≤ 140000000 := by
    have h1 := congrArg List.length hYJ
    rw [List.length_append] at h1
    omega
  have hwi : IntKind.u64.wrap f.id = (n64 f.id : Int) := by have := n64_wrap f.id; simpa using this
  have HP3 : Hid (putW (n64 f.id) 2 = P3) := by show _ = _; rw [← hP3]; rfl
  have HIY := Lib.hid hIY
  have HDI := Lib.hid hDI
  have HJ2 := Lib.hid hJ2
  have HYJ := Lib.hid hYJ
  have HJL := Lib.hid hJl
  rw [hIY] at hil
  have HIL := Lib.hid hil
  have HLP := Lib.hid hlp
  have HNL := Lib.hid hnl
  clear hwe hwd hbs hP3 hIY hDI hJ2 hYJ hJl hHLl hHL hil hlp hnl hY N0
  go_cut [5, 13] from 131 to 147 (fun sb _ wx => ∃ (ja : Option Addr) (jc : Nat), sb = .slice ja J2.length jc ∧ Hid (wx.ownsRow w.heap.size 5 1 (.slice ja J2.length jc) J2.length (bv J2)) ∧ Hid (Below w.heap.size w wx))
  case first =>
    go_upto_region 19 with (first
      | (refine wpList_load_at (o := ⟨some 132, .load 51 (.tmp 131), _, _, _, _⟩) (by rfl) 51 (.tmp 131) (by rfl) (g) (0 * 16) (by rfl) ([Value.int .i64 f.id, .int .i64 f.state, .string (str f.item.note.topic), (.slice pa f.item.note.payload.length pc), .int .i64 f.item.note.qos, .bool f.item.note.retain, .string (str f.item.note.src), .int .i64 f.item.note.expires, (.slice qa2 f.item.note.props.length qc2), .int .i64 f.item.note.origin, .int .i64 f.item.note.number, .int .i64 f.item.note.hops, .int .i64 f.item.qos, .bool f.item.keep, (.slice ea f.item.ids.length ec), .string (str f.item.share)]) _ (HC10.out) (Tryz.underlying51) (by rfl) (by kernel_rfl) ?_))
    have hb11 := (Below.refl w10.heap.size w10).alloc (Nat.le_refl _) (Obj.cells #[Value.int .i64 f.id, .int .i64 f.state, .string (str f.item.note.topic), (.slice pa f.item.note.payload.length pc), .int .i64 f.item.note.qos, .bool f.item.note.retain, .string (str f.item.note.src), .int .i64 f.item.note.expires, (.slice qa2 f.item.note.props.length qc2), .int .i64 f.item.note.origin, .int .i64 f.item.note.number, .int .i64 f.item.note.hops, .int .i64 f.item.qos, .bool f.item.keep, (.slice ea f.item.ids.length ec), .string (str f.item.share)] 51)
    have n11 := heap_alloc_new w10 (Obj.cells #[Value.int .i64 f.id, .int .i64 f.state, .string (str f.item.note.topic), (.slice pa f.item.note.payload.length pc), .int .i64 f.item.note.qos, .bool f.item.note.retain, .string (str f.item.note.src), .int .i64 f.item.note.expires, (.slice qa2 f.item.note.props.length qc2), .int .i64 f.item.note.origin, .int .i64 f.item.note.number, .int .i64 f.item.note.hops, .int .i64 f.item.qos, .bool f.item.keep, (.slice ea f.item.ids.length ec), .string (str f.item.share)] 51)
    generalize w10.alloc (Obj.cells #[Value.int .i64 f.id, .int .i64 f.state, .string (str f.item.note.topic), (.slice pa f.item.note.payload.length pc), .int .i64 f.item.note.qos, .bool f.item.note.retain, .string (str f.item.note.src), .int .i64 f.item.note.expires, (.slice qa2 f.item.note.props.length qc2), .int .i64 f.item.note.origin, .int .i64 f.item.note.number, .int .i64 f.item.note.hops, .int .i64 f.item.qos, .bool f.item.keep, (.slice ea f.item.ids.length ec), .string (str f.item.share)] 51) = w11 at hb11 n11 ⊢
    have HB11 := Lib.hid (below_then HB10.out hb11 HB10.out.size)
    have HT11 := Lib.hid ((HT.out.below HB10.out).below hb11)
    have HI11 := Lib.hid ((HIM.out.below HB10.out).below hb11)
    have HBS := Lib.hid (HBS0.out.below hb11)
    obtain ⟨T, hTT⟩ : ∃ T, w10.heap.size = T := ⟨_, rfl⟩
    rw [hTT] at n11 ⊢
    have N11 := Lib.hid n11
    clear hb11 n11 hTT HC10
    have hk0 : Below w11.heap.size w11 w11.drew := (Below.refl _ _).drew
    have hn0 := row_on N11.out hk0
    have hc0 := HBS.out.below hk0
    go_region_held3 (fun x => x.cell? ⟨T, 0, none⟩ = some (.int .i64 f.id) ∧ x.cell? ⟨T, 1, none⟩ = some (.int .i64 f.state) ∧ x.cell? ⟨T, 2, none⟩ = some (.string (str f.item.note.topic)) ∧ x.cell? ⟨T, 3, none⟩ = some (.slice pa f.item.note.payload.length pc) ∧ x.cell? ⟨T, 4, none⟩ = some (.int .i64 f.item.note.qos) ∧ x.cell? ⟨T, 5, none⟩ = some (.bool f.item.note.retain) ∧ x.cell? ⟨T, 6, none⟩ = some (.string (str f.item.note.src)) ∧ x.cell? ⟨T, 7, none⟩ = some (.int .i64 f.item.note.expires) ∧ x.cell? ⟨T, 8, none⟩ = some (.slice qa2 f.item.note.props.length qc2) ∧ x.cell? ⟨T, 9, none⟩ = some (.int .i64 f.item.note.origin) ∧ x.cell? ⟨T, 10, none⟩ = some (.int .i64 f.item.note.number) ∧ x.cell? ⟨T, 11, none⟩ = some (.int .i64 f.item.note.hops) ∧ x.cell? ⟨T, 12, none⟩ = some (.int .i64 f.item.qos) ∧ x.cell? ⟨T, 13, none⟩ = some (.bool f.item.keep) ∧ x.cell? ⟨T, 14, none⟩ = some (.slice ea f.item.ids.length ec) ∧ x.cell? ⟨T, 15, none⟩ = some (.string (str f.item.share)))
      (first | with_reducible exact slT hn0 | with_reducible exact slT hn3 | with_reducible exact slT hn4 | with_reducible exact slT hn5 | with_reducible exact slT hn6 | with_reducible exact slT hn7 | go_keep)
      (first
        | (have hq := hk0; go_at_call_of 56 (Value.int .u64 (n64 f.id : Int)); refine put_any (n64 f.id) (n64_lt _) 2 P3 HP3.out _ _ ?_; intro aa ac w3 ho3 hb3; have h1 := bs_len ho3; have hc3 := hc0.below hb3; have hn3 := row_on hn0 hb3; have hk3 := below_tra hk0 hb3; clear hq hk0)
        | (have hq := hk3; go_at_call 57; refine small_any f.state _ _ ?_; intro ba bc w4 ho4 hb4; have h2 := bs_len ho4; replace h1 := h1.below hb4; have hc4 := hc3.below hb4; have hn4 := row_on hn3 hb4; have hk4 := below_tra hk3 hb4; clear hq hk3)
        | (go_at_call 60; refine ilay_any f.item HIDS.out _ _ _ _ (HI11.out.below hk4) HIB.out HLP.out (HT11.out.below hk4) IY HIY.out (by have := HNL.out; omega) (by have := HIL.out; omega) _ ?_; intro ca cc w5 ho5 hb5; have h3 := bs_len ho5; replace h1 := h1.below hb5; replace h2 := h2.below hb5; have hc5 := hc4.below hb5; have hn5 := row_on hn4 hb5; have hk5 := below_tra hk4 hb5)
        | (go_at_call 59; refine sdata_any _ IY DI de HDI.out _ h3 _ ?_; intro da dc w6 ho6 hb6; have h4 := bs_len ho6; replace h1 := h1.below hb6; replace h2 := h2.below hb6; have hc6 := hc5.below hb6; have hn6 := row_on hn5 hb6; have hk6 := below_tra hk5 hb6)
        | (go_at_call 55; have HALX := Lib.hid (fun o => below_tra hk6 ((Below.refl w6.heap.size w6).alloc (Nat.le_refl _) o) : ∀ o : Obj, Below w11.heap.size w11 (w6.alloc o)); have hbss := bss_rowD (e := 22) (g := w6.heap.size) rfl hc6 h1 h2 h4; refine join_any _ _ J2 HJ2.out _ hbss (by have := HJL.out; omega) _ ?_; clear hbss; intro ja jc w7 ho7 hb7; have HZ := Lib.hid (fun o => Nat.le_trans HB11.out.size (HALX.out o).size); have HB7 := Lib.hid (below_tra (HALX.out _) hb7); have hn7 := row_on N11.out HB7.out; have HO7 := Lib.hid ho7; clear hb7 ho7 HALX hk6 hc6 h1 h2 h3 h4 hn6))
    all_goals
      go_wp2_with fail
      go_meet
      exact ⟨ja, jc, rfl, Lib.hid (owns_mono HO7.out (HZ.out _)), Lib.hid (below_then HB11.out HB7.out HB11.out.size)⟩
  obtain ⟨ja2, jc2, rfl, HOJ2, HB12⟩ := hcut
  obtain ⟨w12, rfl⟩ : ∃ x, x = wc := ⟨_, rfl⟩
  have HS12 := Lib.hid (HSR.out.below HB12.out)
  go_wp2_with fail
  rw [rounds_succ]
  go_wp2_with (first
    | (go_at_call 61; go_must (refine got_none S _ rfl _ _ HS12.out _ ?_); intro w13 hb13; have HO13 := Lib.hid (owns_below HOJ2.out hb13); have HB13 := Lib.hid (below_then HB12.out hb13 HB12.out.size); clear hb13)
    | (at_builtin; go_must (refine wpList_appAt (by rfl) (.tmp 150) (.tmp 154) 22 (by rfl) w.heap.size 5 (.int .u8 0) 1 1 Tryz.underlying22 Tryz.info5 rfl (by decide) ja2 J2.length jc2 _ (by rfl) (HO13.out.alloc (Obj.cells #[Value.int .u8 0] 5)) (some ⟨w13.heap.size, 0, none⟩) 1 1 [Value.int .u8 0] (by rfl) (rd_lit w13 #[Value.int .u8 0] 5 1 1 rfl) (one_oneCell _ _) (fun h => by cases h) (by have := HJL.out; unfold maxLen; omega) (by have := HJL.out; omega) (Nat.le_trans HB13.out.size (by simp)) ?_); intro ad14 c14 w14 hown14 hg14 _; have hb14 := below_app (HB13.out.alloc HB13.out.size _) hg14 (Nat.le_trans HB13.out.size (by simp)) (HO13.out.alloc (Obj.cells #[Value.int .u8 0] 5)); have HO14 := Lib.hid hown14; have HB14 := Lib.hid hb14; clear hown14 hg14 hb14))
  refine wp_loop_rounds 1 ?_
  rw [rounds_succ]
  go_wp2_with fail
  have hlen : J2.length + 1 = Y.length := by
    rw [← HYJ.out, List.length_append]
    rfl
  have hr := HR.out ad14 c14
  rw [← hlen, ← HYJ.out, bv_append] at hr
  exact hr _ HO14.out HB14.out
end Go.Proofs.YtgimbocoamnkjaaGreatDoor
