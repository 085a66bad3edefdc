/- (*Session).flight and what it leans on, walked. -/
import Derived.Test.YtgimbocoamnkjaaGreatDoorM18
import Derived.Deep.LoopGhost
import Derived.Deep.RegionLaw
import Derived.Lib.SliceRun
namespace Go.Proofs.YtgimbocoamnkjaaGreatDoor
open Go.RowKit

/-- The place of the first that p says yes to; -1: none. -/
def idxP {α : Type} (p : α → Bool) (l : List α) : Int := match l.findIdx? p with
  | some i => (i : Int)
  | none => -1
theorem idxP_hit {α : Type} {p : α → Bool} {l : List α} {k : Nat} (hk : k < l.length) (h : p l[k] = true) (ho : ∀ j (hj : j < k), p (l[j]'(by omega)) = false) : idxP p l = k := by
  unfold idxP
  rw [(List.findIdx?_eq_some_iff_getElem (p := p) (xs := l) (i := k)).2 ⟨hk, h, fun j hj => by rw [ho j hj]; simp⟩]
theorem idxP_none {α : Type} {p : α → Bool} {l : List α} (h : ∀ x ∈ l, p x = false) : idxP p l = -1 := by
  unfold idxP
  rw [List.findIdx?_eq_none_iff.2 h]

set_option maxRecDepth 100000 in
set_option maxHeartbeats 1000000 in
theorem index_any (v : Value) (l : List Int) (d : Int) (z : Int) (hz : idxP (fun x => x == d) l = z) (hl : l.length ≤ 1000000) (w : World) (hv : Is w v l) (R : Ending → World → Prop)
    (hR : R (.returned (.int .i64 z)) w) :
    Calls Tryz.prog 141 #[v, .int .i64 d] w R := by
  have HR := Lib.hid hR
  have HV := Lib.hid hv
  have HZ := Lib.hid hz
  obtain ⟨va, vc, rfl, _⟩ := hv
  clear hR hz
  go_enter Tryz.func141, Tryz.ntmps141
  go_wp2
  go_loopg [8] l.length (fun gn i wr => ∃ k : Nat, k ≤ l.length ∧ gn = l.length - k ∧ i = .int .i64 k ∧ wr = w ∧ Hid (∀ (j : Nat) (hj : j < k) (h : j < l.length), (l[j] == d) = false))
  case atStart => exact ⟨0, Nat.zero_le _, by omega, rfl, rfl, fun j hj => by omega⟩
  case round =>
    obtain ⟨k, hk, rfl, rfl, rfl, HS⟩ := hrel
    by_cases hlt : k < l.length
    · have hkk : (k : Int) < (l.length : Int) := by omega
      obtain ⟨b, o, rfl, hc⟩ := HV.out.at k hlt
      by_cases he : d = l[k]
      · have he' : (d == l[k]) = true := by simp [he]
        obtain rfl : z = (k : Int) := by
          rw [← HZ.out]
          exact idxP_hit hlt (by simp [he]) (fun j hj => HS.out j hj (by omega))
        go_wp2
        exact HR.out
      · have he' : (d == l[k]) = false := by simpa using he
        have HN : Hid (∀ (j : Nat) (hj : j < k + 1) (h : j < l.length), (l[j] == d) = false) := fun j hj h => by
          by_cases e : j = k
          · subst e
            simpa using fun h => he h.symm
          · exact HS.out j (by omega) h
        clear he HS
        go_wp2
        go_roundg (l.length - (k + 1))
        case measure => omega
        case rel => exact ⟨k + 1, by omega, rfl, by go_num, rfl, HN⟩
    · have hkk : ¬ (k : Int) < (l.length : Int) := by omega
      obtain rfl : z = -1 := by
        rw [← HZ.out]
        refine idxP_none fun x hx => ?_
        obtain ⟨j, hj, rfl⟩ := List.getElem_of_mem hx
        exact HS.out j (by omega) hj
      go_wp2
      exact HR.out

theorem idxP_nonneg {l : List Int} {d : Int} : (decide (0 ≤ idxP (fun x => x == d) l)) = l.contains d := by
  cases h : l.contains d with
  | true =>
    have hm : d ∈ l := by simpa using h
    unfold idxP
    cases hf : l.findIdx? (fun x => x == d) with
    | some i => simp
    | none =>
      have := List.findIdx?_eq_none_iff.1 hf d hm
      simp at this
  | false =>
    have hm : d ∉ l := by simpa using h
    rw [idxP_none (fun x hx => by
      simp only [beq_eq_false_iff_ne, ne_eq]
      rintro rfl
      exact hm hx)]
    rfl

set_option maxRecDepth 100000 in
set_option maxHeartbeats 1000000 in
theorem contains_any (v : Value) (l : List Int) (d : Int) (b : Bool) (hb : l.contains d = b) (hl : l.length ≤ 1000000) (w : World) (hv : Is w v l) (R : Ending → World → Prop)
    (hR : R (.returned (.bool b)) w) :
    Calls Tryz.prog 105 #[v, .int .i64 d] w R := by
  have HR := Lib.hid hR
  have HV := Lib.hid hv
  obtain ⟨z, hz⟩ : ∃ z, idxP (fun x => x == d) l = z := ⟨_, rfl⟩
  have hbz : decide (0 ≤ z) = b := by rw [← hz, ← hb]; exact idxP_nonneg
  have HZ := Lib.hid hz
  clear hR hb hz hv
  cases b with
  | true =>
    have h0 : 0 ≤ z := by simpa using hbz
    clear hbz
    go_enter Tryz.func105, Tryz.ntmps105
    go_wp2_with (go_at_call 141; go_must (refine index_any v l d z HZ.out hl _ HV.out _ ?_))
    exact HR.out
  | false =>
    have h0 : ¬ 0 ≤ z := by simpa using hbz
    clear hbz
    go_enter Tryz.func105, Tryz.ntmps105
    go_wp2_with (go_at_call 141; go_must (refine index_any v l d z HZ.out hl _ HV.out _ ?_))
    show R (Ending.returned (Value.bool (decide (0 ≤ z)))) w
    rw [decide_eq_false (show ¬ (0 ≤ z) by omega)]
    exact HR.out

/-- Is it the flight of that number, in one of those states? -/
def hitF (id : Int) (st : List Int) (f : Fl) : Bool := f.id == id && st.contains f.state

set_option maxRecDepth 100000 in
set_option maxHeartbeats 1000000 in
theorem hit_any (A4 A5 : Nat) (c0 c1 c2 c3 c4 c5 c6 c7 c8 c9 c10 c11 c12 c13 : Value) (fid fst : Int) (sv : Value) (id : Int) (st : List Int) (b : Bool) (hb : (fid == id && st.contains fst) = b) (w : World) (h4 : w.cell? ⟨A4, 0, none⟩ = some (.int .i64 id)) (h5 : w.cell? ⟨A5, 0, none⟩ = some sv) (hv : Is w sv st) (hl : st.length ≤ 1000000) (R : Ending → World → Prop)
    (hR : ∀ w', Below w.heap.size w w' → R (.returned (.bool b)) w') :
    Calls Tryz.prog 104 #[.agg #[.int .i64 fid, .int .i64 fst, c0, c1, c2, c3, c4, c5, c6, c7, c8, c9, c10, c11, c12, c13], .pointer (some ⟨A4, 0, none⟩), .pointer (some ⟨A5, 0, none⟩)] w R := by
  have HR := Lib.hid hR
  have hb0 : Below w.heap.size w (w.alloc (.cells #[.int .i64 fid, .int .i64 fst, c0, c1, c2, c3, c4, c5, c6, c7, c8, c9, c10, c11, c12, c13] 51)) := (Below.refl _ _).alloc (Nat.le_refl _) _
  have HB0 := Lib.hid hb0
  have HV := Lib.hid (hv.below hb0)
  have g4 := cell_later hb0 h4
  have g5 := cell_later hb0 h5
  obtain ⟨sa, sc, rfl, _⟩ := hv
  clear hR hb0 h4 h5
  by_cases he : fid = id
  · have he' : (fid == id) = true := by simp [he]
    have hb' : st.contains fst = b := by rw [← hb, he']; rfl
    have HBB := Lib.hid hb'
    clear hb hb' he
    go_enter Tryz.func104, Tryz.ntmps104
    go_wp2_with (go_at_call 105; go_must (refine contains_any _ st fst b HBB.out hl _ HV.out _ ?_))
    exact HR.out _ HB0.out
  · have he' : (fid == id) = false := by simpa using he
    obtain rfl : false = b := by rw [← hb, he']; rfl
    clear hb he
    go_enter Tryz.func104, Tryz.ntmps104
    go_wp2
    exact HR.out _ HB0.out
end Go.Proofs.YtgimbocoamnkjaaGreatDoor

/- slices.IndexFunc at flights, and (*Session).flight, walked. -/
namespace Go.Proofs.YtgimbocoamnkjaaGreatDoor
open Go.RowKit

theorem fl_cells {w : World} {B g c : Nat} {ps : List (V3 × Fl)} (h : w.ownsRow B 51 16 (.slice (some ⟨g, 0, none⟩) ps.length c) ps.length (ps.flatMap flP)) {k : Nat} (hk : k < ps.length) : ∀ j, j < 16 → w.cell? ⟨g, k * 16 + j, none⟩ = (flP ps[k])[j]? := fun j hj => by
  rw [h.cellAt (k * 16 + j) (by omega), flatN 16 flP flP_length ps k j hk hj]
theorem idxP_map {α β : Type} (f : α → β) (p : β → Bool) (l : List α) : idxP p (l.map f) = idxP (fun x => p (f x)) l := by
  unfold idxP
  rw [List.findIdx?_map]
  rfl

set_option maxRecDepth 100000 in
set_option maxHeartbeats 1600000 in
theorem indexf_any (fv : Value) (ps : List (V3 × Fl)) (id : Int) (st : List Int) (z : Int) (hz : idxP (fun p : V3 × Fl => hitF id st p.2) ps = z) (hl : ps.length ≤ 1000000) (A4 A5 : Nat) (sv : Value) (w : World) (hf : w.ownsRow 0 51 16 fv ps.length (ps.flatMap flP))
    (h4 : w.cell? ⟨A4, 0, none⟩ = some (.int .i64 id)) (h5 : w.cell? ⟨A5, 0, none⟩ = some sv) (hv : Is w sv st) (hsl : st.length ≤ 1000000) (R : Ending → World → Prop)
    (hR : ∀ w', Below w.heap.size w w' → R (.returned (.int .i64 z)) w') :
    Calls Tryz.prog 103 #[fv, .func (.func 104) #[] #[.pointer (some ⟨A4, 0, none⟩), .pointer (some ⟨A5, 0, none⟩)]] w R := by
  have HR := Lib.hid hR
  have HF := Lib.hid hf
  have HZ := Lib.hid hz
  have H4 := Lib.hid h4
  have H5 := Lib.hid h5
  have HV := Lib.hid hv
  obtain ⟨fa, fc, rfl⟩ := owns_shape hf
  clear hR hz h4 h5 hv hf
  go_enter Tryz.func103, Tryz.ntmps103
  go_wp2
  go_loopg [5, 8] ps.length (fun gn _ i wr => ∃ k : Nat, k ≤ ps.length ∧ gn = ps.length - k ∧ i = .int .i64 k ∧ Hid (Below w.heap.size w wr) ∧ Hid (∀ (j : Nat) (hj : j < k) (h : j < ps.length), hitF id st (ps[j]).2 = false))
  case atStart => exact ⟨0, Nat.zero_le _, by omega, rfl, Lib.hid (Below.refl _ _), fun j hj => by omega⟩
  case round =>
    obtain ⟨k, hk, rfl, rfl, HB, HS⟩ := hrel
    obtain ⟨wo, rfl⟩ : ∃ x, x = wr := ⟨_, rfl⟩
    by_cases hlt : k < ps.length
    · have hkk : (k : Int) < (ps.length : Int) := by omega
      have hown := owns_below HF.out HB.out
      obtain ⟨g, hg⟩ := owns_head hown (by omega)
      subst hg
      have hcell := fl_cells hown hlt
      have HP : Hid (∀ b, hitF id st (ps[k]).2 = b → (b = true → z = (k : Int)) ∧ (b = false → ∀ (j : Nat) (hj : j < k + 1) (h : j < ps.length), hitF id st (ps[j]).2 = false)) := by
        rintro b hb
        refine ⟨fun e => ?_, fun e j hj h => ?_⟩
        · rw [← HZ.out]
          exact idxP_hit hlt (hb.trans e) (fun j hj => HS.out j hj (by omega))
        · by_cases e2 : j = k
          · subst e2
            exact hb.trans e
          · exact HS.out j (by omega) h
      obtain ⟨⟨⟨v1, v2, v3⟩, ⟨fid, fst, x⟩⟩, hp⟩ : ∃ p, ps[k] = p := ⟨_, rfl⟩
      rw [hp] at hcell HP
      have HC : Hid (∀ j, j < 16 → wo.cell? ⟨g, k * 16 + j, none⟩ = [Value.int .i64 fid, .int .i64 fst, .string (str x.note.topic), v1, .int .i64 x.note.qos, .bool x.note.retain, .string (str x.note.src), .int .i64 x.note.expires, v2, .int .i64 x.note.origin, .int .i64 x.note.number, .int .i64 x.note.hops, .int .i64 x.qos, .bool x.keep, v3, .string (str x.share)][j]?) := hcell
      obtain ⟨b, hb⟩ : ∃ b, hitF id st ⟨fid, fst, x⟩ = b := ⟨_, rfl⟩
      have HPB := Lib.hid (HP.out b hb)
      have HBB : Hid ((fid == id && st.contains fst) = b) := hb
      have h4' : Hid (wo.cell? ⟨A4, 0, none⟩ = some (.int .i64 id)) := cell_later HB.out H4.out
      have h5' : Hid (wo.cell? ⟨A5, 0, none⟩ = some sv) := cell_later HB.out H5.out
      have hv' := Lib.hid (HV.out.below HB.out)
      clear hown hcell HP hb hp HS
      cases b with
      | true =>
        obtain rfl := HPB.out.1 rfl
        clear HPB
        go_wp2_with (first
          | (refine wpList_load_at (o := ⟨some 15, .load 51 (.tmp 14), _, _, _, _⟩) (by rfl) 51 (.tmp 14) (by rfl) (g) (k * 16) (by rfl) ([Value.int .i64 fid, .int .i64 fst, .string (str x.note.topic), v1, .int .i64 x.note.qos, .bool x.note.retain, .string (str x.note.src), .int .i64 x.note.expires, v2, .int .i64 x.note.origin, .int .i64 x.note.number, .int .i64 x.note.hops, .int .i64 x.qos, .bool x.keep, v3, .string (str x.share)]) _ (HC.out) (Tryz.underlying51) (by rfl) (by kernel_rfl) ?_)
          | (go_at_call 104; go_must (refine hit_any A4 A5 _ _ _ _ _ _ _ _ _ _ _ _ _ _ fid fst sv id st true HBB.out wo h4'.out h5'.out hv'.out hsl _ ?_); intro w7 hb7; have HB7 := Lib.hid (below_then HB.out hb7 HB.out.size); clear hb7))
        exact HR.out _ HB7.out
      | false =>
        have HN := Lib.hid (HPB.out.2 rfl)
        clear HPB
        go_wp2_with (first
          | (refine wpList_load_at (o := ⟨some 15, .load 51 (.tmp 14), _, _, _, _⟩) (by rfl) 51 (.tmp 14) (by rfl) (g) (k * 16) (by rfl) ([Value.int .i64 fid, .int .i64 fst, .string (str x.note.topic), v1, .int .i64 x.note.qos, .bool x.note.retain, .string (str x.note.src), .int .i64 x.note.expires, v2, .int .i64 x.note.origin, .int .i64 x.note.number, .int .i64 x.note.hops, .int .i64 x.qos, .bool x.keep, v3, .string (str x.share)]) _ (HC.out) (Tryz.underlying51) (by rfl) (by kernel_rfl) ?_)
          | (go_at_call 104; go_must (refine hit_any A4 A5 _ _ _ _ _ _ _ _ _ _ _ _ _ _ fid fst sv id st false HBB.out wo h4'.out h5'.out hv'.out hsl _ ?_); intro w7 hb7; have HB7 := Lib.hid (below_then HB.out hb7 HB.out.size); clear hb7))
        go_roundg (ps.length - (k + 1))
        case measure => omega
        case rel => exact ⟨k + 1, by omega, rfl, by go_num, HB7, HN⟩
    · have hkk : ¬ (k : Int) < (ps.length : Int) := by omega
      obtain rfl : z = -1 := by
        rw [← HZ.out]
        refine idxP_none fun x hx => ?_
        obtain ⟨j, hj, rfl⟩ := List.getElem_of_mem hx
        exact HS.out j (by omega) hj
      go_wp2
      exact HR.out _ HB.out

set_option maxRecDepth 100000 in
set_option maxHeartbeats 800000 in
theorem flight_any (S : Nat) (s : Sess) (id : Int) (st : List Int) (z : Int) (hz : idxP (hitF id st) s.flights = z) (sv : Value) (w : World) (M : Nat → Prop) (h : SR w M S s) (hl : s.flights.length ≤ 1000000) (hv : Is w sv st) (hsl : st.length ≤ 1000000) (R : Ending → World → Prop)
    (hR : ∀ w', Below w.heap.size w w' → R (.returned (.int .i64 z)) w') :
    Calls Tryz.prog 42 #[.pointer (some ⟨S, 0, none⟩), .int .i64 id, sv] w R := by
  obtain ⟨NB, MB, GB, GM, sb, qv, fv, hx⟩ := h
  have HR := Lib.hid hR
  have hv' := hv
  obtain ⟨va, vc, rfl, _⟩ := hv'
  have hb0 : Below w.heap.size w ((w.alloc (.cells #[.int .i64 id] 3)).alloc (.cells #[.slice va st.length vc] 25)) := ((Below.refl _ _).alloc (Nat.le_refl _) _).alloc (by simp) _
  have HB0 := Lib.hid hb0
  have h4 := block_alloc (o' := (Obj.cells #[.slice va st.length vc] 25)) (heap_alloc_new w (.cells #[.int .i64 id] 3))
  have h5 := heap_alloc_new (w.alloc (.cells #[.int .i64 id] 3)) (.cells #[.slice va st.length vc] 25)
  have HV := Lib.hid (hv.below hb0)
  have hx1 := hx.below hb0
  obtain ⟨ps, hps, hrow, _⟩ := hx1.hf
  have HROW := Lib.hid hrow
  obtain ⟨fa, fc, rfl⟩ := owns_shape hrow
  have c7 := (ss9 hx1.hS).2.2.2.1
  have hlen : s.flights.length = ps.length := by rw [← hps]; simp
  rw [← hps, idxP_map] at hz
  have HZ := Lib.hid hz
  have HLEN := Lib.hid hlen
  have g4 : Hid (((w.alloc (.cells #[.int .i64 id] 3)).alloc (.cells #[.slice va st.length vc] 25)).cell? ⟨w.heap.size, 0, none⟩ = some (.int .i64 id)) := cell_of_row _ _ 0 _ _ _ h4
  have g5 : Hid (((w.alloc (.cells #[.int .i64 id] 3)).alloc (.cells #[.slice va st.length vc] 25)).cell? ⟨w.heap.size + 1, 0, none⟩ = some (.slice va st.length vc)) := by
    have := cell_of_row _ _ 0 _ _ _ h5
    rw [show (w.alloc (.cells #[.int .i64 id] 3)).heap.size = w.heap.size + 1 by simp] at this
    exact this
  have hl2 : ps.length ≤ 1000000 := by omega
  rw [hlen] at HROW c7
  clear hR hx hx1 hps hrow hlen hz hb0 h4 h5 hv hl
  go_enter Tryz.func42, Tryz.ntmps42
  go_wp2_with (go_at_call 103; go_must (refine indexf_any _ ps id st z HZ.out hl2 w.heap.size (w.heap.size + 1) _ _ HROW.out g4.out g5.out HV.out hsl _ ?_); intro w5 hb5; have HB5 := Lib.hid (below_then HB0.out hb5 HB0.out.size); clear hb5)
  exact HR.out _ HB5.out
end Go.Proofs.YtgimbocoamnkjaaGreatDoor

/- slices.Delete at flights, walked. -/
namespace Go.Proofs.YtgimbocoamnkjaaGreatDoor
open Go.RowKit

/-- clear at one element of several cells. -/
theorem run_clear_one {P : Program} (w : World) (t e ty : TypeId) (z : Value) (cs : Array Value) (ht : P.underlying t = some (.slice e)) (hv : ∀ w, (zeroValue e).run P w = .ok z w) (hz : z.cells = cs) (h1 : ∀ v ∈ cs.toList, v.oneCell' = true) (b o c : Nat)
    (hc : ∀ j, j < cs.size → (w.cell? ⟨b, o + j, none⟩).isSome = true) (hf : ∀ j, j < cs.size → w.frozen? ⟨b, o + j, none⟩ = false) :
    (Builtin.clear_ #[t] ty #[.slice (some ⟨b, o, none⟩) 1 c]).run P w = .ok (.tuple #[]) (w.setCells b o cs.toList) := by
  have hzc : (Builtin.zeroCells z.cells 1).toList = cs.toList := by
    rw [hz]
    apply List.ext_getElem
    · simp [Builtin.zeroCells]
    · intro i h1 h2
      have h3 : i < cs.size := by simpa using h2
      simp [Builtin.zeroCells, Nat.mod_eq_of_lt h3, h3]
  have hst := run_storeCells_cells (P := P) b o cs.toList 0 w (by simpa using hc) (by simpa using hf) h1
  simp only [Nat.add_zero] at hst
  simp [Builtin.clear_, run_underlying ht, hv, hzc, hst]

theorem zero_fl (w : World) : (zeroValue 51).run Tryz.prog w = .ok (Value.agg #[.int .i64 0, .int .i64 0, .string ⟨#[]⟩, .slice none 0 0, .int .i64 0, .bool false, .string ⟨#[]⟩, .int .i64 0, .slice none 0 0, .int .i64 0, .int .i64 0, .int .i64 0, .int .i64 0, .bool false, .slice none 0 0, .string ⟨#[]⟩]) w := by kernel_rfl
theorem one_flz : ∀ v ∈ (#[.int .i64 0, .int .i64 0, .string ⟨#[]⟩, .slice none 0 0, .int .i64 0, .bool false, .string ⟨#[]⟩, .int .i64 0, .slice none 0 0, .int .i64 0, .int .i64 0, .int .i64 0, .int .i64 0, .bool false, .slice none 0 0, .string ⟨#[]⟩] : Array Value).toList, v.oneCell' = true := by
  intro v hv
  simp only [List.mem_cons, List.not_mem_nil, or_false] at hv
  rcases hv with rfl | rfl | rfl | rfl | rfl | rfl | rfl | rfl | rfl | rfl | rfl | rfl | rfl | rfl | rfl | rfl <;> rfl

/-- The cells of a row out of which one element was taken, the others moved up. -/
theorem moved_row {w : World} {B g c : Nat} {ps : List (V3 × Fl)} {i k : Nat} (hi : i + (k - i) = k) (hk : k + 1 = ps.length) (h : w.ownsRow B 51 16 (.slice (some ⟨g, 0, none⟩) ps.length c) ps.length (ps.flatMap flP)) (zs : List Value) :
    ((w.setCells g (0 + i * 16) ((ps.drop (i + 1)).flatMap flP)).setCells g (k * 16) zs).ownsRow B 51 16 (.slice (some ⟨g, 0, none⟩) k c) k ((ps.eraseIdx i).flatMap flP) := by
  have hlen : (ps.eraseIdx i).length = k := by rw [List.length_eraseIdx_of_lt (by omega)]; omega
  refine ⟨by rw [flatN_length 16 flP flP_length, hlen], ?_⟩
  rcases h.2 with ⟨hv, h0⟩ | ⟨g', cap, cur, hv, hB, hg, h1, h2, h3, h4⟩
  · cases hv
  · simp only [Value.slice.injEq, Option.some.injEq, Addr.mk.injEq] at hv
    obtain ⟨⟨rfl, -, -⟩, -, rfl⟩ := hv
    obtain ⟨cur1, k1, k2, k3⟩ := heap_setCells_row g 51 ((ps.drop (i + 1)).flatMap flP) (0 + i * 16) w cur hg
    obtain ⟨cur2, m1, m2, m3⟩ := heap_setCells_row g 51 zs (k * 16) _ cur1 k1
    refine .inr ⟨g, c, cur2, rfl, hB, m1, by omega, h2, by rw [m2, k2]; exact h3, ?_⟩
    have hdl : ((ps.drop (i + 1)).flatMap flP).length = (k - i) * 16 := by
      rw [flatN_length 16 flP flP_length, List.length_drop]
      congr 1
      omega
    have hcs : ps.length * 16 ≤ cur.size := by
      have := congrArg List.length h4
      rw [flatN_length 16 flP flP_length, List.length_take] at this
      simp at this
      omega
    have hat : ∀ j, j < ps.length * 16 → cur[j]? = (ps.flatMap flP)[j]? := fun j hj => by
      rw [← h4, List.getElem?_take, if_pos hj]
      simp
    apply List.ext_getElem?
    intro j
    rw [List.getElem?_take]
    by_cases hj : j < k * 16
    · rw [if_pos hj]
      have e0 : cur2.toList[j]? = cur2[j]? := by simp
      rw [e0, m3, if_neg (by omega), k3, hdl, List.eraseIdx_eq_take_drop_succ, List.flatMap_append]
      have htl : ((ps.take i).flatMap flP).length = i * 16 := by
        rw [flatN_length 16 flP flP_length, List.length_take]
        congr 1
        omega
      by_cases hji : j < i * 16
      · rw [if_neg (by omega), hat j (by omega), List.getElem?_append_left (by rw [htl]; exact hji), ← flatN_take 16 flP flP_length, List.getElem?_take, if_pos hji]
      · rw [if_pos (by omega), List.getElem?_append_right (by rw [htl]; omega), htl]
        congr 1
        omega
    · rw [if_neg hj, List.getElem?_eq_none (by rw [flatN_length 16 flP flP_length, hlen]; omega)]

set_option maxRecDepth 100000 in
set_option maxHeartbeats 2000000 in
theorem delf_any (g c : Nat) (ps : List (V3 × Fl)) (i : Nat) (hi : i < ps.length) (hl : ps.length ≤ 100000) (w : World) (hone : ∀ u ∈ ps.flatMap flP, u.oneCell' = true) (hf : w.ownsRow 0 51 16 (.slice (some ⟨g, 0, none⟩) ps.length c) ps.length (ps.flatMap flP)) (R : Ending → World → Prop)
    (hR : ∀ w', w'.ownsRow 0 51 16 (.slice (some ⟨g, 0, none⟩) (ps.length - 1) c) (ps.length - 1) ((ps.eraseIdx i).flatMap flP) → w.grownBy w' (some g) → R (.returned (.slice (some ⟨g, 0, none⟩) (ps.length - 1) c)) w') :
    Calls Tryz.prog 107 #[.slice (some ⟨g, 0, none⟩) ps.length c, .int .i64 i, .int .i64 ((i : Int) + 1)] w R := by
  have HR := Lib.hid hR
  have HF := Lib.hid hf
  clear hR hf
  obtain ⟨k, hk⟩ : ∃ k, k + 1 = ps.length := ⟨ps.length - 1, by omega⟩
  obtain ⟨n, hn⟩ : ∃ n, ps.length = n := ⟨_, rfl⟩
  have hkn : n - 1 = k := by omega
  have hcap := (RowA.of_owns HF.out).cap
  obtain ⟨i0, hi0, _, hz1, _⟩ := info_parts infoFl
  have hin : i < n := by omega
  have hdrew : Below w.heap.size w w.drew := (Below.refl w.heap.size w).drew
  have hrow := (RowA.of_owns HF.out)
  obtain ⟨ax, hsl, hrow2, hob⟩ := RowA.from (k := i + 1) hrow Tryz.underlying48 hi0 hz1 (by omega)
  rw [flatN_drop 16 flP flP_length] at hrow2
  have hax : ∃ A, ax = some A := by
    cases ax with
    | some A => exact ⟨A, rfl⟩
    | none => cases hob
  obtain ⟨A, rfl⟩ := hax
  have hrd := (hrow2.below hdrew).rd
  have hnews : ∀ j u, ((ps.drop (i + 1)).flatMap flP)[j]? = some u → w.drew.cell? (A.add j) = some u := fun j u hj => by
    have hj0 : j < (ps.length - (i + 1)) * 16 := by
      rw [← hrd.1]
      exact (List.getElem?_eq_some_iff.1 hj).1
    obtain ⟨b, o, e, hc⟩ := hrd.2 (by omega)
    obtain rfl := Option.some.inj e
    rw [Addr.add_lit, hc j hj0]
    exact hj
  have hnl := hrd.1
  have hspare : ∀ j, j < ((ps.drop (i + 1)).flatMap flP).length → (w.drew.cell? ⟨g, 0 + i * 16 + j, none⟩).isSome = true ∧ w.drew.frozen? ⟨g, 0 + i * 16 + j, none⟩ = false := fun j hj => by
    rw [hnl] at hj
    have h0 := owns_below HF.out hdrew
    refine ⟨?_, h0.frozenAt _⟩
    rw [h0.cellAt _ (by omega), List.getElem?_eq_getElem (by rw [flatN_length 16 flP flP_length]; omega)]
    rfl
  have hone2 : ∀ u ∈ (ps.drop (i + 1)).flatMap flP, u.oneCell' = true := fun u hu => hone u (by
    obtain ⟨p, hp, hu⟩ := List.mem_flatMap.1 hu
    exact List.mem_flatMap.2 ⟨p, List.mem_of_mem_drop hp, hu⟩)
  obtain ⟨W1, hW1⟩ : ∃ W1, w.drew.setCells g (0 + i * 16) ((ps.drop (i + 1)).flatMap flP) = W1 := ⟨_, rfl⟩
  have hfin := moved_row (i := i) (k := k) (by omega) hk (owns_below HF.out hdrew) (#[.int .i64 0, .int .i64 0, .string ⟨#[]⟩, .slice none 0 0, .int .i64 0, .bool false, .string ⟨#[]⟩, .int .i64 0, .slice none 0 0, .int .i64 0, .int .i64 0, .int .i64 0, .int .i64 0, .bool false, .slice none 0 0, .string ⟨#[]⟩] : Array Value).toList
  have hmid := moved_row (i := i) (k := k) (by omega) hk (owns_below HF.out hdrew) []
  have hgw : w.grownBy (W1.setCells g (k * 16) (#[.int .i64 0, .int .i64 0, .string ⟨#[]⟩, .slice none 0 0, .int .i64 0, .bool false, .string ⟨#[]⟩, .int .i64 0, .slice none 0 0, .int .i64 0, .int .i64 0, .int .i64 0, .int .i64 0, .bool false, .slice none 0 0, .string ⟨#[]⟩] : Array Value).toList) (some g) := by
    rw [← hW1]
    exact grownBy_trans (grownBy_trans (grown_bel hdrew) (grownBy_setCells _ _ _ _)) (grownBy_setCells _ _ _ _)
  rw [hW1] at hfin hmid
  have hcl : ∀ ty, (Builtin.clear_ #[48] ty #[.slice (some ⟨g, k * 16, none⟩) 1 (c - k)]).run Tryz.prog W1 = .ok (.tuple #[]) (W1.setCells g (k * 16) (#[.int .i64 0, .int .i64 0, .string ⟨#[]⟩, .slice none 0 0, .int .i64 0, .bool false, .string ⟨#[]⟩, .int .i64 0, .slice none 0 0, .int .i64 0, .int .i64 0, .int .i64 0, .int .i64 0, .bool false, .slice none 0 0, .string ⟨#[]⟩] : Array Value).toList) := fun ty => by
    obtain ⟨cur1, k1, k2, _⟩ : ∃ cur1 : Array Value, W1.heap[g]? = some (.cells cur1 51 (0, 0)) ∧ n * 16 ≤ cur1.size ∧ True := by
      rcases (owns_below HF.out hdrew).2 with ⟨hv, h0⟩ | ⟨g', cap, cur, hv, hB, hg, h1, h2, h3, h4⟩
      · cases hv
      · simp only [Value.slice.injEq, Option.some.injEq, Addr.mk.injEq] at hv
        obtain ⟨⟨rfl, -, -⟩, -, rfl⟩ := hv
        obtain ⟨cur1, k1, k2, k3⟩ := heap_setCells_row g 51 ((ps.drop (i + 1)).flatMap flP) (0 + i * 16) w.drew cur hg
        rw [hW1] at k1
        have := congrArg List.length h4
        rw [flatN_length 16 flP flP_length, List.length_take] at this
        simp at this
        exact ⟨cur1, k1, by omega, trivial⟩
    refine run_clear_one W1 _ 51 ty (Value.agg #[.int .i64 0, .int .i64 0, .string ⟨#[]⟩, .slice none 0 0, .int .i64 0, .bool false, .string ⟨#[]⟩, .int .i64 0, .slice none 0 0, .int .i64 0, .int .i64 0, .int .i64 0, .int .i64 0, .bool false, .slice none 0 0, .string ⟨#[]⟩]) _ Tryz.underlying48 zero_fl rfl one_flz g (k * 16) _ (fun j hj => ?_) (fun j hj => ?_)
    · have hj : j < 16 := hj
      rw [cell_of_row W1 g _ cur1 _ _ k1, Array.getElem?_eq_getElem (by omega)]
      rfl
    · exact frozen_of_row W1 g _ cur1 _ k1
  have he : Tryz.prog.elem 48 = 51 := by simp [Program.elem, Tryz.underlying48]
  have hs2 : ∀ w', (Instr.slice 48 (.slice (some ⟨g, 0, none⟩) k c) (some (.int .i64 (k : Int))) (some (.int .i64 (n : Int))) none).run Tryz.prog w' = .ok (.slice (some ⟨g, k * 16, none⟩) 1 (c - k)) w' := fun w' => by
    rw [run_slice_lh (P := Tryz.prog) w' _ _ k c (by rw [he]; exact Tryz.underlying48) .i64 .i64 k n (by omega) (by omega) (by omega), he]
    have h1 : c ≠ k := by omega
    have h2 : n - k = 1 := by omega
    simp [sizeOf, typeInfo, hi0, hz1, sliced, h1, h2, Addr.add_lit]
  replace hsl : ∀ w', (Instr.slice 48 (.slice (some ⟨g, 0, none⟩) n c) (some (.int .i64 ((i : Int) + 1))) none none).run Tryz.prog w' = .ok (.slice (some A) (n - (i + 1)) (c - (i + 1))) w' := fun w' => by
    have := hsl w'
    rw [hn] at this
    exact this
  rw [hn] at hcap hrow hrow2 hob ⊢
  rw [hn, hkn] at HR
  have HFIN := Lib.hid hfin
  have HGW := Lib.hid hgw
  have HW := Lib.hid hW1
  have HN := Lib.hid hnews
  have HSP := Lib.hid hspare
  have HON := Lib.hid hone2
  have HNL : Hid (((ps.drop (i + 1)).flatMap flP).length = (n - (i + 1)) * 16) := by show _ = _; rw [← hn]; exact hnl
  have hmm : i + (n - (i + 1)) = k := by omega
  have HMM := Lib.hid hmm
  have hic : i ≤ c := by omega
  have hi1c : i + 1 ≤ c := by omega
  have hii : ((i : Int) == (i : Int) + 1) = false := by simp; omega
  clear hfin hmid hgw hW1 hnews hspare hone2 hnl hmm hrd hrow hrow2 hob hone HF hdrew hn hk
  go_enter Tryz.func107, Tryz.ntmps107
  go_wp2_with fail
  go_region_law (refine step_append_room rfl (.tmp 22) (.tmp 25) 48 rfl 51 i0 16 Tryz.underlying48 hi0 hz1 g 0 i c (by rfl) A (n - (i + 1)) (c - (i + 1)) _ (by rfl) HNL.out HN.out HON.out (by omega) HSP.out ?_; rw [HW.out, HMM.out])
  go_wp2
  exact HR.out _ HFIN.out HGW.out
end Go.Proofs.YtgimbocoamnkjaaGreatDoor

/- (*Session).land, Ack, Comp, walked. -/
namespace Go.Proofs.YtgimbocoamnkjaaGreatDoor
open Go.RowKit

theorem ps_one {w : World} {M : Nat → Prop} {ps : List (V3 × Fl)} (h : ∀ p ∈ ps, ImS w M p.1 p.2.item) : ∀ u ∈ ps.flatMap flP, u.oneCell' = true := by
  intro u hu
  obtain ⟨p, hp, hu⟩ := List.mem_flatMap.1 hu
  unfold flP at hu
  rcases List.mem_cons.1 hu with rfl | hu
  · rfl
  rcases List.mem_cons.1 hu with rfl | hu
  · rfl
  exact (h p hp).oneCell u hu

set_option maxRecDepth 100000 in
set_option maxHeartbeats 2000000 in
theorem land_any (S : Nat) (s : Sess) (i : Nat) (hi : i < s.flights.length) (hl : s.flights.length ≤ 100000) (d : Int) (hd : (s.flights[i]).id = d) (hI : I64 d) (w : World) (M : Nat → Prop) (h : SR w M S s) (R : Ending → World → Prop)
    (hR : ∀ M' w', SR w' M' S { s with nums := s.nums.erase d, flights := s.flights.eraseIdx i } → Sep M M' w w' → R (.returned (.tuple #[])) w') :
    Calls Tryz.prog 43 #[.pointer (some ⟨S, 0, none⟩), .int .i64 i] w R := by
  obtain ⟨NB, MB, GB, GM, sv, qv, fv, hx⟩ := h
  have HR := Lib.hid hR
  obtain ⟨ps, hps, hrow, hcon, hown⟩ := id hx.hf
  have hlen : s.flights.length = ps.length := by rw [← hps]; simp
  have hip : i < ps.length := by omega
  have hlp : ps.length ≤ 100000 := by omega
  rw [hlen] at hrow
  obtain ⟨fa, fc, hfv⟩ := owns_shape hrow
  subst hfv
  obtain ⟨g, hg⟩ := owns_head hrow (by omega)
  subst hg
  have hd1 : Below w.heap.size w w.drew := (Below.refl w.heap.size w).drew
  have hx1 := hx.below hd1
  have c0 := (ss9 hx1.hS).1.1
  have c7 := (ss9 hx1.hS).2.2.2.1
  have hrow1 := owns_below hrow hd1
  have hpd : (ps[i]).2.id = d := by
    rw [← hd]
    have : s.flights[i] = (ps[i]).2 := by
      have h2 := congrArg (fun l => l[i]?) hps
      simp only [List.getElem?_map, List.getElem?_eq_getElem hip, List.getElem?_eq_getElem hi, Option.map_some] at h2
      exact (Option.some.inj h2).symm
    rw [this]
  have cid : w.drew.cell? ⟨g, i * 16, none⟩ = some (.int .i64 d) := by
    have := fl_cells hrow1 hip 0 (by omega)
    rw [Nat.add_zero] at this
    rw [this, ← hpd]
    rfl
  obtain ⟨b, hb⟩ : ∃ b, s.nums.contains d = b := ⟨_, rfl⟩
  have hki : (i : Int) < (ps.length : Int) := by omega
  have hmap : (ps.eraseIdx i).map (·.2) = s.flights.eraseIdx i := by rw [← hps, List.eraseIdx_eq_take_drop_succ, List.eraseIdx_eq_take_drop_succ, List.map_append, List.map_take, List.map_drop]
  have hle : (s.flights.eraseIdx i).length = ps.length - 1 := by rw [List.length_eraseIdx_of_lt hi, hlen]
  have HX := Lib.hid hx1
  have HB := Lib.hid hb
  have HMAP := Lib.hid hmap
  have HLE := Lib.hid hle
  have HLEN := Lib.hid hlen
  have HCON := Lib.hid (show ∀ p ∈ ps, ImS w.drew M p.1 p.2.item from fun p hp => (hcon p hp).sep (.of_below hd1))
  have HROW := Lib.hid hrow1
  have HS1 := Lib.hid (Sep.of_below (M := M) hd1)
  clear hR hps hrow hcon hown hx hx1 hrow1 hb hmap hle hd1 hpd hlen hi hl hd
  go_enter Tryz.func43, Tryz.ntmps43
  go_wp2_with fail
  go_region_law (first
    | (go_simp; go_at_call 106; refine ifree_any NB MB s.nums d hI b HB.out w.drew HX.out.hn _ ?_; intro w3 hst3 hg3))
  all_goals
    obtain ⟨hx3, hs3⟩ := SX.turn HX.out hg3 hst3
    have hrow3 := owns_of_block HROW.out (fun k hk => hg3.block k ((HROW.out.lt k hk).2) (fun e => by
      have h1 := own_kind HROW.out k hk
      have h2 := HX.out.hn.2.kind
      rw [Option.some.inj e, h2] at h1
      revert h1
      decide))
    have c73 := (ss9 hx3.hS).2.2.2.1
    have HX3 := Lib.hid hx3
    have HS3 := Lib.hid (HS1.out.trans hs3)
    have HROW3 := Lib.hid hrow3
    have HCON3 := Lib.hid (show ∀ p ∈ ps, ImS w3 M p.1 p.2.item from fun p hp => (HCON.out p hp).sep hs3)
    clear hx3 hs3 hrow3 hst3 hg3 c0 c7 cid HX HROW HCON HS1
    go_wp2_with (first
      | (go_at_call 107; go_must (refine delf_any g fc ps i hip hlp w3 (ps_one HCON3.out) HROW3.out _ ?_); intro w5 hrow5 hg5; have r5 := block_grown hg5 HX3.out.hS (own_block_ne HX3.out.hS HROW3.out (by decide)); have c75 := (ss9 r5).2.2.2.1; have f75 := frozen_block r5 7; have HROW5 := Lib.hid hrow5; have HG5 := Lib.hid hg5; clear hrow5 hg5 r5))
    obtain ⟨M7, hx7, hs7, _⟩ := SX.fly (fv' := .slice (some ⟨g, 0, none⟩) (ps.length - 1) fc) (fs := s.flights.eraseIdx i) (ps := ps.eraseIdx i) HX3.out HMAP.out (fun p hp => HCON3.out p (List.mem_of_mem_eraseIdx hp)) (by rw [HLE.out]; exact HROW5.out) HG5.out (.inl rfl)
    go_end0
    exact HR.out _ _ ⟨NB, MB, GB, GM, sv, qv, _, hx7⟩ (HS3.out.trans hs7)

theorem idxP_some {α : Type} {p : α → Bool} {l : List α} {z : Int} (h : idxP p l = z) (hz : 0 ≤ z) : ∃ (k : Nat) (hk : k < l.length), z = (k : Int) ∧ p l[k] = true ∧ ∀ j (hj : j < k), p (l[j]'(by omega)) = false := by
  unfold idxP at h
  cases hf : l.findIdx? p with
  | none => rw [hf] at h; simp only at h; omega
  | some i =>
    rw [hf] at h
    obtain ⟨h1, h2, h3⟩ := List.findIdx?_eq_some_iff_getElem.1 hf
    exact ⟨i, h1, h.symm, h2, fun j hj => by simpa using h3 j hj⟩
theorem idxP_neg {α : Type} {p : α → Bool} {l : List α} {z : Int} (h : idxP p l = z) (hz : z < 0) : z = -1 ∧ ∀ x ∈ l, p x = false := by
  unfold idxP at h
  cases hf : l.findIdx? p with
  | none =>
    rw [hf] at h
    exact ⟨h.symm, List.findIdx?_eq_none_iff.1 hf⟩
  | some i => rw [hf] at h; simp only at h; omega

/-- What becomes of a session whose flight at z (if there is one) landed. -/
def landS (s : Sess) (z : Int) : Sess := if z < 0 then s else { s with nums := s.nums.erase ((s.flights[z.toNat]?.map (·.id)).getD 0), flights := s.flights.eraseIdx z.toNat }

/-- The states that a flight is asked for. -/
theorem one_is {w : World} {x : Int} : Is (w.alloc (Obj.cells #[Value.int .i64 x] 3)) (.slice (some ⟨w.heap.size, 0, none⟩) 1 1) [x] :=
  ⟨_, 1, rfl, rd_lit w #[Value.int .i64 x] 3 1 1 rfl, Nat.le_refl _, by decide, fun h => by cases h⟩
theorem two_is {w : World} {x y : Int} : Is (w.alloc (Obj.cells #[Value.int .i64 x, Value.int .i64 y] 3)) (.slice (some ⟨w.heap.size, 0, none⟩) 2 2) [x, y] :=
  ⟨_, 2, rfl, rd_lit w #[Value.int .i64 x, Value.int .i64 y] 3 1 2 rfl, Nat.le_refl _, by decide, fun h => by cases h⟩

set_option maxRecDepth 100000 in
set_option maxHeartbeats 800000 in
theorem ack_any (S : Nat) (s : Sess) (id : Int) (z : Int) (hz : idxP (hitF id [1]) s.flights = z) (hid : ∀ f ∈ s.flights, I64 f.id) (hl : s.flights.length ≤ 100000) (w : World) (M : Nat → Prop) (h : SR w M S s) (R : Ending → World → Prop)
    (hR : ∀ M' w', SR w' M' S (landS s z) → Sep M M' w w' → R (.returned (.bool (decide (0 ≤ z)))) w') :
    Calls Tryz.prog 12 #[.pointer (some ⟨S, 0, none⟩), .int .i64 id] w R := by
  have HR := Lib.hid hR
  have hb0 : Below w.heap.size w (w.alloc (Obj.cells #[Value.int .i64 1] 3)) := (Below.refl _ _).alloc (Nat.le_refl _) _
  have HB0 := Lib.hid hb0
  have H1 := Lib.hid (h.below hb0)
  have HI := Lib.hid (one_is (w := w) (x := 1))
  have HZ := Lib.hid hz
  clear hR hb0 h hz
  by_cases h0 : 0 ≤ z
  · obtain ⟨i, hi, rfl, _, _⟩ := idxP_some HZ.out h0
    have hI := hid _ (List.getElem_mem hi)
    obtain ⟨d, hd⟩ : ∃ d, (s.flights[i]).id = d := ⟨_, rfl⟩
    rw [hd] at hI
    have HL : Hid (landS s (i : Int) = { s with nums := s.nums.erase d, flights := s.flights.eraseIdx i }) := by
      show _ = _
      unfold landS
      rw [if_neg (by omega)]
      simp [List.getElem?_eq_getElem hi, hd]
    clear hid
    go_enter Tryz.func12, Tryz.ntmps12
    go_wp2_with (first
      | (go_at_call 42; go_must (refine flight_any S s id [1] (i : Int) HZ.out _ _ M H1.out (Nat.le_trans hl (by decide)) HI.out (by decide) _ ?_); intro w3 hb3; have HB3 := Lib.hid (below_then HB0.out hb3 HB0.out.size); have H3 := Lib.hid (H1.out.below hb3); clear hb3)
      | (go_at_call 43; go_must (refine land_any S s i hi hl d hd hI w3 M H3.out _ ?_); intro M5 w5 hx5 hs5; have HX5 := Lib.hid hx5; have HS5 := Lib.hid hs5; clear hx5 hs5))
    have := HR.out M5 w5 (by rw [HL.out]; exact HX5.out) ((Sep.of_below HB3.out).trans HS5.out)
    rw [decide_eq_true (by omega)] at this
    exact this
  · obtain ⟨rfl, _⟩ := idxP_neg HZ.out (by omega)
    clear hid
    go_enter Tryz.func12, Tryz.ntmps12
    go_wp2_with (go_at_call 42; go_must (refine flight_any S s id [1] (-1) HZ.out _ _ M H1.out (Nat.le_trans hl (by decide)) HI.out (by decide) _ ?_); intro w3 hb3; have HB3 := Lib.hid (below_then HB0.out hb3 HB0.out.size); have H3 := Lib.hid (H1.out.below hb3); clear hb3)
    exact HR.out M w3 H3.out (Sep.of_below HB3.out)

set_option maxRecDepth 100000 in
set_option maxHeartbeats 800000 in
theorem comp_any (S : Nat) (s : Sess) (id : Int) (z : Int) (hz : idxP (hitF id [3]) s.flights = z) (hid : ∀ f ∈ s.flights, I64 f.id) (hl : s.flights.length ≤ 100000) (w : World) (M : Nat → Prop) (h : SR w M S s) (R : Ending → World → Prop)
    (hR : ∀ M' w', SR w' M' S (landS s z) → Sep M M' w w' → R (.returned (.bool (decide (0 ≤ z)))) w') :
    Calls Tryz.prog 18 #[.pointer (some ⟨S, 0, none⟩), .int .i64 id] w R := by
  have HR := Lib.hid hR
  have hb0 : Below w.heap.size w (w.alloc (Obj.cells #[Value.int .i64 3] 3)) := (Below.refl _ _).alloc (Nat.le_refl _) _
  have HB0 := Lib.hid hb0
  have H1 := Lib.hid (h.below hb0)
  have HI := Lib.hid (one_is (w := w) (x := 3))
  have HZ := Lib.hid hz
  clear hR hb0 h hz
  by_cases h0 : 0 ≤ z
  · obtain ⟨i, hi, rfl, _, _⟩ := idxP_some HZ.out h0
    have hI := hid _ (List.getElem_mem hi)
    obtain ⟨d, hd⟩ : ∃ d, (s.flights[i]).id = d := ⟨_, rfl⟩
    rw [hd] at hI
    have HL : Hid (landS s (i : Int) = { s with nums := s.nums.erase d, flights := s.flights.eraseIdx i }) := by
      show _ = _
      unfold landS
      rw [if_neg (by omega)]
      simp [List.getElem?_eq_getElem hi, hd]
    clear hid
    go_enter Tryz.func18, Tryz.ntmps18
    go_wp2_with (first
      | (go_at_call 42; go_must (refine flight_any S s id [3] (i : Int) HZ.out _ _ M H1.out (Nat.le_trans hl (by decide)) HI.out (by decide) _ ?_); intro w3 hb3; have HB3 := Lib.hid (below_then HB0.out hb3 HB0.out.size); have H3 := Lib.hid (H1.out.below hb3); clear hb3)
      | (go_at_call 43; go_must (refine land_any S s i hi hl d hd hI w3 M H3.out _ ?_); intro M5 w5 hx5 hs5; have HX5 := Lib.hid hx5; have HS5 := Lib.hid hs5; clear hx5 hs5))
    have := HR.out M5 w5 (by rw [HL.out]; exact HX5.out) ((Sep.of_below HB3.out).trans HS5.out)
    rw [decide_eq_true (by omega)] at this
    exact this
  · obtain ⟨rfl, _⟩ := idxP_neg HZ.out (by omega)
    clear hid
    go_enter Tryz.func18, Tryz.ntmps18
    go_wp2_with (go_at_call 42; go_must (refine flight_any S s id [3] (-1) HZ.out _ _ M H1.out (Nat.le_trans hl (by decide)) HI.out (by decide) _ ?_); intro w3 hb3; have HB3 := Lib.hid (below_then HB0.out hb3 HB0.out.size); have H3 := Lib.hid (H1.out.below hb3); clear hb3)
    exact HR.out M w3 H3.out (Sep.of_below HB3.out)
end Go.Proofs.YtgimbocoamnkjaaGreatDoor
