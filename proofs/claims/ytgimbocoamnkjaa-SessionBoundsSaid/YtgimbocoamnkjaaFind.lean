/- slices.IndexFunc at flights, and (*Session).flight, walked. -/
import Derived.Test.YtgimbocoamnkjaaFlight
import Derived.Deep.LoopGhost
namespace Go.Proofs.Ytgimbocoamnkjaa
open Go.RowKit

theorem fl_cells {w : World} {B g c : Nat} {ps : List (V3 × Fl)} (h : w.ownsRow B 54 16 (.slice (some ⟨g, 0, none⟩) ps.length c) ps.length (ps.flatMap flP)) {k : Nat} (hk : k < ps.length) : ∀ j, j < 16 → w.cell? ⟨g, k * 16 + j, none⟩ = (flP ps[k])[j]? := fun j hj => by
  rw [h.cellAt (k * 16 + j) (by omega), flatN 16 flP flP_length ps k j hk hj]
theorem idxP_map {α β : Type} (f : α → β) (p : β → Bool) (l : List α) : idxP p (l.map f) = idxP (fun x => p (f x)) l := by
  unfold idxP
  rw [List.findIdx?_map]
  rfl

set_option maxRecDepth 100000 in
set_option maxHeartbeats 1600000 in
theorem indexf_any (fv : Value) (ps : List (V3 × Fl)) (id : Int) (st : List Int) (z : Int) (hz : idxP (fun p : V3 × Fl => hitF id st p.2) ps = z) (hl : ps.length ≤ 1000000) (A4 A5 : Nat) (sv : Value) (w : World) (hf : w.ownsRow 0 54 16 fv ps.length (ps.flatMap flP))
    (h4 : w.cell? ⟨A4, 0, none⟩ = some (.int .i64 id)) (h5 : w.cell? ⟨A5, 0, none⟩ = some sv) (hv : Is w sv st) (hsl : st.length ≤ 1000000) (R : Ending → World → Prop)
    (hR : ∀ w', Below w.heap.size w w' → R (.returned (.int .i64 z)) w') :
    Calls Try.prog 32 #[fv, .func (.func 33) #[] #[.pointer (some ⟨A4, 0, none⟩), .pointer (some ⟨A5, 0, none⟩)]] w R := by
  have HR := Lib.hid hR
  have HF := Lib.hid hf
  have HZ := Lib.hid hz
  have H4 := Lib.hid h4
  have H5 := Lib.hid h5
  have HV := Lib.hid hv
  obtain ⟨fa, fc, rfl⟩ := owns_shape hf
  clear hR hz h4 h5 hv hf
  go_enter Try.func32, Try.ntmps32
  go_wp2
  go_loopg [5, 8] ps.length (fun gn _ i wr => ∃ k : Nat, k ≤ ps.length ∧ gn = ps.length - k ∧ i = .int .i64 k ∧ Hid (Below w.heap.size w wr) ∧ Hid (∀ (j : Nat) (hj : j < k) (h : j < ps.length), hitF id st (ps[j]).2 = false))
  case atStart => exact ⟨0, Nat.zero_le _, by omega, rfl, Lib.hid (Below.refl _ _), fun j hj => by omega⟩
  case round =>
    obtain ⟨k, hk, rfl, rfl, HB, HS⟩ := hrel
    obtain ⟨wo, rfl⟩ : ∃ x, x = wr := ⟨_, rfl⟩
    by_cases hlt : k < ps.length
    · have hkk : (k : Int) < (ps.length : Int) := by omega
      have hown := owns_below HF.out HB.out
      obtain ⟨g, hg⟩ := owns_head hown (by omega)
      subst hg
      have hcell := fl_cells hown hlt
      have HP : Hid (∀ b, hitF id st (ps[k]).2 = b → (b = true → z = (k : Int)) ∧ (b = false → ∀ (j : Nat) (hj : j < k + 1) (h : j < ps.length), hitF id st (ps[j]).2 = false)) := by
        rintro b hb
        refine ⟨fun e => ?_, fun e j hj h => ?_⟩
        · rw [← HZ.out]
          exact idxP_hit hlt (hb.trans e) (fun j hj => HS.out j hj (by omega))
        · by_cases e2 : j = k
          · subst e2
            exact hb.trans e
          · exact HS.out j (by omega) h
      obtain ⟨⟨⟨v1, v2, v3⟩, ⟨fid, fst, x⟩⟩, hp⟩ : ∃ p, ps[k] = p := ⟨_, rfl⟩
      rw [hp] at hcell HP
      have HC : Hid (∀ j, j < 16 → wo.cell? ⟨g, k * 16 + j, none⟩ = [Value.int .i64 fid, .int .i64 fst, .string (str x.note.topic), v1, .int .i64 x.note.qos, .bool x.note.retain, .string (str x.note.src), .int .i64 x.note.expires, v2, .int .i64 x.note.origin, .int .i64 x.note.number, .int .i64 x.note.hops, .int .i64 x.qos, .bool x.keep, v3, .string (str x.share)][j]?) := hcell
      obtain ⟨b, hb⟩ : ∃ b, hitF id st ⟨fid, fst, x⟩ = b := ⟨_, rfl⟩
      have HPB := Lib.hid (HP.out b hb)
      have HBB : Hid ((fid == id && st.contains fst) = b) := hb
      have h4' : Hid (wo.cell? ⟨A4, 0, none⟩ = some (.int .i64 id)) := cell_later HB.out H4.out
      have h5' : Hid (wo.cell? ⟨A5, 0, none⟩ = some sv) := cell_later HB.out H5.out
      have hv' := Lib.hid (HV.out.below HB.out)
      clear hown hcell HP hb hp HS
      cases b with
      | true =>
        obtain rfl := HPB.out.1 rfl
        clear HPB
        go_wp2_with (first
          | (refine wpList_load_at (o := ⟨some 15, .load 54 (.tmp 14), _, _, _, _⟩) (by rfl) 54 (.tmp 14) (by rfl) (g) (k * 16) (by rfl) ([Value.int .i64 fid, .int .i64 fst, .string (str x.note.topic), v1, .int .i64 x.note.qos, .bool x.note.retain, .string (str x.note.src), .int .i64 x.note.expires, v2, .int .i64 x.note.origin, .int .i64 x.note.number, .int .i64 x.note.hops, .int .i64 x.qos, .bool x.keep, v3, .string (str x.share)]) _ (HC.out) (Try.underlying54) (by rfl) (by kernel_rfl) ?_)
          | (go_at_call 33; go_must (refine hit_any A4 A5 _ _ _ _ _ _ _ _ _ _ _ _ _ _ fid fst sv id st true HBB.out wo h4'.out h5'.out hv'.out hsl _ ?_); intro w7 hb7; have HB7 := Lib.hid (below_then HB.out hb7 HB.out.size); clear hb7))
        exact HR.out _ HB7.out
      | false =>
        have HN := Lib.hid (HPB.out.2 rfl)
        clear HPB
        go_wp2_with (first
          | (refine wpList_load_at (o := ⟨some 15, .load 54 (.tmp 14), _, _, _, _⟩) (by rfl) 54 (.tmp 14) (by rfl) (g) (k * 16) (by rfl) ([Value.int .i64 fid, .int .i64 fst, .string (str x.note.topic), v1, .int .i64 x.note.qos, .bool x.note.retain, .string (str x.note.src), .int .i64 x.note.expires, v2, .int .i64 x.note.origin, .int .i64 x.note.number, .int .i64 x.note.hops, .int .i64 x.qos, .bool x.keep, v3, .string (str x.share)]) _ (HC.out) (Try.underlying54) (by rfl) (by kernel_rfl) ?_)
          | (go_at_call 33; go_must (refine hit_any A4 A5 _ _ _ _ _ _ _ _ _ _ _ _ _ _ fid fst sv id st false HBB.out wo h4'.out h5'.out hv'.out hsl _ ?_); intro w7 hb7; have HB7 := Lib.hid (below_then HB.out hb7 HB.out.size); clear hb7))
        go_roundg (ps.length - (k + 1))
        case measure => omega
        case rel => exact ⟨k + 1, by omega, rfl, by go_num, HB7, HN⟩
    · have hkk : ¬ (k : Int) < (ps.length : Int) := by omega
      obtain rfl : z = -1 := by
        rw [← HZ.out]
        refine idxP_none fun x hx => ?_
        obtain ⟨j, hj, rfl⟩ := List.getElem_of_mem hx
        exact HS.out j (by omega) hj
      go_wp2
      exact HR.out _ HB.out

set_option maxRecDepth 100000 in
set_option maxHeartbeats 800000 in
theorem flight_any (S : Nat) (s : Sess) (id : Int) (st : List Int) (z : Int) (hz : idxP (hitF id st) s.flights = z) (sv : Value) (w : World) (M : Nat → Prop) (h : SR w M S s) (hl : s.flights.length ≤ 1000000) (hv : Is w sv st) (hsl : st.length ≤ 1000000) (R : Ending → World → Prop)
    (hR : ∀ w', Below w.heap.size w w' → R (.returned (.int .i64 z)) w') :
    Calls Try.prog 26 #[.pointer (some ⟨S, 0, none⟩), .int .i64 id, sv] w R := by
  obtain ⟨NB, MB, GB, GM, sb, qv, fv, hx⟩ := h
  have HR := Lib.hid hR
  have hv' := hv
  obtain ⟨va, vc, rfl, _⟩ := hv'
  have hb0 : Below w.heap.size w ((w.alloc (.cells #[.int .i64 id] 3)).alloc (.cells #[.slice va st.length vc] 29)) := ((Below.refl _ _).alloc (Nat.le_refl _) _).alloc (by simp) _
  have HB0 := Lib.hid hb0
  have h4 := block_alloc (o' := (Obj.cells #[.slice va st.length vc] 29)) (heap_alloc_new w (.cells #[.int .i64 id] 3))
  have h5 := heap_alloc_new (w.alloc (.cells #[.int .i64 id] 3)) (.cells #[.slice va st.length vc] 29)
  have HV := Lib.hid (hv.below hb0)
  have hx1 := hx.below hb0
  obtain ⟨ps, hps, hrow, _⟩ := hx1.hf
  have HROW := Lib.hid hrow
  obtain ⟨fa, fc, rfl⟩ := owns_shape hrow
  have c7 := (ss9 hx1.hS).2.2.2.1
  have hlen : s.flights.length = ps.length := by rw [← hps]; simp
  rw [← hps, idxP_map] at hz
  have HZ := Lib.hid hz
  have HLEN := Lib.hid hlen
  have g4 : Hid (((w.alloc (.cells #[.int .i64 id] 3)).alloc (.cells #[.slice va st.length vc] 29)).cell? ⟨w.heap.size, 0, none⟩ = some (.int .i64 id)) := cell_of_row _ _ 0 _ _ _ h4
  have g5 : Hid (((w.alloc (.cells #[.int .i64 id] 3)).alloc (.cells #[.slice va st.length vc] 29)).cell? ⟨w.heap.size + 1, 0, none⟩ = some (.slice va st.length vc)) := by
    have := cell_of_row _ _ 0 _ _ _ h5
    rw [show (w.alloc (.cells #[.int .i64 id] 3)).heap.size = w.heap.size + 1 by simp] at this
    exact this
  have hl2 : ps.length ≤ 1000000 := by omega
  rw [hlen] at HROW c7
  clear hR hx hx1 hps hrow hlen hz hb0 h4 h5 hv hl
  go_enter Try.func26, Try.ntmps26
  go_wp2_with (go_at_call 32; go_must (refine indexf_any _ ps id st z HZ.out hl2 w.heap.size (w.heap.size + 1) _ _ HROW.out g4.out g5.out HV.out hsl _ ?_); intro w5 hb5; have HB5 := Lib.hid (below_then HB0.out hb5 HB0.out.size); clear hb5)
  exact HR.out _ HB5.out
end Go.Proofs.Ytgimbocoamnkjaa
