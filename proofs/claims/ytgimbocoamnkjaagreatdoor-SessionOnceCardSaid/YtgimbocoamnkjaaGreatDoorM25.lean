/- (*Session).Next, walked. -/
import Derived.Test.YtgimbocoamnkjaaGreatDoorM24
namespace Go.Proofs.YtgimbocoamnkjaaGreatDoor
open Go.RowKit

set_option maxRecDepth 100000 in
set_option maxHeartbeats 800000 in
theorem next_no (S : Nat) (s : Sess) (win : Int) (hb : readyL s win = false) (w : World) (M : Nat → Prop) (h : SR w M S s) (hl1 : s.queue.length ≤ 100000) (R : Ending → World → Prop)
    (hR : ∀ w', Below w.heap.size w w' → R (.returned (.tuple #[(Value.agg #[.string ⟨#[]⟩, .slice none 0 0, .int .i64 0, .bool false, .string ⟨#[]⟩, .int .i64 0, .slice none 0 0, .int .i64 0, .int .i64 0, .int .i64 0, .int .i64 0, .bool false, .slice none 0 0, .string ⟨#[]⟩]), .int .i64 0, .bool false])) w') :
    Calls Tryz.prog 10 #[.pointer (some ⟨S, 0, none⟩), .int .i64 win] w R := by
  have HR := Lib.hid hR
  have hb0 : Below w.heap.size w (w.alloc (Obj.cells #[.string ⟨#[]⟩, .slice none 0 0, .int .i64 0, .bool false, .string ⟨#[]⟩, .int .i64 0, .slice none 0 0, .int .i64 0, .int .i64 0, .int .i64 0, .int .i64 0, .bool false, .slice none 0 0, .string ⟨#[]⟩] 36)) := (Below.refl _ _).alloc (Nat.le_refl _) _
  have HB0 := Lib.hid hb0
  have H0 := Lib.hid (h.below hb0)
  have HN := Lib.hid (heap_alloc_new w (Obj.cells #[.string ⟨#[]⟩, .slice none 0 0, .int .i64 0, .bool false, .string ⟨#[]⟩, .int .i64 0, .slice none 0 0, .int .i64 0, .int .i64 0, .int .i64 0, .int .i64 0, .bool false, .slice none 0 0, .string ⟨#[]⟩] 36))
  have HB := Lib.hid hb
  clear hR h hb0 hb
  go_enter Tryz.func10, Tryz.ntmps10
  go_wp2_with (first
    | (go_at_call 40; go_must (refine ready_any S s win false HB.out _ M H0.out hl1 _ ?_))
    | (refine wpList_load_row (o := ⟨some 11, .load 36 (.tmp 4), _, _, _, _⟩) (by rfl) 36 (.tmp 4) (by rfl) (w.heap.size) (by rfl) 36 _ (0, 0) _ (HN).out (Tryz.underlying36) (by rfl) (by kernel_rfl) ?_)
    | (refine wpList_store_row (o := ⟨none, .store 36 (.tmp 4) (.tmp 11), _, _, _, _⟩) (by rfl) 36 (.tmp 4) (.tmp 11) (by rfl) (w.heap.size) _ (by rfl) (by rfl) 36 _ (HN).out (by kernel_rfl) (by rfl) (by simp [Value.oneCell']) ?_))
  refine bodyPost_ret (res_two rfl _ _ w.heap.size 36 #[.string ⟨#[]⟩, .slice none 0 0, .int .i64 0, .bool false, .string ⟨#[]⟩, .int .i64 0, .slice none 0 0, .int .i64 0, .int .i64 0, .int .i64 0, .int .i64 0, .bool false, .slice none 0 0, .string ⟨#[]⟩] (0, 0) _ (.int .i64 0) (.bool false) rfl rfl rfl (setRow_heap _ w.heap.size _ _ _ _ HN.out) Tryz.underlying36 rfl (by kernel_rfl)) rfl ?_
  exact HR.out _ (below_setRow HB0.out (Nat.le_refl _) _)

set_option maxRecDepth 100000 in
set_option maxHeartbeats 4000000 in
theorem next_0 (S : Nat) (s : Sess) (x : Im) (rest : List Im) (hq : s.queue = x :: rest) (win : Int) (hb : readyL s win = true) (hz : x.qos = 0) (w : World) (M : Nat → Prop) (h : SR w M S s) (hl1 : s.queue.length ≤ 100000) (R : Ending → World → Prop)
    (hR : ∀ B M' pa pc qa qc ea ec w', SR w' M' S { s with queue := rest } → Sep M M' w w' → ImO w' B (.slice pa x.note.payload.length pc) (.slice qa x.note.props.length qc) (.slice ea x.ids.length ec) x → w.heap.size ≤ B → (∀ b, M' b → b < B) → ImB x →
      R (.returned (.tuple #[(Value.agg #[.string (str x.note.topic), (.slice pa x.note.payload.length pc), .int .i64 x.note.qos, .bool x.note.retain, .string (str x.note.src), .int .i64 x.note.expires, (.slice qa x.note.props.length qc), .int .i64 x.note.origin, .int .i64 x.note.number, .int .i64 x.note.hops, .int .i64 x.qos, .bool x.keep, (.slice ea x.ids.length ec), .string (str x.share)]), .int .i64 0, .bool true])) w') :
    Calls Tryz.prog 10 #[.pointer (some ⟨S, 0, none⟩), .int .i64 win] w R := by
  obtain ⟨NB, MB, GB, GM, sv, qv, fv, hx⟩ := h
  have HR := Lib.hid hR
  obtain ⟨ps, hps, hrow, hcon, hown⟩ := id hx.hq
  obtain ⟨va, vc, rfl⟩ := hrow.shape
  obtain ⟨n, hn⟩ : ∃ n, s.queue.length = n := ⟨_, rfl⟩
  have hn0 : 0 < n := by rw [← hn, hq]; simp
  have hn1 : (0 : Int) < (n : Int) := by omega
  have hnr : n - 1 = rest.length := by rw [← hn, hq]; simp
  rw [hn] at hx hrow hl1
  rw [hq] at hps
  obtain ⟨⟨c, y⟩, pr, rfl⟩ : ∃ p pr, ps = p :: pr := by
    cases ps with
    | nil => simp at hps
    | cons p pr => exact ⟨p, pr, rfl⟩
  obtain ⟨rfl, hpr⟩ : y = x ∧ pr.map (·.2) = rest := by simpa using hps
  obtain ⟨⟨pa, pc, hpa⟩, ⟨qa, qc, hqa⟩, ea, ec, hea⟩ := (hcon (c, y) (List.mem_cons_self ..)).1.out.shape
  obtain ⟨p1, p2, p3⟩ := c
  simp only at hpa hqa hea
  subst hpa hqa hea
  have hb0 : Below w.heap.size w (w.alloc (Obj.cells #[.string ⟨#[]⟩, .slice none 0 0, .int .i64 0, .bool false, .string ⟨#[]⟩, .int .i64 0, .slice none 0 0, .int .i64 0, .int .i64 0, .int .i64 0, .int .i64 0, .bool false, .slice none 0 0, .string ⟨#[]⟩] 36)) := (Below.refl _ _).alloc (Nat.le_refl _) _
  have hb2 : Below w.heap.size w (w.alloc (Obj.cells #[.string (str y.note.topic), (.slice pa y.note.payload.length pc), .int .i64 y.note.qos, .bool y.note.retain, .string (str y.note.src), .int .i64 y.note.expires, (.slice qa y.note.props.length qc), .int .i64 y.note.origin, .int .i64 y.note.number, .int .i64 y.note.hops, .int .i64 y.qos, .bool y.keep, (.slice ea y.ids.length ec), .string (str y.share)] 36)) := (Below.refl _ _).alloc (Nat.le_refl _) _
  have H1 : Hid (SR (w.alloc (Obj.cells #[.string ⟨#[]⟩, .slice none 0 0, .int .i64 0, .bool false, .string ⟨#[]⟩, .int .i64 0, .slice none 0 0, .int .i64 0, .int .i64 0, .int .i64 0, .int .i64 0, .bool false, .slice none 0 0, .string ⟨#[]⟩] 36)) M S s) := ⟨NB, MB, GB, GM, sv, _, fv, hx.below hb0⟩
  obtain ⟨hx2, hs2⟩ := hx.alloc1 (Obj.cells #[.string (str y.note.topic), (.slice pa y.note.payload.length pc), .int .i64 y.note.qos, .bool y.note.retain, .string (str y.note.src), .int .i64 y.note.expires, (.slice qa y.note.props.length qc), .int .i64 y.note.origin, .int .i64 y.note.number, .int .i64 y.note.hops, .int .i64 y.qos, .bool y.keep, (.slice ea y.ids.length ec), .string (str y.share)] 36)
  have hcon2 : ∀ p ∈ ((Value.slice pa y.note.payload.length pc, Value.slice qa y.note.props.length qc, Value.slice ea y.ids.length ec), y) :: pr, ImS (w.alloc (Obj.cells #[.string (str y.note.topic), (.slice pa y.note.payload.length pc), .int .i64 y.note.qos, .bool y.note.retain, .string (str y.note.src), .int .i64 y.note.expires, (.slice qa y.note.props.length qc), .int .i64 y.note.origin, .int .i64 y.note.number, .int .i64 y.note.hops, .int .i64 y.qos, .bool y.keep, (.slice ea y.ids.length ec), .string (str y.share)] 36)) (fun b => M b ∨ b = w.heap.size) p.1 p.2 := fun p hp => (hcon p hp).sep hs2
  have hrow1 := hrow.below hb0
  have hrow2 := hrow.below hb2
  obtain ⟨g, o, hva, hcell, hfz⟩ := hrow1.at hn0
  subst hva
  obtain ⟨i, hi0, _, hi1, _⟩ := info_parts infoIm
  obtain ⟨ax, hsl, hrow3, hob⟩ := RowA.from (k := 1) hrow2 Tryz.underlying52 hi0 hi1 (by omega)
  replace hsl : ∀ w', (Instr.slice 52 (.slice (some ⟨g, o, none⟩) n vc) (some (.int .i64 1)) none none).run Tryz.prog w' = .ok (.slice ax rest.length (vc - 1)) w' := by rw [hnr] at hsl; exact hsl
  rw [List.flatMap_cons, Nat.one_mul, List.drop_append, List.drop_of_length_le (by rw [imP_length]; omega), imP_length, Nat.sub_self, List.drop_zero, List.nil_append, hnr] at hrow3
  rw [hnr] at hob
  obtain ⟨hx3, hs3⟩ := SX.pop hx2 hpr hcon2 hrow3 hob
  have HCELL : Hid (∀ j, j < 14 → (w.alloc (Obj.cells #[.string ⟨#[]⟩, .slice none 0 0, .int .i64 0, .bool false, .string ⟨#[]⟩, .int .i64 0, .slice none 0 0, .int .i64 0, .int .i64 0, .int .i64 0, .int .i64 0, .bool false, .slice none 0 0, .string ⟨#[]⟩] 36)).cell? ⟨g, o + j, none⟩ = [.string (str y.note.topic), (.slice pa y.note.payload.length pc), .int .i64 y.note.qos, .bool y.note.retain, .string (str y.note.src), .int .i64 y.note.expires, (.slice qa y.note.props.length qc), .int .i64 y.note.origin, .int .i64 y.note.number, .int .i64 y.note.hops, .int .i64 y.qos, .bool y.keep, (.slice ea y.ids.length ec), .string (str y.share)][j]?) := fun j hj => by
    rw [hcell j (by omega), List.flatMap_cons, List.getElem?_append_left (by rw [imP_length]; exact hj)]
    rfl
  have N1 := Lib.hid (heap_alloc_new w (Obj.cells #[.string ⟨#[]⟩, .slice none 0 0, .int .i64 0, .bool false, .string ⟨#[]⟩, .int .i64 0, .slice none 0 0, .int .i64 0, .int .i64 0, .int .i64 0, .int .i64 0, .bool false, .slice none 0 0, .string ⟨#[]⟩] 36))
  have c6 := (ss9 (hx.below hb0).hS).2.2.1
  have d6 := (ss9 hx2.hS).2.2.1
  have f6 := frozen_block hx2.hS 6
  have hSN : S ≠ w.heap.size := fun e => by have := hx.lt S hx.mS; omega
  have N3 : Hid (((w.alloc (Obj.cells #[.string (str y.note.topic), (.slice pa y.note.payload.length pc), .int .i64 y.note.qos, .bool y.note.retain, .string (str y.note.src), .int .i64 y.note.expires, (.slice qa y.note.props.length qc), .int .i64 y.note.origin, .int .i64 y.note.number, .int .i64 y.note.hops, .int .i64 y.qos, .bool y.keep, (.slice ea y.ids.length ec), .string (str y.share)] 36)).setCell ⟨S, 6, none⟩ (.slice ax rest.length (vc - 1))).heap[w.heap.size]? = some (Obj.cells #[.string (str y.note.topic), (.slice pa y.note.payload.length pc), .int .i64 y.note.qos, .bool y.note.retain, .string (str y.note.src), .int .i64 y.note.expires, (.slice qa y.note.props.length qc), .int .i64 y.note.origin, .int .i64 y.note.number, .int .i64 y.note.hops, .int .i64 y.qos, .bool y.keep, (.slice ea y.ids.length ec), .string (str y.share)] 36)) := (heap_setCell_other _ _ _ _ (fun e => hSN e.symm)).trans (heap_alloc_new w (Obj.cells #[.string (str y.note.topic), (.slice pa y.note.payload.length pc), .int .i64 y.note.qos, .bool y.note.retain, .string (str y.note.src), .int .i64 y.note.expires, (.slice qa y.note.props.length qc), .int .i64 y.note.origin, .int .i64 y.note.number, .int .i64 y.note.hops, .int .i64 y.qos, .bool y.keep, (.slice ea y.ids.length ec), .string (str y.share)] 36))
  have HX3 := Lib.hid hx3
  have HS3 := Lib.hid (hs2.trans hs3)
  have HIM := Lib.hid ((hcon2 _ (List.mem_cons_self ..)).sep hs3)
  have HOB := Lib.hid (show (Value.slice ax rest.length (vc - 1)).ownBlock ≠ some w.heap.size from fun e => by
    rw [hob] at e
    have h1 := hx.lt _ (hown _ e)
    omega)
  have HFB := Lib.hid (show fv.ownBlock ≠ some w.heap.size from fun e => by
    have h1 := hx.lt _ (hx.hf.own _ e)
    omega)
  have HWX := Lib.hid hx
  have HB := Lib.hid hb
  have HL2 : Hid (s.queue.length ≤ 100000) := by show _ ≤ _; rw [hn]; exact hl1
  clear hR hps hrow hcon hown hx2 hs2 hcon2 hrow1 hrow2 hrow3 hcell hfz hpr hb hn hq hi0 hi1 hob hx3 hs3 hSN hx hb0 hb2 hnr
  have hz0 : ¬ (0 : Int) < y.qos := by omega
  clear hz
  go_enter Tryz.func10, Tryz.ntmps10
  go_wp2_with (first
    | (go_at_call 40; go_must (refine ready_any S s win true HB.out _ _ H1.out HL2.out _ ?_))
    | (refine wpList_load_at (o := ⟨some 17, .load 36 (.tmp 16), _, _, _, _⟩) (by rfl) 36 (.tmp 16) (by rfl) (g) (o) (by rfl) ([.string (str y.note.topic), (.slice pa y.note.payload.length pc), .int .i64 y.note.qos, .bool y.note.retain, .string (str y.note.src), .int .i64 y.note.expires, (.slice qa y.note.props.length qc), .int .i64 y.note.origin, .int .i64 y.note.number, .int .i64 y.note.hops, .int .i64 y.qos, .bool y.keep, (.slice ea y.ids.length ec), .string (str y.share)]) _ (HCELL.out) (Tryz.underlying36) (by rfl) (by kernel_rfl) ?_)
    | (refine wpList_store_row (o := ⟨none, .store 36 (.tmp 4) (.tmp 17), _, _, _, _⟩) (by rfl) 36 (.tmp 4) (.tmp 17) (by rfl) w.heap.size _ (by rfl) (by rfl) 36 _ N1.out (by kernel_rfl) (by rfl) (by simp [Value.oneCell']) ?_; rw [World.setRow_alloc_new]; have c10 := (it14 N3.out).2.2.2.2.1)
    | (refine wpList_load_row (o := ⟨some 52, .load 36 (.tmp 4), _, _, _, _⟩) (by rfl) 36 (.tmp 4) (by rfl) (w.heap.size) (by rfl) 36 _ (0, 0) _ (N3).out (Tryz.underlying36) (by rfl) (by kernel_rfl) ?_)
    | (go_at_call 37; go_must (refine icopy_any y _ _ _ _ HIM.out.1.out HIM.out.2 _ ?_); intro pa5 pc5 qa5 qc5 ea5 ec5 w5 ho5 hb5; have N5 := Lib.hid (row_on N3.out hb5); have HO5 := Lib.hid ho5; have HB5 := Lib.hid hb5; clear ho5 hb5)
    | (refine wpList_store_row (o := ⟨none, .store 36 (.tmp 4) (.tmp 53), _, _, _, _⟩) (by rfl) 36 (.tmp 4) (.tmp 53) (by rfl) (w.heap.size) _ (by rfl) (by rfl) 36 _ (N5).out (by kernel_rfl) (by rfl) (by simp [Value.oneCell']) ?_))
  obtain ⟨a0, a1, a2, a3, a4, a5, _, a7⟩ := HWX.out.away
  have hx5 := HX3.out.below HB5.out
  have hg8 := grown_setRow w5 w.heap.size #[.string (str y.note.topic), .slice pa5 y.note.payload.length pc5, .int .i64 y.note.qos, .bool y.note.retain, .string (str y.note.src), .int .i64 y.note.expires, .slice qa5 y.note.props.length qc5, .int .i64 y.note.origin, .int .i64 y.note.number, .int .i64 y.note.hops, .int .i64 y.qos, .bool y.keep, .slice ea5 y.ids.length ec5, .string (str y.share)]
  obtain ⟨hx8, hs8⟩ := hx5.retire (.inr rfl) hg8 a0 a1 a2 a3 a4 a5 HOB.out a7
  refine bodyPost_ret (res_two rfl _ _ w.heap.size 36 _ (0, 0) _ (.int .i64 0) (.bool true) rfl rfl rfl (setRow_heap _ w.heap.size _ _ _ _ N5.out) Tryz.underlying36 rfl (by kernel_rfl)) rfl ?_
  refine HR.out _ _ _ _ _ _ _ _ _ ⟨NB, MB, GB, GM, sv, _, fv, hx8⟩ ((HS3.out.below HB5.out).trans hs8) (HO5.out.typed N5.out (by decide) (by decide) (by decide) hg8) ?_ ?_ HIM.out.2
  · simp [World.setCell]
  · rintro b ⟨hb | hb, hb2⟩
    · have := HWX.out.lt b hb
      simp [World.setCell]
      omega
    · exact absurd hb hb2

theorem fl_oneCell {a c e : ByteArray} {f h i j k l m n : Int} {b q : Bool} (pa qa ea : Option Addr) (pn pc qn qc : Nat) {en ec : Nat} : ∀ u ∈ [Value.int .i64 f, .int .i64 h, Value.string a, .slice pa pn pc, .int .i64 i, .bool b, .string c, .int .i64 j, .slice qa qn qc, .int .i64 k, .int .i64 l, .int .i64 m, .int .i64 n, .bool q, .slice ea en ec, .string e], u.oneCell' = true := by
  intro u hu
  simp only [List.mem_cons, List.not_mem_nil, or_false] at hu
  rcases hu with rfl | rfl | rfl | rfl | rfl | rfl | rfl | rfl | rfl | rfl | rfl | rfl | rfl | rfl | rfl | rfl <;> rfl

set_option maxRecDepth 100000 in
set_option maxHeartbeats 4000000 in
theorem next_1 (S : Nat) (s : Sess) (x : Im) (rest : List Im) (hq : s.queue = x :: rest) (win : Int) (hb : readyL s win = true) (hz : 0 < x.qos) (d : Nat) (h1 : 1 ≤ d) (h2 : d ≤ 65535) (hc : s.nums.contains (d : Int) = false) (hall : ∀ j : Nat, 1 ≤ j → j < d → s.nums.contains (j : Int) = true) (hl : s.nums.length ≤ 100000) (hlf : s.flights.length ≤ 100000)
    (w : World) (M : Nat → Prop) (h : SR w M S s) (hl1 : s.queue.length ≤ 100000) (R : Ending → World → Prop)
    (hR : ∀ B M' pa pc qa qc ea ec w', SR w' M' S { s with queue := rest, nums := s.nums ++ [(d : Int)], flights := s.flights ++ [⟨d, x.qos, x⟩] } → Sep M M' w w' → ImO w' B (.slice pa x.note.payload.length pc) (.slice qa x.note.props.length qc) (.slice ea x.ids.length ec) x → w.heap.size ≤ B → (∀ b, M' b → b < B) → ImB x →
      R (.returned (.tuple #[(Value.agg #[.string (str x.note.topic), (.slice pa x.note.payload.length pc), .int .i64 x.note.qos, .bool x.note.retain, .string (str x.note.src), .int .i64 x.note.expires, (.slice qa x.note.props.length qc), .int .i64 x.note.origin, .int .i64 x.note.number, .int .i64 x.note.hops, .int .i64 x.qos, .bool x.keep, (.slice ea x.ids.length ec), .string (str x.share)]), .int .i64 d, .bool true])) w') :
    Calls Tryz.prog 10 #[.pointer (some ⟨S, 0, none⟩), .int .i64 win] w R := by
  obtain ⟨NB, MB, GB, GM, sv, qv, fv, hx⟩ := h
  have HR := Lib.hid hR
  obtain ⟨ps, hps, hrow, hcon, hown⟩ := id hx.hq
  obtain ⟨va, vc, rfl⟩ := hrow.shape
  obtain ⟨n, hn⟩ : ∃ n, s.queue.length = n := ⟨_, rfl⟩
  have hn0 : 0 < n := by rw [← hn, hq]; simp
  have hn1 : (0 : Int) < (n : Int) := by omega
  have hnr : n - 1 = rest.length := by rw [← hn, hq]; simp
  rw [hn] at hx hrow hl1
  rw [hq] at hps
  obtain ⟨⟨c, y⟩, pr, rfl⟩ : ∃ p pr, ps = p :: pr := by
    cases ps with
    | nil => simp at hps
    | cons p pr => exact ⟨p, pr, rfl⟩
  obtain ⟨rfl, hpr⟩ : y = x ∧ pr.map (·.2) = rest := by simpa using hps
  obtain ⟨⟨pa, pc, hpa⟩, ⟨qa, qc, hqa⟩, ea, ec, hea⟩ := (hcon (c, y) (List.mem_cons_self ..)).1.out.shape
  obtain ⟨p1, p2, p3⟩ := c
  simp only at hpa hqa hea
  subst hpa hqa hea
  have hb0 : Below w.heap.size w (w.alloc (Obj.cells #[.string ⟨#[]⟩, .slice none 0 0, .int .i64 0, .bool false, .string ⟨#[]⟩, .int .i64 0, .slice none 0 0, .int .i64 0, .int .i64 0, .int .i64 0, .int .i64 0, .bool false, .slice none 0 0, .string ⟨#[]⟩] 36)) := (Below.refl _ _).alloc (Nat.le_refl _) _
  have hb2 : Below w.heap.size w (w.alloc (Obj.cells #[.string (str y.note.topic), (.slice pa y.note.payload.length pc), .int .i64 y.note.qos, .bool y.note.retain, .string (str y.note.src), .int .i64 y.note.expires, (.slice qa y.note.props.length qc), .int .i64 y.note.origin, .int .i64 y.note.number, .int .i64 y.note.hops, .int .i64 y.qos, .bool y.keep, (.slice ea y.ids.length ec), .string (str y.share)] 36)) := (Below.refl _ _).alloc (Nat.le_refl _) _
  have H1 : Hid (SR (w.alloc (Obj.cells #[.string ⟨#[]⟩, .slice none 0 0, .int .i64 0, .bool false, .string ⟨#[]⟩, .int .i64 0, .slice none 0 0, .int .i64 0, .int .i64 0, .int .i64 0, .int .i64 0, .bool false, .slice none 0 0, .string ⟨#[]⟩] 36)) M S s) := ⟨NB, MB, GB, GM, sv, _, fv, hx.below hb0⟩
  obtain ⟨hx2, hs2⟩ := hx.alloc1 (Obj.cells #[.string (str y.note.topic), (.slice pa y.note.payload.length pc), .int .i64 y.note.qos, .bool y.note.retain, .string (str y.note.src), .int .i64 y.note.expires, (.slice qa y.note.props.length qc), .int .i64 y.note.origin, .int .i64 y.note.number, .int .i64 y.note.hops, .int .i64 y.qos, .bool y.keep, (.slice ea y.ids.length ec), .string (str y.share)] 36)
  have hcon2 : ∀ p ∈ ((Value.slice pa y.note.payload.length pc, Value.slice qa y.note.props.length qc, Value.slice ea y.ids.length ec), y) :: pr, ImS (w.alloc (Obj.cells #[.string (str y.note.topic), (.slice pa y.note.payload.length pc), .int .i64 y.note.qos, .bool y.note.retain, .string (str y.note.src), .int .i64 y.note.expires, (.slice qa y.note.props.length qc), .int .i64 y.note.origin, .int .i64 y.note.number, .int .i64 y.note.hops, .int .i64 y.qos, .bool y.keep, (.slice ea y.ids.length ec), .string (str y.share)] 36)) (fun b => M b ∨ b = w.heap.size) p.1 p.2 := fun p hp => (hcon p hp).sep hs2
  have hrow1 := hrow.below hb0
  have hrow2 := hrow.below hb2
  obtain ⟨g, o, hva, hcell, hfz⟩ := hrow1.at hn0
  subst hva
  obtain ⟨i, hi0, _, hi1, _⟩ := info_parts infoIm
  obtain ⟨ax, hsl, hrow3, hob⟩ := RowA.from (k := 1) hrow2 Tryz.underlying52 hi0 hi1 (by omega)
  replace hsl : ∀ w', (Instr.slice 52 (.slice (some ⟨g, o, none⟩) n vc) (some (.int .i64 1)) none none).run Tryz.prog w' = .ok (.slice ax rest.length (vc - 1)) w' := by rw [hnr] at hsl; exact hsl
  rw [List.flatMap_cons, Nat.one_mul, List.drop_append, List.drop_of_length_le (by rw [imP_length]; omega), imP_length, Nat.sub_self, List.drop_zero, List.nil_append, hnr] at hrow3
  rw [hnr] at hob
  obtain ⟨hx3, hs3⟩ := SX.pop hx2 hpr hcon2 hrow3 hob
  have HCELL : Hid (∀ j, j < 14 → (w.alloc (Obj.cells #[.string ⟨#[]⟩, .slice none 0 0, .int .i64 0, .bool false, .string ⟨#[]⟩, .int .i64 0, .slice none 0 0, .int .i64 0, .int .i64 0, .int .i64 0, .int .i64 0, .bool false, .slice none 0 0, .string ⟨#[]⟩] 36)).cell? ⟨g, o + j, none⟩ = [.string (str y.note.topic), (.slice pa y.note.payload.length pc), .int .i64 y.note.qos, .bool y.note.retain, .string (str y.note.src), .int .i64 y.note.expires, (.slice qa y.note.props.length qc), .int .i64 y.note.origin, .int .i64 y.note.number, .int .i64 y.note.hops, .int .i64 y.qos, .bool y.keep, (.slice ea y.ids.length ec), .string (str y.share)][j]?) := fun j hj => by
    rw [hcell j (by omega), List.flatMap_cons, List.getElem?_append_left (by rw [imP_length]; exact hj)]
    rfl
  have N1 := Lib.hid (heap_alloc_new w (Obj.cells #[.string ⟨#[]⟩, .slice none 0 0, .int .i64 0, .bool false, .string ⟨#[]⟩, .int .i64 0, .slice none 0 0, .int .i64 0, .int .i64 0, .int .i64 0, .int .i64 0, .bool false, .slice none 0 0, .string ⟨#[]⟩] 36))
  have c6 := (ss9 (hx.below hb0).hS).2.2.1
  have d6 := (ss9 hx2.hS).2.2.1
  have f6 := frozen_block hx2.hS 6
  have hSN : S ≠ w.heap.size := fun e => by have := hx.lt S hx.mS; omega
  have N3 : Hid (((w.alloc (Obj.cells #[.string (str y.note.topic), (.slice pa y.note.payload.length pc), .int .i64 y.note.qos, .bool y.note.retain, .string (str y.note.src), .int .i64 y.note.expires, (.slice qa y.note.props.length qc), .int .i64 y.note.origin, .int .i64 y.note.number, .int .i64 y.note.hops, .int .i64 y.qos, .bool y.keep, (.slice ea y.ids.length ec), .string (str y.share)] 36)).setCell ⟨S, 6, none⟩ (.slice ax rest.length (vc - 1))).heap[w.heap.size]? = some (Obj.cells #[.string (str y.note.topic), (.slice pa y.note.payload.length pc), .int .i64 y.note.qos, .bool y.note.retain, .string (str y.note.src), .int .i64 y.note.expires, (.slice qa y.note.props.length qc), .int .i64 y.note.origin, .int .i64 y.note.number, .int .i64 y.note.hops, .int .i64 y.qos, .bool y.keep, (.slice ea y.ids.length ec), .string (str y.share)] 36)) := (heap_setCell_other _ _ _ _ (fun e => hSN e.symm)).trans (heap_alloc_new w (Obj.cells #[.string (str y.note.topic), (.slice pa y.note.payload.length pc), .int .i64 y.note.qos, .bool y.note.retain, .string (str y.note.src), .int .i64 y.note.expires, (.slice qa y.note.props.length qc), .int .i64 y.note.origin, .int .i64 y.note.number, .int .i64 y.note.hops, .int .i64 y.qos, .bool y.keep, (.slice ea y.ids.length ec), .string (str y.share)] 36))
  have HX3 := Lib.hid hx3
  have HS3 := Lib.hid (hs2.trans hs3)
  have HIM := Lib.hid ((hcon2 _ (List.mem_cons_self ..)).sep hs3)
  have HOB := Lib.hid (show (Value.slice ax rest.length (vc - 1)).ownBlock ≠ some w.heap.size from fun e => by
    rw [hob] at e
    have h1 := hx.lt _ (hown _ e)
    omega)
  have HFB := Lib.hid (show fv.ownBlock ≠ some w.heap.size from fun e => by
    have h1 := hx.lt _ (hx.hf.own _ e)
    omega)
  have HWX := Lib.hid hx
  have HB := Lib.hid hb
  have HL2 : Hid (s.queue.length ≤ 100000) := by show _ ≤ _; rw [hn]; exact hl1
  clear hR hps hrow hcon hown hx2 hs2 hcon2 hrow1 hrow2 hrow3 hcell hfz hpr hb hn hq hi0 hi1 hob hx3 hs3 hSN hx hb0 hb2 hnr
  have HCC := Lib.hid hc
  have HALL := Lib.hid hall
  have c0 := (ss9 HX3.out.hS).1.1
  have c10 := (it14 N3.out).2.2.2.2.1
  clear hc hall
  go_enter Tryz.func10, Tryz.ntmps10
  go_wp2_with (first
    | (go_at_call 40; go_must (refine ready_any S s win true HB.out _ _ H1.out HL2.out _ ?_))
    | (refine wpList_load_at (o := ⟨some 17, .load 36 (.tmp 16), _, _, _, _⟩) (by rfl) 36 (.tmp 16) (by rfl) (g) (o) (by rfl) ([.string (str y.note.topic), (.slice pa y.note.payload.length pc), .int .i64 y.note.qos, .bool y.note.retain, .string (str y.note.src), .int .i64 y.note.expires, (.slice qa y.note.props.length qc), .int .i64 y.note.origin, .int .i64 y.note.number, .int .i64 y.note.hops, .int .i64 y.qos, .bool y.keep, (.slice ea y.ids.length ec), .string (str y.share)]) _ (HCELL.out) (Tryz.underlying36) (by rfl) (by kernel_rfl) ?_)
    | (refine wpList_store_row (o := ⟨none, .store 36 (.tmp 4) (.tmp 17), _, _, _, _⟩) (by rfl) 36 (.tmp 4) (.tmp 17) (by rfl) w.heap.size _ (by rfl) (by rfl) 36 _ N1.out (by kernel_rfl) (by rfl) (by simp [Value.oneCell']) ?_; rw [World.setRow_alloc_new])
    | (go_at_call 41; go_must (refine itake_any NB MB s.nums d h1 h2 HCC.out HALL.out hl _ HX3.out.hn _ ?_); intro w4 hst4 hg4; have hx4 := SX.turn HX3.out hg4 hst4; have HX4 := Lib.hid hx4.1; have HS4 := Lib.hid (HS3.out.trans hx4.2); have N4 := Lib.hid (block_grown hg4 N3.out (fun e => by have h1 := HWX.out.away.2.2.1; exact h1 (Option.some.inj e).symm)); have HI4 := Lib.hid (HIM.out.sep hx4.2); clear hst4 hg4 hx4))
  have HX4d := Lib.hid (HX4.out.below (Below.refl w4.heap.size w4).drew)
  have hy5 : Below w4.drew.heap.size w4.drew (w4.drew.alloc (Obj.cells #[.int .i64 (d : Int), .int .i64 y.qos, .string (str y.note.topic), (.slice pa y.note.payload.length pc), .int .i64 y.note.qos, .bool y.note.retain, .string (str y.note.src), .int .i64 y.note.expires, (.slice qa y.note.props.length qc), .int .i64 y.note.origin, .int .i64 y.note.number, .int .i64 y.note.hops, .int .i64 y.qos, .bool y.keep, (.slice ea y.ids.length ec), .string (str y.share)] 51)) := (Below.refl _ _).alloc (Nat.le_refl _) _
  have HX5 := Lib.hid (HX4d.out.below hy5)
  have HN5 : Hid ((w4.drew.alloc (Obj.cells #[.int .i64 (d : Int), .int .i64 y.qos, .string (str y.note.topic), (.slice pa y.note.payload.length pc), .int .i64 y.note.qos, .bool y.note.retain, .string (str y.note.src), .int .i64 y.note.expires, (.slice qa y.note.props.length qc), .int .i64 y.note.origin, .int .i64 y.note.number, .int .i64 y.note.hops, .int .i64 y.qos, .bool y.keep, (.slice ea y.ids.length ec), .string (str y.share)] 51)).heap[w.heap.size]? = some (Obj.cells #[.string (str y.note.topic), (.slice pa y.note.payload.length pc), .int .i64 y.note.qos, .bool y.note.retain, .string (str y.note.src), .int .i64 y.note.expires, (.slice qa y.note.props.length qc), .int .i64 y.note.origin, .int .i64 y.note.number, .int .i64 y.note.hops, .int .i64 y.qos, .bool y.keep, (.slice ea y.ids.length ec), .string (str y.share)] 36)) := row_on N4.out (below_tra (Below.refl w4.heap.size w4).drew hy5)
  have hi5 : ImS (w4.drew.alloc (Obj.cells #[.int .i64 (d : Int), .int .i64 y.qos, .string (str y.note.topic), (.slice pa y.note.payload.length pc), .int .i64 y.note.qos, .bool y.note.retain, .string (str y.note.src), .int .i64 y.note.expires, (.slice qa y.note.props.length qc), .int .i64 y.note.origin, .int .i64 y.note.number, .int .i64 y.note.hops, .int .i64 y.qos, .bool y.keep, (.slice ea y.ids.length ec), .string (str y.share)] 51)) (fun b => M b ∨ b = w.heap.size) (.slice pa y.note.payload.length pc, .slice qa y.note.props.length qc, .slice ea y.ids.length ec) y := (HI4.out.sep (.of_below (Below.refl w4.heap.size w4).drew)).sep (.of_below hy5)
  have HI5 := Lib.hid hi5
  obtain ⟨fps, hfps, hfrow, hfcon, _⟩ := HX5.out.hf
  obtain ⟨m, hm⟩ : ∃ m, s.flights.length = m := ⟨_, rfl⟩
  obtain ⟨fa, fc, hfv⟩ : ∃ a c, fv = .slice a m c := by
    rw [← hm]
    exact owns_shape hfrow
  subst hfv
  have hm' : ({ s with queue := rest, nums := s.nums ++ [(d : Int)] } : Sess).flights.length = m := hm
  rw [hm] at hlf
  rw [hm'] at hfrow
  have HM := Lib.hid hm
  have HFPS := Lib.hid hfps
  have HFROW := Lib.hid hfrow
  have HFCON := Lib.hid hfcon
  have c7 : w4.drew.cell? ⟨S, 7, none⟩ = some (.slice fa m fc) := by
    exact (ss9 HX4d.out.hS).2.2.2.1
  have c75 : (w4.alloc (Obj.cells #[.int .i64 (d : Int), .int .i64 y.qos, .string (str y.note.topic), (.slice pa y.note.payload.length pc), .int .i64 y.note.qos, .bool y.note.retain, .string (str y.note.src), .int .i64 y.note.expires, (.slice qa y.note.props.length qc), .int .i64 y.note.origin, .int .i64 y.note.number, .int .i64 y.note.hops, .int .i64 y.qos, .bool y.keep, (.slice ea y.ids.length ec), .string (str y.share)] 51)).drew.cell? ⟨S, 7, none⟩ = some (.slice fa m fc) := cell_later hy5 c7
  obtain ⟨⟨i0, i1, i2, i3, i4, i5, i6⟩, i7, i8, i9, i10, i11, i12, i13⟩ := it14 (w := w4.drew) N4.out
  clear hfps hfrow hfcon hm hi5 hm' c0 c10 c6 d6 f6
  go_region_law (first
    | refine step_appAt (by rfl) (.tmp 42) (.tmp 48) 48 (by rfl) 0 51 (Value.agg #[.int .i64 0, .int .i64 0, .string ⟨#[]⟩, .slice none 0 0, .int .i64 0, .bool false, .string ⟨#[]⟩, .int .i64 0, .slice none 0 0, .int .i64 0, .int .i64 0, .int .i64 0, .int .i64 0, .bool false, .slice none 0 0, .string ⟨#[]⟩]) 16 200 Tryz.underlying48 infoFl rfl (by decide) fa m fc _ (by rfl) HFROW.out (some ⟨w4.heap.size, 0, none⟩) 1 1 [.int .i64 (d : Int), .int .i64 y.qos, .string (str y.note.topic), (.slice pa y.note.payload.length pc), .int .i64 y.note.qos, .bool y.note.retain, .string (str y.note.src), .int .i64 y.note.expires, (.slice qa y.note.props.length qc), .int .i64 y.note.origin, .int .i64 y.note.number, .int .i64 y.note.hops, .int .i64 y.qos, .bool y.keep, (.slice ea y.ids.length ec), .string (str y.share)] (by rfl) (rd_lit w4.drew #[.int .i64 (d : Int), .int .i64 y.qos, .string (str y.note.topic), (.slice pa y.note.payload.length pc), .int .i64 y.note.qos, .bool y.note.retain, .string (str y.note.src), .int .i64 y.note.expires, (.slice qa y.note.props.length qc), .int .i64 y.note.origin, .int .i64 y.note.number, .int .i64 y.note.hops, .int .i64 y.qos, .bool y.keep, (.slice ea y.ids.length ec), .string (str y.share)] 51 16 1 rfl) (fl_oneCell _ _ _ _ _ _ _) (fun h => by cases h) (by unfold maxLen; omega) (by omega) (Nat.zero_le _) ?_; intro ad6 fc6 w6 hrow6 hg6 hat6; have r6 := block_grown hg6 HX5.out.hS (own_block_ne HX5.out.hS HFROW.out (by decide)); have e7 := (ss9 r6).2.2.2.1; have f7 := frozen_block r6 7)
  all_goals
    obtain ⟨a0, a1, a2, a3, a4, a5, _, a7⟩ := HWX.out.away
    have hne7 : ∀ k, (Value.slice ad6 (m + 1) fc6).ownBlock = some k → k ≠ w.heap.size := fun k hk => by
      rcases hat6 with e | e
      · exact fun h => a7 (e.symm.trans (hk.trans (by rw [h])))
      · rw [e] at hk
        have h0 := (Array.getElem?_eq_some_iff.1 N4.out).1
        have h1 := Option.some.inj hk
        simp at h1
        omega
    obtain ⟨M7, hx7, hs7, hm7⟩ := SX.fly (fs := s.flights ++ [⟨d, y.qos, y⟩]) (ps := fps ++ [((.slice pa y.note.payload.length pc, .slice qa y.note.props.length qc, .slice ea y.ids.length ec), ⟨d, y.qos, y⟩)]) HX5.out (by rw [List.map_append, HFPS.out]; rfl) (fun p hp => by
      rcases List.mem_append.1 hp with hp | hp
      · exact HFCON.out p hp
      · obtain rfl := List.mem_singleton.1 hp
        exact HI5.out) (by rw [List.flatMap_append, List.length_append, HM.out]; exact hrow6) hg6 hat6
    have N7 : Hid ((w6.setCell ⟨S, 7, none⟩ (.slice ad6 (m + 1) fc6)).heap[w.heap.size]? = some (Obj.cells #[.string (str y.note.topic), (.slice pa y.note.payload.length pc), .int .i64 y.note.qos, .bool y.note.retain, .string (str y.note.src), .int .i64 y.note.expires, (.slice qa y.note.props.length qc), .int .i64 y.note.origin, .int .i64 y.note.number, .int .i64 y.note.hops, .int .i64 y.qos, .bool y.keep, (.slice ea y.ids.length ec), .string (str y.share)] 36)) := (heap_setCell_other _ _ _ _ (fun e => a0 e)).trans (block_grown hg6 HN5.out (own_block_ne HN5.out HFROW.out (by decide)))
    have HX7 := Lib.hid hx7
    have HS7 := Lib.hid (((HS4.out.below (Below.refl w4.heap.size w4).drew).below hy5).trans hs7)
    have HI7 := Lib.hid (HI5.out.sep hs7)
    have HFB7 := Lib.hid hne7
    clear hx7 hs7 hne7 hat6 hg6 hrow6 r6 e7 f7 c7 c75 i0 i1 i2 i3 i4 i5 i6 i7 i8 i9 i10 i11 i12 i13 hy5
    go_wp2_with (first
      | (refine wpList_load_row (o := ⟨some 52, .load 36 (.tmp 4), _, _, _, _⟩) (by rfl) 36 (.tmp 4) (by rfl) (w.heap.size) (by rfl) 36 _ (0, 0) _ (N7).out (Tryz.underlying36) (by rfl) (by kernel_rfl) ?_)
      | (go_at_call 37; go_must (refine icopy_any y _ _ _ _ HI7.out.1.out HI7.out.2 _ ?_); intro pa8 pc8 qa8 qc8 ea8 ec8 w8 ho8 hb8; have N8 := Lib.hid (row_on N7.out hb8); have HO8 := Lib.hid ho8; have HB8 := Lib.hid hb8; clear ho8 hb8)
      | (refine wpList_store_row (o := ⟨none, .store 36 (.tmp 4) (.tmp 53), _, _, _, _⟩) (by rfl) 36 (.tmp 4) (.tmp 53) (by rfl) (w.heap.size) _ (by rfl) (by rfl) 36 _ (N8).out (by kernel_rfl) (by rfl) (by simp [Value.oneCell']) ?_))
    have hx8 := HX7.out.below HB8.out
    have hg9 := grown_setRow w8 w.heap.size #[.string (str y.note.topic), .slice pa8 y.note.payload.length pc8, .int .i64 y.note.qos, .bool y.note.retain, .string (str y.note.src), .int .i64 y.note.expires, .slice qa8 y.note.props.length qc8, .int .i64 y.note.origin, .int .i64 y.note.number, .int .i64 y.note.hops, .int .i64 y.qos, .bool y.keep, .slice ea8 y.ids.length ec8, .string (str y.share)]
    have hN7 : M7 w.heap.size := hm7 _ (.inr rfl)
    obtain ⟨hx9, hs9⟩ := hx8.retire hN7 hg9 a0 a1 a2 a3 a4 a5 HOB.out (fun e => HFB7.out _ e rfl)
    refine bodyPost_ret (res_two rfl _ _ w.heap.size 36 _ (0, 0) _ (.int .i64 d) (.bool true) rfl rfl rfl (setRow_heap _ w.heap.size _ _ _ _ N8.out) Tryz.underlying36 rfl (by kernel_rfl)) rfl ?_
    refine HR.out _ _ _ _ _ _ _ _ _ ⟨NB, MB, GB, GM, sv, _, _, hx9⟩ ((HS7.out.below HB8.out).trans hs9) (HO8.out.typed N8.out (by decide) (by decide) (by decide) hg9) ?_ ?_ HI7.out.2
    · have h1 := HS7.out.size
      simpa [World.setCell] using h1
    · rintro b ⟨hb, hb2⟩
      exact HX7.out.lt b hb
end Go.Proofs.YtgimbocoamnkjaaGreatDoor
