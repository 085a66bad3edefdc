/- That a made topic is a text. Plain. -/
import Derived.Test.YtgimbocoamnkjaaGreatDoorM23
import Derived.Test.YtgimbocoamnkjaaGreatDoorM28
import Derived.Lib.ValidLaws
import Derived.Lib.TrimAscii
import Derived.Test.YtgimbocoamnkjaaGreatDoorM32
import Derived.Deep.CutRange
import Derived.Deep.CutBlock
import Derived.Deep.LoopGhost
import Derived.Test.YtgimbocoamnkjaaGreatDoorM02
import Derived.SizedLaws
namespace Go.Proofs.YtgimbocoamnkjaaGreatDoor
open Go.RowKit

theorem ascii_text : ∀ l : List UInt8, (∀ b ∈ l, b.toNat ≠ 0 ∧ b.toNat < 128) → isTextL l = true
  | [], _ => text_nil
  | b :: t, h => by
    have hb := h b (by simp)
    have ih := ascii_text t (fun x hx => h x (List.mem_cons_of_mem _ hx))
    unfold isTextL at ih ⊢
    rw [Bool.and_eq_true] at ih ⊢
    refine ⟨?_, by rw [Lib.validD_cons b t hb.2]; exact ih.2⟩
    rw [nz_step _ (by simp), Lib.decodeL_ascii b t hb.2]
    simp only [hb.1, if_false]
    exact ih.1
theorem b8_letter (c : Fin 256) : (b8 (97 + ((c.val : Nat) : Int) % 26)).toNat ≠ 0 ∧ (b8 (97 + ((c.val : Nat) : Int) % 26)).toNat < 128 := by
  revert c
  decide +kernel
theorem topic_gt (l : List UInt8) : GT (116 :: plainL l) := by
  refine ⟨ascii_text _ fun b hb => ?_, ?_⟩
  · rcases List.mem_cons.1 hb with rfl | hb
    · decide
    · unfold plainL at hb
      obtain ⟨x, _, rfl⟩ := List.mem_map.1 hb
      exact b8_letter ⟨x.toNat, x.toNat_lt⟩
  · have := plainL_len l
    simp only [List.length_cons]
    omega
end Go.Proofs.YtgimbocoamnkjaaGreatDoor

/- The law SessionOnce: its session, plain, and the memory beside it. -/
namespace Go.Proofs.YtgimbocoamnkjaaGreatDoor
open Go.RowKit

/-- A session that has a queue alone. -/
def qS (q : List Im) : Sess := { newS [99] with queue := q }
theorem once_push (x : Im) : pushS (newS [99]) x = (qS [x], true) := rfl
theorem qS_inv {x : Im} (h : 0 ≤ x.qos) : SInv (qS [x]) := ⟨by simp [qS, newS], by simp [qS, newS], rfl, .nil, by simp [qS, newS], fun y hy => by
  obtain rfl := List.mem_singleton.1 hy
  exact h⟩
theorem oS_inv {f : Fl} (hf : f.id = 1) : SInv (oS [1] [f]) := ⟨by simp [oS], by simp [oS], by simp [oS, hf], by simp [oS], fun g hg => by
    obtain rfl := List.mem_singleton.1 hg
    rw [hf]
    decide, by simp [oS]⟩
theorem oS_none : SInv (oS [] []) := ⟨by simp [oS], by simp [oS], rfl, .nil, by simp [oS], by simp [oS]⟩
theorem once_next {s' : Sess} {id : Int} {x y : Im} {ok : Bool} (hx : x.qos = 2) (h : NextR (qS [x]) 5 y id ok s') : ok = true ∧ id = 1 ∧ y = x ∧ s' = oS [1] [⟨1, 2, x⟩] := by
  have hr : readyL (qS [x]) 5 = true := by
    show (x.qos == 0 || (decide ((0 : Int) < 5) && decide (0 < 8))) = true
    simp
  cases h with
  | no h => rw [hr] at h; cases h
  | out y r hq' h hz => cases hq'; omega
  | fly y r d hq' h hz h1 h2 hc ha =>
    cases hq'
    have h3 : d ≤ 1 := h2
    obtain rfl : d = 1 := by omega
    refine ⟨rfl, rfl, rfl, ?_⟩
    show oS [1] [⟨1, x.qos, x⟩] = _
    rw [hx]
theorem o_rec (x : Im) : idxP (hitF 1 [2, 3]) (oS [1] [⟨1, 2, x⟩]).flights = 0 := rfl
theorem o_rec2 (x : Im) : recS (oS [1] [⟨1, 2, x⟩]) 0 true = (oS [1] [⟨1, 3, relI x⟩], true, true) := rfl
theorem o_again (x : Im) : idxP (hitF 1 [2, 3]) (oS [1] [⟨1, 3, x⟩]).flights = 0 := rfl
theorem o_again2 (x : Im) (b : Bool) : recS (oS [1] [⟨1, 3, x⟩]) 0 b = (oS [1] [⟨1, 3, x⟩], true, true) := rfl
theorem o_no (x : Im) : idxP (hitF 1 [1]) (oS [1] [⟨1, 3, x⟩]).flights = -1 := rfl
theorem o_land (s : Sess) : landS s (-1) = s := if_pos (by decide)
theorem o_comp (x : Im) : idxP (hitF 1 [3]) (oS [1] [⟨1, 3, x⟩]).flights = 0 := rfl
theorem o_comp2 (f : Fl) (h : f.id = 1) : landS (oS [1] [f]) 0 = oS [] [] := by
  obtain ⟨i, st, it⟩ := f
  subst h
  rfl
theorem o_comp3 : idxP (hitF 1 [3]) (oS [] []).flights = -1 := rfl
theorem i64_and3 (n : Int) : bits .and .i64 n 3 = n % 4 := by
  have h7 : (BitVec.ofInt 64 3).toNat = 2 ^ 2 - 1 := by decide
  have key : (BitVec.ofInt 64 n &&& BitVec.ofInt 64 3).toNat = (n % ((2 ^ 64 : Nat) : Int)).toNat % 2 ^ 2 := by
    rw [BitVec.toNat_and, BitVec.toNat_ofInt, h7, Nat.and_two_pow_sub_one_eq_mod]
  show IntKind.i64.wrap ((BitVec.ofInt 64 n &&& BitVec.ofInt 64 3).toNat : Nat) = n % 4
  rw [key, IntKind.wrap_i64]
  omega

/-- The session S behind box K, which holds o; all of it behind world W. -/
structure LS (W w : World) (K S : Nat) (M : Nat → Prop) (s : Sess) (o : Obj) : Prop where
  sr : SR w M S s
  lo : ∀ b, M b → K < b
  low : Below W.heap.size W w
  bx : w.heap[K]? = some o
  ge : W.heap.size ≤ K
theorem LS.step {W w w' : World} {K S : Nat} {M M' : Nat → Prop} {s s' : Sess} {o : Obj} (h : LS W w K S M s o) (hs : Sep M M' w w') (hr : SR w' M' S s') : LS W w' K S M' s' o := by
  have hK : K < w.heap.size := (Array.getElem?_eq_some_iff.1 h.bx).1
  refine ⟨hr, fun b hb => ?_, below_then h.low (hs.low h.low.size (fun b hb => by have := h.lo b hb; have := h.ge; omega)) (Nat.le_refl _), ?_, h.ge⟩
  · rcases hs.new b hb with h1 | h1
    · exact h.lo b h1
    · omega
  · rw [hs.block K hK (fun hm => Nat.lt_irrefl _ (h.lo K hm))]
    exact h.bx
theorem LS.below {W w w' : World} {K S : Nat} {M : Nat → Prop} {s : Sess} {o : Obj} (h : LS W w K S M s o) (hb : Below w.heap.size w w') : LS W w' K S M s o := h.step (.of_below hb) (h.sr.below hb)
theorem LS.fresh {W w w' : World} {K S S' : Nat} {M M' : Nat → Prop} {s s' : Sess} {o : Obj} (h : LS W w K S M s o) (hb : Below w.heap.size w w') (hr : SR w' M' S' s') (hM : ∀ b, M' b → w.heap.size ≤ b) : LS W w' K S' M' s' o := by
  have hK : K < w.heap.size := (Array.getElem?_eq_some_iff.1 h.bx).1
  exact ⟨hr, fun b hb => by have := hM b hb; omega, below_then h.low hb h.low.size, row_on h.bx hb, h.ge⟩
theorem LS.start {W w w' : World} {K S : Nat} {M : Nat → Prop} {s : Sess} {o : Obj} (hl : Below W.heap.size W w) (hK : w.heap[K]? = some o) (hge : W.heap.size ≤ K) (hb : Below w.heap.size w w') (hr : SR w' M S s) (hM : ∀ b, M b → w.heap.size ≤ b) : LS W w' K S M s o := by
  have hk : K < w.heap.size := (Array.getElem?_eq_some_iff.1 hK).1
  exact ⟨hr, fun b hb => by have := hM b hb; omega, below_then hl hb hl.size, row_on hK hb, hge⟩
theorem LS.box {W w w' : World} {K S t : Nat} {fr : Nat × Nat} {cs : Array Value} {M : Nat → Prop} {s : Sess} {o' : Obj} (h : LS W w K S M s (.cells cs t fr)) (ht : t ≠ 143) (hg : w.grownBy w' (some K)) (hbx : w'.heap[K]? = some o') (hl : Below W.heap.size W w') (hq : s.queue = []) (hf : s.flights = []) : LS W w' K S M s o' := by
  obtain ⟨NB, MB, GB, GM, sv, qv, fv, hx⟩ := h.sr
  exact ⟨⟨NB, MB, GB, GM, sv, qv, fv, hx.other h.bx ht (fun hm => Nat.lt_irrefl _ (h.lo K hm)) hg (fun x hx => by rw [hq] at hx; cases hx) (fun f hx => by rw [hf] at hx; cases hx)⟩, h.lo, hl, hbx, h.ge⟩
end Go.Proofs.YtgimbocoamnkjaaGreatDoor

/- The law SessionOnce, walked. -/
namespace Go.Proofs.YtgimbocoamnkjaaGreatDoor
open Go.RowKit

theorem o_len (f : Fl) : (oS [1] [f]).flights.length ≤ 100000 := by
  show 1 ≤ 100000
  decide
/-- What the law reads of the one flight. -/
structure FC (w : World) (g : Nat) (t : List UInt8) (qa : Option Addr) (qc : Nat) : Prop where
  c1 : w.cell? ⟨g, 1, none⟩ = some (.int .i64 3)
  c2 : w.cell? ⟨g, 2, none⟩ = some (.string (str t))
  c3 : w.cell? ⟨g, 3, none⟩ = some (.slice qa 0 qc)
theorem FC.below {w w' : World} {g : Nat} {t : List UInt8} {qa : Option Addr} {qc : Nat} (h : FC w g t qa qc) (hb : Below w.heap.size w w') : FC w' g t qa qc := ⟨cell_later hb h.c1, cell_later hb h.c2, cell_later hb h.c3⟩
theorem st_ne (t : List UInt8) : ¬ (⟨1, 3, gI t⟩ : Fl).state = 1 := by
  show ¬ (3 : Int) = 1
  decide
theorem flights_zero (S : Nat) (w : World) (M : Nat → Prop) (h : SR w M S (oS [] [])) (R : Ending → World → Prop)
    (hR : ∀ ad c w', Below w.heap.size w w' → R (.returned (.slice ad 0 c)) w') :
    Calls Tryz.prog 16 #[.pointer (some ⟨S, 0, none⟩)] w R :=
  flights_any S _ (by decide) w M h R fun ad c _ w' _ _ _ _ h5 => hR ad c w' h5
theorem one_of {qs : List (V3 × Fl)} {f : Fl} (h : qs.map (·.2) = [f]) : ∃ v1 v2 v3, qs = [((v1, v2, v3), f)] := by
  match qs, h with
  | [((v1, v2, v3), f')], h =>
    simp only [List.map_cons, List.map_nil, List.cons.injEq, and_true] at h
    exact ⟨v1, v2, v3, by rw [← h]⟩
theorem flights_one (S : Nat) (t : List UInt8) (w : World) (M : Nat → Prop) (h : SR w M S (oS [1] [⟨1, 3, gI t⟩])) (R : Ending → World → Prop)
    (hR : ∀ g c qa qc w', FC w' g t qa qc → Below w.heap.size w w' → R (.returned (.slice (some ⟨g, 0, none⟩) 1 c)) w') :
    Calls Tryz.prog 16 #[.pointer (some ⟨S, 0, none⟩)] w R := by
  refine flights_any S _ (o_len _) w M h R fun ad c qs w' h1 h2 h3 h4 h5 => ?_
  obtain ⟨v1, v2, v3, rfl⟩ := one_of h1
  have h2' : w'.ownsRow w.heap.size 51 16 (.slice ad 1 c) 1 (([((v1, v2, v3), (⟨1, 3, gI t⟩ : Fl))] : List (V3 × Fl)).flatMap flP) := h2
  obtain ⟨g, rfl⟩ := owns_head h2' (Nat.zero_lt_one)
  have hc := fun j (hj : j < 16) => fl_cells (ps := [((v1, v2, v3), (⟨1, 3, gI t⟩ : Fl))]) h2' (k := 0) (Nat.zero_lt_one) j hj
  obtain ⟨qa, qc, e⟩ := ((h3 0 (Nat.zero_lt_one)).c (h4 _ (List.mem_singleton.2 rfl))).shape.1
  have e' : v1 = .slice qa 0 qc := e
  subst e'
  exact hR g c qa qc w' ⟨hc 1 (by decide), hc 2 (by decide), hc 3 (by decide)⟩ h5

theorem item_at (m : Md) (X : Im) (hX : itemL m = X) (hb : MdB m) (a0 a1 a2 a3 b1 b2 b3 b4 : Value) (W w : World) (hW : Below W.heap.size W w) (hmW : MdC W a0 a1 a2 a3 b1 b2 b3 b4 m) (R : Ending → World → Prop)
    (hR : ∀ pa pc qa qc ea ec w', ImC w' (.slice pa X.note.payload.length pc) (.slice qa X.note.props.length qc) (.slice ea X.ids.length ec) X → Below w.heap.size w w' → R (.returned (Value.agg #[.string (str X.note.topic), (.slice pa X.note.payload.length pc), .int .i64 X.note.qos, .bool X.note.retain, .string (str X.note.src), .int .i64 X.note.expires, (.slice qa X.note.props.length qc), .int .i64 X.note.origin, .int .i64 X.note.number, .int .i64 X.note.hops, .int .i64 X.qos, .bool X.keep, (.slice ea X.ids.length ec), .string (str X.share)])) w') :
    Calls Tryz.prog 9 #[.agg #[a0, a1, a2, a3, .int .i64 m.qos, .int .i64 m.sub, .bool m.retain, .bool m.keep, .int .i64 m.life, .int .i64 m.fm, b1, b2, b3, b4, .int .i64 m.origin, .int .i64 m.number]] w R := by
  subst hX
  exact item_any m hb a0 a1 a2 a3 b1 b2 b3 b4 W w hW hmW R fun pa pc qa qc ea ec w' h1 h2 => hR pa pc qa qc ea ec w' h1.c h2

set_option maxRecDepth 100000 in
set_option maxHeartbeats 8000000 in
theorem once_law (m : Md) (hb : MdB m) (a0 a1 a2 a3 b1 b2 b3 b4 av : Value) (acks : List Int) (W : World) (hT : Tabs W) (hm : MdC W a0 a1 a2 a3 b1 b2 b3 b4 m) (ha : Is W av acks) (R : Ending → World → Prop)
    (hR : ∀ w', Below W.heap.size W w' → R (.returned (.bool true)) w') :
    Calls Tryz.prog 3 #[.agg #[a0, a1, a2, a3, .int .i64 m.qos, .int .i64 m.sub, .bool m.retain, .bool m.keep, .int .i64 m.life, .int .i64 m.fm, b1, b2, b3, b4, .int .i64 m.origin, .int .i64 m.number], av] W R := by
  have HR := Lib.hid hR
  obtain ⟨topic, src, share, payload, qos, sub, retain, keep, life, fm, co, cr, us, ids, origin, number⟩ := m
  have hm2 : MdC W a0 a1 a2 a3 b1 b2 b3 b4 (⟨topic, src, share, payload, 2, 2, retain, keep, life, fm, co, cr, us, ids, origin, number⟩ : Md) := ⟨hm.t, hm.f, hm.s, hm.p, hm.c, hm.r, hm.u, hm.i⟩
  have hb2 : MdB (⟨topic, src, share, payload, 2, 2, retain, keep, life, fm, co, cr, us, ids, origin, number⟩ : Md) := ⟨hb.fm, hb.life⟩
  obtain ⟨⟨ta, tc, rfl, _⟩, ⟨fa, fc, rfl, _⟩, ⟨sa, sc, rfl, _⟩, ⟨pa, pc, rfl, _⟩, ⟨ca, cc, rfl, _⟩, ⟨ra, rc, rfl, _⟩, ⟨ua, uc, rfl, _⟩, ⟨ia, ic, rfl, _⟩⟩ := id hm
  simp only at hm2 hb2 ⊢
  obtain ⟨X, hX⟩ : ∃ X, itemL (⟨topic, src, share, payload, 2, 2, retain, keep, life, fm, co, cr, us, ids, origin, number⟩ : Md) = X := ⟨_, rfl⟩
  have hgt : GT X.note.topic := by rw [← hX]; exact topic_gt topic
  have hxq : X.qos = 2 := by rw [← hX]; rfl
  have hxb : ImB X := by rw [← hX]; exact itemL_b _
  obtain ⟨aa, ac, rfl, _⟩ := id ha
  obtain ⟨N, hN⟩ : ∃ n, acks.length = n := ⟨_, rfl⟩
  have HA := Lib.hid ha
  have HNL := Lib.hid hN
  rw [hN]
  have hN9 : N ≤ 9223372036854775807 := by
    obtain ⟨_, _, e, _, h1, h2, _⟩ := ha
    simp only [Value.slice.injEq] at e
    omega
  have b1 : Below W.heap.size W (W.alloc (Obj.cells #[.slice ta topic.length tc, .slice fa src.length fc, .slice sa share.length sc, .slice pa payload.length pc, .int .i64 qos, .int .i64 sub, .bool retain, .bool keep, .int .i64 life, .int .i64 fm, .slice ca co.length cc, .slice ra cr.length rc, .slice ua us.length uc, .slice ia ids.length ic, .int .i64 origin, .int .i64 number] 27)) := (Below.refl _ _).alloc (Nat.le_refl _) _
  have n1 := heap_alloc_new W (Obj.cells #[.slice ta topic.length tc, .slice fa src.length fc, .slice sa share.length sc, .slice pa payload.length pc, .int .i64 qos, .int .i64 sub, .bool retain, .bool keep, .int .i64 life, .int .i64 fm, .slice ca co.length cc, .slice ra cr.length rc, .slice ua us.length uc, .slice ia ids.length ic, .int .i64 origin, .int .i64 number] 27)
  have HT := Lib.hid hT
  have HM2 := Lib.hid hm2
  have HB2 := Lib.hid hb2
  have HX := Lib.hid hX
  have HGT := Lib.hid hgt
  have HXQ := Lib.hid hxq
  have HXB := Lib.hid hxb
  clear hR hT hm hb hm2 hb2 hX hgt hxq hxb ha hN
  go_enter Tryz.func3, Tryz.ntmps3
  go_upto_region 1 with fail
  generalize W.alloc (Obj.cells #[.slice ta topic.length tc, .slice fa src.length fc, .slice sa share.length sc, .slice pa payload.length pc, .int .i64 qos, .int .i64 sub, .bool retain, .bool keep, .int .i64 life, .int .i64 fm, .slice ca co.length cc, .slice ra cr.length rc, .slice ua us.length uc, .slice ia ids.length ic, .int .i64 origin, .int .i64 number] 27) = w1 at b1 n1 ⊢
  obtain ⟨K, hK⟩ : ∃ K, W.heap.size = K := ⟨_, rfl⟩
  have HK := Lib.hid hK
  have B1 := Lib.hid b1
  rw [hK] at n1 ⊢
  have N1 := Lib.hid n1
  clear b1 n1 hK
  go_upto_region 2 with (first
    | (go_at_call 6; go_must (refine snew_any [99] _ _ ?_); intro S M w2 hs2 hM2 hbw; have HL2 := Lib.hid (LS.start B1.out N1.out (Nat.le_of_eq HK.out) hbw hs2 hM2); clear hs2 hM2 hbw))
  go_upto_region 4 with (first
    | (go_at_call 7; go_must (refine wakes_any _ _ ?_); intro w3 hb3; have HL3 := Lib.hid (HL2.out.below hb3); clear hb3))
  have c4 := cell_of_row w3 K 4 _ _ _ HL3.out.bx
  have f4 := frozen_block HL3.out.bx 4
  have c5 := cell_of_row w3 K 5 _ _ _ HL3.out.bx
  have f5 := frozen_block HL3.out.bx 5
  go_upto_region 5 with fail
  have hbx4 : ((w3.setCell ⟨K, 4, none⟩ (.int .i64 2)).setCell ⟨K, 5, none⟩ (.int .i64 2)).heap[K]? = some (Obj.cells #[.slice ta topic.length tc, .slice fa src.length fc, .slice sa share.length sc, .slice pa payload.length pc, .int .i64 2, .int .i64 2, .bool retain, .bool keep, .int .i64 life, .int .i64 fm, .slice ca co.length cc, .slice ra cr.length rc, .slice ua us.length uc, .slice ia ids.length ic, .int .i64 origin, .int .i64 number] 27) := by
    rw [heap_setCell_same _ K 5 _ _ _ (heap_setCell_same w3 K 4 _ _ _ HL3.out.bx)]
    rfl
  have hl4 := HL3.out.box (by decide) (grownBy_trans (grownBy_setCell w3 ⟨K, 4, none⟩ (.int .i64 2)) (grownBy_setCell _ ⟨K, 5, none⟩ (.int .i64 2))) hbx4 ((HL3.out.low.setCell HL3.out.ge _).setCell HL3.out.ge _) rfl rfl
  generalize (w3.setCell ⟨K, 4, none⟩ (.int .i64 2)).setCell ⟨K, 5, none⟩ (.int .i64 2) = w4 at hbx4 hl4 ⊢
  have HL4 := Lib.hid hl4
  have HBX4 := Lib.hid hbx4
  clear hbx4 hl4 c4 f4 c5 f5
  go_upto_region 6 with (first
    | (refine wpList_load_row (o := ⟨some 25, .load 27 (.tmp 2), _, _, _, _⟩) (by rfl) 27 (.tmp 2) (by rfl) (K) (by rfl) 27 _ (0, 0) _ (HBX4).out (Tryz.underlying27) (by rfl) (by kernel_rfl) ?_)
    | (go_at_call 9; go_must (refine item_at (⟨topic, src, share, payload, 2, 2, retain, keep, life, fm, co, cr, us, ids, origin, number⟩ : Md) X HX.out HB2.out _ _ _ _ _ _ _ _ W _ HL4.out.low HM2.out _ ?_); intro pa5 pc5 qa5 qc5 ea5 ec5 w5 hc5 hb5; have HL5 := Lib.hid (HL4.out.below hb5); have HC5 := Lib.hid hc5; clear hc5 hb5)
    | (go_at_call 8; go_must (refine push_any S (newS [99]) X true (qS [X]) (once_push X) (SInv.new [99]) _ _ _ _ M HL5.out.sr HC5.out HXB.out _ ?_); intro M6 w6 h6 hs6; have HL6 := Lib.hid (HL5.out.step hs6 h6); clear h6 hs6))
  go_upto_region 7 with (first
    | (go_at_call 10; go_must (refine next_any S (qS [X]) 5 (qS_inv (by rw [HXQ.out]; decide)) _ M6 HL6.out.sr _ ?_); intro y id ok s' B M7 pa6 pc6 qa6 qc6 ea6 ec6 w7 hn h7 hs7 ho7 _ _ hB7; obtain ⟨e1, e2, e3, e4⟩ := once_next HXQ.out hn; subst e1; subst e2; subst e3; subst e4; have HL7 := Lib.hid (HL6.out.step hs7 h7); clear hn h7 hs7 ho7 hB7))
  have hl8 := HL7.out.below ((Below.refl w7.heap.size w7).alloc (Nat.le_refl _) (Obj.cells #[.string (str y.note.topic), (.slice pa6 y.note.payload.length pc6), .int .i64 y.note.qos, .bool y.note.retain, .string (str y.note.src), .int .i64 y.note.expires, (.slice qa6 y.note.props.length qc6), .int .i64 y.note.origin, .int .i64 y.note.number, .int .i64 y.note.hops, .int .i64 y.qos, .bool y.keep, (.slice ea6 y.ids.length ec6), .string (str y.share)] 36))
  generalize w7.alloc (Obj.cells #[.string (str y.note.topic), (.slice pa6 y.note.payload.length pc6), .int .i64 y.note.qos, .bool y.note.retain, .string (str y.note.src), .int .i64 y.note.expires, (.slice qa6 y.note.props.length qc6), .int .i64 y.note.origin, .int .i64 y.note.number, .int .i64 y.note.hops, .int .i64 y.qos, .bool y.keep, (.slice ea6 y.ids.length ec6), .string (str y.share)] 36) = w8 at hl8 ⊢
  have HL8 := Lib.hid hl8
  clear hl8
  go_wp2_with (first
    | (go_at_call 11; go_must (refine rec_any S (oS [1] [⟨1, 2, y⟩]) 1 true 0 (o_rec y) (oS_inv rfl).i64 (o_len _) _ true true (o_rec2 y) _ M7 HL8.out.sr _ ?_); intro M9 w9 h9 hs9; have HL9 : Hid (LS W w9 K S M9 (oS [1] [⟨1, 3, gI y.note.topic⟩]) (Obj.cells #[.slice ta topic.length tc, .slice fa src.length fc, .slice sa share.length sc, .slice pa payload.length pc, .int .i64 2, .int .i64 2, .bool retain, .bool keep, .int .i64 life, .int .i64 fm, .slice ca co.length cc, .slice ra cr.length rc, .slice ua us.length uc, .slice ia ids.length ic, .int .i64 origin, .int .i64 number] 27)) := Lib.hid (HL8.out.step hs9 h9); clear h9 hs9))
  go_loopg [5, 11] (min N 20) (fun gn sv i wr => ∃ (k S : Nat) (M : Nat → Prop), k ≤ min N 20 ∧ gn = min N 20 - k ∧ sv = .pointer (some ⟨S, 0, none⟩) ∧ i = .int .i64 k ∧ Hid (LS W wr K S M (oS [1] [⟨1, 3, gI y.note.topic⟩]) (Obj.cells #[.slice ta topic.length tc, .slice fa src.length fc, .slice sa share.length sc, .slice pa payload.length pc, .int .i64 2, .int .i64 2, .bool retain, .bool keep, .int .i64 life, .int .i64 fm, .slice ca co.length cc, .slice ra cr.length rc, .slice ua us.length uc, .slice ia ids.length ic, .int .i64 origin, .int .i64 number] 27)))
  case atStart => exact ⟨0, S, M9, Nat.zero_le _, by omega, rfl, rfl, HL9⟩
  case round =>
    obtain ⟨k, S', M', hk, rfl, rfl, rfl, HL⟩ := hrel
    obtain ⟨wo, rfl⟩ : ∃ x, x = wr := ⟨_, rfl⟩
    clear HL2 HL3 HL4 HBX4 HL5 HC5 HL6 HL7 HL8 HL9
    by_cases hlt : k < min N 20
    · have hkN : (k : Int) < (N : Int) := by omega
      have hk20 : (k : Int) < 20 := by omega
      obtain ⟨ag, ao, hae, hac⟩ := (HA.out.below HL.out.low).at k (by have := HNL.out; omega)
      subst hae
      obtain ⟨a, hak⟩ : ∃ a, acks[k]'(by have := HNL.out; omega) = a := ⟨_, rfl⟩
      rw [hak] at hac
      obtain ⟨z, hz⟩ : ∃ z, bits .and .i64 a 3 = z := ⟨_, rfl⟩
      have hz4 : 0 ≤ z ∧ z < 4 := by rw [← hz, i64_and3]; omega
      have HZ4 := Lib.hid hz4
      clear hz4 hak
      go_upto_block 2 with fail
      clear hz
      have HPL : Hid (((⟨1, 3, gI y.note.topic⟩ : Fl).item.note.props.flatMap laidL).length ≤ 90000000) := Nat.zero_le _
      have HL1 : Hid ((sBy y.note.topic).length ≤ 140000000) := Nat.le_trans (sBy_len HGT.out) (by decide)
      have HL2 : Hid ((ntBy (⟨1, 3, gI y.note.topic⟩ : Fl).item.note).length ≤ 140000000) := Nat.le_trans HGT.out.nl (by decide)
      have HL3 : Hid ((imBy (⟨1, 3, gI y.note.topic⟩ : Fl).item).length ≤ 140000000) := Nat.le_trans HGT.out.il (by decide)
      go_cut [4, 5, 12, 13] from 65 to 96 (fun _ s5 _ _ wx => ∃ (S2 : Nat) (M2 : Nat → Prop), s5 = .pointer (some ⟨S2, 0, none⟩) ∧ Hid (LS W wx K S2 M2 (oS [1] [⟨1, 3, gI y.note.topic⟩]) (Obj.cells #[.slice ta topic.length tc, .slice fa src.length fc, .slice sa share.length sc, .slice pa payload.length pc, .int .i64 2, .int .i64 2, .bool retain, .bool keep, .int .i64 life, .int .i64 fm, .slice ca co.length cc, .slice ra cr.length rc, .slice ua us.length uc, .slice ia ids.length ic, .int .i64 origin, .int .i64 number] 27)))
      case first =>
        have hzc : z = 0 ∨ z = 1 ∨ z = 2 ∨ z = 3 := by have := HZ4.out; omega
        rcases hzc with rfl | rfl | rfl | rfl
        · go_wp2_with (first
            | (go_at_call 11; go_must (refine rec_any S' (oS [1] [⟨1, 3, gI y.note.topic⟩]) 1 _ 0 (o_again _) (oS_inv rfl).i64 (o_len _) _ true true (o_again2 _ _) _ M' HL.out.sr _ ?_); intro M2 w2 h2 hs2; have HF := Lib.hid (HL.out.step hs2 h2); clear h2 hs2))
          go_meet
          exact ⟨S', M2, rfl, HF⟩
        · go_wp2_with (first
            | (go_at_call 12; go_must (refine ack_any S' (oS [1] [⟨1, 3, gI y.note.topic⟩]) 1 (-1) (o_no _) (oS_inv rfl).i64 (o_len _) _ M' HL.out.sr _ ?_); intro M2 w2 h2 hs2; rw [o_land] at h2; have HF := Lib.hid (HL.out.step hs2 h2); clear h2 hs2))
          go_meet
          exact ⟨S', M2, rfl, HF⟩
        · go_wp2_with (first
            | (go_at_call 14; go_must (refine slay_any S' [99] 0 0 false ⟨1, 3, gI y.note.topic⟩ [1] (by decide) rfl HPL.out _ M' HL.out.sr (HT.out.below HL.out.low) (sBy y.note.topic) (sBy_eq _) HL1.out HL2.out HL3.out _ ?_); intro ya yc w1 ho1 hb1; have HY1 := Lib.hid (bs_len ho1); have HF1 := Lib.hid (HL.out.below hb1); clear ho1 hb1)
            | (go_at_call 13; go_must (refine sread_g y.note.topic HGT.out _ _ HY1.out (HT.out.below HF1.out.low) _ ?_); intro S2 M2 w2 h2 hM2 hb2; have HF := Lib.hid (HF1.out.fresh hb2 h2 hM2); clear h2 hM2 hb2)
            | (go_at_call 15; go_in))
          go_meet
          exact ⟨S2, M2, rfl, HF⟩
        · go_wp2_with fail
          go_meet
          exact ⟨S', M', rfl, HL⟩
      obtain ⟨S2, M2, rfl, HLB⟩ := hcut
      obtain ⟨w10, rfl⟩ : ∃ x, x = wc := ⟨_, rfl⟩
      go_upto_region 25 with (first
        | (go_at_call 16; go_must (refine flights_one S2 y.note.topic _ M2 HLB.out.sr _ ?_); intro g gc qa9 qc9 w11 hfc hb11; have HF11 := Lib.hid hfc; have HL11 := Lib.hid (HLB.out.below hb11); clear hfc hb11))
      have hd := (Below.refl w11.heap.size w11).drew
      have hl0 := HL11.out.below hd
      have hf0 := HF11.out.below hd
      have k0 := And.intro hf0.c1 (And.intro hf0.c2 (And.intro hf0.c3 (slT hl0.bx)))
      clear hd hac
      have hfl1 : ∀ (pv qv ev : Value) (w : World), (Instr.field 36 (Value.agg #[.string (str y.note.topic), pv, .int .i64 y.note.qos, .bool y.note.retain, .string (str y.note.src), .int .i64 y.note.expires, qv, .int .i64 y.note.origin, .int .i64 y.note.number, .int .i64 y.note.hops, .int .i64 y.qos, .bool y.keep, ev, .string (str y.share)]) 0).run Tryz.prog w = .ok (Value.agg #[.string (str y.note.topic), pv, .int .i64 y.note.qos, .bool y.note.retain, .string (str y.note.src), .int .i64 y.note.expires, qv, .int .i64 y.note.origin, .int .i64 y.note.number, .int .i64 y.note.hops]) w := fun _ _ _ _ => by kernel_rfl
      have hfl2 : ∀ (pv qv : Value) (w : World), (Instr.field 34 (Value.agg #[.string (str y.note.topic), pv, .int .i64 y.note.qos, .bool y.note.retain, .string (str y.note.src), .int .i64 y.note.expires, qv, .int .i64 y.note.origin, .int .i64 y.note.number, .int .i64 y.note.hops]) 0).run Tryz.prog w = .ok (.string (str y.note.topic)) w := fun _ _ _ => by kernel_rfl
      go_cut [137] from 99 to 136 (fun v wx => v = .bool false ∧ Hid (LS W wx K S2 M2 (oS [1] [⟨1, 3, gI y.note.topic⟩]) (Obj.cells #[.slice ta topic.length tc, .slice fa src.length fc, .slice sa share.length sc, .slice pa payload.length pc, .int .i64 2, .int .i64 2, .bool retain, .bool keep, .int .i64 life, .int .i64 fm, .slice ca co.length cc, .slice ra cr.length rc, .slice ua us.length uc, .slice ia ids.length ic, .int .i64 origin, .int .i64 number] 27)))
      case first =>
        go_region_held3 (fun x => x.cell? ⟨g, 1, none⟩ = some (.int .i64 3) ∧ x.cell? ⟨g, 2, none⟩ = some (.string (str y.note.topic)) ∧ x.cell? ⟨g, 3, none⟩ = some (.slice qa9 0 qc9) ∧ x.cell? ⟨K, 0, none⟩ = some (.slice ta topic.length tc) ∧ x.cell? ⟨K, 1, none⟩ = some (.slice fa src.length fc) ∧ x.cell? ⟨K, 2, none⟩ = some (.slice sa share.length sc) ∧ x.cell? ⟨K, 3, none⟩ = some (.slice pa payload.length pc) ∧ x.cell? ⟨K, 4, none⟩ = some (.int .i64 2) ∧ x.cell? ⟨K, 5, none⟩ = some (.int .i64 2) ∧ x.cell? ⟨K, 6, none⟩ = some (.bool retain) ∧ x.cell? ⟨K, 7, none⟩ = some (.bool keep) ∧ x.cell? ⟨K, 8, none⟩ = some (.int .i64 life) ∧ x.cell? ⟨K, 9, none⟩ = some (.int .i64 fm) ∧ x.cell? ⟨K, 10, none⟩ = some (.slice ca co.length cc) ∧ x.cell? ⟨K, 11, none⟩ = some (.slice ra cr.length rc) ∧ x.cell? ⟨K, 12, none⟩ = some (.slice ua us.length uc) ∧ x.cell? ⟨K, 13, none⟩ = some (.slice ia ids.length ic) ∧ x.cell? ⟨K, 14, none⟩ = some (.int .i64 origin) ∧ x.cell? ⟨K, 15, none⟩ = some (.int .i64 number))
          (first | with_reducible exact k0 | with_reducible exact k1 | with_reducible exact k2 | go_keep)
          (first
            | (go_at_call 9; refine item_at (⟨topic, src, share, payload, 2, 2, retain, keep, life, fm, co, cr, us, ids, origin, number⟩ : Md) y HX.out HB2.out _ _ _ _ _ _ _ _ W _ hl0.low HM2.out _ ?_; intro pa5 pc5 qa5 qc5 ea5 ec5 w12 hc12 hb12; have hl1 := hl0.below hb12; have hf1 := hf0.below hb12; have k1 := And.intro hf1.c1 (And.intro hf1.c2 (And.intro hf1.c3 (slT hl1.bx))))
            | (go_at_call 17; refine orphans_any S2 [99] 0 0 false ⟨1, 3, gI y.note.topic⟩ [1] (st_ne _) _ M2 hl1.sr _ ?_; intro w13 hb13; have hl2 := hl1.below hb13; have hf2 := hf1.below hb13; have k2 := And.intro hf2.c1 (And.intro hf2.c2 (And.intro hf2.c3 (slT hl2.bx)))))
        all_goals
          go_wp2_with fail
          go_meet
          exact ⟨rfl, Lib.hid hl2⟩
      obtain ⟨rfl, HLC⟩ := hcut
      clear k0 hl0 hf0 hfl1 hfl2
      go_wp2_with fail
      go_roundg (min N 20 - (k + 1))
      case measure => omega
      case rel => exact ⟨k + 1, S2, M2, by omega, rfl, rfl, by go_num, HLC⟩
    · have hm1 : Hid True := trivial
      by_cases hkN : (k : Int) < (N : Int)
      · have hk20 : ¬ (k : Int) < 20 := by omega
        go_wp2_with (first
          | (have hq := hm1; go_at_call 18; go_must (refine comp_any S' (oS [1] [⟨1, 3, gI y.note.topic⟩]) 1 0 (o_comp _) (oS_inv rfl).i64 (o_len _) _ M' HL.out.sr _ ?_); intro M2 w2 h2 hs2; rw [o_comp2 _ rfl] at h2; have HF2 := Lib.hid (HL.out.step hs2 h2); clear hq hm1 h2 hs2)
          | (go_at_call 18; go_must (refine comp_any S' (oS [] []) 1 (-1) o_comp3 oS_none.i64 (by decide) _ M2 HF2.out.sr _ ?_); intro M3 w3 h3 hs3; rw [o_land] at h3; have HF3 := Lib.hid (HF2.out.step hs3 h3); clear h3 hs3)
          | (go_at_call 16; go_must (refine flights_zero S' _ M3 HF3.out.sr _ ?_); intro fa9 fc9 w4 hb4; have HF4 := Lib.hid (HF3.out.below hb4); clear hb4))
        exact HR.out _ HF4.out.low
      · go_wp2_with (first
          | (have hq := hm1; go_at_call 18; go_must (refine comp_any S' (oS [1] [⟨1, 3, gI y.note.topic⟩]) 1 0 (o_comp _) (oS_inv rfl).i64 (o_len _) _ M' HL.out.sr _ ?_); intro M2 w2 h2 hs2; rw [o_comp2 _ rfl] at h2; have HF2 := Lib.hid (HL.out.step hs2 h2); clear hq hm1 h2 hs2)
          | (go_at_call 18; go_must (refine comp_any S' (oS [] []) 1 (-1) o_comp3 oS_none.i64 (by decide) _ M2 HF2.out.sr _ ?_); intro M3 w3 h3 hs3; rw [o_land] at h3; have HF3 := Lib.hid (HF2.out.step hs3 h3); clear h3 hs3)
          | (go_at_call 16; go_must (refine flights_zero S' _ M3 HF3.out.sr _ ?_); intro fa9 fc9 w4 hb4; have HF4 := Lib.hid (HF3.out.below hb4); clear hb4))
        exact HR.out _ HF4.out.low
end Go.Proofs.YtgimbocoamnkjaaGreatDoor

/- From what the form says of an argument to what the walks ask, with the form's own reach: structs, slices of structs. -/
namespace Go.Proofs.YtgimbocoamnkjaaGreatDoor
open Go.ChangeShapes Go.WideShapes Go.ChangeAt Go.RowKit

/-- Each string, slice and map in it takes no more than the form's reach. -/
def Fits {H : Type} (P : Program) (t : TypeId) (d : DataW H) : Prop := ∀ n ∈ d.weights P t, n ≤ reachBytes

theorem weightsAll_mem {H : Type} {P : Program} {e : TypeId} {l : List (DataW H)} {d : DataW H} (hd : d ∈ l) : ∀ n ∈ d.weights P e, n ∈ DataW.weightsAll P e l := by
  induction l with
  | nil => cases hd
  | cons x r ih =>
    intro n hn
    simp only [DataW.weightsAll, List.mem_append]
    cases List.mem_cons.1 hd with
    | inl h => subst h; exact .inl hn
    | inr h => exact .inr (ih h n hn)

theorem Fits.elem {H : Type} {P : Program} {t e : TypeId} {elems spare : List (DataW H)} (ht : P.underlying t = some (.slice e)) (h : Fits P t (.slice elems spare)) {d : DataW H} (hd : d ∈ elems) : Fits P e d := by
  intro n hn
  refine h n ?_
  simp only [DataW.weights, ht, List.mem_cons, List.mem_append]
  exact .inr (.inl (weightsAll_mem hd n hn))
theorem Fits.head {H : Type} {P : Program} {t e : TypeId} {elems spare : List (DataW H)} (ht : P.underlying t = some (.slice e)) (h : Fits P t (.slice elems spare)) : (elems.length + spare.length) * P.bytesOf e ≤ reachBytes := by
  refine h _ ?_
  simp only [DataW.weights, ht, List.mem_cons, true_or]
theorem Fits.field {H : Type} {P : Program} {t : TypeId} {fs : Array Field} {parts : List (DataW H)} (ht : P.underlying t = some (.struct fs)) (h : Fits P t (.agg parts)) {j : Nat} {f : Field} {d : DataW H} (hf : fs[j]? = some f) (hd : parts[j]? = some d) : Fits P f.type d := by
  intro n hn
  refine h n ?_
  simp only [DataW.weights, ht]
  exact DataW.weights_mem_each (j := j) (by simp [hf]) hd n hn
theorem fits_of_each {H : Type} {P : Program} {ts : List TypeId} {ds : List (DataW H)} (h : (DataW.weightsEach P ts ds).all (· ≤ reachBytes) = true) {j : Nat} {t : TypeId} {d : DataW H} (ht : ts[j]? = some t) (hd : ds[j]? = some d) : Fits P t d := by
  intro n hn
  exact of_decide_eq_true (List.all_eq_true.1 h n (DataW.weights_mem_each ht hd n hn))

/-- A slice of bytes, in one cell, within the reach. -/
theorem open_bsw {H : Type} {enc : TypeId × Value → H} {P : Program} {W : World} {base fuel : Nat} {spare : Nat → Bool} {held : Bool} {t e : TypeId} {v : Value} {d : DataW H} {p : List MemPlace} (ht : P.underlying t = some (.slice e)) (he : P.underlying e = some (.int .u8)) (hc : P.cellsOf e = 1) (hcb : P.bytesOf e = 1)
    (hf : DataW.trod enc P W base spare held fuel t [v] = some (d, p)) (hsp : ∀ b, spare b = true) (hw : Fits P t d) : ∃ b : List UInt8, Bs W v b ∧ b.length ≤ 140737488351232 := by
  obtain ⟨b, hb, _⟩ := open_bs1 ht he hc hf hsp
  refine ⟨b, hb, ?_⟩
  rcases open_ints ht he hc hf with ⟨hcs, hx⟩ | ⟨a, len, cap, zs, hcs, _, hl, hm, hz, hx, hcell, hwz⟩
  · simp only [List.cons.injEq, and_true] at hcs
    subst hcs
    obtain ⟨ad, c, e, _⟩ := hb
    simp only [Value.slice.injEq] at e
    omega
  · simp only [List.cons.injEq, and_true] at hcs
    subst hcs
    simp only [Prod.mk.injEq] at hx
    rw [hx.1] at hw
    have h1 := hw.head ht
    rw [hcb, Nat.mul_one] at h1
    obtain ⟨ad, c, e, _⟩ := hb
    simp only [Value.slice.injEq] at e
    rw [hsp] at hz
    simp only [if_true] at hz
    simp only [lits, List.length_map, List.length_take, List.length_drop, reachBytes] at h1
    omega

/-- A struct's field of one cell. -/
theorem field_at {H : Type} {enc : TypeId × Value → H} {P : Program} {W : World} {base n : Nat} {spare : Nat → Bool} {held : Bool} {fs : Array Field} {cs : List Value} {xs : List (DataW H × List MemPlace)}
    (hg : ∀ (i : Nat) (f : Field), fs[i]? = some f → DataW.trod enc P W base spare held n f.type ((cs.drop f.offset).take (P.cellsOf f.type)) = xs[i]?)
    (i t off : Nat) (v : Value) (hf : fs[i]?.map (fun f => (f.type, f.offset)) = some (t, off)) (hc : P.cellsOf t = 1) (hv : cs[off]? = some v) : DataW.trod enc P W base spare held n t [v] = xs[i]? := by
  cases h : fs[i]? with
  | none => rw [h] at hf; simp at hf
  | some f =>
    rw [h] at hf
    simp only [Option.map_some, Option.some.injEq, Prod.mk.injEq] at hf
    obtain ⟨rfl, rfl⟩ := hf
    have h1 := hg i f h
    obtain ⟨hlt, rfl⟩ := List.getElem?_eq_some_iff.1 hv
    rw [hc, List.drop_eq_getElem_cons hlt, List.take_succ_cons, List.take_zero] at h1
    exact h1

theorem add_lit2 (b o i : Nat) : (⟨b, o, none⟩ : Addr).add i = ⟨b, o + i, none⟩ := Addr.add_lit b o i

/-- The cells of a slice's elements, whatever they are: of each the property el. -/
theorem open_cells {H : Type} {enc : TypeId × Value → H} {P : Program} {W : World} {base fuel : Nat} {spare : Nat → Bool} {held : Bool} {t e C : Nat} {v : Value} {d : DataW H} {p : List MemPlace} {α : Type} [Inhabited α] (el : List Value → α → Prop) (ht : P.underlying t = some (.slice e)) (hC : P.cellsOf e = C) (hC0 : 0 < C)
    (hel : ∀ n cs d p, DataW.trod enc P W base spare held n e cs = some (d, p) → Fits P e d → cs.length = C → ∃ x : α, el cs x)
    (hf : DataW.trod enc P W base spare held fuel t [v] = some (d, p)) (hsp : ∀ b, spare b = true) (hw : Fits P t d) :
    ∃ (l : List α) (ad : Option Addr) (c : Nat), v = .slice ad l.length c ∧ l.length ≤ c ∧ c ≤ 9223372036854775807 ∧ (ad = none → c = 0) ∧ c * P.bytesOf e ≤ 140737488351232 ∧
      (0 < l.length → ∃ b o, ad = some ⟨b, o, none⟩ ∧ ∀ (i : Nat) (h : i < l.length), ∃ cs, cs.length = C ∧ (∀ j, j < C → W.cell? ⟨b, o + i * C + j, none⟩ = cs[j]?) ∧ el cs l[i]) := by
  rcases Go.Deep.open_slice ht hf with ⟨hcs, hx⟩ | ⟨a, len, cap, m, n, D, Pl, hcs, _, hl, hm, hmm, hx, hcell⟩
  · simp only [List.cons.injEq, and_true] at hcs
    exact ⟨[], none, 0, by simpa using hcs, Nat.le_refl _, by omega, fun _ => rfl, by omega, fun h => by simp at h⟩
  · simp only [List.cons.injEq, and_true] at hcs
    rw [hsp] at hmm
    simp only [if_true] at hmm
    unfold maxLen at hm
    simp only [Prod.mk.injEq] at hx
    rw [hx.1] at hw
    have hbound := hw.head ht
    rw [hC] at hcell
    have hex : ∀ i, i < len → ∃ x : α, ∃ cs, cs.length = C ∧ (∀ j, j < C → W.cell? ((a.add (i * C)).add j) = cs[j]?) ∧ el cs x := by
      intro i hi
      obtain ⟨cs, h1, h2⟩ := hcell i (by omega)
      obtain ⟨_, h3, h4⟩ := World.cells?_some h1
      obtain ⟨x, hx⟩ := hel _ _ _ _ h2 (hw.elem ht (List.mem_map.2 ⟨i, List.mem_range.2 hi, rfl⟩)) h3
      exact ⟨x, cs, h3, h4, hx⟩
    obtain ⟨f, hfx⟩ := Go.Deep.choose_lt (n := len) (p := fun i x => ∃ cs, cs.length = C ∧ (∀ j, j < C → W.cell? ((a.add (i * C)).add j) = cs[j]?) ∧ el cs x) hex
    have hll : ((List.range len).map f).length = len := by simp
    refine ⟨(List.range len).map f, some a, cap, by rw [hll]; exact hcs, by rw [hll]; exact hl, by omega, (fun h => by cases h), ?_, fun h0 => ?_⟩
    · simp only [List.length_map, List.length_range, reachBytes] at hbound
      rw [show len + (m - len) = cap by omega] at hbound
      exact hbound
    · rw [hll] at h0
      obtain ⟨cs0, z1, z2, _⟩ := hfx 0 h0
      have hz := z2 0 hC0
      rw [List.getElem?_eq_getElem (by omega), Nat.zero_mul, show (a.add 0).add 0 = a.add 0 from rfl] at hz
      have hspot := plain_addr hz
      refine ⟨a.block, a.off, by rw [← hspot], fun i hi => ?_⟩
      rw [hll] at hi
      obtain ⟨cs, h1, h2, h3⟩ := hfx i hi
      refine ⟨cs, h1, fun j hj => ?_, by simpa using h3⟩
      have h4 := h2 j hj
      have e1 : (a.add (i * C)).add j = ⟨a.block, a.off + i * C + j, none⟩ := by
        conv => lhs; rw [hspot]
        rw [Addr.add_lit, Addr.add_lit]
      rw [e1] at h4
      exact h4

end Go.Proofs.YtgimbocoamnkjaaGreatDoor
