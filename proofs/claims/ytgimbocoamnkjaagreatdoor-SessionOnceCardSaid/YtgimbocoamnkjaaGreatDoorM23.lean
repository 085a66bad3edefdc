/- Reading back what was laid: texts, data, numbers, by note's cursor. Plain. -/
import Derived.Test.YtgimbocoamnkjaaGreatDoorM22
import Derived.Test.YtgimbocoamnkjaaGreatDoorM07
import Derived.Test.YtgimbocoamnkjaaGreatDoorM20
namespace Go.Proofs.YtgimbocoamnkjaaGreatDoor
open Go.RowKit

theorem takeC_pre (a t : List UInt8) (n : Nat) (hn : a.length = n) : takeC n ⟨a ++ t, false⟩ = (a, ⟨t, false⟩) := by
  subst hn
  unfold takeC
  rw [if_neg (by simp)]
  simp
theorem dataC_back (l t : List UInt8) (h : l.length ≤ 65535) : dataC ⟨(dataL l).1 ++ t, false⟩ = (l, ⟨t, false⟩) := by
  have e : (dataL l).1 = putL l.length 2 ++ l := by
    unfold dataL
    rw [if_neg (by omega)]
  have hb := getDataL_back l t h
  unfold dataC
  simp only [e, hb]
  have hl : (putL l.length 2 ++ l).length = (((l.length : Int) + 2).toNat) := by
    rw [List.length_append, putL_length]
    omega
  have := takeC_pre (putL l.length 2 ++ l) t _ hl
  simp only [bne_self_eq_false, Bool.or_false]
  rw [this]
theorem textC_back (l t : List UInt8) (h : l.length ≤ 65535) (ht : isTextL l = true) : textC ⟨(textL l).1 ++ t, false⟩ = (l, ⟨t, false⟩) := by
  have e : (textL l).1 = putL l.length 2 ++ l := by
    unfold textL dataL
    rw [if_pos ht, if_neg (by omega)]
  have hb := getTextL_back l t h ht
  unfold textC
  simp only [e, hb]
  have hl : (putL l.length 2 ++ l).length = (((l.length : Int) + 2).toNat) := by
    rw [List.length_append, putL_length]
    omega
  have := takeC_pre (putL l.length 2 ++ l) t _ hl
  simp only [bne_self_eq_false, Bool.or_false]
  rw [this]
theorem numC_back (x k : Nat) (t : List UInt8) : numC k ⟨putL x k ++ t, false⟩ = (IntKind.i64.wrap (getU (putL x k)), ⟨t, false⟩) := by
  unfold numC
  rw [takeC_pre _ _ _ (putL_length x k)]
theorem num1_back (x : Nat) (hx : x < 256) (t : List UInt8) : numC 1 ⟨[b8 (x : Int)] ++ t, false⟩ = ((x : Int), ⟨t, false⟩) := by
  have e : [b8 (x : Int)] = putL x 1 := by
    rw [putL_step x 0]
    simp [putL]
  rw [e, numC_back, getU_putL 1 x (by decide) (by omega), IntKind.wrap_i64]
  simp only [Prod.mk.injEq, and_true]
  omega
theorem num8_back (x : Int) (h0 : 0 ≤ x) (h1 : x ≤ 4611686018427387904) (t : List UInt8) : numC 8 ⟨putL (n64 x) 8 ++ t, false⟩ = (x, ⟨t, false⟩) := by
  have e : ((n64 x : Nat) : Int) = x := by
    unfold n64
    omega
  rw [numC_back, getU_putL 8 (n64 x) (by decide) (by have := e; omega), IntKind.wrap_i64, e]
  simp only [Prod.mk.injEq, and_true]
  omega
theorem marks_back (q : Int) (r : Bool) (h0 : 0 ≤ q) (h1 : q ≤ 2) : ∃ m : Nat, markN q r = (m : Int) ∧ m < 256 ∧ bits .and .i64 (m : Int) 3 = q ∧ (bits .and .i64 (m : Int) 4 != 0) = r := by
  have hq : q = 0 ∨ q = 1 ∨ q = 2 := by omega
  rcases hq with rfl | rfl | rfl <;> cases r
  · exact ⟨0, by decide, by decide, by decide, by decide⟩
  · exact ⟨4, by decide, by decide, by decide, by decide⟩
  · exact ⟨1, by decide, by decide, by decide, by decide⟩
  · exact ⟨5, by decide, by decide, by decide, by decide⟩
  · exact ⟨2, by decide, by decide, by decide, by decide⟩
  · exact ⟨6, by decide, by decide, by decide, by decide⟩
/-- A message that may be laid and read back. -/
structure NtOk (x : Nt) : Prop where
  tt : isTextL x.topic = true
  tl : x.topic.length ≤ 65535
  pl : x.payload.length ≤ 65535
  st : isTextL x.src = true
  sl : x.src.length ≤ 65535
  q0 : 0 ≤ x.qos
  q1 : x.qos ≤ 2
  e0 : 0 ≤ x.expires
  e1 : x.expires ≤ 4611686018427387904
  n0 : 0 ≤ x.number
  n1 : x.number ≤ 4611686018427387904
  o : ∃ k : Nat, x.origin = (k : Int) ∧ k < 256
  h : ∃ k : Nat, x.hops = (k : Int) ∧ k < 256
  lay : (layL 3 x.props).2 = 0
  k : (onlyL x.props [1, 3, 8, 9, 38]).length = x.props.length
theorem note_back (x : Nt) (h : NtOk x) : ∃ (m : Nat), bits .and .i64 (m : Int) 3 = x.qos ∧ (bits .and .i64 (m : Int) 4 != 0) = x.retain ∧
    textC ⟨ntBy x, false⟩ = (x.topic, ⟨((dataL x.payload).1 ++ ([b8 (markN x.qos x.retain)] ++ ((textL x.src).1 ++ (putL (n64 x.expires) 8 ++ (putL (n64 x.number) 8 ++ ([b8 x.origin] ++ ([b8 x.hops] ++ (layL 3 x.props).1))))))), false⟩) ∧ dataC ⟨((dataL x.payload).1 ++ ([b8 (markN x.qos x.retain)] ++ ((textL x.src).1 ++ (putL (n64 x.expires) 8 ++ (putL (n64 x.number) 8 ++ ([b8 x.origin] ++ ([b8 x.hops] ++ (layL 3 x.props).1))))))), false⟩ = (x.payload, ⟨([b8 (markN x.qos x.retain)] ++ ((textL x.src).1 ++ (putL (n64 x.expires) 8 ++ (putL (n64 x.number) 8 ++ ([b8 x.origin] ++ ([b8 x.hops] ++ (layL 3 x.props).1)))))), false⟩) ∧ numC 1 ⟨([b8 (markN x.qos x.retain)] ++ ((textL x.src).1 ++ (putL (n64 x.expires) 8 ++ (putL (n64 x.number) 8 ++ ([b8 x.origin] ++ ([b8 x.hops] ++ (layL 3 x.props).1)))))), false⟩ = ((m : Int), ⟨((textL x.src).1 ++ (putL (n64 x.expires) 8 ++ (putL (n64 x.number) 8 ++ ([b8 x.origin] ++ ([b8 x.hops] ++ (layL 3 x.props).1))))), false⟩) ∧ textC ⟨((textL x.src).1 ++ (putL (n64 x.expires) 8 ++ (putL (n64 x.number) 8 ++ ([b8 x.origin] ++ ([b8 x.hops] ++ (layL 3 x.props).1))))), false⟩ = (x.src, ⟨(putL (n64 x.expires) 8 ++ (putL (n64 x.number) 8 ++ ([b8 x.origin] ++ ([b8 x.hops] ++ (layL 3 x.props).1)))), false⟩) ∧
    numC 8 ⟨(putL (n64 x.expires) 8 ++ (putL (n64 x.number) 8 ++ ([b8 x.origin] ++ ([b8 x.hops] ++ (layL 3 x.props).1)))), false⟩ = (x.expires, ⟨(putL (n64 x.number) 8 ++ ([b8 x.origin] ++ ([b8 x.hops] ++ (layL 3 x.props).1))), false⟩) ∧ numC 8 ⟨(putL (n64 x.number) 8 ++ ([b8 x.origin] ++ ([b8 x.hops] ++ (layL 3 x.props).1))), false⟩ = (x.number, ⟨([b8 x.origin] ++ ([b8 x.hops] ++ (layL 3 x.props).1)), false⟩) ∧ numC 1 ⟨([b8 x.origin] ++ ([b8 x.hops] ++ (layL 3 x.props).1)), false⟩ = (x.origin, ⟨([b8 x.hops] ++ (layL 3 x.props).1), false⟩) ∧ numC 1 ⟨([b8 x.hops] ++ (layL 3 x.props).1), false⟩ = (x.hops, ⟨(layL 3 x.props).1, false⟩) ∧
    readL 3 (layL 3 x.props).1 = (x.props, ((layL 3 x.props).1.length : Int), 0) := by
  obtain ⟨m, hm, hm2, hm3, hm4⟩ := marks_back x.qos x.retain h.q0 h.q1
  obtain ⟨o, ho, ho2⟩ := h.o
  obtain ⟨k, hk, hk2⟩ := h.h
  refine ⟨m, hm3, hm4, ?_, dataC_back _ _ h.pl, ?_, textC_back _ _ h.sl h.st, num8_back _ h.e0 h.e1 _, num8_back _ h.n0 h.n1 _, ?_, ?_, ?_⟩
  · have e : ntBy x = (textL x.topic).1 ++ ((dataL x.payload).1 ++ ([b8 (markN x.qos x.retain)] ++ ((textL x.src).1 ++ (putL (n64 x.expires) 8 ++ (putL (n64 x.number) 8 ++ ([b8 x.origin] ++ ([b8 x.hops] ++ (layL 3 x.props).1))))))) := by
      unfold ntBy
      simp only [List.append_assoc]
      rfl
    rw [e]
    exact textC_back _ _ h.tl h.tt
  · rw [hm]
    exact num1_back m hm2 _
  · rw [ho]
    exact num1_back o ho2 _
  · rw [hk]
    exact num1_back k hk2 _
  · obtain ⟨n, _, _, _, hr⟩ := layL_ok (wh := 3) (l := x.props) (x := (layL 3 x.props).1) (by rw [← h.lay])
    exact hr
end Go.Proofs.YtgimbocoamnkjaaGreatDoor

/- note.Read at a laid message: walked. -/
namespace Go.Proofs.YtgimbocoamnkjaaGreatDoor
open Go.RowKit

theorem rdS {x : World} {N T t t' : Nat} {fr fr' : Nat × Nat} {u v a b c d e f g h i j : Value} (q' : x.heap[N]? = some (.cells #[u, v] t' fr')) (q : x.heap[T]? = some (.cells #[a, b, c, d, e, f, g, h, i, j] t fr)) : x.cell? ⟨N, 1, none⟩ = some v ∧ x.cell? ⟨T, 0, none⟩ = some a ∧ x.cell? ⟨T, 1, none⟩ = some b ∧ x.cell? ⟨T, 2, none⟩ = some c ∧ x.cell? ⟨T, 3, none⟩ = some d ∧ x.cell? ⟨T, 4, none⟩ = some e ∧ x.cell? ⟨T, 5, none⟩ = some f ∧ x.cell? ⟨T, 6, none⟩ = some g ∧ x.cell? ⟨T, 7, none⟩ = some h ∧ x.cell? ⟨T, 8, none⟩ = some i ∧ x.cell? ⟨T, 9, none⟩ = some j :=
  ⟨cell_of_row x N 1 _ _ _ q', cell_of_row x T 0 _ _ _ q, cell_of_row x T 1 _ _ _ q, cell_of_row x T 2 _ _ _ q, cell_of_row x T 3 _ _ _ q, cell_of_row x T 4 _ _ _ q, cell_of_row x T 5 _ _ _ q, cell_of_row x T 6 _ _ _ q, cell_of_row x T 7 _ _ _ q, cell_of_row x T 8 _ _ _ q, cell_of_row x T 9 _ _ _ q⟩

set_option maxRecDepth 100000 in
set_option maxHeartbeats 4000000 in
theorem nread_any (x : Nt) (hx : NtOk x) (hb : NtB x) (v : Value) (w : World) (hv : Bs w v (ntBy x)) (hbl : (ntBy x).length ≤ 100000000) (hlp : (x.props.flatMap laidL).length ≤ 90000000) (hT : Tabs w) (R : Ending → World → Prop)
    (hR : ∀ da dc pa pc w', w'.ownsRow w.heap.size 5 1 (.slice da x.payload.length dc) x.payload.length (bv x.payload) → PsO w' w.heap.size (.slice pa x.props.length pc) x.props → Below w.heap.size w w' → R (.returned (.tuple #[(Value.agg #[.string (str x.topic), (.slice da x.payload.length dc), .int .i64 x.qos, .bool x.retain, .string (str x.src), .int .i64 x.expires, (.slice pa x.props.length pc), .int .i64 x.origin, .int .i64 x.number, .int .i64 x.hops]), .int .i64 0])) w') :
    Calls Tryz.prog 147 #[v] w R := by
  have HR := Lib.hid hR
  have HV := Lib.hid hv
  have HX := Lib.hid hx
  obtain ⟨va, vc, rfl, _⟩ := id hv
  have b1 : Below w.heap.size w (w.alloc (Obj.cells #[.string ⟨#[]⟩, .slice none 0 0, .int .i64 0, .bool false, .string ⟨#[]⟩, .int .i64 0, .slice none 0 0, .int .i64 0, .int .i64 0, .int .i64 0] 34)) := (Below.refl _ _).alloc (Nat.le_refl _) _
  have b2 : Below w.heap.size w ((w.alloc (Obj.cells #[.string ⟨#[]⟩, .slice none 0 0, .int .i64 0, .bool false, .string ⟨#[]⟩, .int .i64 0, .slice none 0 0, .int .i64 0, .int .i64 0, .int .i64 0] 34)).alloc (Obj.cells #[.slice va (ntBy x).length vc, .bool false] 189)) := b1.alloc b1.size _
  have hcr : CR w 189 (w.alloc (Obj.cells #[.string ⟨#[]⟩, .slice none 0 0, .int .i64 0, .bool false, .string ⟨#[]⟩, .int .i64 0, .slice none 0 0, .int .i64 0, .int .i64 0, .int .i64 0] 34)).heap.size ⟨ntBy x, false⟩ ((w.alloc (Obj.cells #[.string ⟨#[]⟩, .slice none 0 0, .int .i64 0, .bool false, .string ⟨#[]⟩, .int .i64 0, .slice none 0 0, .int .i64 0, .int .i64 0, .int .i64 0] 34)).alloc (Obj.cells #[.slice va (ntBy x).length vc, .bool false] 189)) := ⟨⟨va, vc, heap_alloc_new _ _, hv⟩, b2, b1.size, by have := hbl; simp only; omega⟩
  obtain ⟨m, hm1, hm2, k1, k2, k3, k4, k5, k6, k7, k8, k9⟩ := note_back x hx
  have hl8 : ((layL 3 x.props).1).length ≤ 100000000 := by
    have := hbl
    unfold ntBy at this
    simp only [List.length_append] at this
    omega
  have hz : (w.alloc (Obj.cells #[.string ⟨#[]⟩, .slice none 0 0, .int .i64 0, .bool false, .string ⟨#[]⟩, .int .i64 0, .slice none 0 0, .int .i64 0, .int .i64 0, .int .i64 0] 34)).heap.size = w.heap.size + 1 := (alloc_size w _).symm
  rw [hz] at hcr
  have HCR := Lib.hid hcr
  have HB2 := Lib.hid b2
  have HT := Lib.hid hT
  have hA2 := row_on (heap_alloc_new w (Obj.cells #[.string ⟨#[]⟩, .slice none 0 0, .int .i64 0, .bool false, .string ⟨#[]⟩, .int .i64 0, .slice none 0 0, .int .i64 0, .int .i64 0, .int .i64 0] 34)) ((Below.refl (w.alloc (Obj.cells #[.string ⟨#[]⟩, .slice none 0 0, .int .i64 0, .bool false, .string ⟨#[]⟩, .int .i64 0, .slice none 0 0, .int .i64 0, .int .i64 0, .int .i64 0] 34)).heap.size (w.alloc (Obj.cells #[.string ⟨#[]⟩, .slice none 0 0, .int .i64 0, .bool false, .string ⟨#[]⟩, .int .i64 0, .slice none 0 0, .int .i64 0, .int .i64 0, .int .i64 0] 34))).alloc (Nat.le_refl _) (Obj.cells #[.slice va (ntBy x).length vc, .bool false] 189))
  clear hR hv hx hcr b1 b2 hz hT
  go_enter Tryz.func147, Tryz.ntmps147
  go_upto_region 2 with fail
  generalize (w.alloc (Obj.cells #[.string ⟨#[]⟩, .slice none 0 0, .int .i64 0, .bool false, .string ⟨#[]⟩, .int .i64 0, .slice none 0 0, .int .i64 0, .int .i64 0, .int .i64 0] 34)).alloc (Obj.cells #[.slice va (ntBy x).length vc, .bool false] 189) = w2 at HCR HB2 hA2 ⊢
  have HA2 := Lib.hid hA2
  clear hA2
  go_upto_region 3 with (first
    | (go_at_call 166; go_must (refine nnote_any _ _ _ _ _ _ _ _ _ _ _ _ _ _ _ _ _ _ _ k1 k2 k3 k4 k5 k6 k7 k8 _ _ _ k9 hl8 w _ HCR.out HT.out _ ?_); intro da dc pa pc w3 ho3 hp3 hc3 hg3; have HO3 := Lib.hid ho3; have HP3 := Lib.hid hp3; have HC3 := Lib.hid hc3; have HG3 := Lib.hid hg3; clear ho3 hp3 hc3 hg3))
  have hc3 : CR w 189 (w.heap.size + 1) ⟨(layL 3 x.props).1, false⟩ w3 := by
    have := HC3.out
    simpa using this
  have hn4 := heap_alloc_new w3 (Obj.cells #[.string (str x.topic), .slice da x.payload.length dc, .int .i64 x.qos, .bool x.retain, .string (str x.src), .int .i64 x.expires, .slice pa x.props.length pc, .int .i64 x.origin, .int .i64 x.number, .int .i64 x.hops] 34)
  have hb4 := (Below.refl w3.heap.size w3).alloc (Nat.le_refl _) (Obj.cells #[.string (str x.topic), .slice da x.payload.length dc, .int .i64 x.qos, .bool x.retain, .string (str x.src), .int .i64 x.expires, .slice pa x.props.length pc, .int .i64 x.origin, .int .i64 x.number, .int .i64 x.hops] 34)
  generalize w3.alloc (Obj.cells #[.string (str x.topic), .slice da x.payload.length dc, .int .i64 x.qos, .bool x.retain, .string (str x.src), .int .i64 x.expires, .slice pa x.props.length pc, .int .i64 x.origin, .int .i64 x.number, .int .i64 x.hops] 34) = w4 at hn4 hb4 ⊢
  have hc4 := hc3.below hb4
  have hbs4 := (bs_len HO3.out).below hb4
  have hps4 := (HP3.out.ps hb.e).below hb4
  obtain ⟨T, hTT⟩ : ∃ T, w3.heap.size = T := ⟨_, rfl⟩
  rw [hTT] at hn4 ⊢
  obtain ⟨la, lc, hcrow, _⟩ := hc4.row
  have hmb : MayB x := ⟨by have := HX.out.q1; omega, HX.out.e0, HX.out.e1, HX.out.n0, HX.out.n1, HX.out.k⟩
  have hT4 : Tabs w4 := (HT.out.below hc3.low).below hb4
  have hv4 : Bs w4 (.slice va (ntBy x).length vc) (ntBy x) := (HV.out.below hc3.low).below hb4
  obtain ⟨u0, u1, u2, u3, u4, u5, u6, u7, u8, u9, u10⟩ := rdS hcrow hn4
  have HA4 := Lib.hid (row_on (grown_row HG3.out HA2.out (Nat.ne_of_lt (Nat.lt_succ_self _))) hb4)
  have HN4 := Lib.hid hn4
  have HR4 := Lib.hid hcrow
  have HP4 := Lib.hid hbs4
  have HQ4 := Lib.hid hps4
  have HT4 := Lib.hid hT4
  have HV4 := Lib.hid hv4
  have HB4 := Lib.hid hb4
  have HC3B := Lib.hid hc3
  clear hn4 hbs4 hps4 hcrow hc4 hTT hT4 hv4 hb4 hc3 k1 k2 k3 k4 k5 k6 k7 k8 k9 hm1 hm2
  go_wp2_with (first
    | (go_at_call 167; go_must (refine may_yes x hmb _ _ _ HP4.out HQ4.out (by have := hb.l; omega) _ ?_); intro w6 hb6; obtain ⟨t0, t1, t2, t3, t4, t5, t6, t7, t8, t9, t10⟩ := rdS (row_on HR4.out hb6) (row_on HN4.out hb6); have HN6 := Lib.hid (row_on HN4.out hb6); have HK6 := Lib.hid hb6; clear hb6 u0 u1 u2 u3 u4 u5 u6 u7 u8 u9 u10)
    | (go_at_call 119; go_must (refine nlay_any x _ _ _ (HP4.out.below HK6.out) (HQ4.out.below HK6.out) hb hlp (HT4.out.below HK6.out) (ntBy x) rfl (by omega) _ ?_); intro ya yc w7 ho7 hb7; have HN7 := Lib.hid (row_on HN6.out hb7); have HK7 := Lib.hid (below_tra HK6.out hb7); have HY7 := Lib.hid (bs_len ho7); clear hb7 ho7 t0 t1 t2 t3 t4 t5 t6 t7 t8 t9 t10)
    | (go_at_call 53; go_must (refine equal_any _ _ (ntBy x) (ntBy x) _ HY7.out (HV4.out.below HK7.out) _ ?_); rw [beq_self_eq_true]; have HA7 := Lib.hid (row_on HA4.out HK7.out); obtain ⟨u0, u1, u2, u3, u4, u5, u6, u7, u8, u9, u10⟩ := rdS (row_on HR4.out HK7.out) HN7.out)
    | (refine wpList_store_row (o := ⟨none, .store 34 (.tmp 2) (.tmp 30), _, _, _, _⟩) (by rfl) 34 (.tmp 2) (.tmp 30) (by rfl) w.heap.size _ (by rfl) (by rfl) 34 _ HA7.out (by kernel_rfl) (by rfl) (by simp [Value.oneCell']) ?_))
  have hsz : w.heap.size < w2.heap.size + 1 := Nat.lt_succ_of_le HB2.out.size
  have hbw := below_then (below_then HC3B.out.low HB4.out HC3B.out.low.size) HK7.out (Nat.le_trans HC3B.out.low.size HB4.out.size)
  have hown := owns_mono (base' := w.heap.size) (owns_grown (owns_below (owns_below HO3.out HB4.out) HK7.out) (grownBy_setRowQ w7 w.heap.size #[Value.string (str x.topic), .slice da x.payload.length dc, .int .i64 x.qos, .bool x.retain, .string (str x.src), .int .i64 x.expires, .slice pa x.props.length pc, .int .i64 x.origin, .int .i64 x.number, .int .i64 x.hops]) (own_off (owns_below (owns_below HO3.out HB4.out) HK7.out) hsz)) (Nat.le_of_lt hsz)
  have hps := (((HP3.out.below HB4.out).below HK7.out).far (grownBy_setRowQ w7 w.heap.size #[Value.string (str x.topic), .slice da x.payload.length dc, .int .i64 x.qos, .bool x.retain, .string (str x.src), .int .i64 x.expires, .slice pa x.props.length pc, .int .i64 x.origin, .int .i64 x.number, .int .i64 x.hops]) hsz).mono (B' := w.heap.size) (Nat.le_of_lt hsz)
  have HF := Lib.hid (HR.out da dc pa pc _ hown hps (below_setRow hbw (Nat.le_refl _) #[Value.string (str x.topic), .slice da x.payload.length dc, .int .i64 x.qos, .bool x.retain, .string (str x.src), .int .i64 x.expires, .slice pa x.props.length pc, .int .i64 x.origin, .int .i64 x.number, .int .i64 x.hops]))
  clear hown hps hbw hsz
  refine bodyPost_ret (res_one rfl _ _ w.heap.size 34 #[Value.string (str x.topic), .slice da x.payload.length dc, .int .i64 x.qos, .bool x.retain, .string (str x.src), .int .i64 x.expires, .slice pa x.props.length pc, .int .i64 x.origin, .int .i64 x.number, .int .i64 x.hops] (0, 0) _ (.int .i64 0) rfl rfl (setRow_heap w7 w.heap.size _ _ _ _ HA7.out) Tryz.underlying34 rfl (by kernel_rfl)) rfl ?_
  exact HF.out
end Go.Proofs.YtgimbocoamnkjaaGreatDoor

/- An item with a topic alone; note.Read at its bytes. -/
namespace Go.Proofs.YtgimbocoamnkjaaGreatDoor
open Go.RowKit

/-- A message with a topic alone, and the item of it. -/
def gN (t : List UInt8) : Nt := ⟨t, [], 0, false, [], 0, [], 0, 0, 0⟩
def gI (t : List UInt8) : Im := ⟨gN t, 2, false, [], []⟩
theorem relI_g (x : Im) : relI x = gI x.note.topic := rfl
/-- A topic that may be. -/
structure GT (t : List UInt8) : Prop where
  tt : isTextL t = true
  tl : t.length ≤ 100
theorem text_nil : isTextL [] = true := isTextL_nil
theorem lay_nil : layL 3 ([] : List Pr) = ([0], 0) := by decide
theorem GT.nt {t : List UInt8} (h : GT t) : NtOk (gN t) where
  tt := h.tt
  tl := Nat.le_trans h.tl (by decide)
  pl := by simp [gN]
  st := text_nil
  sl := by simp [gN]
  q0 := by simp [gN]
  q1 := by simp [gN]
  e0 := by simp [gN]
  e1 := by simp [gN]
  n0 := by simp [gN]
  n1 := by simp [gN]
  o := ⟨0, rfl, by decide⟩
  h := ⟨0, rfl, by decide⟩
  lay := by show (layL 3 ([] : List Pr)).2 = 0; rw [lay_nil]
  k := rfl
theorem GT.nb {t : List UInt8} (h : GT t) : NtB (gN t) := ⟨Nat.le_trans h.tl (by decide), by simp [gN], by simp [gN], by simp [gN], by simp [gN], by simp [gN]⟩
theorem GT.ib {t : List UInt8} (h : GT t) : ImB (gI t) := ⟨h.nb, by simp [gI], by simp [gI], by simp [gI]⟩
theorem textL_lenle {l : List UInt8} (h : l.length ≤ 65535) : (textL l).1.length ≤ l.length + 2 := by
  unfold textL
  split
  · unfold dataL
    rw [if_neg (by omega)]
    simp [putL_length]
    omega
  · simp
theorem dataL_leneq {l : List UInt8} (h : l.length ≤ 65535) : (dataL l).1.length = l.length + 2 := by
  unfold dataL
  rw [if_neg (by omega)]
  simp [putL_length]
  omega
theorem GT.nl {t : List UInt8} (h : GT t) : (ntBy (gN t)).length ≤ 200 := by
  have h1 := textL_lenle (l := t) (Nat.le_trans h.tl (by decide))
  have h2 := dataL_leneq (l := []) (by decide)
  have h3 := textL_lenle (l := []) (by decide)
  have h4 := h.tl
  unfold ntBy gN
  simp only [lay_nil, List.length_append, putL_length, List.length_cons, List.length_nil] at h2 h3 ⊢
  omega
theorem GT.il {t : List UInt8} (h : GT t) : (imBy (gI t)).length ≤ 300 := by
  have h1 := h.nl
  have h2 := dataL_leneq (l := ntBy (gN t)) (by omega)
  have h3 := textL_lenle (l := []) (by decide)
  unfold imBy gI
  simp only [List.length_append, List.length_cons, List.length_nil, List.flatMap_nil] at h3 ⊢
  omega
/-- An empty slice that may be: of it nothing is read. -/
def Z0 (a : Option Addr) (c : Nat) : Prop := c ≤ 9223372036854775807 ∧ (a = none → c = 0)
theorem Z0.bs {a : Option Addr} {c : Nat} (h : Z0 a c) (w : World) : Bs w (.slice a 0 c) [] := ⟨a, c, rfl, Rd.nil _ _ _, Nat.zero_le _, h.1, h.2⟩
theorem Z0.is {a : Option Addr} {c : Nat} (h : Z0 a c) (w : World) : Is w (.slice a 0 c) [] := ⟨a, c, rfl, Rd.nil _ _ _, Nat.zero_le _, h.1, h.2⟩
theorem Z0.ps {a : Option Addr} {c : Nat} (h : Z0 a c) (w : World) : Ps w (.slice a 0 c) [] := ⟨a, c, rfl, Nat.zero_le _, h.1, h.2, fun h => absurd h (Nat.lt_irrefl _)⟩
theorem Z0.nil : Z0 none 0 := ⟨by decide, fun _ => rfl⟩
theorem z0_bs {a : Option Addr} {c : Nat} {w : World} (h : Bs w (.slice a 0 c) []) : Z0 a c := ⟨h.parts.2.2.2.1, h.parts.2.2.2.2⟩
theorem z0_ps {a : Option Addr} {c : Nat} {w : World} (h : Ps w (.slice a 0 c) []) : Z0 a c := by
  obtain ⟨a', c', e, _, h1, h2, _⟩ := h
  simp only [Value.slice.injEq] at e
  obtain ⟨rfl, -, rfl⟩ := e
  exact ⟨h1, h2⟩
theorem Z0.im {a b d : Option Addr} {c e f : Nat} (h : Z0 a c) (h2 : Z0 b e) (h3 : Z0 d f) (w : World) (t : List UInt8) : ImC w (.slice a 0 c) (.slice b 0 e) (.slice d 0 f) (gI t) := ⟨h.bs w, h2.ps w, h3.is w⟩

set_option maxRecDepth 100000 in
theorem nread_g (t : List UInt8) (ht : GT t) (v : Value) (w : World) (hv : Bs w v (ntBy (gN t))) (hT : Tabs w) (R : Ending → World → Prop)
    (hR : ∀ da dc pa pc w', Z0 da dc → Z0 pa pc → Below w.heap.size w w' → R (.returned (.tuple #[.agg #[.string (str t), .slice da 0 dc, .int .i64 0, .bool false, .string ⟨#[]⟩, .int .i64 0, .slice pa 0 pc, .int .i64 0, .int .i64 0, .int .i64 0], .int .i64 0])) w') :
    Calls Tryz.prog 147 #[v] w R :=
  nread_any (gN t) ht.nt ht.nb v w hv (by have := ht.nl; omega) (by simp [gN]) hT R fun da dc pa pc w' ho hp hb => hR da dc pa pc w' (z0_bs (bs_len (l := []) ho)) (z0_ps (hp.ps (fun _ h => by cases h))) hb

theorem ireadz (t : List UInt8) (ht : GT t) : ∃ m : Nat, m < 256 ∧ bits .and .i64 (m : Int) 3 = 2 ∧ (bits .and .i64 (m : Int) 4 != 0) = false ∧ dataC ⟨imBy (gI t), false⟩ = (ntBy (gN t), ⟨[b8 (markN 2 false)] ++ ([b8 ((0 : Nat) : Int)] ++ (textL []).1), false⟩) ∧
    numC 1 ⟨[b8 (markN 2 false)] ++ ([b8 ((0 : Nat) : Int)] ++ (textL []).1), false⟩ = ((m : Int), ⟨[b8 ((0 : Nat) : Int)] ++ (textL []).1, false⟩) ∧ numC 1 ⟨[b8 ((0 : Nat) : Int)] ++ (textL []).1, false⟩ = (0, ⟨(textL []).1, false⟩) ∧ textC ⟨(textL []).1, false⟩ = ([], ⟨[], false⟩) := by
  obtain ⟨m, hm, hm2, hm3, hm4⟩ := marks_back 2 false (by decide) (by decide)
  refine ⟨m, hm2, hm3, hm4, ?_, ?_, num1_back 0 (by decide) _, ?_⟩
  · have e : imBy (gI t) = (dataL (ntBy (gN t))).1 ++ ([b8 (markN 2 false)] ++ ([b8 ((0 : Nat) : Int)] ++ (textL []).1)) := by
      unfold imBy gI
      simp only [List.append_assoc, List.flatMap_nil, List.nil_append, List.length_nil]
    rw [e]
    exact dataC_back _ _ (by have := ht.nl; omega)
  · rw [hm]
    exact num1_back m hm2 _
  · have := textC_back [] [] (by decide) text_nil
    rwa [List.append_nil] at this
end Go.Proofs.YtgimbocoamnkjaaGreatDoor

/- session's cursor at bytes that were laid: number, text, walked. -/
namespace Go.Proofs.YtgimbocoamnkjaaGreatDoor
open Go.RowKit

/-- What is left, cut off ahead. -/
structure SCut (w0 : World) (t N n : Nat) (sb a r : List UInt8) (ad : Option Addr) (c : Nat) (Lx : Option Addr) (w : World) : Prop where
  cr : CR w0 t N ⟨r, false⟩ (w.setCell ⟨N, 0, none⟩ (.slice Lx (sb.length - n) (c - n)))
  bw : Bs w0 (.slice ad n c) a
theorem scut_of (t N n : Nat) (sb a r : List UInt8) (hsb : a ++ r = sb) (ha : a.length = n) (w0 w : World) (ad : Option Addr) (c : Nat) (hrow : w.heap[N]? = some (.cells #[.slice ad sb.length c, .bool false] t (0, 0))) (hbs : Bs w0 (.slice ad sb.length c) sb) (hlow : Below w0.heap.size w0 w) (hnn : w0.heap.size ≤ N) (hlen : sb.length ≤ 140737488355328) :
    ∃ Lx, (∀ w, (Instr.slice 22 (.slice ad sb.length c) (some (.int .i64 (n : Int))) none none).run Tryz.prog w = .ok (.slice Lx (sb.length - n) (c - n)) w) ∧ SCut w0 t N n sb a r ad c Lx w := by
  have hp := hbs.parts
  have hn : n ≤ sb.length := by rw [← hsb, List.length_append]; omega
  obtain ⟨Lx, hsl, hnx, hLx⟩ := slice_fromP (P := Tryz.prog) (j := n) Tryz.underlying22 Tryz.info5 hn hp.2.2.1 hp.2.2.2.2
  have hdr : sb.drop n = r := by rw [← hsb, ← ha, List.drop_left]
  have htk : sb.take n = a := by rw [← hsb, ← ha, List.take_left]
  have hrd : Rd w0 1 Lx (sb.length - n) (bv r) := by
    have := hLx w0 _ hp.2.1
    rw [Nat.mul_one] at this
    have e : (bv sb).drop n = bv (sb.drop n) := by unfold bv; rw [List.map_drop]
    rwa [e, hdr] at this
  obtain ⟨hdl, hdb⟩ := bs_rd (c := c - n) hrd (by have := hp.2.2.1; omega) (by have := hp.2.2.2.1; omega) hnx
  have hbw : Bs w0 (.slice ad n c) (sb.take n) := Bs.cut hbs (by omega)
  rw [htk] at hbw
  refine ⟨Lx, hsl, ⟨⟨Lx, c - n, ?_, ?_⟩, hlow.setCell hnn _, hnn, by simp only; omega⟩, hbw⟩
  · rw [heap_setCell_same w N 0 _ _ _ hrow, hdl]
    rfl
  · simp only
    rw [← hdl]
    exact hdb

set_option maxRecDepth 100000 in
set_option maxHeartbeats 1600000 in
theorem snum_any (N n : Nat) (a r : List UInt8) (ha : a.length = n) (x : Int) (hx : IntKind.i64.wrap (getU a) = x) (w0 w : World) (h : CR w0 106 N ⟨a ++ r, false⟩ w) (R : Ending → World → Prop)
    (hR : ∀ w', CR w0 106 N ⟨r, false⟩ w' → w.grownBy w' (some N) → R (.returned (.int .i64 x)) w') :
    Calls Tryz.prog 45 #[.pointer (some ⟨N, 0, none⟩), .int .i64 n] w R := by
  have HR := Lib.hid hR
  obtain ⟨⟨ad, c, hrow, hbs⟩, hlow, hnn, hlen⟩ := h
  simp only at hrow hbs hlen
  obtain ⟨sb, hsb⟩ : ∃ q, a ++ r = q := ⟨_, rfl⟩
  rw [hsb] at hrow hbs hlen
  obtain ⟨Lx, hsl, hcut⟩ := scut_of 106 N n sb a r hsb ha w0 w ad c hrow hbs hlow hnn hlen
  have hlz : ¬ (sb.length : Int) < (n : Int) := by have := congrArg List.length hsb; rw [List.length_append] at this; omega
  have hlc : (n : Int) ≤ (c : Int) := by have := hbs.parts.2.2.1; omega
  have c0 := cell_of_row w N 0 _ _ _ hrow
  have c1 : w.cell? ⟨N, 1, none⟩ = some (.bool false) := cell_of_row w N 1 _ _ _ hrow
  have f0 := frozen_block hrow 0
  obtain ⟨g, hg⟩ : ∃ g, getU a = g := ⟨_, rfl⟩
  rw [hg] at hx
  have HX := Lib.hid hx
  have HG := Lib.hid hg
  have HCUT := Lib.hid hcut
  have HBW := Lib.hid (hcut.bw.below hlow)
  clear hR hx hg hcut hrow hbs hlow hsb ha
  go_enter Tryz.func45, Tryz.ntmps45
  go_wp2_with (first
    | (go_at_call 109; go_must (refine get_at _ a g HG.out _ HBW.out _ ?_)))
  have e : wrap64 (g : Int) = x := by rw [← HX.out, IntKind.wrap_i64]; unfold wrap64; omega
  show R (.returned (.int .i64 (wrap64 (g : Int)))) (w.setCell ⟨N, 0, none⟩ (.slice Lx (sb.length - n) (c - n)))
  rw [e]
  exact HR.out _ HCUT.out.cr (grownBy_setCell w ⟨N, 0, none⟩ _)

set_option maxRecDepth 100000 in
set_option maxHeartbeats 1600000 in
theorem stext_any (N : Nat) (l r : List UInt8) (hl : l.length ≤ 65535) (ht : isTextL l = true) (w0 w : World) (h : CR w0 106 N ⟨(textL l).1 ++ r, false⟩ w) (hT : Tabs w0) (R : Ending → World → Prop)
    (hR : ∀ w', CR w0 106 N ⟨r, false⟩ w' → w.grownBy w' (some N) → R (.returned (.string (str l))) w') :
    Calls Tryz.prog 44 #[.pointer (some ⟨N, 0, none⟩)] w R := by
  have HR := Lib.hid hR
  obtain ⟨⟨ad, c, hrow, hbs⟩, hlow, hnn, hlen⟩ := h
  simp only at hrow hbs hlen
  have hG := getTextL_back l r hl ht
  have hE : (textL l).1 = putL l.length 2 ++ l := by rw [textL_of l hl ht]
  rw [← hE] at hG
  have hal : (textL l).1.length = l.length + 2 := by rw [hE, List.length_append, putL_length]; omega
  clear hE
  obtain ⟨a, haa⟩ : ∃ q, (textL l).1 = q := ⟨_, rfl⟩
  rw [haa] at hG hal hrow hbs hlen
  obtain ⟨sb, hsb⟩ : ∃ q, a ++ r = q := ⟨_, rfl⟩
  rw [hsb] at hG hrow hbs hlen
  obtain ⟨n, hn⟩ : ∃ n, l.length + 2 = n := ⟨_, rfl⟩
  have hni : (l.length : Int) + 2 = (n : Int) := by omega
  rw [hni] at hG
  rw [hn] at hal
  have hcr : CR w0 106 N ⟨sb, false⟩ w := ⟨⟨ad, c, hrow, hbs⟩, hlow, hnn, hlen⟩
  have hlc : (n : Int) ≤ (c : Int) := by have := hbs.parts.2.2.1; have := congrArg List.length hsb; rw [List.length_append] at this; omega
  have hlz : (n : Int) ≤ (sb.length : Int) := by have := congrArg List.length hsb; rw [List.length_append] at this; omega
  have c0 := cell_of_row w N 0 _ _ _ hrow
  have HG := Lib.hid hG
  have HBS := Lib.hid (hbs.below hlow)
  have HB0 := Lib.hid hbs
  have HTT := Lib.hid (hT.below hlow)
  have HC := Lib.hid hcr
  have HSB := Lib.hid hsb
  have HAL := Lib.hid hal
  have HROW := Lib.hid hrow
  clear hR hG hcr hbs hlow hT hsb haa hn hni ht hl hal hrow
  go_enter Tryz.func44, Tryz.ntmps44
  go_wp2_with (first
    | (go_at_call 108; go_must (refine gettext_any _ sb l n 0 HG.out _ HBS.out HTT.out _ ?_); intro w2 hb2; have hrow2 := row_on HROW.out hb2; have c01 := cell_of_row w2 N 0 _ _ _ hrow2; have c1 : w2.cell? ⟨N, 1, none⟩ = some (.bool false) := cell_of_row w2 N 1 _ _ _ hrow2; have f1 := frozen_block hrow2 1; have f0 := frozen_block hrow2 0; have HC2 := Lib.hid (HC.out.below hb2); have HROW2 := Lib.hid hrow2; have HB2 := Lib.hid hb2; obtain ⟨Lx, hsl, hcut⟩ := scut_of 106 N n sb a r HSB.out HAL.out w0 (w2.setCell ⟨N, 1, none⟩ (.bool false)) ad c (by rw [heap_setCell_same w2 N 1 _ _ _ HROW2.out]; rfl) HB0.out (HC2.out.low.setCell HC.out.nn _) HC.out.nn HC.out.len; have HCUT := Lib.hid hcut; clear hcut hb2 hrow2 c0))
  exact HR.out _ HCUT.out.cr (grownBy_trans (grown_bel HB2.out) (grownBy_trans (grownBy_setCell w2 ⟨N, 1, none⟩ (.bool false)) (grownBy_setCell _ ⟨N, 0, none⟩ _)))
end Go.Proofs.YtgimbocoamnkjaaGreatDoor

/- slices.Clone at flights, (*Session).Flights, walked. -/
namespace Go.Proofs.YtgimbocoamnkjaaGreatDoor
open Go.RowKit

set_option maxRecDepth 100000 in
set_option maxHeartbeats 1000000 in
theorem clonefl_any (ad : Option Addr) (n c : Nat) (xs : List Value) (w : World) (hr : Rd w 16 ad n xs) (hone : ∀ u ∈ xs, u.oneCell' = true) (h1 : n ≤ c) (h3 : ad = none → c = 0) (hn : n ≤ 1000000) (R : Ending → World → Prop)
    (hR : ∀ ad' c' w', w'.ownsRow w.heap.size 51 16 (.slice ad' n c') n xs → Below w.heap.size w w' → R (.returned (.slice ad' n c')) w') :
    Calls Tryz.prog 62 #[.slice ad n c] w R := by
  have HR := Lib.hid hR
  clear hR
  cases ad with
  | none =>
    have hc : c = 0 := h3 rfl
    subst hc
    obtain rfl : n = 0 := by omega
    have hx : xs = [] := List.eq_nil_of_length_eq_zero (by have := hr.1; omega)
    subst hx
    have he : ∀ w : World, (binOp .eql 48 (.slice none 0 0) (.slice none 0 0)).run Tryz.prog w = .ok (.bool true) w := fun _ => rfl
    go_enter Tryz.func62, Tryz.ntmps62
    go_wp2
    exact HR.out none 0 _ (World.ownsRow_nil _ _ _ _) (Below.refl _ _)
  | some a =>
    have he : ∀ w : World, (binOp .eql 48 (.slice (some a) n c) (.slice none 0 0)).run Tryz.prog w = .ok (.bool false) w := fun _ => rfl
    have hown := (World.ownsRow_made (base := w.heap.size) (e := 51) (size := 16) w #[] 0 (Nat.le_refl _) (by unfold maxLen; omega) rfl)
    have hr1 := rd_alloc hr (.cells #[] 51)
    have HOC := Lib.hid hone
    go_enter Tryz.func62, Tryz.ntmps62
    go_wp2_with (at_builtin; go_must (refine wpList_app (by rfl) (.tmp 5) (.tmp 6) 48 (by rfl) w.heap.size 51 (Value.agg #[.int .i64 0, .int .i64 0, .string ⟨#[]⟩, .slice none 0 0, .int .i64 0, .bool false, .string ⟨#[]⟩, .int .i64 0, .slice none 0 0, .int .i64 0, .int .i64 0, .int .i64 0, .int .i64 0, .bool false, .slice none 0 0, .string ⟨#[]⟩]) 16 200 Tryz.underlying48 infoFl rfl (by decide) _ _ _ _ rfl hown _ _ _ _ rfl hr1 HOC.out h3 (by unfold maxLen; omega) (by omega) (by simp) ?_))
    intro ad2 c2 w2 hown2 hg2
    have hb2 := below_app ((Below.refl w.heap.size w).alloc (Nat.le_refl _) _) hg2 (by simp) hown
    have HB2 := Lib.hid hb2
    have HO2 := Lib.hid hown2
    clear hg2 hown hr1 hr hown2 hb2
    go_wp2
    exact HR.out _ _ _ (by have := HO2.out; simpa using this) HB2.out

/-- A row of flights, the item of one written over. -/
theorem set_item {w : World} {B g c : Nat} {ps : List (V3 × Fl)} {k : Nat} (hk : k < ps.length) (h : w.ownsRow B 51 16 (.slice (some ⟨g, 0, none⟩) ps.length c) ps.length (ps.flatMap flP)) (vs : List Value) (p : V3 × Fl)
    (h0 : (flP p)[0]? = (flP ps[k])[0]?) (h1 : (flP p)[1]? = (flP ps[k])[1]?) (h2 : ∀ j, j < 14 → (flP p)[j + 2]? = vs[j]?) (hv : vs.length = 14) :
    (w.setCells g (k * 16 + 2) vs).ownsRow B 51 16 (.slice (some ⟨g, 0, none⟩) ps.length c) ps.length ((ps.set k p).flatMap flP) := by
  have hlen : (ps.set k p).length = ps.length := by simp
  refine ⟨by rw [flatN_length 16 flP flP_length, hlen], ?_⟩
  rcases h.2 with ⟨hv, h0⟩ | ⟨g', cap, cur, hv', hB, hg, e1, e2, e3, e4⟩
  · cases hv
  · simp only [Value.slice.injEq, Option.some.injEq, Addr.mk.injEq] at hv'
    obtain ⟨⟨rfl, -, -⟩, -, rfl⟩ := hv'
    obtain ⟨cur2, m1, m2, m3⟩ := heap_setCells_row g 51 vs (k * 16 + 2) w cur hg
    refine .inr ⟨g, c, cur2, rfl, hB, m1, e1, e2, by rw [m2]; exact e3, ?_⟩
    have hcs : ps.length * 16 ≤ cur.size := by
      have := congrArg List.length e4
      rw [flatN_length 16 flP flP_length, List.length_take] at this
      simp at this
      omega
    have hat : ∀ j, j < ps.length * 16 → cur[j]? = (ps.flatMap flP)[j]? := fun j hj => by
      rw [← e4, List.getElem?_take, if_pos hj]
      simp
    apply List.ext_getElem?
    intro j
    rw [List.getElem?_take]
    by_cases hj : j < ps.length * 16
    · rw [if_pos hj]
      have e0 : cur2.toList[j]? = cur2[j]? := by simp
      have hi : j / 16 < ps.length := by omega
      have hr : j % 16 < 16 := Nat.mod_lt _ (by omega)
      have hji : j / 16 * 16 + j % 16 = j := by omega
      have hs := flatN 16 flP flP_length (ps.set k p) (j / 16) (j % 16) (by simpa using hi) hr
      have ho := flatN 16 flP flP_length ps (j / 16) (j % 16) hi hr
      rw [hji] at hs ho
      have hk16 : k * 16 + 2 + 14 ≤ ps.length * 16 := by omega
      rw [e0, m3, hs, hv]
      by_cases hkj : j / 16 = k
      · have hset : (ps.set k p)[j / 16]'(by simpa using hi) = p := by simp [hkj]
        rw [hset]
        by_cases c1 : k * 16 + 2 ≤ j
        · rw [if_pos (by omega)]
          have := h2 (j - (k * 16 + 2)) (by omega)
          rw [← this]
          congr 1
          omega
        · have hpk : ps[j / 16] = ps[k] := by congr
          rw [if_neg (by omega), hat j hj, ho, hpk]
          by_cases c2 : j % 16 = 0
          · rw [c2, h0]
          · rw [show j % 16 = 1 by omega, h1]
      · have hset : (ps.set k p)[j / 16]'(by simpa using hi) = ps[j / 16] := by
          rw [List.getElem_set_ne (by omega)]
        rw [hset, if_neg (by omega), hat j hj, ho]
    · rw [if_neg hj, List.getElem?_eq_none (by rw [flatN_length 16 flP flP_length, hlen]; omega)]

/-- The first k flights of a row are copies; the others are as they were. -/
structure FCp (w wr : World) (B k : Nat) (v : Value) (ps qs : List (V3 × Fl)) : Prop where
  len : qs.length = ps.length
  eqs : qs.map (·.2) = ps.map (·.2)
  row : wr.ownsRow B 51 16 v ps.length (qs.flatMap flP)
  new : ∀ (j : Nat) (h : j < qs.length), j < k → ImO wr B (qs[j]).1.1 (qs[j]).1.2.1 (qs[j]).1.2.2 (qs[j]).2.item
  old : ∀ (j : Nat) (h : j < qs.length), k ≤ j → ImC w (qs[j]).1.1 (qs[j]).1.2.1 (qs[j]).1.2.2 (qs[j]).2.item
  reach : ∀ p ∈ qs, ImB p.2.item
theorem FCp.below {w wr wr' : World} {B k : Nat} {v : Value} {ps qs : List (V3 × Fl)} (h : FCp w wr B k v ps qs) (hb : Below wr.heap.size wr wr') : FCp w wr' B k v ps qs :=
  ⟨h.len, h.eqs, owns_below h.row hb, fun j hj hk => (h.new j hj hk).below hb, h.old, h.reach⟩
theorem FCp.step {w wr : World} {B k g c : Nat} {ps qs : List (V3 × Fl)} (h : FCp w wr B k (.slice (some ⟨g, 0, none⟩) ps.length c) ps qs) (hk : k < qs.length) {v1 v2 v3 : Value} {f : Fl} (hf : (qs[k]).2 = f) (ho : ImO wr B v1 v2 v3 f.item) :
    FCp w (wr.setCells g (k * 16 + 2) [.string (str f.item.note.topic), v1, .int .i64 f.item.note.qos, .bool f.item.note.retain, .string (str f.item.note.src), .int .i64 f.item.note.expires, v2, .int .i64 f.item.note.origin, .int .i64 f.item.note.number, .int .i64 f.item.note.hops, .int .i64 f.item.qos, .bool f.item.keep, v3, .string (str f.item.share)]) B (k + 1) (.slice (some ⟨g, 0, none⟩) ps.length c) ps (qs.set k ((v1, v2, v3), f)) := by
  have hrow := h.row
  rw [← h.len] at hrow
  have hset := set_item hk hrow [.string (str f.item.note.topic), v1, .int .i64 f.item.note.qos, .bool f.item.note.retain, .string (str f.item.note.src), .int .i64 f.item.note.expires, v2, .int .i64 f.item.note.origin, .int .i64 f.item.note.number, .int .i64 f.item.note.hops, .int .i64 f.item.qos, .bool f.item.keep, v3, .string (str f.item.share)] ((v1, v2, v3), f) (by rw [← hf]; rfl) (by rw [← hf]; rfl) (fun j _ => rfl) rfl
  rw [h.len] at hset
  obtain ⟨cur, hg⟩ : ∃ cur : Array Value, wr.heap[g]? = some (.cells cur 51 (0, 0)) := by
    rcases hrow.2 with ⟨hv, h0⟩ | ⟨g', cap, cur, hv, hB, hg, _⟩
    · cases hv
    · simp only [Value.slice.injEq, Option.some.injEq, Addr.mk.injEq] at hv
      obtain ⟨⟨rfl, -, -⟩, -, rfl⟩ := hv
      exact ⟨cur, hg⟩
  have hgr := grownBy_setCells g [.string (str f.item.note.topic), v1, .int .i64 f.item.note.qos, .bool f.item.note.retain, .string (str f.item.note.src), .int .i64 f.item.note.expires, v2, .int .i64 f.item.note.origin, .int .i64 f.item.note.number, .int .i64 f.item.note.hops, .int .i64 f.item.qos, .bool f.item.keep, v3, .string (str f.item.share)] (k * 16 + 2) wr
  refine ⟨by rw [List.length_set, h.len], ?_, hset, fun j hj hjk => ?_, fun j hj hjk => ?_, fun p hp => ?_⟩
  · rw [List.map_set, ← h.eqs]
    apply List.ext_getElem?
    intro j
    rw [List.getElem?_set]
    split
    · rename_i e
      subst e
      simp [hk, hf]
    · rfl
  · by_cases e : j = k
    · subst e
      simp only [List.getElem_set_self]
      exact ho.typed hg (by decide) (by decide) (by decide) hgr
    · have hj' : j < qs.length := by simpa using hj
      rw [List.getElem_set_ne (fun h => e h.symm)]
      exact (h.new j hj' (by omega)).typed hg (by decide) (by decide) (by decide) hgr
  · have hj' : j < qs.length := by simpa using hj
    rw [List.getElem_set_ne (by omega)]
    exact h.old j hj' (by omega)
  · rcases List.mem_or_eq_of_mem_set hp with hp | rfl
    · exact h.reach p hp
    · show ImB f.item
      rw [← hf]
      exact h.reach _ (List.getElem_mem hk)
end Go.Proofs.YtgimbocoamnkjaaGreatDoor
