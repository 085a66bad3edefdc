/- Items: what they are, how they lie in memory; note.CopyItem, walked. -/
import Derived.Test.YtgimbocoamnkjaaNCopy
namespace Go.Proofs.Ytgimbocoamnkjaa
open Go.RowKit

/-- An item: a message on its way. -/
structure Im where
  note : Nt
  qos : Int
  keep : Bool
  ids : List Int
  share : List UInt8
deriving DecidableEq
/-- Sizes within reach. -/
structure ImB (x : Im) : Prop where
  n : NtB x.note
  i : x.ids.length ≤ 100000
  s : x.share.length ≤ 100000
  q : -9223372036854775808 ≤ x.qos ∧ x.qos ≤ 9223372036854775807
/-- What an item's three slices read as. -/
structure ImC (w : World) (pv qv iv : Value) (x : Im) : Prop where
  p : Bs w pv x.note.payload
  q : Ps w qv x.note.props
  i : Is w iv x.ids
/-- They are rows of the call's own, from block B on. -/
structure ImO (w : World) (B : Nat) (pv qv iv : Value) (x : Im) : Prop where
  p : w.ownsRow B 5 1 pv x.note.payload.length (bv x.note.payload)
  q : PsO w B qv x.note.props
  i : w.ownsRow B 3 1 iv x.ids.length (Go.Proofs.Ytgimbocoamnkjaa.iv x.ids)
theorem ImC.below {w w' : World} {pv qv iv : Value} {x : Im} (h : ImC w pv qv iv x) (hb : Below w.heap.size w w') : ImC w' pv qv iv x := ⟨h.p.below hb, h.q.below hb, h.i.below hb⟩
theorem ImC.shape {w : World} {pv qv iv : Value} {x : Im} (h : ImC w pv qv iv x) : (∃ a c, pv = .slice a x.note.payload.length c) ∧ (∃ a c, qv = .slice a x.note.props.length c) ∧ ∃ a c, iv = .slice a x.ids.length c := by
  obtain ⟨a, c, e, _⟩ := h.p
  obtain ⟨a1, c1, e1, _⟩ := h.q
  obtain ⟨a2, c2, e2, _⟩ := h.i
  exact ⟨⟨a, c, e⟩, ⟨a1, c1, e1⟩, a2, c2, e2⟩
theorem ImO.below {w w' : World} {B : Nat} {pv qv iv : Value} {x : Im} (h : ImO w B pv qv iv x) (hb : Below w.heap.size w w') : ImO w' B pv qv iv x := ⟨owns_below h.p hb, h.q.below hb, owns_below h.i hb⟩
theorem ImO.mono {w : World} {B B' : Nat} {pv qv iv : Value} {x : Im} (h : ImO w B pv qv iv x) (hB : B' ≤ B) : ImO w B' pv qv iv x := ⟨owns_mono h.p hB, h.q.mono hB, owns_mono h.i hB⟩
theorem ImO.shape {w : World} {B : Nat} {pv qv iv : Value} {x : Im} (h : ImO w B pv qv iv x) : (∃ a c, pv = .slice a x.note.payload.length c) ∧ (∃ a c, qv = .slice a x.note.props.length c) ∧ ∃ a c, iv = .slice a x.ids.length c :=
  ⟨owns_shape h.p, h.q.shape, owns_shape h.i⟩
theorem ImO.c {w : World} {B : Nat} {pv qv iv : Value} {x : Im} (h : ImO w B pv qv iv x) (hb : ImB x) : ImC w pv qv iv x := by
  obtain ⟨⟨a, c, rfl⟩, ⟨a1, c1, rfl⟩, a2, c2, rfl⟩ := h.shape
  exact ⟨(bs_of_owns h.p).2, h.q.ps hb.n.e, is_of_owns h.i rfl⟩
theorem PsO.safe {M : Nat → Prop} {w : World} {B : Nat} {v : Value} {l : List Pr} (h : PsO w B v l) (hM : ∀ b, M b → b < B) : Safe M w fun x => PsO x B v l := fun M' w' s => by
  obtain ⟨ds, hd, hr, he, ha⟩ := h
  have key : ∀ {e size n : Nat} {v : Value} {xs : List Value}, w.ownsRow B e size v n xs → w'.ownsRow B e size v n xs := fun ho => owns_safe ho (fun k hk hm => by
    have := (ho.lt k hk).1
    have := hM k hm
    omega) M' w' s
  exact ⟨ds, hd, key hr, fun i hi => key (he i hi), ha⟩
/-- What a callee made behind the writable blocks stays. -/
theorem ImO.safe {M : Nat → Prop} {w : World} {B : Nat} {pv qv iv : Value} {x : Im} (h : ImO w B pv qv iv x) (hM : ∀ b, M b → b < B) : Safe M w fun y => ImO y B pv qv iv x := fun M' w' s => by
  have key : ∀ {e size n : Nat} {v : Value} {xs : List Value}, w.ownsRow B e size v n xs → w'.ownsRow B e size v n xs := fun ho => owns_safe ho (fun k hk hm => by
    have := (ho.lt k hk).1
    have := hM k hm
    omega) M' w' s
  exact ⟨key h.p, PsO.safe h.q hM M' w' s, key h.i⟩
theorem ImO.typed {w w' : World} {B K t : Nat} {fr : Nat × Nat} {cs : Array Value} {pv qv iv : Value} {x : Im} (h : ImO w B pv qv iv x) (hK : w.heap[K]? = some (.cells cs t fr)) (h1 : t ≠ 84) (h2 : t ≠ 5) (h3 : t ≠ 3) (hg : w.grownBy w' (some K)) : ImO w' B pv qv iv x :=
  ⟨owns_typed h.p hK h2 hg, h.q.typed hK h1 h2 hg, owns_typed h.i hK h3 hg⟩

/-- The fourteen cells at the head of a block. -/
theorem it14 {w : World} {N t : Nat} {fr : Nat × Nat} {a b c d e f g h i j k l m n : Value} (hN : w.heap[N]? = some (.cells #[a, b, c, d, e, f, g, h, i, j, k, l, m, n] t fr)) :
    (w.cell? ⟨N, 0, none⟩ = some a ∧ w.cell? ⟨N, 1, none⟩ = some b ∧ w.cell? ⟨N, 2, none⟩ = some c ∧ w.cell? ⟨N, 3, none⟩ = some d ∧ w.cell? ⟨N, 4, none⟩ = some e ∧ w.cell? ⟨N, 5, none⟩ = some f ∧ w.cell? ⟨N, 6, none⟩ = some g) ∧ (w.cell? ⟨N, 7, none⟩ = some h ∧ w.cell? ⟨N, 8, none⟩ = some i ∧ w.cell? ⟨N, 9, none⟩ = some j ∧ w.cell? ⟨N, 10, none⟩ = some k ∧ w.cell? ⟨N, 11, none⟩ = some l ∧ w.cell? ⟨N, 12, none⟩ = some m ∧ w.cell? ⟨N, 13, none⟩ = some n) :=
  ⟨⟨cell_of_row w N 0 _ _ _ hN, cell_of_row w N 1 _ _ _ hN, cell_of_row w N 2 _ _ _ hN, cell_of_row w N 3 _ _ _ hN, cell_of_row w N 4 _ _ _ hN, cell_of_row w N 5 _ _ _ hN, cell_of_row w N 6 _ _ _ hN⟩, cell_of_row w N 7 _ _ _ hN, cell_of_row w N 8 _ _ _ hN, cell_of_row w N 9 _ _ _ hN, cell_of_row w N 10 _ _ _ hN, cell_of_row w N 11 _ _ _ hN, cell_of_row w N 12 _ _ _ hN, cell_of_row w N 13 _ _ _ hN⟩

/-- A message and the numbers stored into an item's block. -/
theorem item_put {x : World} {N t : Nat} {o0 o1 o2 o3 o4 o5 o6 o7 o8 o9 o10 o11 o12 o13 : Value} (h : x.heap[N]? = some (.cells #[o0, o1, o2, o3, o4, o5, o6, o7, o8, o9, o10, o11, o12, o13] t (0, 0))) (a0 a1 a2 a3 a4 a5 a6 a7 a8 a9 a12 : Value) :
    (((((((((((x.setCell ⟨N, 0, none⟩ a0).setCell ⟨N, 1, none⟩ a1).setCell ⟨N, 2, none⟩ a2).setCell ⟨N, 3, none⟩ a3).setCell ⟨N, 4, none⟩ a4).setCell ⟨N, 5, none⟩ a5).setCell ⟨N, 6, none⟩ a6).setCell ⟨N, 7, none⟩ a7).setCell ⟨N, 8, none⟩ a8).setCell ⟨N, 9, none⟩ a9).setCell ⟨N, 12, none⟩ a12).heap[N]? = some (.cells #[a0, a1, a2, a3, a4, a5, a6, a7, a8, a9, o10, o11, a12, o13] t (0, 0)) ∧ x.grownBy (((((((((((x.setCell ⟨N, 0, none⟩ a0).setCell ⟨N, 1, none⟩ a1).setCell ⟨N, 2, none⟩ a2).setCell ⟨N, 3, none⟩ a3).setCell ⟨N, 4, none⟩ a4).setCell ⟨N, 5, none⟩ a5).setCell ⟨N, 6, none⟩ a6).setCell ⟨N, 7, none⟩ a7).setCell ⟨N, 8, none⟩ a8).setCell ⟨N, 9, none⟩ a9).setCell ⟨N, 12, none⟩ a12) (some N) := by
  have k0 : _ = some (Obj.cells #[a0, o1, o2, o3, o4, o5, o6, o7, o8, o9, o10, o11, o12, o13] t (0, 0)) := heap_setCell_same _ N 0 _ _ a0 h
  have k1 : _ = some (Obj.cells #[a0, a1, o2, o3, o4, o5, o6, o7, o8, o9, o10, o11, o12, o13] t (0, 0)) := heap_setCell_same _ N 1 _ _ a1 k0
  have k2 : _ = some (Obj.cells #[a0, a1, a2, o3, o4, o5, o6, o7, o8, o9, o10, o11, o12, o13] t (0, 0)) := heap_setCell_same _ N 2 _ _ a2 k1
  have k3 : _ = some (Obj.cells #[a0, a1, a2, a3, o4, o5, o6, o7, o8, o9, o10, o11, o12, o13] t (0, 0)) := heap_setCell_same _ N 3 _ _ a3 k2
  have k4 : _ = some (Obj.cells #[a0, a1, a2, a3, a4, o5, o6, o7, o8, o9, o10, o11, o12, o13] t (0, 0)) := heap_setCell_same _ N 4 _ _ a4 k3
  have k5 : _ = some (Obj.cells #[a0, a1, a2, a3, a4, a5, o6, o7, o8, o9, o10, o11, o12, o13] t (0, 0)) := heap_setCell_same _ N 5 _ _ a5 k4
  have k6 : _ = some (Obj.cells #[a0, a1, a2, a3, a4, a5, a6, o7, o8, o9, o10, o11, o12, o13] t (0, 0)) := heap_setCell_same _ N 6 _ _ a6 k5
  have k7 : _ = some (Obj.cells #[a0, a1, a2, a3, a4, a5, a6, a7, o8, o9, o10, o11, o12, o13] t (0, 0)) := heap_setCell_same _ N 7 _ _ a7 k6
  have k8 : _ = some (Obj.cells #[a0, a1, a2, a3, a4, a5, a6, a7, a8, o9, o10, o11, o12, o13] t (0, 0)) := heap_setCell_same _ N 8 _ _ a8 k7
  have k9 : _ = some (Obj.cells #[a0, a1, a2, a3, a4, a5, a6, a7, a8, a9, o10, o11, o12, o13] t (0, 0)) := heap_setCell_same _ N 9 _ _ a9 k8
  have k12 : _ = some (Obj.cells #[a0, a1, a2, a3, a4, a5, a6, a7, a8, a9, o10, o11, a12, o13] t (0, 0)) := heap_setCell_same _ N 12 _ _ a12 k9
  refine ⟨k12, ?_⟩
  refine grownBy_trans ?_ (grownBy_setCell _ ⟨N, 12, none⟩ a12)
  refine grownBy_trans ?_ (grownBy_setCell _ ⟨N, 9, none⟩ a9)
  refine grownBy_trans ?_ (grownBy_setCell _ ⟨N, 8, none⟩ a8)
  refine grownBy_trans ?_ (grownBy_setCell _ ⟨N, 7, none⟩ a7)
  refine grownBy_trans ?_ (grownBy_setCell _ ⟨N, 6, none⟩ a6)
  refine grownBy_trans ?_ (grownBy_setCell _ ⟨N, 5, none⟩ a5)
  refine grownBy_trans ?_ (grownBy_setCell _ ⟨N, 4, none⟩ a4)
  refine grownBy_trans ?_ (grownBy_setCell _ ⟨N, 3, none⟩ a3)
  refine grownBy_trans ?_ (grownBy_setCell _ ⟨N, 2, none⟩ a2)
  refine grownBy_trans ?_ (grownBy_setCell _ ⟨N, 1, none⟩ a1)
  exact grownBy_setCell _ ⟨N, 0, none⟩ a0

set_option maxRecDepth 100000 in
set_option maxHeartbeats 2000000 in
theorem icopy_any (x : Im) (pv qv ev : Value) (w : World) (hc : ImC w pv qv ev x) (hB : ImB x) (R : Ending → World → Prop)
    (hR : ∀ pa pc qa qc ea ec w', ImO w' w.heap.size (.slice pa x.note.payload.length pc) (.slice qa x.note.props.length qc) (.slice ea x.ids.length ec) x → Below w.heap.size w w' → R (.returned (Value.agg #[.string (str x.note.topic), (.slice pa x.note.payload.length pc), .int .i64 x.note.qos, .bool x.note.retain, .string (str x.note.src), .int .i64 x.note.expires, (.slice qa x.note.props.length qc), .int .i64 x.note.origin, .int .i64 x.note.number, .int .i64 x.note.hops, .int .i64 x.qos, .bool x.keep, (.slice ea x.ids.length ec), .string (str x.share)])) w') :
    Calls Try.prog 20 #[(Value.agg #[.string (str x.note.topic), pv, .int .i64 x.note.qos, .bool x.note.retain, .string (str x.note.src), .int .i64 x.note.expires, qv, .int .i64 x.note.origin, .int .i64 x.note.number, .int .i64 x.note.hops, .int .i64 x.qos, .bool x.keep, ev, .string (str x.share)])] w R := by
  have HR := Lib.hid hR
  have HC := Lib.hid hc
  have HBD := Lib.hid hB
  obtain ⟨⟨pa, pc, rfl⟩, ⟨qa, qc, rfl⟩, ea, ec, rfl⟩ := hc.shape
  obtain ⟨⟨topic, payload, nqos, retain, src, expires, props, origin, number, hops⟩, qos, keep, ids, share⟩ := x
  simp only at *
  clear hR hB hc
  obtain ⟨O0, hO0⟩ : ∃ o, (Obj.cells #[.string (str topic), .slice pa payload.length pc, .int .i64 nqos, .bool retain, .string (str src), .int .i64 expires, .slice qa props.length qc, .int .i64 origin, .int .i64 number, .int .i64 hops, .int .i64 qos, .bool keep, .slice ea ids.length ec, .string (str share)] 44) = o := ⟨_, rfl⟩
  have hb1 : Below w.heap.size w ((w.alloc O0).alloc (Obj.cells #[.string ⟨#[]⟩, .slice none 0 0, .int .i64 0, .bool false, .string ⟨#[]⟩, .int .i64 0, .slice none 0 0, .int .i64 0, .int .i64 0, .int .i64 0, .int .i64 0, .bool false, .slice none 0 0, .string ⟨#[]⟩] 44)) := ((Below.refl _ _).alloc (Nat.le_refl _) _).alloc (by simp) _
  have n0 := block_alloc (o' := (Obj.cells #[.string ⟨#[]⟩, .slice none 0 0, .int .i64 0, .bool false, .string ⟨#[]⟩, .int .i64 0, .slice none 0 0, .int .i64 0, .int .i64 0, .int .i64 0, .int .i64 0, .bool false, .slice none 0 0, .string ⟨#[]⟩] 44)) (heap_alloc_new w O0)
  have n1 := heap_alloc_new (w.alloc O0) (Obj.cells #[.string ⟨#[]⟩, .slice none 0 0, .int .i64 0, .bool false, .string ⟨#[]⟩, .int .i64 0, .slice none 0 0, .int .i64 0, .int .i64 0, .int .i64 0, .int .i64 0, .bool false, .slice none 0 0, .string ⟨#[]⟩] 44)
  rw [show (w.alloc O0).heap.size = w.heap.size + 1 by simp] at n1
  have HB1 := Lib.hid hb1
  have N0 := Lib.hid n0
  have N1 := Lib.hid n1
  rw [← hO0] at HB1 N0 N1
  clear hb1 n0 n1 hO0
  have HCB := Lib.hid (HC.out.below HB1.out)
  go_enter Try.func20, Try.ntmps20
  go_wp2_with fail
  generalize (w.alloc (Obj.cells #[.string (str topic), .slice pa payload.length pc, .int .i64 nqos, .bool retain, .string (str src), .int .i64 expires, .slice qa props.length qc, .int .i64 origin, .int .i64 number, .int .i64 hops, .int .i64 qos, .bool keep, .slice ea ids.length ec, .string (str share)] 44)).alloc (Obj.cells #[.string ⟨#[]⟩, .slice none 0 0, .int .i64 0, .bool false, .string ⟨#[]⟩, .int .i64 0, .slice none 0 0, .int .i64 0, .int .i64 0, .int .i64 0, .int .i64 0, .bool false, .slice none 0 0, .string ⟨#[]⟩] 44) = w1 at HB1 N0 N1 HCB ⊢
  have HSZ : Hid (w.heap.size + 2 ≤ w1.heap.size) := (Array.getElem?_eq_some_iff.1 N1.out).1
  obtain ⟨⟨c0, c1, c2, c3, c4, c5, c6⟩, c7, c8, c9, c10, c11, c12, c13⟩ := it14 (w := w1.drew) N0.out
  have hd1 : Below w1.heap.size w1 w1.drew := (Below.refl _ _).drew
  go_region_law (first
    | (go_simp; go_at_call 30; refine ncopy_any ⟨topic, payload, nqos, retain, src, expires, props, origin, number, hops⟩ _ _ w1.drew (HCB.out.p.below hd1) (HCB.out.q.below hd1) HBD.out.n _ ?_; intro pa3 pc3 qa3 qc3 w3 ho3 hq3 hb3; have hb3' := below_tra hd1 hb3; have r3 := row_on N0.out hb3'; obtain ⟨⟨d0, d1, d2, d3, d4, d5, d6⟩, d7, d8, d9, d10, d11, d12, d13⟩ := it14 r3)
    | (go_simp; go_at_call 31; refine clonei_any _ ids w3 (HCB.out.i.below hb3') (by have := HBD.out.i; simp only at this; omega) _ ?_; intro ea5 ec5 w5 ho5 hb5; have r5 := row_on r3 hb5; obtain ⟨⟨e0, e1, e2, e3, e4, e5, e6⟩, e7, e8, e9, e10, e11, e12, e13⟩ := it14 r5; have f5 := frozen_block r5; have z5 := row_on N1.out (below_tra hb3' hb5)))
  all_goals
    obtain ⟨k7, kg⟩ := item_put r5 (.string (str topic)) (.slice pa3 payload.length pc3) (.int .i64 nqos) (.bool retain) (.string (str src)) (.int .i64 expires) (.slice qa3 props.length qc3) (.int .i64 origin) (.int .i64 number) (.int .i64 hops) (.slice ea5 ids.length ec5)
    have hb5' := below_tra hb3' hb5
    have hz7 := block_grown kg z5 (by simp)
    have ho7 : ImO w5 w1.heap.size (.slice pa3 payload.length pc3) (.slice qa3 props.length qc3) (.slice ea5 ids.length ec5) ⟨⟨topic, payload, nqos, retain, src, expires, props, origin, number, hops⟩, qos, keep, ids, share⟩ := ⟨owns_below ho3 hb5, hq3.below hb5, owns_mono ho5 hb3'.size⟩
    replace ho7 := (ho7.typed r5 (by decide) (by decide) (by decide) kg).mono (B' := w.heap.size) (by have := HSZ.out; omega)
    have hb7 : Below w.heap.size w _ := below_grown (below_then HB1.out hb5' HB1.out.size) kg (Nat.le_trans HB1.out.size hb5'.size) (fun k hk => by cases hk; exact Nat.le_refl _)
    clear kg r5 z5 e0 e1 e2 e3 e4 e5 e6 e7 e8 e9 e10 e11 e12 e13 f5 ho5 hb5 hb5' hb3 hb3' r3 ho3 hq3 d0 d1 d2 d3 d4 d5 d6 d7 d8 d9 d10 d11 d12 d13 c0 c1 c2 c3 c4 c5 c6 c7 c8 c9 c10 c11 c12 c13 hd1
    generalize (((((((((((w5.setCell ⟨w.heap.size, 0, none⟩ (Value.string (str topic))).setCell ⟨w.heap.size, 1, none⟩ (.slice pa3 payload.length pc3)).setCell ⟨w.heap.size, 2, none⟩ (.int .i64 nqos)).setCell ⟨w.heap.size, 3, none⟩ (.bool retain)).setCell ⟨w.heap.size, 4, none⟩ (.string (str src))).setCell ⟨w.heap.size, 5, none⟩ (.int .i64 expires)).setCell ⟨w.heap.size, 6, none⟩ (.slice qa3 props.length qc3)).setCell ⟨w.heap.size, 7, none⟩ (.int .i64 origin)).setCell ⟨w.heap.size, 8, none⟩ (.int .i64 number)).setCell ⟨w.heap.size, 9, none⟩ (.int .i64 hops)).setCell ⟨w.heap.size, 12, none⟩ (.slice ea5 ids.length ec5)) = w7 at k7 hz7 ho7 hb7 ⊢
    have HR7 := Lib.hid k7
    have HZ7 := Lib.hid hz7
    have HO7 := Lib.hid ho7
    have HB7 := Lib.hid hb7
    clear k7 hz7 ho7 hb7
    go_wp2_with (first
      | (refine wpList_load_row (o := ⟨some 11, .load 44 (.tmp 1), _, _, _, _⟩) (by rfl) 44 (.tmp 1) (by rfl) (w.heap.size) (by rfl) 44 _ (0, 0) _ (HR7).out (Try.underlying44) (by rfl) (by kernel_rfl) ?_)
      | (refine wpList_store_row (o := ⟨none, .store 44 (.tmp 2) (.tmp 11), _, _, _, _⟩) (by rfl) 44 (.tmp 2) (.tmp 11) (by rfl) (w.heap.size + 1) _ (by rfl) (by rfl) 44 _ (HZ7).out (by kernel_rfl) (by rfl) (by simp [Value.oneCell']) ?_))
    refine bodyPost_ret (results_cell_row rfl _ _ (w.heap.size + 1) 44 #[.string (str topic), .slice pa3 payload.length pc3, .int .i64 nqos, .bool retain, .string (str src), .int .i64 expires, .slice qa3 props.length qc3, .int .i64 origin, .int .i64 number, .int .i64 hops, .int .i64 qos, .bool keep, .slice ea5 ids.length ec5, .string (str share)] (0, 0) _ rfl (setRow_heap _ (w.heap.size + 1) _ _ _ _ HZ7.out) Try.underlying44 rfl (by kernel_rfl)) rfl ?_
    exact HR.out _ _ _ _ _ _ _ (HO7.out.typed HZ7.out (by decide) (by decide) (by decide) (grown_setRow _ _ _)) (below_setRow HB7.out (by omega) _)
end Go.Proofs.Ytgimbocoamnkjaa
