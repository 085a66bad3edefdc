/- (*note.reader).note, walked. -/
import Derived.Test.YtgimbocoamnkjaaGreatDoorM21
import Derived.Deep.CutRange
namespace Go.Proofs.YtgimbocoamnkjaaGreatDoor
open Go.RowKit

theorem grown_row {w w' : World} {N B : Nat} {o : Obj} (hg : w.grownBy w' (some N)) (hB : w.heap[B]? = some o) (hne : B ≠ N) : w'.heap[B]? = some o := by
  have hlt := (Array.getElem?_eq_some_iff.1 hB).1
  rw [hg.block B hlt (by simpa using hne)]
  exact hB

/-- Ten stores into one row. -/
def put10 (x : World) (N : Nat) (v0 v1 v2 v3 v4 v5 v6 v7 v8 v9 : Value) : World := ((((((((((x.setCell ⟨N, 0, none⟩ v0).setCell ⟨N, 1, none⟩ v1).setCell ⟨N, 2, none⟩ v2).setCell ⟨N, 3, none⟩ v3).setCell ⟨N, 4, none⟩ v4).setCell ⟨N, 5, none⟩ v5).setCell ⟨N, 6, none⟩ v6).setCell ⟨N, 7, none⟩ v7).setCell ⟨N, 8, none⟩ v8).setCell ⟨N, 9, none⟩ v9)
set_option maxHeartbeats 1000000 in
theorem put10_row {N t : Nat} {x : World} {c0 c1 c2 c3 c4 c5 c6 c7 c8 c9 : Value} (q0 : x.heap[N]? = some (.cells #[c0, c1, c2, c3, c4, c5, c6, c7, c8, c9] t (0, 0))) (v0 v1 v2 v3 v4 v5 v6 v7 v8 v9 : Value) : (put10 x N v0 v1 v2 v3 v4 v5 v6 v7 v8 v9).heap[N]? = some (.cells #[v0, v1, v2, v3, v4, v5, v6, v7, v8, v9] t (0, 0)) := by
  have q1 : (x.setCell ⟨N, 0, none⟩ v0).heap[N]? = some (.cells #[v0, c1, c2, c3, c4, c5, c6, c7, c8, c9] t (0, 0)) := heap_setCell_same _ _ 0 _ _ _ q0
  have q2 : ((x.setCell ⟨N, 0, none⟩ v0).setCell ⟨N, 1, none⟩ v1).heap[N]? = some (.cells #[v0, v1, c2, c3, c4, c5, c6, c7, c8, c9] t (0, 0)) := heap_setCell_same _ _ 1 _ _ _ q1
  have q3 : (((x.setCell ⟨N, 0, none⟩ v0).setCell ⟨N, 1, none⟩ v1).setCell ⟨N, 2, none⟩ v2).heap[N]? = some (.cells #[v0, v1, v2, c3, c4, c5, c6, c7, c8, c9] t (0, 0)) := heap_setCell_same _ _ 2 _ _ _ q2
  have q4 : ((((x.setCell ⟨N, 0, none⟩ v0).setCell ⟨N, 1, none⟩ v1).setCell ⟨N, 2, none⟩ v2).setCell ⟨N, 3, none⟩ v3).heap[N]? = some (.cells #[v0, v1, v2, v3, c4, c5, c6, c7, c8, c9] t (0, 0)) := heap_setCell_same _ _ 3 _ _ _ q3
  have q5 : (((((x.setCell ⟨N, 0, none⟩ v0).setCell ⟨N, 1, none⟩ v1).setCell ⟨N, 2, none⟩ v2).setCell ⟨N, 3, none⟩ v3).setCell ⟨N, 4, none⟩ v4).heap[N]? = some (.cells #[v0, v1, v2, v3, v4, c5, c6, c7, c8, c9] t (0, 0)) := heap_setCell_same _ _ 4 _ _ _ q4
  have q6 : ((((((x.setCell ⟨N, 0, none⟩ v0).setCell ⟨N, 1, none⟩ v1).setCell ⟨N, 2, none⟩ v2).setCell ⟨N, 3, none⟩ v3).setCell ⟨N, 4, none⟩ v4).setCell ⟨N, 5, none⟩ v5).heap[N]? = some (.cells #[v0, v1, v2, v3, v4, v5, c6, c7, c8, c9] t (0, 0)) := heap_setCell_same _ _ 5 _ _ _ q5
  have q7 : (((((((x.setCell ⟨N, 0, none⟩ v0).setCell ⟨N, 1, none⟩ v1).setCell ⟨N, 2, none⟩ v2).setCell ⟨N, 3, none⟩ v3).setCell ⟨N, 4, none⟩ v4).setCell ⟨N, 5, none⟩ v5).setCell ⟨N, 6, none⟩ v6).heap[N]? = some (.cells #[v0, v1, v2, v3, v4, v5, v6, c7, c8, c9] t (0, 0)) := heap_setCell_same _ _ 6 _ _ _ q6
  have q8 : ((((((((x.setCell ⟨N, 0, none⟩ v0).setCell ⟨N, 1, none⟩ v1).setCell ⟨N, 2, none⟩ v2).setCell ⟨N, 3, none⟩ v3).setCell ⟨N, 4, none⟩ v4).setCell ⟨N, 5, none⟩ v5).setCell ⟨N, 6, none⟩ v6).setCell ⟨N, 7, none⟩ v7).heap[N]? = some (.cells #[v0, v1, v2, v3, v4, v5, v6, v7, c8, c9] t (0, 0)) := heap_setCell_same _ _ 7 _ _ _ q7
  have q9 : (((((((((x.setCell ⟨N, 0, none⟩ v0).setCell ⟨N, 1, none⟩ v1).setCell ⟨N, 2, none⟩ v2).setCell ⟨N, 3, none⟩ v3).setCell ⟨N, 4, none⟩ v4).setCell ⟨N, 5, none⟩ v5).setCell ⟨N, 6, none⟩ v6).setCell ⟨N, 7, none⟩ v7).setCell ⟨N, 8, none⟩ v8).heap[N]? = some (.cells #[v0, v1, v2, v3, v4, v5, v6, v7, v8, c9] t (0, 0)) := heap_setCell_same _ _ 8 _ _ _ q8
  have q10 : ((((((((((x.setCell ⟨N, 0, none⟩ v0).setCell ⟨N, 1, none⟩ v1).setCell ⟨N, 2, none⟩ v2).setCell ⟨N, 3, none⟩ v3).setCell ⟨N, 4, none⟩ v4).setCell ⟨N, 5, none⟩ v5).setCell ⟨N, 6, none⟩ v6).setCell ⟨N, 7, none⟩ v7).setCell ⟨N, 8, none⟩ v8).setCell ⟨N, 9, none⟩ v9).heap[N]? = some (.cells #[v0, v1, v2, v3, v4, v5, v6, v7, v8, v9] t (0, 0)) := heap_setCell_same _ _ 9 _ _ _ q9
  exact q10
theorem put10_grown (x : World) (N : Nat) (v0 v1 v2 v3 v4 v5 v6 v7 v8 v9 : Value) : x.grownBy (put10 x N v0 v1 v2 v3 v4 v5 v6 v7 v8 v9) (some N) :=
  grownBy_trans (grownBy_trans (grownBy_trans (grownBy_trans (grownBy_trans (grownBy_trans (grownBy_trans (grownBy_trans (grownBy_trans (grownBy_setCell _ ⟨N, 0, none⟩ _) (grownBy_setCell _ ⟨N, 1, none⟩ _)) (grownBy_setCell _ ⟨N, 2, none⟩ _)) (grownBy_setCell _ ⟨N, 3, none⟩ _)) (grownBy_setCell _ ⟨N, 4, none⟩ _)) (grownBy_setCell _ ⟨N, 5, none⟩ _)) (grownBy_setCell _ ⟨N, 6, none⟩ _)) (grownBy_setCell _ ⟨N, 7, none⟩ _)) (grownBy_setCell _ ⟨N, 8, none⟩ _)) (grownBy_setCell _ ⟨N, 9, none⟩ _)
theorem put10_below {B N : Nat} {w x : World} (hb : Below B w x) (hN : B ≤ N) (v0 v1 v2 v3 v4 v5 v6 v7 v8 v9 : Value) : Below B w (put10 x N v0 v1 v2 v3 v4 v5 v6 v7 v8 v9) := (((((((((hb.setCell hN v0).setCell hN v1).setCell hN v2).setCell hN v3).setCell hN v4).setCell hN v5).setCell hN v6).setCell hN v7).setCell hN v8).setCell hN v9
theorem ten_of {x : World} {N t : Nat} {v0 v1 v2 v3 v4 v5 v6 v7 v8 v9 : Value} (q : x.heap[N]? = some (.cells #[v0, v1, v2, v3, v4, v5, v6, v7, v8, v9] t (0, 0))) : (x.cell? ⟨N, 0, none⟩ = some v0 ∧ x.frozen? ⟨N, 0, none⟩ = false) ∧ (x.cell? ⟨N, 1, none⟩ = some v1 ∧ x.frozen? ⟨N, 1, none⟩ = false) ∧ (x.cell? ⟨N, 2, none⟩ = some v2 ∧ x.frozen? ⟨N, 2, none⟩ = false) ∧ (x.cell? ⟨N, 3, none⟩ = some v3 ∧ x.frozen? ⟨N, 3, none⟩ = false) ∧ (x.cell? ⟨N, 4, none⟩ = some v4 ∧ x.frozen? ⟨N, 4, none⟩ = false) ∧ (x.cell? ⟨N, 5, none⟩ = some v5 ∧ x.frozen? ⟨N, 5, none⟩ = false) ∧ (x.cell? ⟨N, 6, none⟩ = some v6 ∧ x.frozen? ⟨N, 6, none⟩ = false) ∧ (x.cell? ⟨N, 7, none⟩ = some v7 ∧ x.frozen? ⟨N, 7, none⟩ = false) ∧ (x.cell? ⟨N, 8, none⟩ = some v8 ∧ x.frozen? ⟨N, 8, none⟩ = false) ∧ (x.cell? ⟨N, 9, none⟩ = some v9 ∧ x.frozen? ⟨N, 9, none⟩ = false) :=
  ⟨⟨cell_of_row x N 0 _ _ _ q, frozen_block q 0⟩, ⟨cell_of_row x N 1 _ _ _ q, frozen_block q 1⟩, ⟨cell_of_row x N 2 _ _ _ q, frozen_block q 2⟩, ⟨cell_of_row x N 3 _ _ _ q, frozen_block q 3⟩, ⟨cell_of_row x N 4 _ _ _ q, frozen_block q 4⟩, ⟨cell_of_row x N 5 _ _ _ q, frozen_block q 5⟩, ⟨cell_of_row x N 6 _ _ _ q, frozen_block q 6⟩, ⟨cell_of_row x N 7 _ _ _ q, frozen_block q 7⟩, ⟨cell_of_row x N 8 _ _ _ q, frozen_block q 8⟩, ⟨cell_of_row x N 9 _ _ _ q, frozen_block q 9⟩⟩
theorem grown_then {w x y : World} {N B : Nat} (h : w.grownBy x (some N)) (hg : x.grownBy y (some B)) (hB : w.heap.size ≤ B) : w.grownBy y (some N) :=
  ⟨hg.os.trans h.os, hg.tape.trans h.tape, hg.output.trans h.output, Nat.le_trans h.size hg.size, fun k hk hne => (hg.block k (Nat.lt_of_lt_of_le hk h.size) (fun e => by cases e; omega)).trans (h.block k hk hne)⟩
theorem CR.other {w0 : World} {t N B : Nat} {s : Cu} {w w' : World} (h : CR w0 t N s w) (hg : w.grownBy w' (some B)) (hne : N ≠ B) (hl : Below w0.heap.size w0 w') : CR w0 t N s w' := by
  obtain ⟨ad, c, hr, hs⟩ := h.row
  exact ⟨⟨ad, c, grown_row hg hr hne, hs⟩, hl, h.nn, h.len⟩

theorem grownBy_setRowQ (w : World) (g : Nat) (cs : Array Value) : w.grownBy (w.setRow g cs) (some g) :=
  ⟨rfl, rfl, rfl, by simp, fun k _ hne => setRow_other w g k cs (fun e => hne (by rw [e]))⟩
/-- What is known between the statements: the note's own box B (ten cells), its payload, the cursor. -/
structure NS (w0 w1 : World) (t N A B : Nat) (s : Cu) (cs : List Value) (da : Option Addr) (dc : Nat) (D : List UInt8) (w : World) : Prop where
  row : w.heap[B]? = some (.cells cs.toArray 34 (0, 0))
  own : w.ownsRow (A + 1) 5 1 (.slice da D.length dc) D.length (bv D)
  cr : CR w0 t N s w
  gr : w1.grownBy w (some N)
  lt : A < B
  nb : N ≠ B
  w1B : w1.heap.size ≤ B
  w0A : w0.heap.size ≤ A
theorem NS.set {w0 w1 : World} {t N A B : Nat} {s : Cu} {cs : List Value} {da : Option Addr} {dc : Nat} {D : List UInt8} {w : World} (h : NS w0 w1 t N A B s cs da dc D w) (i : Nat) (v : Value) : NS w0 w1 t N A B s (cs.set i v) da dc D (w.setCell ⟨B, i, none⟩ v) := by
  have hg := grownBy_setCell w ⟨B, i, none⟩ v
  refine ⟨?_, owns_typed h.own h.row (by decide) hg, h.cr.other hg h.nb (h.cr.low.setCell ?_ _), grown_then h.gr hg h.w1B, h.lt, h.nb, h.w1B, h.w0A⟩
  · rw [heap_setCell_same w B i _ _ _ h.row]
    simp
  · exact Nat.le_trans h.w0A (Nat.le_of_lt h.lt)
theorem NS.call {w0 w1 : World} {t N A B : Nat} {s s' : Cu} {cs : List Value} {da : Option Addr} {dc : Nat} {D : List UInt8} {w w' : World} (h : NS w0 w1 t N A B s cs da dc D w) (hN : N < A + 1) (hg : w.grownBy w' (some N)) (hc : CR w0 t N s' w') : NS w0 w1 t N A B s' cs da dc D w' :=
  ⟨grown_row hg h.row (Ne.symm h.nb), owns_grown h.own hg (own_off h.own hN), hc, grownBy_trans h.gr hg, h.lt, h.nb, h.w1B, h.w0A⟩
theorem NS.below {w0 w1 : World} {t N A B : Nat} {s : Cu} {cs : List Value} {da : Option Addr} {dc : Nat} {D : List UInt8} {w w' : World} (h : NS w0 w1 t N A B s cs da dc D w) (hb : Below w.heap.size w w') : NS w0 w1 t N A B s cs da dc D w' :=
  ⟨row_on h.row hb, owns_below h.own hb, h.cr.below hb, grownBy_trans h.gr (grown_bel hb), h.lt, h.nb, h.w1B, h.w0A⟩

set_option maxRecDepth 100000 in
set_option maxHeartbeats 4000000 in
theorem nnote_any (t N : Nat) (s s1 s2 s3 s4 s5 s6 s7 s8 : Cu) (T1 D2 T4 : List UInt8) (x3 x5 x6 x7 x8 : Int) (h1 : textC s = (T1, s1)) (h2 : dataC s1 = (D2, s2)) (h3 : numC 1 s2 = (x3, s3)) (h4 : textC s3 = (T4, s4)) (h5 : numC 8 s4 = (x5, s5)) (h6 : numC 8 s5 = (x6, s6)) (h7 : numC 1 s6 = (x7, s7)) (h8 : numC 1 s7 = (x8, s8)) (L : List Pr) (used : Int) (cd : Nat) (h9 : readL 3 s8.b = (L, used, cd)) (hbl : s8.b.length ≤ 100000000) (w0 w : World) (h : CR w0 t N s w) (hT : Tabs w0) (R : Ending → World → Prop)
    (hR : ∀ da dc pa pc w', w'.ownsRow (w.heap.size + 1) 5 1 (.slice da D2.length dc) D2.length (bv D2) → PsO w' (w.heap.size + 1) (.slice pa L.length pc) L → CR w0 t N ⟨s8.b, s8.bad || (cd : Int) != 0 || used != (s8.b.length : Int)⟩ w' → w.grownBy w' (some N) → R (.returned (.agg #[Value.string (str T1), .slice da D2.length dc, .int .i64 (bits .and .i64 x3 3), .bool (bits .and .i64 x3 4 != 0), .string (str T4), .int .i64 x5, .slice pa L.length pc, .int .i64 x7, .int .i64 x6, .int .i64 x8])) w') :
    Calls Tryz.prog 166 #[.pointer (some ⟨N, 0, none⟩)] w R := by
  have H1 := Lib.hid h1
  have H2 := Lib.hid h2
  have H3 := Lib.hid h3
  have H4 := Lib.hid h4
  have H5 := Lib.hid h5
  have H6 := Lib.hid h6
  have H7 := Lib.hid h7
  have H8 := Lib.hid h8
  have H9 := Lib.hid h9
  have HBL := Lib.hid hbl
  have HW0 := Lib.hid (h.low.size)
  have HR := Lib.hid hR
  clear hR
  have HT := Lib.hid hT
  have hlt := h.lt
  obtain ⟨A, hA⟩ : ∃ A, w.heap.size = A := ⟨_, rfl⟩
  have hA1 := heap_alloc_new w (Obj.cells #[.string ⟨#[]⟩, .slice none 0 0, .int .i64 0, .bool false, .string ⟨#[]⟩, .int .i64 0, .slice none 0 0, .int .i64 0, .int .i64 0, .int .i64 0] 34)
  have hc1 := h.below ((Below.refl w.heap.size w).alloc (Nat.le_refl _) (Obj.cells #[.string ⟨#[]⟩, .slice none 0 0, .int .i64 0, .bool false, .string ⟨#[]⟩, .int .i64 0, .slice none 0 0, .int .i64 0, .int .i64 0, .int .i64 0] 34))
  have hg1 : w.grownBy (w.alloc (Obj.cells #[.string ⟨#[]⟩, .slice none 0 0, .int .i64 0, .bool false, .string ⟨#[]⟩, .int .i64 0, .slice none 0 0, .int .i64 0, .int .i64 0, .int .i64 0] 34)) (some N) := grown_bel ((Below.refl w.heap.size w).alloc (Nat.le_refl _) (Obj.cells #[.string ⟨#[]⟩, .slice none 0 0, .int .i64 0, .bool false, .string ⟨#[]⟩, .int .i64 0, .slice none 0 0, .int .i64 0, .int .i64 0, .int .i64 0] 34))
  have hz1 : (w.alloc (Obj.cells #[.string ⟨#[]⟩, .slice none 0 0, .int .i64 0, .bool false, .string ⟨#[]⟩, .int .i64 0, .slice none 0 0, .int .i64 0, .int .i64 0, .int .i64 0] 34)).heap.size = A + 1 := (alloc_size w _).symm.trans (by rw [hA])
  have HLT := Lib.hid hlt
  go_enter Tryz.func166, Tryz.ntmps166
  go_upto_region 1 with fail
  rw [hA] at hA1
  generalize w.alloc (Obj.cells #[.string ⟨#[]⟩, .slice none 0 0, .int .i64 0, .bool false, .string ⟨#[]⟩, .int .i64 0, .slice none 0 0, .int .i64 0, .int .i64 0, .int .i64 0] 34) = w1 at hA1 hc1 hg1 hz1 ⊢
  have hk0 : CR w0 t N s w1.drew := hc1.below ((Below.refl _ _).drew)
  have hs0 : A + 1 ≤ w1.drew.heap.size := Nat.le_of_eq hz1.symm
  have hg0 : w1.grownBy w1.drew (some N) := grown_bel ((Below.refl _ _).drew)
  have hx0 : True ∧ Below w1.drew.heap.size w1.drew (w1.alloc (Obj.cells #[.string ⟨#[]⟩, .slice none 0 0, .int .i64 0, .bool false, .string ⟨#[]⟩, .int .i64 0, .slice none 0 0, .int .i64 0, .int .i64 0, .int .i64 0] 34)).drew := And.intro trivial ((Below.refl w1.drew.heap.size w1.drew).alloc (Nat.le_refl _) _)
  have hne1 : w1.heap.size ≠ N := by rw [hz1]; omega
  have HNA : Hid (N < A) := by show _ < _; omega
  have hA1' : A < w1.heap.size := by omega
  have hp0 : (w1.alloc (Obj.cells #[.string ⟨#[]⟩, .slice none 0 0, .int .i64 0, .bool false, .string ⟨#[]⟩, .int .i64 0, .slice none 0 0, .int .i64 0, .int .i64 0, .int .i64 0] 34)).drew.heap[w1.heap.size]? = some (Obj.cells #[.string ⟨#[]⟩, .slice none 0 0, .int .i64 0, .bool false, .string ⟨#[]⟩, .int .i64 0, .slice none 0 0, .int .i64 0, .int .i64 0, .int .i64 0] 34) := heap_alloc_new w1 _
  have hg0a : w1.grownBy (w1.alloc (Obj.cells #[.string ⟨#[]⟩, .slice none 0 0, .int .i64 0, .bool false, .string ⟨#[]⟩, .int .i64 0, .slice none 0 0, .int .i64 0, .int .i64 0, .int .i64 0] 34)).drew (some N) := grown_bel (((Below.refl w1.heap.size w1).alloc (Nat.le_refl _) _).drew)
  have HZ1 := Lib.hid hz1
  have HA1 := Lib.hid hA1
  clear hA1 hc1 hz1 h1 h2 h3 h4 h5 h6 h7 h8 h9 hbl h hT
  go_cut [3] from 7 to 16 (fun s3 wx => ∃ (B : Nat) (da : Option Addr) (dc : Nat), s3 = .pointer (some ⟨B, 0, none⟩) ∧ Hid (wx.heap[B]? = some (.cells #[.string (str T1), .slice da D2.length dc, .int .i64 0, .bool false, .string ⟨#[]⟩, .int .i64 0, .slice none 0 0, .int .i64 0, .int .i64 0, .int .i64 0] 34 (0, 0))) ∧ Hid (wx.ownsRow (A + 1) 5 1 (.slice da D2.length dc) D2.length (bv D2)) ∧ Hid (CR w0 t N s2 wx) ∧ Hid (w1.grownBy wx (some N)) ∧ A < B)
  case first =>
    go_region_held3 (fun x => True)
      (trivial)
      (first
        | (go_at_call 151; refine ntext_any t N s T1 s1 H1.out w0 _ ?_ HT.out _ ?_; (first | with_reducible exact hk0 | with_reducible exact hk0.below hx0.2); intro w2 hc2 hg2; (first | (have hgg2 := grownBy_trans hg0 hg2) | (have hgg2 := grownBy_trans hg0a hg2; have hp2 := grown_row hg2 hp0 hne1)); have hx2 : True ∧ Below w2.heap.size w2 (w2.alloc (Obj.cells #[.string ⟨#[]⟩, .slice none 0 0, .int .i64 0, .bool false, .string ⟨#[]⟩, .int .i64 0, .slice none 0 0, .int .i64 0, .int .i64 0, .int .i64 0] 34)) := And.intro trivial ((Below.refl _ _).alloc (Nat.le_refl _) _); have hl2 : A < w2.heap.size := Nat.lt_of_lt_of_le hA1' hgg2.size)
        | (go_at_call 148; refine ndata_any t N s1 D2 s2 H2.out w0 _ ?_ _ ?_; (first | with_reducible exact hc2 | with_reducible exact hc2.below hx2.2); intro da dc w3 ho3 hc3 hg3; (first | (have hgg3 := grownBy_trans hgg2 hg3; (first | (have hp3 := grown_row hg3 hp2 hne1; obtain ⟨⟨z0, y0⟩, ⟨z1, y1⟩, ⟨z2, y2⟩, ⟨z3, y3⟩, ⟨z4, y4⟩, ⟨z5, y5⟩, ⟨z6, y6⟩, ⟨z7, y7⟩, ⟨z8, y8⟩, ⟨z9, y9⟩⟩ := ten_of hp3) | skip)) | (have hgg3 := grownBy_trans (grownBy_trans hgg2 (grown_bel hx2.2)) hg3; have hq3 := grown_row hg3 (heap_alloc_new w2 (Obj.cells #[.string ⟨#[]⟩, .slice none 0 0, .int .i64 0, .bool false, .string ⟨#[]⟩, .int .i64 0, .slice none 0 0, .int .i64 0, .int .i64 0, .int .i64 0] 34)) (Nat.ne_of_gt (Nat.lt_trans HNA.out hl2)); obtain ⟨⟨z0, y0⟩, ⟨z1, y1⟩, ⟨z2, y2⟩, ⟨z3, y3⟩, ⟨z4, y4⟩, ⟨z5, y5⟩, ⟨z6, y6⟩, ⟨z7, y7⟩, ⟨z8, y8⟩, ⟨z9, y9⟩⟩ := ten_of hq3))))
    · go_wp2_with fail
      go_meet
      have hb9 : Below w3.heap.size w3 (w3.alloc (Obj.cells #[.string (str T1), .slice da D2.length dc, .int .i64 0, .bool false, .string ⟨#[]⟩, .int .i64 0, .slice none 0 0, .int .i64 0, .int .i64 0, .int .i64 0] 34)) := (Below.refl _ _).alloc (Nat.le_refl _) _
      exact ⟨w3.heap.size, da, dc, rfl, Lib.hid (heap_alloc_new w3 _), Lib.hid (owns_mono (owns_below ho3 hb9) hl2), Lib.hid (hc3.below hb9), Lib.hid (grownBy_trans hgg3 (grown_bel hb9)), Nat.lt_of_lt_of_le hA1' hgg3.size⟩
    · go_wp2_with fail
      go_meet
      have hlt2 : w2.heap.size < (w2.alloc (Obj.cells #[.string ⟨#[]⟩, .slice none 0 0, .int .i64 0, .bool false, .string ⟨#[]⟩, .int .i64 0, .slice none 0 0, .int .i64 0, .int .i64 0, .int .i64 0] 34)).heap.size := Nat.lt_of_lt_of_le (Nat.lt_succ_self _) (Nat.le_of_eq (alloc_size w2 _))
      exact ⟨w2.heap.size, da, dc, rfl, Lib.hid (put10_row hq3 (.string (str T1)) (.slice da D2.length dc) (.int .i64 0) (.bool false) (.string ⟨#[]⟩) (.int .i64 0) (.slice none 0 0) (.int .i64 0) (.int .i64 0) (.int .i64 0)), Lib.hid (owns_mono (owns_grown ho3 (put10_grown w3 (w2.heap.size) (.string (str T1)) (.slice da D2.length dc) (.int .i64 0) (.bool false) (.string ⟨#[]⟩) (.int .i64 0) (.slice none 0 0) (.int .i64 0) (.int .i64 0) (.int .i64 0)) (own_off ho3 hlt2)) (Nat.le_trans hl2 (Nat.le_of_lt hlt2))), Lib.hid (hc3.other (put10_grown w3 (w2.heap.size) (.string (str T1)) (.slice da D2.length dc) (.int .i64 0) (.bool false) (.string ⟨#[]⟩) (.int .i64 0) (.slice none 0 0) (.int .i64 0) (.int .i64 0) (.int .i64 0)) (by have := HNA.out; have := HZ1.out; omega) (put10_below hc3.low (by have := HNA.out; have := HZ1.out; have := hc3.nn; omega) (.string (str T1)) (.slice da D2.length dc) (.int .i64 0) (.bool false) (.string ⟨#[]⟩) (.int .i64 0) (.slice none 0 0) (.int .i64 0) (.int .i64 0) (.int .i64 0))), Lib.hid (grown_then hgg3 (put10_grown w3 (w2.heap.size) (.string (str T1)) (.slice da D2.length dc) (.int .i64 0) (.bool false) (.string ⟨#[]⟩) (.int .i64 0) (.slice none 0 0) (.int .i64 0) (.int .i64 0) (.int .i64 0)) (by have := HZ1.out; omega)), by have := HZ1.out; omega⟩
    · go_wp2_with fail
      go_meet
      have hlt2 : w1.heap.size < w2.heap.size := (Array.getElem?_eq_some_iff.1 hp2).1
      exact ⟨w1.heap.size, da, dc, rfl, Lib.hid (put10_row hp3 (.string (str T1)) (.slice da D2.length dc) (.int .i64 0) (.bool false) (.string ⟨#[]⟩) (.int .i64 0) (.slice none 0 0) (.int .i64 0) (.int .i64 0) (.int .i64 0)), Lib.hid (owns_mono (owns_grown ho3 (put10_grown w3 (w1.heap.size) (.string (str T1)) (.slice da D2.length dc) (.int .i64 0) (.bool false) (.string ⟨#[]⟩) (.int .i64 0) (.slice none 0 0) (.int .i64 0) (.int .i64 0) (.int .i64 0)) (own_off ho3 hlt2)) hl2), Lib.hid (hc3.other (put10_grown w3 (w1.heap.size) (.string (str T1)) (.slice da D2.length dc) (.int .i64 0) (.bool false) (.string ⟨#[]⟩) (.int .i64 0) (.slice none 0 0) (.int .i64 0) (.int .i64 0) (.int .i64 0)) (by have := HNA.out; have := HZ1.out; omega) (put10_below hc3.low (by have := HNA.out; have := HZ1.out; have := hc3.nn; omega) (.string (str T1)) (.slice da D2.length dc) (.int .i64 0) (.bool false) (.string ⟨#[]⟩) (.int .i64 0) (.slice none 0 0) (.int .i64 0) (.int .i64 0) (.int .i64 0))), Lib.hid (grown_then hgg3 (put10_grown w3 (w1.heap.size) (.string (str T1)) (.slice da D2.length dc) (.int .i64 0) (.bool false) (.string ⟨#[]⟩) (.int .i64 0) (.slice none 0 0) (.int .i64 0) (.int .i64 0) (.int .i64 0)) (by have := HZ1.out; omega)), by have := HZ1.out; omega⟩
  obtain ⟨B, da, dc, rfl, HB4, HD4, HC4, HG4, hAB⟩ := hcut
  obtain ⟨w4, rfl⟩ : ∃ x, x = wc := ⟨_, rfl⟩
  have ns4 : NS w0 w1 t N A B s2 [Value.string (str T1), .slice da D2.length dc, .int .i64 0, .bool false, .string ⟨#[]⟩, .int .i64 0, .slice none 0 0, .int .i64 0, .int .i64 0, .int .i64 0] da dc D2 w4 := ⟨HB4.out, HD4.out, HC4.out, HG4.out, hAB, by have := HNA.out; omega, by have := HZ1.out; omega, by rw [← hA]; exact HW0.out⟩
  have NS4 := Lib.hid ns4
  have HN1 : Hid (N < A + 1) := Nat.lt_succ_of_lt HNA.out
  clear ns4 HB4 HD4 HC4 HG4 hk0 hs0 hg0 hx0 hp0 hg0a
  go_upto_region 3 with (first
    | (go_at_call 149; go_must (refine nmarks_any t N s2 x3 s3 H3.out w0 _ NS4.out.cr _ ?_); intro w5 hc5 hg5; have n5 := NS4.out.call HN1.out hg5 hc5; obtain ⟨⟨z0, y0⟩, ⟨z1, y1⟩, ⟨z2, y2⟩, ⟨z3, y3⟩, ⟨z4, y4⟩, ⟨z5, y5⟩, ⟨z6, y6⟩, ⟨z7, y7⟩, ⟨z8, y8⟩, ⟨z9, y9⟩⟩ := ten_of n5.row; have NS5 := Lib.hid n5; clear n5 hc5 hg5))
  have n6 : NS w0 w1 t N A B s3 [Value.string (str T1), .slice da D2.length dc, .int .i64 (bits .and .i64 x3 3), .bool (bits .and .i64 x3 4 != 0), .string ⟨#[]⟩, .int .i64 0, .slice none 0 0, .int .i64 0, .int .i64 0, .int .i64 0] da dc D2 ((w5.setCell ⟨B, 2, none⟩ (.int .i64 (bits .and .i64 x3 3))).setCell ⟨B, 3, none⟩ (.bool (bits .and .i64 x3 4 != 0))) := (NS5.out.set 2 (.int .i64 (bits .and .i64 x3 3))).set 3 (.bool (bits .and .i64 x3 4 != 0))
  generalize ((w5.setCell ⟨B, 2, none⟩ (.int .i64 (bits .and .i64 x3 3))).setCell ⟨B, 3, none⟩ (.bool (bits .and .i64 x3 4 != 0))) = w6 at n6 ⊢
  have NS6 := Lib.hid n6
  clear n6 z0 y0 z1 y1 z2 y2 z3 y3 z4 y4 z5 y5 z6 y6 z7 y7 z8 y8 z9 y9
  go_upto_region 4 with (first
    | (go_at_call 151; go_must (refine ntext_any t N s3 T4 s4 H4.out w0 _ NS6.out.cr HT.out _ ?_); intro w7 hc7 hg7; have n7 := NS6.out.call HN1.out hg7 hc7; obtain ⟨⟨z0, y0⟩, ⟨z1, y1⟩, ⟨z2, y2⟩, ⟨z3, y3⟩, ⟨z4, y4⟩, ⟨z5, y5⟩, ⟨z6, y6⟩, ⟨z7, y7⟩, ⟨z8, y8⟩, ⟨z9, y9⟩⟩ := ten_of n7.row; have NS7 := Lib.hid n7; clear n7 hc7 hg7))
  have n8 : NS w0 w1 t N A B s4 [Value.string (str T1), .slice da D2.length dc, .int .i64 (bits .and .i64 x3 3), .bool (bits .and .i64 x3 4 != 0), .string (str T4), .int .i64 0, .slice none 0 0, .int .i64 0, .int .i64 0, .int .i64 0] da dc D2 (w7.setCell ⟨B, 4, none⟩ (.string (str T4))) := NS7.out.set 4 (.string (str T4))
  generalize (w7.setCell ⟨B, 4, none⟩ (.string (str T4))) = w8 at n8 ⊢
  have n8d := n8.below (Below.refl w8.heap.size w8).drew
  clear z0 y0 z1 y1 z2 y2 z3 y3 z4 y4 z5 y5 z6 y6 z7 y7 z8 y8 z9 y9
  go_cut [] from 28 to 38 (fun wx => Hid (NS w0 w1 t N A B s6 [Value.string (str T1), .slice da D2.length dc, .int .i64 (bits .and .i64 x3 3), .bool (bits .and .i64 x3 4 != 0), .string (str T4), .int .i64 x5, .slice none 0 0, .int .i64 0, .int .i64 x6, .int .i64 0] da dc D2 wx))
  case first =>
    go_region_held3 (fun x => True)
      (trivial)
      (first
        | (have hq := n8; go_at_call 150; refine nnum_any t N 8 s4 x5 s5 H5.out (by decide) w0 _ n8d.cr _ ?_; intro w9 hc9 hg9; have n9 := n8d.call HN1.out hg9 hc9; clear hq n8 n8d hc9 hg9)
        | (have hq := n9; go_at_call 150; refine nnum_any t N 8 s5 x6 s6 H6.out (by decide) w0 _ n9.cr _ ?_; intro w10 hc10 hg10; have n10 := n9.call HN1.out hg10 hc10; obtain ⟨⟨z0, y0⟩, ⟨z1, y1⟩, ⟨z2, y2⟩, ⟨z3, y3⟩, ⟨z4, y4⟩, ⟨z5, y5⟩, ⟨z6, y6⟩, ⟨z7, y7⟩, ⟨z8, y8⟩, ⟨z9, y9⟩⟩ := ten_of n10.row; clear hq n9 hc10 hg10))
    all_goals
      go_wp2_with fail
      go_meet
      first
        | exact Lib.hid ((n10.set 5 (.int .i64 x5)).set 8 (.int .i64 x6))
        | exact Lib.hid ((n10.set 8 (.int .i64 x6)).set 5 (.int .i64 x5))
  obtain ⟨w11, rfl⟩ : ∃ x, x = wc := ⟨_, rfl⟩
  have n11d := hcut.out.below (Below.refl w11.heap.size w11).drew
  clear n8 n8d
  go_upto_region 5 with fail
  go_cut [] from 38 to 48 (fun wx => Hid (NS w0 w1 t N A B s8 [Value.string (str T1), .slice da D2.length dc, .int .i64 (bits .and .i64 x3 3), .bool (bits .and .i64 x3 4 != 0), .string (str T4), .int .i64 x5, .slice none 0 0, .int .i64 x7, .int .i64 x6, .int .i64 x8] da dc D2 wx))
  case first =>
    go_region_held3 (fun x => True)
      (trivial)
      (first
        | (have hq := hcut; go_at_call 150; refine nnum_any t N 1 s6 x7 s7 H7.out (by decide) w0 _ n11d.cr _ ?_; intro w12 hc12 hg12; have n12 := n11d.call HN1.out hg12 hc12; clear hq hcut n11d hc12 hg12)
        | (have hq := n12; go_at_call 150; refine nnum_any t N 1 s7 x8 s8 H8.out (by decide) w0 _ n12.cr _ ?_; intro w13 hc13 hg13; have n13 := n12.call HN1.out hg13 hc13; obtain ⟨⟨z0, y0⟩, ⟨z1, y1⟩, ⟨z2, y2⟩, ⟨z3, y3⟩, ⟨z4, y4⟩, ⟨z5, y5⟩, ⟨z6, y6⟩, ⟨z7, y7⟩, ⟨z8, y8⟩, ⟨z9, y9⟩⟩ := ten_of n13.row; clear hq n12 hc13 hg13))
    all_goals
      go_wp2_with fail
      go_meet
      first
        | exact Lib.hid ((n13.set 7 (.int .i64 x7)).set 9 (.int .i64 x8))
        | exact Lib.hid ((n13.set 9 (.int .i64 x8)).set 7 (.int .i64 x7))
  go_upto_region 6 with fail
  obtain ⟨w14, rfl⟩ : ∃ x, x = wc := ⟨_, rfl⟩
  have NS14 := hcut
  obtain ⟨la, lc, hlrow, hlbs⟩ := NS14.out.cr.row
  have k0 := cell_of_row w14 N 0 _ _ _ hlrow
  have HLB := Lib.hid (hlbs.below NS14.out.cr.low)
  clear hcut hlrow hlbs
  go_upto_region 7 with (first
    | (go_at_call 173; go_must (refine read_any 3 _ s8.b L used cd H9.out HBL.out _ HLB.out (HT.out.below NS14.out.cr.low) _ ?_); intro pa pc w15 hp15 hb15; have n15 := NS14.out.below hb15; have HP15 := Lib.hid hp15; have NS15 := Lib.hid n15; clear n15 hp15 hb15 k0))
  obtain ⟨y, hy⟩ : ∃ y, (s8.bad || (cd : Int) != 0 || used != (s8.b.length : Int)) = y := ⟨_, rfl⟩
  have HY := Lib.hid hy
  clear hy
  go_cut [] from 58 to 81 (fun wx => wx = w15.setCell ⟨N, 1, none⟩ (.bool y))
  case first =>
    obtain ⟨lb, ld, hrow15, _⟩ := NS15.out.cr.row
    have m0 := cell_of_row w15 N 0 _ _ _ hrow15
    have m1 : w15.cell? ⟨N, 1, none⟩ = some (.bool s8.bad) := cell_of_row w15 N 1 _ _ _ hrow15
    have f1 := frozen_block hrow15 1
    clear hrow15
    obtain ⟨b8, bad8⟩ := s8
    simp only at *
    cases bad8 with
    | true =>
      go_wp2_with fail
      go_meet
      rw [← HY.out]
      rfl
    | false =>
      by_cases hc : (cd : Int) = 0
      · have hc2 : ((cd : Int) != 0) = false := by rw [hc]; rfl
        go_wp2_with fail
        go_meet
        rw [← HY.out, hc2]
        first | rfl | (rw [Bool.false_or, Bool.false_or]) | simp
      · have hc2 : ((cd : Int) != 0) = true := bne_iff_ne.2 hc
        go_wp2_with fail
        go_meet
        rw [← HY.out, hc2]
        first | rfl | (rw [Bool.false_or, Bool.false_or]) | simp
  subst hcut
  have n16 := NS15.out.call HN1.out (grownBy_setCell w15 ⟨N, 1, none⟩ (.bool y)) (CR.mark NS15.out.cr y)
  have p16 := HP15.out.far (grownBy_setCell w15 ⟨N, 1, none⟩ (.bool y)) NS14.out.cr.lt
  generalize w15.setCell ⟨N, 1, none⟩ (.bool y) = w16 at n16 p16 ⊢
  obtain ⟨⟨z0, y0⟩, ⟨z1, y1⟩, ⟨z2, y2⟩, ⟨z3, y3⟩, ⟨z4, y4⟩, ⟨z5, y5⟩, ⟨z6, y6⟩, ⟨z7, y7⟩, ⟨z8, y8⟩, ⟨z9, y9⟩⟩ := ten_of n16.row
  go_upto_region 9 with fail
  have n17 : NS w0 w1 t N A B ⟨s8.b, y⟩ [Value.string (str T1), .slice da D2.length dc, .int .i64 (bits .and .i64 x3 3), .bool (bits .and .i64 x3 4 != 0), .string (str T4), .int .i64 x5, .slice pa L.length pc, .int .i64 x7, .int .i64 x6, .int .i64 x8] da dc D2 (w16.setCell ⟨B, 6, none⟩ (.slice pa L.length pc)) := n16.set 6 (.slice pa L.length pc)
  have p17 := p16.typed n16.row (by decide) (by decide) (grownBy_setCell w16 ⟨B, 6, none⟩ (.slice pa L.length pc))
  clear z0 y0 z1 y1 z2 y2 z3 y3 z4 y4 z5 y5 z6 y6 z7 y7 z8 y8 z9 y9 n16 p16
  generalize w16.setCell ⟨B, 6, none⟩ (.slice pa L.length pc) = w17 at n17 p17 ⊢
  obtain ⟨⟨z0, y0⟩, ⟨z1, y1⟩, ⟨z2, y2⟩, ⟨z3, y3⟩, ⟨z4, y4⟩, ⟨z5, y5⟩, ⟨z6, y6⟩, ⟨z7, y7⟩, ⟨z8, y8⟩, ⟨z9, y9⟩⟩ := ten_of n17.row
  have HA17 := Lib.hid (grown_row n17.gr HA1.out (Nat.ne_of_gt HNA.out))
  have NS17 := Lib.hid n17
  have HP17 := Lib.hid p17
  clear n17 p17
  go_wp2_with (first
    | (refine wpList_store_row (o := ⟨none, .store 34 (.tmp 2) (.tmp 83), _, _, _, _⟩) (by rfl) 34 (.tmp 2) (.tmp 83) (by rfl) A _ (by rfl) (by rfl) 34 _ HA17.out (by kernel_rfl) (by rfl) (by simp [Value.oneCell']) ?_))
  have hs18 := grownBy_setRowQ w17 A #[Value.string (str T1), .slice da D2.length dc, .int .i64 (bits .and .i64 x3 3), .bool (bits .and .i64 x3 4 != 0), .string (str T4), .int .i64 x5, .slice pa L.length pc, .int .i64 x7, .int .i64 x6, .int .i64 x8]
  have hcr := NS17.out.cr.other hs18 (by have := HNA.out; omega) (below_setRow NS17.out.cr.low NS17.out.w0A #[Value.string (str T1), .slice da D2.length dc, .int .i64 (bits .and .i64 x3 3), .bool (bits .and .i64 x3 4 != 0), .string (str T4), .int .i64 x5, .slice pa L.length pc, .int .i64 x7, .int .i64 x6, .int .i64 x8])
  have hps := ((HP17.out.mono (B' := A + 1) (by have := NS14.out.gr.size; have := HZ1.out; omega)).typed HA17.out (by decide) (by decide) hs18)
  have hown := owns_typed NS17.out.own HA17.out (by decide) hs18
  have hgr := grown_then (grownBy_trans hg1 NS17.out.gr) hs18 (Nat.le_of_eq hA)
  have hfin := HR.out da dc pa pc
  rw [hA, HY.out] at hfin
  have HF := Lib.hid (hfin _ hown hps hcr hgr)
  clear hfin hcr hps hown hgr hs18
  refine bodyPost_ret (results_cell_row rfl _ _ A 34 #[Value.string (str T1), .slice da D2.length dc, .int .i64 (bits .and .i64 x3 3), .bool (bits .and .i64 x3 4 != 0), .string (str T4), .int .i64 x5, .slice pa L.length pc, .int .i64 x7, .int .i64 x6, .int .i64 x8] (0, 0) _ rfl (setRow_heap w17 A _ _ _ _ HA17.out) Tryz.underlying34 rfl (by kernel_rfl)) rfl ?_
  exact HF.out
end Go.Proofs.YtgimbocoamnkjaaGreatDoor

/- bytes.Equal, prop.Only, note.kept, note.may: walked. -/
namespace Go.Proofs.YtgimbocoamnkjaaGreatDoor
open Go.RowKit

theorem equal_any (v u : Value) (l m : List UInt8) (w : World) (hv : Bs w v l) (hu : Bs w u m) (R : Ending → World → Prop)
    (hR : R (.returned (.bool (l == m))) w) : Calls Tryz.prog 53 #[v, u] w R := by
  obtain ⟨ad, c, rfl, _⟩ := id hv
  obtain ⟨ae, d, rfl, _⟩ := id hu
  have c1 := run_conv_bs (P := Tryz.prog) Tryz.underlying22 Tryz.underlying5 Tryz.underlying9 hv
  have c2 := run_conv_bs (P := Tryz.prog) Tryz.underlying22 Tryz.underlying5 Tryz.underlying9 hu
  obtain ⟨b, hb⟩ : ∃ b, (l == m) = b := ⟨_, rfl⟩
  rw [hb] at hR
  go_enter Tryz.func53, Tryz.ntmps53
  go_wp2
  exact hR

def onlyL (l : List Pr) (ids : List Int) : List Pr := l.filter fun p => ids.contains p.id
theorem onlyL_snoc (l : List Pr) (p : Pr) (ids : List Int) : onlyL (l ++ [p]) ids = onlyL l ids ++ if ids.contains p.id = true then [p] else [] := by
  unfold onlyL
  rw [List.filter_append]
  congr 1
  rw [List.filter_cons]
  split <;> rfl
theorem onlyL_len (l : List Pr) (ids : List Int) : (onlyL l ids).length ≤ l.length := List.length_filter_le _ _

set_option maxRecDepth 100000 in
set_option maxHeartbeats 2000000 in
theorem ponly_any (v : Value) (l : List Pr) (ids : List Int) (hm : ids.length ≤ 1000) (iw : Value) (w : World) (hi : Is w iw ids) (hv : Ps w v l) (hll : l.length ≤ 1000000) (R : Ending → World → Prop)
    (hR : ∀ ad cc w', PsO w' w.heap.size (.slice ad (onlyL l ids).length cc) (onlyL l ids) → Below w.heap.size w w' → R (.returned (.slice ad (onlyL l ids).length cc)) w') :
    Calls Tryz.prog 209 #[v, iw] w R := by
  have HR := Lib.hid hR
  have HV := Lib.hid hv
  have HI := Lib.hid hi
  obtain ⟨ia, c, rfl, _⟩ := id hi
  obtain ⟨va, vc, rfl, _⟩ := _root_.id hv
  clear hR hv hi
  go_enter Tryz.func209, Tryz.ntmps209
  go_wp2
  go_loopg [5, 7, 10] l.length (fun gn L _ i wr => ∃ (k : Nat) (o : List Pr) (oa : Option Addr) (oc : Nat), k ≤ l.length ∧ gn = l.length - k ∧ i = .int .i64 k ∧ L = .slice oa o.length oc ∧ Hid (o = onlyL (l.take k) ids) ∧ o.length ≤ k ∧ Hid (PsO wr w.heap.size (.slice oa o.length oc) o) ∧ Below w.heap.size w wr)
  case atStart => exact ⟨0, [], none, 0, Nat.zero_le _, by omega, rfl, rfl, Lib.hid rfl, Nat.le_refl _, Lib.hid (PsO.nil _ _), Below.refl _ _⟩
  case round =>
    obtain ⟨k, o, oa, oc, hk, rfl, rfl, rfl, HO, hok, HPS, hb⟩ := hrel
    obtain ⟨wo, rfl⟩ : ∃ y, y = wr := ⟨_, rfl⟩
    by_cases hlt : k < l.length
    · have hkk : (k : Int) < (l.length : Int) := by omega
      obtain ⟨va', vc', ee, _, _, _, v4⟩ := HV.out.below hb
      simp only [Value.slice.injEq] at ee
      obtain ⟨rfl, -, rfl⟩ := ee
      obtain ⟨vb, vo, rfl, v5⟩ := v4 (by omega)
      obtain ⟨d0, ⟨p0, p1, p2, p3, p4⟩, hec⟩ := v5 k hlt
      have HT1 : Hid (l.take (k + 1) = l.take k ++ [l[k]]) := Lib.hid (List.take_succ_eq_append_getElem hlt)
      obtain ⟨y, hy⟩ : ∃ y, l[k] = y := ⟨_, rfl⟩
      rw [hy] at p0 p1 p2 p3 hec HT1
      obtain ⟨d1, d3, rfl, _⟩ := _root_.id hec.hd
      have hyE : Below wo.heap.size wo (wo.alloc (Obj.cells #[.int .i64 y.id, .int .i64 y.num, .string (str y.text), .string (str y.pair), .slice d1 y.data.length d3] 147)) := (Below.refl _ _).alloc (Nat.le_refl _) _
      have HEC := Lib.hid (hec.below hyE)
      have hxE := below_tr hb hyE
      have HYE := Lib.hid hyE
      obtain ⟨z, hz⟩ : ∃ z, ids.contains y.id = z := ⟨_, rfl⟩
      have hO1 : onlyL (l.take (k + 1)) ids = o ++ (if z = true then [y] else []) := by rw [HT1.out, onlyL_snoc, ← HO.out, hz]
      have HO1 := Lib.hid hO1
      have HZ := Lib.hid hz
      clear v4 v5 hy hec hyE hz hO1
      cases z with
      | false =>
        go_wp2_with (go_at_call 105; go_must (refine contains_any _ ids y.id false HZ.out (by omega) _ (HI.out.below hxE) _ ?_))
        go_roundg (l.length - (k + 1))
        case measure => omega
        case rel => exact ⟨k + 1, o, oa, oc, by omega, rfl, by go_num, rfl, Lib.hid (by rw [HO1.out]; simp), by omega, Lib.hid (HPS.out.below HYE.out), hxE⟩
      | true =>
        obtain ⟨ds, hds, hrow, heach, hap⟩ := HPS.out
        have HDS := Lib.hid hds
        have HEACH := Lib.hid heach
        have HROW := Lib.hid hrow
        have HAP := Lib.hid hap
        clear heach hrow hap
        go_wp2_with (first
          | (go_at_call 105; go_must (refine contains_any _ ids y.id true HZ.out (by omega) _ (HI.out.below hxE) _ ?_))
          | (go_at_call 222; go_must (refine pcopied_any _ y _ HEC.out _ ?_); intro ca cc w5 hown5 hb5; have hy5 := below_tr HYE.out hb5; have hx5 := below_then hb hy5 hb.size; have hrow5 := owns_below HROW.out hy5; have hrd := rd_lit w5 #[.int .i64 y.id, .int .i64 y.num, .string (str y.text), .string (str y.pair), .slice ca y.data.length cc] 147 5 1 rfl; have hO5 := owns_mono (base' := wo.heap.size) hown5 HYE.out.size; clear hown5 hb5)
          | (at_builtin; go_must (refine wpList_app (by rfl) (.tmp 18) (.tmp 21) 32 (by rfl) w.heap.size 147 (.agg #[Value.int .i64 0, Value.int .i64 0, Value.string ⟨#[]⟩, Value.string ⟨#[]⟩, Value.slice none 0 0]) 5 72 Tryz.underlying32 Tryz.info147 rfl (by decide) _ _ _ _ rfl (World.ownsRow.alloc hrow5 _) _ _ _ _ rfl hrd (pc_oneCell _ _ _) (by simp) (by unfold maxLen; omega) (by omega) (Nat.le_trans hx5.size (by simp)) ?_)))
        intro ad6 c6 w6 hown6 hg6
        have hk6 : Keeps 5 w5 w6 := (Keeps.below ((Below.refl _ _).alloc (Nat.le_refl _) _)).trans (Keeps.grown5 (hrow5.alloc _) hg6 (by decide))
        have hbN : Below w.heap.size w w6 := below_app (hx5.alloc hx5.size _) hg6 (Nat.le_trans hx5.size (by simp)) (hrow5.alloc _)
        have hnew : ∀ v ∈ ds, Unlike v (.slice ca y.data.length cc) := by
          intro v hv k hk hc
          obtain ⟨i, hi, rfl⟩ := List.getElem_of_mem hv
          have h1 := ((HEACH.out i (by rw [← HDS.out]; exact hi)).lt k hk).2
          have h2 := (hO5.lt k hc).1
          omega
        have hPS6 : PsO w6 w.heap.size (.slice ad6 (o.length + 1) c6) (o ++ [y]) := PsO.push HDS.out (fun i hi => owns_below (HEACH.out i hi) hy5) hk6 hown6 (owns_mono hO5 hb.size) HAP.out hnew
        have HPS6 : Hid (PsO w6 w.heap.size (.slice ad6 (o ++ [y]).length c6) (o ++ [y])) := Lib.hid (by rw [List.length_append]; exact hPS6)
        clear hPS6 hnew hk6 hown6 hg6 hrow5 hrd hx5 hy5 hO5
        go_wp2
        go_roundg (l.length - (k + 1))
        case measure => omega
        case rel => exact ⟨k + 1, o ++ [y], ad6, c6, by omega, rfl, by go_num, by rw [List.length_append]; rfl, Lib.hid (by rw [HO1.out]; simp), by rw [List.length_append]; simp; omega, HPS6, hbN⟩
    · have hkk : ¬ (k : Int) < (l.length : Int) := by omega
      have hfull : onlyL l ids = o := by rw [HO.out, List.take_of_length_le (by omega)]
      have HF := Lib.hid hfull
      clear hfull
      go_wp2
      have h9 := HR.out oa oc _ (by rw [HF.out]; exact HPS.out) hb
      rw [HF.out] at h9
      exact h9

theorem five_is {w : World} {a b c d e : Int} : Is (w.alloc (Obj.cells #[Value.int .i64 a, Value.int .i64 b, Value.int .i64 c, Value.int .i64 d, Value.int .i64 e] 3)) (.slice (some ⟨w.heap.size, 0, none⟩) 5 5) [a, b, c, d, e] :=
  ⟨_, 5, rfl, rd_lit w #[Value.int .i64 a, Value.int .i64 b, Value.int .i64 c, Value.int .i64 d, Value.int .i64 e] 3 1 5 rfl, Nat.le_refl _, by decide, fun h => by cases h⟩

set_option maxRecDepth 100000 in
set_option maxHeartbeats 1000000 in
theorem kept_any (v : Value) (l : List Pr) (w : World) (hv : Ps w v l) (hll : l.length ≤ 1000000) (R : Ending → World → Prop)
    (hR : ∀ ad cc w', PsO w' w.heap.size (.slice ad (onlyL l [1, 3, 8, 9, 38]).length cc) (onlyL l [1, 3, 8, 9, 38]) → Below w.heap.size w w' → R (.returned (.slice ad (onlyL l [1, 3, 8, 9, 38]).length cc)) w') :
    Calls Tryz.prog 186 #[v] w R := by
  have HR := Lib.hid hR
  have hb0 : Below w.heap.size w (w.alloc (Obj.cells #[Value.int .i64 1, Value.int .i64 3, Value.int .i64 8, Value.int .i64 9, Value.int .i64 38] 3)) := (Below.refl _ _).alloc (Nat.le_refl _) _
  have HB0 := Lib.hid hb0
  have HV := Lib.hid (hv.below hb0)
  have HI := Lib.hid (five_is (w := w) (a := 1) (b := 3) (c := 8) (d := 9) (e := 38))
  obtain ⟨va, vc, rfl, _⟩ := id hv
  clear hR hb0 hv
  go_enter Tryz.func186, Tryz.ntmps186
  go_wp2_with (first
    | (go_at_call 209; go_must (refine ponly_any _ l [1, 3, 8, 9, 38] (by decide) _ _ HI.out HV.out hll _ ?_); intro oa oc w3 hp3 hb3; have HP3 := Lib.hid (hp3.mono HB0.out.size); have HB3 := Lib.hid (below_then HB0.out hb3 HB0.out.size); clear hp3 hb3))
  exact HR.out _ _ _ HP3.out HB3.out

/-- May such a message be (the good case)? -/
structure MayB (x : Nt) : Prop where
  q : x.qos < 3
  e0 : 0 ≤ x.expires
  e1 : x.expires ≤ 4611686018427387904
  n0 : 0 ≤ x.number
  n1 : x.number ≤ 4611686018427387904
  k : (onlyL x.props [1, 3, 8, 9, 38]).length = x.props.length

theorem myS {x : World} {T t : Nat} {fr : Nat × Nat} {a b c d e f g h i j : Value} (q : x.heap[T]? = some (.cells #[a, b, c, d, e, f, g, h, i, j] t fr)) : x.cell? ⟨T, 2, none⟩ = some c ∧ x.cell? ⟨T, 5, none⟩ = some f ∧ x.cell? ⟨T, 6, none⟩ = some g ∧ x.cell? ⟨T, 8, none⟩ = some i :=
  ⟨cell_of_row x T 2 _ _ _ q, cell_of_row x T 5 _ _ _ q, cell_of_row x T 6 _ _ _ q, cell_of_row x T 8 _ _ _ q⟩

set_option maxRecDepth 100000 in
set_option maxHeartbeats 2000000 in
theorem may_yes (x : Nt) (hm : MayB x) (pv qv : Value) (w : World) (hp : Bs w pv x.payload) (hq : Ps w qv x.props) (hll : x.props.length ≤ 1000000) (R : Ending → World → Prop)
    (hR : ∀ w', Below w.heap.size w w' → R (.returned (.bool true)) w') :
    Calls Tryz.prog 167 #[(Value.agg #[.string (str x.topic), pv, .int .i64 x.qos, .bool x.retain, .string (str x.src), .int .i64 x.expires, qv, .int .i64 x.origin, .int .i64 x.number, .int .i64 x.hops])] w R := by
  have HR := Lib.hid hR
  obtain ⟨qa, qc, rfl, _⟩ := id hq
  obtain ⟨pa, pc, rfl, _⟩ := id hp
  have n0 := heap_alloc_new w (Obj.cells #[.string (str x.topic), (.slice pa x.payload.length pc), .int .i64 x.qos, .bool x.retain, .string (str x.src), .int .i64 x.expires, (.slice qa x.props.length qc), .int .i64 x.origin, .int .i64 x.number, .int .i64 x.hops] 34)
  have hb0 : Below w.heap.size w (w.alloc (Obj.cells #[.string (str x.topic), (.slice pa x.payload.length pc), .int .i64 x.qos, .bool x.retain, .string (str x.src), .int .i64 x.expires, (.slice qa x.props.length qc), .int .i64 x.origin, .int .i64 x.number, .int .i64 x.hops] 34)) := (Below.refl _ _).alloc (Nat.le_refl _) _
  have HB0 := Lib.hid hb0
  have HQ := Lib.hid (hq.below hb0)
  have h1 := hm.q
  have h2 := hm.e0
  have h3 := hm.e1
  have h4 := hm.n0
  have h5 := hm.n1
  have HK := Lib.hid hm.k
  have N0 := Lib.hid n0
  clear hR hb0 hp hq hm
  go_enter Tryz.func167, Tryz.ntmps167
  go_upto_region 1 with fail
  generalize w.alloc (Obj.cells #[.string (str x.topic), (.slice pa x.payload.length pc), .int .i64 x.qos, .bool x.retain, .string (str x.src), .int .i64 x.expires, (.slice qa x.props.length qc), .int .i64 x.origin, .int .i64 x.number, .int .i64 x.hops] 34) = w1 at n0 HB0 HQ N0 ⊢
  obtain ⟨T, hT⟩ : ∃ T, w.heap.size = T := ⟨_, rfl⟩
  rw [hT] at n0 N0
  have hn0 := row_on n0 (Below.refl w1.heap.size w1).drew
  have hq0 := HQ.out.below (Below.refl w1.heap.size w1).drew
  have hb0 := below_then HB0.out (Below.refl w1.heap.size w1).drew HB0.out.size
  clear n0
  go_region_held3 (fun z => z.cell? ⟨T, 2, none⟩ = some (.int .i64 x.qos) ∧ z.cell? ⟨T, 5, none⟩ = some (.int .i64 x.expires) ∧ z.cell? ⟨T, 6, none⟩ = some (.slice qa x.props.length qc) ∧ z.cell? ⟨T, 8, none⟩ = some (.int .i64 x.number))
    (first | with_reducible exact myS hn0 | with_reducible exact myS hn3 | go_keep)
    (first
      | (go_at_call 186; refine kept_any _ x.props _ hq0 hll _ ?_; intro ka kc w3 hp3 hb3; have hn3 := row_on hn0 hb3; have HB3 := Lib.hid (below_then hb0 hb3 hb0.size); clear hp3 hb3))
  all_goals
    go_wp2_with fail
    have e : (((onlyL x.props [1, 3, 8, 9, 38]).length : Int) == (x.props.length : Int)) = true := by rw [HK.out]; simp
    show R (.returned (.bool (((onlyL x.props [1, 3, 8, 9, 38]).length : Int) == (x.props.length : Int)))) w3
    rw [e]
    exact HR.out _ HB3.out
end Go.Proofs.YtgimbocoamnkjaaGreatDoor
