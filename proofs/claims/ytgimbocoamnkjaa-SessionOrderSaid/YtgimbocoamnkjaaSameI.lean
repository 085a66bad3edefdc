/- The document's SameItem at an item and its like, walked. -/
import Derived.Test.YtgimbocoamnkjaaItem
import Derived.Test.YtgimbocoamnkjaaRefS
namespace Go.Proofs.Ytgimbocoamnkjaa
open Go.RowKit

set_option maxRecDepth 100000 in
set_option maxHeartbeats 4000000 in
theorem rsamen_any (x : Nt) (pv qv pu qu : Value) (w : World) (hp : Bs w pv x.payload) (hq : Ps w qv x.props) (hp2 : Bs w pu x.payload) (hq2 : Ps w qu x.props) (R : Ending → World → Prop)
    (hR : ∀ w', Below w.heap.size w w' → R (.returned (.bool true)) w') :
    Calls Try.prog 28 #[.agg #[.string (str x.topic), pv, .int .i64 x.qos, .bool x.retain, .string (str x.src), .int .i64 x.expires, qv, .int .i64 x.origin, .int .i64 x.number, .int .i64 x.hops], .agg #[.string (str x.topic), pu, .int .i64 x.qos, .bool x.retain, .string (str x.src), .int .i64 x.expires, qu, .int .i64 x.origin, .int .i64 x.number, .int .i64 x.hops]] w R := by
  obtain ⟨topic, payload, qos, retain, src, expires, props, origin, number, hops⟩ := x
  simp only at *
  obtain ⟨O0, hO0⟩ : ∃ o, (Obj.cells #[.string (str topic), pv, .int .i64 qos, .bool retain, .string (str src), .int .i64 expires, qv, .int .i64 origin, .int .i64 number, .int .i64 hops] 42) = o := ⟨_, rfl⟩
  obtain ⟨O1, hO1⟩ : ∃ o, (Obj.cells #[.string (str topic), pu, .int .i64 qos, .bool retain, .string (str src), .int .i64 expires, qu, .int .i64 origin, .int .i64 number, .int .i64 hops] 42) = o := ⟨_, rfl⟩
  have hb0 : Below w.heap.size w ((w.alloc O0).alloc O1) := ((Below.refl _ _).alloc (Nat.le_refl _) _).alloc (by simp) _
  have n0 := block_alloc (o' := O1) (heap_alloc_new w O0)
  have n1 := heap_alloc_new (w.alloc O0) O1
  rw [show (w.alloc O0).heap.size = w.heap.size + 1 by simp] at n1
  have HB0 := Lib.hid hb0
  have N0 := Lib.hid n0
  have N1 := Lib.hid n1
  rw [← hO0, ← hO1] at HB0 N0 N1
  clear hb0 n0 n1 hO0 hO1
  have k1 := run_conv_bs (P := Try.prog) Try.underlying26 Try.underlying5 Try.underlying9 (hp.below HB0.out)
  have k2 := run_conv_bs (P := Try.prog) Try.underlying26 Try.underlying5 Try.underlying9 (hp2.below HB0.out)
  have HR := Lib.hid hR
  have HQ := Lib.hid (hq.below HB0.out)
  have HQ2 := Lib.hid (hq2.below HB0.out)
  have hsr : Hid (sameR props props = true) := decide_eq_true rfl
  clear hp hq hp2 hq2 hR
  go_enter Try.func28, Try.ntmps28
  go_wp2_with (first
    | (go_at_call 37; go_must (refine rsame_any _ _ props props true hsr.out _ HQ.out HQ2.out _ ?_); intro w3 hb3; have r0 := row_on N0.out hb3; have r1 := row_on N1.out hb3; have c7 := cell_of_row w3 _ 7 _ _ _ r0; have c8 := cell_of_row w3 _ 8 _ _ _ r0; have c9 := cell_of_row w3 _ 9 _ _ _ r0; have d7 := cell_of_row w3 _ 7 _ _ _ r1; have d8 := cell_of_row w3 _ 8 _ _ _ r1; have d9 := cell_of_row w3 _ 9 _ _ _ r1))
  all_goals exact HR.out _ (below_then HB0.out hb3 HB0.out.size)

set_option maxRecDepth 100000 in
set_option maxHeartbeats 4000000 in
theorem rsamei_any (x : Im) (pv qv ev pu qu eu : Value) (w : World) (h : ImC w pv qv ev x) (h2 : ImC w pu qu eu x) (R : Ending → World → Prop)
    (hR : ∀ w', Below w.heap.size w w' → R (.returned (.bool true)) w') :
    Calls Try.prog 16 #[(Value.agg #[.string (str x.note.topic), pv, .int .i64 x.note.qos, .bool x.note.retain, .string (str x.note.src), .int .i64 x.note.expires, qv, .int .i64 x.note.origin, .int .i64 x.note.number, .int .i64 x.note.hops, .int .i64 x.qos, .bool x.keep, ev, .string (str x.share)]), (Value.agg #[.string (str x.note.topic), pu, .int .i64 x.note.qos, .bool x.note.retain, .string (str x.note.src), .int .i64 x.note.expires, qu, .int .i64 x.note.origin, .int .i64 x.note.number, .int .i64 x.note.hops, .int .i64 x.qos, .bool x.keep, eu, .string (str x.share)])] w R := by
  have HR := Lib.hid hR
  have HC := Lib.hid h
  have HC2 := Lib.hid h2
  obtain ⟨⟨pa, pc, rfl⟩, ⟨qa, qc, rfl⟩, ea, ec, rfl⟩ := h.shape
  obtain ⟨⟨pa2, pc2, rfl⟩, ⟨qa2, qc2, rfl⟩, ea2, ec2, rfl⟩ := h2.shape
  obtain ⟨⟨topic, payload, nqos, retain, src, expires, props, origin, number, hops⟩, qos, keep, ids, share⟩ := x
  simp only at *
  clear hR h h2
  obtain ⟨O0, hO0⟩ : ∃ o, (Obj.cells #[.string (str topic), .slice pa payload.length pc, .int .i64 nqos, .bool retain, .string (str src), .int .i64 expires, .slice qa props.length qc, .int .i64 origin, .int .i64 number, .int .i64 hops, .int .i64 qos, .bool keep, .slice ea ids.length ec, .string (str share)] 44) = o := ⟨_, rfl⟩
  obtain ⟨O1, hO1⟩ : ∃ o, (Obj.cells #[.string (str topic), .slice pa2 payload.length pc2, .int .i64 nqos, .bool retain, .string (str src), .int .i64 expires, .slice qa2 props.length qc2, .int .i64 origin, .int .i64 number, .int .i64 hops, .int .i64 qos, .bool keep, .slice ea2 ids.length ec2, .string (str share)] 44) = o := ⟨_, rfl⟩
  have hb1 : Below w.heap.size w ((w.alloc O0).alloc O1) := ((Below.refl _ _).alloc (Nat.le_refl _) _).alloc (by simp) _
  have n0 := block_alloc (o' := O1) (heap_alloc_new w O0)
  have n1 := heap_alloc_new (w.alloc O0) O1
  rw [show (w.alloc O0).heap.size = w.heap.size + 1 by simp] at n1
  have HB1 := Lib.hid hb1
  have N0 := Lib.hid n0
  have N1 := Lib.hid n1
  rw [← hO0, ← hO1] at HB1 N0 N1
  clear hb1 n0 n1 hO0 hO1
  have HA := Lib.hid (HC.out.below HB1.out)
  have HA2 := Lib.hid (HC2.out.below HB1.out)
  go_enter Try.func16, Try.ntmps16
  go_wp2_with (first
    | (go_at_call 28; go_must (refine rsamen_any ⟨topic, payload, nqos, retain, src, expires, props, origin, number, hops⟩ _ _ _ _ _ HA.out.p HA.out.q HA2.out.p HA2.out.q _ ?_); intro w3 hb3; have r0 := row_on N0.out hb3; have r1 := row_on N1.out hb3; have c10 := cell_of_row w3 _ 10 _ _ _ r0; have c11 := cell_of_row w3 _ 11 _ _ _ r0; have c12 := cell_of_row w3 _ 12 _ _ _ r0; have c13 := cell_of_row w3 _ 13 _ _ _ r0; have d10 := cell_of_row w3 _ 10 _ _ _ r1; have d11 := cell_of_row w3 _ 11 _ _ _ r1; have d12 := cell_of_row w3 _ 12 _ _ _ r1; have d13 := cell_of_row w3 _ 13 _ _ _ r1; have HB3 := Lib.hid hb3; have HR0 := Lib.hid r0; have HR1 := Lib.hid r1; clear hb3 r0 r1))
  go_loopg [5] ids.length (fun gn i wr => ∃ k : Nat, k ≤ ids.length ∧ gn = ids.length - k ∧ i = .int .i64 k ∧ Hid (Below w3.heap.size w3 wr))
  case atStart => exact ⟨0, Nat.zero_le _, by omega, rfl, Lib.hid (Below.refl _ _)⟩
  case round =>
    obtain ⟨k, hk, rfl, rfl, HB⟩ := hrel
    obtain ⟨wo, rfl⟩ : ∃ x, x = wr := ⟨_, rfl⟩
    clear c10 c11 c12 c13 d10 d11 d12 d13
    have HBW : Hid (Below w.heap.size w wo) := below_then (below_then HB1.out HB3.out HB1.out.size) HB.out (below_then HB1.out HB3.out HB1.out.size).size
    have c12 := cell_of_row wo _ 12 _ _ _ (row_on HR0.out HB.out)
    have d12 := cell_of_row wo _ 12 _ _ _ (row_on HR1.out HB.out)
    have hil := HC.out.i.len
    by_cases hlt : k < ids.length
    · have hkk : (k : Int) < (ids.length : Int) := by omega
      obtain ⟨g, o, hia, hxc⟩ := (HC.out.i.below HBW.out).at k hlt
      obtain ⟨g2, o2, hia2, hxc2⟩ := (HC2.out.i.below HBW.out).at k hlt
      subst hia
      subst hia2
      obtain ⟨x, hx⟩ : ∃ x, ids[k] = x := ⟨_, rfl⟩
      rw [hx] at hxc hxc2
      have hne : (x != x) = false := by simp
      have c12d : wo.drew.cell? ⟨w.heap.size, 12, none⟩ = _ := c12
      have d12d : wo.drew.cell? ⟨w.heap.size + 1, 12, none⟩ = _ := d12
      have hxcd : wo.drew.cell? ⟨g, o + k, none⟩ = _ := hxc
      have hxc2d : wo.drew.cell? ⟨g2, o2 + k, none⟩ = _ := hxc2
      clear hx
      go_wp2_with fail
      go_region
      all_goals go_wp2_with fail
      go_roundg (ids.length - (k + 1))
      case measure => omega
      case rel => exact ⟨k + 1, by omega, rfl, by go_num, Lib.hid HB.out.drew⟩
    · have hkk : ¬ (k : Int) < (ids.length : Int) := by omega
      go_wp2
      exact HR.out _ HBW.out
end Go.Proofs.Ytgimbocoamnkjaa
