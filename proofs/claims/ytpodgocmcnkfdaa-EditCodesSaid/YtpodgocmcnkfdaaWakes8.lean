/- The statements' own check that something is computed (wakes): walked. -/
import Derived.Test.YtpodgocmcnkfdaaEAll
namespace Go.Proofs.Ytpodgocmcnkfdaa
open Go.RowKit

theorem bs_row1 {w : World} {g t : Nat} {fr : Nat × Nat} {b : UInt8} (h : w.heap[g]? = some (.cells #[.int .u8 (b.toNat : Int)] t fr)) : Bs w (.slice (some ⟨g, 0, none⟩) 1 1) [b] := by
  refine ⟨some ⟨g, 0, none⟩, 1, rfl, ⟨rfl, fun _ => ⟨g, 0, rfl, fun j hj => ?_⟩⟩, Nat.le_refl _, by omega, fun h => by cases h⟩
  obtain rfl : j = 0 := by simp at hj; omega
  exact cell_of_row w g 0 _ _ _ h
theorem is_row1 {w : World} {g t : Nat} {n : Int} (h : w.heap[g]? = some (.cells #[.int .i64 n] t (0, 0))) : Is w (.slice (some ⟨g, 0, none⟩) 1 1) [n] := by
  refine ⟨some ⟨g, 0, none⟩, 1, rfl, ⟨rfl, fun _ => ⟨g, 0, rfl, fun j hj => ?_⟩⟩, Nat.le_refl _, by omega, fun h => by cases h⟩
  obtain rfl : j = 0 := by simp at hj; omega
  exact cell_of_row w g 0 _ _ _ h
theorem is_none (w : World) : Is w (.slice none 0 0) [] := ⟨none, 0, rfl, Rd.nil _ _ _, Nat.le_refl _, by omega, fun _ => rfl⟩
theorem pls_none (w : World) : Pls w (.slice none 0 0) [] := ⟨none, 0, rfl, Nat.le_refl _, by omega, fun _ => rfl, fun h => by simp at h⟩
theorem pls_row1 {w : World} {g t : Nat} {x y : Value} {p : Pl} (h : w.heap[g]? = some (.cells #[.int .i64 p.num, .int .i64 p.level, .int .i64 p.count, x, y] t (0, 0))) (hp : PlC w x y p) : Pls w (.slice (some ⟨g, 0, none⟩) 1 1) [p] := by
  refine ⟨some ⟨g, 0, none⟩, 1, rfl, Nat.le_refl _, by omega, (fun h => by cases h), fun _ => ⟨g, 0, rfl, fun i hi => ?_⟩⟩
  obtain rfl : i = 0 := by simp at hi; omega
  exact ⟨x, y, pb_of_row h, hp⟩
theorem eds_row1 {w : World} {g t : Nat} {x y : Value} {e : Ed} (h : w.heap[g]? = some (.cells #[.int .i64 e.log, .int .i64 e.next, .int .i64 e.seq, x, y] t (0, 0))) (hp : EdC w x y e) : Eds w (.slice (some ⟨g, 0, none⟩) 1 1) [e] := by
  refine ⟨some ⟨g, 0, none⟩, 1, rfl, Nat.le_refl _, by omega, (fun h => by cases h), fun _ => ⟨g, 0, rfl, fun i hi => ?_⟩⟩
  obtain rfl : i = 0 := by simp at hi; omega
  exact ⟨x, y, pb_of_row h, hp⟩

def pW : Pl := ⟨3, 0, 5, [97], [99]⟩
def eW : Ed := ⟨1, 4, 9, [pW], []⟩
def eX : Ed := ⟨1, 4, 9, [], [3]⟩
theorem wake_all : allL vn0 [eW] = (⟨1, 4, 9, [pW]⟩, 0) := by rfl
theorem wake_apply : applyL ⟨1, 4, 9, [pW]⟩ ⟨1, 4, 9, [], [3]⟩ = (⟨1, 4, 9, []⟩, 0) := by rfl

set_option maxRecDepth 1000000 in
set_option maxHeartbeats 6400000 in
theorem wakes8_any (w : World) (R : Ending → World → Prop) (hR : ∀ w', Below w.heap.size w w' → R (.returned (.bool true)) w') :
    Calls Try.prog 16 #[] w R := by
  have HR := Lib.hid hR
  have kc := fun (w : World) (C : Array Value) (n c g : Nat) => run_conv_const (P := Try.prog) w 39 5 C n c g Try.underlying39 Try.underlying5
  clear hR
  go_enter Try.func16, Try.ntmps16
  go_wp2_with (go_at_call 18; fail)
  have hb4 : Below w.heap.size w ((((w.alloc (Obj.cells #[Value.int .u8 97] 5 (1, 2))).alloc (Obj.cells #[Value.int .u8 99] 5 (1, 2))).alloc (Obj.cells #[Value.int .i64 3, .int .i64 0, .int .i64 5, .slice (some ⟨w.heap.size, 0, none⟩) 1 1, .slice (some ⟨w.heap.size + 1, 0, none⟩) 1 1] 41)).alloc (Obj.cells #[Value.int .i64 1, .int .i64 4, .int .i64 9, .slice (some ⟨w.heap.size + 1 + 1, 0, none⟩) 1 1, .slice none 0 0] 27)) := ((((Below.refl w.heap.size w).alloc (Nat.le_refl _) _).alloc (by simp) _).alloc (by simp; omega) _).alloc (by simp; omega) _
  have m0 : ((((w.alloc (Obj.cells #[Value.int .u8 97] 5 (1, 2))).alloc (Obj.cells #[Value.int .u8 99] 5 (1, 2))).alloc (Obj.cells #[Value.int .i64 3, .int .i64 0, .int .i64 5, .slice (some ⟨w.heap.size, 0, none⟩) 1 1, .slice (some ⟨w.heap.size + 1, 0, none⟩) 1 1] 41)).alloc (Obj.cells #[Value.int .i64 1, .int .i64 4, .int .i64 9, .slice (some ⟨w.heap.size + 1 + 1, 0, none⟩) 1 1, .slice none 0 0] 27)).heap[w.heap.size]? = some (Obj.cells #[Value.int .u8 97] 5 (1, 2)) := block_alloc (block_alloc (block_alloc (heap_alloc_new w _)))
  have m1 : ((((w.alloc (Obj.cells #[Value.int .u8 97] 5 (1, 2))).alloc (Obj.cells #[Value.int .u8 99] 5 (1, 2))).alloc (Obj.cells #[Value.int .i64 3, .int .i64 0, .int .i64 5, .slice (some ⟨w.heap.size, 0, none⟩) 1 1, .slice (some ⟨w.heap.size + 1, 0, none⟩) 1 1] 41)).alloc (Obj.cells #[Value.int .i64 1, .int .i64 4, .int .i64 9, .slice (some ⟨w.heap.size + 1 + 1, 0, none⟩) 1 1, .slice none 0 0] 27)).heap[w.heap.size + 1]? = some (Obj.cells #[Value.int .u8 99] 5 (1, 2)) := by
    have h := heap_alloc_new (w.alloc (Obj.cells #[Value.int .u8 97] 5 (1, 2))) (Obj.cells #[Value.int .u8 99] 5 (1, 2))
    rw [show (w.alloc (Obj.cells #[Value.int .u8 97] 5 (1, 2))).heap.size = w.heap.size + 1 by simp] at h
    exact block_alloc (block_alloc h)
  have m2 : ((((w.alloc (Obj.cells #[Value.int .u8 97] 5 (1, 2))).alloc (Obj.cells #[Value.int .u8 99] 5 (1, 2))).alloc (Obj.cells #[Value.int .i64 3, .int .i64 0, .int .i64 5, .slice (some ⟨w.heap.size, 0, none⟩) 1 1, .slice (some ⟨w.heap.size + 1, 0, none⟩) 1 1] 41)).alloc (Obj.cells #[Value.int .i64 1, .int .i64 4, .int .i64 9, .slice (some ⟨w.heap.size + 1 + 1, 0, none⟩) 1 1, .slice none 0 0] 27)).heap[w.heap.size + 1 + 1]? = some (Obj.cells #[Value.int .i64 3, .int .i64 0, .int .i64 5, .slice (some ⟨w.heap.size, 0, none⟩) 1 1, .slice (some ⟨w.heap.size + 1, 0, none⟩) 1 1] 41) := by
    have h := heap_alloc_new ((w.alloc (Obj.cells #[Value.int .u8 97] 5 (1, 2))).alloc (Obj.cells #[Value.int .u8 99] 5 (1, 2))) (Obj.cells #[Value.int .i64 3, .int .i64 0, .int .i64 5, .slice (some ⟨w.heap.size, 0, none⟩) 1 1, .slice (some ⟨w.heap.size + 1, 0, none⟩) 1 1] 41)
    rw [show ((w.alloc (Obj.cells #[Value.int .u8 97] 5 (1, 2))).alloc (Obj.cells #[Value.int .u8 99] 5 (1, 2))).heap.size = w.heap.size + 1 + 1 by simp] at h
    exact block_alloc h
  have m3 : ((((w.alloc (Obj.cells #[Value.int .u8 97] 5 (1, 2))).alloc (Obj.cells #[Value.int .u8 99] 5 (1, 2))).alloc (Obj.cells #[Value.int .i64 3, .int .i64 0, .int .i64 5, .slice (some ⟨w.heap.size, 0, none⟩) 1 1, .slice (some ⟨w.heap.size + 1, 0, none⟩) 1 1] 41)).alloc (Obj.cells #[Value.int .i64 1, .int .i64 4, .int .i64 9, .slice (some ⟨w.heap.size + 1 + 1, 0, none⟩) 1 1, .slice none 0 0] 27)).heap[w.heap.size + 1 + 1 + 1]? = some (Obj.cells #[Value.int .i64 1, .int .i64 4, .int .i64 9, .slice (some ⟨w.heap.size + 1 + 1, 0, none⟩) 1 1, .slice none 0 0] 27) := by
    have h := heap_alloc_new (((w.alloc (Obj.cells #[Value.int .u8 97] 5 (1, 2))).alloc (Obj.cells #[Value.int .u8 99] 5 (1, 2))).alloc (Obj.cells #[Value.int .i64 3, .int .i64 0, .int .i64 5, .slice (some ⟨w.heap.size, 0, none⟩) 1 1, .slice (some ⟨w.heap.size + 1, 0, none⟩) 1 1] 41)) (Obj.cells #[Value.int .i64 1, .int .i64 4, .int .i64 9, .slice (some ⟨w.heap.size + 1 + 1, 0, none⟩) 1 1, .slice none 0 0] 27)
    rw [show (((w.alloc (Obj.cells #[Value.int .u8 97] 5 (1, 2))).alloc (Obj.cells #[Value.int .u8 99] 5 (1, 2))).alloc (Obj.cells #[Value.int .i64 3, .int .i64 0, .int .i64 5, .slice (some ⟨w.heap.size, 0, none⟩) 1 1, .slice (some ⟨w.heap.size + 1, 0, none⟩) 1 1] 41)).heap.size = w.heap.size + 1 + 1 + 1 by simp] at h
    exact h
  have hpl : Pls ((((w.alloc (Obj.cells #[Value.int .u8 97] 5 (1, 2))).alloc (Obj.cells #[Value.int .u8 99] 5 (1, 2))).alloc (Obj.cells #[Value.int .i64 3, .int .i64 0, .int .i64 5, .slice (some ⟨w.heap.size, 0, none⟩) 1 1, .slice (some ⟨w.heap.size + 1, 0, none⟩) 1 1] 41)).alloc (Obj.cells #[Value.int .i64 1, .int .i64 4, .int .i64 9, .slice (some ⟨w.heap.size + 1 + 1, 0, none⟩) 1 1, .slice none 0 0] 27)) (.slice (some ⟨w.heap.size + 1 + 1, 0, none⟩) 1 1) [pW] := pls_row1 (p := pW) m2 ⟨bs_row1 (b := 97) m0, bs_row1 (b := 99) m1, ⟨by decide, by decide, by decide, by decide, by decide, by decide, by decide, by decide⟩⟩
  have hed : Eds ((((w.alloc (Obj.cells #[Value.int .u8 97] 5 (1, 2))).alloc (Obj.cells #[Value.int .u8 99] 5 (1, 2))).alloc (Obj.cells #[Value.int .i64 3, .int .i64 0, .int .i64 5, .slice (some ⟨w.heap.size, 0, none⟩) 1 1, .slice (some ⟨w.heap.size + 1, 0, none⟩) 1 1] 41)).alloc (Obj.cells #[Value.int .i64 1, .int .i64 4, .int .i64 9, .slice (some ⟨w.heap.size + 1 + 1, 0, none⟩) 1 1, .slice none 0 0] 27)) (.slice (some ⟨w.heap.size + 1 + 1 + 1, 0, none⟩) 1 1) [eW] := eds_row1 (e := eW) m3 ⟨hpl, is_none _, fun n hn => by cases hn⟩
  have hsm : SmallE [eW] := fun e he => by rw [List.mem_singleton.1 he]; exact ⟨by decide, by decide⟩
  generalize ((((w.alloc (Obj.cells #[Value.int .u8 97] 5 (1, 2))).alloc (Obj.cells #[Value.int .u8 99] 5 (1, 2))).alloc (Obj.cells #[Value.int .i64 3, .int .i64 0, .int .i64 5, .slice (some ⟨w.heap.size, 0, none⟩) 1 1, .slice (some ⟨w.heap.size + 1, 0, none⟩) 1 1] 41)).alloc (Obj.cells #[Value.int .i64 1, .int .i64 4, .int .i64 9, .slice (some ⟨w.heap.size + 1 + 1, 0, none⟩) 1 1, .slice none 0 0] 27)) = w4 at hb4 hed ⊢
  have HB4 := Lib.hid hb4
  clear m0 m1 m2 m3 hpl hb4 kc
  refine eall_any _ [eW] _ 0 wake_all hsm (by decide) _ hed _ ?_
  intro xv w5 hps hb5
  obtain ⟨xa, xc, hxv⟩ : ∃ xa xc, xv = .slice xa 1 xc := hps.shape
  subst hxv
  have HB5 := Lib.hid (below_then HB4.out hb5 HB4.out.size)
  have hx6 : Below w5.heap.size w5 ((w5.alloc (Obj.cells #[Value.int .i64 1, .int .i64 4, .int .i64 9, .slice xa 1 xc] 24)).alloc (Obj.cells #[Value.int .i64 3] 3)) := ((Below.refl w5.heap.size w5).alloc (Nat.le_refl _) _).alloc (by simp) _
  have n1 : ((w5.alloc (Obj.cells #[Value.int .i64 1, .int .i64 4, .int .i64 9, .slice xa 1 xc] 24)).alloc (Obj.cells #[Value.int .i64 3] 3)).heap[w5.heap.size + 1]? = some (Obj.cells #[Value.int .i64 3] 3) := by
    have h := heap_alloc_new (w5.alloc (Obj.cells #[Value.int .i64 1, .int .i64 4, .int .i64 9, .slice xa 1 xc] 24)) (Obj.cells #[Value.int .i64 3] 3)
    rw [show (w5.alloc (Obj.cells #[Value.int .i64 1, .int .i64 4, .int .i64 9, .slice xa 1 xc] 24)).heap.size = w5.heap.size + 1 by simp] at h
    exact h
  have n0 : ((w5.alloc (Obj.cells #[Value.int .i64 1, .int .i64 4, .int .i64 9, .slice xa 1 xc] 24)).alloc (Obj.cells #[Value.int .i64 3] 3)).heap[w5.heap.size]? = some (Obj.cells #[Value.int .i64 1, .int .i64 4, .int .i64 9, .slice xa 1 xc] 24) := block_alloc (heap_alloc_new w5 _)
  have HPL := Lib.hid (hps.pls.below hx6)
  have HIS := Lib.hid (is_row1 n1)
  have HX6 := Lib.hid hx6
  have N0 := Lib.hid n0
  clear hps hb5 hed hx6 n0 n1
  go_wp2_with (go_at_call 10; fail)
  refine eapply_any 1 4 9 1 4 9 _ _ _ [pW] [] [3] _ 0 wake_apply (by decide) (by decide) (by decide) (fun n hn => by rw [List.mem_singleton.1 hn]; decide) _ HPL.out (pls_none _) HIS.out _ ?_
  intro yv w7 hps hb7
  obtain ⟨ya, yc, hyv⟩ : ∃ ya yc, yv = .slice ya 0 yc := hps.shape
  subst hyv
  have hn7 := block_alloc (o' := (Obj.cells #[Value.int .i64 1, .int .i64 4, .int .i64 9, .slice ya 0 yc] 24)) (row_on N0.out hb7)
  have c1 := cell_of_row _ w5.heap.size 1 _ _ _ hn7
  have c3 := cell_of_row _ w5.heap.size 3 _ _ _ hn7
  have hn8 := heap_alloc_new w7 (Obj.cells #[Value.int .i64 1, .int .i64 4, .int .i64 9, .slice ya 0 yc] 24)
  have d2 := cell_of_row _ w7.heap.size 2 _ _ _ hn8
  have d3 := cell_of_row _ w7.heap.size 3 _ _ _ hn8
  have hbf := (below_then (below_then HB5.out HX6.out HB5.out.size) hb7 (Nat.le_trans HB5.out.size HX6.out.size)).alloc (Nat.le_trans HB5.out.size (Nat.le_trans HX6.out.size hb7.size)) (Obj.cells #[Value.int .i64 1, .int .i64 4, .int .i64 9, .slice ya 0 yc] 24)
  have HBF := Lib.hid hbf
  clear hps hb7 hbf hn7 hn8
  go_wp2_with (go_at_call 12; go_must (refine num8_any 0 _ _ ?_))
  all_goals exact HR.out _ HBF.out
end Go.Proofs.Ytpodgocmcnkfdaa
