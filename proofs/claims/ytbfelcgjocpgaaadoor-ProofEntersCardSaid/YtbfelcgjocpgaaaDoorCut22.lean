
import Derived.Test.YtbfelcgjocpgaaaDoorRCheck
namespace Go.Proofs.YtbfelcgjocpgaaaDoor
open Go.RowKit

set_option maxHeartbeats 800000 in
theorem cut22_any (k : IntKind) (m : Int) (bo : Bool) (ad : Option Addr) (c : Nat) (us ut : List (List UInt8 × List UInt8)) (ht : us.take 12 = ut) (w : World) (hu : Us w (.slice ad us.length c) us) (R : Ending → World → Prop)
    (hR : ∀ w', Below w.heap.size w w' → R (.returned (.agg #[.int k m, .bool bo, .slice ad ut.length c])) w') :
    Calls Tryd.prog 6 #[.agg #[.int k m, .bool bo, .slice ad us.length c]] w R := by
  have hu' := hu
  obtain ⟨ad', c', e, h1, h2, h3, h4⟩ := hu'
  simp only [Value.slice.injEq, true_and] at e
  obtain ⟨rfl, rfl⟩ := e
  clear h4
  by_cases hlt : 12 < us.length
  · have hl : ut.length = 12 := by rw [← ht, List.length_take]; omega
    rw [hl] at hR
    clear ht hl hu
    go_enter Tryd.func6, Tryd.ntmps6
    go_wp2
    have hn := heap_alloc_new (w.alloc (Obj.cells #[Value.int k m, Value.bool bo, Value.slice ad 12 c] 24)) (Obj.cells #[Value.int k m, Value.bool bo, Value.slice ad 12 c] 24)
    rw [show (w.alloc (Obj.cells #[Value.int k m, Value.bool bo, Value.slice ad 12 c] 24)).heap.size = w.heap.size + 1 by simp] at hn
    have hb2 := ((Below.refl w.heap.size w).alloc (Nat.le_refl _) (Obj.cells #[Value.int k m, Value.bool bo, Value.slice ad 12 c] 24)).alloc (by simp) (Obj.cells #[Value.int k m, Value.bool bo, Value.slice ad 12 c] 24)
    refine bodyPost_ret (results_cell_row rfl _ _ (w.heap.size + 1) 24 #[Value.int k m, Value.bool bo, Value.slice ad 12 c] (0, 0) _ rfl hn Tryd.underlying24 rfl (by kernel_rfl)) rfl ?_
    exact hR _ hb2
  · have hl : ut = us := by rw [← ht]; exact List.take_of_length_le (by omega)
    subst hl
    clear ht hu
    go_enter Tryd.func6, Tryd.ntmps6
    go_wp2
    have hn := heap_alloc_new (w.alloc (Obj.cells #[Value.int k m, Value.bool bo, Value.slice ad ut.length c] 24)) (Obj.cells #[Value.int k m, Value.bool bo, Value.slice ad ut.length c] 24)
    rw [show (w.alloc (Obj.cells #[Value.int k m, Value.bool bo, Value.slice ad ut.length c] 24)).heap.size = w.heap.size + 1 by simp] at hn
    have hb2 := ((Below.refl w.heap.size w).alloc (Nat.le_refl _) (Obj.cells #[Value.int k m, Value.bool bo, Value.slice ad ut.length c] 24)).alloc (by simp) (Obj.cells #[Value.int k m, Value.bool bo, Value.slice ad ut.length c] 24)
    refine bodyPost_ret (results_cell_row rfl _ _ (w.heap.size + 1) 24 #[Value.int k m, Value.bool bo, Value.slice ad ut.length c] (0, 0) _ rfl hn Tryd.underlying24 rfl (by kernel_rfl)) rfl ?_
    exact hR _ hb2
end Go.Proofs.YtbfelcgjocpgaaaDoor
