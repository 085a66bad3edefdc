/- A property's value read: whether its number fits. -/
import Derived.Test.YtgimbocoamnkjaaGreatDoorM08
namespace Go.Proofs.YtgimbocoamnkjaaGreatDoor
open Go.RowKit

theorem mul1 (n : Nat) : n * 1 = n := Nat.mul_one n

set_option maxRecDepth 100000 in
set_option maxHeartbeats 800000 in
theorem fits_any (d : Value) (p : Pr) (r : Bool) (hr : decide (numL p = 0) = r) (w : World) (R : Ending → World → Prop)
    (hR : ∀ w', Below w.heap.size w w' → R (.returned (.bool r)) w') :
    Calls Tryz.prog 215 #[.agg #[.int .i64 p.id, .int .i64 p.num, .string (str p.text), .string (str p.pair), d]] w R := by
  obtain ⟨id, n, t, q, dd⟩ := p
  have HR := Lib.hid hR
  clear hR
  have hbA := (Below.refl w.heap.size w).alloc (Nat.le_refl _) (Obj.cells #[.int .i64 id, .int .i64 n, .string (str t), .string (str q), d] 147)
  simp only at *
  by_cases hid : id = 11 ∨ id = 33 ∨ id = 35 ∨ id = 39
  · have e : r = (n != 0) := by
      rw [← hr]
      have hk : kindL id ≠ 1 := by rcases hid with h | h | h | h <;> subst h <;> decide
      unfold numL
      simp only [hk, false_and, if_false]
      by_cases h0 : n = 0
      · subst h0
        rcases hid with h | h | h | h <;> subst h <;> rfl
      · simp [h0]
    clear hr
    subst e
    rcases hid with h | h | h | h <;> subst h
    all_goals
      go_enter Tryz.func215, Tryz.ntmps215
      go_wp2
      exact HR.out _ hbA
  · have h1 : ¬ id = 11 := fun h => hid (.inl h)
    have h2 : ¬ id = 33 := fun h => hid (.inr (.inl h))
    have h3 : ¬ id = 35 := fun h => hid (.inr (.inr (.inl h)))
    have h4 : ¬ id = 39 := fun h => hid (.inr (.inr (.inr h)))
    clear hid
    obtain ⟨k, hk⟩ : ∃ k, kindL id = k := ⟨_, rfl⟩
    have e : decide (¬ (k = 1 ∧ 1 < n)) = r := by
      rw [← hr, ← hk]
      unfold numL
      simp only [h1, h2, h3, h4, or_self, false_and, if_false]
      by_cases hc : kindL id = 1 ∧ 1 < n
      · rw [if_pos hc]
        simp [hc]
      · rw [if_neg hc]
        simp only [hc, not_false_eq_true, decide_true]
    have HK := Lib.hid hk
    have HE := Lib.hid e
    clear e hr hk
    by_cases hk1 : k = 1
    · subst hk1
      by_cases hn : n ≤ 1
      · obtain rfl : r = true := by rw [← HE.out]; exact decide_eq_true fun h => by omega
        go_enter Tryz.func215, Tryz.ntmps215
        go_wp2_with (go_at_call 189; go_must (refine kind_any id 1 HK.out _ _ ?_); intro w1 hb1; have hx1 := below_tr hbA hb1; have c0 := cell_later hb1 (cell_of_row _ w.heap.size 1 _ _ _ (heap_alloc_new w (Obj.cells #[.int .i64 id, .int .i64 n, .string (str t), .string (str q), d] 147))))
        exact HR.out _ hx1
      · obtain rfl : r = false := by rw [← HE.out]; exact decide_eq_false fun h => h ⟨rfl, by omega⟩
        go_enter Tryz.func215, Tryz.ntmps215
        go_wp2_with (go_at_call 189; go_must (refine kind_any id 1 HK.out _ _ ?_); intro w1 hb1; have hx1 := below_tr hbA hb1; have c0 := cell_later hb1 (cell_of_row _ w.heap.size 1 _ _ _ (heap_alloc_new w (Obj.cells #[.int .i64 id, .int .i64 n, .string (str t), .string (str q), d] 147))))
        have h9 := HR.out _ hx1
        rw [show false = decide (n ≤ 1) from (decide_eq_false (by omega)).symm] at h9
        exact h9
    · obtain rfl : r = true := by rw [← HE.out]; exact decide_eq_true fun h => hk1 h.1
      have hk2 : ¬ (k : Int) = 1 := by omega
      clear HE
      go_enter Tryz.func215, Tryz.ntmps215
      go_wp2_with (go_at_call 189; go_must (refine kind_any id k HK.out _ _ ?_); intro w1 hb1; have hx1 := below_tr hbA hb1)
      exact HR.out _ hx1
end Go.Proofs.YtgimbocoamnkjaaGreatDoor
