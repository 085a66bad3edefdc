/- Kinds and places of properties: the program's and the document's answers. -/
import Derived.Test.YtpodhidabhnnnaaDoorKindO
import Derived.Deep.RegionHeld
import Derived.Deep.QuietTactic
import Derived.BigQuiet
namespace Go.Proofs.YtpodhidabhnnnaaDoor
open Go.RowKit

set_option maxRecDepth 100000 in
theorem kind_any (id : Int) (k : Nat) (hk : kindL id = k) (w : World) (R : Ending → World → Prop) (hR : ∀ w', Below w.heap.size w w' → R (.returned (.int .i64 k)) w') :
    Calls Tryd.prog 14 #[.int .i64 id] w R := by
  obtain ⟨pl, hpl⟩ : ∃ pl, placesL id = pl := ⟨_, rfl⟩
  have HR := Lib.hid hR
  clear hR
  have HK := Lib.hid hk
  have HP := Lib.hid hpl
  clear hk hpl
  have hfd : ∀ w : World, (Instr.field 72 (.agg #[.int .i64 (k : Int), .int .i64 pl]) 0).run Tryd.prog w = .ok (.int .i64 (k : Int)) w := fun _ => by kernel_rfl
  go_enter Tryd.func14, Tryd.ntmps14
  go_wp2_with (go_at_call 39; refine of_any id _ _ ?_; rw [HK.out, HP.out]; intro w1 hb1)
  exact HR.out _ hb1
theorem often_any (id wh : Int) (w : World) (R : Ending → World → Prop) (hR : R (.returned (.bool (oftenL id wh))) w) :
    Calls Tryd.prog 54 #[.int .i64 id, .int .i64 wh] w R := by
  by_cases h1 : id = 38
  · have e : oftenL id wh = true := by unfold oftenL; simp [h1]
    rw [e] at hR
    subst h1
    go_enter Tryd.func54, Tryd.ntmps54
    go_wp2
    exact hR
  · by_cases h2 : id = 11
    · have e : oftenL id wh = decide (wh = 3) := by unfold oftenL; simp [h2]
      rw [e] at hR
      subst h2
      clear h1
      by_cases h3 : wh = 3
      · subst h3
        go_enter Tryd.func54, Tryd.ntmps54
        go_wp2
        exact hR
      · have e3 : decide (wh = 3) = false := decide_eq_false h3
        rw [e3] at hR
        have b3 : (wh == 3) = false := by simp [h3]
        have b3' := Lib.hid b3
        clear b3
        go_enter Tryd.func54, Tryd.ntmps54
        go_wp2
        simpa [b3'.out] using hR
    · have e : oftenL id wh = false := by unfold oftenL; simp [h1, h2]
      rw [e] at hR
      have b1 := Lib.hid (show (id == 38) = false by simp [h1])
      have b2 := Lib.hid (show (id == 11) = false by simp [h2])
      go_enter Tryd.func54, Tryd.ntmps54
      go_wp2
      simpa [b1.out] using hR
set_option maxRecDepth 100000 in
theorem may_any (id wh : Int) (m : Bool) (hm : mayL id wh = m) (w : World) (R : Ending → World → Prop) (hR : ∀ w', Below w.heap.size w w' → R (.returned (.bool m)) w') :
    Calls Tryd.prog 16 #[.int .i64 id, .int .i64 wh] w R := by
  have HR := Lib.hid hR
  clear hR
  by_cases h1 : wh < 1 ∨ 16 < wh
  · obtain rfl : m = false := by rw [← hm]; exact may_range id wh h1
    have HM := Lib.hid hm
    clear hm
    rcases h1 with h1 | h1
    · have h2 : ¬ 1 ≤ wh := by omega
      go_enter Tryd.func16, Tryd.ntmps16
      go_wp2
      exact HR.out _ (Below.refl _ _)
    · have h2 : ¬ wh ≤ 16 := by omega
      have h3 : 1 ≤ wh := by omega
      go_enter Tryd.func16, Tryd.ntmps16
      go_wp2
      exact HR.out _ (Below.refl _ _)
  · have h2 : 1 ≤ wh := by omega
    have h3 : wh ≤ 16 := by omega
    have hb := may_bits id wh h2 h3
    rw [hm] at hb
    obtain ⟨pl, hpl⟩ : ∃ pl, placesL id = pl := ⟨_, rfl⟩
    obtain ⟨k, hk⟩ : ∃ k, kindL id = k := ⟨_, rfl⟩
    rw [hpl] at hb
    have HB := Lib.hid hb
    have HP := Lib.hid hpl
    have HK := Lib.hid hk
    have HM := Lib.hid hm
    clear hb hm h1 hpl hk
    have hfd : ∀ w : World, (Instr.field 72 (.agg #[.int .i64 (k : Int), .int .i64 pl]) 1).run Tryd.prog w = .ok (.int .i64 pl) w := fun _ => by kernel_rfl
    go_enter Tryd.func16, Tryd.ntmps16
    go_wp2_with (go_at_call 39; refine of_any id _ _ ?_; rw [HK.out, HP.out]; intro w1 hb1)
    have e := HB.out
    unfold bitAt at e
    exact (e ▸ HR.out _ hb1)
end Go.Proofs.YtpodhidabhnnnaaDoor
