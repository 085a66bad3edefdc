/- (*Session).Ready, walked. -/
import Derived.Test.YtgimbocoamnkjaaNextL
namespace Go.Proofs.Ytgimbocoamnkjaa
open Go.RowKit

theorem im_cell10 {w : World} {g o : Nat} {c : V3} {x : Im} {rest : List Value} {n : Nat} (h : ∀ j, j < n * 14 → w.cell? ⟨g, o + j, none⟩ = (imP (c, x) ++ rest)[j]?) (hn : 0 < n) : w.cell? ⟨g, o + 10, none⟩ = some (.int .i64 x.qos) := by
  rw [h 10 (by omega), List.getElem?_append_left (by rw [imP_length]; omega)]
  rfl

set_option maxRecDepth 100000 in
set_option maxHeartbeats 800000 in
theorem ready_any (S : Nat) (s : Sess) (win : Int) (b : Bool) (hb : readyL s win = b) (w : World) (M : Nat → Prop) (h : SR w M S s) (hl1 : s.queue.length ≤ 100000) (R : Ending → World → Prop)
    (hR : R (.returned (.bool b)) w) :
    Calls Try.prog 24 #[.pointer (some ⟨S, 0, none⟩), .int .i64 win] w R := by
  obtain ⟨NB, MB, GB, GM, sv, qv, fv, hx⟩ := h
  have HR := Lib.hid hR
  obtain ⟨ps, hps, hrow, _, _⟩ := hx.hq
  obtain ⟨fs, _, hfl, _, _⟩ := hx.hf
  obtain ⟨fa, fc, rfl⟩ := owns_shape hfl
  obtain ⟨va, vc, rfl⟩ := hrow.shape
  have c6 := (ss9 hx.hS).2.2.1
  have c7 := (ss9 hx.hS).2.2.2.1
  obtain ⟨n, hn⟩ : ∃ n, s.queue.length = n := ⟨_, rfl⟩
  obtain ⟨m, hm⟩ : ∃ m, s.flights.length = m := ⟨_, rfl⟩
  rw [hn] at c6 hrow
  rw [hm] at c7
  have HB := Lib.hid hb
  have HN := Lib.hid hn
  have HM := Lib.hid hm
  clear hR hx hb hfl
  match hq : s.queue with
  | [] =>
    have hn0 : n = 0 := by rw [← HN.out, hq]; rfl
    subst hn0
    obtain rfl : false = b := by rw [← HB.out]; unfold readyL; rw [hq]
    clear hq hn hm
    go_enter Try.func24, Try.ntmps24
    go_wp2
    exact HR.out
  | x :: rest =>
    have hn0 : 0 < n := by rw [← HN.out, hq]; simp
    have hn1 : (0 : Int) < (n : Int) := by omega
    rw [hq] at hps
    obtain ⟨p, pr, rfl⟩ : ∃ p pr, ps = p :: pr := by
      cases ps with
      | nil => simp at hps
      | cons p pr => exact ⟨p, pr, rfl⟩
    obtain ⟨c, y⟩ := p
    obtain rfl : y = x := by simp at hps; exact hps.1
    obtain ⟨g, o, rfl, hcell, _⟩ := hrow.at hn0
    rw [List.flatMap_cons] at hcell
    have c10 := im_cell10 hcell hn0
    have hb' : (y.qos == 0 || (decide ((m : Int) < win) && decide (m < 8))) = b := by
      rw [← HB.out, ← HM.out]
      unfold readyL
      rw [hq]
    have HBB := Lib.hid hb'
    clear hcell hrow hps hq hb' hn hm
    by_cases hz : y.qos = 0
    · obtain rfl : true = b := by rw [← HBB.out]; simp [hz]
      have hz' : (y.qos == 0) = true := by simp [hz]
      rw [hz] at c10
      clear hz hz'
      go_enter Try.func24, Try.ntmps24
      go_wp2
      exact HR.out
    · have hz' : (y.qos == 0) = false := by simp [hz]
      by_cases h1 : (m : Int) < win
      · by_cases h2 : m < 8
        · have h2' : (m : Int) < 8 := by omega
          obtain rfl : true = b := by rw [← HBB.out, hz']; simp [h1, h2]
          clear HBB
          go_enter Try.func24, Try.ntmps24
          go_wp2
          exact HR.out
        · have h2' : ¬ (m : Int) < 8 := by omega
          obtain rfl : false = b := by rw [← HBB.out, hz']; simp [h2]
          clear HBB
          go_enter Try.func24, Try.ntmps24
          go_wp2
          exact HR.out
      · obtain rfl : false = b := by rw [← HBB.out, hz']; simp [h1]
        clear HBB
        go_enter Try.func24, Try.ntmps24
        go_wp2
        exact HR.out
end Go.Proofs.Ytgimbocoamnkjaa
