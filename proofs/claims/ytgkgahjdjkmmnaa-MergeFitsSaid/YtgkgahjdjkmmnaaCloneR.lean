/- A copy of the row of rows. -/
import Derived.Test.YtgkgahjdjkmmnaaFirst
import Derived.Deep.Slices
namespace Go.Proofs.Ytgkgahjdjkmmnaa
open Go.RowKit

theorem Try.info24 : (Try.prog.info? 24).map (fun i => (i.zero, i.size, i.bytes)) = some (some (.slice none 0 0), 1, 24) := by kernel_rfl

/-- The rows' own values, in order. -/
theorem Ess.vals {w : World} {ad : Option Addr} {n c : Nat} {ls : List (List Ent)} (h : Ess w (.slice ad n c) ls) :
    n = ls.length ∧ n ≤ c ∧ c ≤ 9223372036854775807 ∧ (ad = none → c = 0) ∧ ∃ vs : List Value, Rd w 1 ad n vs ∧ (∀ u ∈ vs, u.oneCell' = true) ∧ ∀ (i : Nat) (h : i < ls.length), ∃ v, vs[i]? = some v ∧ Es w v ls[i] := by
  obtain ⟨ad', c', e, h1, h2, h3, h4⟩ := h
  simp only [Value.slice.injEq] at e
  obtain ⟨rfl, rfl, rfl⟩ := e
  refine ⟨rfl, h1, h2, h3, ?_⟩
  by_cases h0 : 0 < ls.length
  · obtain ⟨b, o, rfl, h5⟩ := h4 h0
    obtain ⟨f, hf⟩ := Go.Deep.choose_lt (α := Value) (n := ls.length) (p := fun i s => w.cell? ⟨b, o + i, none⟩ = some s ∧ ∀ h : i < ls.length, Es w s ls[i]) (fun i hi => by
      obtain ⟨s, a1, a2⟩ := h5 i hi
      exact ⟨s, a1, fun _ => a2⟩)
    refine ⟨(List.range ls.length).map f, ⟨by simp, fun _ => ⟨b, o, rfl, fun j hj => ?_⟩⟩, fun u hu => ?_, fun i hi => ⟨f i, by simp [hi], (hf i hi).2 hi⟩⟩
    · rw [(hf j (by omega)).1]
      simp [show j < ls.length by omega]
    · obtain ⟨i, hi, rfl⟩ := List.mem_map.1 hu
      have hi' := List.mem_range.1 hi
      obtain ⟨a, c, e, _⟩ := (hf i hi').2 hi'
      rw [e]
      rfl
  · have hl : ls = [] := List.eq_nil_of_length_eq_zero (by omega)
    subst hl
    exact ⟨[], Rd.nil _ _ _, by simp, fun i hi => by simp at hi⟩

set_option maxRecDepth 100000 in
set_option maxHeartbeats 800000 in
theorem cloner_any (v : Value) (ls : List (List Ent)) (w : World) (hv : Ess w v ls) (hl : ls.length ≤ 5000000000000) (R : Ending → World → Prop)
    (hR : ∀ ad c w' vs, w'.ownsRow w.heap.size 24 1 (.slice ad ls.length c) ls.length vs → (∀ (i : Nat) (h : i < ls.length), ∃ v, vs[i]? = some v ∧ Es w v ls[i]) → Below w.heap.size w w' → R (.returned (.slice ad ls.length c)) w') :
    Calls Try.prog 30 #[v] w R := by
  have hv' := hv
  obtain ⟨ad, c, rfl, _⟩ := hv'
  obtain ⟨_, h1, h2, h3, vs, hr, hone, hes⟩ := hv.vals
  have HES := Lib.hid hes
  clear hv hes
  cases ad with
  | none =>
    have hc : c = 0 := h3 rfl
    subst hc
    have hl0 : ls = [] := List.eq_nil_of_length_eq_zero (by omega)
    subst hl0
    have he : ∀ w : World, (binOp .eql 22 (.slice none 0 0) (.slice none 0 0)).run Try.prog w = .ok (.bool true) w := fun _ => rfl
    go_enter Try.func30, Try.ntmps30
    go_wp2
    exact hR _ _ _ [] (World.ownsRow_nil _ _ _ _) (fun i hi => by simp at hi) (Below.refl _ _)
  | some a =>
    have he : ∀ w : World, (binOp .eql 22 (.slice (some a) ls.length c) (.slice none 0 0)).run Try.prog w = .ok (.bool false) w := fun _ => rfl
    have hown := (World.ownsRow_made (base := w.heap.size) (e := 24) (size := 1) w #[] 0 (Nat.le_refl _) (by unfold maxLen; omega) rfl)
    have hr1 := rd_alloc hr (.cells #[] 24)
    go_enter Try.func30, Try.ntmps30
    go_wp2_with (at_builtin; go_must (refine wpList_app (by rfl) (.tmp 5) (.tmp 6) 22 (by rfl) w.heap.size 24 (.slice none 0 0) 1 24 Try.underlying22 Try.info24 rfl (by decide) _ _ _ _ rfl hown _ _ _ _ rfl hr1 hone h3 (by unfold maxLen; omega) (by omega) (by simp) ?_))
    all_goals (try (simp; done))
    intro ad2 c2 w2 hown2 hg2
    have hb2 := below_app ((Below.refl w.heap.size w).alloc (Nat.le_refl _) _) hg2 (by simp) hown
    clear hg2 hown hr1 hr
    go_wp2
    exact hR _ _ _ _ hown2 HES.out hb2
end Go.Proofs.Ytgkgahjdjkmmnaa
