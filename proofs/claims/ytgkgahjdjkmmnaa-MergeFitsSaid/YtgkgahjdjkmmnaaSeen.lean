/- merge.seen: which of a key's entries somebody sees. -/
import Derived.Test.YtgkgahjdjkmmnaaMerge
namespace Go.Proofs.Ytgkgahjdjkmmnaa
open Go.RowKit

/-- The first entry that stands at s or below it. -/
def searchL (g : List Ent) (s : Int) : Nat := (g.takeWhile fun e => decide (s < e.seq)).length

theorem searchL_at {g : List Ent} {s : Int} {k : Nat} (hk : k ≤ g.length) (h1 : ∀ t (h : t < g.length), t < k → s < g[t].seq) (h2 : ∀ h : k < g.length, g[k].seq ≤ s) : searchL g s = k := by
  unfold searchL
  induction g generalizing k with
  | nil => simp at hk; simp [hk]
  | cons a r ih =>
    cases k with
    | zero =>
      have := h2 (by simp)
      simp only [List.getElem_cons_zero] at this
      rw [List.takeWhile_cons, if_neg (by simp; omega)]
      rfl
    | succ k =>
      have := h1 0 (by simp) (by omega)
      simp only [List.getElem_cons_zero] at this
      rw [List.takeWhile_cons, if_pos (by simpa using this), List.length_cons, ih (k := k) (by simpa using hk) (fun t h ht => h1 (t + 1) (by simpa using h) (by omega)) (fun h => h2 (by simpa using h))]

set_option maxHeartbeats 2000000 in
theorem closure_any (A2 A7 : Nat) (v : Value) (g : List Ent) (s : Int) (i : Nat) (r : Bool) (w : World) (hi : i < g.length) (hr : decide ((g[i]).seq ≤ s) = r) (h2 : w.cell? ⟨A2, 0, none⟩ = some v) (h7 : w.cell? ⟨A7, 0, none⟩ = some (.int .i64 s)) (hv : Es w v g) (R : Ending → World → Prop)
    (hR : ∀ w', Below w.heap.size w w' → R (.returned (.bool r)) w') :
    Calls Try.prog 57 (#[.int .i64 i] ++ #[.pointer (some ⟨A2, 0, none⟩), .pointer (some ⟨A7, 0, none⟩)]) w R := by
  obtain ⟨ad, c, rfl, _, _, _, h4⟩ := hv
  obtain ⟨b, o, rfl, h5⟩ := h4 (by omega)
  obtain ⟨k, v, ⟨_, _, p2, _⟩, _⟩ := h5 i hi
  obtain ⟨y, hy⟩ : ∃ y, (g[i]).seq = y := ⟨_, rfl⟩
  rw [hy] at hr p2
  have hiz : (i : Int) < (g.length : Int) := by omega
  have HR := Lib.hid hr
  subst hr
  clear h4 h5 hy
  go_enter Try.func57, Try.ntmps57
  go_wp2
  go_quiet (fail)
  go_wp2
  all_goals first | exact below_drewN (Below.refl _ _) | exact hR _ (below_drewN (Below.refl _ _))

set_option maxRecDepth 100000 in
set_option maxHeartbeats 4000000 in
theorem search_any (A2 A7 : Nat) (v : Value) (g : List Ent) (s : Int) (z : Nat) (hz : searchL g s = z) (hmono : ∀ a b (_ : a ≤ b) (hb : b < g.length) (ha : a < g.length), (g[a]).seq ≤ s → (g[b]).seq ≤ s) (hg : g.length ≤ 1000000)
    (w : World) (h2 : w.cell? ⟨A2, 0, none⟩ = some v) (h7 : w.cell? ⟨A7, 0, none⟩ = some (.int .i64 s)) (hv : Es w v g) (R : Ending → World → Prop)
    (hR : ∀ w', Below w.heap.size w w' → R (.returned (.int .i64 z)) w') :
    Calls Try.prog 56 #[.int .i64 g.length, .func (.func 57) #[] #[.pointer (some ⟨A2, 0, none⟩), .pointer (some ⟨A7, 0, none⟩)]] w R := by
  have M := Lib.hid hmono
  have HZ := Lib.hid hz
  have HV := Lib.hid hv
  have H2 := Lib.hid h2
  have H7 := Lib.hid h7
  clear hmono hz hv h2 h7
  go_enter Try.func56, Try.ntmps56
  go_wp2
  go_loopg [5, 6] g.length (fun kx s5 s6 wr => ∃ (lo hi : Nat), s5 = .int .i64 lo ∧ s6 = .int .i64 hi ∧ lo ≤ hi ∧ hi ≤ g.length ∧ hi - lo ≤ kx ∧ Below w.heap.size w wr ∧
    Hid ((∀ t (h : t < g.length), t < lo → s < g[t].seq) ∧ (∀ t (h : t < g.length), hi ≤ t → g[t].seq ≤ s)))
  case atStart => exact ⟨0, g.length, rfl, rfl, Nat.zero_le _, Nat.le_refl _, by omega, Below.refl _ _, ⟨fun t _ ht => absurd ht (Nat.not_lt_zero _), fun t h1 h2 => by omega⟩⟩
  case round =>
    obtain ⟨lo, hi, rfl, rfl, hlh, hin, hgk, hb, I⟩ := hrel
    by_cases hlt : lo < hi
    · have hml : (lo + hi) / 2 < g.length := by omega
      obtain ⟨r, hr⟩ : ∃ r, decide ((g[(lo + hi) / 2]).seq ≤ s) = r := ⟨_, rfl⟩
      have HR := Lib.hid hr
      have hmi : (((lo + hi) / 2 : Nat) : Int) = ((lo : Int) + (hi : Int)) / 2 := by omega
      have hcl := fun R hR => closure_any A2 A7 v g s ((lo + hi) / 2) r wr hml HR.out (cell_later hb H2.out) (cell_later hb H7.out) (HV.out.below hb) R hR
      rw [hmi] at hcl
      have HCL := Lib.hid hcl
      clear hcl hr hmi
      go_wp2_with (go_at_call 57; refine HCL.out _ ?_)
      intro w2 hb2
      have hb3 := below_then hb hb2 hb.size
      clear HCL
      cases r with
      | false =>
        go_wp2
        go_roundg (hi - ((lo + hi) / 2 + 1))
        case measure => omega
        case rel =>
          refine ⟨(lo + hi) / 2 + 1, hi, by rw [show ((lo : Int) + (hi : Int)) / 2 + 1 = (((lo + hi) / 2 + 1 : Nat) : Int) by omega], rfl, by omega, hin, Nat.le_refl _, hb3, ⟨fun t h ht => ?_, I.out.2⟩⟩
          have h0 : ¬ (g[(lo + hi) / 2]).seq ≤ s := of_decide_eq_false HR.out
          by_cases hle : (g[t]).seq ≤ s
          · exact absurd (M.out t ((lo + hi) / 2) (by omega) hml h hle) h0
          · omega
      | true =>
        go_wp2
        go_roundg ((lo + hi) / 2 - lo)
        case measure => omega
        case rel =>
          refine ⟨lo, (lo + hi) / 2, rfl, by rw [show ((lo : Int) + (hi : Int)) / 2 = (((lo + hi) / 2 : Nat) : Int) by omega], by omega, by omega, Nat.le_refl _, hb3, ⟨I.out.1, fun t h ht => ?_⟩⟩
          exact M.out ((lo + hi) / 2) t ht h hml (of_decide_eq_true HR.out)
    · obtain rfl : hi = lo := by omega
      have ecnt : z = hi := by
        rw [← HZ.out]
        exact searchL_at hin I.out.1 (fun h => I.out.2 hi h (Nat.le_refl _))
      subst ecnt
      go_wp2
      all_goals first | exact hb | exact hR _ hb
end Go.Proofs.Ytgkgahjdjkmmnaa
