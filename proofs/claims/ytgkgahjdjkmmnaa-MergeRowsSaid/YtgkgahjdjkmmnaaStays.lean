/- tidingsref09.stays. -/
import Derived.Test.YtgkgahjdjkmmnaaWakes09
namespace Go.Proofs.Ytgkgahjdjkmmnaa
open Go.RowKit

def staysL (g : List Ent) (k : Nat) (ss : List Int) : Bool := k == 0 || ss.any fun s => decide ((g.getD k default).seq ≤ s) && decide (s < (g.getD (k - 1) default).seq)

theorem searchL_iff {g : List Ent} {s : Int} {k : Nat} (hk : k < g.length) (h0 : 0 < k) (hm : ∀ a b (_ : a ≤ b) (hb : b < g.length) (ha : a < g.length), (g[a]).seq ≤ s → (g[b]).seq ≤ s) : searchL g s = k ↔ (g[k].seq ≤ s ∧ s < (g[k - 1]'(by omega)).seq) := by
  constructor
  · intro h
    have hs := List.takeWhile_append_dropWhile (p := fun e : Ent => decide (s < e.seq)) (l := g)
    unfold searchL at h
    have h1 : ∀ t (ht : t < g.length), t < k → s < g[t].seq := by
      intro t ht htk
      have e : g[t]? = (g.takeWhile fun e => decide (s < e.seq))[t]? := by
        conv => lhs; rw [← hs]
        rw [List.getElem?_append_left (by omega)]
      rw [List.getElem?_eq_getElem ht, List.getElem?_eq_getElem (by omega)] at e
      have e2 := Option.some.inj e
      have := List.all_eq_true.1 (List.all_takeWhile (p := fun e : Ent => decide (s < e.seq)) (l := g)) _ (List.getElem_mem (l := g.takeWhile fun e => decide (s < e.seq)) (n := t) (by omega))
      rw [e2]
      simpa using this
    have h2 : g[k].seq ≤ s := by
      have hd : (g.dropWhile fun e => decide (s < e.seq)) ≠ [] := by
        intro hd
        rw [hd, List.append_nil] at hs
        have := congrArg List.length hs
        omega
      have e : g[k]? = (g.dropWhile fun e => decide (s < e.seq))[0]? := by
        conv => lhs; rw [← hs]
        rw [List.getElem?_append_right (by omega), h, Nat.sub_self]
      rw [List.getElem?_eq_getElem hk, List.getElem?_eq_getElem (List.length_pos_iff.2 hd)] at e
      have e2 := Option.some.inj e
      have := List.head_dropWhile_not (fun e : Ent => decide (s < e.seq)) hd
      rw [← List.getElem_zero_eq_head (List.length_pos_iff.2 hd), ← e2] at this
      simpa using this
    exact ⟨h2, h1 (k - 1) (by omega) (by omega)⟩
  · rintro ⟨h1, h2⟩
    refine searchL_at (by omega) (fun t ht htk => ?_) (fun _ => h1)
    by_cases hc : g[t].seq ≤ s
    · have := hm t (k - 1) (by omega) (by omega) ht hc
      omega
    · omega

theorem seenK_get {g : List Ent} (ss : List Int) (hm : ∀ s a b (_ : a ≤ b) (hb : b < g.length) (ha : a < g.length), (g[a]).seq ≤ s → (g[b]).seq ≤ s) (k : Nat) (hk : k < g.length) : (seenL g ss)[k]'(by rw [seenL, seenK_len]; exact hk) = staysL g k ss := by
  have key : ∀ (ss : List Int) (acc : List Bool), acc.length = g.length → (ss.foldl (fun acc s => if searchL g s < g.length then acc.set (searchL g s) true else acc) acc)[k]? = acc[k]?.map fun b => b || ss.any fun s => searchL g s == k := by
    intro ss
    induction ss with
    | nil => intro acc ha; simp
    | cons s r ih =>
      intro acc ha
      rw [List.foldl_cons, List.any_cons]
      by_cases hlt : searchL g s < g.length
      · rw [show (if searchL g s < g.length then acc.set (searchL g s) true else acc) = acc.set (searchL g s) true from if_pos hlt, ih _ (by simpa using ha)]
        by_cases he : searchL g s = k
        · rw [he, List.getElem?_set_self (by omega), List.getElem?_eq_getElem (by omega)]
          simp
        · rw [List.getElem?_set_ne he]
          have : (searchL g s == k) = false := by simpa using he
          simp [this]
      · rw [show (if searchL g s < g.length then acc.set (searchL g s) true else acc) = acc from if_neg hlt, ih _ ha]
        have : (searchL g s == k) = false := by
          have : ¬ searchL g s = k := by omega
          simpa using this
        simp [this]
  have h0 : ((List.replicate g.length false).set 0 true).length = g.length := by simp
  have hget : (seenL g ss)[k]? = some ((((List.replicate g.length false).set 0 true)[k]'(by omega)) || ss.any fun s => searchL g s == k) := by
    have e : seenL g ss = ss.foldl (fun acc s => if searchL g s < g.length then acc.set (searchL g s) true else acc) ((List.replicate g.length false).set 0 true) := by
      unfold seenL seenK
      rw [List.take_length]
    rw [e, key ss _ h0, List.getElem?_eq_getElem (by omega)]
    rfl
  rw [List.getElem?_eq_getElem (by rw [seenL, seenK_len]; exact hk)] at hget
  rw [Option.some.inj hget, List.getElem_set]
  unfold staysL
  by_cases hk0 : k = 0
  · subst hk0; simp
  · have e1 : (k == 0) = false := by simpa using hk0
    rw [if_neg (by omega), List.getElem_replicate, e1, Bool.false_or, Bool.false_or]
    congr 1
    funext s
    have h1 := searchL_iff hk (by omega) (hm s)
    have d1 : g.getD k default = g[k] := by simp [List.getD, hk]
    have d2 : g.getD (k - 1) default = g[k - 1]'(by omega) := by simp [List.getD, show k - 1 < g.length by omega]
    rw [d1, d2]
    by_cases hc : searchL g s = k
    · have := h1.1 hc
      simp [hc, this.1, this.2]
    · have hn : ¬ (g[k].seq ≤ s ∧ s < (g[k - 1]'(by omega)).seq) := fun h => hc (h1.2 h)
      have : (searchL g s == k) = false := by simpa using hc
      rw [this]
      symm
      rw [Bool.and_eq_false_iff]
      by_cases ha : g[k].seq ≤ s
      · right; exact decide_eq_false fun h => hn ⟨ha, h⟩
      · left; exact decide_eq_false ha

set_option maxRecDepth 100000 in
set_option maxHeartbeats 4000000 in
theorem stays_any (v u : Value) (g : List Ent) (k : Nat) (ss : List Int) (r : Bool) (hr : staysL g k ss = r) (hk : k < g.length) (hg : g.length ≤ 1000000) (w : World) (hv : Es w v g) (hu : Is w u ss) (R : Ending → World → Prop)
    (hR : ∀ w', Below w.heap.size w w' → R (.returned (.bool r)) w') :
    Calls Try.prog 40 #[v, .int .i64 k, u] w R := by
  have HV := Lib.hid hv
  have HU := Lib.hid hu
  have HR := Lib.hid hR
  obtain ⟨va, vc, rfl, _⟩ := hv
  obtain ⟨ua, uc, rfl, _⟩ := hu
  clear hR
  by_cases hk0 : k = 0
  · have hb : r = true := by rw [← hr, staysL, hk0]; rfl
    subst hb
    have hq : ((k : Int) == 0) = true := by simp [hk0]
    clear hk0 hr
    go_enter Try.func40, Try.ntmps40
    go_wp2
    exact HR.out _ (Below.refl _ _)
  · obtain ⟨k, rfl⟩ : ∃ j, k = j + 1 := ⟨k - 1, by omega⟩
    have hq : (((k + 1 : Nat) : Int) == 0) = false := by simp; omega
    have hq2 : ((k : Int) + 1 == 0) = false := by simp; omega
    obtain ⟨y, hy⟩ : ∃ y, (g[k + 1]).seq = y := ⟨_, rfl⟩
    obtain ⟨x, hx⟩ : ∃ x, (g[k]'(by omega)).seq = x := ⟨_, rfl⟩
    have hst : Hid ((ss.drop 0).any (fun s => decide (y ≤ s) && decide (s < x)) = r) := by
      rw [← hr, staysL, List.drop_zero, ← hx, ← hy]
      have d1 : g.getD (k + 1) default = g[k + 1] := by simp [List.getD, hk]
      have d2 : g.getD (k + 1 - 1) default = g[k]'(by omega) := by simp [List.getD, show k < g.length by omega]
      rw [d1, d2]
      simp [Hid]
    have HX := Lib.hid hx
    have HY := Lib.hid hy
    clear hx hy
    clear hr hk0
    go_enter Try.func40, Try.ntmps40
    go_wp2
    go_loopg [7] ss.length (fun gn i wr => ∃ j : Nat, j ≤ ss.length ∧ gn = ss.length - j ∧ i = .int .i64 j ∧ Below w.heap.size w wr ∧ Hid ((ss.drop j).any (fun s => decide (y ≤ s) && decide (s < x)) = r))
    case atStart => exact ⟨0, Nat.zero_le _, by omega, rfl, Below.refl _ _, hst⟩
    case round =>
      obtain ⟨j, hj, rfl, rfl, hb, HS⟩ := hrel
      by_cases hlt : j < ss.length
      · have hjj : (j : Int) < (ss.length : Int) := by omega
        have hj0 : (0 : Int) ≤ (j : Int) := by omega
        obtain ⟨ub, uo, rfl, cu⟩ := (HU.out.below hb).at j hlt
        obtain ⟨va', vc', ee, _, _, _, v4⟩ := HV.out.below hb
        simp only [Value.slice.injEq] at ee
        obtain ⟨rfl, -, rfl⟩ := ee
        obtain ⟨vb, vo, rfl, v5⟩ := v4 (by omega)
        obtain ⟨_, _, ⟨_, _, p2, _⟩, _⟩ := v5 (k + 1) hk
        obtain ⟨_, _, ⟨_, _, q2, _⟩, _⟩ := v5 k (by omega)
        have hst2 := HS.out
        rw [List.drop_eq_getElem_cons hlt, List.any_cons] at hst2
        obtain ⟨s, hs⟩ : ∃ s, ss[j] = s := ⟨_, rfl⟩
        rw [hs] at cu hst2
        rw [HY.out] at p2
        rw [HX.out] at q2
        have hkb : (k : Int) + 1 < (g.length : Int) := by omega
        have hkb2 : (k : Int) < (g.length : Int) := by omega
        have hk00 : (0 : Int) ≤ (k : Int) := by omega
        have n1 : IntKind.i64.wrap ((k : Int) + 1 - 1) = (k : Int) := by rw [show (k : Int) + 1 - 1 = k by omega]; exact IntWalk.i64_in _ (by omega)
        have n5 : IntKind.i64.wrap (k : Int) = (k : Int) := IntWalk.i64_in _ (by omega)
        have n3 : ((k : Int) + 1).toNat = k + 1 := by omega
        have n4 : (0 : Int) ≤ (k : Int) + 1 := by omega
        have HS2 := Lib.hid hst2
        clear v4 v5 hst2 hs HS
        by_cases ha : y ≤ s
        · have hda : decide (y ≤ s) = true := decide_eq_true ha
          by_cases hc : s < x
          · have hdc : decide (s < x) = true := decide_eq_true hc
            have ht : r = true := by rw [← HS2.out]; simp [ha, hc]
            subst ht
            clear HS2
            go_wp2
            go_quiet (fail)
            go_wp2
            all_goals first | exact HR.out _ (below_drewN hb) | trace_state
          · have hdc : decide (s < x) = false := decide_eq_false hc
            have ht : Hid ((ss.drop (j + 1)).any (fun s => decide (y ≤ s) && decide (s < x)) = r) := by
              have := HS2.out
              rw [decide_eq_false hc, Bool.and_false, Bool.false_or] at this
              exact this
            clear HS2
            go_wp2
            go_quiet (fail)
            go_wp2
            go_roundg (ss.length - (j + 1))
            case rel => exact ⟨j + 1, by omega, rfl, by go_num, below_drewN hb, ht⟩
            case measure => omega
        · have hda : decide (y ≤ s) = false := decide_eq_false ha
          have ht : Hid ((ss.drop (j + 1)).any (fun s => decide (y ≤ s) && decide (s < x)) = r) := by
            have := HS2.out
            rw [decide_eq_false ha, Bool.false_and, Bool.false_or] at this
            exact this
          clear HS2
          go_wp2
          go_quiet (fail)
          go_wp2
          go_roundg (ss.length - (j + 1))
          case rel => exact ⟨j + 1, by omega, rfl, by go_num, below_drewN hb, ht⟩
          case measure => omega
      · have hjj : ¬ (j : Int) < (ss.length : Int) := by omega
        have ht : r = false := by
          rw [← HS.out, List.drop_of_length_le (by omega)]
          rfl
        subst ht
        clear HS
        go_wp2
        exact HR.out _ hb
end Go.Proofs.Ytgkgahjdjkmmnaa
