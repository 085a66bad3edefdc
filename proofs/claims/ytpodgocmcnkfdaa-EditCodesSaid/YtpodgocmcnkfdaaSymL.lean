/- The library's merge in place at tables where one of the two ranges has one element: walked. -/
import Derived.Test.YtpodgocmcnkfdaaSymW
namespace Go.Proofs.Ytpodgocmcnkfdaa
open Go.RowKit Go.Sort Go.Shelf

section
variable {α : Type} [Inhabited α]

theorem swk_cell5 {enc : α → List Value} {k : Nat} {w0 W : World} {blk off : Nat} {dk d0 : Array α} (hk5 : k = 5) (S : SWK enc k w0 blk off dk W) (R0 : RowK enc k w0 blk off d0) (hs : dk.size = d0.size) (i : Nat) (hi : i < dk.size) :
    ∃ v0 v1 v2 v3 v4, enc dk[i]! = [v0, v1, v2, v3, v4] ∧ (∀ n os, (grow (W.drewN n) os).cell? ⟨blk, off + i * 5, none⟩ = some v0) ∧ (∀ n os, (grow (W.drewN n) os).cell? ⟨blk, off + i * 5 + 1, none⟩ = some v1) ∧ (∀ n os, (grow (W.drewN n) os).cell? ⟨blk, off + i * 5 + 2, none⟩ = some v2) ∧ (∀ n os, (grow (W.drewN n) os).cell? ⟨blk, off + i * 5 + 3, none⟩ = some v3) ∧ (∀ n os, (grow (W.drewN n) os).cell? ⟨blk, off + i * 5 + 4, none⟩ = some v4) := by
  have hl := R0.hk dk[i]!
  have hc := fun n os => HoldsK.cells ((S.grown n os).holds R0.hblk R0.hH hs) R0.hk hi
  subst hk5
  match h : enc dk[i]!, hl with
  | [v0, v1, v2, v3, v4], _ =>
    rw [h] at hc
    exact ⟨v0, v1, v2, v3, v4, rfl, fun n os => hc n os 0 v0 rfl, fun n os => hc n os 1 v1 rfl, fun n os => hc n os 2 v2 rfl, fun n os => hc n os 3 v3 rfl, fun n os => hc n os 4 v4 rfl⟩

set_option maxRecDepth 1000000 in
set_option maxHeartbeats 8000000 in
theorem symm_left (enc : α → List Value) (k : Nat) (hk5 : k = 5) (cf : α → α → Int) (hO : SWO (ltOf cf)) (blk off len cap : Nat) (d0 : Array α) (w0 : World) (R0 : RowK enc k w0 blk off d0) (hs0 : d0.size = len) (hsz : len ≤ 1000000)
    (hC : CmpLays Try.prog 36 #[] enc k cf blk off len w0) (a m b : Nat) (d : Array α) (w : World) (hs : d.size = len) (S : SWK enc k w0 blk off d w) (ham : m = a + 1) (hmb : m < b) (hb : b ≤ len) (hA : SortedIn (ltOf cf) a m d) (hB : SortedIn (ltOf cf) m b d) (R : Ending → World → Prop)
    (hR : ∀ d' w', SMof (ltOf cf) a b d d' → SWK enc k w0 blk off d' w' → R (.returned (.tuple #[])) w') :
    Calls Try.prog 73 #[.slice (some ⟨blk, off, none⟩) len cap, .int .i64 a, .int .i64 m, .int .i64 b, .func (.func 36) #[] #[]] w R := by
  have HR := Lib.hid hR
  have S0 := Lib.hid S
  have HC := Lib.hid hC
  have HA := Lib.hid hA
  have HB := Lib.hid hB
  obtain ⟨Y, hY⟩ : ∃ Y, Go.sizeOf 41 = Y := ⟨_, rfl⟩
  have hYr : ∀ w, Sem.run Try.prog Y w = .ok k w := fun w => by rw [← hY, hk5]; exact size5 w
  clear hR S hC hA hB
  have hm1 : a + 1 ≤ m := by omega
  have hm2 : m ≤ a + 1 := by omega
  have HAM := Lib.hid ham
  have e1 : (m : Int) - (a : Int) = 1 := by omega
  clear ham
  have w1 : IntKind.i64.wrap 1 = 1 := by decide
  go_enter Try.func73, Try.ntmps73
  go_wp2
  go_loopg [10, 11] (b - m) (fun gn s10 s11 wr => ∃ (i j : Nat), s10 = .int .i64 i ∧ s11 = .int .i64 j ∧ m ≤ i ∧ i ≤ j ∧ j ≤ b ∧ j - i ≤ gn ∧ Hid (∀ p, a < p → p < i → ltOf cf d[p]! d[a]! = true) ∧ Hid (∀ p, j ≤ p → p < b → ltOf cf d[p]! d[a]! = false) ∧ Hid (SWK enc k w0 blk off d wr))
  case atStart => exact ⟨m, b, rfl, rfl, Nat.le_refl _, by omega, Nat.le_refl _, Nat.le_refl _, fun p h1 h2 => by omega, fun p h1 h2 => by omega, S0⟩
  case round =>
    obtain ⟨i, j, rfl, rfl, hmi, hij, hjb, hgn, HL, HG, S1⟩ := hrel
    clear S0
    by_cases hlt : i < j
    · have hltz : (i : Int) < (j : Int) := by omega
      obtain ⟨c, hc⟩ : ∃ c, (i + j) / 2 = c := ⟨_, rfl⟩
      have ecz : ((i : Int) + (j : Int)) / 2 = (c : Int) := by omega
      have hc1 : i ≤ c := by omega
      have hc2 : c < j := by omega
      have wc : IntKind.i64.wrap (c : Int) = (c : Int) := by rw [IntKind.wrap_i64]; omega
      have wa : IntKind.i64.wrap (a : Int) = (a : Int) := by rw [IntKind.wrap_i64]; omega
      have bc : (c : Int) < (len : Int) := by omega
      have ba : (a : Int) < (len : Int) := by omega
      have pc : (0 : Int) ≤ (c : Int) := by omega
      have pa : (0 : Int) ≤ (a : Int) := by omega
      have tc : ((c : Int)).toNat = c := by omega
      have ta : ((a : Int)).toNat = a := by omega
      clear hc
      go_wp2_with fail
      obtain ⟨p0, p1, p2, p3, p4, hpe, l0, l1, l2, l3, l4⟩ := swk_cell5 hk5 S1.out R0 (by omega) c (by omega)
      obtain ⟨q0, q1, q2, q3, q4, hqe, m0, m1, m2, m3, m4⟩ := swk_cell5 hk5 S1.out R0 (by omega) a (by omega)
      have hcg := fun n os => S1.out.cmp HC.out (by omega) d[c]! d[a]! n os
      rw [hpe, hqe] at hcg
      obtain ⟨ux, hux⟩ : ∃ u, d[c]! = u := ⟨_, rfl⟩
      obtain ⟨uc, huc⟩ : ∃ u, d[a]! = u := ⟨_, rfl⟩
      rw [hux, huc] at hcg
      have HUX := Lib.hid hux
      have HUC := Lib.hid huc
      clear hux huc hpe hqe
      by_cases hlv : cf ux uc < 0
      · have hd0 : decide (cf ux uc < 0) = true := decide_eq_true hlv
        (refine wp_region_quiet_grown (by kernel_rfl) (by kernel_rfl) ?_; (repeat (go_big_quiet_step (first | (refine Calls.grown_of (hcg _ _))))); refine wpQuiet_nil ?_; intro _ hw'; obtain ⟨⟨nq, osq⟩, hw''⟩ := hw'; subst hw'')
        clear l0 l1 l2 l3 l4 m0 m1 m2 m3 m4 hcg
        have S5 := Lib.hid (S1.out.grown nq osq)
        go_wp2
        go_roundg (j - (c + 1))
        case measure => omega
        case rel =>
          refine ⟨c + 1, j, by go_num, rfl, by omega, by omega, hjb, Nat.le_refl _, fun p h1 h2 => ?_, HG, S5⟩
          have h3 : ltOf cf d[c]! d[a]! = true := by rw [HUX.out, HUC.out]; exact hd0
          cases h4 : ltOf cf d[p]! d[a]! with
          | true => rfl
          | false =>
            have h5 : ltOf cf d[c]! d[p]! = false := sorted_le hO HB.out (by omega) (by omega) (by omega)
            rw [hO.ntrans _ _ _ h5 h4] at h3
            cases h3
      · have hd0 : decide (cf ux uc < 0) = false := decide_eq_false hlv
        (refine wp_region_quiet_grown (by kernel_rfl) (by kernel_rfl) ?_; (repeat (go_big_quiet_step (first | (refine Calls.grown_of (hcg _ _))))); refine wpQuiet_nil ?_; intro _ hw'; obtain ⟨⟨nq, osq⟩, hw''⟩ := hw'; subst hw'')
        clear l0 l1 l2 l3 l4 m0 m1 m2 m3 m4 hcg
        have S5 := Lib.hid (S1.out.grown nq osq)
        go_wp2
        go_roundg (c - i)
        case measure => omega
        case rel =>
          refine ⟨i, c, rfl, rfl, hmi, hc1, by omega, Nat.le_refl _, HL, fun p h1 h2 => ?_, S5⟩
          have h3 : ltOf cf d[c]! d[a]! = false := by rw [HUX.out, HUC.out]; exact hd0
          exact hO.ntrans _ _ _ (sorted_le hO HB.out (by omega) h1 h2) h3
    · obtain rfl : i = j := by omega
      have ei : (i : Int) - 1 = ((i - 1 : Nat) : Int) := by omega
      have wi : IntKind.i64.wrap ((i - 1 : Nat) : Int) = ((i - 1 : Nat) : Int) := by rw [IntKind.wrap_i64]; omega
      obtain ⟨t, ht⟩ : ∃ t, i - 1 - a = t := ⟨_, rfl⟩
      have et : (i : Int) - 1 = ((a + t : Nat) : Int) := by omega
      have HUP := Lib.hid (up_sorted hO (a := a) (b := b) (i := i) (d := d) (by omega) hjb (by omega) (by rw [← HAM.out]; exact HB.out) HL.out HG.out)
      rw [ht] at HUP
      clear HL HG ei wi
      have S1' : Hid (SWK enc k w0 blk off (upTo d a 0) wr) := S1
      obtain ⟨wo, rfl⟩ : ∃ x, x = wr := ⟨_, rfl⟩
      clear hk5
      go_wp2
      go_loopg [13] t (fun gn s13 wr => ∃ (q : Nat), s13 = .int .i64 ((a + q : Nat) : Int) ∧ q ≤ t ∧ gn = t - q ∧ Hid (SWK enc k w0 blk off (upTo d a q) wr))
      case atStart => exact ⟨0, rfl, Nat.zero_le _, by omega, S1'⟩
      case round =>
        obtain ⟨q, rfl, hqt, rfl, S1⟩ := hrel
        obtain ⟨x, hx⟩ : ∃ x, a + q = x := ⟨_, rfl⟩
        rw [hx]
        by_cases hlt2 : q < t
        · have hltz : (x : Int) < (i : Int) - 1 := by omega
          obtain ⟨y, hy⟩ : ∃ y, x + 1 = y := ⟨_, rfl⟩
          have ey : (x : Int) + 1 = (y : Int) := by omega
          have hsz1 := size_upTo d a q
          obtain ⟨dk, hdk⟩ : ∃ dk, upTo d a q = dk := ⟨_, rfl⟩
          rw [hdk] at S1 hsz1
          have HDK := Lib.hid hdk
          have HX := Lib.hid hx
          have HYY := Lib.hid hy
          have hxy1 : y ≤ x + 1 := by omega
          have hxy2 : x + 1 ≤ y := by omega
          have hxl : y < len := by omega
          have hx2 : x < len := by omega
          clear hdk hx hy
          go_wp2_with fail
          have bx : (x : Int) < (len : Int) := by omega
          have bz : (y : Int) < (len : Int) := by omega
          have px : (0 : Int) ≤ (x : Int) := by omega
          have py : (0 : Int) ≤ (y : Int) := by omega
          have wx : IntKind.i64.wrap (x : Int) = (x : Int) := by rw [IntKind.wrap_i64]; omega
          have wy : IntKind.i64.wrap (y : Int) = (y : Int) := by rw [IntKind.wrap_i64]; omega
          have tx : ((x : Int)).toNat = x := by omega
          have ty : ((y : Int)).toNat = y := by omega
          have S2 := Lib.hid (S1.out.swapped R0 x y (by omega) (by omega))
          have l1 := S1.out.ld1 R0 (by omega) Try.prog x (by omega)
          have l2 := S1.out.ld1 R0 (by omega) Try.prog y (by omega)
          have s1 := S1.out.st1 R0 (by omega) Try.prog x (by omega) dk[y]!
          have s2 := S1.out.st2 R0 (by omega) Try.prog x y (by omega) (by omega) dk[y]! dk[x]!
          have n1 : (enc dk[x]!).length = k := R0.hk _
          have n2 : (enc dk[y]!).length = k := R0.hk _
          generalize enc dk[x]! = cI at S2 l1 s2 n1
          generalize enc dk[y]! = cJ at S2 l2 s1 s2 n2
          clear S1
          go_big_region
          clear l1 l2 s1 s2
          generalize (wr.drew.setCells blk (off + x * k) cJ).setCells blk (off + y * k) cI = w2 at S2 ⊢
          go_wp2
          go_roundg (t - (q + 1))
          case measure => omega
          case rel =>
            refine ⟨q + 1, ?_, by omega, rfl, ?_⟩
            · have h1 := HX.out
              go_num
            · rw [upTo, HDK.out, HX.out, HYY.out]
              exact S2
        · have hltz : ¬ (x : Int) < (i : Int) - 1 := by omega
          obtain rfl : q = t := by omega
          go_wp2
          refine bodyPost_ret (results_none rfl _ _ _) rfl ?_
          exact HR.out _ _ HUP.out S1.out

set_option maxRecDepth 1000000 in
set_option maxHeartbeats 8000000 in
theorem symm_right (enc : α → List Value) (k : Nat) (hk5 : k = 5) (cf : α → α → Int) (hO : SWO (ltOf cf)) (blk off len cap : Nat) (d0 : Array α) (w0 : World) (R0 : RowK enc k w0 blk off d0) (hs0 : d0.size = len) (hsz : len ≤ 1000000)
    (hC : CmpLays Try.prog 36 #[] enc k cf blk off len w0) (a m b : Nat) (d : Array α) (w : World) (hs : d.size = len) (S : SWK enc k w0 blk off d w) (ham : a + 1 < m) (hmb : b = m + 1) (hb : b ≤ len) (hA : SortedIn (ltOf cf) a m d) (hB : SortedIn (ltOf cf) m b d) (R : Ending → World → Prop)
    (hR : ∀ d' w', SMof (ltOf cf) a b d d' → SWK enc k w0 blk off d' w' → R (.returned (.tuple #[])) w') :
    Calls Try.prog 73 #[.slice (some ⟨blk, off, none⟩) len cap, .int .i64 a, .int .i64 m, .int .i64 b, .func (.func 36) #[] #[]] w R := by
  have HR := Lib.hid hR
  have S0 := Lib.hid S
  have HC := Lib.hid hC
  have HA := Lib.hid hA
  have HB := Lib.hid hB
  obtain ⟨Y, hY⟩ : ∃ Y, Go.sizeOf 41 = Y := ⟨_, rfl⟩
  have hYr : ∀ w, Sem.run Try.prog Y w = .ok k w := fun w => by rw [← hY, hk5]; exact size5 w
  clear hR S hC hA hB
  have e1 : (m : Int) - (a : Int) = ((m - a : Nat) : Int) := by omega
  have w1 : IntKind.i64.wrap ((m - a : Nat) : Int) = ((m - a : Nat) : Int) := by rw [IntKind.wrap_i64]; omega
  obtain ⟨ma, hma⟩ : ∃ i, m - a = i := ⟨_, rfl⟩
  rw [hma] at e1 w1
  have hd1 : ((ma : Int) == 1) = false := by simpa using fun h => (show ¬ ma = 1 by omega) (by omega)
  have hd1' : ¬ (ma : Int) = 1 := by omega
  have hm1 : m + 1 ≤ b := by omega
  have hm2 : b ≤ m + 1 := by omega
  have HBM := Lib.hid hmb
  have e2 : (b : Int) - (m : Int) = 1 := by omega
  clear hmb
  have w2 : IntKind.i64.wrap 1 = 1 := by decide
  clear hma
  go_enter Try.func73, Try.ntmps73
  go_wp2
  go_loopg [14, 15] (m - a) (fun gn s14 s15 wr => ∃ (i j : Nat), s14 = .int .i64 i ∧ s15 = .int .i64 j ∧ a ≤ i ∧ i ≤ j ∧ j ≤ m ∧ j - i ≤ gn ∧ Hid (∀ p, a ≤ p → p < i → ltOf cf d[m]! d[p]! = false) ∧ Hid (∀ p, j ≤ p → p < m → ltOf cf d[m]! d[p]! = true) ∧ Hid (SWK enc k w0 blk off d wr))
  case atStart => exact ⟨a, m, rfl, rfl, Nat.le_refl _, by omega, Nat.le_refl _, Nat.le_refl _, fun p h1 h2 => by omega, fun p h1 h2 => by omega, S0⟩
  case round =>
    obtain ⟨i, j, rfl, rfl, hmi, hij, hjb, hgn, HL, HG, S1⟩ := hrel
    clear S0
    by_cases hlt : i < j
    · have hltz : (i : Int) < (j : Int) := by omega
      obtain ⟨c, hc⟩ : ∃ c, (i + j) / 2 = c := ⟨_, rfl⟩
      have ecz : ((i : Int) + (j : Int)) / 2 = (c : Int) := by omega
      have hc1 : i ≤ c := by omega
      have hc2 : c < j := by omega
      have wc : IntKind.i64.wrap (c : Int) = (c : Int) := by rw [IntKind.wrap_i64]; omega
      have wa : IntKind.i64.wrap (m : Int) = (m : Int) := by rw [IntKind.wrap_i64]; omega
      have bc : (c : Int) < (len : Int) := by omega
      have ba : (m : Int) < (len : Int) := by omega
      have pc : (0 : Int) ≤ (c : Int) := by omega
      have pa : (0 : Int) ≤ (m : Int) := by omega
      have tc : ((c : Int)).toNat = c := by omega
      have ta : ((m : Int)).toNat = m := by omega
      clear hc
      go_wp2_with fail
      obtain ⟨p0, p1, p2, p3, p4, hpe, l0, l1, l2, l3, l4⟩ := swk_cell5 hk5 S1.out R0 (by omega) m (by omega)
      obtain ⟨q0, q1, q2, q3, q4, hqe, m0, m1, m2, m3, m4⟩ := swk_cell5 hk5 S1.out R0 (by omega) c (by omega)
      have hcg := fun n os => S1.out.cmp HC.out (by omega) d[m]! d[c]! n os
      rw [hpe, hqe] at hcg
      obtain ⟨ux, hux⟩ : ∃ u, d[m]! = u := ⟨_, rfl⟩
      obtain ⟨uc, huc⟩ : ∃ u, d[c]! = u := ⟨_, rfl⟩
      rw [hux, huc] at hcg
      have HUX := Lib.hid hux
      have HUC := Lib.hid huc
      clear hux huc hpe hqe
      by_cases hlv : cf ux uc < 0
      · have hd0 : decide (cf ux uc < 0) = true := decide_eq_true hlv
        (refine wp_region_quiet_grown (by kernel_rfl) (by kernel_rfl) ?_; (repeat (go_big_quiet_step (first | (refine Calls.grown_of (hcg _ _))))); refine wpQuiet_nil ?_; intro _ hw'; obtain ⟨⟨nq, osq⟩, hw''⟩ := hw'; subst hw'')
        clear l0 l1 l2 l3 l4 m0 m1 m2 m3 m4 hcg
        have S5 := Lib.hid (S1.out.grown nq osq)
        go_wp2
        go_roundg (c - i)
        case measure => omega
        case rel =>
          refine ⟨i, c, rfl, rfl, hmi, hc1, by omega, Nat.le_refl _, HL, fun p h1 h2 => ?_, S5⟩
          have h3 : ltOf cf d[m]! d[c]! = true := by rw [HUX.out, HUC.out]; exact hd0
          cases h4 : ltOf cf d[m]! d[p]! with
          | true => rfl
          | false =>
            have h5 : ltOf cf d[p]! d[c]! = false := sorted_le hO HA.out (by omega) h1 h2
            rw [hO.ntrans _ _ _ h4 h5] at h3
            cases h3
      · have hd0 : decide (cf ux uc < 0) = false := decide_eq_false hlv
        (refine wp_region_quiet_grown (by kernel_rfl) (by kernel_rfl) ?_; (repeat (go_big_quiet_step (first | (refine Calls.grown_of (hcg _ _))))); refine wpQuiet_nil ?_; intro _ hw'; obtain ⟨⟨nq, osq⟩, hw''⟩ := hw'; subst hw'')
        clear l0 l1 l2 l3 l4 m0 m1 m2 m3 m4 hcg
        have S5 := Lib.hid (S1.out.grown nq osq)
        go_wp2
        go_roundg (j - (c + 1))
        case measure => omega
        case rel =>
          refine ⟨c + 1, j, by go_num, rfl, by omega, by omega, hjb, Nat.le_refl _, fun p h1 h2 => ?_, HG, S5⟩
          have h3 : ltOf cf d[m]! d[c]! = false := by rw [HUX.out, HUC.out]; exact hd0
          exact hO.ntrans _ _ _ h3 (sorted_le hO HA.out (by omega) (by omega) (by omega))
    · obtain rfl : i = j := by omega
      obtain ⟨t, ht⟩ : ∃ t, m - i = t := ⟨_, rfl⟩
      have HUP := Lib.hid (down_sorted hO (a := a) (m := m) (i := i) (d := d) hmi hjb (by omega) HA.out HL.out HG.out)
      rw [ht, ← HBM.out] at HUP
      clear HL HG
      have S1' : Hid (SWK enc k w0 blk off (downTo d m 0) wr) := S1
      obtain ⟨wo, rfl⟩ : ∃ x, x = wr := ⟨_, rfl⟩
      clear hk5
      go_wp2
      go_loopg [17] t (fun gn s17 wr => ∃ (q : Nat), s17 = .int .i64 ((m - q : Nat) : Int) ∧ q ≤ t ∧ gn = t - q ∧ Hid (SWK enc k w0 blk off (downTo d m q) wr))
      case atStart => exact ⟨0, rfl, Nat.zero_le _, by omega, S1'⟩
      case round =>
        obtain ⟨q, rfl, hqt, rfl, S1⟩ := hrel
        obtain ⟨x, hx⟩ : ∃ x, m - q = x := ⟨_, rfl⟩
        rw [hx]
        by_cases hlt2 : q < t
        · have hltz : (i : Int) < (x : Int) := by omega
          obtain ⟨y, hy⟩ : ∃ y, x - 1 = y := ⟨_, rfl⟩
          have ey : (x : Int) - 1 = (y : Int) := by omega
          have hsz1 := size_downTo d m q
          obtain ⟨dk, hdk⟩ : ∃ dk, downTo d m q = dk := ⟨_, rfl⟩
          rw [hdk] at S1 hsz1
          have HDK := Lib.hid hdk
          have HX := Lib.hid hx
          have HYY := Lib.hid hy
          have hxy1 : x ≤ y + 1 := by omega
          have hxy2 : y + 1 ≤ x := by omega
          have hxl : y < len := by omega
          have hx2 : x < len := by omega
          clear hdk hx hy
          go_wp2_with fail
          have bx : (x : Int) < (len : Int) := by omega
          have bz : (y : Int) < (len : Int) := by omega
          have px : (0 : Int) ≤ (x : Int) := by omega
          have py : (0 : Int) ≤ (y : Int) := by omega
          have wx : IntKind.i64.wrap (x : Int) = (x : Int) := by rw [IntKind.wrap_i64]; omega
          have wy : IntKind.i64.wrap (y : Int) = (y : Int) := by rw [IntKind.wrap_i64]; omega
          have tx : ((x : Int)).toNat = x := by omega
          have ty : ((y : Int)).toNat = y := by omega
          have S2 := Lib.hid (S1.out.swapped R0 x y (by omega) (by omega))
          have l1 := S1.out.ld1 R0 (by omega) Try.prog x (by omega)
          have l2 := S1.out.ld1 R0 (by omega) Try.prog y (by omega)
          have s1 := S1.out.st1 R0 (by omega) Try.prog x (by omega) dk[y]!
          have s2 := S1.out.st2 R0 (by omega) Try.prog x y (by omega) (by omega) dk[y]! dk[x]!
          have n1 : (enc dk[x]!).length = k := R0.hk _
          have n2 : (enc dk[y]!).length = k := R0.hk _
          generalize enc dk[x]! = cI at S2 l1 s2 n1
          generalize enc dk[y]! = cJ at S2 l2 s1 s2 n2
          clear S1
          go_big_region
          clear l1 l2 s1 s2
          generalize (wr.drew.setCells blk (off + x * k) cJ).setCells blk (off + y * k) cI = w2 at S2 ⊢
          go_wp2
          go_roundg (t - (q + 1))
          case measure => omega
          case rel =>
            refine ⟨q + 1, ?_, by omega, rfl, ?_⟩
            · have h1 := HX.out
              have h2 : m - (q + 1) = y := by omega
              rw [h2]
            · rw [downTo, HDK.out, HX.out, HYY.out]
              exact S2
        · have hltz : ¬ (i : Int) < (x : Int) := by omega
          obtain rfl : q = t := by omega
          go_wp2
          refine bodyPost_ret (results_none rfl _ _ _) rfl ?_
          exact HR.out _ _ HUP.out S1.out
end
end Go.Proofs.Ytpodgocmcnkfdaa
