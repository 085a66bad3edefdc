/- The library's merge in place (symMerge) at tables, walked: the search, the rotation, the two halves. -/
import Derived.Test.YtpodgocmcnkfdaaSymW
namespace Go.Proofs.Ytpodgocmcnkfdaa
open Go.RowKit Go.Sort Go.Shelf

section
variable {α : Type} [Inhabited α]

theorem swk_cells {enc : α → List Value} {k : Nat} {w0 W : World} {blk off : Nat} {dk d0 : Array α} (hk5 : k = 5) (S : SWK enc k w0 blk off dk W) (R0 : RowK enc k w0 blk off d0) (hs : dk.size = d0.size) (i : Nat) (hi : i < dk.size) :
    ∃ v0 v1 v2 v3 v4, enc dk[i]! = [v0, v1, v2, v3, v4] ∧ (∀ n os, (grow (W.drewN n) os).cell? ⟨blk, off + i * 5, none⟩ = some v0) ∧ (∀ n os, (grow (W.drewN n) os).cell? ⟨blk, off + i * 5 + 1, none⟩ = some v1) ∧ (∀ n os, (grow (W.drewN n) os).cell? ⟨blk, off + i * 5 + 2, none⟩ = some v2) ∧ (∀ n os, (grow (W.drewN n) os).cell? ⟨blk, off + i * 5 + 3, none⟩ = some v3) ∧ (∀ n os, (grow (W.drewN n) os).cell? ⟨blk, off + i * 5 + 4, none⟩ = some v4) := by
  have hl := R0.hk dk[i]!
  have hc := fun n os => HoldsK.cells ((S.grown n os).holds R0.hblk R0.hH hs) R0.hk hi
  subst hk5
  match h : enc dk[i]!, hl with
  | [v0, v1, v2, v3, v4], _ =>
    rw [h] at hc
    exact ⟨v0, v1, v2, v3, v4, rfl, fun n os => hc n os 0 v0 rfl, fun n os => hc n os 1 v1 rfl, fun n os => hc n os 2 v2 rfl, fun n os => hc n os 3 v3 rfl, fun n os => hc n os 4 v4 rfl⟩

/-- What is known of a merge of shorter ranges. -/
def MergesTo (enc : α → List Value) (k : Nat) (cf : α → α → Int) (blk off len cap : Nat) (w0 : World) (N : Nat) : Prop :=
  ∀ (a m b : Nat) (d : Array α) (w : World), b - a ≤ N → d.size = len → SWK enc k w0 blk off d w → a < m → m < b → b ≤ len → SortedIn (ltOf cf) a m d → SortedIn (ltOf cf) m b d → ∀ (R : Ending → World → Prop),
    (∀ d' w', SMof (ltOf cf) a b d d' → SWK enc k w0 blk off d' w' → R (.returned (.tuple #[])) w') →
    Calls Try.prog 73 #[.slice (some ⟨blk, off, none⟩) len cap, .int .i64 a, .int .i64 m, .int .i64 b, .func (.func 36) #[] #[]] w R

set_option maxRecDepth 1000000 in
set_option maxHeartbeats 8000000 in
theorem symm_gen (enc : α → List Value) (k : Nat) (hk5 : k = 5) (cf : α → α → Int) (hO : SWO (ltOf cf)) (blk off len cap : Nat) (d0 : Array α) (w0 : World) (R0 : RowK enc k w0 blk off d0) (hs0 : d0.size = len) (hsz : len ≤ 1000000)
    (hC : CmpLays Try.prog 36 #[] enc k cf blk off len w0) (N : Nat) (ih : MergesTo enc k cf blk off len cap w0 N) (a m b : Nat) (d : Array α) (w : World) (hN : b - a ≤ N + 1) (hs : d.size = len) (S : SWK enc k w0 blk off d w) (ham : a + 1 < m) (hmb : m + 1 < b) (hb : b ≤ len) (hA : SortedIn (ltOf cf) a m d) (hB : SortedIn (ltOf cf) m b d) (R : Ending → World → Prop)
    (hR : ∀ d' w', SMof (ltOf cf) a b d d' → SWK enc k w0 blk off d' w' → R (.returned (.tuple #[])) w') :
    Calls Try.prog 73 #[.slice (some ⟨blk, off, none⟩) len cap, .int .i64 a, .int .i64 m, .int .i64 b, .func (.func 36) #[] #[]] w R := by
  have HR := Lib.hid hR
  have S0 := Lib.hid S
  have HC := Lib.hid hC
  have HA := Lib.hid hA
  have HB := Lib.hid hB
  have IH := Lib.hid ih
  obtain ⟨Y, hY⟩ : ∃ Y, Go.sizeOf 41 = Y := ⟨_, rfl⟩
  have hYr : ∀ w, Sem.run Try.prog Y w = .ok k w := fun w => by rw [← hY, hk5]; exact size5 w
  clear hR S hC hA hB ih
  have e1 : (m : Int) - (a : Int) = ((m - a : Nat) : Int) := by omega
  have w1 : IntKind.i64.wrap ((m - a : Nat) : Int) = ((m - a : Nat) : Int) := by rw [IntKind.wrap_i64]; omega
  obtain ⟨ma, hma⟩ : ∃ i, m - a = i := ⟨_, rfl⟩
  rw [hma] at e1 w1
  have hd1 : ((ma : Int) == 1) = false := by simpa using fun h => (show ¬ ma = 1 by omega) (by omega)
  have hd1' : ¬ (ma : Int) = 1 := by omega
  have e2 : (b : Int) - (m : Int) = ((b - m : Nat) : Int) := by omega
  have w2 : IntKind.i64.wrap ((b - m : Nat) : Int) = ((b - m : Nat) : Int) := by rw [IntKind.wrap_i64]; omega
  obtain ⟨bm, hbm⟩ : ∃ i, b - m = i := ⟨_, rfl⟩
  rw [hbm] at e2 w2
  have hd2 : ((bm : Int) == 1) = false := by simpa using fun h => (show ¬ bm = 1 by omega) (by omega)
  have hd2' : ¬ (bm : Int) = 1 := by omega
  have ham : a < m := by omega
  have hmb : m < b := by omega
  clear hma hbm
  obtain ⟨mid, hmid⟩ : ∃ mid, (a + b) / 2 = mid := ⟨_, rfl⟩
  have HMID := Lib.hid hmid.symm
  have hmz : ((a : Int) + (b : Int)) / 2 = (mid : Int) := by omega
  have wm : IntKind.i64.wrap (mid : Int) = (mid : Int) := by rw [IntKind.wrap_i64]; omega
  have hlo := seek_lo (a := a) (m := m) (b := b) (mid := mid) ham hmb hmid.symm
  have SK0 : Hid (Seek (ltOf cf) d (seekLo a m b mid) (seekHi m mid) (mid + m - 1) (seekLo a m b mid) (seekHi m mid)) := ⟨Nat.le_refl _, hlo.2.1, Nat.le_refl _, fun c h1 h2 => by omega, fun c h1 h2 => by omega⟩
  have HPP : Hid (∀ c, seekLo a m b mid ≤ c → c < seekHi m mid → m ≤ mid + m - 1 - c ∧ mid + m - 1 - c < b ∧ c ≤ mid + m - 1) := fun c h1 h2 => seek_at ham hmb hmid.symm h1 h2
  have HCUT : Hid (∀ s, Seek (ltOf cf) d (seekLo a m b mid) (seekHi m mid) (mid + m - 1) s s → CutAt (ltOf cf) d a m b mid s) := fun s h => h.cut ham hmb hmid.symm
  have hmb2 : mid < b := by omega
  have ham2 : a ≤ mid := by omega
  clear hmid
  by_cases hmm : mid < m
  · have hmmz : (mid : Int) < (m : Int) := by omega
    have hlo' : seekLo a m b mid = mid + m - b := by unfold seekLo; rw [if_pos hmm]
    have hhi' : seekHi m mid = mid := by unfold seekHi; rw [if_pos hmm]
    rw [hlo', hhi'] at SK0 HPP HCUT hlo
    have eL : ((mid : Int) + (m : Int)) - (b : Int) = ((mid + m - b : Nat) : Int) := by omega
    have wL : IntKind.i64.wrap ((mid + m - b : Nat) : Int) = ((mid + m - b : Nat) : Int) := by rw [IntKind.wrap_i64]; omega
    obtain ⟨lo, hlo0⟩ : ∃ lo, mid + m - b = lo := ⟨_, rfl⟩
    rw [hlo0] at SK0 HPP HCUT hlo eL wL
    clear hlo' hhi' hlo0
    go_enter Try.func73, Try.ntmps73
    go_wp2
    go_loopg [20, 21] (mid - lo) (fun gn s20 s21 wr => ∃ (s r : Nat), s20 = .int .i64 s ∧ s21 = .int .i64 r ∧ s ≤ r ∧ r ≤ mid ∧ lo ≤ s ∧ r - s ≤ gn ∧ Hid (Seek (ltOf cf) d lo mid (mid + m - 1) s r) ∧ Hid (SWK enc k w0 blk off d wr))
    case atStart => exact ⟨lo, mid, rfl, rfl, hlo.2.1, Nat.le_refl _, Nat.le_refl _, Nat.le_refl _, SK0, S0⟩
    case round =>
      obtain ⟨s, r, rfl, rfl, hsr, hr2, hs1, hgn, SK, S1⟩ := hrel
      clear S0 SK0
      by_cases hlt : s < r
      · have hltz : (s : Int) < (r : Int) := by omega
        obtain ⟨c, hc⟩ : ∃ c, (s + r) / 2 = c := ⟨_, rfl⟩
        have ecz : ((s : Int) + (r : Int)) / 2 = (c : Int) := by omega
        have hc1 : s ≤ c := by omega
        have hc2 : c < r := by omega
        have hpp := HPP.out c (by omega) (by omega)
        obtain ⟨x, hx⟩ : ∃ x, mid + m - 1 - c = x := ⟨_, rfl⟩
        rw [hx] at hpp
        have ex : ((mid : Int) + (m : Int) - 1) - (c : Int) = (x : Int) := by omega
        have wx : IntKind.i64.wrap (x : Int) = (x : Int) := by rw [IntKind.wrap_i64]; omega
        have wc : IntKind.i64.wrap (c : Int) = (c : Int) := by rw [IntKind.wrap_i64]; omega
        have bx : (x : Int) < (len : Int) := by omega
        have bc : (c : Int) < (len : Int) := by omega
        have px : (0 : Int) ≤ (x : Int) := by omega
        have pc : (0 : Int) ≤ (c : Int) := by omega
        have tx : ((x : Int)).toNat = x := by omega
        have tc : ((c : Int)).toNat = c := by omega
        have HX := Lib.hid hx
        clear hc hx
        go_wp2_with fail
        obtain ⟨p0, p1, p2, p3, p4, hpe, l0, l1, l2, l3, l4⟩ := swk_cells hk5 S1.out R0 (by omega) x (by omega)
        obtain ⟨q0, q1, q2, q3, q4, hqe, m0, m1, m2, m3, m4⟩ := swk_cells hk5 S1.out R0 (by omega) c (by omega)
        have hcg := fun n os => S1.out.cmp HC.out (by omega) d[x]! d[c]! n os
        rw [hpe, hqe] at hcg
        obtain ⟨ux, hux⟩ : ∃ u, d[x]! = u := ⟨_, rfl⟩
        obtain ⟨uc, huc⟩ : ∃ u, d[c]! = u := ⟨_, rfl⟩
        rw [hux, huc] at hcg
        have HUX := Lib.hid hux
        have HUC := Lib.hid huc
        clear hux huc hpe hqe
        by_cases hlv : cf ux uc < 0
        · have hd0 : decide (cf ux uc < 0) = true := decide_eq_true hlv
          (refine wp_region_quiet_grown (by kernel_rfl) (by kernel_rfl) ?_; (repeat (go_big_quiet_step (first | (refine Calls.grown_of (hcg _ _))))); refine wpQuiet_nil ?_; intro _ hw'; obtain ⟨⟨nq, osq⟩, hw''⟩ := hw'; subst hw'')
          clear l0 l1 l2 l3 l4 m0 m1 m2 m3 m4 hcg
          have S5 := Lib.hid (S1.out.grown nq osq)
          go_wp2
          go_roundg (c - s)
          case measure => omega
          case rel =>
            refine ⟨s, c, rfl, rfl, hc1, by omega, hs1, Nat.le_refl _, ?_, S5⟩
            exact SK.out.back hO HA.out HB.out hlo.1 hlo.2.2 HPP.out hc1 hc2 (by rw [HX.out, HUX.out, HUC.out]; exact hd0)
        · have hd0 : decide (cf ux uc < 0) = false := decide_eq_false hlv
          (refine wp_region_quiet_grown (by kernel_rfl) (by kernel_rfl) ?_; (repeat (go_big_quiet_step (first | (refine Calls.grown_of (hcg _ _))))); refine wpQuiet_nil ?_; intro _ hw'; obtain ⟨⟨nq, osq⟩, hw''⟩ := hw'; subst hw'')
          clear l0 l1 l2 l3 l4 m0 m1 m2 m3 m4 hcg
          have S5 := Lib.hid (S1.out.grown nq osq)
          go_wp2
          go_roundg (r - (c + 1))
          case measure => omega
          case rel =>
            refine ⟨c + 1, r, by go_num, rfl, by omega, hr2, by omega, Nat.le_refl _, ?_, S5⟩
            exact SK.out.go hO HA.out HB.out hlo.1 hlo.2.2 HPP.out hc1 hc2 (by rw [HX.out, HUX.out, HUC.out]; exact hd0)
      · obtain rfl : s = r := by omega
        have hcut := HCUT.out s SK.out
        have c1 := hcut.sm
        have c2 := hcut.smid
        have c3 := hcut.eb
        have c4 := hcut.me
        have c5 := hcut.lo
        have HCU := Lib.hid hcut
        clear SK HPP HCUT hcut
        obtain ⟨e, he⟩ : ∃ e, mid + m - s = e := ⟨_, rfl⟩
        have ez : (mid : Int) + (m : Int) - (s : Int) = (e : Int) := by omega
        have we : IntKind.i64.wrap (e : Int) = (e : Int) := by rw [IntKind.wrap_i64]; omega
        have wmm : IntKind.i64.wrap ((mid : Int) + (m : Int)) = (mid : Int) + (m : Int) := by rw [IntKind.wrap_i64]; omega
        rw [he] at c3 c4
        have HE := Lib.hid he
        by_cases hsm : s < mid
        · have hsmz : (s : Int) < (mid : Int) := by omega
          have z1 : (s : Int) < (m : Int) := by omega
          have z2 : (m : Int) < (e : Int) := by omega
          have z3 : (mid : Int) < (e : Int) := by omega
          by_cases hl : a < s
          · have hlz : (a : Int) < (s : Int) := by omega
            by_cases ht : e < b
            · have htz : (e : Int) < (b : Int) := by omega
              go_wp2_with (first | (go_at_call 76; go_must (refine rotate_any enc k hk5 _ blk off len cap s m e d0 d w0 _ R0 hs0 hs S1.out (by omega) (by omega) (by omega) hsz _ ?_); intro d1 w5 RO S5; rw [← HE.out] at RO; have HRO := Lib.hid RO; have HALL := Lib.hid (HCU.out.all hO HA.out HB.out RO); have hz1 := RO.size.trans hs; have S5 := Lib.hid S5; clear RO) | (go_at_call_of 73 (Value.int .i64 (a : Int)); go_must (refine IH.out a s mid d1 _ (by omega) hz1 S5.out (by omega) (by omega) (by omega) HALL.out.1 HALL.out.2.1 _ ?_); intro d2 w6 SM2 S6; have SM2 := Lib.hid SM2; have hz2 := SM2.out.1.1.trans hz1; have S6 := Lib.hid S6) | (go_at_call_of 73 (Value.int .i64 (b : Int)); go_must (refine IH.out mid e b d2 _ (by omega) (by omega) S6.out (by omega) (by omega) (by omega) ?_ ?_ _ ?_); exact (by have h := HALL.out.2.2.1; rw [HE.out] at h; exact h.congr fun p hp _ => SM2.out.1.2.1 p (.inr hp)); exact (by have h := HALL.out.2.2.2.1; rw [HE.out] at h; exact h.congr fun p hp _ => SM2.out.1.2.1 p (.inr (by omega))); intro d3 w7 SM3 S7; have SM3 := Lib.hid SM3; have S7 := Lib.hid S7))
              go_end0; exact HR.out d3 _ (halves hO (by omega) HCU.out HA.out HB.out HRO.out (.inl ⟨hl, hsm, SM2.out⟩) (.inl ⟨by omega, by omega, SM3.out⟩)) S7.out
            · have htz : ¬ (e : Int) < (b : Int) := by omega
              go_wp2_with (first | (go_at_call 76; go_must (refine rotate_any enc k hk5 _ blk off len cap s m e d0 d w0 _ R0 hs0 hs S1.out (by omega) (by omega) (by omega) hsz _ ?_); intro d1 w5 RO S5; rw [← HE.out] at RO; have HRO := Lib.hid RO; have HALL := Lib.hid (HCU.out.all hO HA.out HB.out RO); have hz1 := RO.size.trans hs; have S5 := Lib.hid S5; clear RO) | (go_at_call_of 73 (Value.int .i64 (a : Int)); go_must (refine IH.out a s mid d1 _ (by omega) hz1 S5.out (by omega) (by omega) (by omega) HALL.out.1 HALL.out.2.1 _ ?_); intro d2 w6 SM2 S6; have SM2 := Lib.hid SM2; have hz2 := SM2.out.1.1.trans hz1; have S6 := Lib.hid S6))
              go_end0; exact HR.out d2 _ (halves hO (by omega) HCU.out HA.out HB.out HRO.out (.inl ⟨hl, hsm, SM2.out⟩) (.inr ⟨by omega, rfl⟩)) S6.out
          · have hlz : ¬ (a : Int) < (s : Int) := by omega
            by_cases ht : e < b
            · have htz : (e : Int) < (b : Int) := by omega
              go_wp2_with (first | (go_at_call 76; go_must (refine rotate_any enc k hk5 _ blk off len cap s m e d0 d w0 _ R0 hs0 hs S1.out (by omega) (by omega) (by omega) hsz _ ?_); intro d1 w5 RO S5; rw [← HE.out] at RO; have HRO := Lib.hid RO; have HALL := Lib.hid (HCU.out.all hO HA.out HB.out RO); have hz1 := RO.size.trans hs; have S5 := Lib.hid S5; clear RO) | (go_at_call_of 73 (Value.int .i64 (b : Int)); go_must (refine IH.out mid e b d1 _ (by omega) (by omega) S5.out (by omega) (by omega) (by omega) ?_ ?_ _ ?_); exact (by have h := HALL.out.2.2.1; rw [HE.out] at h; exact h); exact (by have h := HALL.out.2.2.2.1; rw [HE.out] at h; exact h); intro d3 w7 SM3 S7; have SM3 := Lib.hid SM3; have S7 := Lib.hid S7))
              go_end0; exact HR.out d3 _ (halves hO (by omega) HCU.out HA.out HB.out HRO.out (.inr ⟨by omega, rfl⟩) (.inl ⟨by omega, by omega, SM3.out⟩)) S7.out
            · have htz : ¬ (e : Int) < (b : Int) := by omega
              go_wp2_with (first | (go_at_call 76; go_must (refine rotate_any enc k hk5 _ blk off len cap s m e d0 d w0 _ R0 hs0 hs S1.out (by omega) (by omega) (by omega) hsz _ ?_); intro d1 w5 RO S5; rw [← HE.out] at RO; have HRO := Lib.hid RO; have HALL := Lib.hid (HCU.out.all hO HA.out HB.out RO); have hz1 := RO.size.trans hs; have S5 := Lib.hid S5; clear RO))
              go_end0; exact HR.out d1 _ (halves hO (by omega) HCU.out HA.out HB.out HRO.out (.inr ⟨by omega, rfl⟩) (.inr ⟨by omega, rfl⟩)) S5.out
        · have hsmz : ¬ (s : Int) < (mid : Int) := by omega
          have z1 : (s : Int) < (m : Int) := by omega
          have z2 : ¬ (m : Int) < (e : Int) := by omega
          have z3 : (mid : Int) < (e : Int) := by omega
          have z4 : (e : Int) < (b : Int) := by omega
          have HRO : Hid (RotOf s m (mid + m - s) d d) := RotOf.eqn d s m (mid + m - s) (by omega) (by omega) (by omega)
          have HALL := Lib.hid (HCU.out.all hO HA.out HB.out HRO.out)
          have hz1 := hs
          by_cases hl : a < s
          · have hlz : (a : Int) < (s : Int) := by omega
            go_wp2_with (first | (go_at_call_of 73 (Value.int .i64 (b : Int)); go_must (refine IH.out mid e b d _ (by omega) (by omega) S1.out (by omega) (by omega) (by omega) ?_ ?_ _ ?_); exact (by have h := HALL.out.2.2.1; rw [HE.out] at h; exact h); exact (by have h := HALL.out.2.2.2.1; rw [HE.out] at h; exact h); intro d3 w7 SM3 S7; have SM3 := Lib.hid SM3; have S7 := Lib.hid S7))
            go_end0; exact HR.out d3 _ (halves hO (by omega) HCU.out HA.out HB.out HRO.out (.inr ⟨by omega, rfl⟩) (.inl ⟨by omega, by omega, SM3.out⟩)) S7.out
          · have hlz : ¬ (a : Int) < (s : Int) := by omega
            go_wp2_with (first | (go_at_call_of 73 (Value.int .i64 (b : Int)); go_must (refine IH.out mid e b d _ (by omega) (by omega) S1.out (by omega) (by omega) (by omega) ?_ ?_ _ ?_); exact (by have h := HALL.out.2.2.1; rw [HE.out] at h; exact h); exact (by have h := HALL.out.2.2.2.1; rw [HE.out] at h; exact h); intro d3 w7 SM3 S7; have SM3 := Lib.hid SM3; have S7 := Lib.hid S7))
            go_end0; exact HR.out d3 _ (halves hO (by omega) HCU.out HA.out HB.out HRO.out (.inr ⟨by omega, rfl⟩) (.inl ⟨by omega, by omega, SM3.out⟩)) S7.out
  · have hmmz : ¬ (mid : Int) < (m : Int) := by omega
    have hlo' : seekLo a m b mid = a := by unfold seekLo; rw [if_neg hmm]
    have hhi' : seekHi m mid = m := by unfold seekHi; rw [if_neg hmm]
    rw [hlo', hhi'] at SK0 HPP HCUT hlo
    clear hlo' hhi'
    go_enter Try.func73, Try.ntmps73
    go_wp2
    go_loopg [20, 21] (m - a) (fun gn s20 s21 wr => ∃ (s r : Nat), s20 = .int .i64 s ∧ s21 = .int .i64 r ∧ s ≤ r ∧ r ≤ m ∧ a ≤ s ∧ r - s ≤ gn ∧ Hid (Seek (ltOf cf) d a m (mid + m - 1) s r) ∧ Hid (SWK enc k w0 blk off d wr))
    case atStart => exact ⟨a, m, rfl, rfl, hlo.2.1, Nat.le_refl _, Nat.le_refl _, Nat.le_refl _, SK0, S0⟩
    case round =>
      obtain ⟨s, r, rfl, rfl, hsr, hr2, hs1, hgn, SK, S1⟩ := hrel
      clear S0 SK0
      by_cases hlt : s < r
      · have hltz : (s : Int) < (r : Int) := by omega
        obtain ⟨c, hc⟩ : ∃ c, (s + r) / 2 = c := ⟨_, rfl⟩
        have ecz : ((s : Int) + (r : Int)) / 2 = (c : Int) := by omega
        have hc1 : s ≤ c := by omega
        have hc2 : c < r := by omega
        have hpp := HPP.out c (by omega) (by omega)
        obtain ⟨x, hx⟩ : ∃ x, mid + m - 1 - c = x := ⟨_, rfl⟩
        rw [hx] at hpp
        have ex : ((mid : Int) + (m : Int) - 1) - (c : Int) = (x : Int) := by omega
        have wx : IntKind.i64.wrap (x : Int) = (x : Int) := by rw [IntKind.wrap_i64]; omega
        have wc : IntKind.i64.wrap (c : Int) = (c : Int) := by rw [IntKind.wrap_i64]; omega
        have bx : (x : Int) < (len : Int) := by omega
        have bc : (c : Int) < (len : Int) := by omega
        have px : (0 : Int) ≤ (x : Int) := by omega
        have pc : (0 : Int) ≤ (c : Int) := by omega
        have tx : ((x : Int)).toNat = x := by omega
        have tc : ((c : Int)).toNat = c := by omega
        have HX := Lib.hid hx
        clear hc hx
        go_wp2_with fail
        obtain ⟨p0, p1, p2, p3, p4, hpe, l0, l1, l2, l3, l4⟩ := swk_cells hk5 S1.out R0 (by omega) x (by omega)
        obtain ⟨q0, q1, q2, q3, q4, hqe, m0, m1, m2, m3, m4⟩ := swk_cells hk5 S1.out R0 (by omega) c (by omega)
        have hcg := fun n os => S1.out.cmp HC.out (by omega) d[x]! d[c]! n os
        rw [hpe, hqe] at hcg
        obtain ⟨ux, hux⟩ : ∃ u, d[x]! = u := ⟨_, rfl⟩
        obtain ⟨uc, huc⟩ : ∃ u, d[c]! = u := ⟨_, rfl⟩
        rw [hux, huc] at hcg
        have HUX := Lib.hid hux
        have HUC := Lib.hid huc
        clear hux huc hpe hqe
        by_cases hlv : cf ux uc < 0
        · have hd0 : decide (cf ux uc < 0) = true := decide_eq_true hlv
          (refine wp_region_quiet_grown (by kernel_rfl) (by kernel_rfl) ?_; (repeat (go_big_quiet_step (first | (refine Calls.grown_of (hcg _ _))))); refine wpQuiet_nil ?_; intro _ hw'; obtain ⟨⟨nq, osq⟩, hw''⟩ := hw'; subst hw'')
          clear l0 l1 l2 l3 l4 m0 m1 m2 m3 m4 hcg
          have S5 := Lib.hid (S1.out.grown nq osq)
          go_wp2
          go_roundg (c - s)
          case measure => omega
          case rel =>
            refine ⟨s, c, rfl, rfl, hc1, by omega, hs1, Nat.le_refl _, ?_, S5⟩
            exact SK.out.back hO HA.out HB.out hlo.1 hlo.2.2 HPP.out hc1 hc2 (by rw [HX.out, HUX.out, HUC.out]; exact hd0)
        · have hd0 : decide (cf ux uc < 0) = false := decide_eq_false hlv
          (refine wp_region_quiet_grown (by kernel_rfl) (by kernel_rfl) ?_; (repeat (go_big_quiet_step (first | (refine Calls.grown_of (hcg _ _))))); refine wpQuiet_nil ?_; intro _ hw'; obtain ⟨⟨nq, osq⟩, hw''⟩ := hw'; subst hw'')
          clear l0 l1 l2 l3 l4 m0 m1 m2 m3 m4 hcg
          have S5 := Lib.hid (S1.out.grown nq osq)
          go_wp2
          go_roundg (r - (c + 1))
          case measure => omega
          case rel =>
            refine ⟨c + 1, r, by go_num, rfl, by omega, hr2, by omega, Nat.le_refl _, ?_, S5⟩
            exact SK.out.go hO HA.out HB.out hlo.1 hlo.2.2 HPP.out hc1 hc2 (by rw [HX.out, HUX.out, HUC.out]; exact hd0)
      · obtain rfl : s = r := by omega
        have hcut := HCUT.out s SK.out
        have c1 := hcut.sm
        have c2 := hcut.smid
        have c3 := hcut.eb
        have c4 := hcut.me
        have c5 := hcut.lo
        have HCU := Lib.hid hcut
        clear SK HPP HCUT hcut
        obtain ⟨e, he⟩ : ∃ e, mid + m - s = e := ⟨_, rfl⟩
        have ez : (mid : Int) + (m : Int) - (s : Int) = (e : Int) := by omega
        have we : IntKind.i64.wrap (e : Int) = (e : Int) := by rw [IntKind.wrap_i64]; omega
        have wmm : IntKind.i64.wrap ((mid : Int) + (m : Int)) = (mid : Int) + (m : Int) := by rw [IntKind.wrap_i64]; omega
        rw [he] at c3 c4
        have HE := Lib.hid he
        by_cases hsm : s < m
        · have z1 : (s : Int) < (m : Int) := by omega
          have z2 : (m : Int) < (e : Int) := by omega
          have z3 : (mid : Int) < (e : Int) := by omega
          have hsmd : s < mid := by omega
          have hsmz : (s : Int) < (mid : Int) := by omega
          by_cases hl : a < s
          · have hlz : (a : Int) < (s : Int) := by omega
            by_cases ht : e < b
            · have htz : (e : Int) < (b : Int) := by omega
              go_wp2_with (first | (go_at_call 76; go_must (refine rotate_any enc k hk5 _ blk off len cap s m e d0 d w0 _ R0 hs0 hs S1.out (by omega) (by omega) (by omega) hsz _ ?_); intro d1 w5 RO S5; rw [← HE.out] at RO; have HRO := Lib.hid RO; have HALL := Lib.hid (HCU.out.all hO HA.out HB.out RO); have hz1 := RO.size.trans hs; have S5 := Lib.hid S5; clear RO) | (go_at_call_of 73 (Value.int .i64 (a : Int)); go_must (refine IH.out a s mid d1 _ (by omega) hz1 S5.out (by omega) (by omega) (by omega) HALL.out.1 HALL.out.2.1 _ ?_); intro d2 w6 SM2 S6; have SM2 := Lib.hid SM2; have hz2 := SM2.out.1.1.trans hz1; have S6 := Lib.hid S6) | (go_at_call_of 73 (Value.int .i64 (b : Int)); go_must (refine IH.out mid e b d2 _ (by omega) (by omega) S6.out (by omega) (by omega) (by omega) ?_ ?_ _ ?_); exact (by have h := HALL.out.2.2.1; rw [HE.out] at h; exact h.congr fun p hp _ => SM2.out.1.2.1 p (.inr hp)); exact (by have h := HALL.out.2.2.2.1; rw [HE.out] at h; exact h.congr fun p hp _ => SM2.out.1.2.1 p (.inr (by omega))); intro d3 w7 SM3 S7; have SM3 := Lib.hid SM3; have S7 := Lib.hid S7))
              go_end0; exact HR.out d3 _ (halves hO (by omega) HCU.out HA.out HB.out HRO.out (.inl ⟨hl, hsmd, SM2.out⟩) (.inl ⟨by omega, by omega, SM3.out⟩)) S7.out
            · have htz : ¬ (e : Int) < (b : Int) := by omega
              go_wp2_with (first | (go_at_call 76; go_must (refine rotate_any enc k hk5 _ blk off len cap s m e d0 d w0 _ R0 hs0 hs S1.out (by omega) (by omega) (by omega) hsz _ ?_); intro d1 w5 RO S5; rw [← HE.out] at RO; have HRO := Lib.hid RO; have HALL := Lib.hid (HCU.out.all hO HA.out HB.out RO); have hz1 := RO.size.trans hs; have S5 := Lib.hid S5; clear RO) | (go_at_call_of 73 (Value.int .i64 (a : Int)); go_must (refine IH.out a s mid d1 _ (by omega) hz1 S5.out (by omega) (by omega) (by omega) HALL.out.1 HALL.out.2.1 _ ?_); intro d2 w6 SM2 S6; have SM2 := Lib.hid SM2; have hz2 := SM2.out.1.1.trans hz1; have S6 := Lib.hid S6))
              go_end0; exact HR.out d2 _ (halves hO (by omega) HCU.out HA.out HB.out HRO.out (.inl ⟨hl, hsmd, SM2.out⟩) (.inr ⟨by omega, rfl⟩)) S6.out
          · have hlz : ¬ (a : Int) < (s : Int) := by omega
            by_cases ht : e < b
            · have htz : (e : Int) < (b : Int) := by omega
              go_wp2_with (first | (go_at_call 76; go_must (refine rotate_any enc k hk5 _ blk off len cap s m e d0 d w0 _ R0 hs0 hs S1.out (by omega) (by omega) (by omega) hsz _ ?_); intro d1 w5 RO S5; rw [← HE.out] at RO; have HRO := Lib.hid RO; have HALL := Lib.hid (HCU.out.all hO HA.out HB.out RO); have hz1 := RO.size.trans hs; have S5 := Lib.hid S5; clear RO) | (go_at_call_of 73 (Value.int .i64 (b : Int)); go_must (refine IH.out mid e b d1 _ (by omega) (by omega) S5.out (by omega) (by omega) (by omega) ?_ ?_ _ ?_); exact (by have h := HALL.out.2.2.1; rw [HE.out] at h; exact h); exact (by have h := HALL.out.2.2.2.1; rw [HE.out] at h; exact h); intro d3 w7 SM3 S7; have SM3 := Lib.hid SM3; have S7 := Lib.hid S7))
              go_end0; exact HR.out d3 _ (halves hO (by omega) HCU.out HA.out HB.out HRO.out (.inr ⟨by omega, rfl⟩) (.inl ⟨by omega, by omega, SM3.out⟩)) S7.out
            · have htz : ¬ (e : Int) < (b : Int) := by omega
              go_wp2_with (first | (go_at_call 76; go_must (refine rotate_any enc k hk5 _ blk off len cap s m e d0 d w0 _ R0 hs0 hs S1.out (by omega) (by omega) (by omega) hsz _ ?_); intro d1 w5 RO S5; rw [← HE.out] at RO; have HRO := Lib.hid RO; have HALL := Lib.hid (HCU.out.all hO HA.out HB.out RO); have hz1 := RO.size.trans hs; have S5 := Lib.hid S5; clear RO))
              go_end0; exact HR.out d1 _ (halves hO (by omega) HCU.out HA.out HB.out HRO.out (.inr ⟨by omega, rfl⟩) (.inr ⟨by omega, rfl⟩)) S5.out
        · have z1 : ¬ (s : Int) < (m : Int) := by omega
          have z3 : ¬ (mid : Int) < (e : Int) := by omega
          have hl : a < s := by omega
          have hlz : (a : Int) < (s : Int) := by omega
          have HRO : Hid (RotOf s m (mid + m - s) d d) := RotOf.eqn d s m (mid + m - s) (by omega) (by omega) (by omega)
          have HALL := Lib.hid (HCU.out.all hO HA.out HB.out HRO.out)
          have hz1 := hs
          by_cases hsmd : s < mid
          · have hsmz : (s : Int) < (mid : Int) := by omega
            go_wp2_with (first | (go_at_call_of 73 (Value.int .i64 (a : Int)); go_must (refine IH.out a s mid d _ (by omega) hz1 S1.out (by omega) (by omega) (by omega) HALL.out.1 HALL.out.2.1 _ ?_); intro d2 w6 SM2 S6; have SM2 := Lib.hid SM2; have hz2 := SM2.out.1.1.trans hz1; have S6 := Lib.hid S6))
            go_end0; exact HR.out d2 _ (halves hO (by omega) HCU.out HA.out HB.out HRO.out (.inl ⟨hl, hsmd, SM2.out⟩) (.inr ⟨by omega, rfl⟩)) S6.out
          · have hsmz : ¬ (s : Int) < (mid : Int) := by omega
            go_wp2
            go_end0; exact HR.out d _ (halves hO (by omega) HCU.out HA.out HB.out HRO.out (.inr ⟨by omega, rfl⟩) (.inr ⟨by omega, rfl⟩)) S1.out
end
end Go.Proofs.Ytpodgocmcnkfdaa
