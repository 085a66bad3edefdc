
import Derived.Test.YtgimbocoamnkjaaGreatDoorM03
import Derived.Test.YtgimbocoamnkjaaGreatDoorM01
import Derived.Test.YtgimbocoamnkjaaGreatDoorM05
import Derived.Test.YtgimbocoamnkjaaGreatDoorM04
import Derived.Deep.RegionHeld
namespace Go.Proofs.YtgimbocoamnkjaaGreatDoor
open Go.RowKit

/-- A number in base 128, the lowest digit first, of at most f + 1 digits. -/
def varF : Nat → Nat → List UInt8
  | 0, n => [b8 n]
  | f + 1, n => if n < 128 then [b8 n] else b8 ((n % 128 + 128 : Nat) : Int) :: varF f (n / 128)
def varL (n : Nat) : List UInt8 := varF 3 n

theorem varF_small (f n : Nat) (h : n < 128) : varF f n = [b8 n] := by
  cases f with
  | zero => rfl
  | succ f => simp [varF, h]
theorem varF_big (f n : Nat) (h : ¬ n < 128) : varF (f + 1) n = b8 ((n % 128 + 128 : Nat) : Int) :: varF f (n / 128) := by simp [varF, h]

theorem or128 (x : Int) (h0 : 0 ≤ x) (h1 : x < 256) : bits .or .u8 x 128 = x % 128 + 128 := by
  obtain ⟨n, rfl⟩ := Int.eq_ofNat_of_zero_le h0
  have := u8_or_nat n 128 (by omega) (by omega)
  have e : ∀ m, m < 256 → m ||| 128 = m % 128 + 128 := by decide +kernel
  rw [e n (by omega)] at this
  exact this

/-- What 'Var' gives beside its error's number. -/
def varR (n : Int) : List UInt8 × Int := if n < 0 ∨ 268435455 < n then ([], 10) else (varL n.toNat, 0)

set_option maxHeartbeats 800000 in
theorem var_any (n : Int) (V : List UInt8) (er : Int) (hV : varR n = (V, er)) (w : World) (R : Ending → World → Prop)
    (hR : ∀ ad c w', w'.ownsRow w.heap.size 5 1 (.slice ad V.length c) V.length (bv V) → Below w.heap.size w w' → R (.returned (.tuple #[.slice ad V.length c, .int .i64 er])) w') :
    Calls Tryz.prog 172 #[.int .i64 n] w R := by
  obtain rfl : V = (varR n).1 := by rw [hV]
  obtain rfl : er = (varR n).2 := by rw [hV]
  clear hV
  by_cases h1 : n < 0
  · have e : varR n = ([], 10) := by unfold varR; rw [if_pos (.inl h1)]
    rw [e] at hR
    go_enter Tryz.func172, Tryz.ntmps172
    go_wp2
    exact hR _ _ _ (World.ownsRow_nil _ _ _ _) (Below.refl _ _)
  · by_cases h2 : 268435455 < n
    · have e : varR n = ([], 10) := by unfold varR; rw [if_pos (.inr h2)]
      rw [e] at hR
      go_enter Tryz.func172, Tryz.ntmps172
      go_wp2
      exact hR _ _ _ (World.ownsRow_nil _ _ _ _) (Below.refl _ _)
    · obtain ⟨m, rfl⟩ := Int.eq_ofNat_of_zero_le (show 0 ≤ n by omega)
      have e : varR m = (varL m, 0) := by unfold varR; rw [if_neg (by omega)]; rfl
      rw [e] at hR
      clear e h1
      have hm : m < 268435456 := by omega
      clear h2
      go_enter Tryz.func172, Tryz.ntmps172
      go_wp2
      go_loopw [0, 4] (fun x y wr => ∃ f cur : Nat, cur < 128 ^ (f + 1) ∧ cur < 268435456 ∧ x = .int .i64 cur ∧ (∃ ad c, ∃ acc : List UInt8, Hid (acc ++ varF f cur = varL m) ∧ acc.length + (f + 1) ≤ 4 ∧ y = .slice ad acc.length c ∧ wr.ownsRow w.heap.size 5 1 (.slice ad acc.length c) acc.length (bv acc)) ∧ Below w.heap.size w wr) (fun x _ _ => (intOf x).toNat)
      case atStart => exact ⟨3, m, by omega, hm, rfl, ⟨_, _, [], rfl, by simp, rfl, World.ownsRow_nil _ _ _ _⟩, Below.refl _ _⟩
      case round =>
        obtain ⟨f, cur, hf, hc2, rfl, ⟨ad, c, acc, hacc, hal, rfl, hown⟩, hb⟩ := hrel
        by_cases hlt : cur < 128
        · have H := Lib.hid hacc.out
          rw [varF_small f cur hlt] at H
          have hsz := hb.size
          clear hacc hf
          go_wp2_with (at_builtin; go_must (refine wpList_app (by rfl) (.tmp 21) (.tmp 24) 22 (by rfl) w.heap.size 5 (.int .u8 0) 1 1 Tryz.underlying22 Tryz.info5 rfl (by decide) _ _ _ _ rfl (World.ownsRow.alloc hown _) _ _ _ _ rfl (rd_lit _ _ _ 1 1 rfl) (one_oneCell _ _) (by simp) (by unfold maxLen; omega) (by omega) (by simp; omega) ?_))
          intro ad3 c3 w3 hown3 hg3
          have hb3 := below_app (hb.alloc hsz _) hg3 (by simp; omega) (hown.alloc _)
          have hown4 := own_snoc8 (b8 (cur : Int)) (by rw [b8_toNat]; omega) hown3
          rw [H.out] at hown4
          have hl : acc.length + 1 = (varL m).length := by rw [← H.out]; simp
          rw [hl] at hown4 ⊢
          go_wp2
          exact hR _ _ _ hown4 hb3
        · cases f with
          | zero => omega
          | succ f =>
            have H := Lib.hid hacc.out
            rw [varF_big f cur hlt] at H
            have hsz := hb.size
            have hor := or128 (cur % 256) (by omega) (by omega)
            have HO := Lib.hid hor
            have hf2 : cur / 128 < 128 ^ (f + 1) := by
              rw [Nat.pow_succ] at hf
              exact Nat.div_lt_of_lt_mul (by rw [Nat.mul_comm]; exact hf)
            have HF := Lib.hid hf2
            clear hacc hf hor hf2
            go_wp2_with (at_builtin; go_must (refine wpList_app (by rfl) (.tmp 15) (.tmp 19) 22 (by rfl) w.heap.size 5 (.int .u8 0) 1 1 Tryz.underlying22 Tryz.info5 rfl (by decide) _ _ _ _ rfl (World.ownsRow.alloc hown _) _ _ _ _ rfl (rd_lit _ _ _ 1 1 rfl) (one_oneCell _ _) (by simp) (by unfold maxLen; omega) (by omega) (by simp; omega) ?_))
            intro ad3 c3 w3 hown3 hg3
            have hb3 := below_app (hb.alloc hsz _) hg3 (by simp; omega) (hown.alloc _)
            have hown4 := own_snoc8 (b8 ((cur % 128 + 128 : Nat) : Int)) (by rw [b8_toNat, HO.out]; omega) hown3
            obtain ⟨acc2, hacc2⟩ : ∃ acc2, acc2 = acc ++ [b8 ((cur % 128 + 128 : Nat) : Int)] := ⟨_, rfl⟩
            have hl : acc.length + 1 = acc2.length := by rw [hacc2]; simp
            have H2 : Hid (acc2 ++ varF f (cur / 128) = varL m) := by rw [hacc2, List.append_assoc]; exact H
            rw [← hacc2] at hown4
            rw [hl] at hown4 ⊢
            have hal2 : acc2.length + (f + 1) ≤ 4 := by omega
            clear hl hacc2 hown hown3 H HO hg3
            go_wp2
            go_roundw
            case rel => exact ⟨f, cur / 128, HF.out, by omega, by go_num, ⟨ad3, c3, acc2, H2, hal2, rfl, hown4⟩, hb3⟩
            case measure => simp [intOf]; omega
set_option maxRecDepth 100000 in
set_option maxHeartbeats 800000 in
theorem rvar_any (n : Int) (V : List UInt8) (er : Int) (hV : varR n = (V, er)) (w : World) (R : Ending → World → Prop)
    (hR : ∀ ad c w', w'.ownsRow w.heap.size 5 1 (.slice ad V.length c) V.length (bv V) → Below w.heap.size w w' → R (.returned (.tuple #[.slice ad V.length c, .int .i64 er])) w') :
    Calls Tryz.prog 204 #[.int .i64 n] w R := by
  obtain rfl : V = (varR n).1 := by rw [hV]
  obtain rfl : er = (varR n).2 := by rw [hV]
  clear hV
  by_cases h1 : n < 0
  · have e : varR n = ([], 10) := by unfold varR; rw [if_pos (.inl h1)]
    rw [e] at hR
    go_enter Tryz.func204, Tryz.ntmps204
    go_wp2
    exact hR _ _ _ (World.ownsRow_nil _ _ _ _) (Below.refl _ _)
  · by_cases h2 : 268435455 < n
    · have e : varR n = ([], 10) := by unfold varR; rw [if_pos (.inr h2)]
      rw [e] at hR
      go_enter Tryz.func204, Tryz.ntmps204
      go_wp2
      exact hR _ _ _ (World.ownsRow_nil _ _ _ _) (Below.refl _ _)
    · obtain ⟨m, rfl⟩ := Int.eq_ofNat_of_zero_le (show 0 ≤ n by omega)
      have e : varR m = (varL m, 0) := by unfold varR; rw [if_neg (by omega)]; rfl
      rw [e] at hR
      clear e h1
      have hm : m < 268435456 := by omega
      clear h2
      go_enter Tryz.func204, Tryz.ntmps204
      go_wp2
      go_loopw [0, 4] (fun x y wr => ∃ f cur : Nat, cur < 128 ^ (f + 1) ∧ cur < 268435456 ∧ x = .int .i64 cur ∧ (∃ ad c, ∃ acc : List UInt8, Hid (acc ++ varF f cur = varL m) ∧ acc.length + (f + 1) ≤ 4 ∧ y = .slice ad acc.length c ∧ wr.ownsRow w.heap.size 5 1 (.slice ad acc.length c) acc.length (bv acc)) ∧ Below w.heap.size w wr) (fun x _ _ => (intOf x).toNat)
      case atStart => exact ⟨3, m, by omega, hm, rfl, ⟨_, _, [], rfl, by simp, rfl, World.ownsRow_nil _ _ _ _⟩, Below.refl _ _⟩
      case round =>
        obtain ⟨f, cur, hf, hc2, rfl, ⟨ad, c, acc, hacc, hal, rfl, hown⟩, hb⟩ := hrel
        by_cases hlt : cur < 128
        · have H := Lib.hid hacc.out
          rw [varF_small f cur hlt] at H
          have hsz := hb.size
          clear hacc hf
          go_wp2_with (at_builtin; go_must (refine wpList_app (by rfl) (.tmp 22) (.tmp 25) 22 (by rfl) w.heap.size 5 (.int .u8 0) 1 1 Tryz.underlying22 Tryz.info5 rfl (by decide) _ _ _ _ rfl (World.ownsRow.alloc hown _) _ _ _ _ rfl (rd_lit _ _ _ 1 1 rfl) (one_oneCell _ _) (by simp) (by unfold maxLen; omega) (by omega) (by simp; omega) ?_))
          intro ad3 c3 w3 hown3 hg3
          have hb3 := below_app (hb.alloc hsz _) hg3 (by simp; omega) (hown.alloc _)
          have hown4 := own_snoc8 (b8 (cur : Int)) (by rw [b8_toNat]; omega) hown3
          rw [H.out] at hown4
          have hl : acc.length + 1 = (varL m).length := by rw [← H.out]; simp
          rw [hl] at hown4 ⊢
          go_wp2
          exact hR _ _ _ hown4 hb3
        · cases f with
          | zero => omega
          | succ f =>
            have H := Lib.hid hacc.out
            rw [varF_big f cur hlt] at H
            have hsz := hb.size
            have hf2 : cur / 128 < 128 ^ (f + 1) := by
              rw [Nat.pow_succ] at hf
              exact Nat.div_lt_of_lt_mul (by rw [Nat.mul_comm]; exact hf)
            have HF := Lib.hid hf2
            clear hacc hf hf2
            go_wp2_with (at_builtin; go_must (refine wpList_app (by rfl) (.tmp 13) (.tmp 18) 22 (by rfl) w.heap.size 5 (.int .u8 0) 1 1 Tryz.underlying22 Tryz.info5 rfl (by decide) _ _ _ _ rfl (World.ownsRow.alloc hown _) _ _ _ _ rfl (rd_lit _ _ _ 1 1 rfl) (one_oneCell _ _) (by simp) (by unfold maxLen; omega) (by omega) (by simp; omega) ?_))
            intro ad3 c3 w3 hown3 hg3
            have hb3 := below_app (hb.alloc hsz _) hg3 (by simp; omega) (hown.alloc _)
            have hown4 := own_snoc8 (b8 ((cur % 128 + 128 : Nat) : Int)) (by rw [b8_toNat]; omega) hown3
            obtain ⟨acc2, hacc2⟩ : ∃ acc2, acc2 = acc ++ [b8 ((cur % 128 + 128 : Nat) : Int)] := ⟨_, rfl⟩
            have hl : acc.length + 1 = acc2.length := by rw [hacc2]; simp
            have H2 : Hid (acc2 ++ varF f (cur / 128) = varL m) := by rw [hacc2, List.append_assoc]; exact H
            rw [← hacc2] at hown4
            rw [hl] at hown4 ⊢
            have hal2 : acc2.length + (f + 1) ≤ 4 := by omega
            clear hl hacc2 hown hown3 H hg3
            go_wp2
            go_roundw
            case rel => exact ⟨f, cur / 128, HF.out, by omega, by go_num, ⟨ad3, c3, acc2, H2, hal2, rfl, hown4⟩, hb3⟩
            case measure => simp [intOf]; omega
/-- What 'GetVar' reads: the number, how many bytes, the error's number. -/
def gvF : Nat → Nat → Nat → List UInt8 → Nat × Nat × Nat
  | 0, _, _, _ => (0, 0, 12)
  | _ + 1, _, _, [] => (0, 0, 11)
  | f + 1, i, n, c :: r => if c.toNat < 128 then (if c.toNat = 0 ∧ 0 < i then (0, 0, 12) else (n + c.toNat % 128 * 128 ^ i, i + 1, 0)) else gvF f (i + 1) (n + c.toNat % 128 * 128 ^ i) r
def gvL (l : List UInt8) : Nat × Nat × Nat := gvF 4 0 0 l

theorem drop_cons' {α : Type} (l : List α) (k : Nat) (h : k < l.length) : l.drop k = l[k] :: l.drop (k + 1) := List.drop_eq_getElem_cons h

set_option maxRecDepth 100000 in
set_option maxHeartbeats 1600000 in
theorem rgetvar_any (v : Value) (l : List UInt8) (x y z : Nat) (hG : gvL l = (x, y, z)) (w : World) (hv : Bs w v l) (R : Ending → World → Prop)
    (hR : R (.returned (.tuple #[.int .i64 x, .int .i64 y, .int .i64 z])) w) :
    Calls Tryz.prog 179 #[v] w R := by
  obtain rfl : x = (gvL l).1 := by rw [hG]
  obtain rfl : y = (gvL l).2.1 := by rw [hG]
  obtain rfl : z = (gvL l).2.2 := by rw [hG]
  clear hG
  obtain ⟨ad, c, rfl, hr, hc, hm, hnil⟩ := hv
  go_enter Tryz.func179, Tryz.ntmps179
  go_wp2
  go_loop [5, 6, 7] (fun x u i => ∃ k : Nat, k ≤ 4 ∧ k ≤ l.length ∧ i = .int .i64 k ∧ ∃ z : Nat, Hid (gvF (4 - k) k z (l.drop k) = gvL l) ∧ z < 128 ^ k ∧ x = .int .i64 z ∧ u = .int .i64 (128 ^ k : Nat)) (fun _ _ i => 4 - (intOf i).toNat)
  case atStart => exact ⟨0, by omega, Nat.zero_le _, rfl, _, rfl, by decide, rfl, rfl⟩
  case round =>
    obtain ⟨k, hk, hkl, rfl, z, hz, hz2, rfl, rfl⟩ := hrel
    by_cases hk4 : k = 4
    · subst hk4
      have e : gvL l = (0, 0, 12) := hz.out.symm
      rw [e] at hR
      clear hz hz2 e
      go_wp2
      go_ret3
      exact hR
    · by_cases hlt : k < l.length
      · obtain ⟨b, o, rfl, hcell⟩ := hr.byteAt (by omega)
        have hck := hcell k hlt
        have hcb := l[k].toNat_lt
        have H := hz.out
        rw [drop_cons' l k hlt, show 4 - k = (3 - k) + 1 by omega, gvF] at H
        have H2 : gvL l = if l[k].toNat < 128 then (if l[k].toNat = 0 ∧ 0 < k then (0, 0, 12) else (z + l[k].toNat % 128 * 128 ^ k, k + 1, 0)) else gvF (3 - k) (k + 1) (z + l[k].toNat % 128 * 128 ^ k) (l.drop (k + 1)) := H.symm
        obtain ⟨x, hx⟩ : ∃ x : UInt8, x = l[k] := ⟨_, rfl⟩
        rw [← hx] at H2 hck hcb
        clear hcell hr hz H hx
        have hz3 : z + x.toNat % 128 * 128 ^ k < 128 ^ (k + 1) := by
          have h1 : x.toNat % 128 * 128 ^ k ≤ 127 * 128 ^ k := Nat.mul_le_mul_right _ (by omega)
          rw [Nat.pow_succ]
          omega
        have hpw : 128 ^ (k + 1) = 128 ^ k * 128 := Nat.pow_succ _ _
        have hmul : ((x.toNat : Int) % 128) * ((128 ^ k : Nat) : Int) = ((x.toNat % 128 * 128 ^ k : Nat) : Int) := by push_cast; rfl
        have hp4 : 128 ^ k ≤ 2097152 := by
          have : 128 ^ k ≤ 128 ^ 3 := Nat.pow_le_pow_right (by decide) (by omega)
          exact this
        obtain ⟨p, hp⟩ : ∃ p, p = 128 ^ k := ⟨_, rfl⟩
        obtain ⟨q, hq⟩ : ∃ q, q = x.toNat % 128 * 128 ^ k := ⟨_, rfl⟩
        rw [← hp] at hz2 hpw hmul hp4 ⊢
        rw [← hp] at hq hz3
        rw [← hq] at hz3 hmul
        rw [← hp, ← hq] at H2
        have hxm : x.toNat % 128 ≤ 127 := by omega
        have hqb : q ≤ 127 * p := by rw [hq]; exact Nat.mul_le_mul_right _ hxm
        rw [hpw] at hz3
        have hmul0 : 0 ≤ ((x.toNat : Int) % 128) * (p : Int) := by rw [hmul]; omega
        have hmul1 : ((x.toNat : Int) % 128) * (p : Int) ≤ 266338304 := by rw [hmul]; omega
        have HM := Lib.hid hmul
        have HP := Lib.hid hpw
        have HQ0 : Hid (x.toNat = 0 → q = 0) := by intro h0; rw [hq, h0]; simp
        clear hmul hpw hq hp
        by_cases hx1 : x.toNat < 128
        · rw [if_pos hx1] at H2
          by_cases hx0 : x.toNat = 0
          · by_cases hk0 : 0 < k
            · rw [if_pos ⟨hx0, hk0⟩] at H2
              rw [H2] at hR
              clear H2 HP
              have hx00 : ((x.toNat : Int) == 0) = true := by rw [beq_iff_eq]; omega
              have hkl2 : ((k : Int) == (l.length : Int)) = false := by rw [beq_eq_false_iff_ne]; omega
              go_wp2
              go_ret3
              exact hR
            · rw [if_neg (by omega)] at H2
              rw [H2] at hR
              clear H2 HP
              rw [HQ0.out hx0] at hR
              have hx00 : ((x.toNat : Int) == 0) = true := by rw [beq_iff_eq]; omega
              have hkl2 : ((k : Int) == (l.length : Int)) = false := by rw [beq_eq_false_iff_ne]; omega
              have hk00 : ¬ (0 : Int) < (k : Int) := by omega
              go_wp2
              go_ret3
              exact hR
          · rw [if_neg (by omega)] at H2
            rw [H2] at hR
            clear H2 HP
            have e1 : ((z : Int) + (x.toNat : Int) % 128 * (p : Int)) = ((z + q : Nat) : Int) := by rw [HM.out]; omega
            have hR2 : R (.returned (.tuple #[.int .i64 ((z : Int) + (x.toNat : Int) % 128 * (p : Int)), .int .i64 ((k : Int) + 1), .int .i64 0])) w := by rw [e1]; exact hR
            have hx00 : ((x.toNat : Int) == 0) = false := by rw [beq_eq_false_iff_ne]; omega
            have hkl2 : ((k : Int) == (l.length : Int)) = false := by rw [beq_eq_false_iff_ne]; omega
            clear e1 hR
            go_wp2
            go_ret3
            exact hR2
        · rw [if_neg hx1] at H2
          have e1 : ((z : Int) + (x.toNat : Int) % 128 * (p : Int)) = ((z + q : Nat) : Int) := by rw [HM.out]; omega
          have E1 := Lib.hid e1
          have hkl2 : ((k : Int) == (l.length : Int)) = false := by rw [beq_eq_false_iff_ne]; omega
          have HG : Hid (gvF (4 - (k + 1)) (k + 1) (z + q) (l.drop (k + 1)) = gvL l) := by rw [show 4 - (k + 1) = 3 - k by omega]; exact Lib.hid H2.symm
          clear e1 H2 HM
          go_wp2
          go_round
          case rel => exact ⟨k + 1, by omega, by omega, by go_num, _, HG, by rw [HP.out]; exact hz3, by rw [E1.out], by rw [HP.out]; go_num⟩
          case measure => simp [intOf]; omega
      · obtain rfl : k = l.length := by omega
        have e : gvL l = (0, 0, 11) := by
          rw [← hz.out, List.drop_length, show 4 - l.length = (3 - l.length) + 1 by omega, gvF]
        rw [e] at hR
        clear hz e
        go_wp2
        go_ret3
        exact hR

theorem and127 (x : Int) (h0 : 0 ≤ x) (h1 : x < 256) : bits .and .u8 x 127 = x % 128 := bits_mask .u8 8 (by decide) wraps_u8 7 (by decide) x h0 h1

theorem or7 (z y i P : Nat) (hz : z < P) (hP : P = 2 ^ i) (hi : i ≤ 21) : bits .or .i64 (z : Int) ((y : Int) % 128 * (P : Int)) = ((z + y % 128 * P : Nat) : Int) := by
  have hc : bits .or .i64 (z : Int) ((y : Int) % 128 * (P : Int)) = bits .or .i64 ((y : Int) % 128 * (P : Int)) (z : Int) := by simp only [bits, BitVec.or_comm]
  have hpow : P ≤ 2097152 := by rw [hP]; exact Nat.le_trans (Nat.pow_le_pow_right (by decide) hi) (by decide)
  have e : (y : Int) % 128 * (P : Int) = ((y % 128 * P : Nat) : Int) := by push_cast; rfl
  have hw : ∀ n : Int, 0 ≤ n → n < 2 ^ 62 → IntKind.i64.wrap n = n := by
    intro n h0 h1
    rw [IntKind.wrap_i64]
    omega
  have hb : y % 128 * P ≤ 127 * P := Nat.mul_le_mul_right _ (by omega)
  have h1 : ((y % 128 * P : Nat) : Int) % 2 ^ i = 0 := by
    rw [hP]
    simp
  have h2 : (z : Int) < 2 ^ i := by
    have : (z : Int) < ((2 ^ i : Nat) : Int) := by omega
    simpa using this
  rw [hc, e, bits_join .i64 62 (by decide) hw i _ _ (by omega) h1 (by omega) (by omega) h2 (by omega)]
  omega

set_option maxRecDepth 100000 in
set_option maxHeartbeats 1600000 in
theorem getvar_any (v : Value) (l : List UInt8) (x y z : Nat) (hG : gvL l = (x, y, z)) (w : World) (hv : Bs w v l) (R : Ending → World → Prop)
    (hR : R (.returned (.tuple #[.int .i64 x, .int .i64 y, .int .i64 z])) w) :
    Calls Tryz.prog 190 #[v] w R := by
  obtain rfl : x = (gvL l).1 := by rw [hG]
  obtain rfl : y = (gvL l).2.1 := by rw [hG]
  obtain rfl : z = (gvL l).2.2 := by rw [hG]
  clear hG
  obtain ⟨ad, c, rfl, hr, hc, hm, hnil⟩ := hv
  go_enter Tryz.func190, Tryz.ntmps190
  go_wp2
  go_loop [2, 5, 6, 9] (fun x _ _ i => ∃ k : Nat, k ≤ 4 ∧ k ≤ l.length ∧ i = .int .i64 k ∧ ∃ z : Nat, Hid (gvF (4 - k) k z (l.drop k) = gvL l) ∧ z < 128 ^ k ∧ x = .int .i64 z) (fun _ _ _ i => l.length - (intOf i).toNat)
  case atStart => exact ⟨0, by omega, Nat.zero_le _, rfl, _, rfl, by decide, rfl⟩
  case round =>
    obtain ⟨k, hk, hkl, rfl, z, hz, hz2, rfl⟩ := hrel
    by_cases hlt : k < l.length
    · obtain ⟨b, o, rfl, hcell⟩ := hr.byteAt (by omega)
      have hck := hcell k hlt
      have hcb := l[k].toNat_lt
      have H := hz.out
      rw [drop_cons' l k hlt] at H
      obtain ⟨x, hx⟩ : ∃ x : UInt8, x = l[k] := ⟨_, rfl⟩
      rw [← hx] at H hck hcb
      obtain ⟨r, hr'⟩ : ∃ r, r = l.drop (k + 1) := ⟨_, rfl⟩
      rw [← hr'] at H
      have HR' := Lib.hid hr'
      clear hcell hr hz hx hr'
      have hand := and127 x.toNat (by omega) (by omega)
      rcases (show k = 0 ∨ k = 1 ∨ k = 2 ∨ k = 3 ∨ k = 4 by omega) with rfl | rfl | rfl | rfl | rfl
      · rw [Nat.add_zero] at hck
        have hor := or7 z x.toNat 0 1 (by omega) (by decide) (by omega)
        have hz3 : z < 1 := hz2
        have hor2 : bits .or .i64 (z : Int) ((x.toNat : Int) % 128) = ((z + x.toNat % 128 * 1 : Nat) : Int) := by
          rw [show (((1 : Nat)) : Int) = 1 from rfl, Int.mul_one] at hor
          exact hor
        rw [show 4 - 0 = 3 + 1 from rfl, gvF, show 128 ^ 0 = 1 from rfl] at H
        obtain ⟨y, hy⟩ : ∃ y, y = z + x.toNat % 128 * 1 := ⟨_, rfl⟩
        rw [← hy] at H hor2
        have hyb : y < 128 := by omega
        clear hor hz2 hy
        by_cases hx1 : x.toNat < 128
        · rw [if_pos hx1] at H
          by_cases hx0 : x.toNat = 0
          · rw [if_neg (by omega)] at H
            rw [← H] at hR
            have hx00 : ((x.toNat : Int) == 0) = true := by rw [beq_iff_eq]; omega
            clear H hx0
            go_wp2
            go_ret3
            exact hR
          · rw [if_neg (by omega)] at H
            rw [← H] at hR
            have hx00 : ((x.toNat : Int) == 0) = false := by rw [beq_eq_false_iff_ne]; omega
            clear H hx0
            go_wp2
            go_ret3
            exact hR
        · rw [if_neg hx1] at H
          rw [HR'.out] at H
          have HG := Lib.hid H
          clear H
          go_wp2
          go_round
          case rel => exact ⟨1, by omega, by omega, rfl, y, HG, hyb, rfl⟩
          case measure => simp [intOf]; omega
      · have hor := or7 z x.toNat 7 128 (by omega) (by decide) (by omega)
        have hz3 : z < 128 := hz2
        have hor2 : bits .or .i64 (z : Int) ((x.toNat : Int) % 128 * 128) = ((z + x.toNat % 128 * 128 : Nat) : Int) := hor
        rw [show 4 - 1 = 2 + 1 from rfl, gvF, show 128 ^ 1 = 128 from rfl] at H
        obtain ⟨y, hy⟩ : ∃ y, y = z + x.toNat % 128 * 128 := ⟨_, rfl⟩
        rw [← hy] at H hor2
        have hyb : y < 16384 := by omega
        clear hor hz2 hy
        by_cases hx1 : x.toNat < 128
        · rw [if_pos hx1] at H
          by_cases hx0 : x.toNat = 0
          · rw [if_pos ⟨hx0, by omega⟩] at H
            rw [← H] at hR
            have hx00 : ((x.toNat : Int) == 0) = true := by rw [beq_iff_eq]; omega
            clear H hx0
            go_wp2
            go_ret3
            exact hR
          · rw [if_neg (by omega)] at H
            rw [← H] at hR
            have hx00 : ((x.toNat : Int) == 0) = false := by rw [beq_eq_false_iff_ne]; omega
            clear H hx0
            go_wp2
            go_ret3
            exact hR
        · rw [if_neg hx1] at H
          rw [HR'.out] at H
          have HG := Lib.hid H
          clear H
          go_wp2
          go_round
          case rel => exact ⟨2, by omega, by omega, rfl, y, HG, hyb, rfl⟩
          case measure => simp [intOf]; omega
      · have hor := or7 z x.toNat 14 16384 (by omega) (by decide) (by omega)
        have hz3 : z < 16384 := hz2
        have hor2 : bits .or .i64 (z : Int) ((x.toNat : Int) % 128 * 16384) = ((z + x.toNat % 128 * 16384 : Nat) : Int) := hor
        rw [show 4 - 2 = 1 + 1 from rfl, gvF, show 128 ^ 2 = 16384 from rfl] at H
        obtain ⟨y, hy⟩ : ∃ y, y = z + x.toNat % 128 * 16384 := ⟨_, rfl⟩
        rw [← hy] at H hor2
        have hyb : y < 2097152 := by omega
        clear hor hz2 hy
        by_cases hx1 : x.toNat < 128
        · rw [if_pos hx1] at H
          by_cases hx0 : x.toNat = 0
          · rw [if_pos ⟨hx0, by omega⟩] at H
            rw [← H] at hR
            have hx00 : ((x.toNat : Int) == 0) = true := by rw [beq_iff_eq]; omega
            clear H hx0
            go_wp2
            go_ret3
            exact hR
          · rw [if_neg (by omega)] at H
            rw [← H] at hR
            have hx00 : ((x.toNat : Int) == 0) = false := by rw [beq_eq_false_iff_ne]; omega
            clear H hx0
            go_wp2
            go_ret3
            exact hR
        · rw [if_neg hx1] at H
          rw [HR'.out] at H
          have HG := Lib.hid H
          clear H
          go_wp2
          go_round
          case rel => exact ⟨3, by omega, by omega, rfl, y, HG, hyb, rfl⟩
          case measure => simp [intOf]; omega
      · have hor := or7 z x.toNat 21 2097152 (by omega) (by decide) (by omega)
        have hz3 : z < 2097152 := hz2
        have hor2 : bits .or .i64 (z : Int) ((x.toNat : Int) % 128 * 2097152) = ((z + x.toNat % 128 * 2097152 : Nat) : Int) := hor
        rw [show 4 - 3 = 0 + 1 from rfl, gvF, show 128 ^ 3 = 2097152 from rfl] at H
        obtain ⟨y, hy⟩ : ∃ y, y = z + x.toNat % 128 * 2097152 := ⟨_, rfl⟩
        rw [← hy] at H hor2
        have hyb : y < 268435456 := by omega
        clear hor hz2 hy
        by_cases hx1 : x.toNat < 128
        · rw [if_pos hx1] at H
          by_cases hx0 : x.toNat = 0
          · rw [if_pos ⟨hx0, by omega⟩] at H
            rw [← H] at hR
            have hx00 : ((x.toNat : Int) == 0) = true := by rw [beq_iff_eq]; omega
            clear H hx0
            go_wp2
            go_ret3
            exact hR
          · rw [if_neg (by omega)] at H
            rw [← H] at hR
            have hx00 : ((x.toNat : Int) == 0) = false := by rw [beq_eq_false_iff_ne]; omega
            clear H hx0
            go_wp2
            go_ret3
            exact hR
        · rw [if_neg hx1] at H
          rw [HR'.out] at H
          have HG := Lib.hid H
          clear H
          go_wp2
          go_round
          case rel => exact ⟨4, by omega, by omega, rfl, y, HG, hyb, rfl⟩
          case measure => simp [intOf]; omega
      · rw [show 4 - 4 = 0 from rfl, gvF] at H
        rw [← H] at hR
        clear H hand
        have hl4 : ¬ (l.length : Int) < 4 := by omega
        go_wp2
        go_ret3
        exact hR
    · obtain rfl : k = l.length := by omega
      have H := hz.out
      rw [List.drop_length] at H
      clear hz
      by_cases h4 : l.length = 4
      · rw [h4, show 4 - 4 = 0 from rfl, gvF] at H
        rw [← H] at hR
        clear H
        have hl4 : ¬ (l.length : Int) < 4 := by omega
        go_wp2
        go_ret3
        exact hR
      · rw [show 4 - l.length = (3 - l.length) + 1 by omega, gvF] at H
        rw [← H] at hR
        clear H
        have hl4 : (l.length : Int) < 4 := by omega
        go_wp2
        go_ret3
        exact hR

end Go.Proofs.YtgimbocoamnkjaaGreatDoor


namespace Go.Proofs.YtgimbocoamnkjaaGreatDoor
open Go.RowKit

theorem b8_nat (n : Nat) (h : n < 256) : (b8 (n : Int)).toNat = n := by
  have := b8_toNat (n : Int)
  omega
theorem b8_of (c : UInt8) : b8 ((c.toNat : Nat) : Int) = c := by
  have h := c.toNat_lt
  apply UInt8.toNat_inj.1
  exact b8_nat _ (by omega)

theorem gvF_err (g i z : Nat) (l : List UInt8) (m u e : Nat) (h : gvF g i z l = (m, u, e)) (he : e ≠ 0) : m = 0 ∧ u = 0 := by
  induction g generalizing i z l with
  | zero => simp only [gvF, Prod.mk.injEq] at h; omega
  | succ g ih =>
    cases l with
    | nil => simp only [gvF, Prod.mk.injEq] at h; omega
    | cons c r =>
      simp only [gvF] at h
      split at h
      · split at h
        · simp only [Prod.mk.injEq] at h; omega
        · simp only [Prod.mk.injEq] at h; omega
      · exact ih _ _ _ h

theorem gvF_take (f g i z n k : Nat) (hn : n < 128 ^ (f + 1)) (hg : f + 1 ≤ g) (hk : k < (varF f n).length) : gvF g i z ((varF f n).take k) = (0, 0, 11) := by
  induction f generalizing g i z n k with
  | zero =>
    obtain rfl : k = 0 := by simpa [varF] using hk
    obtain ⟨g, rfl⟩ : ∃ g', g = g' + 1 := ⟨g - 1, by omega⟩
    rfl
  | succ f ih =>
    obtain ⟨g, rfl⟩ : ∃ g', g = g' + 1 := ⟨g - 1, by omega⟩
    cases k with
    | zero => rfl
    | succ k =>
      by_cases h : n < 128
      · rw [varF_small _ _ h] at hk
        simp at hk
      · rw [varF_big _ _ h] at hk ⊢
        have hc : (b8 ((n % 128 + 128 : Nat) : Int)).toNat = n % 128 + 128 := b8_nat _ (by omega)
        rw [List.take_succ_cons, gvF, if_neg (by omega)]
        refine ih g (i + 1) _ (n / 128) k ?_ (by omega) (by simpa using hk)
        rw [Nat.pow_succ] at hn
        exact Nat.div_lt_of_lt_mul (by rw [Nat.mul_comm]; exact hn)

theorem gvF_back (f g i z n : Nat) (t : List UInt8) (hn : n < 128 ^ (f + 1)) (hg : f + 1 ≤ g) (h0 : 0 < n ∨ i = 0) :
    gvF g i z (varF f n ++ t) = (z + n * 128 ^ i, i + (varF f n).length, 0) := by
  induction f generalizing g i z n with
  | zero =>
    obtain ⟨g, rfl⟩ : ∃ g', g = g' + 1 := ⟨g - 1, by omega⟩
    have hn' : n < 128 := by simpa using hn
    have hc : (b8 (n : Int)).toNat = n := b8_nat _ (by omega)
    simp only [varF, List.cons_append, List.nil_append, gvF, hc]
    rw [if_pos hn', if_neg (by omega), Nat.mod_eq_of_lt hn']
    rfl
  | succ f ih =>
    obtain ⟨g, rfl⟩ : ∃ g', g = g' + 1 := ⟨g - 1, by omega⟩
    by_cases h : n < 128
    · have hc : (b8 (n : Int)).toNat = n := b8_nat _ (by omega)
      rw [varF_small _ _ h]
      simp only [List.cons_append, List.nil_append, gvF, hc]
      rw [if_pos h, if_neg (by omega), Nat.mod_eq_of_lt h]
      rfl
    · have hc : (b8 ((n % 128 + 128 : Nat) : Int)).toNat = n % 128 + 128 := b8_nat _ (by omega)
      rw [varF_big _ _ h]
      simp only [List.cons_append, gvF, hc]
      rw [if_neg (by omega), ih g (i + 1) _ (n / 128) (by rw [Nat.pow_succ] at hn; exact Nat.div_lt_of_lt_mul (by rw [Nat.mul_comm]; exact hn)) (by omega) (by left; omega)]
      have e1 : (n % 128 + 128) % 128 = n % 128 := by omega
      rw [e1]
      have e2 : z + n % 128 * 128 ^ i + n / 128 * 128 ^ (i + 1) = z + n * 128 ^ i := by
        rw [Nat.pow_succ, Nat.mul_comm (128 ^ i) 128, ← Nat.mul_assoc, Nat.add_assoc, ← Nat.add_mul]
        congr 2
        omega
      rw [e2, List.length_cons]
      congr 2
      omega

theorem gvF_ok (g i z : Nat) (l : List UInt8) (m u : Nat) (h : gvF g i z l = (m, u, 0)) :
    ∃ n k, m = z + n * 128 ^ i ∧ u = i + k ∧ k ≤ l.length ∧ n < 128 ^ g ∧ varF (g - 1) n = l.take k ∧ (0 < i → 0 < n) := by
  induction g generalizing i z l with
  | zero => simp only [gvF, Prod.mk.injEq] at h; omega
  | succ g ih =>
    cases l with
    | nil => simp only [gvF, Prod.mk.injEq] at h; omega
    | cons c r =>
      simp only [gvF] at h
      split at h
      · rename_i hc
        split at h
        · simp only [Prod.mk.injEq] at h; omega
        · rename_i hc0
          simp only [Prod.mk.injEq] at h
          refine ⟨c.toNat, 1, ?_, by omega, by simp, ?_, ?_, by omega⟩
          · rw [← h.1, Nat.mod_eq_of_lt hc]
          · exact Nat.lt_of_lt_of_le hc (by rw [Nat.pow_succ]; exact Nat.le_mul_of_pos_left _ (Nat.pow_pos (by decide)))
          · rw [varF_small _ _ hc, b8_of]
            rfl
      · rename_i hc
        obtain ⟨n, k, h1, h2, h3, h4, h5, h6⟩ := ih _ _ _ h
        have hn0 := h6 (by omega)
        have hcb := c.toNat_lt
        refine ⟨c.toNat % 128 + 128 * n, k + 1, ?_, by omega, by simpa using h3, ?_, ?_, by omega⟩
        · rw [h1, Nat.pow_succ, Nat.add_mul, Nat.add_assoc]
          congr 2
          rw [Nat.mul_comm (128 ^ i) 128, ← Nat.mul_assoc, Nat.mul_comm n 128]
        · rw [Nat.pow_succ]
          omega
        · cases g with
          | zero => simp only [gvF, Prod.mk.injEq] at h; omega
          | succ g =>
            simp only [Nat.add_sub_cancel] at h5 ⊢
            rw [varF_big _ _ (by omega), show (c.toNat % 128 + 128 * n) / 128 = n by omega, h5, show (c.toNat % 128 + 128 * n) % 128 + 128 = c.toNat by omega, b8_of]
            rfl

/-- A number that was laid is read again, with anything behind. -/
theorem gvL_back (n : Nat) (hn : n < 268435456) (t : List UInt8) : gvL (varL n ++ t) = (n, (varL n).length, 0) := by
  have := gvF_back 3 4 0 0 n t hn (by omega) (by right; rfl)
  simpa [gvL, varL] using this
theorem gvL_take (n k : Nat) (hn : n < 268435456) (hk : k < (varL n).length) : gvL ((varL n).take k) = (0, 0, 11) := gvF_take 3 4 0 0 n k hn (by omega) hk
theorem gvL_ok (l : List UInt8) (m u : Nat) (h : gvL l = (m, u, 0)) : m < 268435456 ∧ u ≤ l.length ∧ varL m = l.take u := by
  obtain ⟨n, k, h1, h2, h3, h4, h5, _⟩ := gvF_ok 4 0 0 l m u h
  simp only [Nat.zero_add, Nat.pow_zero, Nat.mul_one] at h1 h2
  subst h1 h2
  exact ⟨h4, h3, h5⟩
theorem gvL_err (l : List UInt8) (m u e : Nat) (h : gvL l = (m, u, e)) (he : e ≠ 0) : m = 0 ∧ u = 0 := gvF_err 4 0 0 l m u e h he
theorem varF_length (f n : Nat) : 1 ≤ (varF f n).length ∧ (varF f n).length ≤ f + 1 := by
  induction f generalizing n with
  | zero => simp [varF]
  | succ f ih =>
    by_cases h : n < 128
    · rw [varF_small _ _ h]; simp
    · rw [varF_big _ _ h]
      have := ih (n / 128)
      simp only [List.length_cons]
      omega
theorem varR_of (n : Nat) (hn : n < 268435456) : varR (n : Int) = (varL n, 0) := by
  unfold varR
  rw [if_neg (by omega)]
  rfl

end Go.Proofs.YtgimbocoamnkjaaGreatDoor

/- Kinds and places of properties, plain. -/
namespace Go.Proofs.YtgimbocoamnkjaaGreatDoor
open Go.RowKit

/-- The kind of an id's value. -/
def kindL (id : Int) : Nat :=
  if id = 1 ∨ id = 23 ∨ id = 25 ∨ id = 36 ∨ id = 37 ∨ id = 40 ∨ id = 41 ∨ id = 42 then 1
  else if id = 19 ∨ id = 33 ∨ id = 34 ∨ id = 35 then 2
  else if id = 2 ∨ id = 17 ∨ id = 24 ∨ id = 39 then 3
  else if id = 11 then 4
  else if id = 3 ∨ id = 8 ∨ id = 18 ∨ id = 21 ∨ id = 26 ∨ id = 28 ∨ id = 31 then 5
  else if id = 9 ∨ id = 22 then 6
  else if id = 38 then 7
  else 0
/-- Which places an id has: a class. -/
def clsL (id : Int) : Nat :=
  if id = 1 ∨ id = 2 ∨ id = 3 ∨ id = 8 ∨ id = 9 then 1
  else if id = 11 then 2
  else if id = 17 then 3
  else if id = 18 ∨ id = 19 ∨ id = 26 ∨ id = 36 ∨ id = 37 ∨ id = 40 ∨ id = 41 ∨ id = 42 then 4
  else if id = 21 ∨ id = 22 then 5
  else if id = 23 ∨ id = 25 then 6
  else if id = 24 then 7
  else if id = 28 then 8
  else if id = 31 then 9
  else if id = 33 ∨ id = 34 ∨ id = 39 then 10
  else if id = 35 then 11
  else if id = 38 then 12
  else 0
def plC : Nat → Int
  | 1 => 65544 | 2 => 264 | 3 => 16390 | 4 => 4 | 5 => 32774 | 6 => 2 | 7 => 65536 | 8 => 16388 | 9 => 51956 | 10 => 6 | 11 => 8 | 12 => -12290 | _ => 0
def maC : Nat → List Int
  | 1 => [3, 16] | 2 => [3, 8] | 3 => [1, 2, 14] | 4 => [2] | 5 => [1, 2, 15] | 6 => [1] | 7 => [16] | 8 => [2, 14] | 9 => [2, 4, 5, 6, 7, 9, 11, 14, 15] | 10 => [1, 2] | 11 => [3] | 12 => [1, 2, 3, 4, 5, 6, 7, 8, 9, 10, 11, 14, 15, 16] | _ => []
/-- The places of an id, as a set. -/
def placesL (id : Int) : Int := plC (clsL id)
/-- May an id stand in a place? -/
def mayL (id wh : Int) : Bool := (maC (clsL id)).contains wh
/-- May an id stand more than once in a place? -/
def oftenL (id wh : Int) : Bool := decide (id = 38 ∨ id = 11 ∧ wh = 3)
theorem table : ((List.range 61).map fun (i : Nat) => ((List.range 19).filter fun (j : Nat) => mayL ((i : Int) - 1) ((j : Int) - 1)).length).sum = 64 := by decide +kernel

/-- A set of places. -/
def orL (ps : List Int) : Int := ps.foldl (fun s p => bits .or .i64 s (wrap64 (2 ^ p.toNat))) 0
theorem orL_snoc (ps : List Int) (p : Int) : orL (ps ++ [p]) = bits .or .i64 (orL ps) (wrap64 (2 ^ p.toNat)) := by simp [orL, List.foldl_append]

def bitAt (pl wh : Int) : Bool := bits .and .i64 (pl / 2 ^ wh.toNat) 1 == 1
theorem cls_lt (id : Int) : clsL id < 13 := by
  unfold clsL
  repeat' split
  all_goals omega
theorem bits_all : ∀ c : Fin 13, ∀ w : Fin 16, bitAt (plC c.val) ((w.val : Int) + 1) = (maC c.val).contains ((w.val : Int) + 1) := by decide +kernel
theorem may_bits (id wh : Int) (h1 : 1 ≤ wh) (h2 : wh ≤ 16) : bitAt (placesL id) wh = mayL id wh := by
  have := bits_all ⟨clsL id, cls_lt id⟩ ⟨(wh - 1).toNat, by omega⟩
  have e : (((wh - 1).toNat : Nat) : Int) + 1 = wh := by omega
  simp only [e] at this
  exact this
theorem range_all : ∀ c : Fin 13, ∀ x ∈ maC c.val, 1 ≤ x ∧ x ≤ 16 := by decide +kernel
theorem may_range (id wh : Int) (h : wh < 1 ∨ 16 < wh) : mayL id wh = false := by
  cases hm : mayL id wh with
  | false => rfl
  | true =>
    have := range_all ⟨clsL id, cls_lt id⟩ wh (by unfold mayL at hm; simpa using hm)
    omega
end Go.Proofs.YtgimbocoamnkjaaGreatDoor

/- Properties, plain: their kinds and places, their values, rows of them, read and laid. -/
namespace Go.Proofs.YtgimbocoamnkjaaGreatDoor
open Go.RowKit

/-- The code that refuses a property's number, or 0. -/
def numL (p : Pr) : Nat :=
  if kindL p.id = 1 ∧ 1 < p.num then 130
  else if (p.id = 11 ∨ p.id = 33 ∨ p.id = 39) ∧ p.num = 0 then 130
  else if p.id = 35 ∧ p.num = 0 then 148
  else 0
/-- A value at the head of bytes, and how many it takes. -/
def valueL (id : Int) (b : List UInt8) : Option (Pr × Int) :=
  if kindL id = 1 then (if b.length < 1 then none else some (⟨id, getU (b.take 1), [], [], []⟩, 1))
  else if kindL id = 2 then (if b.length < 2 then none else some (⟨id, getU (b.take 2), [], [], []⟩, 2))
  else if kindL id = 3 then (if b.length < 4 then none else some (⟨id, getU (b.take 4), [], [], []⟩, 4))
  else if kindL id = 4 then (if (gvL b).2.2 = 0 then some (⟨id, (gvL b).1, [], [], []⟩, (gvL b).2.1) else none)
  else if kindL id = 5 then (if (getTextL b).2.2 = 0 then some (⟨id, 0, (getTextL b).1, [], []⟩, (getTextL b).2.1) else none)
  else if kindL id = 6 then (if (getDataL b).2.2 = 0 then some (⟨id, 0, [], [], (getDataL b).1⟩, (getDataL b).2.1) else none)
  else if kindL id = 7 then (if (getTextL b).2.2 = 0 then (if (getTextL (b.drop (getTextL b).2.1.toNat)).2.2 = 0 then some (⟨id, 0, (getTextL b).1, (getTextL (b.drop (getTextL b).2.1.toNat)).1, []⟩, (getTextL b).2.1 + (getTextL (b.drop (getTextL b).2.1.toNat)).2.1) else none) else none)
  else some (⟨id, 0, [], [], []⟩, 0)
def hasL (id : Int) (l : List Pr) : Bool := l.any fun p => decide (p.id = id)
/-- One property behind others: the code, the property, how many bytes. -/
def stepL (wh : Int) (l : List Pr) (b : List UInt8) : Nat × Pr × Int :=
  if (gvL b).2.2 ≠ 0 ∨ mayL (gvL b).1 wh = false then (129, zeroP, 0)
  else match valueL (gvL b).1 (b.drop (gvL b).2.1) with
    | none => (129, zeroP, 0)
    | some (p, m) => if hasL (gvL b).1 l = true ∧ oftenL (gvL b).1 wh = false then (130, zeroP, 0) else if numL p ≠ 0 then (numL p, zeroP, 0) else (0, p, (gvL b).2.1 + m)
def readF : Nat → Int → List Pr → List UInt8 → List Pr × Nat
  | 0, _, l, _ => (l, 0)
  | f + 1, wh, l, b => if b = [] then (l, 0) else if (stepL wh l b).1 ≠ 0 then ([], (stepL wh l b).1) else readF f wh (l ++ [(stepL wh l b).2.1]) (b.drop (stepL wh l b).2.2.toNat)
/-- What bytes say as properties: the row, how many bytes, the code. -/
def readL (wh : Int) (b : List UInt8) : List Pr × Int × Nat :=
  if (gvL b).2.2 ≠ 0 ∨ b.length < (gvL b).1 + (gvL b).2.1 then ([], 0, 129)
  else if (readF (gvL b).1 wh [] ((b.drop (gvL b).2.1).take (gvL b).1)).2 ≠ 0 then ([], 0, (readF (gvL b).1 wh [] ((b.drop (gvL b).2.1).take (gvL b).1)).2)
  else ((readF (gvL b).1 wh [] ((b.drop (gvL b).2.1).take (gvL b).1)).1, (gvL b).2.1 + (gvL b).1, 0)

/-- A number as one of 64 bits. -/
def u64 (n : Int) : Nat := (n % 18446744073709551616).toNat
/-- A property's bytes, as far as it has some. -/
def laidL (p : Pr) : List UInt8 :=
  (varR p.id).1 ++
  (if kindL p.id = 1 then putW (u64 p.num) 1
   else if kindL p.id = 2 then putW (u64 p.num) 2
   else if kindL p.id = 3 then putW (u64 p.num) 4
   else if kindL p.id = 4 then (varR p.num).1
   else if kindL p.id = 5 then (textL p.text).1
   else if kindL p.id = 6 then (dataL p.data).1
   else if kindL p.id = 7 then (textL p.text).1 ++ (textL p.pair).1
   else [])
/-- Properties laid, and the code. -/
def layL (wh : Int) (l : List Pr) : List UInt8 × Nat :=
  if (varR ((l.flatMap laidL).length : Int)).2 ≠ 0 then ([], 129)
  else if (readL wh ((varR ((l.flatMap laidL).length : Int)).1 ++ l.flatMap laidL)) = (l, (((varR ((l.flatMap laidL).length : Int)).1 ++ l.flatMap laidL).length : Int), 0) then ((varR ((l.flatMap laidL).length : Int)).1 ++ l.flatMap laidL, 0)
  else ([], 129)

example : layL 3 [⟨1, 1, [], [], []⟩] = ([2, 1, 1], 0) := by decide +kernel
example : readL 3 [3, 35, 0, 0] = ([], 0, 148) := by decide +kernel
end Go.Proofs.YtgimbocoamnkjaaGreatDoor

/- Properties in memory, beside what is plain of them. -/

