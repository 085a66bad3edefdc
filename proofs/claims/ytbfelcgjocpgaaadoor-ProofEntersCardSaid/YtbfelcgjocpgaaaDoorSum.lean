
import Derived.Test.YtbfelcgjocpgaaaDoorPut
namespace Go.Proofs.YtbfelcgjocpgaaaDoor
open Go.RowKit

/-- One round of the sum. -/
def crc1 (c : Nat) : Nat := if c % 2 = 1 then (c / 2) ^^^ 0xedb88320 else c / 2
def crcN : Nat → Nat → Nat
  | 0, c => c
  | n + 1, c => crcN n (crc1 c)
def crcB (c : Nat) (b : UInt8) : Nat := crcN 8 (c ^^^ b.toNat)
def crcL (c : Nat) (l : List UInt8) : Nat := l.foldl crcB c
/-- The sum of bytes. -/
def sumL (l : List UInt8) : Nat := crcL 0xffffffff l ^^^ 0xffffffff

theorem crc1_lt (c : Nat) (h : c < 4294967296) : crc1 c < 4294967296 := by
  unfold crc1
  split
  · exact Nat.xor_lt_two_pow (n := 32) (by omega) (by decide)
  · omega
theorem crcN_lt (n c : Nat) (h : c < 4294967296) : crcN n c < 4294967296 := by
  induction n generalizing c with
  | zero => exact h
  | succ n ih => exact ih _ (crc1_lt c h)
theorem crcB_lt (c : Nat) (b : UInt8) (h : c < 4294967296) : crcB c b < 4294967296 := by
  have hb := b.toNat_lt
  exact crcN_lt _ _ (Nat.xor_lt_two_pow (n := 32) h (by omega))
theorem crcL_lt (l : List UInt8) (c : Nat) (h : c < 4294967296) : crcL c l < 4294967296 := by
  induction l generalizing c with
  | nil => exact h
  | cons b l ih => exact ih _ (crcB_lt c b h)
theorem crcL_append (c : Nat) (l m : List UInt8) : crcL c (l ++ m) = crcL (crcL c l) m := List.foldl_append
theorem crcN_succ' (n c : Nat) : crcN (n + 1) c = crc1 (crcN n c) := by
  induction n generalizing c with
  | zero => rfl
  | succ n ih => exact ih (crc1 c)

theorem xor_byte (c : Nat) (h : c < 4294967296) (b : UInt8) : bits .xor .u32 (c : Int) ((b.toNat : Int) % 4294967296) = ((c ^^^ b.toNat : Nat) : Int) := by
  have hb := b.toNat_lt
  rw [show (b.toNat : Int) % 4294967296 = ((b.toNat : Nat) : Int) by omega]
  exact u32_xor_nat c b.toNat h (by omega)

theorem crc_step (c : Nat) (h : c < 4294967296) : bits .xor .u32 ((c : Int) / 2) (bits .and .u32 3988292384 ((-(bits .and .u32 (c : Int) 1)) % 4294967296)) = ((crc1 c : Nat) : Int) := by
  have e1 : bits .and .u32 (c : Int) 1 = ((c % 2 : Nat) : Int) := by
    have := u32_and_nat c 1 h (by omega)
    rw [Nat.and_one_is_mod] at this
    exact this
  rw [e1, show (c : Int) / 2 = ((c / 2 : Nat) : Int) by omega]
  unfold crc1
  by_cases hc : c % 2 = 1
  · rw [if_pos hc, hc, show (-((1 : Nat) : Int)) % 4294967296 = ((4294967295 : Nat) : Int) by decide]
    have e2 := u32_and_nat 3988292384 4294967295 (by omega) (by omega)
    rw [show (3988292384 : Nat) &&& 4294967295 = 3988292384 by decide] at e2
    rw [show ((3988292384 : Int)) = ((3988292384 : Nat) : Int) from rfl, e2]
    exact u32_xor_nat (c / 2) 3988292384 (by omega) (by omega)
  · rw [if_neg hc, show c % 2 = 0 by omega, show (-((0 : Nat) : Int)) % 4294967296 = ((0 : Nat) : Int) by decide]
    have e2 := u32_and_nat 3988292384 0 (by omega) (by omega)
    rw [Nat.and_zero] at e2
    rw [show ((3988292384 : Int)) = ((3988292384 : Nat) : Int) from rfl, e2]
    have e3 := u32_xor_nat (c / 2) 0 (by omega) (by omega)
    rw [Nat.xor_zero] at e3
    exact e3

theorem xor_all (c : Nat) (h : c < 4294967296) : bits .xor .u32 (c : Int) 4294967295 = ((c ^^^ 4294967295 : Nat) : Int) := u32_xor_nat c 4294967295 h (by omega)

theorem crc1_odd (c : Nat) (h : c < 4294967296) (h1 : c % 2 = 1) : bits .xor .u32 ((c : Int) / 2) 3988292384 = ((crc1 c : Nat) : Int) := by
  unfold crc1
  rw [if_pos h1, show (c : Int) / 2 = ((c / 2 : Nat) : Int) by omega]
  exact u32_xor_nat (c / 2) 3988292384 (by omega) (by omega)
theorem crc1_even (c : Nat) (h1 : ¬ c % 2 = 1) : (c : Int) / 2 = ((crc1 c : Nat) : Int) := by
  unfold crc1
  rw [if_neg h1]
  omega
theorem crcL_step (l : List UInt8) (k : Nat) (h : k < l.length) (z : Nat) (hz : z = crcL 0xffffffff (l.take k)) : crcN 8 (z ^^^ l[k].toNat) = crcL 0xffffffff (l.take (k + 1)) := by
  rw [take_snoc' l k h, crcL_append, ← hz]
  rfl

set_option maxHeartbeats 800000 in
theorem rsum_any (v : Value) (l : List UInt8) (w : World) (hv : Bs w v l) (R : Ending → World → Prop)
    (hR : R (.returned (.int .u32 (sumL l))) w) :
    Calls Tryd.prog 32 #[v] w R := by
  obtain ⟨ad, c, rfl, hr, hc, hm, hnil⟩ := hv
  go_enter Tryd.func32, Tryd.ntmps32
  go_wp2
  go_loop [3, 4, 5] (fun x i _ => ∃ k : Nat, k ≤ l.length ∧ i = .int .i64 k ∧ ∃ z : Nat, Hid (z = crcL 0xffffffff (l.take k)) ∧ z < 4294967296 ∧ x = .int .u32 z) (fun _ i _ => l.length - (intOf i).toNat)
  case atStart => exact ⟨0, Nat.zero_le _, rfl, _, rfl, crcL_lt _ _ (by decide), rfl⟩
  case round =>
    obtain ⟨k, hk, rfl, z, hz, hz2, rfl⟩ := hrel
    by_cases hlt : k < l.length
    · obtain ⟨b, o, rfl, hcell⟩ := hr.byteAt (by omega)
      have hck := hcell k hlt
      have HX := Lib.hid (xor_byte z hz2 l[k])
      have HN := Lib.hid (crcL_step l k hlt z hz.out)
      have hzx : z ^^^ l[k].toNat < 4294967296 := Nat.xor_lt_two_pow (n := 32) hz2 (by have := l[k].toNat_lt; omega)
      clear hcell hr hz
      go_wp2
      go_loop [3, 5] (fun x i => ∃ j : Nat, j ≤ 8 ∧ i = .int .i64 j ∧ ∃ y : Nat, Hid (y = crcN j (z ^^^ l[k].toNat)) ∧ y < 4294967296 ∧ x = .int .u32 y) (fun _ i => 8 - (intOf i).toNat)
      case atStart => exact ⟨0, Nat.zero_le _, rfl, _, rfl, hzx, by rw [HX.out]; rfl⟩
      case round =>
        obtain ⟨j, hj, rfl, y, hy, hy2, rfl⟩ := hrel
        by_cases hj8 : j < 8
        · have hy3 : Hid (crc1 y = crcN (j + 1) (z ^^^ l[k].toNat)) := by rw [crcN_succ', ← hy.out]; exact Lib.hid rfl
          have hy4 := crc1_lt y hy2
          by_cases hp : y % 2 = 1
          · have H1 := Lib.hid (crc1_odd y hy2 hp)
            have hp2 : ((y : Int) % 2 == 1) = true := by rw [beq_iff_eq]; omega
            clear hp hck
            go_wp2
            go_round
            case rel => exact ⟨j + 1, by omega, by go_num, _, hy3, hy4, by rw [H1.out]⟩
            case measure => simp [intOf]; omega
          · have H1 := Lib.hid (crc1_even y hp)
            have hp2 : ((y : Int) % 2 == 1) = false := by rw [beq_eq_false_iff_ne]; omega
            clear hp hck
            go_wp2
            go_round
            case rel => exact ⟨j + 1, by omega, by go_num, _, hy3, hy4, by rw [H1.out]⟩
            case measure => simp [intOf]; omega
        · obtain rfl : j = 8 := by omega
          clear hck
          go_wp2
          go_round
          case rel => exact ⟨k + 1, by omega, by go_num, _, Lib.hid (hy.out.trans HN.out), hy2, rfl⟩
          case measure => simp [intOf]; omega
    · have hf : z = crcL 0xffffffff l := by rw [hz.out, List.take_of_length_le (by omega)]
      clear hz
      subst hf
      have HX := Lib.hid (xor_all _ hz2)
      go_wp2
      rw [HX.out]
      exact hR

theorem xor_all' (c : Nat) (h : c < 4294967296) : bits .xor .u32 IntKind.u32.max (c : Int) = ((c ^^^ 4294967295 : Nat) : Int) := by
  have e : IntKind.u32.max = ((4294967295 : Nat) : Int) := by decide
  rw [e, u32_xor_nat 4294967295 c (by omega) h, Nat.xor_comm]

/-- The sum of several parts. -/
def crcP (c : Nat) (ls : List (List UInt8)) : Nat := ls.foldl crcL c
theorem crcP_flatten (c : Nat) (ls : List (List UInt8)) : crcP c ls = crcL c ls.flatten := by
  induction ls generalizing c with
  | nil => rfl
  | cons l ls ih =>
    show crcP (crcL c l) ls = _
    rw [ih, List.flatten_cons, crcL_append]

set_option maxHeartbeats 1600000 in
theorem sum_any (v : Value) (ls : List (List UInt8)) (w : World) (hv : Bss w v ls) (R : Ending → World → Prop)
    (hR : R (.returned (.int .u32 (sumL ls.flatten))) w) :
    Calls Tryd.prog 30 #[v] w R := by
  obtain ⟨ad, c, vs, rfl, hr, hc, hm, hnil, hvs⟩ := hv
  go_enter Tryd.func30, Tryd.ntmps30
  go_wp2
  go_loop [3, 5, 7, 10, 14, 15, 16, 24] (fun x _ _ i _ _ _ _ => ∃ k : Nat, k ≤ ls.length ∧ i = .int .i64 k ∧ ∃ z : Nat, Hid (z = crcP 0xffffffff (ls.take k)) ∧ z < 4294967296 ∧ x = .int .u32 z) (fun _ _ _ i _ _ _ _ => ls.length - (intOf i).toNat)
  case atStart => exact ⟨0, Nat.zero_le _, rfl, _, rfl, by rw [crcP_flatten]; exact crcL_lt _ _ (by decide), rfl⟩
  case round =>
    obtain ⟨k, hk, rfl, z, hz, hz2, rfl⟩ := hrel
    by_cases hlt : k < ls.length
    · obtain ⟨b, o, rfl, hcell⟩ := hr.2 (by omega)
      obtain ⟨v', hv', hbs⟩ := hvs k hlt
      have hck := (hcell k (by omega)).trans hv'
      obtain ⟨ad2, c2, rfl, hr2, hc2, hm2, hnil2⟩ := hbs
      obtain ⟨p, hp⟩ : ∃ p, p = ls[k] := ⟨_, rfl⟩
      rw [← hp] at hck hr2 hc2
      have HN : Hid (crcL z p = crcP 0xffffffff (ls.take (k + 1))) := by
        rw [take_snoc' ls k hlt, ← hp, hz.out]
        unfold crcP
        rw [List.foldl_append]
        exact Lib.hid rfl
      clear hcell hr hvs hv' hp hz
      go_wp2
      go_loop [3, 7, 16, 24] (fun x _ i _ => ∃ k : Nat, k ≤ p.length ∧ i = .int .i64 k ∧ ∃ y : Nat, Hid (y = crcL z (p.take k)) ∧ y < 4294967296 ∧ x = .int .u32 y) (fun _ _ i _ => p.length - (intOf i).toNat)
      case atStart => exact ⟨0, Nat.zero_le _, rfl, _, rfl, hz2, rfl⟩
      case round =>
        obtain ⟨k2, hk2, rfl, y, hy, hy2, rfl⟩ := hrel
        by_cases hlt2 : k2 < p.length
        · obtain ⟨b2, o2, rfl, hcell⟩ := hr2.byteAt (by omega)
          have hck2 := hcell k2 hlt2
          have HX := Lib.hid (xor_byte y hy2 p[k2])
          have HN2 : Hid (crcN 8 (y ^^^ p[k2].toNat) = crcL z (p.take (k2 + 1))) := by
            rw [take_snoc' p k2 hlt2, crcL_append, ← hy.out]
            exact Lib.hid rfl
          have hzx : y ^^^ p[k2].toNat < 4294967296 := Nat.xor_lt_two_pow (n := 32) hy2 (by have := p[k2].toNat_lt; omega)
          clear hcell hr2 hy hck
          go_wp2
          go_loop [3, 24] (fun x i => ∃ j : Nat, j ≤ 8 ∧ i = .int .i64 j ∧ ∃ q : Nat, Hid (q = crcN j (y ^^^ p[k2].toNat)) ∧ q < 4294967296 ∧ x = .int .u32 q) (fun _ i => 8 - (intOf i).toNat)
          case atStart => exact ⟨0, Nat.zero_le _, rfl, _, rfl, hzx, by rw [HX.out]; rfl⟩
          case round =>
            obtain ⟨j, hj, rfl, q, hq, hq2, rfl⟩ := hrel
            by_cases hj8 : j < 8
            · have hq3 : Hid (crc1 q = crcN (j + 1) (y ^^^ p[k2].toNat)) := by rw [crcN_succ', ← hq.out]; exact Lib.hid rfl
              have hq4 := crc1_lt q hq2
              have H1 := Lib.hid (crc_step q hq2)
              clear hck2
              go_wp2
              go_round
              case rel => exact ⟨j + 1, by omega, by go_num, _, hq3, hq4, by rw [H1.out]⟩
              case measure => simp [intOf]; omega
            · obtain rfl : j = 8 := by omega
              clear hck2
              go_wp2
              go_round
              case rel => exact ⟨k2 + 1, by omega, by go_num, _, Lib.hid (hq.out.trans HN2.out), hq2, rfl⟩
              case measure => simp [intOf]; omega
        · have hf : y = crcL z p := by rw [hy.out, List.take_of_length_le (by omega)]
          clear hck hr2
          go_wp2
          go_round
          case rel => exact ⟨k + 1, by omega, by go_num, _, Lib.hid (hf.trans HN.out), hy2, rfl⟩
          case measure => simp [intOf]; omega
    · have hf : z = crcL 0xffffffff ls.flatten := by rw [hz.out, List.take_of_length_le (by omega), crcP_flatten]
      clear hz
      subst hf
      have HX := Lib.hid (xor_all' _ hz2)
      go_wp2
      rw [HX.out]
      exact hR

end Go.Proofs.YtbfelcgjocpgaaaDoor
