
import Derived.Test.YtpodgocmcnkfdaaKeep
namespace Go.Proofs.Ytpodgocmcnkfdaa
open Go.RowKit

set_option maxRecDepth 100000 in
set_option maxHeartbeats 400000 in
theorem join_any (v : Value) (ls : List (List UInt8)) (J : List UInt8) (hJ : ls.flatten = J) (w : World) (hv : Bss w v ls) (hsum : J.length ≤ 140737488355328) (R : Ending → World → Prop)
    (hR : ∀ ad c w', w'.ownsRow w.heap.size 5 1 (.slice ad J.length c) J.length (bv J) → Below w.heap.size w w' → R (.returned (.slice ad J.length c)) w') :
    Calls Try.prog 47 #[v] w R := by
  subst hJ
  obtain ⟨ad, c, vs, rfl, hr, hc, hm, hnil, hvs⟩ := hv
  go_enter Try.func47, Try.ntmps47
  go_wp2
  go_loopw [3, 8] (fun x i wr => ∃ k : Nat, k ≤ ls.length ∧ i = .int .i64 k ∧ (∃ ad' c', ∃ acc : List UInt8, Hid (acc = (ls.take k).flatten) ∧ x = .slice ad' acc.length c' ∧ wr.ownsRow w.heap.size 5 1 (.slice ad' acc.length c') acc.length (bv acc)) ∧ Below w.heap.size w wr) (fun _ i _ => ls.length - (intOf i).toNat)
  case atStart => exact ⟨0, Nat.zero_le _, rfl, ⟨_, _, [], rfl, rfl, World.ownsRow_nil _ _ _ _⟩, Below.refl _ _⟩
  case round =>
    obtain ⟨k, hk, rfl, ⟨ad', c', acc, hacc, rfl, hown⟩, hb⟩ := hrel
    by_cases hlt : k < ls.length
    · obtain ⟨b, o, rfl, hcell⟩ := hr.2 (by omega)
      obtain ⟨v', hv', hbs⟩ := hvs k hlt
      have hck := (hb.cell (p := ⟨b, o + k, none⟩) (World.block_lt_of_cell? _ _ ((hcell k (by omega)).trans hv'))).trans ((hcell k (by omega)).trans hv')
      have hbs' := hbs.below hb
      have hts : Hid ((ls.take (k + 1)).flatten = acc ++ ls[k]) := by
        rw [hacc.out, List.take_succ_eq_append_getElem hlt, List.flatten_append]; simp [Hid]
      have hle : acc.length + ls[k].length ≤ ls.flatten.length := by
        have := congrArg List.length hts.out
        rw [List.length_append] at this
        rw [← this]
        conv => rhs; rw [← List.take_append_drop (k + 1) ls, List.flatten_append, List.length_append]
        omega
      obtain ⟨ad2, c2, rfl, hr2, hc2, hm2, hnil2⟩ := hbs'
      obtain ⟨p, hp⟩ : ∃ p, p = ls[k] := ⟨_, rfl⟩
      rw [← hp] at hck hr2 hc2 hle hts
      clear hcell hr hvs hv' hbs hp
      obtain ⟨N, hN⟩ : ∃ N, N = ls.flatten.length := ⟨_, rfl⟩
      rw [← hN] at hle hsum
      clear hN
      go_wp2_with (at_builtin; go_must (refine wpList_app (by rfl) (.tmp 12) (.tmp 13) 39 (by rfl) w.heap.size 5 (.int .u8 0) 1 1 Try.underlying39 Try.info5 rfl (by decide) _ _ _ _ rfl hown _ _ _ _ rfl hr2 (bv_oneCell _) hnil2 (by unfold maxLen; omega) (by omega) hb.size ?_))
      intro ad3 c3 w3 hown3 hg3
      have hb3 := below_app hb hg3 hb.size hown
      clear hown hg3 hb hck hr2
      rw [← List.length_append] at hown3 ⊢
      rw [← bv_append] at hown3
      obtain ⟨acc2, hacc2⟩ : ∃ acc2, acc2 = acc ++ p := ⟨_, rfl⟩
      rw [← hacc2] at hown3 hts ⊢
      clear hacc2
      go_wp2
      go_roundw
      case rel => exact ⟨k + 1, by omega, by go_num, ⟨ad3, c3, acc2, hts.out.symm, rfl, hown3⟩, hb3⟩
      case measure => simp [intOf]; omega
    · obtain rfl : k = ls.length := by omega
      have hf : acc = ls.flatten := by rw [hacc.out, List.take_length]
      subst hf
      go_wp2
      exact hR _ _ _ hown hb


/-- The lowest bytes of a number, the highest of them first. -/
def putL (x : Nat) : Nat → List UInt8
  | 0 => []
  | n + 1 => putL (x / 256) n ++ [b8 x]

theorem putL_length (x n : Nat) : (putL x n).length = n := by
  induction n generalizing x with
  | zero => rfl
  | succ n ih => simp [putL, ih]

/-- The last k of them are those of the number itself. -/
theorem putL_drop (x n k : Nat) (h : k ≤ n) : (putL x n).drop (n - k) = putL x k := by
  induction n generalizing x k with
  | zero => obtain rfl : k = 0 := by omega
            rfl
  | succ n ih =>
    cases k with
    | zero => simp [putL_length, putL]
    | succ k =>
      show (putL (x / 256) n ++ [b8 x]).drop (n + 1 - (k + 1)) = putL (x / 256) k ++ [b8 x]
      rw [List.drop_append_of_le_length (by rw [putL_length]; omega), show n + 1 - (k + 1) = n - k by omega, ih _ _ (by omega)]

/-- One byte more, from the right. -/
theorem putL_step (x k : Nat) : putL x (k + 1) = b8 ((x / 256 ^ k : Nat) : Int) :: putL x k := by
  induction k generalizing x with
  | zero => simp [putL]
  | succ k ih =>
    show putL (x / 256) (k + 1) ++ [b8 x] = _
    rw [ih, Nat.div_div_eq_div_mul, ← Nat.pow_succ']
    rfl

/-- What 'Put' gives: nothing where the width is none. -/
def putW (x : Nat) (width : Int) : List UInt8 := if width < 1 ∨ 8 < width then [] else putL x width.toNat

set_option maxRecDepth 100000 in
set_option maxHeartbeats 800000 in
theorem put_any (x : Nat) (hx : x < 18446744073709551616) (width : Int) (P : List UInt8) (hP : putW x width = P) (w : World) (R : Ending → World → Prop)
    (hR : ∀ ad c w', w'.ownsRow w.heap.size 5 1 (.slice ad P.length c) P.length (bv P) → Below w.heap.size w w' → R (.returned (.slice ad P.length c)) w') :
    Calls Try.prog 49 #[.int .u64 (x : Int), .int .i64 width] w R := by
  subst hP
  by_cases h1 : width < 1
  · have e : putW x width = [] := by unfold putW; rw [if_pos (.inl h1)]
    rw [e] at hR
    go_enter Try.func49, Try.ntmps49
    go_wp2
    exact hR _ _ _ (World.ownsRow_nil _ _ _ _) (Below.refl _ _)
  · by_cases h2 : 8 < width
    · have e : putW x width = [] := by unfold putW; rw [if_pos (.inr h2)]
      rw [e] at hR
      go_enter Try.func49, Try.ntmps49
      go_wp2
      exact hR _ _ _ (World.ownsRow_nil _ _ _ _) (Below.refl _ _)
    · obtain ⟨n, rfl⟩ := Int.eq_ofNat_of_zero_le (show 0 ≤ width by omega)
      have e : putW x n = putL x n := by unfold putW; rw [if_neg (by omega)]; rfl
      rw [e, putL_length] at hR
      clear e
      have hn1 : 1 ≤ n := by omega
      have hn8 : n ≤ 8 := by omega
      clear h1 h2
      obtain ⟨i, hi, hz, hi1, hi2⟩ := info_parts Try.info5
      go_enter Try.func49, Try.ntmps49
      go_wp2_with (at_make; go_must (refine wpList_make_full _ (by rfl) _ _ 39 (by rfl) w.heap.size 5 i (.int .u8 0) 1 Try.underlying39 hi hz hi1 _ _ _ _ n rfl rfl rfl rfl (by rw [hi2]; omega) (by unfold maxLen; omega) (Nat.le_refl _) ?_))
      intro w1 hown1 hg1
      have hb1 : Below w.heap.size w w1 := (Below.refl _ _).grown hg1 (Nat.le_refl _) (fun k hk => by cases hk)
      rw [made1, show (Value.int .u8 0) = Value.int .u8 (((0 : UInt8).toNat : Nat) : Int) from rfl, ← bv_replicate] at hown1
      clear hg1 hi hz hi1 hi2
      go_wp2
      go_loopw [0, 6] (fun y i wr => ∃ j : Nat, j ≤ n ∧ (∃ q : Int, q = (j : Int) - 1 ∧ i = .int .i64 q) ∧ (∃ z : Nat, Hid (z = x / 256 ^ (n - j)) ∧ z < 18446744073709551616 ∧ y = .int .u64 (z : Int)) ∧ (∃ m : List UInt8, Hid (m = List.replicate j 0 ++ putL x (n - j)) ∧ n ≤ m.length ∧ wr.ownsRow w.heap.size 5 1 (.slice (some ⟨w.heap.size, 0, none⟩) n n) n (bv m)) ∧ Below w.heap.size w wr) (fun _ i _ => (intOf i + 1).toNat)
      case atStart => exact ⟨n, Nat.le_refl _, ⟨_, rfl, rfl⟩, ⟨x, by rw [Nat.sub_self]; simp [Hid], hx, rfl⟩, ⟨_, by rw [Nat.sub_self, putL, List.append_nil]; exact Lib.hid rfl, by simp, hown1⟩, hb1⟩
      case round =>
        obtain ⟨j, hj, ⟨q, hq, rfl⟩, ⟨z, hz, hz2, rfl⟩, ⟨m, hm, hml, hown⟩, hb⟩ := hrel
        cases j with
        | zero =>
          have hm2 : m = putL x n := by rw [hm.out]; simp
          rw [hm2] at hown
          clear hm hm2 hz hown1 hb1
          have hq0 : q < 0 := by omega
          have HQ := Lib.hid hq
          clear hq
          go_wp2
          exact hR _ _ _ hown hb
        | succ j =>
          have hq1 : q = (j : Int) := by omega
          clear hq
          subst hq1
          have hcell := own_cell8 hown j (by omega)
          have hfz := hown.frozenAt j
          have hst := own_store8 hown j (b8 z)
          rw [b8_toNat] at hst
          have hs1 := hst.1
          have hs2 := hb.grown hst.2 (by have := hb.size; omega) (fun k hk => by cases hk; exact Nat.le_refl _)
          have hmm : m.set j (b8 z) = List.replicate j 0 ++ putL x (n - j) := by
            have e1 : n - j = (n - (j + 1)) + 1 := by omega
            rw [hm.out, e1, putL_step, ← hz.out, List.replicate_succ', List.append_assoc]
            rw [List.set_append_right _ _ (by simp)]
            simp
          have hzz : z / 256 = x / 256 ^ (n - j) := by
            have e1 : n - j = (n - (j + 1)) + 1 := by omega
            rw [hz.out, Nat.div_div_eq_div_mul, e1, Nat.pow_succ]
          have HZ := Lib.hid hzz
          have hl2 : n ≤ (m.set j (b8 z)).length := by rw [List.length_set]; exact hml
          have hz3 : z / 256 < 18446744073709551616 := by omega
          obtain ⟨m2, hm2⟩ : ∃ m2, m2 = m.set j (b8 z) := ⟨_, rfl⟩
          rw [← hm2] at hs1 hl2 hmm
          have HM := Lib.hid hmm
          clear hst hown hb hmm hzz hm2 hm hown1 hb1 hz
          go_wp2
          go_roundw
          case rel => exact ⟨j, by omega, ⟨_, rfl, rfl⟩, ⟨z / 256, HZ, hz3, by go_num⟩, ⟨m2, HM, hl2, hs1⟩, hs2⟩
          case measure => simp [intOf]

set_option maxRecDepth 100000 in
set_option maxHeartbeats 800000 in
theorem rput_any (x : Nat) (hx : x < 18446744073709551616) (width : Int) (P : List UInt8) (hP : putW x width = P) (w : World) (R : Ending → World → Prop)
    (hR : ∀ ad c w', w'.ownsRow w.heap.size 5 1 (.slice ad P.length c) P.length (bv P) → Below w.heap.size w w' → R (.returned (.slice ad P.length c)) w') :
    Calls Try.prog 68 #[.int .u64 (x : Int), .int .i64 width] w R := by
  subst hP
  by_cases h1 : width < 1
  · have e : putW x width = [] := by unfold putW; rw [if_pos (.inl h1)]
    rw [e] at hR
    go_enter Try.func68, Try.ntmps68
    go_wp2
    exact hR _ _ _ (World.ownsRow_nil _ _ _ _) (Below.refl _ _)
  · by_cases h2 : 8 < width
    · have e : putW x width = [] := by unfold putW; rw [if_pos (.inr h2)]
      rw [e] at hR
      go_enter Try.func68, Try.ntmps68
      go_wp2
      exact hR _ _ _ (World.ownsRow_nil _ _ _ _) (Below.refl _ _)
    · obtain ⟨n, rfl⟩ := Int.eq_ofNat_of_zero_le (show 0 ≤ width by omega)
      have e : putW x n = putL x n := by unfold putW; rw [if_neg (by omega)]; rfl
      rw [e, putL_length] at hR
      clear e
      have hn1 : 1 ≤ n := by omega
      have hn8 : n ≤ 8 := by omega
      clear h1 h2
      obtain ⟨i, hi, hz, hi1, hi2⟩ := info_parts Try.info5
      go_enter Try.func68, Try.ntmps68
      go_wp2_with (at_make; go_must (refine wpList_make_full _ (by rfl) _ _ 39 (by rfl) w.heap.size 5 i (.int .u8 0) 1 Try.underlying39 hi hz hi1 _ _ _ _ n rfl rfl rfl rfl (by rw [hi2]; omega) (by unfold maxLen; omega) (Nat.le_refl _) ?_))
      intro w1 hown1 hg1
      have hb1 : Below w.heap.size w w1 := (Below.refl _ _).grown hg1 (Nat.le_refl _) (fun k hk => by cases hk)
      rw [made1, show (Value.int .u8 0) = Value.int .u8 (((0 : UInt8).toNat : Nat) : Int) from rfl, ← bv_replicate] at hown1
      clear hg1 hi hz hi1 hi2
      go_wp2
      go_loopw [0, 6] (fun y i wr => ∃ j : Nat, j ≤ n ∧ (∃ q : Int, q = (j : Int) - 1 ∧ i = .int .i64 q) ∧ (∃ z : Nat, Hid (z = x / 256 ^ (n - j)) ∧ z < 18446744073709551616 ∧ y = .int .u64 (z : Int)) ∧ (∃ m : List UInt8, Hid (m = List.replicate j 0 ++ putL x (n - j)) ∧ n ≤ m.length ∧ wr.ownsRow w.heap.size 5 1 (.slice (some ⟨w.heap.size, 0, none⟩) n n) n (bv m)) ∧ Below w.heap.size w wr) (fun _ i _ => (intOf i + 1).toNat)
      case atStart => exact ⟨n, Nat.le_refl _, ⟨_, rfl, rfl⟩, ⟨x, by rw [Nat.sub_self]; simp [Hid], hx, rfl⟩, ⟨_, by rw [Nat.sub_self, putL, List.append_nil]; exact Lib.hid rfl, by simp, hown1⟩, hb1⟩
      case round =>
        obtain ⟨j, hj, ⟨q, hq, rfl⟩, ⟨z, hz, hz2, rfl⟩, ⟨m, hm, hml, hown⟩, hb⟩ := hrel
        cases j with
        | zero =>
          have hm2 : m = putL x n := by rw [hm.out]; simp
          rw [hm2] at hown
          clear hm hm2 hz hown1 hb1
          have hq0 : q < 0 := by omega
          have HQ := Lib.hid hq
          clear hq
          go_wp2
          exact hR _ _ _ hown hb
        | succ j =>
          have hq1 : q = (j : Int) := by omega
          clear hq
          subst hq1
          have hcell := own_cell8 hown j (by omega)
          have hfz := hown.frozenAt j
          have hst := own_store8 hown j (b8 z)
          rw [b8_toNat] at hst
          have hs1 := hst.1
          have hs2 := hb.grown hst.2 (by have := hb.size; omega) (fun k hk => by cases hk; exact Nat.le_refl _)
          have hmm : m.set j (b8 z) = List.replicate j 0 ++ putL x (n - j) := by
            have e1 : n - j = (n - (j + 1)) + 1 := by omega
            rw [hm.out, e1, putL_step, ← hz.out, List.replicate_succ', List.append_assoc]
            rw [List.set_append_right _ _ (by simp)]
            simp
          have hzz : z / 256 = x / 256 ^ (n - j) := by
            have e1 : n - j = (n - (j + 1)) + 1 := by omega
            rw [hz.out, Nat.div_div_eq_div_mul, e1, Nat.pow_succ]
          have HZ := Lib.hid hzz
          have hl2 : n ≤ (m.set j (b8 z)).length := by rw [List.length_set]; exact hml
          have hz3 : z / 256 < 18446744073709551616 := by omega
          obtain ⟨m2, hm2⟩ : ∃ m2, m2 = m.set j (b8 z) := ⟨_, rfl⟩
          rw [← hm2] at hs1 hl2 hmm
          have HM := Lib.hid hmm
          clear hst hown hb hmm hzz hm2 hm hown1 hb1 hz
          go_wp2
          go_roundw
          case rel => exact ⟨j, by omega, ⟨_, rfl, rfl⟩, ⟨z / 256, HZ, hz3, by go_num⟩, ⟨m2, HM, hl2, hs1⟩, hs2⟩
          case measure => simp [intOf]

/-- The number that bytes say, by the code's own steps. -/
def getU (l : List UInt8) : Nat := l.foldl (fun x c => (x * 256 + c.toNat) % 18446744073709551616) 0
theorem getU_snoc (l : List UInt8) (c : UInt8) : getU (l ++ [c]) = (getU l * 256 + c.toNat) % 18446744073709551616 := by simp [getU, List.foldl_append]
theorem getU_lt (l : List UInt8) : getU l < 18446744073709551616 := by
  rcases List.eq_nil_or_concat l with rfl | ⟨l', c, rfl⟩
  · decide
  · rw [List.concat_eq_append, getU_snoc]; exact Nat.mod_lt _ (by decide)

theorem take_snoc' {α : Type} (l : List α) (k : Nat) (h : k < l.length) : l.take (k + 1) = l.take k ++ [l[k]] := List.take_succ_eq_append_getElem h

theorem or_shift (z c : Nat) (hc : c < 256) : bits .or .u64 (IntKind.u64.wrap ((z : Int) * 256)) (IntKind.u64.wrap (c : Int)) = (((z * 256 + c) % 18446744073709551616 : Nat) : Int) := by
  rw [IntKind.wrap_u64, IntKind.wrap_u64]
  have e1 : ((z : Int) * 256) % 18446744073709551616 = (((z * 256) % 18446744073709551616 : Nat) : Int) := by omega
  have e2 : (c : Int) % 18446744073709551616 = (c : Int) := by omega
  rw [e1, e2]
  have h := bits_or_u64_nat ((z * 256) % 18446744073709551616) c (Nat.mod_lt _ (by decide)) (by omega)
  rw [h]
  congr 1
  have e3 : (z * 256) % 18446744073709551616 = (z % 72057594037927936) * 2 ^ 8 := by omega
  rw [e3, ← Nat.shiftLeft_eq, ← Nat.shiftLeft_add_eq_or_of_lt (by omega), Nat.shiftLeft_eq]
  omega

set_option maxRecDepth 100000 in
set_option maxHeartbeats 400000 in
theorem get_any (v : Value) (l : List UInt8) (w : World) (hv : Bs w v l) (R : Ending → World → Prop)
    (hR : R (.returned (.int .u64 (getU l))) w) :
    Calls Try.prog 69 #[v] w R := by
  obtain ⟨ad, c, rfl, hr, hc, hm, hnil⟩ := hv
  go_enter Try.func69, Try.ntmps69
  go_wp2
  go_loop [3, 8] (fun x i => ∃ k : Nat, k ≤ l.length ∧ i = .int .i64 k ∧ ∃ z : Nat, Hid (z = getU (l.take k)) ∧ z < 18446744073709551616 ∧ x = .int .u64 z) (fun _ i => l.length - (intOf i).toNat)
  case atStart => exact ⟨0, Nat.zero_le _, rfl, 0, rfl, by decide, rfl⟩
  case round =>
    obtain ⟨k, hk, rfl, z, hz, hz2, rfl⟩ := hrel
    by_cases hlt : k < l.length
    · obtain ⟨b, o, rfl, hcell⟩ := hr.byteAt (by omega)
      have hck := hcell k hlt
      have hor := or_shift z l[k].toNat (by have := l[k].toNat_lt; omega)
      have HG : Hid ((z * 256 + l[k].toNat) % 18446744073709551616 = getU (l.take (k + 1))) := by rw [take_snoc' l k hlt, getU_snoc, ← hz.out]; exact Lib.hid rfl
      have hlt2 : (z * 256 + l[k].toNat) % 18446744073709551616 < 18446744073709551616 := Nat.mod_lt _ (by decide)
      have HO := Lib.hid hor
      have HL := Lib.hid hlt2
      clear hcell hr hor hz hlt2
      go_wp2
      go_round
      case rel => exact ⟨k + 1, by omega, by go_num, _, HG, HL.out, by rw [← HO.out]⟩
      case measure => simp [intOf]; omega
    · have hf : z = getU l := by rw [hz.out, List.take_of_length_le (by omega)]
      clear hz
      subst hf
      go_wp2
      exact hR

theorem add_shift (z : Nat) (b : UInt8) : IntKind.u64.wrap (IntKind.u64.wrap ((z : Int) * 256) + IntKind.u64.wrap (b.toNat : Int)) = (((z * 256 + b.toNat) % 18446744073709551616 : Nat) : Int) := by
  rw [IntKind.wrap_u64, IntKind.wrap_u64, IntKind.wrap_u64]
  omega

set_option maxRecDepth 100000 in
set_option maxHeartbeats 400000 in
theorem rget_any (v : Value) (l : List UInt8) (w : World) (hv : Bs w v l) (R : Ending → World → Prop)
    (hR : R (.returned (.int .u64 (getU l))) w) :
    Calls Try.prog 70 #[v] w R := by
  obtain ⟨ad, c, rfl, hr, hc, hm, hnil⟩ := hv
  go_enter Try.func70, Try.ntmps70
  go_wp2
  go_loop [3, 4] (fun x i => ∃ k : Nat, k ≤ l.length ∧ i = .int .i64 k ∧ ∃ z : Nat, Hid (z = getU (l.take k)) ∧ z < 18446744073709551616 ∧ x = .int .u64 z) (fun _ i => l.length - (intOf i).toNat)
  case atStart => exact ⟨0, Nat.zero_le _, rfl, 0, rfl, by decide, rfl⟩
  case round =>
    obtain ⟨k, hk, rfl, z, hz, hz2, rfl⟩ := hrel
    by_cases hlt : k < l.length
    · obtain ⟨b, o, rfl, hcell⟩ := hr.byteAt (by omega)
      have hck := hcell k hlt
      have HG : Hid ((z * 256 + l[k].toNat) % 18446744073709551616 = getU (l.take (k + 1))) := by rw [take_snoc' l k hlt, getU_snoc, ← hz.out]; exact Lib.hid rfl
      have hlt2 : (z * 256 + l[k].toNat) % 18446744073709551616 < 18446744073709551616 := Nat.mod_lt _ (by decide)
      have HL := Lib.hid hlt2
      clear hcell hr hz hlt2
      go_wp2
      go_round
      case rel => exact ⟨k + 1, by omega, by go_num, _, HG, HL.out, by rw [add_shift]⟩
      case measure => simp [intOf]; omega
    · have hf : z = getU l := by rw [hz.out, List.take_of_length_le (by omega)]
      clear hz
      subst hf
      go_wp2
      exact hR


end Go.Proofs.Ytpodgocmcnkfdaa
