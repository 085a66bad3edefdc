
import Derived.Test.YtgimbocoamnkjaaGreatDoorM02
import Derived.Deep.WholeRow
import Derived.Laws.CopyOwn
import Derived.Shelf.SlSortCmp.QuietGrown
namespace Go.Proofs.YtgimbocoamnkjaaGreatDoor
open Go.RowKit

set_option maxRecDepth 100000 in
set_option maxHeartbeats 400000 in
theorem join_any (v : Value) (ls : List (List UInt8)) (J : List UInt8) (hJ : ls.flatten = J) (w : World) (hv : Bss w v ls) (hsum : J.length ≤ 140737488355328) (R : Ending → World → Prop)
    (hR : ∀ ad c w', w'.ownsRow w.heap.size 5 1 (.slice ad J.length c) J.length (bv J) → Below w.heap.size w w' → R (.returned (.slice ad J.length c)) w') :
    Calls Tryz.prog 55 #[v] w R := by
  subst hJ
  obtain ⟨ad, c, vs, rfl, hr, hc, hm, hnil, hvs⟩ := hv
  go_enter Tryz.func55, Tryz.ntmps55
  go_wp2
  go_loopw [3, 8] (fun x i wr => ∃ k : Nat, k ≤ ls.length ∧ i = .int .i64 k ∧ (∃ ad' c', ∃ acc : List UInt8, Hid (acc = (ls.take k).flatten) ∧ x = .slice ad' acc.length c' ∧ wr.ownsRow w.heap.size 5 1 (.slice ad' acc.length c') acc.length (bv acc)) ∧ Below w.heap.size w wr) (fun _ i _ => ls.length - (intOf i).toNat)
  case atStart => exact ⟨0, Nat.zero_le _, rfl, ⟨_, _, [], rfl, rfl, World.ownsRow_nil _ _ _ _⟩, Below.refl _ _⟩
  case round =>
    obtain ⟨k, hk, rfl, ⟨ad', c', acc, hacc, rfl, hown⟩, hb⟩ := hrel
    by_cases hlt : k < ls.length
    · obtain ⟨b, o, rfl, hcell⟩ := hr.2 (by omega)
      obtain ⟨v', hv', hbs⟩ := hvs k hlt
      have hck := (hb.cell (p := ⟨b, o + k, none⟩) (World.block_lt_of_cell? _ _ ((hcell k (by omega)).trans hv'))).trans ((hcell k (by omega)).trans hv')
      have hbs' := hbs.below hb
      have hts : Hid ((ls.take (k + 1)).flatten = acc ++ ls[k]) := by
        rw [hacc.out, List.take_succ_eq_append_getElem hlt, List.flatten_append]; simp [Hid]
      have hle : acc.length + ls[k].length ≤ ls.flatten.length := by
        have := congrArg List.length hts.out
        rw [List.length_append] at this
        rw [← this]
        conv => rhs; rw [← List.take_append_drop (k + 1) ls, List.flatten_append, List.length_append]
        omega
      obtain ⟨ad2, c2, rfl, hr2, hc2, hm2, hnil2⟩ := hbs'
      obtain ⟨p, hp⟩ : ∃ p, p = ls[k] := ⟨_, rfl⟩
      rw [← hp] at hck hr2 hc2 hle hts
      clear hcell hr hvs hv' hbs hp
      obtain ⟨N, hN⟩ : ∃ N, N = ls.flatten.length := ⟨_, rfl⟩
      rw [← hN] at hle hsum
      clear hN
      go_wp2_with (at_builtin; go_must (refine wpList_app (by rfl) (.tmp 12) (.tmp 13) 22 (by rfl) w.heap.size 5 (.int .u8 0) 1 1 Tryz.underlying22 Tryz.info5 rfl (by decide) _ _ _ _ rfl hown _ _ _ _ rfl hr2 (bv_oneCell _) hnil2 (by unfold maxLen; omega) (by omega) hb.size ?_))
      intro ad3 c3 w3 hown3 hg3
      have hb3 := below_app hb hg3 hb.size hown
      clear hown hg3 hb hck hr2
      rw [← List.length_append] at hown3 ⊢
      rw [← bv_append] at hown3
      obtain ⟨acc2, hacc2⟩ : ∃ acc2, acc2 = acc ++ p := ⟨_, rfl⟩
      rw [← hacc2] at hown3 hts ⊢
      clear hacc2
      go_wp2
      go_roundw
      case rel => exact ⟨k + 1, by omega, by go_num, ⟨ad3, c3, acc2, hts.out.symm, rfl, hown3⟩, hb3⟩
      case measure => simp [intOf]; omega
    · obtain rfl : k = ls.length := by omega
      have hf : acc = ls.flatten := by rw [hacc.out, List.take_length]
      subst hf
      go_wp2
      exact hR _ _ _ hown hb


/-- The lowest bytes of a number, the highest of them first. -/
def putL (x : Nat) : Nat → List UInt8
  | 0 => []
  | n + 1 => putL (x / 256) n ++ [b8 x]

theorem putL_length (x n : Nat) : (putL x n).length = n := by
  induction n generalizing x with
  | zero => rfl
  | succ n ih => simp [putL, ih]

/-- The last k of them are those of the number itself. -/
theorem putL_drop (x n k : Nat) (h : k ≤ n) : (putL x n).drop (n - k) = putL x k := by
  induction n generalizing x k with
  | zero => obtain rfl : k = 0 := by omega
            rfl
  | succ n ih =>
    cases k with
    | zero => simp [putL_length, putL]
    | succ k =>
      show (putL (x / 256) n ++ [b8 x]).drop (n + 1 - (k + 1)) = putL (x / 256) k ++ [b8 x]
      rw [List.drop_append_of_le_length (by rw [putL_length]; omega), show n + 1 - (k + 1) = n - k by omega, ih _ _ (by omega)]

/-- One byte more, from the right. -/
theorem putL_step (x k : Nat) : putL x (k + 1) = b8 ((x / 256 ^ k : Nat) : Int) :: putL x k := by
  induction k generalizing x with
  | zero => simp [putL]
  | succ k ih =>
    show putL (x / 256) (k + 1) ++ [b8 x] = _
    rw [ih, Nat.div_div_eq_div_mul, ← Nat.pow_succ']
    rfl

/-- What 'Put' gives: nothing where the width is none. -/
def putW (x : Nat) (width : Int) : List UInt8 := if width < 1 ∨ 8 < width then [] else putL x width.toNat

set_option maxRecDepth 100000 in
set_option maxHeartbeats 800000 in
theorem put_any (x : Nat) (hx : x < 18446744073709551616) (width : Int) (P : List UInt8) (hP : putW x width = P) (w : World) (R : Ending → World → Prop)
    (hR : ∀ ad c w', w'.ownsRow w.heap.size 5 1 (.slice ad P.length c) P.length (bv P) → Below w.heap.size w w' → R (.returned (.slice ad P.length c)) w') :
    Calls Tryz.prog 56 #[.int .u64 (x : Int), .int .i64 width] w R := by
  subst hP
  by_cases h1 : width < 1
  · have e : putW x width = [] := by unfold putW; rw [if_pos (.inl h1)]
    rw [e] at hR
    go_enter Tryz.func56, Tryz.ntmps56
    go_wp2
    exact hR _ _ _ (World.ownsRow_nil _ _ _ _) (Below.refl _ _)
  · by_cases h2 : 8 < width
    · have e : putW x width = [] := by unfold putW; rw [if_pos (.inr h2)]
      rw [e] at hR
      go_enter Tryz.func56, Tryz.ntmps56
      go_wp2
      exact hR _ _ _ (World.ownsRow_nil _ _ _ _) (Below.refl _ _)
    · obtain ⟨n, rfl⟩ := Int.eq_ofNat_of_zero_le (show 0 ≤ width by omega)
      have e : putW x n = putL x n := by unfold putW; rw [if_neg (by omega)]; rfl
      rw [e, putL_length] at hR
      clear e
      have hn1 : 1 ≤ n := by omega
      have hn8 : n ≤ 8 := by omega
      clear h1 h2
      obtain ⟨i, hi, hz, hi1, hi2⟩ := info_parts Tryz.info5
      go_enter Tryz.func56, Tryz.ntmps56
      go_wp2_with (at_make; go_must (refine wpList_make_full _ (by rfl) _ _ 22 (by rfl) w.heap.size 5 i (.int .u8 0) 1 Tryz.underlying22 hi hz hi1 _ _ _ _ n rfl rfl rfl rfl (by rw [hi2]; omega) (by unfold maxLen; omega) (Nat.le_refl _) ?_))
      intro w1 hown1 hg1
      have hb1 : Below w.heap.size w w1 := (Below.refl _ _).grown hg1 (Nat.le_refl _) (fun k hk => by cases hk)
      rw [made1, show (Value.int .u8 0) = Value.int .u8 (((0 : UInt8).toNat : Nat) : Int) from rfl, ← bv_replicate] at hown1
      clear hg1 hi hz hi1 hi2
      go_wp2
      go_loopw [0, 6] (fun y i wr => ∃ j : Nat, j ≤ n ∧ (∃ q : Int, q = (j : Int) - 1 ∧ i = .int .i64 q) ∧ (∃ z : Nat, Hid (z = x / 256 ^ (n - j)) ∧ z < 18446744073709551616 ∧ y = .int .u64 (z : Int)) ∧ (∃ m : List UInt8, Hid (m = List.replicate j 0 ++ putL x (n - j)) ∧ n ≤ m.length ∧ wr.ownsRow w.heap.size 5 1 (.slice (some ⟨w.heap.size, 0, none⟩) n n) n (bv m)) ∧ Below w.heap.size w wr) (fun _ i _ => (intOf i + 1).toNat)
      case atStart => exact ⟨n, Nat.le_refl _, ⟨_, rfl, rfl⟩, ⟨x, by rw [Nat.sub_self]; simp [Hid], hx, rfl⟩, ⟨_, by rw [Nat.sub_self, putL, List.append_nil]; exact Lib.hid rfl, by simp, hown1⟩, hb1⟩
      case round =>
        obtain ⟨j, hj, ⟨q, hq, rfl⟩, ⟨z, hz, hz2, rfl⟩, ⟨m, hm, hml, hown⟩, hb⟩ := hrel
        cases j with
        | zero =>
          have hm2 : m = putL x n := by rw [hm.out]; simp
          rw [hm2] at hown
          clear hm hm2 hz hown1 hb1
          have hq0 : q < 0 := by omega
          have HQ := Lib.hid hq
          clear hq
          go_wp2
          exact hR _ _ _ hown hb
        | succ j =>
          have hq1 : q = (j : Int) := by omega
          clear hq
          subst hq1
          have hcell := own_cell8 hown j (by omega)
          have hfz := hown.frozenAt j
          have hst := own_store8 hown j (b8 z)
          rw [b8_toNat] at hst
          have hs1 := hst.1
          have hs2 := hb.grown hst.2 (by have := hb.size; omega) (fun k hk => by cases hk; exact Nat.le_refl _)
          have hmm : m.set j (b8 z) = List.replicate j 0 ++ putL x (n - j) := by
            have e1 : n - j = (n - (j + 1)) + 1 := by omega
            rw [hm.out, e1, putL_step, ← hz.out, List.replicate_succ', List.append_assoc]
            rw [List.set_append_right _ _ (by simp)]
            simp
          have hzz : z / 256 = x / 256 ^ (n - j) := by
            have e1 : n - j = (n - (j + 1)) + 1 := by omega
            rw [hz.out, Nat.div_div_eq_div_mul, e1, Nat.pow_succ]
          have HZ := Lib.hid hzz
          have hl2 : n ≤ (m.set j (b8 z)).length := by rw [List.length_set]; exact hml
          have hz3 : z / 256 < 18446744073709551616 := by omega
          obtain ⟨m2, hm2⟩ : ∃ m2, m2 = m.set j (b8 z) := ⟨_, rfl⟩
          rw [← hm2] at hs1 hl2 hmm
          have HM := Lib.hid hmm
          clear hst hown hb hmm hzz hm2 hm hown1 hb1 hz
          go_wp2
          go_roundw
          case rel => exact ⟨j, by omega, ⟨_, rfl, rfl⟩, ⟨z / 256, HZ, hz3, by go_num⟩, ⟨m2, HM, hl2, hs1⟩, hs2⟩
          case measure => simp [intOf]

set_option maxRecDepth 100000 in
set_option maxHeartbeats 800000 in
theorem rput_any (x : Nat) (hx : x < 18446744073709551616) (width : Int) (P : List UInt8) (hP : putW x width = P) (w : World) (R : Ending → World → Prop)
    (hR : ∀ ad c w', w'.ownsRow w.heap.size 5 1 (.slice ad P.length c) P.length (bv P) → Below w.heap.size w w' → R (.returned (.slice ad P.length c)) w') :
    Calls Tryz.prog 64 #[.int .u64 (x : Int), .int .i64 width] w R := by
  subst hP
  by_cases h1 : width < 1
  · have e : putW x width = [] := by unfold putW; rw [if_pos (.inl h1)]
    rw [e] at hR
    go_enter Tryz.func64, Tryz.ntmps64
    go_wp2
    exact hR _ _ _ (World.ownsRow_nil _ _ _ _) (Below.refl _ _)
  · by_cases h2 : 8 < width
    · have e : putW x width = [] := by unfold putW; rw [if_pos (.inr h2)]
      rw [e] at hR
      go_enter Tryz.func64, Tryz.ntmps64
      go_wp2
      exact hR _ _ _ (World.ownsRow_nil _ _ _ _) (Below.refl _ _)
    · obtain ⟨n, rfl⟩ := Int.eq_ofNat_of_zero_le (show 0 ≤ width by omega)
      have e : putW x n = putL x n := by unfold putW; rw [if_neg (by omega)]; rfl
      rw [e, putL_length] at hR
      clear e
      have hn1 : 1 ≤ n := by omega
      have hn8 : n ≤ 8 := by omega
      clear h1 h2
      obtain ⟨i, hi, hz, hi1, hi2⟩ := info_parts Tryz.info5
      go_enter Tryz.func64, Tryz.ntmps64
      go_wp2_with (at_make; go_must (refine wpList_make_full _ (by rfl) _ _ 22 (by rfl) w.heap.size 5 i (.int .u8 0) 1 Tryz.underlying22 hi hz hi1 _ _ _ _ n rfl rfl rfl rfl (by rw [hi2]; omega) (by unfold maxLen; omega) (Nat.le_refl _) ?_))
      intro w1 hown1 hg1
      have hb1 : Below w.heap.size w w1 := (Below.refl _ _).grown hg1 (Nat.le_refl _) (fun k hk => by cases hk)
      rw [made1, show (Value.int .u8 0) = Value.int .u8 (((0 : UInt8).toNat : Nat) : Int) from rfl, ← bv_replicate] at hown1
      clear hg1 hi hz hi1 hi2
      go_wp2
      go_loopw [0, 6] (fun y i wr => ∃ j : Nat, j ≤ n ∧ (∃ q : Int, q = (j : Int) - 1 ∧ i = .int .i64 q) ∧ (∃ z : Nat, Hid (z = x / 256 ^ (n - j)) ∧ z < 18446744073709551616 ∧ y = .int .u64 (z : Int)) ∧ (∃ m : List UInt8, Hid (m = List.replicate j 0 ++ putL x (n - j)) ∧ n ≤ m.length ∧ wr.ownsRow w.heap.size 5 1 (.slice (some ⟨w.heap.size, 0, none⟩) n n) n (bv m)) ∧ Below w.heap.size w wr) (fun _ i _ => (intOf i + 1).toNat)
      case atStart => exact ⟨n, Nat.le_refl _, ⟨_, rfl, rfl⟩, ⟨x, by rw [Nat.sub_self]; simp [Hid], hx, rfl⟩, ⟨_, by rw [Nat.sub_self, putL, List.append_nil]; exact Lib.hid rfl, by simp, hown1⟩, hb1⟩
      case round =>
        obtain ⟨j, hj, ⟨q, hq, rfl⟩, ⟨z, hz, hz2, rfl⟩, ⟨m, hm, hml, hown⟩, hb⟩ := hrel
        cases j with
        | zero =>
          have hm2 : m = putL x n := by rw [hm.out]; simp
          rw [hm2] at hown
          clear hm hm2 hz hown1 hb1
          have hq0 : q < 0 := by omega
          have HQ := Lib.hid hq
          clear hq
          go_wp2
          exact hR _ _ _ hown hb
        | succ j =>
          have hq1 : q = (j : Int) := by omega
          clear hq
          subst hq1
          have hcell := own_cell8 hown j (by omega)
          have hfz := hown.frozenAt j
          have hst := own_store8 hown j (b8 z)
          rw [b8_toNat] at hst
          have hs1 := hst.1
          have hs2 := hb.grown hst.2 (by have := hb.size; omega) (fun k hk => by cases hk; exact Nat.le_refl _)
          have hmm : m.set j (b8 z) = List.replicate j 0 ++ putL x (n - j) := by
            have e1 : n - j = (n - (j + 1)) + 1 := by omega
            rw [hm.out, e1, putL_step, ← hz.out, List.replicate_succ', List.append_assoc]
            rw [List.set_append_right _ _ (by simp)]
            simp
          have hzz : z / 256 = x / 256 ^ (n - j) := by
            have e1 : n - j = (n - (j + 1)) + 1 := by omega
            rw [hz.out, Nat.div_div_eq_div_mul, e1, Nat.pow_succ]
          have HZ := Lib.hid hzz
          have hl2 : n ≤ (m.set j (b8 z)).length := by rw [List.length_set]; exact hml
          have hz3 : z / 256 < 18446744073709551616 := by omega
          obtain ⟨m2, hm2⟩ : ∃ m2, m2 = m.set j (b8 z) := ⟨_, rfl⟩
          rw [← hm2] at hs1 hl2 hmm
          have HM := Lib.hid hmm
          clear hst hown hb hmm hzz hm2 hm hown1 hb1 hz
          go_wp2
          go_roundw
          case rel => exact ⟨j, by omega, ⟨_, rfl, rfl⟩, ⟨z / 256, HZ, hz3, by go_num⟩, ⟨m2, HM, hl2, hs1⟩, hs2⟩
          case measure => simp [intOf]

/-- The number that bytes say, by the code's own steps. -/
def getU (l : List UInt8) : Nat := l.foldl (fun x c => (x * 256 + c.toNat) % 18446744073709551616) 0
theorem getU_snoc (l : List UInt8) (c : UInt8) : getU (l ++ [c]) = (getU l * 256 + c.toNat) % 18446744073709551616 := by simp [getU, List.foldl_append]
theorem getU_lt (l : List UInt8) : getU l < 18446744073709551616 := by
  rcases List.eq_nil_or_concat l with rfl | ⟨l', c, rfl⟩
  · decide
  · rw [List.concat_eq_append, getU_snoc]; exact Nat.mod_lt _ (by decide)

theorem take_snoc' {α : Type} (l : List α) (k : Nat) (h : k < l.length) : l.take (k + 1) = l.take k ++ [l[k]] := List.take_succ_eq_append_getElem h

theorem or_shift (z c : Nat) (hc : c < 256) : bits .or .u64 (IntKind.u64.wrap ((z : Int) * 256)) (IntKind.u64.wrap (c : Int)) = (((z * 256 + c) % 18446744073709551616 : Nat) : Int) := by
  rw [IntKind.wrap_u64, IntKind.wrap_u64]
  have e1 : ((z : Int) * 256) % 18446744073709551616 = (((z * 256) % 18446744073709551616 : Nat) : Int) := by omega
  have e2 : (c : Int) % 18446744073709551616 = (c : Int) := by omega
  rw [e1, e2]
  have h := bits_or_u64_nat ((z * 256) % 18446744073709551616) c (Nat.mod_lt _ (by decide)) (by omega)
  rw [h]
  congr 1
  have e3 : (z * 256) % 18446744073709551616 = (z % 72057594037927936) * 2 ^ 8 := by omega
  rw [e3, ← Nat.shiftLeft_eq, ← Nat.shiftLeft_add_eq_or_of_lt (by omega), Nat.shiftLeft_eq]
  omega

set_option maxRecDepth 100000 in
set_option maxHeartbeats 400000 in
theorem get_any (v : Value) (l : List UInt8) (w : World) (hv : Bs w v l) (R : Ending → World → Prop)
    (hR : R (.returned (.int .u64 (getU l))) w) :
    Calls Tryz.prog 109 #[v] w R := by
  obtain ⟨ad, c, rfl, hr, hc, hm, hnil⟩ := hv
  go_enter Tryz.func109, Tryz.ntmps109
  go_wp2
  go_loop [3, 8] (fun x i => ∃ k : Nat, k ≤ l.length ∧ i = .int .i64 k ∧ ∃ z : Nat, Hid (z = getU (l.take k)) ∧ z < 18446744073709551616 ∧ x = .int .u64 z) (fun _ i => l.length - (intOf i).toNat)
  case atStart => exact ⟨0, Nat.zero_le _, rfl, 0, rfl, by decide, rfl⟩
  case round =>
    obtain ⟨k, hk, rfl, z, hz, hz2, rfl⟩ := hrel
    by_cases hlt : k < l.length
    · obtain ⟨b, o, rfl, hcell⟩ := hr.byteAt (by omega)
      have hck := hcell k hlt
      have hor := or_shift z l[k].toNat (by have := l[k].toNat_lt; omega)
      have HG : Hid ((z * 256 + l[k].toNat) % 18446744073709551616 = getU (l.take (k + 1))) := by rw [take_snoc' l k hlt, getU_snoc, ← hz.out]; exact Lib.hid rfl
      have hlt2 : (z * 256 + l[k].toNat) % 18446744073709551616 < 18446744073709551616 := Nat.mod_lt _ (by decide)
      have HO := Lib.hid hor
      have HL := Lib.hid hlt2
      clear hcell hr hor hz hlt2
      go_wp2
      go_round
      case rel => exact ⟨k + 1, by omega, by go_num, _, HG, HL.out, by rw [← HO.out]⟩
      case measure => simp [intOf]; omega
    · have hf : z = getU l := by rw [hz.out, List.take_of_length_le (by omega)]
      clear hz
      subst hf
      go_wp2
      exact hR

theorem add_shift (z : Nat) (b : UInt8) : IntKind.u64.wrap (IntKind.u64.wrap ((z : Int) * 256) + IntKind.u64.wrap (b.toNat : Int)) = (((z * 256 + b.toNat) % 18446744073709551616 : Nat) : Int) := by
  rw [IntKind.wrap_u64, IntKind.wrap_u64, IntKind.wrap_u64]
  omega

set_option maxRecDepth 100000 in
set_option maxHeartbeats 400000 in
theorem rget_any (v : Value) (l : List UInt8) (w : World) (hv : Bs w v l) (R : Ending → World → Prop)
    (hR : R (.returned (.int .u64 (getU l))) w) :
    Calls Tryz.prog 136 #[v] w R := by
  obtain ⟨ad, c, rfl, hr, hc, hm, hnil⟩ := hv
  go_enter Tryz.func136, Tryz.ntmps136
  go_wp2
  go_loop [3, 4] (fun x i => ∃ k : Nat, k ≤ l.length ∧ i = .int .i64 k ∧ ∃ z : Nat, Hid (z = getU (l.take k)) ∧ z < 18446744073709551616 ∧ x = .int .u64 z) (fun _ i => l.length - (intOf i).toNat)
  case atStart => exact ⟨0, Nat.zero_le _, rfl, 0, rfl, by decide, rfl⟩
  case round =>
    obtain ⟨k, hk, rfl, z, hz, hz2, rfl⟩ := hrel
    by_cases hlt : k < l.length
    · obtain ⟨b, o, rfl, hcell⟩ := hr.byteAt (by omega)
      have hck := hcell k hlt
      have HG : Hid ((z * 256 + l[k].toNat) % 18446744073709551616 = getU (l.take (k + 1))) := by rw [take_snoc' l k hlt, getU_snoc, ← hz.out]; exact Lib.hid rfl
      have hlt2 : (z * 256 + l[k].toNat) % 18446744073709551616 < 18446744073709551616 := Nat.mod_lt _ (by decide)
      have HL := Lib.hid hlt2
      clear hcell hr hz hlt2
      go_wp2
      go_round
      case rel => exact ⟨k + 1, by omega, by go_num, _, HG, HL.out, by rw [add_shift]⟩
      case measure => simp [intOf]; omega
    · have hf : z = getU l := by rw [hz.out, List.take_of_length_le (by omega)]
      clear hz
      subst hf
      go_wp2
      exact hR


end Go.Proofs.YtgimbocoamnkjaaGreatDoor


namespace Go.Proofs.YtgimbocoamnkjaaGreatDoor
open Go.RowKit

/-- No rune of the bytes is 0. -/
def nzF : Nat → List UInt8 → Bool
  | 0, _ => true
  | n + 1, l => if l = [] then true else if (Lib.decodeL l).1 = 0 then false else nzF n (l.drop (Lib.decodeL l).2)
def nz (l : List UInt8) : Bool := nzF l.length l
/-- Are the bytes a text? -/
def isTextL (l : List UInt8) : Bool := nz l && Lib.validD l

theorem nzF_fuel (n m : Nat) (l : List UInt8) (hn : l.length ≤ n) (hm : l.length ≤ m) : nzF n l = nzF m l := by
  induction n generalizing m l with
  | zero =>
    obtain rfl : l = [] := List.eq_nil_of_length_eq_zero (by omega)
    cases m <;> simp [nzF]
  | succ n ih =>
    by_cases hl : l = []
    · subst hl
      cases m <;> simp [nzF]
    · have h1 := Lib.decodeL_width l
      have hp : 0 < l.length := List.length_pos_iff.2 hl
      cases m with
      | zero => omega
      | succ m =>
        simp only [nzF, hl, if_false]
        rw [ih m (l.drop (Lib.decodeL l).2) (by rw [List.length_drop]; omega) (by rw [List.length_drop]; omega)]

theorem nz_step (l : List UInt8) (hl : l ≠ []) : nz l = if (Lib.decodeL l).1 = 0 then false else nz (l.drop (Lib.decodeL l).2) := by
  have h1 := Lib.decodeL_width l
  have hp : 0 < l.length := List.length_pos_iff.2 hl
  unfold nz
  obtain ⟨n, hn⟩ : ∃ n, l.length = n + 1 := ⟨l.length - 1, by omega⟩
  rw [hn]
  simp only [nzF, hl, if_false]
  rw [nzF_fuel n (l.drop (Lib.decodeL l).2).length _ (by rw [List.length_drop]; omega) (Nat.le_refl _)]

theorem str_data (l : List UInt8) : (str l).data.toList = l := by simp
theorem str_size (l : List UInt8) : (str l).size = l.length := rfl

set_option maxHeartbeats 800000 in
theorem istext_any (l : List UInt8) (w : World) (hl : l.length ≤ 9223372036854775807) (hT : Tabs w) (R : Ending → World → Prop)
    (hR : ∀ w', Below w.heap.size w w' → R (.returned (.bool (isTextL l))) w') : Calls Tryz.prog 117 #[.string (str l)] w R := by
  have hsz := str_size l
  go_enter Tryz.func117, Tryz.ntmps117
  go_wp2
  go_loopw [4] (fun _ wr => ∃ pos : Nat, pos ≤ l.length ∧ wr = w.iter (str l) pos ∧ Hid (nz (l.drop pos) = nz l)) (fun _ wr => l.length - wr.iterPos w.heap.size)
  case atStart => exact ⟨0, Nat.zero_le _, rfl, by rw [List.drop_zero]; exact Lib.hid rfl⟩
  case round =>
    obtain ⟨pos, hpos, rfl, hnz⟩ := hrel
    by_cases hlt : pos < l.length
    · have hdec : Lib.decodeL (l.drop pos) = Utf8.decode (str l) pos := by
        have := Lib.decodeL_drop (str l) pos
        rwa [str_data] at this
      have hstep := nz_step (l.drop pos) (by intro h; have := congrArg List.length h; rw [List.length_drop] at this; simp at this; omega)
      rw [List.drop_drop, hdec, hnz.out] at hstep
      have hw1 : pos + (Utf8.decode (str l) pos).2 ≤ l.length := by
        have := Lib.decodeL_le (l.drop pos) (by intro h; have := congrArg List.length h; rw [List.length_drop] at this; simp at this; omega)
        rw [hdec, List.length_drop] at this
        omega
      have hw2 : 1 ≤ (Utf8.decode (str l) pos).2 := by rw [← hdec]; exact Lib.decodeL_width _
      have hnx := fun ty => run_next_any (P := Tryz.prog) w (str l) pos ty hlt
      obtain ⟨r, hr⟩ : ∃ r, r = (Utf8.decode (str l) pos).1 := ⟨_, rfl⟩
      obtain ⟨k, hk⟩ : ∃ k, k = (Utf8.decode (str l) pos).2 := ⟨_, rfl⟩
      rw [← hr, ← hk] at hnx
      rw [← hr, ← hk] at hstep
      rw [← hk] at hw1 hw2
      clear hr hk hdec hsz hnz
      by_cases hr0 : r = 0
      · rw [if_pos hr0] at hstep
        have hf : isTextL l = false := by unfold isTextL; rw [hstep]; rfl
        rw [hf] at hR
        have hr00 : ((r : Int) == 0) = true := by rw [beq_iff_eq]; omega
        clear hr0 hstep hf
        go_wp2
        exact (Below.refl _ _).alloc (Nat.le_refl _) _
      · rw [if_neg hr0] at hstep
        have H := Lib.hid hstep.symm
        have hr00 : ((r : Int) == 0) = false := by rw [beq_eq_false_iff_ne]; omega
        clear hr0 hstep
        go_wp2
        go_roundw
        case rel => exact ⟨pos + k, by omega, rfl, H⟩
        case measure => simp; omega
    · have hnx := fun ty => run_next_end (P := Tryz.prog) w (str l) pos ty (by rw [hsz]; exact hlt)
      have hz : nz l = true := by
        rw [← hnz.out, List.drop_of_length_le (by omega)]
        rfl
      have hf : isTextL l = Lib.validD l := by unfold isTextL; rw [hz]; rfl
      rw [hf] at hR
      have hb : Below w.heap.size w (w.iter (str l) pos) := (Below.refl _ _).alloc (Nat.le_refl _) _
      have hT2 := hT.below hb
      clear hz hf hsz hnz
      go_wp2_with (go_at_call 154; go_must (refine valid_any l _ hl hT2 _ ?_))
      intro w2 hb2
      have hb3 := below_then hb hb2 hb.size
      clear hb hb2 hnx hT hT2
      go_wp2
      exact hb3
end Go.Proofs.YtgimbocoamnkjaaGreatDoor


namespace Go.Proofs.YtgimbocoamnkjaaGreatDoor
open Go.RowKit

/-- Bytes with their length ahead; the error's number. -/
def dataL (l : List UInt8) : List UInt8 × Int := if 65535 < l.length then ([], 10) else (putL l.length 2 ++ l, 0)
/-- What is read of bytes with their length ahead: the bytes, how many are used, the error's number. -/
def getDataL (l : List UInt8) : List UInt8 × Int × Int :=
  if l.length < 2 ∨ l.length - 2 < getU (l.take 2) then ([], 0, 11) else ((l.take (2 + getU (l.take 2))).drop 2, 2 + (getU (l.take 2) : Int), 0)

set_option maxHeartbeats 800000 in
theorem data_any (v : Value) (l D : List UInt8) (er : Int) (hD : dataL l = (D, er)) (w : World) (hv : Bs w v l) (R : Ending → World → Prop)
    (hR : ∀ ad c w', w'.ownsRow w.heap.size 5 1 (.slice ad D.length c) D.length (bv D) → Below w.heap.size w w' → R (.returned (.tuple #[.slice ad D.length c, .int .i64 er])) w') :
    Calls Tryz.prog 118 #[v] w R := by
  have hv' := hv
  obtain ⟨ad, c, rfl, hr, hc, hm, hnil⟩ := hv'
  by_cases hbig : 65535 < l.length
  · have e : dataL l = ([], 10) := by unfold dataL; rw [if_pos hbig]
    rw [hD] at e
    obtain ⟨rfl, rfl⟩ := Prod.mk.inj e
    clear e hD
    go_enter Tryz.func118, Tryz.ntmps118
    go_wp2
    exact hR _ _ _ (World.ownsRow_nil _ _ _ _) (Below.refl _ _)
  · have e : dataL l = (putL l.length 2 ++ l, 0) := by unfold dataL; rw [if_neg hbig]
    rw [hD] at e
    obtain ⟨e1, rfl⟩ := Prod.mk.inj e
    clear e hD
    obtain ⟨p, hp⟩ : ∃ p, p = putL l.length 2 := ⟨_, rfl⟩
    have hlp : p.length = 2 := by rw [hp]; exact putL_length _ _
    have HP2 : Hid (putW l.length 2 = p) := by rw [hp]; exact Lib.hid rfl
    have HF : Hid ([p, l].flatten = D) := by rw [e1, hp]; simp [Hid]
    have hD2 : D.length ≤ 140737488355328 := by rw [e1, List.length_append, putL_length]; omega
    clear e1 hp hlp
    go_enter Tryz.func118, Tryz.ntmps118
    go_wp2_with (go_at_call 56; go_must (refine put_any l.length (by omega) 2 p HP2.out _ _ ?_))
    intro ad1 c1 w1 hown1 hb1
    have hbs1 := (bs_of_owns hown1).2
    have hbs2 := hv.below hb1
    have hB := bss_lit2 (e := 22) hbs1 hbs2
    clear hown1 HP2 hr
    go_wp2_with (go_at_call 55; go_must (refine join_any _ _ D HF.out _ hB hD2 _ ?_))
    intro ad3 c3 w3 hown3 hb3
    have hsz := hb1.size
    have hb4 := below_then (hb1.alloc hsz _) hb3 (by omega)
    have hown4 := owns_mono (base' := w.heap.size) hown3 (by omega)
    clear hb1 hb3 hown3 hB hbs1 hbs2
    go_wp2
    exact hR _ _ _ hown4 hb4
/-- A text with its length ahead; the error's number. -/
def textL (l : List UInt8) : List UInt8 × Int := if isTextL l then dataL l else ([], 13)

set_option maxHeartbeats 800000 in
theorem text_any (l D : List UInt8) (er : Int) (hD : textL l = (D, er)) (w : World) (hl : l.length ≤ 140737488355328) (hT : Tabs w) (R : Ending → World → Prop)
    (hR : ∀ ad c w', w'.ownsRow w.heap.size 5 1 (.slice ad D.length c) D.length (bv D) → Below w.heap.size w w' → R (.returned (.tuple #[.slice ad D.length c, .int .i64 er])) w') :
    Calls Tryz.prog 54 #[.string (str l)] w R := by
  obtain ⟨t, ht⟩ : ∃ t, isTextL l = t := ⟨_, rfl⟩
  have hcv := fun w => Lib.run_convert_string_bytes (P := Tryz.prog) w 9 22 5 (str l) Tryz.underlying9 Tryz.underlying22 Tryz.underlying5
  have hsz : (str l).size = l.length := rfl
  cases t with
  | false =>
    have e : textL l = ([], 13) := by unfold textL; rw [ht]; rfl
    rw [hD] at e
    obtain ⟨rfl, rfl⟩ := Prod.mk.inj e
    clear e hD hcv
    have HT := Lib.hid ht
    clear ht hsz
    go_enter Tryz.func54, Tryz.ntmps54
    go_wp2_with (go_at_call 117; go_must (refine istext_any l _ (by omega) hT _ ?_))
    rw [HT.out]
    intro w1 hb1
    go_wp2
    exact hR _ _ _ (World.ownsRow_nil _ _ _ _) hb1
  | true =>
    have e : dataL l = (D, er) := by rw [← hD]; unfold textL; rw [ht]; rfl
    have HE := Lib.hid e
    have HT := Lib.hid ht
    have HC := Lib.hid hcv
    clear ht hD e hcv hsz
    go_enter Tryz.func54, Tryz.ntmps54
    go_wp2_with (go_at_call 117; go_must (refine istext_any l _ (by omega) hT _ ?_))
    rw [HT.out]
    intro w1 hb1
    have hb2 := bytesWorld_below w1 5 (str l)
    have hbs := bytesWorld_bs w1 5 l (by omega)
    have hc1 := HC.out w1
    have hb3 := below_then hb1 hb2 hb1.size
    rw [show (str l).size = l.length from rfl] at hc1
    go_wp2_with (go_at_call 118; go_must (refine data_any _ l D er HE.out _ hbs _ ?_))
    intro ad4 c4 w4 hown4 hb4
    have hb5 := below_then hb3 hb4 hb3.size
    have hown5 := owns_mono (base' := w.heap.size) hown4 hb3.size
    clear hb4 hown4 hbs hb3 hb2 hb1 hc1
    go_wp2
    exact hR _ _ _ hown5 hb5

end Go.Proofs.YtgimbocoamnkjaaGreatDoor

/- Tools of the walks over tables: blocks later on, results with a cell among them, five cells written, a clone of bytes. -/
namespace Go.Proofs.YtgimbocoamnkjaaGreatDoor
open Go.RowKit

theorem row_on {w w' : World} {g : Nat} {o : Obj} (h : w.heap[g]? = some o) (hb : Below w.heap.size w w') : w'.heap[g]? = some o := by
  rw [hb.block g (Array.getElem?_eq_some_iff.1 h).1]
  exact h
theorem below_tra {a b c : World} (h : Below a.heap.size a b) (h2 : Below b.heap.size b c) : Below a.heap.size a c := h.trans (h2.mono h.size)
theorem bs_none (w : World) : Bs w (.slice none 0 0) [] := ⟨none, 0, rfl, Rd.nil _ _ _, Nat.le_refl _, by omega, fun _ => rfl⟩

theorem res_two {P : Program} {fn : Func} {p q u : Tmp} {ty : TypeId} (h : fn.results = #[.cell p ty, .tmp q, .tmp u]) (tmps : Array Value) (w : World) (g : Nat) (t : TypeId) (cs : Array Value) (fr : Nat × Nat) (d : TypeDesc) (r s : Value)
    (hp : tmps.getD p undef = .pointer (some ⟨g, 0, none⟩)) (hq : tmps.getD q undef = r) (hu' : tmps.getD u undef = s) (hg : w.heap[g]? = some (.cells cs t fr))
    (hu : P.underlying ty = some d) (hd : (match d with | .struct _ | .array _ _ => true | _ => false) = true) (hi : (P.info? ty).map (·.size) = some cs.size) :
    (results fn tmps).run P w = .ok (.tuple #[.agg cs, r, s]) w := by
  have hp' : tmps[p]?.getD undef = .pointer (some ⟨g, 0, none⟩) := by simpa using hp
  have hq' : tmps[q]?.getD undef = r := by simpa using hq
  have hu2 : tmps[u]?.getD undef = s := by simpa using hu'
  simp [results, h, hp', hq', hu2, asAddr, run_loadVar_row w g t ty cs fr d hg hu hd hi]
theorem res_one {P : Program} {fn : Func} {p q : Tmp} {ty : TypeId} (h : fn.results = #[.cell p ty, .tmp q]) (tmps : Array Value) (w : World) (g : Nat) (t : TypeId) (cs : Array Value) (fr : Nat × Nat) (d : TypeDesc) (r : Value)
    (hp : tmps.getD p undef = .pointer (some ⟨g, 0, none⟩)) (hq : tmps.getD q undef = r) (hg : w.heap[g]? = some (.cells cs t fr))
    (hu : P.underlying ty = some d) (hd : (match d with | .struct _ | .array _ _ => true | _ => false) = true) (hi : (P.info? ty).map (·.size) = some cs.size) :
    (results fn tmps).run P w = .ok (.tuple #[.agg cs, r]) w := by
  have hp' : tmps[p]?.getD undef = .pointer (some ⟨g, 0, none⟩) := by simpa using hp
  have hq' : tmps[q]?.getD undef = r := by simpa using hq
  simp [results, h, hp', hq', asAddr, run_loadVar_row w g t ty cs fr d hg hu hd hi]

/-- Five cells written over. -/
def put5 (x : World) (N : Nat) (a b c d e : Value) : World := ((((x.setCell ⟨N, 0, none⟩ a).setCell ⟨N, 1, none⟩ b).setCell ⟨N, 2, none⟩ c).setCell ⟨N, 3, none⟩ d).setCell ⟨N, 4, none⟩ e
theorem put5_row {N t : Nat} {x : World} {out : Array Value} (h3 : x.heap[N]? = some (.cells out t (0, 0))) (hs : out.size = 5) (a b c d e : Value) : (put5 x N a b c d e).heap[N]? = some (.cells #[a, b, c, d, e] t (0, 0)) := by
  unfold put5
  rw [heap_setCell_same _ _ 4 _ _ _ (heap_setCell_same _ _ 3 _ _ _ (heap_setCell_same _ _ 2 _ _ _ (heap_setCell_same _ _ 1 _ _ _ (heap_setCell_same _ _ 0 _ _ _ h3))))]
  match out, hs with
  | ⟨[_, _, _, _, _]⟩, _ => rfl
theorem put5_keeps {N t te : Nat} {x : World} {out : Array Value} (h3 : x.heap[N]? = some (.cells out t (0, 0))) (ht : t ≠ te) (a b c d e : Value) : Keeps te x (put5 x N a b c d e) := by
  have k1 := heap_setCell_same _ _ 0 _ _ a h3
  have k2 := heap_setCell_same _ _ 1 _ _ b k1
  have k3 := heap_setCell_same _ _ 2 _ _ c k2
  have k4 := heap_setCell_same _ _ 3 _ _ d k3
  exact (((Keeps.setK h3 ht).trans (Keeps.setK k1 ht)).trans ((Keeps.setK k2 ht).trans (Keeps.setK k3 ht))).trans (Keeps.setK k4 ht)
theorem put5_below {B N : Nat} {w x : World} (h : Below B w x) (hN : B ≤ N) (a b c d e : Value) : Below B w (put5 x N a b c d e) :=
  ((((h.setCell hN a).setCell hN b).setCell hN c).setCell hN d).setCell hN e

set_option maxRecDepth 100000 in
set_option maxHeartbeats 800000 in
theorem cloneb_any (v : Value) (l : List UInt8) (w : World) (hv : Bs w v l) (hl : l.length ≤ 140737488355328) (R : Ending → World → Prop)
    (hR : ∀ ad c w', w'.ownsRow w.heap.size 5 1 (.slice ad l.length c) l.length (bv l) → Below w.heap.size w w' → R (.returned (.slice ad l.length c)) w') :
    Calls Tryz.prog 139 #[v] w R := by
  obtain ⟨ad, c, rfl, hr, h1, h2, h3⟩ := hv
  cases ad with
  | none =>
    have hc : c = 0 := h3 rfl
    subst hc
    have hl0 : l = [] := List.eq_nil_of_length_eq_zero (by omega)
    subst hl0
    have he : ∀ w : World, (binOp .eql 22 (.slice none 0 0) (.slice none 0 0)).run Tryz.prog w = .ok (.bool true) w := fun _ => rfl
    go_enter Tryz.func139, Tryz.ntmps139
    go_wp2
    exact hR _ _ _ (World.ownsRow_nil _ _ _ _) (Below.refl _ _)
  | some a =>
    have he : ∀ w : World, (binOp .eql 22 (.slice (some a) l.length c) (.slice none 0 0)).run Tryz.prog w = .ok (.bool false) w := fun _ => rfl
    have hown := (World.ownsRow_made (base := w.heap.size) (e := 5) (size := 1) w #[] 0 (Nat.le_refl _) (by unfold maxLen; omega) rfl)
    have hr1 := rd_alloc hr (.cells #[] 5)
    go_enter Tryz.func139, Tryz.ntmps139
    go_wp2_with (at_builtin; go_must (refine wpList_app (by rfl) (.tmp 5) (.tmp 6) 22 (by rfl) w.heap.size 5 (.int .u8 0) 1 1 Tryz.underlying22 Tryz.info5 rfl (by decide) _ _ _ _ rfl hown _ _ _ _ rfl hr1 (bv_oneCell _) h3 (by unfold maxLen; omega) (by omega) (by simp) ?_))
    intro ad2 c2 w2 hown2 hg2
    have hb2 := below_app ((Below.refl w.heap.size w).alloc (Nat.le_refl _) _) hg2 (by simp) hown
    clear hg2 hown hr1 hr
    go_wp2
    exact hR _ _ _ hown2 hb2

theorem grown_bel {w w' : World} {row : Option Nat} (h : Below w.heap.size w w') : w.grownBy w' row := ⟨h.os, h.tape, h.output, h.size, fun k hk _ => h.block k hk⟩
/-- w' is w after some draws, with some blocks laid behind it. -/
structure Grn (w w' : World) : Prop where
  ex : ∃ q os, w' = Sort.grow (w.drewN q) os
theorem Grn.refl (w : World) : Grn w w := ⟨0, #[], by rw [Sort.grow_empty]; rfl⟩
theorem Grn.alloc {w x : World} (h : Grn w x) (o : Obj) : Grn w (x.alloc o) := by
  obtain ⟨q, os, rfl⟩ := h
  exact ⟨q, os ++ #[o], by rw [Sort.alloc_eq_grow, Sort.grow_grow]⟩
theorem Grn.drewN {w x : World} (h : Grn w x) (n : Nat) : Grn w (x.drewN n) := by
  obtain ⟨q, os, rfl⟩ := h
  exact ⟨q + n, os, by rw [← World.drewN_drewN]; rfl⟩
theorem Grn.drew {w x : World} (h : Grn w x) : Grn w x.drew := h.drewN 1
theorem Grn.trans {w x y : World} (h : Grn w x) (k : Grn x y) : Grn w y := by
  obtain ⟨q, os, rfl⟩ := h
  obtain ⟨r, os', rfl⟩ := k
  exact ⟨q + r, os ++ os', by rw [← World.drewN_drewN, ← Sort.grow_grow]; rfl⟩
theorem Grn.grow {w x : World} (h : Grn w x) (n : Nat) (os : Array Obj) : Grn w (Sort.grow (x.drewN n) os) := h.trans ⟨n, os, rfl⟩
theorem Grn.below {w x : World} (h : Grn w x) : Below w.heap.size w x := by
  obtain ⟨q, os, rfl⟩ := h
  refine ⟨rfl, rfl, rfl, ?_, fun k hk => ?_⟩
  · show w.heap.size ≤ (w.heap ++ os).size
    simp
  · show (w.heap ++ os)[k]? = w.heap[k]?
    exact Array.getElem?_append_left hk
theorem grn_calls {P : Program} {f : FuncId} {args : Array Value} {w : World} {n : Nat} {os : Array Obj} {v : Value}
    (h : Calls P f args (Sort.grow (w.drewN n) os) fun e w' => e = .returned v ∧ Grn (Sort.grow (w.drewN n) os) w') : Calls P f args (Sort.grow (w.drewN n) os) fun e w'' => e = .returned v ∧ ∃ p : Go.GrownBy, w'' = Sort.grow (w.drewN p.n) p.os :=
  Calls.grown_of (h.mono fun _ _ ⟨he, hq⟩ => ⟨he, hq.ex⟩)
end Go.Proofs.YtgimbocoamnkjaaGreatDoor

/- Small bytes of messages and sessions: one byte, eight, marks: walked. -/
namespace Go.Proofs.YtgimbocoamnkjaaGreatDoor
open Go.RowKit

theorem b8_wrap (x : Int) : Value.int .u8 (IntKind.u8.wrap x) = Value.int .u8 ((b8 x).toNat : Int) := by
  have : ((b8 x).toNat : Int) = IntKind.u8.wrap x := by rw [b8_toNat, IntKind.wrap_u8]
  rw [this]
/-- A literal of one byte. -/
theorem own_byte {B : Nat} (X : World) (x : Int) (hB : B ≤ X.heap.size) : (X.alloc (.cells #[Value.int .u8 (IntKind.u8.wrap x)] 5)).ownsRow B 5 1 (.slice (some ⟨X.heap.size, 0, none⟩) 1 1) 1 (bv [b8 x]) := by
  rw [b8_wrap]
  exact ⟨rfl, .inr ⟨X.heap.size, 1, #[Value.int .u8 ((b8 x).toNat : Int)], rfl, hB, heap_alloc_new X _, Nat.le_refl _, by unfold maxLen; omega, rfl, rfl⟩⟩
theorem own_bytes2 {B : Nat} (X : World) (x y : Int) (hB : B ≤ X.heap.size) : (X.alloc (.cells #[Value.int .u8 (IntKind.u8.wrap x), Value.int .u8 (IntKind.u8.wrap y)] 5)).ownsRow B 5 1 (.slice (some ⟨X.heap.size, 0, none⟩) 2 2) 2 (bv [b8 x, b8 y]) := by
  rw [b8_wrap, b8_wrap]
  exact ⟨rfl, .inr ⟨X.heap.size, 2, #[Value.int .u8 ((b8 x).toNat : Int), Value.int .u8 ((b8 y).toNat : Int)], rfl, hB, heap_alloc_new X _, Nat.le_refl _, by unfold maxLen; omega, rfl, rfl⟩⟩

set_option maxRecDepth 100000 in
set_option maxHeartbeats 400000 in
theorem small_any (n : Int) (w : World) (R : Ending → World → Prop)
    (hR : ∀ ad c w', w'.ownsRow w.heap.size 5 1 (.slice ad 1 c) 1 (bv [b8 n]) → Below w.heap.size w w' → R (.returned (.slice ad 1 c)) w') :
    Calls Tryz.prog 57 #[.int .i64 n] w R := by
  have HR := Lib.hid hR
  have HO := Lib.hid (own_byte (B := w.heap.size) w n (Nat.le_refl _))
  clear hR
  go_enter Tryz.func57, Tryz.ntmps57
  go_wp2
  exact HR.out _ _ _ HO.out ((Below.refl _ _).alloc (Nat.le_refl _) _)

set_option maxRecDepth 100000 in
set_option maxHeartbeats 400000 in
theorem sone_any (b : Bool) (n : Int) (w : World) (R : Ending → World → Prop)
    (hR : R (.returned (.int .i64 (if b then n else 0))) w) :
    Calls Tryz.prog 58 #[.bool b, .int .i64 n] w R := by
  cases b with
  | false =>
    have HR := Lib.hid (show R (.returned (.int .i64 0)) w from hR)
    clear hR
    go_enter Tryz.func58, Tryz.ntmps58
    go_wp2
    exact HR.out
  | true =>
    have HR := Lib.hid (show R (.returned (.int .i64 n)) w from hR)
    clear hR
    go_enter Tryz.func58, Tryz.ntmps58
    go_wp2
    exact HR.out

set_option maxRecDepth 100000 in
set_option maxHeartbeats 400000 in
theorem sdata_any (v : Value) (l D : List UInt8) (er : Int) (hD : dataL l = (D, er)) (w : World) (hv : Bs w v l) (R : Ending → World → Prop)
    (hR : ∀ ad c w', w'.ownsRow w.heap.size 5 1 (.slice ad D.length c) D.length (bv D) → Below w.heap.size w w' → R (.returned (.slice ad D.length c)) w') :
    Calls Tryz.prog 59 #[v] w R := by
  have HR := Lib.hid hR
  have HV := Lib.hid hv
  have HD := Lib.hid hD
  clear hR hv hD
  go_enter Tryz.func59, Tryz.ntmps59
  go_wp2_with (go_at_call 118; go_must (refine data_any _ l D er HD.out _ HV.out _ ?_); intro ad c w3 ho3 hb3)
  all_goals exact HR.out _ _ _ ho3 hb3

/-- Marks as a byte. -/
def markN (q : Int) (r : Bool) : Int := if r then bits .or .i64 q 4 else q
set_option maxRecDepth 100000 in
set_option maxHeartbeats 400000 in
theorem marks_any (q : Int) (r : Bool) (w : World) (R : Ending → World → Prop)
    (hR : ∀ ad c w', w'.ownsRow w.heap.size 5 1 (.slice ad 1 c) 1 (bv [b8 (markN q r)]) → Below w.heap.size w w' → R (.returned (.slice ad 1 c)) w') :
    Calls Tryz.prog 120 #[.int .i64 q, .bool r] w R := by
  have HR := Lib.hid hR
  have HO := Lib.hid (own_byte (B := w.heap.size) w (markN q r) (Nat.le_refl _))
  cases r with
  | false =>
    have hm : markN q false = q := rfl
    rw [hm] at HO HR
    clear hR hm
    go_enter Tryz.func120, Tryz.ntmps120
    go_wp2
    exact HR.out _ _ _ HO.out ((Below.refl _ _).alloc (Nat.le_refl _) _)
  | true =>
    have hm : markN q true = bits .or .i64 q 4 := rfl
    rw [hm] at HO HR
    clear hR hm
    go_enter Tryz.func120, Tryz.ntmps120
    go_wp2
    exact HR.out _ _ _ HO.out ((Below.refl _ _).alloc (Nat.le_refl _) _)

/-- A number as one of 64 bits. -/
def n64 (n : Int) : Nat := (n % 18446744073709551616).toNat
theorem n64_wrap (n : Int) : Value.int .u64 (IntKind.u64.wrap n) = Value.int .u64 (n64 n : Int) := by
  have : ((n64 n : Nat) : Int) = IntKind.u64.wrap n := by
    unfold n64
    rw [IntKind.wrap_u64]
    omega
  rw [this]
theorem n64_lt (n : Int) : n64 n < 18446744073709551616 := by
  unfold n64
  omega
set_option maxRecDepth 100000 in
set_option maxHeartbeats 400000 in
theorem eight_any (n : Int) (P : List UInt8) (hP : putL (n64 n) 8 = P) (w : World) (R : Ending → World → Prop)
    (hR : ∀ ad c w', w'.ownsRow w.heap.size 5 1 (.slice ad P.length c) P.length (bv P) → Below w.heap.size w w' → R (.returned (.slice ad P.length c)) w') :
    Calls Tryz.prog 156 #[.int .i64 n] w R := by
  obtain ⟨m, hm⟩ : ∃ m, n64 n = m := ⟨_, rfl⟩
  have hw : IntKind.u64.wrap n = (m : Int) := by
    have h1 := n64_wrap n
    rw [hm] at h1
    simpa using h1
  have hml : m < 18446744073709551616 := hm ▸ n64_lt n
  have HR := Lib.hid hR
  have HP : Hid (putW m 8 = P) := by
    show _ = _
    rw [← hP, hm]
    rfl
  clear hR hP hm
  go_enter Tryz.func156, Tryz.ntmps156
  go_wp2_with (go_at_call 56; go_must (refine put_any m hml 8 P HP.out _ _ ?_); intro ad c w3 ho3 hb3)
  all_goals exact HR.out _ _ _ ho3 hb3
end Go.Proofs.YtgimbocoamnkjaaGreatDoor
