/- Which of several rows has the entry that stands first. -/
import Derived.Test.YtgkgahjdjkmmnaaCopied
import Derived.Deep.QuietTactic
import Derived.BigQuiet
namespace Go.Proofs.Ytgkgahjdjkmmnaa
open Go.RowKit

theorem below_drewN {B n : Nat} {a w : World} (h : Below B a w) : Below B a (w.drewN n) := ⟨h.os, h.tape, h.output, h.size, h.block⟩

/-- The slice value v reads as rows of entries. -/
def Ess (w : World) (v : Value) (ls : List (List Ent)) : Prop :=
  ∃ ad c, v = .slice ad ls.length c ∧ ls.length ≤ c ∧ c ≤ 9223372036854775807 ∧ (ad = none → c = 0) ∧
    (0 < ls.length → ∃ b o, ad = some ⟨b, o, none⟩ ∧ ∀ (i : Nat) (h : i < ls.length), ∃ s, w.cell? ⟨b, o + i, none⟩ = some s ∧ Es w s ls[i])
theorem Ess.below {w w' : World} {v : Value} {ls : List (List Ent)} (h : Ess w v ls) (hb : Below w.heap.size w w') : Ess w' v ls := by
  obtain ⟨ad, c, rfl, h1, h2, h3, h4⟩ := h
  refine ⟨ad, c, rfl, h1, h2, h3, fun h0 => ?_⟩
  obtain ⟨b, o, rfl, h5⟩ := h4 h0
  refine ⟨b, o, rfl, fun i hi => ?_⟩
  obtain ⟨s, h6, h7⟩ := h5 i hi
  exact ⟨s, cell_later hb h6, h7.below hb⟩

/-- Does row k take the place of row b? -/
def takesF (l : List Ent) (m : List Ent) : Bool := match l, m with
  | a :: _, b :: _ => lessE a b
  | _, _ => false
/-- Which of the first k rows has the entry that stands first; none: all are empty. -/
def firstK (ls : List (List Ent)) : Nat → Option Nat
  | 0 => none
  | k + 1 => match ls.getD k [], firstK ls k with
    | [], b => b
    | _ :: _, none => some k
    | a :: l, some b => if takesF (a :: l) (ls.getD b []) then some k else some b
def optI : Option Nat → Int
  | none => -1
  | some b => b
theorem firstK_lt (ls : List (List Ent)) : ∀ k b, firstK ls k = some b → b < k ∧ ls.getD b [] ≠ []
  | 0, b, h => by simp [firstK] at h
  | k + 1, b, h => by
    unfold firstK at h
    split at h
    · rename_i hl
      have := firstK_lt ls k b h
      exact ⟨by omega, this.2⟩
    · rename_i a l hl hb
      simp only [Option.some.injEq] at h
      subst h
      exact ⟨by omega, by rw [hl]; simp⟩
    · rename_i a l b' hl hb
      have h2 := firstK_lt ls k b' hb
      split at h
      · simp only [Option.some.injEq] at h
        subst h
        exact ⟨by omega, by rw [hl]; simp⟩
      · simp only [Option.some.injEq] at h
        subst h
        exact ⟨by omega, h2.2⟩

set_option maxRecDepth 100000 in
set_option maxHeartbeats 4000000 in
theorem first_any (u : Value) (ls : List (List Ent)) (z : Int) (hz : optI (firstK ls ls.length) = z) (w : World) (hu : Ess w u ls) (R : Ending → World → Prop)
    (hR : ∀ w', Below w.heap.size w w' → R (.returned (.int .i64 z)) w') :
    Calls Try.prog 32 #[u] w R := by
  have HU := Lib.hid hu
  have HZ := Lib.hid hz
  obtain ⟨la, lc, rfl, l1, l2, l3, l4⟩ := hu
  clear l4 hz
  go_enter Try.func32, Try.ntmps32
  go_wp2
  go_loopw [3, 4, 5, 8] (fun best _ _ i wr => ∃ k : Nat, k ≤ ls.length ∧ i = .int .i64 k ∧ (∃ b : Option Nat, Hid (firstK ls k = b) ∧ best = .int .i64 (optI b)) ∧ Below w.heap.size w wr) (fun _ _ _ i _ => ls.length - (intOf i).toNat)
  case atStart => exact ⟨0, Nat.zero_le _, rfl, ⟨none, rfl, rfl⟩, Below.refl _ _⟩
  case round =>
    obtain ⟨k, hk, rfl, ⟨b, hb0, rfl⟩, hb⟩ := hrel
    have hz := hb.size
    by_cases hlt : k < ls.length
    · have hkk : (k : Int) < (ls.length : Int) := by omega
      obtain ⟨ad', c', e, _, _, _, h4⟩ := HU.out.below hb
      simp only [Value.slice.injEq] at e
      obtain ⟨rfl, -, rfl⟩ := e
      obtain ⟨B, O, rfl, h5⟩ := h4 (by omega)
      obtain ⟨sk, p0, hes⟩ := h5 k hlt
      have hes' := hes
      obtain ⟨xa, xc, rfl, x1, x2, x3, x4⟩ := hes'
      obtain ⟨l, hl⟩ : ∃ l, ls[k] = l := ⟨_, rfl⟩
      have hgl : ls.getD k [] = l := by rw [List.getD_eq_getElem?_getD, List.getElem?_eq_getElem hlt, hl]; rfl
      rw [hl] at p0 x1 x4 hes
      have hst : Hid (firstK ls (k + 1) = match l, b with | [], b => b | _ :: _, none => some k | a :: l, some b => if takesF (a :: l) (ls.getD b []) then some k else some b) := by
        show firstK ls (k + 1) = _
        rw [firstK, hgl, hb0.out]
      clear hl hgl
      cases l with
      | nil =>
        have hn : Hid (firstK ls (k + 1) = b) := hst.out
        clear hst h4 h5 x4 hes
        obtain ⟨y, hy⟩ : ∃ y, optI b = y := ⟨_, rfl⟩
        have HY := Lib.hid hy
        rw [hy]
        clear hy
        go_wp2
        go_quiet (fail)
        go_wp2
        go_roundw
        case rel => exact ⟨k + 1, by omega, by go_num, ⟨b, hn, by rw [HY.out]⟩, below_drewN hb⟩
        case measure => simp [intOf]; omega
      | cons x l =>
        obtain ⟨xb, xo, rfl, x5⟩ := x4 (by simp)
        obtain ⟨ka, va, q, hec⟩ := x5 0 (by simp)
        obtain ⟨q0, q1, q2, q3⟩ := q
        simp only [List.getElem_cons_zero, Nat.zero_mul, Nat.add_zero] at q0 q1 q2 q3 hec
        have hlen : (0 : Int) < ((x :: l).length : Int) := by simp
        obtain ⟨n, hn⟩ : ∃ n, (x :: l).length = n := ⟨_, rfl⟩
        rw [hn] at hlen p0
        have hdl : decide ((0 : Int) < (n : Int)) = true := decide_eq_true hlen
        have hnn : 0 < n := by omega
        have hdn : decide (0 < n) = true := decide_eq_true hnn
        cases b with
        | none =>
          have hn2 : Hid (firstK ls (k + 1) = some k) := hst.out
          clear hst h4 h5 x5 hes q0 q1 q2 q3 hec hb0
          have hy : optI (none : Option Nat) = -1 := rfl
          rw [hy]
          clear hy
          go_wp2
          go_quiet (fail)
          go_wp2
          go_roundw
          case rel => exact ⟨k + 1, by omega, by go_num, ⟨some k, hn2, rfl⟩, below_drewN hb⟩
          case measure => simp [intOf]; omega
        | some b =>
          have hbl := firstK_lt ls k b hb0.out
          have hblt : b < ls.length := by omega
          obtain ⟨sb, t0, hms⟩ := h5 b hblt
          obtain ⟨m, hm⟩ : ∃ m, ls[b] = m := ⟨_, rfl⟩
          have hgm : ls.getD b [] = m := by rw [List.getD_eq_getElem?_getD, List.getElem?_eq_getElem hblt, hm]; rfl
          rw [hm] at hms
          have hst' : firstK ls (k + 1) = if takesF (x :: l) (ls.getD b []) then some k else some b := hst.out
          rw [hgm] at hbl hst'
          have hms' := hms
          obtain ⟨ya, yc, rfl, y1, y2, y3, y4⟩ := hms'
          cases m with
          | nil => exact absurd rfl hbl.2
          | cons y m =>
            obtain ⟨yb, yo, rfl, y5⟩ := y4 (by simp)
            obtain ⟨kb, vb, q, hed⟩ := y5 0 (by simp)
            obtain ⟨s0, s1, s2, s3⟩ := q
            simp only [List.getElem_cons_zero, Nat.zero_mul, Nat.add_zero] at s0 s1 s2 s3 hed
            have hmlen : (0 : Int) < ((y :: m).length : Int) := by simp
            obtain ⟨n2, hn2⟩ : ∃ n, (y :: m).length = n := ⟨_, rfl⟩
            rw [hn2] at hmlen t0
            obtain ⟨r, hr⟩ : ∃ r, lessE x y = r := ⟨_, rfl⟩
            have hstr : Hid (firstK ls (k + 1) = if r then some k else some b) := by rw [← hr]; exact hst'
            have HR : Hid (lessL x.key x.seq y.key y.seq = r) := hr
            have hoy : optI (some b) = (b : Int) := rfl
            rw [hoy]
            have hb1 : ¬ (b : Int) < 0 := by omega
            have hb2 : (0 : Int) ≤ (b : Int) := by omega
            have hb3 : (b : Int) < (ls.length : Int) := by omega
            clear hst hst' h4 h5 x5 y5 x4 y4 hes hms hb0 hbl hgm hm hoy hr
            have hdb : decide ((b : Int) < 0) = false := decide_eq_false hb1
            go_wp2
            replace hb : Below w.heap.size w wr.drew := hb.drew
            replace hz : w.heap.size ≤ wr.drew.heap.size := hz
            replace hec : EC wr.drew ka va x := hec.below (Below.refl _ _).drew
            replace hed : EC wr.drew kb vb y := hed.below (Below.refl _ _).drew
            have c0 : (wr.drew.cell? ⟨xb, xo, none⟩ = some ka ∧ wr.drew.cell? ⟨xb, xo + 1, none⟩ = some va ∧ wr.drew.cell? ⟨xb, xo + 2, none⟩ = some (Value.int .i64 x.seq) ∧ wr.drew.cell? ⟨xb, xo + 3, none⟩ = some (Value.bool x.dead)) := ⟨q0, q1, q2, q3⟩
            have c1 : (wr.drew.cell? ⟨yb, yo, none⟩ = some kb ∧ wr.drew.cell? ⟨yb, yo + 1, none⟩ = some vb ∧ wr.drew.cell? ⟨yb, yo + 2, none⟩ = some (Value.int .i64 y.seq) ∧ wr.drew.cell? ⟨yb, yo + 3, none⟩ = some (Value.bool y.dead)) := ⟨s0, s1, s2, s3⟩
            have c2 : wr.drew.cell? ⟨B, O + b, none⟩ = some (Value.slice (some ⟨yb, yo, none⟩) n2 yc) := t0
            clear q0 q1 q2 q3 s0 s1 s2 s3 t0 p0
            go_region_held (fun w' => (w'.cell? ⟨xb, xo, none⟩ = some ka ∧ w'.cell? ⟨xb, xo + 1, none⟩ = some va ∧ w'.cell? ⟨xb, xo + 2, none⟩ = some (Value.int .i64 x.seq) ∧ w'.cell? ⟨xb, xo + 3, none⟩ = some (Value.bool x.dead)) ∧ (w'.cell? ⟨yb, yo, none⟩ = some kb ∧ w'.cell? ⟨yb, yo + 1, none⟩ = some vb ∧ w'.cell? ⟨yb, yo + 2, none⟩ = some (Value.int .i64 y.seq) ∧ w'.cell? ⟨yb, yo + 3, none⟩ = some (Value.bool y.dead)) ∧ w'.cell? ⟨B, O + b, none⟩ = some (Value.slice (some ⟨yb, yo, none⟩) n2 yc))
              (first | exact ⟨c0, c1, c2⟩ | exact ⟨d0, d1, d2⟩ | go_keep)
              (first | (go_at_call 33; refine mless_any _ _ _ _ x.key y.key x.seq y.seq _ _ r HR.out (EC.shape hec) (EC.shape hed) _ hec.hk hed.hk _ ?_; intro w2 hy2; have d0 := e4_later hy2 c0; have d1 := e4_later hy2 c1; have d2 := cell_later hy2 c2; have hb3 := below_then hb hy2 hz; clear hb hy2 hec hed c0 c1 c2))
            cases r with
            | true =>
              have hn3 : Hid (firstK ls (k + 1) = some k) := hstr.out
              clear hstr
              go_wp2
              go_roundw
              case rel => exact ⟨k + 1, by omega, by go_num, ⟨some k, hn3, rfl⟩, hb3⟩
              case measure => simp [intOf]; omega
            | false =>
              have hn3 : Hid (firstK ls (k + 1) = some b) := hstr.out
              clear hstr
              go_wp2
              go_roundw
              case rel => exact ⟨k + 1, by omega, by go_num, ⟨some b, hn3, rfl⟩, hb3⟩
              case measure => simp [intOf]; omega
    · have hkk : ¬ ((k : Int) < (ls.length : Int)) := by omega
      obtain rfl : k = ls.length := by omega
      have hzz : optI b = z := by rw [← HZ.out, hb0.out]
      rw [hzz]
      clear hb0 hzz
      go_wp2
      all_goals first | exact hb | exact hR _ hb
end Go.Proofs.Ytgkgahjdjkmmnaa
