/- Tables of a version (api.Place) in memory: what a slice of them reads as; numbers, the order of tables, which table may be, which may stand behind which: program's and document's, walked. -/
import Derived.Test.YtpodgocmcnkfdaaCmp
import Derived.Test.YtpodgocmcnkfdaaPk
import Derived.Deep.RegionHeld
namespace Go.Proofs.Ytpodgocmcnkfdaa
open Go.RowKit

structure Pl where
  num : Int
  level : Int
  count : Int
  least : List UInt8
  most : List UInt8
instance : Inhabited Pl := ⟨⟨0, 0, 0, [], []⟩⟩

/-- Bounds of a table: the form's reach, int's range. -/
structure PlB (p : Pl) : Prop where
  la : p.least.length ≤ 140737488351232
  lb : p.most.length ≤ 140737488351232
  n0 : -9223372036854775808 ≤ p.num
  n1 : p.num ≤ 9223372036854775807
  l0 : -9223372036854775808 ≤ p.level
  l1 : p.level ≤ 9223372036854775807
  c0 : -9223372036854775808 ≤ p.count
  c1 : p.count ≤ 9223372036854775807
/-- The two slices of a table read as its first and its last key. -/
structure PlC (w : World) (x y : Value) (p : Pl) : Prop where
  hx : Bs w x p.least
  hy : Bs w y p.most
  hb : PlB p
theorem PlC.below {w w' : World} {x y : Value} {p : Pl} (h : PlC w x y p) (hb : Below w.heap.size w w') : PlC w' x y p := ⟨h.hx.below hb, h.hy.below hb, h.hb⟩
theorem PlC.shape {w : World} {x y : Value} {p : Pl} (h : PlC w x y p) : (∃ a c, x = .slice a p.least.length c) ∧ ∃ a c, y = .slice a p.most.length c := by
  obtain ⟨⟨a, c, rfl, _⟩, ⟨d, e, rfl, _⟩, _⟩ := h
  exact ⟨⟨_, _, rfl⟩, _, _, rfl⟩

/-- A table's five cells. -/
def plc (x y : Value) (p : Pl) : List Value := [.int .i64 p.num, .int .i64 p.level, .int .i64 p.count, x, y]
def PL5 (w : World) (b o : Nat) (x y : Value) (p : Pl) : Prop := w.cell? ⟨b, o, none⟩ = some (.int .i64 p.num) ∧ w.cell? ⟨b, o + 1, none⟩ = some (.int .i64 p.level) ∧ w.cell? ⟨b, o + 2, none⟩ = some (.int .i64 p.count) ∧ w.cell? ⟨b, o + 3, none⟩ = some x ∧ w.cell? ⟨b, o + 4, none⟩ = some y
theorem PL5.below {w w' : World} {b o : Nat} {x y : Value} {p : Pl} (h : PL5 w b o x y p) (hb : Below w.heap.size w w') : PL5 w' b o x y p := ⟨cell_later hb h.1, cell_later hb h.2.1, cell_later hb h.2.2.1, cell_later hb h.2.2.2.1, cell_later hb h.2.2.2.2⟩

/-- The slice value v reads as the tables l. -/
def Pls (w : World) (v : Value) (l : List Pl) : Prop :=
  ∃ ad c, v = .slice ad l.length c ∧ l.length ≤ c ∧ c ≤ 9223372036854775807 ∧ (ad = none → c = 0) ∧
    (0 < l.length → ∃ b o, ad = some ⟨b, o, none⟩ ∧ ∀ (i : Nat) (h : i < l.length), ∃ x y, PL5 w b (o + i * 5) x y l[i] ∧ PlC w x y l[i])
theorem Pls.below {w w' : World} {v : Value} {l : List Pl} (h : Pls w v l) (hb : Below w.heap.size w w') : Pls w' v l := by
  obtain ⟨ad, c, rfl, h1, h2, h3, h4⟩ := h
  refine ⟨ad, c, rfl, h1, h2, h3, fun h0 => ?_⟩
  obtain ⟨b, o, rfl, h5⟩ := h4 h0
  refine ⟨b, o, rfl, fun i hi => ?_⟩
  obtain ⟨x, y, h6, h7⟩ := h5 i hi
  exact ⟨x, y, h6.below hb, h7.below hb⟩
theorem Pls.pb {w : World} {v : Value} {l : List Pl} (h : Pls w v l) : ∀ p ∈ l, PlB p := by
  obtain ⟨ad, c, rfl, _, _, _, h4⟩ := h
  intro p hp
  obtain ⟨i, hi, rfl⟩ := List.getElem_of_mem hp
  obtain ⟨b, o, _, h5⟩ := h4 (by omega)
  obtain ⟨x, y, _, h6⟩ := h5 i hi
  exact h6.hb

/-! ### what the program computes, in plain words -/
def numberL (n : Int) : Bool := decide (0 ≤ n) && decide (n ≤ 1099511627776)
def ordL (p q : Pl) : Int := if cmpI p.level q.level ≠ 0 then cmpI p.level q.level else if p.level = 0 then cmpI p.num q.num else Lib.compareBytes p.least q.least
def apartL (p q : Pl) : Bool := decide (ordL p q < 0) && (decide (p.level ≠ q.level) || (decide (p.level = 0) || decide (Lib.compareBytes p.most q.least < 0)))
def aheadL (p q : Pl) : Bool := if p.level ≠ q.level then decide (p.level < q.level) else if p.level = 0 then decide (p.num < q.num) else decide (Lib.compareBytes p.most q.least < 0)
def sortsL (p q : Pl) : Bool := if p.level ≠ q.level then decide (p.level < q.level) else if p.level = 0 then decide (p.num < q.num) else decide (Lib.compareBytes p.least q.least < 0)
def tableL (p : Pl) (next : Int) : Bool :=
  decide (1 ≤ p.num) && (decide (p.num < next) && (decide (0 ≤ p.level) && (decide (p.level ≤ 3) && (decide (1 ≤ p.count) && (decide (p.count ≤ 65536) && (decide (p.least.length ≤ 128) && (decide (p.most.length ≤ 128) && decide (Lib.compareBytes p.least p.most ≤ 0))))))))

theorem cmpI_zero (a b : Int) : cmpI a b = 0 ↔ a = b := by
  unfold cmpI
  split
  · omega
  · split <;> omega
theorem cmpI_neg (a b : Int) : cmpI a b < 0 ↔ a < b := by
  unfold cmpI
  split
  · omega
  · split <;> omega
theorem ordL_sorts (p q : Pl) : decide (ordL p q < 0) = sortsL p q := by
  unfold ordL sortsL
  by_cases h : p.level = q.level
  · have h1 : ¬ cmpI p.level q.level ≠ 0 := fun hc => hc ((cmpI_zero _ _).2 h)
    have h2 : ¬ p.level ≠ q.level := fun hc => hc h
    rw [if_neg h1, if_neg h2]
    by_cases h3 : p.level = 0
    · rw [if_pos h3, if_pos h3]
      simp only [cmpI_neg]
    · rw [if_neg h3, if_neg h3]
  · rw [if_pos (fun hc => h ((cmpI_zero _ _).1 hc)), if_pos h]
    simp only [cmpI_neg]

theorem number_any (n : Int) (t : Bool) (ht : numberL n = t) (w : World) (R : Ending → World → Prop) (hR : R (.returned (.bool t)) w) : Calls Try.prog 39 #[.int .i64 n] w R := by
  unfold numberL at ht
  by_cases h1 : 0 ≤ n
  · by_cases h2 : n ≤ 1099511627776
    · obtain rfl : t = true := by rw [← ht]; simp [h1, h2]
      clear ht
      go_enter Try.func39, Try.ntmps39
      go_wp2
      all_goals exact hR
    · obtain rfl : t = false := by rw [← ht]; simp [h2]
      clear ht
      go_enter Try.func39, Try.ntmps39
      go_wp2
      all_goals exact hR
  · obtain rfl : t = false := by rw [← ht]; simp [h1]
    clear ht
    go_enter Try.func39, Try.ntmps39
    go_wp2
    all_goals exact hR

theorem in_any (n lo hi : Int) (t : Bool) (ht : (decide (lo ≤ n) && decide (n ≤ hi)) = t) (w : World) (R : Ending → World → Prop) (hR : R (.returned (.bool t)) w) : Calls Try.prog 42 #[.int .i64 n, .int .i64 lo, .int .i64 hi] w R := by
  by_cases h1 : lo ≤ n
  · by_cases h2 : n ≤ hi
    · obtain rfl : t = true := by rw [← ht]; simp [h1, h2]
      clear ht
      go_enter Try.func42, Try.ntmps42
      go_wp2
      all_goals exact hR
    · obtain rfl : t = false := by rw [← ht]; simp [h2]
      clear ht
      go_enter Try.func42, Try.ntmps42
      go_wp2
      all_goals exact hR
  · obtain rfl : t = false := by rw [← ht]; simp [h1]
    clear ht
    go_enter Try.func42, Try.ntmps42
    go_wp2
    all_goals exact hR

/-- The box of a table that was handed in. -/
def plO (x y : Value) (p : Pl) : Obj := .cells #[.int .i64 p.num, .int .i64 p.level, .int .i64 p.count, x, y] 41

set_option maxHeartbeats 1600000 in
theorem order_pl (a b c d : Value) (p q : Pl) (z : Int) (hz : ordL p q = z) (w : World) (hp : PlC w a b p) (hq : PlC w c d q) (R : Ending → World → Prop)
    (hR : R (.returned (.int .i64 z)) ((w.alloc (plO a b p)).alloc (plO c d q))) :
    Calls Try.prog 36 #[.agg #[.int .i64 p.num, .int .i64 p.level, .int .i64 p.count, a, b], .agg #[.int .i64 q.num, .int .i64 q.level, .int .i64 q.count, c, d]] w R := by
  have HR := Lib.hid hR
  have hb0 : Below w.heap.size w ((w.alloc (plO a b p)).alloc (plO c d q)) := ((Below.refl w.heap.size w).alloc (Nat.le_refl _) _).alloc (by simp) _
  have k1 := Lib.hid (hp.hx.below hb0)
  have k2 := Lib.hid (hq.hx.below hb0)
  have s1 := hp.shape
  have s2 := hq.shape
  clear hp hq hR hb0
  obtain ⟨pn, pl, pc, pa, pb⟩ := p
  obtain ⟨qn, ql, qc, qa, qb⟩ := q
  unfold plO at HR k1 k2
  simp only at *
  obtain ⟨⟨a1, a2, rfl⟩, b1, b2, rfl⟩ := s1
  obtain ⟨⟨c1, c2, rfl⟩, d1, d2, rfl⟩ := s2
  unfold ordL at hz
  simp only at hz
  by_cases h1 : pl = ql
  · subst h1
    rw [if_neg (by simpa using (cmpI_zero _ _).2 rfl)] at hz
    have HL : Hid (cmpI pl pl = 0) := (cmpI_zero _ _).2 rfl
    by_cases h2 : pl = 0
    · subst h2
      rw [if_pos rfl] at hz
      have HZ := Lib.hid hz
      clear hz
      go_enter Try.func36, Try.ntmps36
      go_wp2_with (first
        | (go_at_call_of 64 (Value.int .i64 pn); go_must (refine cmpint_any pn qn z HZ.out _ _ ?_))
        | (go_at_call 64; go_must (refine cmpint_any 0 0 0 HL.out _ _ ?_)))
      all_goals exact HR.out
    · rw [if_neg h2] at hz
      have HZ := Lib.hid hz
      have hd : (pl == 0) = false := by simpa using h2
      clear hz
      go_enter Try.func36, Try.ntmps36
      go_wp2_with (first
        | (go_at_call 64; go_must (refine cmpint_any pl pl 0 HL.out _ _ ?_))
        | (go_at_call 45; go_must (refine compare_any _ _ pa qa z HZ.out _ k1.out k2.out _ ?_)))
      all_goals exact HR.out
  · rw [if_pos (fun hc => h1 ((cmpI_zero _ _).1 hc))] at hz
    have hne : (z != 0) = true := by simpa using fun h => h1 ((cmpI_zero _ _).1 (hz.trans h))
    have hne' : ¬ z = 0 := fun h => h1 ((cmpI_zero _ _).1 (hz.trans h))
    have HZ := Lib.hid hz
    clear hz h1
    go_enter Try.func36, Try.ntmps36
    go_wp2_with (go_at_call 64; go_must (refine cmpint_any pl ql z HZ.out _ _ ?_))
    all_goals exact HR.out
end Go.Proofs.Ytpodgocmcnkfdaa
