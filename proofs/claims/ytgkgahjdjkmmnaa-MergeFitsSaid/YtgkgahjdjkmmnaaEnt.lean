/- Entries: what a slice of them reads as; the same, alike, sorted. -/
import Derived.Test.YtgkgahjdjkmmnaaCmp
import Derived.Deep.RegionHeld
namespace Go.Proofs.Ytgkgahjdjkmmnaa
open Go.RowKit

structure Ent where
  key : List UInt8
  val : List UInt8
  seq : Int
  dead : Bool
instance : Inhabited Ent := ⟨⟨[], [], 0, false⟩⟩

/-- The two slices of an entry read as its key and its value; all within the reach. -/
structure EC (w : World) (k v : Value) (e : Ent) : Prop where
  hk : Bs w k e.key
  hv : Bs w v e.val
  lk : e.key.length ≤ 140737488351232
  lv : e.val.length ≤ 140737488351232
  s0 : -9223372036854775808 ≤ e.seq
  s1 : e.seq ≤ 9223372036854775807
theorem EC.below {w w' : World} {k v : Value} {e : Ent} (h : EC w k v e) (hb : Below w.heap.size w w') : EC w' k v e := ⟨h.hk.below hb, h.hv.below hb, h.lk, h.lv, h.s0, h.s1⟩

/-- The four cells of an entry at an offset of a block. -/
def E4 (w : World) (b o : Nat) (k v : Value) (e : Ent) : Prop := w.cell? ⟨b, o, none⟩ = some k ∧ w.cell? ⟨b, o + 1, none⟩ = some v ∧ w.cell? ⟨b, o + 2, none⟩ = some (.int .i64 e.seq) ∧ w.cell? ⟨b, o + 3, none⟩ = some (.bool e.dead)
theorem E4.below {w w' : World} {b o : Nat} {k v : Value} {e : Ent} (h : E4 w b o k v e) (hb : Below w.heap.size w w') : E4 w' b o k v e := ⟨cell_later hb h.1, cell_later hb h.2.1, cell_later hb h.2.2.1, cell_later hb h.2.2.2⟩

/-- The slice value v reads as the entries l. -/
def Es (w : World) (v : Value) (l : List Ent) : Prop :=
  ∃ ad c, v = .slice ad l.length c ∧ l.length ≤ c ∧ c ≤ 9223372036854775807 ∧ (ad = none → c = 0) ∧
    (0 < l.length → ∃ b o, ad = some ⟨b, o, none⟩ ∧ ∀ (i : Nat) (h : i < l.length), ∃ k v, E4 w b (o + i * 4) k v l[i] ∧ EC w k v l[i])
theorem Es.below {w w' : World} {v : Value} {l : List Ent} (h : Es w v l) (hb : Below w.heap.size w w') : Es w' v l := by
  obtain ⟨ad, c, rfl, h1, h2, h3, h4⟩ := h
  refine ⟨ad, c, rfl, h1, h2, h3, fun h0 => ?_⟩
  obtain ⟨b, o, rfl, h5⟩ := h4 h0
  refine ⟨b, o, rfl, fun i hi => ?_⟩
  obtain ⟨k, v, h6, h7⟩ := h5 i hi
  exact ⟨k, v, h6.below hb, h7.below hb⟩

def lessE (a b : Ent) : Bool := lessL a.key a.seq b.key b.seq
def sameE (a b : Ent) : Bool := a.key == b.key && (a.val == b.val && (a.seq == b.seq && a.dead == b.dead))

set_option maxHeartbeats 1600000 in
theorem esame_any (ka va kb vb : Value) (a b : Ent) (r : Bool) (hr : sameE a b = r) (w : World) (ha : EC w ka va a) (hb : EC w kb vb b) (R : Ending → World → Prop)
    (hR : ∀ w', Below w.heap.size w w' → R (.returned (.bool r)) w') :
    Calls Try.prog 21 #[.agg #[ka, va, .int .i64 a.seq, .bool a.dead], .agg #[kb, vb, .int .i64 b.seq, .bool b.dead]] w R := by
  obtain ⟨A, V, s, d⟩ := a
  obtain ⟨B, U, t, g⟩ := b
  have hb0 := ((Below.refl w.heap.size w).alloc (Nat.le_refl _) (Obj.cells #[ka, va, Value.int .i64 s, Value.bool d] 27)).alloc (by simp) (Obj.cells #[kb, vb, Value.int .i64 t, Value.bool g] 27)
  have k1 := run_conv_bs (P := Try.prog) Try.underlying25 Try.underlying5 Try.underlying9 (ha.hk.below hb0)
  have k2 := run_conv_bs (P := Try.prog) Try.underlying25 Try.underlying5 Try.underlying9 (hb.hk.below hb0)
  have k3 := run_conv_bs (P := Try.prog) Try.underlying25 Try.underlying5 Try.underlying9 (ha.hv.below hb0)
  have k4 := run_conv_bs (P := Try.prog) Try.underlying25 Try.underlying5 Try.underlying9 (hb.hv.below hb0)
  unfold sameE at hr
  simp only at hr
  obtain ⟨r1, h1⟩ : ∃ x, (A == B) = x := ⟨_, rfl⟩
  obtain ⟨r2, h2⟩ : ∃ x, (V == U) = x := ⟨_, rfl⟩
  obtain ⟨r3, h3⟩ : ∃ x, (s == t) = x := ⟨_, rfl⟩
  obtain ⟨r4, h4⟩ : ∃ x, (d == g) = x := ⟨_, rfl⟩
  rw [h1, h2, h3, h4] at hr
  have HR := Lib.hid hr
  clear ha hb hr
  simp only at *
  cases r1 with
  | false =>
    obtain rfl : r = false := HR.out.symm
    clear HR
    go_enter Try.func21, Try.ntmps21
    go_wp2
    all_goals first | exact hb0 | exact hR _ hb0
  | true =>
    cases r2 with
    | false =>
      obtain rfl : r = false := HR.out.symm
      clear HR
      go_enter Try.func21, Try.ntmps21
      go_wp2
      all_goals first | exact hb0 | exact hR _ hb0
    | true =>
      cases r3 with
      | false =>
        obtain rfl : r = false := HR.out.symm
        clear HR
        go_enter Try.func21, Try.ntmps21
        go_wp2
        all_goals first | exact hb0 | exact hR _ hb0
      | true =>
        obtain rfl : r = r4 := by have := HR.out; simpa using this.symm
        clear HR
        go_enter Try.func21, Try.ntmps21
        go_wp2
        all_goals first | exact hb0 | exact hR _ hb0
end Go.Proofs.Ytgkgahjdjkmmnaa
