/- Bytes compared, entries compared. -/
import Derived.Test.YtpodgocmcnkfdaaKeep
import Derived.Lib.Bytealg
import Derived.Lib.BytesEntry
namespace Go.Proofs.Ytpodgocmcnkfdaa
open Go.RowKit

theorem run_bytesOf_bs {P : Program} {w : World} {v : Value} {l : List UInt8} (h : Bs w v l) : (Extern.Bytes.bytesOf v).run P w = .ok (str l) w := by
  obtain ⟨ad, c, rfl, hr, h1, h2, h3⟩ := h
  by_cases hl : l = []
  · subst hl
    cases ad with
    | none => rfl
    | some a => rfl
  · have hpos : 0 < l.length := List.length_pos_iff.2 hl
    obtain ⟨b, o, rfl, hc⟩ := hr.byteAt hpos
    have h := Lib.run_loadBytesX (P := P) w (l.map fun x => (x.toNat : Int)) ⟨b, o, none⟩ .empty (fun j x hj => by
      have hjl : j < (l.map fun x => (x.toNat : Int)).length := (List.getElem?_eq_some_iff.1 hj).1
      have hj2 : j < l.length := by simpa using hjl
      rw [Addr.add_lit, hc j hj2]
      simp only [List.getElem?_map, List.getElem?_eq_getElem hj2, Option.map_some, Option.some.injEq] at hj
      rw [hj])
    simp only [List.length_map] at h
    have e : (Lib.bytesOf (l.map fun x => (x.toNat : Int))) = l := by
      simp only [Lib.bytesOf, List.map_map]
      conv => rhs; rw [← List.map_id l]
      exact List.map_congr_left fun x _ => by simp
    rw [e] at h
    simp only [Extern.Bytes.bytesOf, h]
    congr 1
    apply ByteArray.ext
    simp

theorem run_compare_bs {P : Program} {w : World} {v u : Value} {l m : List UInt8} (hv : Bs w v l) (hu : Bs w u m) :
    (Extern.BytealgCompare.compare #[v, u]).run P w = .ok (.int .i64 (Lib.compareBytes l m)) w := by
  change Sem.run P (do pure (goInt (Extern.BytealgCompare.cmp (← Extern.Bytes.bytesOf v) (← Extern.Bytes.bytesOf u)))) w = _
  simp only [Sem.run_bind, run_bytesOf_bs hv, run_bytesOf_bs hu, Sem.run_pure, Result.andThen]
  rw [Lib.cmp_eq]
  rfl

theorem compareBytes_zero : ∀ (a b : List UInt8), Lib.compareBytes a b = 0 ↔ a = b
  | [], [] => by simp [Lib.compareBytes]
  | [], _ :: _ => by simp [Lib.compareBytes]
  | _ :: _, [] => by simp [Lib.compareBytes]
  | x :: a, y :: b => by
    unfold Lib.compareBytes
    by_cases h1 : x < y
    · rw [if_pos h1]
      simp only [List.cons.injEq]
      refine ⟨fun h => by simp at h, fun h => ?_⟩
      obtain ⟨rfl, _⟩ := h
      exact absurd h1 (UInt8.lt_irrefl x)
    · rw [if_neg h1]
      by_cases h2 : y < x
      · rw [if_pos h2]
        simp only [List.cons.injEq]
        refine ⟨fun h => by simp at h, fun h => ?_⟩
        obtain ⟨rfl, _⟩ := h
        exact absurd h2 (UInt8.lt_irrefl x)
      · rw [if_neg h2, compareBytes_zero a b]
        have hxy : x = y := UInt8.le_antisymm (UInt8.not_lt.1 h2) (UInt8.not_lt.1 h1)
        simp [hxy]
theorem compareBytes_range : ∀ (a b : List UInt8), -1 ≤ Lib.compareBytes a b ∧ Lib.compareBytes a b ≤ 1
  | [], [] => by simp [Lib.compareBytes]
  | [], _ :: _ => by simp [Lib.compareBytes]
  | _ :: _, [] => by simp [Lib.compareBytes]
  | x :: a, y :: b => by
    unfold Lib.compareBytes
    split
    · omega
    · split
      · omega
      · exact compareBytes_range a b

theorem compare_any (v u : Value) (l m : List UInt8) (z : Int) (hz : Lib.compareBytes l m = z) (w : World) (hv : Bs w v l) (hu : Bs w u m) (R : Ending → World → Prop)
    (hR : R (.returned (.int .i64 z)) w) : Calls Try.prog 45 #[v, u] w R := by
  have hc : (callFunc 65 #[v, u]).run Try.prog w = .ok (.value (.int .i64 z)) w := by
    rw [run_callFunc_extern Try.func65 (by kernel_rfl) (by kernel_rfl) (by kernel_rfl) (e := Extern.BytealgCompare.compare) (by kernel_rfl), run_compare_bs hv hu, hz]
    rfl
  clear hv hu hz
  go_enter Try.func45, Try.ntmps45
  go_wp2
  exact hR

/-- Does a key with its number stand ahead of another? -/
def lessL (A : List UInt8) (s : Int) (B : List UInt8) (t : Int) : Bool := if A == B then decide (t < s) else decide (Lib.compareBytes A B < 0)

/-- -1, 0, 1. -/
def cmpI (x y : Int) : Int := if x < y then -1 else if y < x then 1 else 0

set_option maxHeartbeats 800000 in
theorem cmpint_any (x y z : Int) (hz : cmpI x y = z) (w : World) (R : Ending → World → Prop) (hR : R (.returned (.int .i64 z)) w) :
    Calls Try.prog 64 #[.int .i64 x, .int .i64 y] w R := by
  unfold cmpI at hz
  by_cases h1 : x < y
  · rw [if_pos h1] at hz
    subst hz
    go_enter Try.func64, Try.ntmps64
    go_wp2
    all_goals exact hR
  · rw [if_neg h1] at hz
    by_cases h2 : y < x
    · rw [if_pos h2] at hz
      subst hz
      go_enter Try.func64, Try.ntmps64
      go_wp2
      all_goals exact hR
    · rw [if_neg h2] at hz
      subst hz
      go_enter Try.func64, Try.ntmps64
      go_wp2
      all_goals exact hR

def orderL (A : List UInt8) (s : Int) (B : List UInt8) (t : Int) : Int := if A = B then cmpI t s else Lib.compareBytes A B
theorem orderL_less (A : List UInt8) (s : Int) (B : List UInt8) (t : Int) : decide (orderL A s B t < 0) = lessL A s B t := by
  unfold orderL lessL cmpI
  by_cases h : A = B
  · simp only [h, if_true, beq_self_eq_true]
    split
    · simp [*]
    · split <;> simp [*]
  · rw [if_neg h, if_neg (by simpa using h)]

/-- The bytes of a string stand ahead of another's: as the walk spells it. -/
theorem bytesLess_eq : ∀ (a b : List UInt8), Op.bytesLess a b = decide (Lib.compareBytes a b < 0)
  | [], [] => by simp [Op.bytesLess, Lib.compareBytes]
  | [], _ :: _ => by simp [Op.bytesLess, Lib.compareBytes]
  | _ :: _, [] => by simp [Op.bytesLess, Lib.compareBytes]
  | x :: a, y :: b => by
    unfold Op.bytesLess Lib.compareBytes
    rw [bytesLess_eq a b]
    by_cases h1 : x < y
    · simp [h1]
    · by_cases h2 : y < x
      · have hne : x ≠ y := fun h => by subst h; exact UInt8.lt_irrefl x h2
        simp [h1, h2, hne]
      · have hxy : x = y := UInt8.le_antisymm (UInt8.not_lt.1 h2) (UInt8.not_lt.1 h1)
        subst hxy
        simp

end Go.Proofs.Ytpodgocmcnkfdaa
