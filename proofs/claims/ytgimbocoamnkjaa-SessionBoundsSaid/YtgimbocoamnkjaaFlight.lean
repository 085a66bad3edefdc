/- (*Session).flight and what it leans on, walked. -/
import Derived.Test.YtgimbocoamnkjaaNextL
namespace Go.Proofs.Ytgimbocoamnkjaa
open Go.RowKit

/-- The place of the first that p says yes to; -1: none. -/
def idxP {α : Type} (p : α → Bool) (l : List α) : Int := match l.findIdx? p with
  | some i => (i : Int)
  | none => -1
theorem idxP_hit {α : Type} {p : α → Bool} {l : List α} {k : Nat} (hk : k < l.length) (h : p l[k] = true) (ho : ∀ j (hj : j < k), p (l[j]'(by omega)) = false) : idxP p l = k := by
  unfold idxP
  rw [(List.findIdx?_eq_some_iff_getElem (p := p) (xs := l) (i := k)).2 ⟨hk, h, fun j hj => by rw [ho j hj]; simp⟩]
theorem idxP_none {α : Type} {p : α → Bool} {l : List α} (h : ∀ x ∈ l, p x = false) : idxP p l = -1 := by
  unfold idxP
  rw [List.findIdx?_eq_none_iff.2 h]

set_option maxRecDepth 100000 in
set_option maxHeartbeats 1000000 in
theorem index_any (v : Value) (l : List Int) (d : Int) (z : Int) (hz : idxP (fun x => x == d) l = z) (hl : l.length ≤ 1000000) (w : World) (hv : Is w v l) (R : Ending → World → Prop)
    (hR : R (.returned (.int .i64 z)) w) :
    Calls Try.prog 41 #[v, .int .i64 d] w R := by
  have HR := Lib.hid hR
  have HV := Lib.hid hv
  have HZ := Lib.hid hz
  obtain ⟨va, vc, rfl, _⟩ := hv
  clear hR hz
  go_enter Try.func41, Try.ntmps41
  go_wp2
  go_loopg [8] l.length (fun gn i wr => ∃ k : Nat, k ≤ l.length ∧ gn = l.length - k ∧ i = .int .i64 k ∧ wr = w ∧ Hid (∀ (j : Nat) (hj : j < k) (h : j < l.length), (l[j] == d) = false))
  case atStart => exact ⟨0, Nat.zero_le _, by omega, rfl, rfl, fun j hj => by omega⟩
  case round =>
    obtain ⟨k, hk, rfl, rfl, rfl, HS⟩ := hrel
    by_cases hlt : k < l.length
    · have hkk : (k : Int) < (l.length : Int) := by omega
      obtain ⟨b, o, rfl, hc⟩ := HV.out.at k hlt
      by_cases he : d = l[k]
      · have he' : (d == l[k]) = true := by simp [he]
        obtain rfl : z = (k : Int) := by
          rw [← HZ.out]
          exact idxP_hit hlt (by simp [he]) (fun j hj => HS.out j hj (by omega))
        go_wp2
        exact HR.out
      · have he' : (d == l[k]) = false := by simpa using he
        have HN : Hid (∀ (j : Nat) (hj : j < k + 1) (h : j < l.length), (l[j] == d) = false) := fun j hj h => by
          by_cases e : j = k
          · subst e
            simpa using fun h => he h.symm
          · exact HS.out j (by omega) h
        clear he HS
        go_wp2
        go_roundg (l.length - (k + 1))
        case measure => omega
        case rel => exact ⟨k + 1, by omega, rfl, by go_num, rfl, HN⟩
    · have hkk : ¬ (k : Int) < (l.length : Int) := by omega
      obtain rfl : z = -1 := by
        rw [← HZ.out]
        refine idxP_none fun x hx => ?_
        obtain ⟨j, hj, rfl⟩ := List.getElem_of_mem hx
        exact HS.out j (by omega) hj
      go_wp2
      exact HR.out

theorem idxP_nonneg {l : List Int} {d : Int} : (decide (0 ≤ idxP (fun x => x == d) l)) = l.contains d := by
  cases h : l.contains d with
  | true =>
    have hm : d ∈ l := by simpa using h
    unfold idxP
    cases hf : l.findIdx? (fun x => x == d) with
    | some i => simp
    | none =>
      have := List.findIdx?_eq_none_iff.1 hf d hm
      simp at this
  | false =>
    have hm : d ∉ l := by simpa using h
    rw [idxP_none (fun x hx => by
      simp only [beq_eq_false_iff_ne, ne_eq]
      rintro rfl
      exact hm hx)]
    rfl

set_option maxRecDepth 100000 in
set_option maxHeartbeats 1000000 in
theorem contains_any (v : Value) (l : List Int) (d : Int) (b : Bool) (hb : l.contains d = b) (hl : l.length ≤ 1000000) (w : World) (hv : Is w v l) (R : Ending → World → Prop)
    (hR : R (.returned (.bool b)) w) :
    Calls Try.prog 34 #[v, .int .i64 d] w R := by
  have HR := Lib.hid hR
  have HV := Lib.hid hv
  obtain ⟨z, hz⟩ : ∃ z, idxP (fun x => x == d) l = z := ⟨_, rfl⟩
  have hbz : decide (0 ≤ z) = b := by rw [← hz, ← hb]; exact idxP_nonneg
  have HZ := Lib.hid hz
  clear hR hb hz hv
  cases b with
  | true =>
    have h0 : 0 ≤ z := by simpa using hbz
    clear hbz
    go_enter Try.func34, Try.ntmps34
    go_wp2_with (go_at_call 41; go_must (refine index_any v l d z HZ.out hl _ HV.out _ ?_))
    exact HR.out
  | false =>
    have h0 : ¬ 0 ≤ z := by simpa using hbz
    clear hbz
    go_enter Try.func34, Try.ntmps34
    go_wp2_with (go_at_call 41; go_must (refine index_any v l d z HZ.out hl _ HV.out _ ?_))
    show R (Ending.returned (Value.bool (decide (0 ≤ z)))) w
    rw [decide_eq_false (show ¬ (0 ≤ z) by omega)]
    exact HR.out

/-- Is it the flight of that number, in one of those states? -/
def hitF (id : Int) (st : List Int) (f : Fl) : Bool := f.id == id && st.contains f.state

set_option maxRecDepth 100000 in
set_option maxHeartbeats 1000000 in
theorem hit_any (A4 A5 : Nat) (c0 c1 c2 c3 c4 c5 c6 c7 c8 c9 c10 c11 c12 c13 : Value) (fid fst : Int) (sv : Value) (id : Int) (st : List Int) (b : Bool) (hb : (fid == id && st.contains fst) = b) (w : World) (h4 : w.cell? ⟨A4, 0, none⟩ = some (.int .i64 id)) (h5 : w.cell? ⟨A5, 0, none⟩ = some sv) (hv : Is w sv st) (hl : st.length ≤ 1000000) (R : Ending → World → Prop)
    (hR : ∀ w', Below w.heap.size w w' → R (.returned (.bool b)) w') :
    Calls Try.prog 33 #[.agg #[.int .i64 fid, .int .i64 fst, c0, c1, c2, c3, c4, c5, c6, c7, c8, c9, c10, c11, c12, c13], .pointer (some ⟨A4, 0, none⟩), .pointer (some ⟨A5, 0, none⟩)] w R := by
  have HR := Lib.hid hR
  have hb0 : Below w.heap.size w (w.alloc (.cells #[.int .i64 fid, .int .i64 fst, c0, c1, c2, c3, c4, c5, c6, c7, c8, c9, c10, c11, c12, c13] 54)) := (Below.refl _ _).alloc (Nat.le_refl _) _
  have HB0 := Lib.hid hb0
  have HV := Lib.hid (hv.below hb0)
  have g4 := cell_later hb0 h4
  have g5 := cell_later hb0 h5
  obtain ⟨sa, sc, rfl, _⟩ := hv
  clear hR hb0 h4 h5
  by_cases he : fid = id
  · have he' : (fid == id) = true := by simp [he]
    have hb' : st.contains fst = b := by rw [← hb, he']; rfl
    have HBB := Lib.hid hb'
    clear hb hb' he
    go_enter Try.func33, Try.ntmps33
    go_wp2_with (go_at_call 34; go_must (refine contains_any _ st fst b HBB.out hl _ HV.out _ ?_))
    exact HR.out _ HB0.out
  · have he' : (fid == id) = false := by simpa using he
    obtain rfl : false = b := by rw [← hb, he']; rfl
    clear hb he
    go_enter Try.func33, Try.ntmps33
    go_wp2
    exact HR.out _ HB0.out
end Go.Proofs.Ytgimbocoamnkjaa
