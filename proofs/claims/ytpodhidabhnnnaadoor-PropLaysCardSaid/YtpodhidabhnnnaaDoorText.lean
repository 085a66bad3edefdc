
import Derived.Test.YtpodhidabhnnnaaDoorValid
namespace Go.Proofs.YtpodhidabhnnnaaDoor
open Go.RowKit

/-- No rune of the bytes is 0. -/
def nzF : Nat → List UInt8 → Bool
  | 0, _ => true
  | n + 1, l => if l = [] then true else if (Lib.decodeL l).1 = 0 then false else nzF n (l.drop (Lib.decodeL l).2)
def nz (l : List UInt8) : Bool := nzF l.length l
/-- Are the bytes a text? -/
def isTextL (l : List UInt8) : Bool := nz l && Lib.validD l

theorem nzF_fuel (n m : Nat) (l : List UInt8) (hn : l.length ≤ n) (hm : l.length ≤ m) : nzF n l = nzF m l := by
  induction n generalizing m l with
  | zero =>
    obtain rfl : l = [] := List.eq_nil_of_length_eq_zero (by omega)
    cases m <;> simp [nzF]
  | succ n ih =>
    by_cases hl : l = []
    · subst hl
      cases m <;> simp [nzF]
    · have h1 := Lib.decodeL_width l
      have hp : 0 < l.length := List.length_pos_iff.2 hl
      cases m with
      | zero => omega
      | succ m =>
        simp only [nzF, hl, if_false]
        rw [ih m (l.drop (Lib.decodeL l).2) (by rw [List.length_drop]; omega) (by rw [List.length_drop]; omega)]

theorem nz_step (l : List UInt8) (hl : l ≠ []) : nz l = if (Lib.decodeL l).1 = 0 then false else nz (l.drop (Lib.decodeL l).2) := by
  have h1 := Lib.decodeL_width l
  have hp : 0 < l.length := List.length_pos_iff.2 hl
  unfold nz
  obtain ⟨n, hn⟩ : ∃ n, l.length = n + 1 := ⟨l.length - 1, by omega⟩
  rw [hn]
  simp only [nzF, hl, if_false]
  rw [nzF_fuel n (l.drop (Lib.decodeL l).2).length _ (by rw [List.length_drop]; omega) (Nat.le_refl _)]

theorem str_data (l : List UInt8) : (str l).data.toList = l := by simp
theorem str_size (l : List UInt8) : (str l).size = l.length := rfl

set_option maxHeartbeats 800000 in
theorem istext_any (l : List UInt8) (w : World) (hl : l.length ≤ 9223372036854775807) (hT : Tabs w) (R : Ending → World → Prop)
    (hR : ∀ w', Below w.heap.size w w' → R (.returned (.bool (isTextL l))) w') : Calls Tryd.prog 73 #[.string (str l)] w R := by
  have hsz := str_size l
  go_enter Tryd.func73, Tryd.ntmps73
  go_wp2
  go_loopw [4] (fun _ wr => ∃ pos : Nat, pos ≤ l.length ∧ wr = w.iter (str l) pos ∧ Hid (nz (l.drop pos) = nz l)) (fun _ wr => l.length - wr.iterPos w.heap.size)
  case atStart => exact ⟨0, Nat.zero_le _, rfl, by rw [List.drop_zero]; exact Lib.hid rfl⟩
  case round =>
    obtain ⟨pos, hpos, rfl, hnz⟩ := hrel
    by_cases hlt : pos < l.length
    · have hdec : Lib.decodeL (l.drop pos) = Utf8.decode (str l) pos := by
        have := Lib.decodeL_drop (str l) pos
        rwa [str_data] at this
      have hstep := nz_step (l.drop pos) (by intro h; have := congrArg List.length h; rw [List.length_drop] at this; simp at this; omega)
      rw [List.drop_drop, hdec, hnz.out] at hstep
      have hw1 : pos + (Utf8.decode (str l) pos).2 ≤ l.length := by
        have := Lib.decodeL_le (l.drop pos) (by intro h; have := congrArg List.length h; rw [List.length_drop] at this; simp at this; omega)
        rw [hdec, List.length_drop] at this
        omega
      have hw2 : 1 ≤ (Utf8.decode (str l) pos).2 := by rw [← hdec]; exact Lib.decodeL_width _
      have hnx := fun ty => run_next_any (P := Tryd.prog) w (str l) pos ty hlt
      obtain ⟨r, hr⟩ : ∃ r, r = (Utf8.decode (str l) pos).1 := ⟨_, rfl⟩
      obtain ⟨k, hk⟩ : ∃ k, k = (Utf8.decode (str l) pos).2 := ⟨_, rfl⟩
      rw [← hr, ← hk] at hnx
      rw [← hr, ← hk] at hstep
      rw [← hk] at hw1 hw2
      clear hr hk hdec hsz hnz
      by_cases hr0 : r = 0
      · rw [if_pos hr0] at hstep
        have hf : isTextL l = false := by unfold isTextL; rw [hstep]; rfl
        rw [hf] at hR
        have hr00 : ((r : Int) == 0) = true := by rw [beq_iff_eq]; omega
        clear hr0 hstep hf
        go_wp2
        exact (Below.refl _ _).alloc (Nat.le_refl _) _
      · rw [if_neg hr0] at hstep
        have H := Lib.hid hstep.symm
        have hr00 : ((r : Int) == 0) = false := by rw [beq_eq_false_iff_ne]; omega
        clear hr0 hstep
        go_wp2
        go_roundw
        case rel => exact ⟨pos + k, by omega, rfl, H⟩
        case measure => simp; omega
    · have hnx := fun ty => run_next_end (P := Tryd.prog) w (str l) pos ty (by rw [hsz]; exact hlt)
      have hz : nz l = true := by
        rw [← hnz.out, List.drop_of_length_le (by omega)]
        rfl
      have hf : isTextL l = Lib.validD l := by unfold isTextL; rw [hz]; rfl
      rw [hf] at hR
      have hb : Below w.heap.size w (w.iter (str l) pos) := (Below.refl _ _).alloc (Nat.le_refl _) _
      have hT2 := hT.below hb
      clear hz hf hsz hnz
      go_wp2_with (go_at_call 78; go_must (refine valid_any l _ hl hT2 _ ?_))
      intro w2 hb2
      have hb3 := below_then hb hb2 hb.size
      clear hb hb2 hnx hT hT2
      go_wp2
      exact hb3
end Go.Proofs.YtpodhidabhnnnaaDoor
