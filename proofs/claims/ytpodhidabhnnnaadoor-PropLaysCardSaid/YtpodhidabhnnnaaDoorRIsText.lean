
import Derived.Test.YtpodhidabhnnnaaDoorChar
import Derived.Test.YtpodhidabhnnnaaDoorText
namespace Go.Proofs.YtpodhidabhnnnaaDoor
open Go.RowKit

theorem isText_step (l : List UInt8) (hne : l ≠ []) (c k : Nat) (h : okChar l c k) : isTextL l = if k = 0 ∨ c = 0 then false else isTextL (l.drop k) := by
  unfold isTextL
  rw [nz_step l hne, Lib.validD_step l hne]
  rcases h with ⟨rfl, rfl, hd⟩ | ⟨h0, hd, hb⟩
  · rw [hd]; simp
  · rw [hd]
    simp only
    rw [if_neg hb]
    by_cases hc : c = 0
    · simp [hc]
    · simp [hc, show k ≠ 0 by omega]

theorem str_drop (l : List UInt8) (k : Nat) : (str l).extract k l.length = str (l.drop k) := by
  apply ByteArray.ext
  simp only [ByteArray.data_extract]
  apply Array.ext'
  simp only [Array.toList_extract, List.extract_eq_take_drop]
  exact List.take_of_length_le (by rw [List.length_drop]; simp)
theorem str_ne (l : List UInt8) (h : l ≠ []) : (str l == str []) = false := by
  show ((str l).data == (str []).data) = false
  simpa using h
set_option maxHeartbeats 1600000 in
theorem ristext_any (l : List UInt8) (w : World) (hl : l.length ≤ 9223372036854775807) (R : Ending → World → Prop)
    (hR : R (.returned (.bool (isTextL l))) w) : Calls Tryd.prog 72 #[.string (str l)] w R := by
  have HR := Lib.hid hR
  clear hR
  go_enter Tryd.func72, Tryd.ntmps72
  go_wp2
  go_loop [0, 3, 4] (fun s _ _ => ∃ m : List UInt8, s = .string (str m) ∧ m.length ≤ l.length ∧ Hid (isTextL m = isTextL l)) (fun s _ _ => match s with | .string b => b.size | _ => 0)
  case atStart => exact ⟨l, rfl, Nat.le_refl _, Lib.hid rfl⟩
  case round =>
    obtain ⟨m, rfl, hm, ht⟩ := hrel
    by_cases hne : m = []
    · subst hne
      have hT : isTextL l = true := by rw [← ht.out]; rfl
      rw [hT] at HR
      go_wp2
      exact HR.out
    · have hie : m.isEmpty = false := by cases m with | nil => exact absurd rfl hne | cons _ _ => rfl
      have hsz := str_size m
      have hpos : 0 < m.length := List.length_pos_iff.2 hne
      go_wp2_with (go_at_call 77; go_must (refine char_any m hpos (by omega) _ _ ?_))
      intro c k hok
      have hst := isText_step m hne c k hok
      rw [ht.out] at hst
      have hkl : k ≤ m.length := by
        rcases hok with ⟨rfl, _, _⟩ | ⟨_, hd, _⟩
        · omega
        · have := Lib.decodeL_le m hne
          rw [hd] at this
          exact this
      have hkc : k = 0 → c = 0 := by
        rcases hok with ⟨_, h, _⟩ | ⟨h, _, _⟩
        · exact fun _ => h
        · omega
      clear hok
      by_cases hc0 : c = 0
      · rw [if_pos (.inr hc0)] at hst
        rw [hst] at HR
        subst hc0
        clear hst ht hkc
        by_cases hk0 : k = 0
        · subst hk0
          go_wp2
          exact HR.out
        · have hkn : ((k : Int) == 0) = false := by rw [beq_eq_false_iff_ne]; omega
          go_wp2
          exact HR.out
      · have hk0 : k ≠ 0 := fun h => hc0 (hkc h)
        rw [if_neg (by omega)] at hst
        have HS := Lib.hid hst.symm
        have hkn : ((k : Int) == 0) = false := by rw [beq_eq_false_iff_ne]; omega
        have hcn : ((c : Int) == 0) = false := by rw [beq_eq_false_iff_ne]; omega
        have hex := str_drop m k
        clear hst ht hkc hc0
        go_wp2
        go_round
        case rel => exact ⟨m.drop k, rfl, by rw [List.length_drop]; omega, HS⟩
        case measure => simp [str_size]; omega
end Go.Proofs.YtpodhidabhnnnaaDoor
