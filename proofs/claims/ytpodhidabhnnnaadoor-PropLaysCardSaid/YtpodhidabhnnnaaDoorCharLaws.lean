
import Derived.Test.YtpodhidabhnnnaaDoorText
namespace Go.Proofs.YtpodhidabhnnnaaDoor
open Go.RowKit

theorem dA1 (n b0 b1 b2 b3 : Nat) (h : 192 ≤ b0 ∧ b0 < 224) (hn : n ≤ 1) : Lib.decodeN n b0 b1 b2 b3 = (65533, 1) := by
  unfold Lib.decodeN
  repeat' split
  all_goals first | rfl | (exfalso; omega)
theorem dA2 (n b0 b1 b2 b3 : Nat) (h : 224 ≤ b0 ∧ b0 < 240) (hn : n ≤ 2) : Lib.decodeN n b0 b1 b2 b3 = (65533, 1) := by
  unfold Lib.decodeN
  repeat' split
  all_goals first | rfl | (exfalso; omega)
theorem dA3 (n b0 b1 b2 b3 : Nat) (h : 240 ≤ b0 ∧ b0 < 248) (hn : n ≤ 3) : Lib.decodeN n b0 b1 b2 b3 = (65533, 1) := by
  unfold Lib.decodeN
  repeat' split
  all_goals first | rfl | (exfalso; omega)
theorem dB1 (n b0 b1 b2 b3 : Nat) (h : 192 ≤ b0 ∧ b0 < 224) (hn : b1 < 128 ∨ 192 ≤ b1) : Lib.decodeN n b0 b1 b2 b3 = (65533, 1) := by
  unfold Lib.decodeN
  repeat' split
  all_goals first | rfl | (exfalso; omega)
theorem dB2 (n b0 b1 b2 b3 : Nat) (h : 224 ≤ b0 ∧ b0 < 240) (hn : (b1 < 128 ∨ 192 ≤ b1) ∨ (b2 < 128 ∨ 192 ≤ b2)) : Lib.decodeN n b0 b1 b2 b3 = (65533, 1) := by
  unfold Lib.decodeN
  repeat' split
  all_goals first | rfl | (exfalso; omega)
theorem dB3 (n b0 b1 b2 b3 : Nat) (h : 240 ≤ b0 ∧ b0 < 248) (hn : (b1 < 128 ∨ 192 ≤ b1) ∨ (b2 < 128 ∨ 192 ≤ b2) ∨ (b3 < 128 ∨ 192 ≤ b3)) : Lib.decodeN n b0 b1 b2 b3 = (65533, 1) := by
  unfold Lib.decodeN
  repeat' split
  all_goals first | rfl | (exfalso; omega)
theorem dD (n b0 b1 b2 b3 : Nat) (h : 128 ≤ b0) (h2 : b0 < 192 ∨ 248 ≤ b0) (h3 : b0 < 256) : Lib.decodeN n b0 b1 b2 b3 = (65533, 1) := by
  unfold Lib.decodeN
  repeat' split
  all_goals first | rfl | (exfalso; omega)
def badC (least c : Nat) : Prop := c < least ∨ 1114111 < c ∨ (55296 ≤ c ∧ c < 57344)
theorem dC1 (n b0 b1 b2 b3 c : Nat) (h : 192 ≤ b0 ∧ b0 < 224) (hn : 1 < n) (h1 : 128 ≤ b1 ∧ b1 < 192) (hc : c = (b0 - 192) * 64 + b1 - 128) :
    (badC 128 c → Lib.decodeN n b0 b1 b2 b3 = (65533, 1)) ∧ (¬ badC 128 c → Lib.decodeN n b0 b1 b2 b3 = (c, 2)) := by
  unfold badC Lib.decodeN
  refine ⟨fun hb => ?_, fun hb => ?_⟩ <;>
  · repeat' split
    all_goals first | rfl | (exfalso; omega) | (congr 1; omega)
theorem dC2 (n b0 b1 b2 b3 c : Nat) (h : 224 ≤ b0 ∧ b0 < 240) (hn : 2 < n) (h1 : 128 ≤ b1 ∧ b1 < 192) (h2 : 128 ≤ b2 ∧ b2 < 192) (hc : c = ((b0 - 224) * 64 + b1 - 128) * 64 + b2 - 128) :
    (badC 2048 c → Lib.decodeN n b0 b1 b2 b3 = (65533, 1)) ∧ (¬ badC 2048 c → Lib.decodeN n b0 b1 b2 b3 = (c, 3)) := by
  unfold badC Lib.decodeN
  refine ⟨fun hb => ?_, fun hb => ?_⟩ <;>
  · repeat' split
    all_goals first | rfl | (exfalso; omega) | (congr 1; omega)
theorem dC3 (n b0 b1 b2 b3 c : Nat) (h : 240 ≤ b0 ∧ b0 < 248) (hn : 3 < n) (h1 : 128 ≤ b1 ∧ b1 < 192) (h2 : 128 ≤ b2 ∧ b2 < 192) (h3 : 128 ≤ b3 ∧ b3 < 192) (hc : c = (((b0 - 240) * 64 + b1 - 128) * 64 + b2 - 128) * 64 + b3 - 128) :
    (badC 65536 c → Lib.decodeN n b0 b1 b2 b3 = (65533, 1)) ∧ (¬ badC 65536 c → Lib.decodeN n b0 b1 b2 b3 = (c, 4)) := by
  unfold badC Lib.decodeN
  refine ⟨fun hb => ?_, fun hb => ?_⟩ <;>
  · repeat' split
    all_goals first | rfl | (exfalso; omega) | (congr 1; omega)

end Go.Proofs.YtpodhidabhnnnaaDoor
