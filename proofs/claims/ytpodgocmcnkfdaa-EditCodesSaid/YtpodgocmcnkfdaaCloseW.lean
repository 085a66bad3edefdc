
import Derived.Test.YtpodgocmcnkfdaaLook
namespace Go.Proofs.Ytpodgocmcnkfdaa
open Go.RowKit

set_option maxRecDepth 100000 in
set_option maxHeartbeats 4000000 in
theorem closewords_any (K : Nat) (w : World) (hq : w.cell? ⟨K, 2, none⟩ = some (.slice none 0 0)) (R : Ending → World → Prop)
    (hR : R (.returned (.bool true)) w) :
    Calls Try.prog 60 #[.pointer (some ⟨K, 0, none⟩)] w R := by
  go_enter Try.func60, Try.ntmps60
  go_wp2
  go_loop [3] (fun i => i = .int .i64 0) (fun _ => 0)
  case atStart => rfl
  case round =>
    obtain rfl := hrel
    go_wp2
    go_loop [5, 6] (fun g i => g = .slice none 0 0 ∧ i = .int .i64 0) (fun _ _ => 0)
    case atStart => exact ⟨rfl, rfl⟩
    case round =>
      obtain ⟨rfl, rfl⟩ := hrel
      go_wp2
      go_loop [8] (fun i => i = .int .i64 0) (fun _ => 0)
      case atStart => rfl
      case round =>
        obtain rfl := hrel
        go_wp2
        exact hR

set_option maxRecDepth 100000 in
set_option maxHeartbeats 4000000 in
theorem closeints_any (K : Nat) (w : World) (hq : w.cell? ⟨K, 4, none⟩ = some (.slice none 0 0)) (R : Ending → World → Prop)
    (hR : R (.returned (.bool true)) w) :
    Calls Try.prog 61 #[.pointer (some ⟨K, 0, none⟩)] w R := by
  go_enter Try.func61, Try.ntmps61
  go_wp2
  go_loop [3] (fun i => i = .int .i64 0) (fun _ => 0)
  case atStart => rfl
  case round =>
    obtain rfl := hrel
    go_wp2
    go_loop [5, 6] (fun g i => g = .slice none 0 0 ∧ i = .int .i64 0) (fun _ _ => 0)
    case atStart => exact ⟨rfl, rfl⟩
    case round =>
      obtain ⟨rfl, rfl⟩ := hrel
      go_wp2
      go_loop [8] (fun i => i = .int .i64 0) (fun _ => 0)
      case atStart => rfl
      case round =>
        obtain rfl := hrel
        go_wp2
        exact hR
end Go.Proofs.Ytpodgocmcnkfdaa
