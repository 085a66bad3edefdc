/- tidingslaw19.plain, walked. -/
import Derived.Test.YtgimbocoamnkjaaNew
namespace Go.Proofs.Ytgimbocoamnkjaa
open Go.RowKit

def plainL (l : List UInt8) : List UInt8 := (l.take 30).map fun b => b8 (97 + (b.toNat : Int) % 26)
theorem plainL_len (l : List UInt8) : (plainL l).length ≤ 30 := by unfold plainL; rw [List.length_map, List.length_take]; omega
theorem str_app (l m : List UInt8) : str l ++ str m = str (l ++ m) := by
  simp only [str]
  apply ByteArray.ext
  simp

theorem bs_at {w : World} {ad : Option Addr} {n c k : Nat} {l : List UInt8} (h : Bs w (.slice ad n c) l) (hk : k < l.length) : ∃ b o, ad = some ⟨b, o, none⟩ ∧ w.cell? ⟨b, o + k, none⟩ = some (.int .u8 ((l[k]).toNat : Int)) := by
  obtain ⟨_, hr, _⟩ := h.parts
  obtain ⟨b, o, rfl, hc⟩ := hr.2 (by omega)
  refine ⟨b, o, rfl, ?_⟩
  rw [hc k (by omega)]
  simp [bv, hk]
set_option maxRecDepth 100000 in
set_option maxHeartbeats 1000000 in
theorem plain_any (v : Value) (l P : List UInt8) (hP : plainL l = P) (w : World) (hv : Bs w v l) (R : Ending → World → Prop)
    (hR : ∀ w', Below w.heap.size w w' → R (.returned (.string (str P))) w') :
    Calls Try.prog 21 #[v] w R := by
  have HR := Lib.hid hR
  have HV := Lib.hid hv
  have HP := Lib.hid hP
  obtain ⟨va, vc, rfl, _⟩ := hv
  clear hR hP
  go_enter Try.func21, Try.ntmps21
  go_wp2
  go_loopg [3, 4] (min l.length 30) (fun gn r i wr => ∃ (k : Nat) (Q : List UInt8), k ≤ min l.length 30 ∧ gn = min l.length 30 - k ∧ i = .int .i64 k ∧ r = .string (str Q) ∧ Hid ((l.take k).map (fun b => b8 (97 + (b.toNat : Int) % 26)) = Q) ∧ Hid (Below w.heap.size w wr))
  case atStart => exact ⟨0, [], Nat.zero_le _, by omega, rfl, rfl, Lib.hid rfl, Lib.hid (Below.refl _ _)⟩
  case round =>
    obtain ⟨k, Q, hk, rfl, rfl, rfl, HQ, HB⟩ := hrel
    obtain ⟨wo, rfl⟩ : ∃ x, x = wr := ⟨_, rfl⟩
    by_cases hlt : k < min l.length 30
    · have hk1 : k < l.length := by omega
      have hkk : (k : Int) < (l.length : Int) := by omega
      have hk30 : (k : Int) < 30 := by omega
      obtain ⟨g, o, rfl, hc⟩ := bs_at (HV.out.below HB.out) hk1
      have HT : Hid ((l.take (k + 1)).map (fun b => b8 (97 + (b.toNat : Int) % 26)) = Q ++ [b8 (97 + ((l[k]).toNat : Int) % 26)]) := by
        show _ = _
        rw [List.take_succ_eq_append_getElem hk1, List.map_append, HQ.out]
        rfl
      obtain ⟨x, hx⟩ : ∃ x, l[k] = x := ⟨_, rfl⟩
      rw [hx] at hc HT
      have hxb := x.toNat_lt
      have hb8 : ((b8 (97 + (x.toNat : Int) % 26)).toNat : Int) = 97 + (x.toNat : Int) % 26 := by rw [b8_toNat]; omega
      obtain ⟨y, hy⟩ : ∃ y, b8 (97 + (x.toNat : Int) % 26) = y := ⟨_, rfl⟩
      rw [hy] at hb8 HT
      have k7 : (convert 26 9 (.slice (some ⟨wo.heap.size, 0, none⟩) 1 1)).run Try.prog (wo.alloc (Obj.cells #[Value.int .u8 (97 + (x.toNat : Int) % 26)] 5)) = .ok (.string (str [y])) (wo.alloc (Obj.cells #[Value.int .u8 (97 + (x.toNat : Int) % 26)] 5)) := run_conv_bs (P := Try.prog) Try.underlying26 Try.underlying5 Try.underlying9 (bs_lit (w := wo) (e := 5) #[Value.int .u8 (97 + (x.toNat : Int) % 26)] [y] (by rw [← hb8]; rfl) (by simp))
      have HB2 := Lib.hid (below_then HB.out ((Below.refl wo.heap.size wo).alloc (Nat.le_refl _) (Obj.cells #[Value.int .u8 (97 + (x.toNat : Int) % 26)] 5)) HB.out.size)
      have hQl : Q.length ≤ 30 := by rw [← HQ.out, List.length_map, List.length_take]; omega
      have hns : ¬ (str Q).size + (str [y]).size > 9223372036854775807 := by show ¬ (Q.length + 1 > 9223372036854775807); omega
      have hsa := str_app Q [y]
      clear hx HQ hb8 hy hxb hQl
      go_wp2
      go_roundg (min l.length 30 - (k + 1))
      case measure => omega
      case rel => exact ⟨k + 1, Q ++ [y], by omega, rfl, by go_num, rfl, HT, HB2⟩
    · have hkn : k = min l.length 30 := by omega
      have hfin : Q = P := by
        rw [← HQ.out, ← HP.out, hkn]
        unfold plainL
        by_cases h : l.length ≤ 30
        · rw [Nat.min_eq_left h, List.take_of_length_le (Nat.le_refl _), List.take_of_length_le h]
        · rw [Nat.min_eq_right (by omega)]
      subst hfin
      by_cases hk1 : k < l.length
      · have hkk : (k : Int) < (l.length : Int) := by omega
        have hk30 : ¬ (k : Int) < 30 := by omega
        go_wp2
        exact HR.out _ HB.out
      · have hkk : ¬ (k : Int) < (l.length : Int) := by omega
        go_wp2
        exact HR.out _ HB.out
end Go.Proofs.Ytgimbocoamnkjaa
