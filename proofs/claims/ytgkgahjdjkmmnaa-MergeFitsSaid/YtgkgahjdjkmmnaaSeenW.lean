
import Derived.Test.YtgkgahjdjkmmnaaSeen
import Derived.Test.YtgkgahjdjkmmnaaIs
namespace Go.Proofs.Ytgkgahjdjkmmnaa
open Go.RowKit

def seenK (g : List Ent) (ss : List Int) (k : Nat) : List Bool := (ss.take k).foldl (fun acc s => if searchL g s < g.length then acc.set (searchL g s) true else acc) ((List.replicate g.length false).set 0 true)
def seenL (g : List Ent) (ss : List Int) : List Bool := seenK g ss ss.length
theorem seenK_len (g : List Ent) (ss : List Int) (k : Nat) : (seenK g ss k).length = g.length := by
  unfold seenK
  generalize h : (List.replicate g.length false).set 0 true = a
  have ha : a.length = g.length := by rw [← h]; simp
  clear h
  induction (ss.take k) generalizing a with
  | nil => exact ha
  | cons s r ih =>
    rw [List.foldl_cons]
    apply ih
    split
    · simpa using ha
    · exact ha
theorem seenK_succ (g : List Ent) (ss : List Int) (k : Nat) (h : k < ss.length) : seenK g ss (k + 1) = if searchL g ss[k] < g.length then (seenK g ss k).set (searchL g ss[k]) true else seenK g ss k := by
  unfold seenK
  rw [List.take_succ_eq_append_getElem h, List.foldl_append]
  rfl

theorem Try.info4 : (Try.prog.info? 4).map (fun i => (i.zero, i.size, i.bytes)) = some (some (.bool false), 1, 1) := by kernel_rfl

set_option maxRecDepth 100000 in
set_option maxHeartbeats 4000000 in
theorem seen_any (v u : Value) (g : List Ent) (ss : List Int) (L : List Bool) (hL : seenL g ss = L) (hpos : 0 < g.length) (hg : g.length ≤ 1000000) (hmono : ∀ s a b (_ : a ≤ b) (hb : b < g.length) (ha : a < g.length), (g[a]).seq ≤ s → (g[b]).seq ≤ s)
    (w : World) (hv : Es w v g) (hu : Is w u ss) (R : Ending → World → Prop)
    (hR : ∀ b c w', w'.ownsRow w.heap.size 4 1 (.slice (some ⟨b, 0, none⟩) g.length c) g.length (L.map Value.bool) → Below w.heap.size w w' → R (.returned (.slice (some ⟨b, 0, none⟩) g.length c)) w') :
    Calls Try.prog 39 #[v, u] w R := by
  have M := Lib.hid hmono
  have HL := Lib.hid hL
  have HV := Lib.hid hv
  have HU := Lib.hid hu
  have HR := Lib.hid hR
  obtain ⟨va, vc, rfl, _⟩ := hv
  obtain ⟨ua, uc, rfl, _⟩ := hu
  clear hmono hL hR
  have hnl : (0 : Int) < (g.length : Int) := by omega
  go_enter Try.func39, Try.ntmps39
  obtain ⟨i0, hi, hz, hi1, hi2⟩ := info_parts Try.info4
  have hb0 : Below w.heap.size w (w.alloc (Obj.cells #[Value.slice va g.length vc] 24)) := (Below.refl _ _).alloc (Nat.le_refl _) _
  go_wp2_with (at_make; go_must (refine wpList_make_full _ (by rfl) _ _ 78 (by rfl) w.heap.size 4 i0 (.bool false) 1 Try.underlying78 hi hz hi1 _ _ _ _ g.length rfl rfl rfl rfl (by rw [hi2]; omega) (by unfold maxLen; omega) (by simp) ?_))
  intro w1 hown1 hg1
  rw [made1] at hown1
  have hb1 : Below w.heap.size w w1 := hb0.grown hg1 (by simp) (fun k hk => by cases hk)
  have hc1 : w1.cell? ⟨w.heap.size, 0, none⟩ = some (Value.slice va g.length vc) := by
    have h0 : (w.alloc (Obj.cells #[Value.slice va g.length vc] 24)).cell? ⟨w.heap.size, 0, none⟩ = some (Value.slice va g.length vc) := cell_of_row _ _ 0 _ _ _ (heap_alloc_new w _)
    exact hg1.cell h0 (by simp)
  have hf1 := hown1.frozenAt 0
  have hx1 := hown1.cellAt 0 (by omega)
  rw [List.getElem?_replicate, if_pos hpos] at hx1
  have hst := hown1.stored 0 (Value.bool true)
  have ho2 : (w1.setCell ⟨w.heap.size + 1, 0, none⟩ (Value.bool true)).ownsRow w.heap.size 4 1 (.slice (some ⟨w.heap.size + 1, 0, none⟩) g.length g.length) g.length ((seenK g ss 0).map Value.bool) := by
    have := hst.1
    simp [seenK, List.map_set]
    simpa using this
  have hb2 : Below w.heap.size w (w1.setCell ⟨w.heap.size + 1, 0, none⟩ (Value.bool true)) := hb1.setCell (by simp) _
  have hc2 : (w1.setCell ⟨w.heap.size + 1, 0, none⟩ (Value.bool true)).cell? ⟨w.heap.size, 0, none⟩ = some (Value.slice va g.length vc) := hst.2.cell hc1 (by simp)
  have HO2 := Lib.hid ho2
  have HB2 := Lib.hid hb2
  have HC2 := Lib.hid hc2
  clear hst ho2 hb2 hc2 hown1 hg1 hb1 hb0
  go_wp2
  go_loopw [16] (fun i wr => ∃ k : Nat, k ≤ ss.length ∧ i = .int .i64 k ∧ Below w.heap.size w wr ∧ w.heap.size + 2 ≤ wr.heap.size ∧ Hid (wr.cell? ⟨w.heap.size, 0, none⟩ = some (Value.slice va g.length vc)) ∧ Hid (wr.ownsRow w.heap.size 4 1 (.slice (some ⟨w.heap.size + 1, 0, none⟩) g.length g.length) g.length ((seenK g ss k).map Value.bool))) (fun i _ => ss.length - (intOf i).toNat)
  case atStart => exact ⟨0, Nat.zero_le _, rfl, HB2.out, (by have := (HO2.out.lt _ rfl).2; simp only at this ⊢; omega), HC2, HO2⟩
  case round =>
    obtain ⟨k, hk, rfl, hb, hz, HC, HO⟩ := hrel
    by_cases hlt : k < ss.length
    · have hkk : (k : Int) < (ss.length : Int) := by omega
      obtain ⟨b, o, rfl, hcell⟩ := (HU.out.below hb).at k hlt
      obtain ⟨s, hs⟩ : ∃ s, ss[k] = s := ⟨_, rfl⟩
      obtain ⟨z, hz1⟩ : ∃ z, searchL g s = z := ⟨_, rfl⟩
      have hsucc := seenK_succ g ss k hlt
      rw [hs, hz1] at hsucc
      rw [hs] at hcell
      have HS := Lib.hid hsucc
      have HZ := Lib.hid hz1
      obtain ⟨w2, hw2⟩ : ∃ w2, wr.alloc (Obj.cells #[Value.int .i64 s] 3) = w2 := ⟨_, rfl⟩
      have hy2 : Below wr.heap.size wr w2 := by rw [← hw2]; exact (Below.refl _ _).alloc (Nat.le_refl _) _
      have h7 : w2.cell? ⟨wr.heap.size, 0, none⟩ = some (.int .i64 s) := by rw [← hw2]; exact cell_of_row _ _ 0 _ _ _ (heap_alloc_new wr _)
      have h2 := cell_later hy2 HC.out
      have hv2 := HV.out.below (below_then hb hy2 hb.size)
      have hc := HC.out
      clear hs hsucc hz1
      go_wp2_with (go_at_call 56; go_must (refine search_any w.heap.size wr.heap.size _ g s z HZ.out (M.out s) hg _ h2 h7 hv2 _ ?_))
      intro w3 hy3
      have hy4 := below_tr hy2 hy3
      have h9 := cell_later hy3 h2
      have hrow := owns_below HO.out hy4
      have HB4 := Lib.hid (below_then hb hy4 hb.size)
      have HY4 := Lib.hid hy4
      have HC9 := Lib.hid h9
      clear h7 h2 hv2 hcell hy2 hy3 hy4 hw2
      by_cases hzl : z < g.length
      · have hzz : (z : Int) < (g.length : Int) := by omega
        have hst := hrow.stored z (Value.bool true)
        have hf := hrow.frozenAt z
        have hx := hrow.cellAt z (by omega)
        rw [List.getElem?_map, List.getElem?_eq_getElem (by rw [seenK_len]; exact hzl)] at hx
        have hnx : Hid ((w3.setCell ⟨w.heap.size + 1, z, none⟩ (Value.bool true)).ownsRow w.heap.size 4 1 (.slice (some ⟨w.heap.size + 1, 0, none⟩) g.length g.length) g.length ((seenK g ss (k + 1)).map Value.bool)) := by
          rw [HS.out, if_pos hzl, List.map_set]
          exact hst.1
        have hbx : Hid (Below w.heap.size w (w3.setCell ⟨w.heap.size + 1, z, none⟩ (Value.bool true))) := HB4.out.setCell (by simp) _
        have hcx : Hid ((w3.setCell ⟨w.heap.size + 1, z, none⟩ (Value.bool true)).cell? ⟨w.heap.size, 0, none⟩ = some (Value.slice va g.length vc)) := hst.2.cell h9 (by simp)
        have hzx : w.heap.size + 2 ≤ w3.heap.size := by have := HY4.out.size; omega
        clear hst hrow HS hc
        go_wp2
        go_roundw
        case rel => exact ⟨k + 1, by omega, by go_num, hbx.out, by simpa using hzx, hcx, hnx⟩
        case measure => simp [intOf]; omega
      · have hzz : ¬ (z : Int) < (g.length : Int) := by omega
        have hnx : Hid (w3.ownsRow w.heap.size 4 1 (.slice (some ⟨w.heap.size + 1, 0, none⟩) g.length g.length) g.length ((seenK g ss (k + 1)).map Value.bool)) := by
          rw [HS.out, if_neg hzl]
          exact hrow
        have hzx : w.heap.size + 2 ≤ w3.heap.size := by have := HY4.out.size; omega
        clear hrow HS hc
        go_wp2
        go_roundw
        case rel => exact ⟨k + 1, by omega, by go_num, HB4.out, hzx, HC9, hnx⟩
        case measure => simp [intOf]; omega
    · have hkk : ¬ (k : Int) < (ss.length : Int) := by omega
      obtain rfl : k = ss.length := by omega
      have hll : seenK g ss ss.length = L := HL.out
      have HLL := Lib.hid hll
      clear hll
      go_wp2
      exact HR.out _ _ _ (by rw [← HLL.out]; exact HO.out) hb
end Go.Proofs.Ytgkgahjdjkmmnaa
