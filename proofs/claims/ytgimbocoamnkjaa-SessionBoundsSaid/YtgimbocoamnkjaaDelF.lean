/- slices.Delete at flights, walked. -/
import Derived.Test.YtgimbocoamnkjaaFind
import Derived.Deep.RegionLaw
import Derived.Lib.SliceRun
namespace Go.Proofs.Ytgimbocoamnkjaa
open Go.RowKit

/-- clear at one element of several cells. -/
theorem run_clear_one {P : Program} (w : World) (t e ty : TypeId) (z : Value) (cs : Array Value) (ht : P.underlying t = some (.slice e)) (hv : ∀ w, (zeroValue e).run P w = .ok z w) (hz : z.cells = cs) (h1 : ∀ v ∈ cs.toList, v.oneCell' = true) (b o c : Nat)
    (hc : ∀ j, j < cs.size → (w.cell? ⟨b, o + j, none⟩).isSome = true) (hf : ∀ j, j < cs.size → w.frozen? ⟨b, o + j, none⟩ = false) :
    (Builtin.clear_ #[t] ty #[.slice (some ⟨b, o, none⟩) 1 c]).run P w = .ok (.tuple #[]) (w.setCells b o cs.toList) := by
  have hzc : (Builtin.zeroCells z.cells 1).toList = cs.toList := by
    rw [hz]
    apply List.ext_getElem
    · simp [Builtin.zeroCells]
    · intro i h1 h2
      have h3 : i < cs.size := by simpa using h2
      simp [Builtin.zeroCells, Nat.mod_eq_of_lt h3, h3]
  have hst := run_storeCells_cells (P := P) b o cs.toList 0 w (by simpa using hc) (by simpa using hf) h1
  simp only [Nat.add_zero] at hst
  simp [Builtin.clear_, run_underlying ht, hv, hzc, hst]

theorem zero_fl (w : World) : (zeroValue 54).run Try.prog w = .ok (Value.agg #[.int .i64 0, .int .i64 0, .string ⟨#[]⟩, .slice none 0 0, .int .i64 0, .bool false, .string ⟨#[]⟩, .int .i64 0, .slice none 0 0, .int .i64 0, .int .i64 0, .int .i64 0, .int .i64 0, .bool false, .slice none 0 0, .string ⟨#[]⟩]) w := by kernel_rfl
theorem one_flz : ∀ v ∈ (#[.int .i64 0, .int .i64 0, .string ⟨#[]⟩, .slice none 0 0, .int .i64 0, .bool false, .string ⟨#[]⟩, .int .i64 0, .slice none 0 0, .int .i64 0, .int .i64 0, .int .i64 0, .int .i64 0, .bool false, .slice none 0 0, .string ⟨#[]⟩] : Array Value).toList, v.oneCell' = true := by
  intro v hv
  simp only [List.mem_cons, List.not_mem_nil, or_false] at hv
  rcases hv with rfl | rfl | rfl | rfl | rfl | rfl | rfl | rfl | rfl | rfl | rfl | rfl | rfl | rfl | rfl | rfl <;> rfl

/-- The cells of a row out of which one element was taken, the others moved up. -/
theorem moved_row {w : World} {B g c : Nat} {ps : List (V3 × Fl)} {i k : Nat} (hi : i + (k - i) = k) (hk : k + 1 = ps.length) (h : w.ownsRow B 54 16 (.slice (some ⟨g, 0, none⟩) ps.length c) ps.length (ps.flatMap flP)) (zs : List Value) :
    ((w.setCells g (0 + i * 16) ((ps.drop (i + 1)).flatMap flP)).setCells g (k * 16) zs).ownsRow B 54 16 (.slice (some ⟨g, 0, none⟩) k c) k ((ps.eraseIdx i).flatMap flP) := by
  have hlen : (ps.eraseIdx i).length = k := by rw [List.length_eraseIdx_of_lt (by omega)]; omega
  refine ⟨by rw [flatN_length 16 flP flP_length, hlen], ?_⟩
  rcases h.2 with ⟨hv, h0⟩ | ⟨g', cap, cur, hv, hB, hg, h1, h2, h3, h4⟩
  · cases hv
  · simp only [Value.slice.injEq, Option.some.injEq, Addr.mk.injEq] at hv
    obtain ⟨⟨rfl, -, -⟩, -, rfl⟩ := hv
    obtain ⟨cur1, k1, k2, k3⟩ := heap_setCells_row g 54 ((ps.drop (i + 1)).flatMap flP) (0 + i * 16) w cur hg
    obtain ⟨cur2, m1, m2, m3⟩ := heap_setCells_row g 54 zs (k * 16) _ cur1 k1
    refine .inr ⟨g, c, cur2, rfl, hB, m1, by omega, h2, by rw [m2, k2]; exact h3, ?_⟩
    have hdl : ((ps.drop (i + 1)).flatMap flP).length = (k - i) * 16 := by
      rw [flatN_length 16 flP flP_length, List.length_drop]
      congr 1
      omega
    have hcs : ps.length * 16 ≤ cur.size := by
      have := congrArg List.length h4
      rw [flatN_length 16 flP flP_length, List.length_take] at this
      simp at this
      omega
    have hat : ∀ j, j < ps.length * 16 → cur[j]? = (ps.flatMap flP)[j]? := fun j hj => by
      rw [← h4, List.getElem?_take, if_pos hj]
      simp
    apply List.ext_getElem?
    intro j
    rw [List.getElem?_take]
    by_cases hj : j < k * 16
    · rw [if_pos hj]
      have e0 : cur2.toList[j]? = cur2[j]? := by simp
      rw [e0, m3, if_neg (by omega), k3, hdl, List.eraseIdx_eq_take_drop_succ, List.flatMap_append]
      have htl : ((ps.take i).flatMap flP).length = i * 16 := by
        rw [flatN_length 16 flP flP_length, List.length_take]
        congr 1
        omega
      by_cases hji : j < i * 16
      · rw [if_neg (by omega), hat j (by omega), List.getElem?_append_left (by rw [htl]; exact hji), ← flatN_take 16 flP flP_length, List.getElem?_take, if_pos hji]
      · rw [if_pos (by omega), List.getElem?_append_right (by rw [htl]; omega), htl]
        congr 1
        omega
    · rw [if_neg hj, List.getElem?_eq_none (by rw [flatN_length 16 flP flP_length, hlen]; omega)]

set_option maxRecDepth 100000 in
set_option maxHeartbeats 2000000 in
theorem delf_any (g c : Nat) (ps : List (V3 × Fl)) (i : Nat) (hi : i < ps.length) (hl : ps.length ≤ 100000) (w : World) (hone : ∀ u ∈ ps.flatMap flP, u.oneCell' = true) (hf : w.ownsRow 0 54 16 (.slice (some ⟨g, 0, none⟩) ps.length c) ps.length (ps.flatMap flP)) (R : Ending → World → Prop)
    (hR : ∀ w', w'.ownsRow 0 54 16 (.slice (some ⟨g, 0, none⟩) (ps.length - 1) c) (ps.length - 1) ((ps.eraseIdx i).flatMap flP) → w.grownBy w' (some g) → R (.returned (.slice (some ⟨g, 0, none⟩) (ps.length - 1) c)) w') :
    Calls Try.prog 36 #[.slice (some ⟨g, 0, none⟩) ps.length c, .int .i64 i, .int .i64 ((i : Int) + 1)] w R := by
  have HR := Lib.hid hR
  have HF := Lib.hid hf
  clear hR hf
  obtain ⟨k, hk⟩ : ∃ k, k + 1 = ps.length := ⟨ps.length - 1, by omega⟩
  obtain ⟨n, hn⟩ : ∃ n, ps.length = n := ⟨_, rfl⟩
  have hkn : n - 1 = k := by omega
  have hcap := (RowA.of_owns HF.out).cap
  obtain ⟨i0, hi0, _, hz1, _⟩ := info_parts infoFl
  have hin : i < n := by omega
  have hdrew : Below w.heap.size w w.drew := (Below.refl w.heap.size w).drew
  have hrow := (RowA.of_owns HF.out)
  obtain ⟨ax, hsl, hrow2, hob⟩ := RowA.from (k := i + 1) hrow Try.underlying36 hi0 hz1 (by omega)
  rw [flatN_drop 16 flP flP_length] at hrow2
  have hax : ∃ A, ax = some A := by
    cases ax with
    | some A => exact ⟨A, rfl⟩
    | none => cases hob
  obtain ⟨A, rfl⟩ := hax
  have hrd := (hrow2.below hdrew).rd
  have hnews : ∀ j u, ((ps.drop (i + 1)).flatMap flP)[j]? = some u → w.drew.cell? (A.add j) = some u := fun j u hj => by
    have hj0 : j < (ps.length - (i + 1)) * 16 := by
      rw [← hrd.1]
      exact (List.getElem?_eq_some_iff.1 hj).1
    obtain ⟨b, o, e, hc⟩ := hrd.2 (by omega)
    obtain rfl := Option.some.inj e
    rw [Addr.add_lit, hc j hj0]
    exact hj
  have hnl := hrd.1
  have hspare : ∀ j, j < ((ps.drop (i + 1)).flatMap flP).length → (w.drew.cell? ⟨g, 0 + i * 16 + j, none⟩).isSome = true ∧ w.drew.frozen? ⟨g, 0 + i * 16 + j, none⟩ = false := fun j hj => by
    rw [hnl] at hj
    have h0 := owns_below HF.out hdrew
    refine ⟨?_, h0.frozenAt _⟩
    rw [h0.cellAt _ (by omega), List.getElem?_eq_getElem (by rw [flatN_length 16 flP flP_length]; omega)]
    rfl
  have hone2 : ∀ u ∈ (ps.drop (i + 1)).flatMap flP, u.oneCell' = true := fun u hu => hone u (by
    obtain ⟨p, hp, hu⟩ := List.mem_flatMap.1 hu
    exact List.mem_flatMap.2 ⟨p, List.mem_of_mem_drop hp, hu⟩)
  obtain ⟨W1, hW1⟩ : ∃ W1, w.drew.setCells g (0 + i * 16) ((ps.drop (i + 1)).flatMap flP) = W1 := ⟨_, rfl⟩
  have hfin := moved_row (i := i) (k := k) (by omega) hk (owns_below HF.out hdrew) (#[.int .i64 0, .int .i64 0, .string ⟨#[]⟩, .slice none 0 0, .int .i64 0, .bool false, .string ⟨#[]⟩, .int .i64 0, .slice none 0 0, .int .i64 0, .int .i64 0, .int .i64 0, .int .i64 0, .bool false, .slice none 0 0, .string ⟨#[]⟩] : Array Value).toList
  have hmid := moved_row (i := i) (k := k) (by omega) hk (owns_below HF.out hdrew) []
  have hgw : w.grownBy (W1.setCells g (k * 16) (#[.int .i64 0, .int .i64 0, .string ⟨#[]⟩, .slice none 0 0, .int .i64 0, .bool false, .string ⟨#[]⟩, .int .i64 0, .slice none 0 0, .int .i64 0, .int .i64 0, .int .i64 0, .int .i64 0, .bool false, .slice none 0 0, .string ⟨#[]⟩] : Array Value).toList) (some g) := by
    rw [← hW1]
    exact grownBy_trans (grownBy_trans (grown_bel hdrew) (grownBy_setCells _ _ _ _)) (grownBy_setCells _ _ _ _)
  rw [hW1] at hfin hmid
  have hcl : ∀ ty, (Builtin.clear_ #[36] ty #[.slice (some ⟨g, k * 16, none⟩) 1 (c - k)]).run Try.prog W1 = .ok (.tuple #[]) (W1.setCells g (k * 16) (#[.int .i64 0, .int .i64 0, .string ⟨#[]⟩, .slice none 0 0, .int .i64 0, .bool false, .string ⟨#[]⟩, .int .i64 0, .slice none 0 0, .int .i64 0, .int .i64 0, .int .i64 0, .int .i64 0, .bool false, .slice none 0 0, .string ⟨#[]⟩] : Array Value).toList) := fun ty => by
    obtain ⟨cur1, k1, k2, _⟩ : ∃ cur1 : Array Value, W1.heap[g]? = some (.cells cur1 54 (0, 0)) ∧ n * 16 ≤ cur1.size ∧ True := by
      rcases (owns_below HF.out hdrew).2 with ⟨hv, h0⟩ | ⟨g', cap, cur, hv, hB, hg, h1, h2, h3, h4⟩
      · cases hv
      · simp only [Value.slice.injEq, Option.some.injEq, Addr.mk.injEq] at hv
        obtain ⟨⟨rfl, -, -⟩, -, rfl⟩ := hv
        obtain ⟨cur1, k1, k2, k3⟩ := heap_setCells_row g 54 ((ps.drop (i + 1)).flatMap flP) (0 + i * 16) w.drew cur hg
        rw [hW1] at k1
        have := congrArg List.length h4
        rw [flatN_length 16 flP flP_length, List.length_take] at this
        simp at this
        exact ⟨cur1, k1, by omega, trivial⟩
    refine run_clear_one W1 _ 54 ty (Value.agg #[.int .i64 0, .int .i64 0, .string ⟨#[]⟩, .slice none 0 0, .int .i64 0, .bool false, .string ⟨#[]⟩, .int .i64 0, .slice none 0 0, .int .i64 0, .int .i64 0, .int .i64 0, .int .i64 0, .bool false, .slice none 0 0, .string ⟨#[]⟩]) _ Try.underlying36 zero_fl rfl one_flz g (k * 16) _ (fun j hj => ?_) (fun j hj => ?_)
    · have hj : j < 16 := hj
      rw [cell_of_row W1 g _ cur1 _ _ k1, Array.getElem?_eq_getElem (by omega)]
      rfl
    · exact frozen_of_row W1 g _ cur1 _ k1
  have he : Try.prog.elem 36 = 54 := by simp [Program.elem, Try.underlying36]
  have hs2 : ∀ w', (Instr.slice 36 (.slice (some ⟨g, 0, none⟩) k c) (some (.int .i64 (k : Int))) (some (.int .i64 (n : Int))) none).run Try.prog w' = .ok (.slice (some ⟨g, k * 16, none⟩) 1 (c - k)) w' := fun w' => by
    rw [run_slice_lh (P := Try.prog) w' _ _ k c (by rw [he]; exact Try.underlying36) .i64 .i64 k n (by omega) (by omega) (by omega), he]
    have h1 : c ≠ k := by omega
    have h2 : n - k = 1 := by omega
    simp [sizeOf, typeInfo, hi0, hz1, sliced, h1, h2, Addr.add_lit]
  replace hsl : ∀ w', (Instr.slice 36 (.slice (some ⟨g, 0, none⟩) n c) (some (.int .i64 ((i : Int) + 1))) none none).run Try.prog w' = .ok (.slice (some A) (n - (i + 1)) (c - (i + 1))) w' := fun w' => by
    have := hsl w'
    rw [hn] at this
    exact this
  rw [hn] at hcap hrow hrow2 hob ⊢
  rw [hn, hkn] at HR
  have HFIN := Lib.hid hfin
  have HGW := Lib.hid hgw
  have HW := Lib.hid hW1
  have HN := Lib.hid hnews
  have HSP := Lib.hid hspare
  have HON := Lib.hid hone2
  have HNL : Hid (((ps.drop (i + 1)).flatMap flP).length = (n - (i + 1)) * 16) := by show _ = _; rw [← hn]; exact hnl
  have hmm : i + (n - (i + 1)) = k := by omega
  have HMM := Lib.hid hmm
  have hic : i ≤ c := by omega
  have hi1c : i + 1 ≤ c := by omega
  have hii : ((i : Int) == (i : Int) + 1) = false := by simp; omega
  clear hfin hmid hgw hW1 hnews hspare hone2 hnl hmm hrd hrow hrow2 hob hone HF hdrew hn hk
  go_enter Try.func36, Try.ntmps36
  go_wp2_with fail
  go_region_law (refine step_append_room rfl (.tmp 22) (.tmp 25) 36 rfl 54 i0 16 Try.underlying36 hi0 hz1 g 0 i c (by rfl) A (n - (i + 1)) (c - (i + 1)) _ (by rfl) HNL.out HN.out HON.out (by omega) HSP.out ?_; rw [HW.out, HMM.out])
  go_wp2
  exact HR.out _ HFIN.out HGW.out
end Go.Proofs.Ytgimbocoamnkjaa
