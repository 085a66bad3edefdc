/- Rows of tables that a call grows (their keys in older memory); merge.of walked. -/
import Derived.Test.YtgkgahjdjkmmnaaOver
namespace Go.Proofs.Ytgkgahjdjkmmnaa
open Go.RowKit

def plcs (kv : List (Value × Value)) (l : List Pl) : List Value := (kv.zip l).flatMap fun q => plc q.1.1 q.1.2 q.2
theorem flat5p {α : Type} (f : α → List Value) (hf : ∀ x, (f x).length = 5) : ∀ (l : List α) (i j : Nat) (hi : i < l.length), j < 5 → (l.flatMap f)[i * 5 + j]? = (f l[i])[j]?
  | [], i, j, hi, hj => by simp at hi
  | x :: l, 0, j, hi, hj => by
    rw [List.flatMap_cons, Nat.zero_mul, Nat.zero_add, List.getElem?_append_left (by rw [hf]; omega)]
    rfl
  | x :: l, i + 1, j, hi, hj => by
    rw [List.flatMap_cons, List.getElem?_append_right (by rw [hf]; omega), hf, show (i + 1) * 5 + j - 5 = i * 5 + j by omega, flat5p f hf l i j (by simpa using hi) hj]
    rfl
theorem plcs_snoc (kv : List (Value × Value)) (l : List Pl) (h : kv.length = l.length) (x y : Value) (p : Pl) : plcs (kv ++ [(x, y)]) (l ++ [p]) = plcs kv l ++ plc x y p := by
  unfold plcs
  rw [List.zip_append h, List.flatMap_append]
  simp
theorem plcs_at (kv : List (Value × Value)) (l : List Pl) (h : kv.length = l.length) (i : Nat) (hi : i < l.length) (j : Nat) (hj : j < 5) : (plcs kv l)[i * 5 + j]? = (plc (kv[i]'(by omega)).1 (kv[i]'(by omega)).2 l[i])[j]? := by
  unfold plcs
  rw [flat5p _ (fun _ => rfl) (kv.zip l) i j (by rw [List.length_zip]; omega) hj, List.getElem_zip]

/-- The slice value v is a row of the call's own, from block B on: the tables l; their keys lie in a world that was. -/
def PlsR (w0 w : World) (B : Nat) (v : Value) (l : List Pl) : Prop :=
  ∃ kv : List (Value × Value), ∃ _ : kv.length = l.length, w.ownsRow B 59 5 v l.length (plcs kv l) ∧ ∀ (i : Nat) (h : i < l.length), PlC w0 (kv[i]'(by omega)).1 (kv[i]'(by omega)).2 l[i]
theorem PlsR.nil (w0 w : World) (B : Nat) : PlsR w0 w B (.slice none 0 0) [] := ⟨[], rfl, World.ownsRow_nil _ _ _ _, fun i hi => by simp at hi⟩
theorem PlsR.shape {w0 w : World} {B : Nat} {v : Value} {l : List Pl} (h : PlsR w0 w B v l) : ∃ ad c, v = .slice ad l.length c := by
  obtain ⟨kv, _, h2, _⟩ := h
  exact owns_shape h2
theorem PlsR.below {w0 w w' : World} {B : Nat} {v : Value} {l : List Pl} (h : PlsR w0 w B v l) (hb : Below w.heap.size w w') : PlsR w0 w' B v l := by
  obtain ⟨kv, h1, h2, h3⟩ := h
  exact ⟨kv, h1, owns_below h2 hb, h3⟩
theorem PlsR.mono {w0 w : World} {B B' : Nat} {v : Value} {l : List Pl} (h : PlsR w0 w B v l) (hB : B' ≤ B) : PlsR w0 w B' v l := by
  obtain ⟨kv, h1, h2, h3⟩ := h
  exact ⟨kv, h1, owns_mono h2 hB, h3⟩
theorem PlsR.pls {w0 w : World} {B : Nat} {v : Value} {l : List Pl} (h : PlsR w0 w B v l) (hb : Below w0.heap.size w0 w) : Pls w v l := by
  obtain ⟨kv, h1, h2, h3⟩ := h
  obtain ⟨ad, c, rfl⟩ := owns_shape h2
  have hc := owns_cap h2
  unfold maxLen at hc
  refine ⟨ad, c, rfl, hc.1, by omega, owns_nil h2, fun h0 => ?_⟩
  obtain ⟨g, rfl⟩ := owns_head h2 h0
  refine ⟨g, 0, rfl, fun i hi => ?_⟩
  have hat : ∀ j, j < 5 → w.cell? ⟨g, 0 + i * 5 + j, none⟩ = (plc (kv[i]'(by omega)).1 (kv[i]'(by omega)).2 l[i])[j]? := fun j hj => by
    rw [Nat.zero_add, ← plcs_at kv l h1 i hi j hj]
    exact h2.cellAt _ (by have : i * 5 + j < l.length * 5 := by omega
                          omega)
  exact ⟨_, _, ⟨hat 0 (by omega), hat 1 (by omega), hat 2 (by omega), hat 3 (by omega), hat 4 (by omega)⟩, (h3 i hi).below hb⟩
theorem infoPlace : (Try.prog.info? 59).map (fun i => (i.zero, i.size, i.bytes)) = some (some (.agg #[.int .i64 0, .int .i64 0, .int .i64 0, .slice none 0 0, .slice none 0 0]), 5, 72) := by kernel_rfl
theorem plc_oneCell (a c : Option Addr) (n m p q : Nat) (x y z : Int) : ∀ u ∈ [Value.int .i64 x, .int .i64 y, .int .i64 z, Value.slice a n p, Value.slice c m q], u.oneCell' = true := by
  intro u hu
  simp at hu
  rcases hu with rfl | rfl | rfl | rfl | rfl <;> rfl

def ofL (l : List Pl) (level : Int) : List Pl := l.filter fun p => decide (p.level = level)
theorem ofL_succ (l : List Pl) (level : Int) (k : Nat) (hk : k < l.length) : ofL (l.take (k + 1)) level = if l[k].level = level then ofL (l.take k) level ++ [l[k]] else ofL (l.take k) level := by
  unfold ofL
  rw [List.take_succ_eq_append_getElem hk, List.filter_append]
  by_cases h : l[k].level = level
  · rw [if_pos h, List.filter_cons, if_pos (by simpa using h)]
    rfl
  · rw [if_neg h, List.filter_cons, if_neg (by simpa using h)]
    simp
theorem ofL_len (l : List Pl) (level : Int) (k : Nat) : (ofL (l.take k) level).length ≤ k := by
  unfold ofL
  exact Nat.le_trans (List.length_filter_le _ _) (by rw [List.length_take]; omega)

set_option maxRecDepth 100000 in
set_option maxHeartbeats 3200000 in
theorem of_any (log next seq level : Int) (v : Value) (l F : List Pl) (hF : ofL l level = F) (hl : l.length ≤ 1000000) (w : World) (hv : Pls w v l) (R : Ending → World → Prop)
    (hR : ∀ ad c w', PlsR w w' w.heap.size (.slice ad F.length c) F → Below w.heap.size w w' → R (.returned (.slice ad F.length c)) w') :
    Calls Try.prog 41 #[.agg #[.int .i64 log, .int .i64 next, .int .i64 seq, v], .int .i64 level] w R := by
  have HR := Lib.hid hR
  have HV := Lib.hid hv
  have HF := Lib.hid hF
  obtain ⟨va, vc, rfl, _⟩ := hv
  have hb0 : Below (w.heap.size + 1) (w.alloc (vnO log next seq (.slice va l.length vc))) (w.alloc (vnO log next seq (.slice va l.length vc))) := Below.refl _ _
  have hw1 : Below w.heap.size w (w.alloc (vnO log next seq (.slice va l.length vc))) := (Below.refl w.heap.size w).alloc (Nat.le_refl _) _
  have N0 := Lib.hid (heap_alloc_new w (vnO log next seq (.slice va l.length vc)))
  have hz0 : w.heap.size + 1 ≤ (w.alloc (vnO log next seq (.slice va l.length vc))).heap.size := by simp
  unfold vnO at hb0 hw1 N0 hz0
  clear hR hF
  go_enter Try.func41, Try.ntmps41
  go_wp2
  generalize w.alloc (Obj.cells #[.int .i64 log, .int .i64 next, .int .i64 seq, .slice va l.length vc] 52) = w1 at hb0 hw1 N0 hz0 ⊢
  go_loopg [5, 11] l.length (fun gn s5 i wr => ∃ (k : Nat) (ad : Option Addr) (c n : Nat) (O : List Pl), k ≤ l.length ∧ gn = l.length - k ∧ i = .int .i64 k ∧ s5 = .slice ad n c ∧ n ≤ k ∧ Hid (ofL (l.take k) level = O) ∧ Hid (n = O.length) ∧ Hid (PlsR w wr (w.heap.size + 1) (.slice ad n c) O) ∧ Below (w.heap.size + 1) w1 wr ∧ w.heap.size + 1 ≤ wr.heap.size)
  case atStart => exact ⟨0, none, 0, 0, [], Nat.zero_le _, by omega, rfl, rfl, Nat.le_refl _, rfl, rfl, PlsR.nil _ _ _, hb0, hz0⟩
  case round =>
    obtain ⟨k, ad, c, n, O, hk, rfl, rfl, rfl, hnk, HO, hnO, HP, hb, hz⟩ := hrel
    have hbw : Below w.heap.size w wr := hw1.trans (hb.mono (Nat.le_succ _))
    by_cases hlt : k < l.length
    · have hkk : (k : Int) < (l.length : Int) := by omega
      obtain ⟨va', vc', ee, _, _, _, v4⟩ := HV.out
      simp only [Value.slice.injEq] at ee
      obtain ⟨rfl, -, rfl⟩ := ee
      obtain ⟨vb, vo, rfl, v5⟩ := v4 (by omega)
      obtain ⟨px, py, q5, hpc⟩ := v5 k hlt
      obtain ⟨p0, p1, p2, p3, p4⟩ := q5.below hbw
      have hsu := ofL_succ l level k hlt
      rw [HO.out] at hsu
      obtain ⟨p, hp⟩ : ∃ p, l[k] = p := ⟨_, rfl⟩
      rw [hp] at p0 p1 p2 hpc hsu
      have s1 := hpc.shape
      have HPC := Lib.hid hpc
      have HSU := Lib.hid hsu
      clear v4 v5 hp hpc hsu HO q5
      obtain ⟨pn, pl, pc, pa, pb⟩ := p
      simp only at *
      obtain ⟨⟨a1, a2, rfl⟩, b1, b2, rfl⟩ := s1
      obtain ⟨kv, hkv, hrow, heach⟩ := HP.out
      obtain rfl : O.length = n := hnO.out.symm
      have hown2 := Lib.hid (hrow.alloc (Obj.cells #[.int .i64 pn, .int .i64 pl, .int .i64 pc, .slice a1 pa.length a2, .slice b1 pb.length b2] 59))
      have hb2 := Lib.hid (hb.alloc hz (Obj.cells #[.int .i64 pn, .int .i64 pl, .int .i64 pc, .slice a1 pa.length a2, .slice b1 pb.length b2] 59))
      have hz2 : w.heap.size + 1 ≤ (wr.alloc (Obj.cells #[.int .i64 pn, .int .i64 pl, .int .i64 pc, .slice a1 pa.length a2, .slice b1 pb.length b2] 59)).heap.size := by simp; omega
      have HEA := Lib.hid heach
      clear hb hrow heach hnO
      by_cases h1 : pl = level
      · have hd1 : (pl == level) = true := by simpa using h1
        have hso : Hid (ofL (l.take (k + 1)) level = O ++ [⟨pn, pl, pc, pa, pb⟩]) := by
          have := HSU.out
          rw [if_pos h1] at this
          exact this
        clear HSU h1
        obtain ⟨n0, hn0⟩ : ∃ n0, O.length = n0 := ⟨_, rfl⟩
        rw [hn0] at hown2 hnk
        have HN0 := Lib.hid hn0
        clear hn0
        have hrd1 : Rd ((wr.alloc (Obj.cells #[.int .i64 pn, .int .i64 pl, .int .i64 pc, .slice a1 pa.length a2, .slice b1 pb.length b2] 59)).alloc (Obj.cells #[.int .i64 pn, .int .i64 pl, .int .i64 pc, .slice a1 pa.length a2, .slice b1 pb.length b2] 59)) 5 (some ⟨wr.heap.size + 1, 0, none⟩) 1 [.int .i64 pn, .int .i64 pl, .int .i64 pc, .slice a1 pa.length a2, .slice b1 pb.length b2] := by
          have h := rd_lit (wr.alloc (Obj.cells #[.int .i64 pn, .int .i64 pl, .int .i64 pc, .slice a1 pa.length a2, .slice b1 pb.length b2] 59)) #[.int .i64 pn, .int .i64 pl, .int .i64 pc, .slice a1 pa.length a2, .slice b1 pb.length b2] 59 5 1 rfl
          rw [show (wr.alloc (Obj.cells #[.int .i64 pn, .int .i64 pl, .int .i64 pc, .slice a1 pa.length a2, .slice b1 pb.length b2] 59)).heap.size = wr.heap.size + 1 by simp] at h
          exact h
        rw [HN0.out]
        go_wp2_with (at_builtin; go_must (refine wpList_appAt (by rfl) (.tmp 19) (.tmp 21) 50 (by rfl) (w.heap.size + 1) 59 (.agg #[.int .i64 0, .int .i64 0, .int .i64 0, .slice none 0 0, .slice none 0 0]) 5 72 Try.underlying50 infoPlace rfl (by decide) ad n0 c _ (by rfl) (hown2.out.alloc (Obj.cells #[.int .i64 pn, .int .i64 pl, .int .i64 pc, .slice a1 pa.length a2, .slice b1 pb.length b2] 59)) (some ⟨wr.heap.size + 1, 0, none⟩) 1 1 [.int .i64 pn, .int .i64 pl, .int .i64 pc, .slice a1 pa.length a2, .slice b1 pb.length b2] (by rfl) hrd1 (plc_oneCell _ _ _ _ _ _ _ _ _) (fun h => by cases h) (by unfold maxLen; omega) (by omega) (by simp; omega) ?_); intro ad6 c6 w6 hown6 hg6 _)
        have hb6 := below_app (hb2.out.alloc (by omega) (Obj.cells #[.int .i64 pn, .int .i64 pl, .int .i64 pc, .slice a1 pa.length a2, .slice b1 pb.length b2] 59)) hg6 (by simp; omega) (hown2.out.alloc (Obj.cells #[.int .i64 pn, .int .i64 pl, .int .i64 pc, .slice a1 pa.length a2, .slice b1 pb.length b2] 59))
        have hz6 : w.heap.size + 1 ≤ w6.heap.size := by have := hg6.size; simp at this; omega
        have hp6 : Hid (PlsR w w6 (w.heap.size + 1) (.slice ad6 (n0 + 1) c6) (O ++ [⟨pn, pl, pc, pa, pb⟩])) := by
          refine ⟨kv ++ [(.slice a1 pa.length a2, .slice b1 pb.length b2)], by simp [hkv], ?_, fun i hi => ?_⟩
          · rw [plcs_snoc kv O hkv, List.length_append, List.length_singleton, HN0.out]
            exact hown6
          · simp only [List.length_append, List.length_singleton] at hi
            by_cases h : i < O.length
            · rw [List.getElem_append_left h]
              have h1 : (kv ++ [(Value.slice a1 pa.length a2, Value.slice b1 pb.length b2)])[i]'(by simp; have := hkv; omega) = kv[i]'(by have := hkv; omega) := List.getElem_append_left (by have := hkv; omega)
              rw [h1]
              exact HEA.out i h
            · obtain rfl : i = O.length := by omega
              have h1 : (kv ++ [(Value.slice a1 pa.length a2, Value.slice b1 pb.length b2)])[O.length]'(by simp; have := hkv; omega) = (Value.slice a1 pa.length a2, Value.slice b1 pb.length b2) := by
                rw [List.getElem_append_right (by have := hkv; omega)]
                simp [hkv]
              rw [h1, List.getElem_append_right (Nat.le_refl _)]
              simpa using HPC.out
        go_roundg (l.length - (k + 1))
        case measure => omega
        case rel => exact ⟨k + 1, ad6, c6, n0 + 1, O ++ [⟨pn, pl, pc, pa, pb⟩], by omega, rfl, by go_num, rfl, by omega, hso, (Lib.hid (show n0 + 1 = (O ++ [(⟨pn, pl, pc, pa, pb⟩ : Pl)]).length by rw [← HN0.out]; simp)), hp6, hb6, hz6⟩
      · have hd1 : (pl == level) = false := by simpa using h1
        have hso : Hid (ofL (l.take (k + 1)) level = O) := by
          have := HSU.out
          rw [if_neg h1] at this
          exact this
        have hpp : Hid (PlsR w (wr.alloc (Obj.cells #[.int .i64 pn, .int .i64 pl, .int .i64 pc, .slice a1 pa.length a2, .slice b1 pb.length b2] 59)) (w.heap.size + 1) (.slice ad O.length c) O) := ⟨kv, hkv, hown2.out, HEA.out⟩
        obtain ⟨n0, hn0⟩ : ∃ n0, O.length = n0 := ⟨_, rfl⟩
        rw [hn0] at hpp hnk
        have HN0 := Lib.hid hn0
        clear HSU hn0
        rw [HN0.out]
        go_wp2
        go_roundg (l.length - (k + 1))
        case measure => omega
        case rel => exact ⟨k + 1, ad, c, n0, O, by omega, rfl, by go_num, rfl, by omega, hso, Lib.hid HN0.out.symm, hpp, hb2.out, hz2⟩
    · have hkk : ¬ (k : Int) < (l.length : Int) := by omega
      obtain rfl : O = F := by rw [← HO.out, ← HF.out, List.take_of_length_le (by omega)]
      obtain rfl : O.length = n := hnO.out.symm
      clear HO HF
      go_wp2
      exact HR.out _ _ _ (HP.out.mono (Nat.le_succ _)) hbw
end Go.Proofs.Ytgkgahjdjkmmnaa
