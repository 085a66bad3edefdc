/- At most so many edits, of not too much each (few): walked. -/
import Derived.Test.YtpodgocmcnkfdaaEds
import Derived.Test.YtpodgocmcnkfdaaRApB
namespace Go.Proofs.Ytpodgocmcnkfdaa
open Go.RowKit

def cutE (e : Ed) : Ed := ⟨e.log, e.next, e.seq, e.add.take 20, e.drop.take 20⟩
theorem smallE_cut (l : List Ed) : SmallE (l.map cutE) := fun e he => by
  obtain ⟨x, _, rfl⟩ := List.mem_map.1 he
  exact ⟨by show (x.add.take 20).length ≤ 20; rw [List.length_take]; omega, by show (x.drop.take 20).length ≤ 20; rw [List.length_take]; omega⟩
theorem allL_len : ∀ (l : List Ed), SmallE l → ∀ v : Vn, (allL v l).1.tabs.length ≤ v.tabs.length + 20 * l.length
  | [], _, v => by simp [allL]
  | e :: l, h, v => by
    unfold allL
    have h1 := applyL_len v e
    have h2 := (h e List.mem_cons_self).1
    split
    · have := allL_len l (fun x hx => h x (List.mem_cons_of_mem _ hx)) (applyL v e).1
      simp only [List.length_cons]
      omega
    · show 0 ≤ _
      exact Nat.zero_le _
def edcs (kv : List (Value × Value)) (l : List Ed) : List Value := (kv.zip l).flatMap fun q => edc q.1.1 q.1.2 q.2
theorem edcs_snoc (kv : List (Value × Value)) (l : List Ed) (h : kv.length = l.length) (x y : Value) (e : Ed) : edcs (kv ++ [(x, y)]) (l ++ [e]) = edcs kv l ++ edc x y e := by
  unfold edcs
  rw [List.zip_append h, List.flatMap_append]
  simp
theorem edcs_at (kv : List (Value × Value)) (l : List Ed) (h : kv.length = l.length) (i : Nat) (hi : i < l.length) (j : Nat) (hj : j < 5) : (edcs kv l)[i * 5 + j]? = (edc (kv[i]'(by omega)).1 (kv[i]'(by omega)).2 l[i])[j]? := by
  unfold edcs
  rw [flat5p _ (fun _ => rfl) (kv.zip l) i j (by rw [List.length_zip]; omega) hj, List.getElem_zip]
/-- A row of edits of the call's own; what they hold lies in a world that was. -/
def EdsR (w0 w : World) (B : Nat) (v : Value) (l : List Ed) : Prop :=
  ∃ kv : List (Value × Value), ∃ _ : kv.length = l.length, w.ownsRow B 27 5 v l.length (edcs kv l) ∧ ∀ (i : Nat) (h : i < l.length), EdC w0 (kv[i]'(by omega)).1 (kv[i]'(by omega)).2 l[i]
theorem EdsR.nil (w0 w : World) (B : Nat) : EdsR w0 w B (.slice none 0 0) [] := ⟨[], rfl, World.ownsRow_nil _ _ _ _, fun i hi => by simp at hi⟩
theorem EdsR.below {w0 w w' : World} {B : Nat} {v : Value} {l : List Ed} (h : EdsR w0 w B v l) (hb : Below w.heap.size w w') : EdsR w0 w' B v l := by
  obtain ⟨kv, h1, h2, h3⟩ := h
  exact ⟨kv, h1, owns_below h2 hb, h3⟩
theorem EdsR.eds {w0 w : World} {B : Nat} {v : Value} {l : List Ed} (h : EdsR w0 w B v l) (hb : Below w0.heap.size w0 w) : Eds w v l := by
  obtain ⟨kv, h1, h2, h3⟩ := h
  obtain ⟨ad, c, rfl⟩ := owns_shape h2
  have hc := owns_cap h2
  unfold maxLen at hc
  refine ⟨ad, c, rfl, hc.1, by omega, owns_nil h2, fun h0 => ?_⟩
  obtain ⟨g, rfl⟩ := owns_head h2 h0
  refine ⟨g, 0, rfl, fun i hi => ?_⟩
  have hat : ∀ j, j < 5 → w.cell? ⟨g, 0 + i * 5 + j, none⟩ = (edc (kv[i]'(by omega)).1 (kv[i]'(by omega)).2 l[i])[j]? := fun j hj => by
    rw [Nat.zero_add, ← edcs_at kv l h1 i hi j hj]
    exact h2.cellAt _ (by have : i * 5 + j < l.length * 5 := by omega
                          omega)
  exact ⟨_, _, ⟨hat 0 (by omega), hat 1 (by omega), hat 2 (by omega), hat 3 (by omega), hat 4 (by omega)⟩, (h3 i hi).below hb⟩
theorem infoEdit : (Try.prog.info? 27).map (fun i => (i.zero, i.size, i.bytes)) = some (some (.agg #[.int .i64 0, .int .i64 0, .int .i64 0, .slice none 0 0, .slice none 0 0]), 5, 72) := by kernel_rfl
theorem EdsR.push {w0 w : World} {B : Nat} {v' x y : Value} {l : List Ed} {e : Ed} {kv : List (Value × Value)} (hl : kv.length = l.length) (heach : ∀ (i : Nat) (h : i < l.length), EdC w0 (kv[i]'(by omega)).1 (kv[i]'(by omega)).2 l[i])
    (hown : w.ownsRow B 27 5 v' (l.length + 1) (edcs kv l ++ [.int .i64 e.log, .int .i64 e.next, .int .i64 e.seq, x, y])) (he : EdC w0 x y e) : EdsR w0 w B v' (l ++ [e]) := by
  refine ⟨kv ++ [(x, y)], by simp [hl], ?_, fun i hi => ?_⟩
  · rw [edcs_snoc kv l hl]
    simpa [edc] using hown
  · simp only [List.length_append, List.length_cons, List.length_nil] at hi
    by_cases h : i < l.length
    · rw [List.getElem_append_left h]
      have h1 : (kv ++ [(x, y)])[i]'(by simp; omega) = kv[i]'(by omega) := List.getElem_append_left (by omega)
      rw [h1]
      exact heach i h
    · obtain rfl : i = l.length := by omega
      rw [List.getElem_append_right (Nat.le_refl _)]
      have h1 : (kv ++ [(x, y)])[l.length]'(by simp; omega) = (x, y) := by
        rw [List.getElem_append_right (by omega)]
        simp [hl]
      rw [h1]
      simpa using he

set_option maxRecDepth 1000000 in
set_option maxHeartbeats 3200000 in
theorem few_any (v : Value) (l : List Ed) (m : Nat) (hm : m ≤ 100) (w : World) (hv : Eds w v l) (R : Ending → World → Prop)
    (hR : ∀ v' w', Eds w' v' ((l.take m).map cutE) → Below w.heap.size w w' → R (.returned v') w') :
    Calls Try.prog 17 #[v, .int .i64 m] w R := by
  have HR := Lib.hid hR
  have HV := Lib.hid hv
  obtain ⟨va, vc, rfl, v1, v2, v3, _⟩ := hv
  have HB0 := Lib.hid (Below.refl w.heap.size w)
  clear hR
  go_enter Try.func17, Try.ntmps17
  go_wp2
  go_loopg [5, 6] l.length (fun gn s5 i wr => ∃ (k c : Nat) (ad : Option Addr), k ≤ l.length ∧ k ≤ m ∧ gn = l.length - k ∧ i = .int .i64 k ∧ s5 = .slice ad k c ∧ Hid (EdsR w wr w.heap.size (.slice ad k c) ((l.take k).map cutE)) ∧ Hid (Below w.heap.size w wr))
  case atStart => exact ⟨0, 0, none, Nat.zero_le _, Nat.zero_le _, by omega, rfl, rfl, EdsR.nil _ _ _, HB0⟩
  case round =>
    obtain ⟨k, c, ad, hk, hkm, rfl, rfl, rfl, HP, HB⟩ := hrel
    clear HB0
    by_cases hlt : k < l.length
    · have hkk : (k : Int) < (l.length : Int) := by omega
      by_cases hlm : k < m
      · have hkm2 : (k : Int) < (m : Int) := by omega
        obtain ⟨va', vc', ee, _, _, _, v4⟩ := HV.out
        simp only [Value.slice.injEq] at ee
        obtain ⟨rfl, -, rfl⟩ := ee
        obtain ⟨vb, vo, rfl, v5⟩ := v4 (by omega)
        obtain ⟨px, py, q5, hpc⟩ := v5 k hlt
        obtain ⟨p0, p1, p2, p3, p4⟩ := q5.below HB.out
        have htk : (l.take (k + 1)).map cutE = (l.take k).map cutE ++ [cutE l[k]] := by rw [List.take_succ_eq_append_getElem hlt, List.map_append]; rfl
        obtain ⟨e, he⟩ : ∃ e, l[k] = e := ⟨_, rfl⟩
        rw [he] at p0 p1 p2 hpc htk
        have HTK := Lib.hid htk
        have HPC := Lib.hid hpc
        obtain ⟨kv, hkv, hrow, heach⟩ := HP.out
        have hkl : ((l.take k).map cutE).length = k := by rw [List.length_map, List.length_take]; omega
        have HKL := Lib.hid hkl
        rw [hkl] at hrow
        have HROW := Lib.hid hrow
        have HEA := Lib.hid heach
        clear v4 v5 he hpc htk q5 hrow heach hkl
        obtain ⟨el, en, es, ea, ed⟩ := e
        simp only at p0 p1 p2
        obtain ⟨EA, hEA⟩ : ∃ x, ea.take 20 = x := ⟨_, rfl⟩
        obtain ⟨ED, hED⟩ : ∃ x, ed.take 20 = x := ⟨_, rfl⟩
        have HE1 := Lib.hid hEA
        have HE2 := Lib.hid hED
        clear hEA hED
        go_wp2_with (first
          | (go_at_call 8; go_must (refine cute8_any el en es _ _ ea ed w _ HPC.out.ha HPC.out.hd _ ?_); intro av dv w5 ha5 hd5 hb5; rw [HE1.out] at ha5; rw [HE2.out] at hd5; have HA5 := Lib.hid ha5; have HD5 := Lib.hid hd5; obtain ⟨xa, xc, rfl, _⟩ := ha5; obtain ⟨ya, yc, rfl, _⟩ := hd5; have HB5 := Lib.hid (below_then HB.out hb5 HB.out.size); have HROW5 := Lib.hid (owns_below HROW.out hb5); clear hb5)
          | (at_builtin; go_must (refine wpList_appAt (by rfl) (.tmp 18) (.tmp 24) 44 (by rfl) w.heap.size 27 (.agg #[.int .i64 0, .int .i64 0, .int .i64 0, .slice none 0 0, .slice none 0 0]) 5 72 Try.underlying44 infoEdit rfl (by decide) ad k c _ (by rfl) (HROW5.out.alloc (Obj.cells #[Value.int .i64 el, .int .i64 en, .int .i64 es, .slice xa EA.length xc, .slice ya ED.length yc] 27)) (some ⟨w5.heap.size, 0, none⟩) 1 1 [Value.int .i64 el, .int .i64 en, .int .i64 es, .slice xa EA.length xc, .slice ya ED.length yc] (by rfl) (rd_lit w5 #[Value.int .i64 el, .int .i64 en, .int .i64 es, .slice xa EA.length xc, .slice ya ED.length yc] 27 5 1 rfl) (plc_oneCell _ _ _ _ _ _ _ _ _) (fun h => by cases h) (by unfold maxLen; omega) (by omega) (by have := HB5.out.size; simp; omega) ?_); intro ad6 c6 w6 hown6 hg6 _; have HOWN6 := Lib.hid hown6; have HB6 := Lib.hid (below_app (HB5.out.alloc HB5.out.size (Obj.cells #[Value.int .i64 el, .int .i64 en, .int .i64 es, .slice xa EA.length xc, .slice ya ED.length yc] 27)) hg6 (by have := HB5.out.size; simp; omega) (HROW5.out.alloc (Obj.cells #[Value.int .i64 el, .int .i64 en, .int .i64 es, .slice xa EA.length xc, .slice ya ED.length yc] 27))); clear hown6 hg6))
        have hp6 : EdsR w w6 w.heap.size (.slice ad6 (k + 1) c6) ((l.take (k + 1)).map cutE) := by
          rw [HTK.out]
          have e1 : cutE ⟨el, en, es, ea, ed⟩ = ⟨el, en, es, EA, ED⟩ := by show Ed.mk _ _ _ (ea.take 20) (ed.take 20) = _; rw [HE1.out, HE2.out]
          rw [e1]
          refine EdsR.push (e := ⟨el, en, es, EA, ED⟩) hkv HEA.out ?_ ⟨HA5.out, HD5.out, fun n hn => HPC.out.wf n (List.mem_of_mem_take (by rw [HE2.out]; exact hn))⟩
          rw [HKL.out]
          exact HOWN6.out
        have HP6 := Lib.hid hp6
        clear hp6
        go_roundg (l.length - (k + 1))
        case measure => omega
        case rel => exact ⟨k + 1, c6, ad6, by omega, by omega, rfl, by go_num, rfl, HP6, HB6⟩
      · have hkm2 : ¬ (k : Int) < (m : Int) := by omega
        obtain rfl : k = m := by omega
        go_wp2
        exact HR.out _ _ (HP.out.eds HB.out) HB.out
    · have hkk : ¬ (k : Int) < (l.length : Int) := by omega
      have he : l.take k = l.take m := by rw [List.take_of_length_le (by omega), List.take_of_length_le (by omega)]
      have hp := HP.out
      rw [he] at hp
      have HPP := Lib.hid hp
      clear hp HP he
      go_wp2
      exact HR.out _ _ (HPP.out.eds HB.out) HB.out
end Go.Proofs.Ytpodgocmcnkfdaa
