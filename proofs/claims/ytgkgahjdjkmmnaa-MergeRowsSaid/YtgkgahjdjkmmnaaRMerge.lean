/- tidingsref09.Merge, walked: the same plain function as merge.Merge. -/
import Derived.Test.YtgkgahjdjkmmnaaRowsW
namespace Go.Proofs.Ytgkgahjdjkmmnaa
open Go.RowKit

/-- What has been put behind i whole rows and k entries of the next one. -/
def putsAt (ls : List (List Ent)) (i k : Nat) : List Ent := ((ls.take i).flatten ++ (ls.getD i []).take k).foldl putE []
theorem putsAt_next (ls : List (List Ent)) (i : Nat) (hi : i < ls.length) : putsAt ls (i + 1) 0 = putsAt ls i ls[i].length := by
  unfold putsAt
  rw [List.take_zero, List.append_nil, List.take_succ_eq_append_getElem hi, List.flatten_append]
  simp [List.getD, hi]
theorem putsAt_step (ls : List (List Ent)) (i k : Nat) (hi : i < ls.length) (hk : k < ls[i].length) : putsAt ls i (k + 1) = putE (putsAt ls i k) ls[i][k] := by
  unfold putsAt
  rw [show ls.getD i [] = ls[i] by simp [List.getD, hi], List.take_succ_eq_append_getElem hk, ← List.append_assoc, List.foldl_append]
  rfl
theorem putsAt_end (ls : List (List Ent)) : putsAt ls ls.length 0 = ls.flatten.foldl putE [] := by
  unfold putsAt
  rw [List.take_length, List.take_zero, List.append_nil]
theorem mem_puts_of' {l : List Ent} {x : Ent} (h : x ∈ l.foldl putE []) : x ∈ l := by
  rcases mem_puts_of _ _ x h with h | h
  · cases h
  · exact h

theorem puts_le (m acc : List Ent) : (m.foldl putE acc).length ≤ acc.length + m.length := by
  have := len_puts lessE m acc
  have h : (m.foldl putE acc).length = (m.foldl (putG lessE) acc).length := rfl
  omega
theorem putsAt_sub (ls : List (List Ent)) (i k : Nat) (hi : i < ls.length) : ((ls.take i).flatten ++ (ls.getD i []).take k).Sublist ls.flatten := by
  have e : ls = ls.take i ++ (ls[i] :: ls.drop (i + 1)) := by rw [← List.drop_eq_getElem_cons hi, List.take_append_drop]
  conv => rhs; rw [e]
  rw [List.flatten_append, List.flatten_cons, show ls.getD i [] = ls[i] by simp [List.getD, hi]]
  exact (List.Sublist.refl _).append ((List.take_sublist _ _).trans (List.sublist_append_left _ _))
theorem putsAt_len (ls : List (List Ent)) (i k : Nat) (hi : i < ls.length) : (putsAt ls i k).length ≤ totalL ls := by
  have h1 := puts_le ((ls.take i).flatten ++ (ls.getD i []).take k) []
  have h2 := (putsAt_sub ls i k hi).length_le
  rw [List.length_flatten] at h2
  unfold putsAt totalL
  simp only [List.length_nil] at h1
  omega
theorem putsAt_eb {ls : List (List Ent)} (h : ∀ r ∈ ls, ∀ e ∈ r, EB e) (i k : Nat) (hi : i < ls.length) : ∀ x ∈ putsAt ls i k, EB x := by
  intro x hx
  have h1 := (putsAt_sub ls i k hi).mem (mem_puts_of' hx)
  obtain ⟨r, hr, hxr⟩ := List.mem_flatten.1 h1
  exact h r hr x hxr
theorem Ess.eb {w : World} {v : Value} {ls : List (List Ent)} (h : Ess w v ls) : ∀ r ∈ ls, ∀ e ∈ r, EB e := by
  obtain ⟨ad, c, rfl, _, _, _, h4⟩ := h
  intro r hr
  obtain ⟨i, hi, rfl⟩ := List.getElem_of_mem hr
  obtain ⟨b, o, _, h5⟩ := h4 (by omega)
  obtain ⟨s, _, h6⟩ := h5 i hi
  exact h6.eb
/-- The document's table under way. -/
def PI (w wr : World) (TB : Nat) (acc : List Ent) : Prop := Below w.heap.size w wr ∧ TB + 1 ≤ wr.heap.size ∧ ∃ L Hv hs, Hid (wr.heap[TB]? = some (Obj.cells #[L, Hv] 74)) ∧ EsO wr w.heap.size L acc ∧ wr.ownsRow w.heap.size 3 1 Hv acc.length hs ∧ ∀ u ∈ hs, u.oneCell' = true

set_option maxRecDepth 100000 in
set_option maxHeartbeats 8000000 in
theorem rmerge_any (v : Value) (ls : List (List Ent)) (out : List Ent) (z : Int) (hout : mergeL ls = (out, z)) (w : World) (hv : Ess w v ls) (htot : totalL ls ≤ 100000) (R : Ending → World → Prop)
    (hR : ∀ L' w', EsO w' w.heap.size L' out → Below w.heap.size w w' → R (.returned (.tuple #[L', .int .i64 z])) w') :
    Calls Try.prog 12 #[v] w R := by
  have HR := Lib.hid hR
  have HO := Lib.hid hout
  have HV := Lib.hid hv
  clear hR hout
  obtain ⟨va, vc, rfl, _⟩ := hv
  go_enter Try.func12, Try.ntmps12
  go_wp2
  go_loopg [4] ls.length (fun gn i wr => ∃ k : Nat, k ≤ ls.length ∧ gn = ls.length - k ∧ i = .int .i64 k ∧ Hid (∀ r ∈ ls.take k, sortedL r = true) ∧ Below w.heap.size w wr)
  case atStart => exact ⟨0, by omega, by omega, rfl, Lib.hid (fun r h => by simp at h), Below.refl _ _⟩
  case round =>
    obtain ⟨k, hk, rfl, rfl, HS, hb⟩ := hrel
    by_cases hlt : k < ls.length
    · have hkk : (k : Int) < (ls.length : Int) := by omega
      obtain ⟨va', vc', ee, _, _, _, v4⟩ := HV.out.below hb
      simp only [Value.slice.injEq] at ee
      obtain ⟨rfl, -, rfl⟩ := ee
      obtain ⟨vb, vo, rfl, v5⟩ := v4 (by omega)
      obtain ⟨s, hs, hes⟩ := v5 k hlt
      obtain ⟨r, hr⟩ : ∃ r, ls[k] = r := ⟨_, rfl⟩
      rw [hr] at hes
      obtain ⟨sa, sc, rfl, _⟩ := id hes
      obtain ⟨t, ht⟩ : ∃ t, sortedL r = t := ⟨_, rfl⟩
      have HT := Lib.hid ht
      have HRK := Lib.hid hr
      clear v4 v5 ht hr
      cases t with
      | true =>
        go_wp2_with (go_at_call 35; go_must (refine rsorted_any _ r true HT.out _ hes _ ?_); intro w2 hb2)
        go_roundg (ls.length - (k + 1))
        case measure => omega
        case rel =>
          refine ⟨k + 1, by omega, rfl, by go_num, Lib.hid (fun x hx => ?_), below_then hb hb2 hb.size⟩
          rw [List.take_succ_eq_append_getElem hlt] at hx
          rcases List.mem_append.1 hx with hx | hx
          · exact HS.out x hx
          · obtain rfl := List.mem_singleton.1 hx
            rw [HRK.out]
            exact HT.out
      | false =>
        have hz : out = [] ∧ z = 90 := by
          have h := HO.out
          unfold mergeL at h
          rw [if_neg] at h
          · simp only [Prod.mk.injEq] at h
            exact ⟨h.1.symm, h.2.symm⟩
          · intro hc
            have := (List.all_eq_true.1 hc) r (by rw [← HRK.out]; exact List.getElem_mem hlt)
            rw [HT.out] at this
            cases this
        obtain ⟨rfl, rfl⟩ := hz
        go_wp2_with (go_at_call 35; go_must (refine rsorted_any _ r false HT.out _ hes _ ?_); intro w2 hb2)
        exact HR.out _ _ (EsO.nil _ _) (below_then hb hb2 hb.size)
    · have hkk : ¬ (k : Int) < (ls.length : Int) := by omega
      obtain rfl : k = ls.length := by omega
      have hall : ∀ r ∈ ls, sortedL r = true := by have := HS.out; rwa [List.take_length] at this
      have hz : out = ls.flatten.foldl putE [] ∧ z = 0 := by
        have h := HO.out
        unfold mergeL at h
        rw [if_pos (List.all_eq_true.2 hall), merge_put ls fun l hl => (sortedL_srt l).1 (hall l hl)] at h
        simp only [Prod.mk.injEq] at h
        exact ⟨h.1.symm, h.2.symm⟩
      have HZ := Lib.hid hz.1
      obtain rfl := hz.2
      clear hz hall
      obtain ⟨wo, rfl⟩ : ∃ x, x = wr := ⟨_, rfl⟩
      obtain ⟨w0, hw0⟩ : ∃ w0, wo.alloc (Obj.cells #[Value.slice none 0 0, Value.slice none 0 0] 74) = w0 := ⟨_, rfl⟩
      have hb0 : Below w.heap.size w w0 := by rw [← hw0]; exact hb.alloc hb.size _
      have hT0 : w0.heap[wo.heap.size]? = some (Obj.cells #[Value.slice none 0 0, Value.slice none 0 0] 74) := by rw [← hw0]; exact heap_alloc_new wo _
      have HT0 := Lib.hid hT0
      have hz0 : wo.heap.size + 1 ≤ w0.heap.size := by rw [← hw0]; simp
      have hwo := hb.size
      have HEB := Lib.hid HV.out.eb
      clear hT0
      go_wp2_with fail
      clear hw0
      go_loopg [6] ls.length (fun gn i wr => ∃ k : Nat, k ≤ ls.length ∧ gn = ls.length - k ∧ i = .int .i64 k ∧ Hid (PI w wr wo.heap.size (putsAt ls k 0)))
      case atStart => exact ⟨0, by omega, by omega, rfl, Lib.hid ⟨hb0, hz0, _, _, [], HT0, EsO.nil _ _, World.ownsRow_nil _ _ _ _, by simp⟩⟩
      case round =>
        obtain ⟨k, hk, rfl, rfl, HP⟩ := hrel
        by_cases hlt : k < ls.length
        · have hkk : (k : Int) < (ls.length : Int) := by omega
          obtain ⟨r, hr⟩ : ∃ r, ls[k] = r := ⟨_, rfl⟩
          have HRK := Lib.hid hr
          clear hr
          go_wp2_with fail
          go_loopg [7] r.length (fun gn j wr => ∃ q : Nat, q ≤ r.length ∧ gn = r.length - q ∧ j = .int .i64 q ∧ Hid (PI w wr wo.heap.size (putsAt ls k q)))
          case atStart => exact ⟨0, by omega, by omega, rfl, HP⟩
          case round =>
            obtain ⟨q, hq, rfl, rfl, HQ⟩ := hrel
            obtain ⟨hbq, hzq, L, Hv, hs, hT, hL, hH, h1⟩ := HQ.out
            obtain ⟨va', vc', ee, _, _, _, v4⟩ := HV.out.below hbq
            simp only [Value.slice.injEq] at ee
            obtain ⟨rfl, -, rfl⟩ := ee
            obtain ⟨vb, vo, rfl, v5⟩ := v4 (by omega)
            obtain ⟨s, hs5, hes⟩ := v5 k hlt
            rw [HRK.out] at hes
            obtain ⟨sa, sc, rfl, _, _, _, s4⟩ := id hes
            clear v4 v5
            by_cases hql : q < r.length
            · have hqq : (q : Int) < (r.length : Int) := by omega
              obtain ⟨sb, so, rfl, s5⟩ := s4 (by omega)
              obtain ⟨k0, v0, ⟨p0, p1, p2, p3⟩, hec⟩ := s5 q hql
              obtain ⟨y, hy⟩ : ∃ y, r[q] = y := ⟨_, rfl⟩
              rw [hy] at p2 p3 hec
              have hput : putE (putsAt ls k q) y = putsAt ls k (q + 1) := by
                have h2 := putsAt_step ls k q hlt (by rw [HRK.out]; exact hql)
                rw [h2]
                congr 1
                have : ∀ (m : List Ent) (hm : ls[k] = m) (hq2 : q < m.length) (hq3 : q < ls[k].length), m[q] = ls[k][q] := by intro m hm hq2 hq3; subst hm; rfl
                rw [← hy]
                exact this r HRK.out hql _
              have HPUT := Lib.hid hput
              have HL := Lib.hid hL
              have HH := Lib.hid hH
              have H1 := Lib.hid h1
              have HEC := Lib.hid hec
              clear hput hL hH h1 hy s4 s5 hec hes
              go_wp2_with (go_at_call 36; go_must (refine rput_any wo.heap.size w.heap.size L Hv (putsAt ls k q) hs _ _ y _ HPUT.out _ hT.out HL.out (putsAt_eb HEB.out k q hlt) (by have := putsAt_len ls k q hlt; omega) HH.out H1.out HEC.out hbq.size _ ?_); intro w4 L4 H4 hs4 z4 hg4 hT4 hL4 hH4 ho4; have HN : Hid (PI w w4 wo.heap.size (putsAt ls k (q + 1))) := Lib.hid ⟨below_grown hbq hg4 hbq.size (fun x hx => by cases hx; exact hwo), by have := hg4.size; omega, L4, H4, hs4, Lib.hid hT4, hL4, hH4, ho4⟩; clear hg4 hT4 hL4 hH4 ho4)
              go_roundg (r.length - (q + 1))
              case measure => omega
              case rel => exact ⟨q + 1, by omega, rfl, by go_num, HN⟩
            · have hqq : ¬ (q : Int) < (r.length : Int) := by omega
              obtain rfl : q = r.length := by omega
              have HN : Hid (PI w wr wo.heap.size (putsAt ls (k + 1) 0)) := Lib.hid (by rw [putsAt_next ls k hlt, show ls[k].length = r.length by rw [HRK.out]]; exact HQ.out)
              clear hT hL hH h1 s4 hes
              go_wp2
              go_roundg (ls.length - (k + 1))
              case measure => omega
              case rel => exact ⟨k + 1, by omega, rfl, by go_num, HN⟩
        · have hkk : ¬ (k : Int) < (ls.length : Int) := by omega
          obtain rfl : k = ls.length := by omega
          obtain ⟨hbq, hzq, L, Hv, hs, hT, hL, hH, h1⟩ := HP.out
          rw [putsAt_end, ← HZ.out] at hL
          have c0 := cell_of_row _ wo.heap.size 0 _ _ _ hT.out
          have HL := Lib.hid hL
          clear hL hH h1
          go_wp2
          exact HR.out _ _ HL.out hbq
end Go.Proofs.Ytgkgahjdjkmmnaa
