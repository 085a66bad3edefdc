
import Derived.Test.YtbfelcgjocpgaaaDoorProof
namespace Go.Proofs.YtbfelcgjocpgaaaDoor
open Go.RowKit

theorem below_succ' {w w' : World} {o : Obj} (h : Below (w.heap.size + 1) (w.alloc o) w') : Below (w.alloc o).heap.size (w.alloc o) w' := by simpa using h

def twiceL (us : List (List UInt8 × List UInt8)) (n : List UInt8) : Bool := us.any fun u => u.1 == n

set_option maxHeartbeats 800000 in
theorem closure_any (N M : List UInt8) (s : Value) (sa : Option Addr) (sn sc : Nat) (hs : s = .slice sa sn sc) (p : Nat) (w : World) (hp : w.cell? ⟨p, 0, none⟩ = some (.string (str N))) (R : Ending → World → Prop)
    (hR : ∀ w', Below w.heap.size w w' → R (.returned (.bool (M == N))) w') :
    Calls Tryd.prog 25 #[.agg #[.string (str M), s], .pointer (some ⟨p, 0, none⟩)] w R := by
  subst hs
  have hp2 := cell_later ((Below.refl w.heap.size w).alloc (Nat.le_refl _) (Obj.cells #[.string (str M), .slice sa sn sc] 58)) hp
  go_enter Tryd.func25, Tryd.ntmps25
  go_wp2
  exact (Below.refl _ _).alloc (Nat.le_refl _) _

set_option maxRecDepth 100000 in
set_option maxHeartbeats 1600000 in
theorem indexf_any (uv : Value) (us : List (List UInt8 × List UInt8)) (N : List UInt8) (p : Nat) (w : World) (hu : Us w uv us) (hp : w.cell? ⟨p, 0, none⟩ = some (.string (str N))) (R : Ending → World → Prop)
    (hR : ∀ (z : Int) w', Hid (twiceL us N = decide (0 ≤ z)) → -1 ≤ z → Below w.heap.size w w' → R (.returned (.int .i64 z)) w') :
    Calls Tryd.prog 38 #[uv, .func (.func 25) #[] #[.pointer (some ⟨p, 0, none⟩)]] w R := by
  have HU := Lib.hid hu
  have HP := Lib.hid hp
  obtain ⟨ad, c, rfl, h1, h2, h3, h4⟩ := hu
  clear h4 hp
  go_enter Tryd.func38, Tryd.ntmps38
  go_wp2
  go_loopw [5, 8] (fun _ i wr => ∃ k : Nat, k ≤ us.length ∧ i = .int .i64 k ∧ Below w.heap.size w wr ∧ Hid (twiceL (us.take k) N = false)) (fun _ i _ => us.length - (intOf i).toNat)
  case atStart => exact ⟨0, Nat.zero_le _, rfl, Below.refl _ _, rfl⟩
  case round =>
    obtain ⟨k, hk, rfl, hb, hlk⟩ := hrel
    by_cases hlt : k < us.length
    · obtain ⟨ad', c', e, _, _, _, h4⟩ := HU.out.below hb
      simp only [Value.slice.injEq] at e
      obtain ⟨rfl, -, rfl⟩ := e
      obtain ⟨b, o, rfl, h5⟩ := h4 (by omega)
      obtain ⟨q0, q1, s, q2, q3⟩ := h5 k hlt
      have hkk : (k : Int) < (us.length : Int) := by omega
      have hpw := cell_later hb HP.out
      obtain ⟨sa, sc, rfl, _, _, _, _⟩ := q3
      obtain ⟨M, hM⟩ : ∃ M, us[k].1 = M := ⟨_, rfl⟩
      rw [hM] at q0 q1
      clear h4 h5
      have htk : twiceL (us.take (k + 1)) N = (M == N) := by
        unfold twiceL at hlk ⊢
        rw [List.take_succ_eq_append_getElem hlt, List.any_append, hlk.out, Bool.false_or]
        simp [hM]
      have hall : (M == N) = true → twiceL us N = true := by
        intro h
        unfold twiceL
        rw [List.any_eq_true]
        exact ⟨us[k], List.getElem_mem hlt, by rw [hM]; exact h⟩
      obtain ⟨t, ht⟩ : ∃ t, (M == N) = t := ⟨_, rfl⟩
      have hcl : ∀ R', (∀ w', Below wr.heap.size wr w' → R' (.returned (.bool t)) w') → Calls Tryd.prog 25 #[.agg #[.string (str M), .slice sa us[k].2.length sc], .pointer (some ⟨p, 0, none⟩)] wr R' := fun R' h => closure_any N M _ sa _ sc rfl p wr hpw R' (by rw [ht]; exact h)
      rw [ht] at htk hall
      have HTK := Lib.hid htk
      have HALL := Lib.hid hall
      have hz := hb.size
      clear ht hM hlk htk hall hpw q0
      cases t with
      | true =>
        have HT : Hid (twiceL us N = decide ((0 : Int) ≤ (k : Int))) := by rw [HALL.out rfl]; simp [Hid]
        go_wp2_with (go_at_call 25; go_must (refine hcl _ ?_))
        intro w2 hb2
        have hb3 := below_then hb hb2 hz
        clear hb hb2 q1 q2 hcl
        go_wp2
        exact hR _ _ HT (by omega) hb3
      | false =>
        go_wp2_with (go_at_call 25; go_must (refine hcl _ ?_))
        intro w2 hb2
        have hb3 := below_then hb hb2 hz
        clear hb hb2 q1 q2 hcl
        go_wp2
        go_roundw
        case rel => exact ⟨k + 1, by omega, by go_num, hb3, HTK⟩
        case measure => simp [intOf]; omega
    · have hkk : ¬ ((k : Int) < (us.length : Int)) := by omega
      have HT : Hid (twiceL us N = decide ((0 : Int) ≤ (-1 : Int))) := by
        have := hlk.out
        rw [List.take_of_length_le (by omega)] at this
        rw [this]
        exact Lib.hid rfl
      clear hlk
      go_wp2
      exact hR _ _ HT (by omega) hb

set_option maxHeartbeats 800000 in
theorem contains_any (uv : Value) (us : List (List UInt8 × List UInt8)) (N : List UInt8) (t : Bool) (ht : twiceL us N = t) (p : Nat) (w : World) (hu : Us w uv us) (hp : w.cell? ⟨p, 0, none⟩ = some (.string (str N))) (R : Ending → World → Prop)
    (hR : ∀ w', Below w.heap.size w w' → R (.returned (.bool t)) w') :
    Calls Tryd.prog 24 #[uv, .func (.func 25) #[] #[.pointer (some ⟨p, 0, none⟩)]] w R := by
  have hu' := hu
  obtain ⟨ad, c, rfl, h1, h2, h3, h4⟩ := hu'
  clear h4
  have HT := Lib.hid ht
  clear ht
  go_enter Tryd.func24, Tryd.ntmps24
  go_wp2_with (go_at_call 38; go_must (refine indexf_any _ us N p _ hu hp _ ?_))
  intro z w1 hz hz1 hb1
  have hd : decide (0 ≤ z) = t := by rw [← hz.out, HT.out]
  clear hu hp
  go_wp2
  exact hb1

theorem Us.cut {w : World} {ad : Option Addr} {n c k : Nat} {us : List (List UInt8 × List UInt8)} (h : Us w (.slice ad n c) us) (hk : k ≤ us.length) : Us w (.slice ad k c) (us.take k) := by
  obtain ⟨ad', c', e, h1, h2, h3, h4⟩ := h
  simp only [Value.slice.injEq] at e
  obtain ⟨rfl, rfl, rfl⟩ := e
  have hl : (us.take k).length = k := by rw [List.length_take]; omega
  refine ⟨ad, c, by rw [hl], by omega, h2, h3, fun h0 => ?_⟩
  obtain ⟨b, o, rfl, h5⟩ := h4 (by omega)
  refine ⟨b, o, rfl, fun i hi => ?_⟩
  have := h5 i (by omega)
  rw [List.getElem_take]
  exact this

/-- May a user be, behind those? -/
def okU (pre : List (List UInt8 × List UInt8)) (u : List UInt8 × List UInt8) : Bool :=
  !(twiceL pre u.1) && isTextL u.1 && decide (1 ≤ u.1.length) && decide (u.1.length ≤ 23) && decide (1 ≤ u.2.length) && decide (u.2.length ≤ 32)
def ckF : List (List UInt8 × List UInt8) → List (List UInt8 × List UInt8) → Bool
  | _, [] => true
  | pre, u :: r => okU pre u && ckF (pre ++ [u]) r
/-- May a config be? -/
def checkL (og : Int) (us : List (List UInt8 × List UInt8)) : Bool := decide (1 ≤ og ∧ og ≤ 255 ∧ us.length ≤ 8) && ckF [] us
theorem ckF_step (us : List (List UInt8 × List UInt8)) (k : Nat) (h : k < us.length) : ckF (us.take k) (us.drop k) = (okU (us.take k) us[k] && ckF (us.take (k + 1)) (us.drop (k + 1))) := by
  rw [List.drop_eq_getElem_cons h, ckF, List.take_succ_eq_append_getElem h]

set_option maxRecDepth 100000 in
set_option maxHeartbeats 4000000 in
theorem check_any (og : Int) (bo : Bool) (uv : Value) (us : List (List UInt8 × List UInt8)) (t : Bool) (ht : checkL og us = t) (w : World) (hu : Us w uv us) (hT : Tabs w) (R : Ending → World → Prop)
    (hR : ∀ w', Below w.heap.size w w' → R (.returned (.bool t)) w') :
    Calls Tryd.prog 10 #[.agg #[.int .i64 og, .bool bo, uv]] w R := by
  have HU := Lib.hid hu
  obtain ⟨ad, c, rfl, h1, h2, h3, h4⟩ := hu
  clear h4
  by_cases hg : 1 ≤ og ∧ og ≤ 255 ∧ us.length ≤ 8
  · obtain ⟨g1, g2, g3⟩ := hg
    have hck : ckF [] us = t := by rw [← ht]; unfold checkL; simp [g1, g2, g3]
    have HCK := Lib.hid hck
    clear ht hck
    go_enter Tryd.func10, Tryd.ntmps10
    go_wp2
    have hb1 := (Below.refl w.heap.size w).alloc (Nat.le_refl _) (Obj.cells #[Value.int IntKind.i64 og, Value.bool bo, Value.slice ad us.length c] 24)
    have q9 : (w.alloc (Obj.cells #[Value.int IntKind.i64 og, Value.bool bo, Value.slice ad us.length c] 24)).cell? ⟨w.heap.size, 2, none⟩ = some (Value.slice ad us.length c) := cell_of_row _ w.heap.size 2 _ _ _ (heap_alloc_new w _)
    generalize w.alloc (Obj.cells #[Value.int IntKind.i64 og, Value.bool bo, Value.slice ad us.length c] 24) = w1 at hb1 q9 ⊢
    have HQ9 := Lib.hid q9
    clear q9
    go_loopw [3, 4, 5, 23] (fun _ _ _ i wr => ∃ k : Nat, k ≤ us.length ∧ i = .int .i64 k ∧ Below w1.heap.size w1 wr ∧ Hid (ckF (us.take k) (us.drop k) = t)) (fun _ _ _ i _ => us.length - (intOf i).toNat)
    case atStart => exact ⟨0, Nat.zero_le _, rfl, Below.refl _ _, HCK⟩
    case round =>
      obtain ⟨k, hk, rfl, hb, hlk⟩ := hrel
      have hz1 := hb1.size
      have hz := hb.size
      have hbb := below_then hb1 hb hz1
      by_cases hlt : k < us.length
      · have hst := ckF_step us k hlt
        rw [hlk.out] at hst
        have hUr := HU.out.below hbb
        obtain ⟨ad', c', e, _, _, _, h4⟩ := hUr
        simp only [Value.slice.injEq] at e
        obtain ⟨rfl, -, rfl⟩ := e
        obtain ⟨b, o, rfl, h5⟩ := h4 (by omega)
        obtain ⟨q0, q1, s, q2, q3⟩ := h5 k hlt
        have hkk : (k : Int) < (us.length : Int) := by omega
        have q9 := cell_later hb HQ9.out
        obtain ⟨sa, sc, rfl, _, _, _, _⟩ := q3
        obtain ⟨M, hM⟩ : ∃ M, us[k].1 = M := ⟨_, rfl⟩
        obtain ⟨sn, hsn⟩ : ∃ sn, us[k].2.length = sn := ⟨_, rfl⟩
        have hok : okU (us.take k) us[k] = (!(twiceL (us.take k) M) && isTextL M && decide (1 ≤ M.length) && decide (M.length ≤ 23) && decide (1 ≤ sn) && decide (sn ≤ 32)) := by unfold okU; rw [hM, hsn]
        rw [hok] at hst
        rw [hM] at q0 q1
        rw [hsn] at q2
        obtain ⟨tw, htw⟩ : ∃ x, twiceL (us.take k) M = x := ⟨_, rfl⟩
        obtain ⟨it, hit⟩ : ∃ x, isTextL M = x := ⟨_, rfl⟩
        rw [htw, hit] at hst
        have HST := Lib.hid hst
        have HTW := Lib.hid htw
        have HIT := Lib.hid hit
        have hcap : us.length ≤ c := h1
        have hbc := hb.alloc hz (Obj.cells #[Value.string (str M), Value.slice sa sn sc] 58)
        have p0 : (wr.alloc (Obj.cells #[Value.string (str M), Value.slice sa sn sc] 58)).cell? ⟨wr.heap.size, 0, none⟩ = some (Value.string (str M)) := cell_of_row _ wr.heap.size 0 _ _ _ (heap_alloc_new wr _)
        have p1 : (wr.alloc (Obj.cells #[Value.string (str M), Value.slice sa sn sc] 58)).cell? ⟨wr.heap.size, 1, none⟩ = some (Value.slice sa sn sc) := cell_of_row _ wr.heap.size 1 _ _ _ (heap_alloc_new wr _)
        have hUc := (HU.out.below (below_then hb1 hbc hz1)).cut (k := k) (by omega)
        have q9b := cell_later ((Below.refl wr.heap.size wr).alloc (Nat.le_refl _) (Obj.cells #[Value.string (str M), Value.slice sa sn sc] 58)) q9
        have HP0 := Lib.hid p0
        have HP1 := Lib.hid p1
        clear hst hok hM hsn htw hit h4 h5 p0 p1 hlk
        go_wp2_with (go_at_call 24; go_must (refine contains_any _ (us.take k) M tw HTW.out wr.heap.size _ hUc HP0.out _ ?_))
        intro w2 hb2s
        have hb2 := below_succ' hb2s
        clear hb2s
        have p0 := cell_later hb2 HP0.out
        have p1 := cell_later hb2 HP1.out
        have hbd := below_then hbc hb2 (by simp; omega)
        have hzd := hbd.size
        have hbe := below_then hb1 hbd hz1
        have hTd := hT.below hbe
        clear hUc hb2 hbc q1 q2 q9 q9b hb HP0 HP1
        cases tw with
        | true =>
          have hf : t = false := by rw [HST.out]; rfl
          subst hf
          go_wp2
          exact hbe
        | false =>
          have HMc : ∀ w', Below w2.heap.size w2 w' → w'.cell? ⟨wr.heap.size, 0, none⟩ = some (Value.string (str M)) ∧ w'.cell? ⟨wr.heap.size, 1, none⟩ = some (Value.slice sa sn sc) := fun w' hb' => ⟨cell_later hb' p0, cell_later hb' p1⟩
          have HMH := Lib.hid HMc
          clear HMc
          go_wp2_with (go_at_call 26; go_must (refine istext_any M _ q0 hTd _ ?_))
          rw [HIT.out]
          intro w3 hb3
          obtain ⟨r0, r1⟩ := HMH.out w3 hb3
          have hbf := below_then hbd hb3 hzd
          have hzf := hbf.size
          have hbg := below_then hb1 hbf hz1
          have hms := str_size M
          clear hbd hb3 hbe hTd p0 p1 HMH
          cases it with
          | false =>
            have hf : t = false := by rw [HST.out]; rfl
            subst hf
            go_wp2
            exact hbg
          | true =>
            by_cases k1 : 1 ≤ M.length ∧ M.length ≤ 23 ∧ 1 ≤ sn ∧ sn ≤ 32
            · obtain ⟨l1, l2, l3, l4⟩ := k1
              have hn : Hid (ckF (us.take (k + 1)) (us.drop (k + 1)) = t) := by
                show _ = t
                rw [HST.out]
                simp [l1, l2, l3, l4]
              go_wp2
              go_roundw
              case rel => exact ⟨k + 1, by omega, by go_num, hbf, hn⟩
              case measure => simp [intOf]; omega
            · have hf : t = false := by
                rw [HST.out]
                simp only [Bool.not_false, Bool.true_and, Bool.and_eq_false_imp, Bool.and_eq_true, decide_eq_true_eq]
                intro hh
                exact absurd ⟨hh.1.1.1, hh.1.1.2, hh.1.2, hh.2⟩ k1
              subst hf
              clear HST
              have k2 : M.length < 1 ∨ (1 ≤ M.length ∧ 23 < M.length) ∨ (1 ≤ M.length ∧ M.length ≤ 23 ∧ sn < 1) ∨ (1 ≤ M.length ∧ M.length ≤ 23 ∧ 1 ≤ sn ∧ 32 < sn) := by omega
              clear k1
              rcases k2 with k2 | ⟨k2, k3⟩ | ⟨k2, k3, k4⟩ | ⟨k2, k3, k4, k5⟩
              all_goals
                go_wp2
                all_goals exact hbg
      · have hkk : ¬ ((k : Int) < (us.length : Int)) := by omega
        have ht : true = t := by rw [← hlk.out, List.drop_of_length_le (by omega)]; rfl
        subst ht
        clear hlk
        go_wp2
        all_goals exact hbb
  · have hf : t = false := by rw [← ht]; unfold checkL; rw [decide_eq_false hg]; rfl
    subst hf
    have hcase : og < 1 ∨ (1 ≤ og ∧ 255 < og) ∨ (1 ≤ og ∧ og ≤ 255 ∧ 8 < us.length) := by omega
    clear ht hg
    rcases hcase with h | ⟨h, h'⟩ | ⟨h, h', h''⟩
    all_goals
      go_enter Tryd.func10, Tryd.ntmps10
      go_wp2
      all_goals exact (Below.refl _ _).alloc (Nat.le_refl _) _
end Go.Proofs.YtbfelcgjocpgaaaDoor
