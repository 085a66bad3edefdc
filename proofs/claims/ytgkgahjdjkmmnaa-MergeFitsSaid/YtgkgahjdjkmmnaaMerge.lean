/- merge.Merge. -/
import Derived.Test.YtgkgahjdjkmmnaaRow
import Derived.Deep.LoopGhost
namespace Go.Proofs.Ytgkgahjdjkmmnaa
open Go.RowKit

theorem ess_of_own {w : World} {B n c : Nat} {ad : Option Addr} {vs : List Value} {rs : List (List Ent)} (ho : w.ownsRow B 24 1 (.slice ad n c) n vs) (hn : n = rs.length) (he : ∀ (i : Nat) (h : i < rs.length), ∃ v, vs[i]? = some v ∧ Es w v rs[i]) : Ess w (.slice ad n c) rs := by
  subst hn
  have hc := owns_cap ho
  unfold maxLen at hc
  refine ⟨ad, c, rfl, hc.1, by omega, owns_nil ho, fun h0 => ?_⟩
  obtain ⟨g, rfl⟩ := owns_head ho h0
  refine ⟨g, 0, rfl, fun i hi => ?_⟩
  obtain ⟨v, h1, h2⟩ := he i hi
  refine ⟨v, ?_, h2⟩
  rw [Nat.zero_add, ho.cellAt i (by omega)]
  exact h1

theorem es_from {w : World} {La : Option Addr} {n c j : Nat} {l : List Ent} (h : Es w (.slice La n c) l) (hj : j ≤ l.length) :
    ∃ Lx, (∀ w', (Instr.slice 24 (.slice La n c) (some (.int .i64 (j : Int))) none none).run Try.prog w' = .ok (.slice Lx (n - j) (c - j)) w') ∧ Es w (.slice Lx (n - j) (c - j)) (l.drop j) := by
  obtain ⟨ad, c', e, h1, h2, h3, h4⟩ := h
  simp only [Value.slice.injEq] at e
  obtain ⟨rfl, rfl, rfl⟩ := e
  have he : Try.prog.elem 24 = 27 := by simp [Program.elem, Try.underlying24]
  obtain ⟨i, hi, hz, hi1, hi2⟩ := info_parts Try.info27
  have hlen : (l.drop j).length = l.length - j := List.length_drop
  refine ⟨if c = j then La else La.map (·.add (j * 4)), fun w => ?_, _, _, by rw [hlen], by omega, by omega, fun hx => ?_, fun h0 => ?_⟩
  · rw [run_slice_l (P := Try.prog) w _ La l.length c (by rw [he]; exact Try.underlying24) .i64 j (by omega) (by omega), he]
    simp [sizeOf, typeInfo, hi, hi1, sliced]
  · by_cases hcj : c = j
    · omega
    · rw [if_neg hcj] at hx
      have := h3 (by simpa using hx)
      omega
  · rw [hlen] at h0
    obtain ⟨b, o, rfl, h5⟩ := h4 (by omega)
    rw [if_neg (by omega)]
    refine ⟨b, o + j * 4, by rw [Option.map_some, Addr.add_lit], fun q hq => ?_⟩
    rw [hlen] at hq
    obtain ⟨k, v, h6, h7⟩ := h5 (j + q) (by omega)
    have e1 : o + j * 4 + q * 4 = o + (j + q) * 4 := by omega
    rw [e1, List.getElem_drop]
    exact ⟨k, v, h6, h7⟩

/-- Rows of unlike types lie in unlike blocks. -/
theorem own_size_ne {w : World} {b1 b2 e1 e2 s1 s2 n1 n2 : Nat} {v1 v2 : Value} {x1 x2 : List Value} (h1 : w.ownsRow b1 e1 s1 v1 n1 x1) (h2 : w.ownsRow b2 e2 s2 v2 n2 x2) (he : e1 ≠ e2) : ∀ k, v1.ownBlock = some k → v2.ownBlock ≠ some k := by
  intro k hk hc
  rcases h1.2 with ⟨rfl, _⟩ | ⟨g, cap, cur, rfl, _, hg, _⟩
  · simp [Value.ownBlock] at hk
  · simp only [Value.ownBlock, Option.some.injEq] at hk
    subst hk
    exact own_block_ne hg h2 he hc

theorem EsO.setOwn {w : World} {B B' n c g i : Nat} {v u : Value} {l : List Ent} {xs : List Value} (h : EsO w B v l) (ho : w.ownsRow B' 24 1 (.slice (some ⟨g, 0, none⟩) n c) n xs) : EsO (w.setCell ⟨g, i, none⟩ u) B v l := by
  rcases ho.2 with ⟨hv, _⟩ | ⟨g', cap, cur, hv, _, hg, _⟩
  · simp at hv
  · simp only [Value.slice.injEq, Option.some.injEq, Addr.mk.injEq, and_true, true_and] at hv
    obtain ⟨rfl, rfl⟩ := hv
    exact h.other (grownBy_setCell w ⟨g, i, none⟩ u) hg (by decide) (by decide)

def mergeL (ls : List (List Ent)) : List Ent × Int := if ls.all sortedL then (mergeF (totalL ls) ls [], 0) else ([], 90)

set_option maxRecDepth 100000 in
set_option maxHeartbeats 8000000 in
theorem merge_any (u : Value) (ls : List (List Ent)) (out : List Ent) (z : Int) (hout : mergeL ls = (out, z)) (w : World) (hu : Ess w u ls) (hn : ls.length ≤ 1000) (htot : totalL ls ≤ 100000) (R : Ending → World → Prop)
    (hR : ∀ L' w', EsO w' w.heap.size L' out → Below w.heap.size w w' → R (.returned (.tuple #[L', .int .i64 z])) w') :
    Calls Try.prog 11 #[u] w R := by
  have HR := Lib.hid hR
  have HO := Lib.hid hout
  have HU := Lib.hid hu
  have hu' := hu
  obtain ⟨ua, uc, rfl, _⟩ := hu'
  clear hR hout
  go_enter Try.func11, Try.ntmps11
  go_wp2_with (go_at_call 30; go_must (refine cloner_any _ ls _ hu (by omega) _ ?_))
  intro ad c w1 vs hown hes hb1
  have HES := Lib.hid hes
  have HOWN := Lib.hid hown
  clear hu hes hown
  go_wp2
  go_loopw [15] (fun i wr => ∃ k : Nat, k ≤ ls.length ∧ i = .int .i64 k ∧ Below w1.heap.size w1 wr ∧ Hid (∀ l ∈ ls.take k, sortedL l = true)) (fun i _ => ls.length - (intOf i).toNat)
  case atStart => exact ⟨0, Nat.zero_le _, rfl, Below.refl _ _, by show ∀ l ∈ ls.take 0, _; simp⟩
  case round =>
    obtain ⟨k, hk, rfl, hb, hall⟩ := hrel
    have hz := hb.size
    by_cases hlt : k < ls.length
    · have hkk : (k : Int) < (ls.length : Int) := by omega
      obtain ⟨v, hv1, hv2⟩ := HES.out k hlt
      obtain ⟨g, rfl⟩ := owns_head HOWN.out (by omega)
      have c0 : wr.cell? ⟨g, k, none⟩ = some v := by rw [(owns_below HOWN.out hb).cellAt k (by omega)]; exact hv1
      have hvr : Es wr v ls[k] := hv2.below (below_then hb1 hb hb1.size)
      obtain ⟨t, ht⟩ : ∃ t, sortedL ls[k] = t := ⟨_, rfl⟩
      have HT := Lib.hid ht
      obtain ⟨va, vc, rfl, _⟩ := hvr
      have hvr : Es wr (.slice va (ls[k]).length vc) ls[k] := hv2.below (below_then hb1 hb hb1.size)
      clear hv1 hv2 ht
      go_wp2_with (go_at_call 31; go_must (refine msorted_any _ _ t HT.out _ hvr _ ?_))
      intro w2 hb2
      have hb3 := below_then hb hb2 hz
      clear hvr c0
      cases t with
      | true =>
        have hnx : Hid (∀ l ∈ ls.take (k + 1), sortedL l = true) := by
          show ∀ l ∈ ls.take (k + 1), sortedL l = true
          intro l hl
          rw [List.take_succ_eq_append_getElem hlt] at hl
          rcases List.mem_append.1 hl with hl | hl
          · exact hall.out l hl
          · obtain rfl := List.mem_singleton.1 hl
            exact HT.out
        clear HT hall
        go_wp2
        go_roundw
        case rel => exact ⟨k + 1, by omega, by go_num, hb3, hnx⟩
        case measure => simp [intOf]; omega
      | false =>
        have hno : ls.all sortedL = false := by
          rw [List.all_eq_false]
          exact ⟨_, List.getElem_mem hlt, by rw [HT.out]; simp⟩
        have ho : ([], 90) = (out, z) := by rw [← HO.out, mergeL, hno]; rfl
        simp only [Prod.mk.injEq] at ho
        obtain ⟨rfl, rfl⟩ := ho
        clear HT hall hno
        go_wp2
        exact HR.out _ _ (EsO.nil _ _) (below_then hb1 hb3 hb1.size)
    · have hkk : ¬ (k : Int) < (ls.length : Int) := by omega
      have hsrt : ∀ l ∈ ls, sortedL l = true := by
        have := hall.out
        rw [List.take_of_length_le (by omega)] at this
        exact this
      have ho : (mergeF (totalL ls) ls [], 0) = (out, z) := by
        rw [← HO.out, mergeL, if_pos (List.all_eq_true.2 hsrt)]
      simp only [Prod.mk.injEq] at ho
      obtain ⟨ho, rfl⟩ := ho
      have HF := Lib.hid ho
      obtain ⟨z0, hz0⟩ : ∃ z0, optI (firstK ls ls.length) = z0 := ⟨_, rfl⟩
      have HZ0 := Lib.hid hz0
      have hess : Ess wr (.slice ad ls.length c) ls := ess_of_own (owns_below HOWN.out hb) rfl (fun i hi => by
        obtain ⟨v, q1, q2⟩ := HES.out i hi
        exact ⟨v, q1, q2.below (below_then hb1 hb hb1.size)⟩)
      clear hall hsrt ho hz0
      go_wp2_with (go_at_call 32; go_must (refine first_any _ ls z0 HZ0.out _ hess _ ?_))
      intro w2 hb2
      have hb3 := below_then hb hb2 hz
      have hbw := below_then hb1 hb3 hb1.size
      clear hess
      have HBW := Lib.hid hbw
      have HB3 := Lib.hid (below_then hb1 hb3 hb1.size)
      have HW2 := Lib.hid hb3
      clear hbw hb hb2 hb3 hkk hlt hk hz
      go_wp2
      go_loopg [7, 8] (totalL ls) (fun n outv i wr => ∃ rs o vs', rs.length = ls.length ∧ totalL rs = n ∧ Hid (mergeF n rs o = out) ∧ Hid (wr.ownsRow w.heap.size 24 1 (.slice ad ls.length c) ls.length vs') ∧ Hid (∀ (i : Nat) (h : i < rs.length), ∃ v, vs'[i]? = some v ∧ Es w v rs[i]) ∧ Hid (EsO wr w.heap.size outv o) ∧ Hid (i = .int .i64 (optI (firstK rs rs.length))) ∧ Below w.heap.size w wr ∧ Hid (∀ e ∈ o, EB e) ∧ o.length + n ≤ totalL ls)
      case atStart => exact ⟨ls, [], vs, rfl, rfl, HF, owns_below HOWN.out HW2.out, HES, EsO.nil _ _, by rw [HZ0.out]; exact Lib.hid rfl, HB3.out, (by show ∀ e ∈ ([] : List Ent), EB e; simp), by simp⟩
      case round =>
        obtain ⟨rs, o, vs', hrl, hrt, HMF, HROWS, HEACH, HOUT, HI, hbw, HEB, hol⟩ := hrel
        obtain ⟨fk, hfk⟩ : ∃ fk, firstK rs rs.length = fk := ⟨_, rfl⟩
        have hi := HI.out
        rw [hfk] at hi
        subst hi
        clear HI
        cases fk with
        | none =>
          have hfin : o = out := by
            have hm := HMF.out
            rw [← hm]
            cases gk with
            | zero => rfl
            | succ n => rw [mergeF, hfk]
          have HFIN := Lib.hid hfin
          have hoy : optI (none : Option Nat) = -1 := rfl
          rw [hoy]
          obtain ⟨oa, oc, rfl⟩ := EsO.shape HOUT.out
          clear hoy hfin hfk
          go_wp2
          exact HR.out _ _ (by rw [← HFIN.out]; exact HOUT.out) hbw
        | some b =>
          have hbl := firstK_lt rs rs.length b hfk
          have hblt : b < rs.length := hbl.1
          obtain ⟨row, hrow0⟩ : ∃ row, rs[b] = row := ⟨_, rfl⟩
          have hgd : rs.getD b [] = row := by rw [List.getD_eq_getElem?_getD, List.getElem?_eq_getElem hblt, hrow0]; rfl
          rw [hgd] at hbl
          cases row with
          | nil => exact absurd rfl hbl.2
          | cons e t =>
            have htot' := totalL_set rs b e t hblt hrow0
            have hstep : mergeF gk rs o = mergeF (totalL (rs.set b t)) (rs.set b t) (if behindL o e then o ++ [e] else o) := by
              rw [← hrt, ← htot']
              conv => lhs; unfold mergeF
              rw [hfk]
              simp only [hgd]
            have HST := Lib.hid hstep
            obtain ⟨v, q1, q2⟩ := HEACH.out b hblt
            rw [hrow0] at q2
            have q2' := q2
            obtain ⟨va, vc, rfl, x1, x2, x3, x4⟩ := q2'
            obtain ⟨xb, xo, rfl, x5⟩ := x4 (by simp)
            obtain ⟨k0, v0, p, hec⟩ := x5 0 (by simp)
            simp only [List.getElem_cons_zero, Nat.zero_mul, Nat.add_zero] at p hec
            have p' := p.below hbw
            have hec' := hec.below hbw
            obtain ⟨p0, p1, p2, p3⟩ := p'
            obtain ⟨Lx, hsl, htail⟩ := es_from (j := 1) q2 (by simp)
            rw [List.drop_one, List.tail_cons] at htail
            obtain ⟨g, hg⟩ := owns_head HROWS.out (by omega)
            obtain rfl : ad = some ⟨g, 0, none⟩ := hg
            have r0 : wr.cell? ⟨g, b, none⟩ = some (Value.slice (some ⟨xb, xo, none⟩) (e :: t).length vc) := by rw [HROWS.out.cellAt b (by omega)]; exact q1
            have r1 := HROWS.out.frozenAt b
            obtain ⟨K, V, sq, dd⟩ := e
            simp only at p2 p3
            obtain ⟨k1, k2, k3, rfl⟩ : ∃ a n c, k0 = .slice a n c := by obtain ⟨a, c, h, _⟩ := hec.hk; exact ⟨_, _, _, h⟩
            obtain ⟨v1, v2, v3, rfl⟩ := EC.shape hec
            have hlen : (0 : Int) < ((⟨K, V, sq, dd⟩ :: t : List Ent).length : Int) := by simp
            have hlen1 : (1 : Int) ≤ ((⟨K, V, sq, dd⟩ :: t : List Ent).length : Int) := by simp; omega
            obtain ⟨nn, hnn⟩ : ∃ nn, (⟨K, V, sq, dd⟩ :: t : List Ent).length = nn := ⟨_, rfl⟩
            rw [hnn] at r0 hsl htail hlen hlen1 x1
            have hb1 : (0 : Int) ≤ (b : Int) := by omega
            have hb2 : (b : Int) < (ls.length : Int) := by omega
            have hoy : optI (some b) = (b : Int) := rfl
            rw [hoy]
            have hyE : Below wr.heap.size wr (wr.alloc (Obj.cells #[Value.slice k1 k2 k3, Value.slice v1 v2 v3, Value.int .i64 sq, Value.bool dd] 27)) := (Below.refl _ _).alloc (Nat.le_refl _) _
            have r0' := cell_later hyE r0
            have r1' := (owns_below HROWS.out hyE).frozenAt b
            have HEC0 := Lib.hid hec
            have HEC := Lib.hid hec'
            have HTL := Lib.hid htail
            have HQ1 := Lib.hid hrow0
            clear hoy hstep hrow0 hgd hbl hfk x4 x5 q1 q2 p hec hec' htail
            replace hsl : ∀ w', (Instr.slice 24 (.slice (some ⟨xb, xo, none⟩) nn vc) (some (.int .i64 1)) none none).run Try.prog w' = .ok (.slice Lx (nn - 1) (vc - 1)) w' := hsl
            obtain ⟨oa, oc, rfl⟩ := EsO.shape HOUT.out
            obtain ⟨m, hm⟩ : ∃ m, o.length = m := ⟨_, rfl⟩
            have HOUT1 : Hid (EsO wr w.heap.size (.slice oa m oc) o) := by rw [← hm]; exact HOUT
            rw [hm]
            rw [hm] at hol
            have HM := Lib.hid hm
            have hg0 : w.heap.size ≤ g := (HROWS.out.lt g rfl).1
            have hglt : g < wr.heap.size := (HROWS.out.lt g rfl).2
            have HEACH2 : Hid (∀ (i : Nat) (h : i < (rs.set b t).length), ∃ v, (vs'.set b (Value.slice Lx (nn - 1) (vc - 1)))[i]? = some v ∧ Es w v (rs.set b t)[i]) := by
              intro i hi
              have hi2 : i < rs.length := by simpa using hi
              have hvl : vs'.length = ls.length := by have := HROWS.out.1; simpa using this
              by_cases hib : i = b
              · subst hib
                exact ⟨_, List.getElem?_set_self (by omega), by rw [List.getElem_set]; simp; exact HTL.out⟩
              · obtain ⟨v, q1, q2⟩ := HEACH.out i hi2
                exact ⟨v, by rw [List.getElem?_set, if_neg (fun h => hib h.symm)]; exact q1, by rw [List.getElem_set, if_neg (fun h => hib h.symm)]; exact q2⟩
            obtain ⟨w2, hw2⟩ : ∃ w2, (wr.alloc (Obj.cells #[Value.slice k1 k2 k3, Value.slice v1 v2 v3, Value.int .i64 sq, Value.bool dd] 27)).setCell ⟨g, b, none⟩ (Value.slice Lx (nn - 1) (vc - 1)) = w2 := ⟨_, rfl⟩
            have HROWS2 : Hid (w2.ownsRow w.heap.size 24 1 (.slice (some ⟨g, 0, none⟩) ls.length c) ls.length (vs'.set b (Value.slice Lx (nn - 1) (vc - 1)))) := by rw [← hw2]; exact ((owns_below HROWS.out hyE).stored b _).1
            have HOUT2 : Hid (EsO w2 w.heap.size (.slice oa m oc) o) := by rw [← hw2]; exact (HOUT1.out.below hyE).setOwn (owns_below HROWS.out hyE)
            have hbw2 : Below w.heap.size w w2 := by rw [← hw2]; exact ((below_then hbw hyE hbw.size).setCell hg0 _)
            have hz2 : wr.heap.size + 1 = w2.heap.size := by rw [← hw2]; simp
            have hec2 : EC w2 (.slice k1 k2 k3) (.slice v1 v2 v3) ⟨K, V, sq, dd⟩ := HEC0.out.below hbw2
            have en : w2.heap[wr.heap.size]? = some (Obj.cells #[Value.slice k1 k2 k3, Value.slice v1 v2 v3, Value.int .i64 sq, Value.bool dd] 27) := by
              rw [← hw2, heap_setCell_other _ _ _ _ (by simp; omega)]
              exact heap_alloc_new wr _
            have EN := Lib.hid en
            have HZ2 := Lib.hid hz2
            clear hm en hz2 HROWS HOUT HEACH
            by_cases hm0 : m = 0
            · have hq : ((m : Int) == 0) = true := by simp [hm0]
              have hbeh : behindL o ⟨K, V, sq, dd⟩ = true := by
                have : o = [] := List.eq_nil_of_length_eq_zero (by rw [HM.out]; exact hm0)
                rw [this]; rfl
              have hnew : Hid (mergeF (totalL (rs.set b t)) (rs.set b t) (o ++ [⟨K, V, sq, dd⟩]) = out) := by
                have := HST.out
                rw [hbeh, if_pos rfl] at this
                show _ = out
                rw [← this]; exact HMF.out
              have HM0 := Lib.hid hm0
              clear hm0 hbeh HST
              have hebn : Hid (∀ x ∈ o ++ [⟨K, V, sq, dd⟩], EB x) := by
                intro x hx
                rcases List.mem_append.1 hx with hx | hx
                · exact HEB.out x hx
                · obtain rfl := List.mem_singleton.1 hx
                  exact ⟨hec2.lk, hec2.lv, hec2.s0, hec2.s1⟩
              clear HEB
              go_wp2
              go_quiet (fail)
              have e0 : w2.cell? ⟨wr.heap.size, 0, none⟩ = some (Value.slice k1 k2 k3) := cell_of_row _ _ 0 _ _ _ EN.out
              have e1 : w2.cell? ⟨wr.heap.size, 1, none⟩ = some (Value.slice v1 v2 v3) := cell_of_row _ _ 1 _ _ _ EN.out
              have e2 : w2.cell? ⟨wr.heap.size, 2, none⟩ = some (Value.int .i64 sq) := cell_of_row _ _ 2 _ _ _ EN.out
              have e3 : w2.cell? ⟨wr.heap.size, 3, none⟩ = some (Value.bool dd) := cell_of_row _ _ 3 _ _ _ EN.out
              have hyW : Below w2.heap.size w2 (w2.drewN nq) := below_drewN (Below.refl _ _)
              obtain ⟨kv, hkv, hrow, heach⟩ := HOUT2.out
              rw [HM.out] at hrow
              go_wp2_with (first
                | (go_at_call 34; go_must (refine copied_any _ _ ⟨K, V, sq, dd⟩ _ (hec2.below hyW) _ ?_); intro k' v' w5 heo hy5; obtain ⟨ka', kc', rfl⟩ := owns_shape heo.hk; obtain ⟨va', vc', rfl⟩ := owns_shape heo.hv; have hrow5 := owns_below (owns_below hrow hyW) hy5)
                | (at_builtin; go_must (refine wpList_app (by rfl) (.tmp 56) (.tmp 59) 24 (by rfl) w.heap.size 27 (.agg #[.slice none 0 0, .slice none 0 0, .int .i64 0, .bool false]) 4 64 Try.underlying24 Try.info27 rfl (by decide) _ _ _ _ rfl (World.ownsRow.alloc hrow5 _) _ _ _ _ rfl (rd_lit _ _ _ 4 1 rfl) (ec_oneCell _ _ _ _ _ _) (by simp) (by unfold maxLen; omega) (by omega) (by have := hy5.size; have := (hyW).size; have := hbw2.size; simp; omega) ?_)))
              intro ad6 c6 w6 hown6 hg6
              have hyA : Below w2.heap.size w2 w5 := below_tr hyW hy5
              have hk6 : Keeps 5 w5 w6 := (Keeps.below ((Below.refl w5.heap.size w5).alloc (Nat.le_refl _) _)).trans (Keeps.grown4 (hrow5.alloc _) hg6 (by decide))
              have hbN : Below w.heap.size w w6 := below_app ((below_then hbw2 hyA hbw2.size).alloc (by have := hyA.size; have := hbw2.size; omega) _) hg6 (by have := hyA.size; have := hbw2.size; simp; omega) (hrow5.alloc _)
              have hrows6 := owns_grown ((owns_below HROWS2.out hyA).alloc _) hg6 (fun q hq hc => own_size_ne (owns_below HROWS2.out hyA) hrow5 (by decide) q hq hc.symm)
              have hES6 : EsO w6 w.heap.size (.slice ad6 (m + 1) c6) (o ++ [⟨K, V, sq, dd⟩]) := EsO.push (k := .slice ka' K.length kc') (v := .slice va' V.length vc') (e := ⟨K, V, sq, dd⟩) hkv (fun q hq => (heach q hq).below hyA) hk6 (by rw [HM.out]; exact hown6) (heo.mono (by have := (hyW).size; have := hbw2.size; omega))
              have HES6 := Lib.hid hES6
              have HROWS6 := Lib.hid hrows6
              have HBN := Lib.hid hbN
              clear hES6 hrows6 hbN hown6 hg6 hrow5 hrow heach heo hk6 hyA hy5
              obtain ⟨z1, hz1⟩ : ∃ z1, optI (firstK (rs.set b t) (rs.set b t).length) = z1 := ⟨_, rfl⟩
              have HZ1 := Lib.hid hz1
              have hess : Ess w6 (.slice (some ⟨g, 0, none⟩) ls.length c) (rs.set b t) := ess_of_own (HROWS6).out (by simp; omega) (fun i hi => by
                obtain ⟨v, q1, q2⟩ := HEACH2.out i hi
                exact ⟨v, q1, q2.below (HBN).out⟩)
              clear hz1
              go_wp2_with (go_at_call 32; go_must (refine first_any _ (rs.set b t) z1 HZ1.out _ hess _ ?_))
              intro w8 hb8
              clear hess
              go_wp2
              go_roundg (totalL (rs.set b t))
              case measure => omega
              case rel => exact ⟨rs.set b t, (o ++ [⟨K, V, sq, dd⟩]), _, by simp; omega, rfl, hnew, owns_below (HROWS6).out hb8, HEACH2, Lib.hid ((HES6).out.below hb8), by rw [HZ1.out]; exact Lib.hid rfl, below_then (HBN).out hb8 (HBN).out.size, hebn, by have := HM.out; simp; omega⟩
            · obtain ⟨k, rfl⟩ : ∃ k, m = k + 1 := ⟨m - 1, by omega⟩
              have hq : (((k + 1 : Nat) : Int) == 0) = false := by simp; omega
              have hq' : ((k : Int) + 1 == 0) = false := by simp; omega
              have hol2 : o.length = k + 1 := HM.out
              have hlast : o.getLast? = some o[k] := by
                rw [List.getLast?_eq_getElem?]
                simp [hol2]
              obtain ⟨y, hy⟩ : ∃ y, o[k] = y := ⟨_, rfl⟩
              obtain ⟨r, hr⟩ : ∃ r, lessE y ⟨K, V, sq, dd⟩ = r := ⟨_, rfl⟩
              have hbeh : behindL o ⟨K, V, sq, dd⟩ = r := by rw [behindL, hlast, hy]; exact hr
              have hesO : Es w2 (.slice oa o.length oc) o := (by rw [HM.out]; exact HOUT2.out : EsO w2 w.heap.size (.slice oa o.length oc) o).es HEB.out
              obtain ⟨oa', oc', ee, _, _, _, y4⟩ := hesO
              simp only [Value.slice.injEq] at ee
              obtain ⟨rfl, -, rfl⟩ := ee
              obtain ⟨yb, yo, rfl, y5⟩ := y4 (by omega)
              obtain ⟨yk, yv, yp, hey⟩ := y5 k (by omega)
              rw [hy] at yp hey
              have HR1 : Hid (lessL y.key y.seq (Ent.mk K V sq dd).key (Ent.mk K V sq dd).seq = r) := hr
              have HBEH := Lib.hid hbeh
              clear y4 y5 hr hy hlast hbeh hol2
              go_wp2
              have c0 : (w2.drew.cell? ⟨yb, yo + k * 4, none⟩ = some yk ∧ w2.drew.cell? ⟨yb, yo + k * 4 + 1, none⟩ = some yv ∧ w2.drew.cell? ⟨yb, yo + k * 4 + 2, none⟩ = some (Value.int .i64 y.seq) ∧ w2.drew.cell? ⟨yb, yo + k * 4 + 3, none⟩ = some (Value.bool y.dead)) := yp
              have c1 : (w2.drew.cell? ⟨wr.heap.size, 0, none⟩ = some (Value.slice k1 k2 k3) ∧ w2.drew.cell? ⟨wr.heap.size, 1, none⟩ = some (Value.slice v1 v2 v3) ∧ w2.drew.cell? ⟨wr.heap.size, 2, none⟩ = some (Value.int .i64 sq) ∧ w2.drew.cell? ⟨wr.heap.size, 3, none⟩ = some (Value.bool dd)) := ⟨cell_of_row _ _ 0 _ _ _ EN.out, cell_of_row _ _ 1 _ _ _ EN.out, cell_of_row _ _ 2 _ _ _ EN.out, cell_of_row _ _ 3 _ _ _ EN.out⟩
              have n1 : IntKind.i64.wrap ((k : Int) + 1 - 1) = (k : Int) := by rw [show (k : Int) + 1 - 1 = k by omega]; exact IntWalk.i64_in _ (by omega)
              have n5 : IntKind.i64.wrap (k : Int) = (k : Int) := IntWalk.i64_in _ (by omega)
              have n2 : (0 : Int) ≤ (k : Int) := by omega
              have n3 : ((k : Int) + 1).toNat = k + 1 := by omega
              have n4 : (0 : Int) ≤ (k : Int) + 1 := by omega
              have n6 : (k : Int) < (k : Int) + 1 := by omega
              go_region_held3 (fun w' => (w'.cell? ⟨yb, yo + k * 4, none⟩ = some yk ∧ w'.cell? ⟨yb, yo + k * 4 + 1, none⟩ = some yv ∧ w'.cell? ⟨yb, yo + k * 4 + 2, none⟩ = some (Value.int .i64 y.seq) ∧ w'.cell? ⟨yb, yo + k * 4 + 3, none⟩ = some (Value.bool y.dead)) ∧ (w'.cell? ⟨wr.heap.size, 0, none⟩ = some (Value.slice k1 k2 k3) ∧ w'.cell? ⟨wr.heap.size, 1, none⟩ = some (Value.slice v1 v2 v3) ∧ w'.cell? ⟨wr.heap.size, 2, none⟩ = some (Value.int .i64 sq) ∧ w'.cell? ⟨wr.heap.size, 3, none⟩ = some (Value.bool dd)))
                (first | exact ⟨c0, c1⟩ | exact ⟨e4_later hy3 c0, e40_later hy3 c1⟩ | go_keep)
                ((go_at_call 33; refine mless_any _ _ _ _ _ _ _ _ _ _ r HR1.out (EC.shape hey) (EC.shape hec2) _ (hey.hk.below (Below.refl _ _).drew) (hec2.hk.below (Below.refl _ _).drew) _ ?_; intro w3 hy3))
              clear n1 n2 n3 n4 n5 n6
              have hyW : Below w2.heap.size w2 w3 := below_tr (Below.refl _ _).drew hy3
              obtain ⟨e0, e1, e2, e3⟩ := e40_later hy3 c1
              clear c0 c1 hy3 hey
              cases r with
              | true =>
                have hebn : Hid (∀ x ∈ o ++ [⟨K, V, sq, dd⟩], EB x) := by
                  intro x hx
                  rcases List.mem_append.1 hx with hx | hx
                  · exact HEB.out x hx
                  · obtain rfl := List.mem_singleton.1 hx
                    exact ⟨hec2.lk, hec2.lv, hec2.s0, hec2.s1⟩
                have hnew : Hid (mergeF (totalL (rs.set b t)) (rs.set b t) (o ++ [⟨K, V, sq, dd⟩]) = out) := by
                  have := HST.out
                  rw [HBEH.out, if_pos rfl] at this
                  show _ = out
                  rw [← this]; exact HMF.out
                obtain ⟨m, hm⟩ : ∃ m, k + 1 = m := ⟨_, rfl⟩
                have hmi : (k : Int) + 1 = (m : Int) := by omega
                rw [hm] at HOUT2 HM hol
                rw [hm, hmi]
                rw [hmi] at hq'
                clear HEB HBEH HST HR1 HOUT1 hm hmi hq
                obtain ⟨kv, hkv, hrow, heach⟩ := HOUT2.out
                rw [HM.out] at hrow
                go_wp2_with (first
                  | (go_at_call 34; go_must (refine copied_any _ _ ⟨K, V, sq, dd⟩ _ (hec2.below hyW) _ ?_); intro k' v' w5 heo hy5; obtain ⟨ka', kc', rfl⟩ := owns_shape heo.hk; obtain ⟨va', vc', rfl⟩ := owns_shape heo.hv; have hrow5 := owns_below (owns_below hrow hyW) hy5)
                  | (at_builtin; go_must (refine wpList_app (by rfl) (.tmp 56) (.tmp 59) 24 (by rfl) w.heap.size 27 (.agg #[.slice none 0 0, .slice none 0 0, .int .i64 0, .bool false]) 4 64 Try.underlying24 Try.info27 rfl (by decide) _ _ _ _ rfl (World.ownsRow.alloc hrow5 _) _ _ _ _ rfl (rd_lit _ _ _ 4 1 rfl) (ec_oneCell _ _ _ _ _ _) (by simp) (by unfold maxLen; omega) (by omega) (by have := hy5.size; have := (hyW).size; have := hbw2.size; simp; omega) ?_)))
                intro ad6 c6 w6 hown6 hg6
                have hyA : Below w2.heap.size w2 w5 := below_tr hyW hy5
                have hk6 : Keeps 5 w5 w6 := (Keeps.below ((Below.refl w5.heap.size w5).alloc (Nat.le_refl _) _)).trans (Keeps.grown4 (hrow5.alloc _) hg6 (by decide))
                have hbN : Below w.heap.size w w6 := below_app ((below_then hbw2 hyA hbw2.size).alloc (by have := hyA.size; have := hbw2.size; omega) _) hg6 (by have := hyA.size; have := hbw2.size; simp; omega) (hrow5.alloc _)
                have hrows6 := owns_grown ((owns_below HROWS2.out hyA).alloc _) hg6 (fun q hq hc => own_size_ne (owns_below HROWS2.out hyA) hrow5 (by decide) q hq hc.symm)
                have hES6 : EsO w6 w.heap.size (.slice ad6 (m + 1) c6) (o ++ [⟨K, V, sq, dd⟩]) := EsO.push (k := .slice ka' K.length kc') (v := .slice va' V.length vc') (e := ⟨K, V, sq, dd⟩) hkv (fun q hq => (heach q hq).below hyA) hk6 (by rw [HM.out]; exact hown6) (heo.mono (by have := (hyW).size; have := hbw2.size; omega))
                have HES6 := Lib.hid hES6
                have HROWS6 := Lib.hid hrows6
                have HBN := Lib.hid hbN
                clear hES6 hrows6 hbN hown6 hg6 hrow5 hrow heach heo hk6 hyA hy5
                obtain ⟨z1, hz1⟩ : ∃ z1, optI (firstK (rs.set b t) (rs.set b t).length) = z1 := ⟨_, rfl⟩
                have HZ1 := Lib.hid hz1
                have hess : Ess w6 (.slice (some ⟨g, 0, none⟩) ls.length c) (rs.set b t) := ess_of_own (HROWS6).out (by simp; omega) (fun i hi => by
                  obtain ⟨v, q1, q2⟩ := HEACH2.out i hi
                  exact ⟨v, q1, q2.below (HBN).out⟩)
                clear hz1
                go_wp2_with (go_at_call 32; go_must (refine first_any _ (rs.set b t) z1 HZ1.out _ hess _ ?_))
                intro w8 hb8
                clear hess
                go_wp2
                go_roundg (totalL (rs.set b t))
                case measure => omega
                case rel => exact ⟨rs.set b t, (o ++ [⟨K, V, sq, dd⟩]), _, by simp; omega, rfl, hnew, owns_below (HROWS6).out hb8, HEACH2, Lib.hid ((HES6).out.below hb8), by rw [HZ1.out]; exact Lib.hid rfl, below_then (HBN).out hb8 (HBN).out.size, hebn, by have := HM.out; simp; omega⟩
              | false =>
                have hebn := HEB
                have hnew : Hid (mergeF (totalL (rs.set b t)) (rs.set b t) o = out) := by
                  have := HST.out
                  rw [HBEH.out, if_neg (by simp)] at this
                  show _ = out
                  rw [← this]; exact HMF.out
                have HES6 : Hid (EsO w3 w.heap.size (.slice (some ⟨yb, yo, none⟩) (k + 1) oc) o) := HOUT2.out.below hyW
                have HROWS6 := Lib.hid (owns_below HROWS2.out hyW)
                have HBN := Lib.hid (below_then hbw2 hyW hbw2.size)
                clear HEB HBEH HST HR1 HOUT1 hq e0 e1 e2 e3
                obtain ⟨z1, hz1⟩ : ∃ z1, optI (firstK (rs.set b t) (rs.set b t).length) = z1 := ⟨_, rfl⟩
                have HZ1 := Lib.hid hz1
                have hess : Ess w3 (.slice (some ⟨g, 0, none⟩) ls.length c) (rs.set b t) := ess_of_own (HROWS6).out (by simp; omega) (fun i hi => by
                  obtain ⟨v, q1, q2⟩ := HEACH2.out i hi
                  exact ⟨v, q1, q2.below (HBN).out⟩)
                clear hz1
                go_wp2_with (go_at_call 32; go_must (refine first_any _ (rs.set b t) z1 HZ1.out _ hess _ ?_))
                intro w8 hb8
                clear hess
                go_wp2
                go_roundg (totalL (rs.set b t))
                case measure => omega
                case rel => exact ⟨rs.set b t, o, _, by simp; omega, rfl, hnew, owns_below (HROWS6).out hb8, HEACH2, Lib.hid ((HES6).out.below hb8), by rw [HZ1.out]; exact Lib.hid rfl, below_then (HBN).out hb8 (HBN).out.size, hebn, by have := HM.out; simp; omega⟩
end Go.Proofs.Ytgkgahjdjkmmnaa
