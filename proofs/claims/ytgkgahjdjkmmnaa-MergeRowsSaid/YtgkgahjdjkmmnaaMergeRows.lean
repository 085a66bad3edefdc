/- The law MergeRows, walked (under way). -/
import Derived.Test.YtgkgahjdjkmmnaaRowsS
namespace Go.Proofs.Ytgkgahjdjkmmnaa
open Go.RowKit

theorem mergeL_eb {ls : List (List Ent)} (h : ∀ r ∈ ls, ∀ e ∈ r, EB e) {out : List Ent} {z : Int} (ho : mergeL ls = (out, z)) : ∀ e ∈ out, EB e := by
  intro e he
  unfold mergeL at ho
  split at ho
  · next hc =>
    rw [merge_put ls fun l hl => (sortedL_srt l).1 (List.all_eq_true.1 hc l hl)] at ho
    simp only [Prod.mk.injEq] at ho
    rw [← ho.1] at he
    obtain ⟨r, hr, hx⟩ := List.mem_flatten.1 (mem_puts_of' he)
    exact h r hr e hx
  · simp only [Prod.mk.injEq] at ho
    rw [← ho.1] at he
    cases he
theorem total_le {ls : List (List Ent)} {n : Nat} (h : ∀ r ∈ ls, r.length ≤ n) : totalL ls ≤ ls.length * n := by
  unfold totalL
  induction ls with
  | nil => simp
  | cons a l ih =>
    rw [List.map_cons, List.sum_cons, List.length_cons, Nat.add_mul, Nat.one_mul]
    have h1 := h a List.mem_cons_self
    have h2 := ih fun r hr => h r (List.mem_cons_of_mem _ hr)
    omega

set_option maxRecDepth 100000 in
set_option maxHeartbeats 8000000 in
theorem rows_law (v : Value) (ls : List (List Ent)) (order : Int) (w : World) (hv : Ess w v ls) (R : Ending → World → Prop)
    (hR : ∀ w', Below w.heap.size w w' → R (.returned (.bool true)) w') :
    Calls Try.prog 3 #[v, .int .i64 order] w R := by
  have HR := Lib.hid hR
  clear hR
  obtain ⟨va, vc, rfl, _⟩ := id hv
  go_enter Try.func3, Try.ntmps3
  go_wp2_with (go_at_call 9; go_must (refine rows_any _ ls order _ hv _ ?_))
  intro L1 w1 rs hn6 h60 hess hb1
  have HESS := Lib.hid hess
  have H60 := Lib.hid h60
  have HB1 := Lib.hid hb1
  obtain ⟨l1a, l1c, rfl, _⟩ := id hess
  clear hess h60 hb1 hv
  go_wp2_with fail
  go_loopg [5, 6] rs.length (fun gn L i wr => ∃ (k : Nat) (vs : List Value) (S : Nat → Nat), k ≤ rs.length ∧ gn = rs.length - k ∧ i = .int .i64 k ∧ Hid (wr.ownsRow w1.heap.size 24 1 L k vs) ∧ Hid (LR wr S vs (rs.take k)) ∧ Hid (S 0 = w1.heap.size) ∧ Below w1.heap.size w1 wr)
  case atStart => exact ⟨0, [], fun _ => w1.heap.size, by omega, by omega, rfl, Lib.hid (World.ownsRow_nil _ _ _ _), Lib.hid ⟨fun j hj => by simp at hj, by simp, fun j hj => by simp at hj⟩, Lib.hid rfl, Below.refl _ _⟩
  case round =>
    obtain ⟨k, vs, S, hk, rfl, rfl, HOWN, HLR, HS0, hb⟩ := hrel
    obtain ⟨oa, oc, rfl⟩ := owns_shape HOWN.out
    obtain ⟨wo, rfl⟩ : ∃ x, x = wr := ⟨_, rfl⟩
    by_cases hlt : k < rs.length
    · have hkk : (k : Int) < (rs.length : Int) := by omega
      obtain ⟨r, hr⟩ : ∃ r, rs[k] = r := ⟨_, rfl⟩
      have HRK := Lib.hid hr
      have hr60 : r.length ≤ 60 := by rw [← hr]; exact H60.out _ (List.getElem_mem hlt)
      clear hr
      go_wp2_with fail
      go_loopg [7, 8] r.length (fun gn L j wr => ∃ q : Nat, q ≤ r.length ∧ gn = r.length - q ∧ j = .int .i64 q ∧ Hid (EsO wr wo.heap.size L (r.take q)) ∧ Below wo.heap.size wo wr)
      case atStart => exact ⟨0, by omega, by omega, rfl, Lib.hid (EsO.nil _ _), Below.refl _ _⟩
      case round =>
        obtain ⟨q, hq, rfl, rfl, HROW, hbq⟩ := hrel
        obtain ⟨ra, rc, rfl⟩ := EsO.shape HROW.out
        have hbr := below_then hb hbq hb.size
        obtain ⟨va', vc', ee, _, _, _, v4⟩ := HESS.out.below hbr
        simp only [Value.slice.injEq] at ee
        obtain ⟨rfl, -, rfl⟩ := ee
        obtain ⟨vb, vo, rfl, v5⟩ := v4 (by omega)
        obtain ⟨s, hs5, hes⟩ := v5 k hlt
        rw [HRK.out] at hes
        obtain ⟨sa, sc, rfl, _, _, _, s4⟩ := id hes
        clear v4 v5 hes
        by_cases hql : q < r.length
        · have hqq : (q : Int) < (r.length : Int) := by omega
          obtain ⟨sb, so, rfl, s5⟩ := s4 (by omega)
          obtain ⟨k0, v0, ⟨p0, p1, p2, p3⟩, hec⟩ := s5 q hql
          obtain ⟨y, hy⟩ : ∃ y, r[q] = y := ⟨_, rfl⟩
          rw [hy] at p2 p3 hec
          have HY := Lib.hid hy
          have HEC := Lib.hid hec
          clear s4 s5 hec hy
          obtain ⟨kv, hkv, hrow, heach⟩ := HROW.out
          have hlq : (r.take q).length = q := by rw [List.length_take]; omega
          rw [hlq] at hrow
          have HKV := Lib.hid hkv
          have HLQ := Lib.hid hlq
          have HROWQ := Lib.hid hrow
          have HEACH := Lib.hid heach
          clear hlq hrow heach
          go_wp2_with (first
            | (go_at_call 10; go_must (refine etwin_any _ _ y _ HEC.out _ ?_); intro k' v' w5 heo hy5; obtain ⟨ka', kc', rfl⟩ := owns_shape heo.hk; obtain ⟨va', vc', rfl⟩ := owns_shape heo.hv; have hrow5 := owns_below HROWQ.out hy5)
            | (at_builtin; go_must (refine wpList_app (by rfl) (.tmp 34) (.tmp 43) 24 (by rfl) wo.heap.size 27 (.agg #[.slice none 0 0, .slice none 0 0, .int .i64 0, .bool false]) 4 64 Try.underlying24 Try.info27 rfl (by decide) _ _ _ _ rfl (World.ownsRow.alloc hrow5 _) _ _ _ _ rfl (rd_lit _ _ _ 4 1 rfl) (ec_oneCell _ _ _ _ _ _) (by simp) (by unfold maxLen; omega) (by omega) (by have := hy5.size; have := hbq.size; simp; omega) ?_)))
          intro ad6 c6 w6 hown6 hg6
          have hk6 : Keeps 5 w5 w6 := (Keeps.below ((Below.refl w5.heap.size w5).alloc (Nat.le_refl _) _)).trans (Keeps.grown4 (hrow5.alloc _) hg6 (by decide))
          have hbN : Below wo.heap.size wo w6 := below_app ((below_then hbq hy5 hbq.size).alloc (by have := hy5.size; have := hbq.size; omega) _) hg6 (by have := hy5.size; have := hbq.size; simp; omega) (hrow5.alloc _)
          have hES6 : EsO w6 wo.heap.size (.slice ad6 (q + 1) c6) (r.take q ++ [y]) := EsO.push (k := .slice ka' y.key.length kc') (v := .slice va' y.val.length vc') (e := y) HKV.out (fun i hi => (HEACH.out i hi).below hy5) hk6 (by rw [HLQ.out]; exact hown6) (heo.mono hbq.size)
          have e6 : r.take q ++ [y] = r.take (q + 1) := by rw [List.take_succ_eq_append_getElem hql, HY.out]
          rw [e6] at hES6
          have HES6 := Lib.hid hES6
          clear hES6 e6 hown6 hg6 hrow5 heo hk6 hy5
          go_wp2
          go_roundg (r.length - (q + 1))
          case measure => omega
          case rel => exact ⟨q + 1, by omega, rfl, by go_num, HES6, hbN⟩
        · have hqq : ¬ (q : Int) < (r.length : Int) := by omega
          obtain rfl : q = r.length := by omega
          have hro := HROW.out
          rw [List.take_length] at hro
          have HRO := Lib.hid hro
          have hvl : vs.length = (rs.take k).length := by have := HOWN.out.1; rw [List.length_take]; omega
          clear hro s4
          go_wp2_with (at_builtin; go_must (refine wpList_app (by rfl) (.tmp 45) (.tmp 47) 22 (by rfl) w1.heap.size 24 (.slice none 0 0) 1 24 Try.underlying22 Try.info24 rfl (by decide) oa k oc vs (by rfl) ((owns_below HOWN.out hbq).alloc (Obj.cells #[Value.slice ra r.length rc] 24)) _ 1 1 [Value.slice ra r.length rc] (by rfl) (rd_lit _ _ _ 1 1 rfl) (slice_oneCell _ _ _) (fun h => by cases h) (by unfold maxLen; omega) (by omega) (by have := hbr.size; simp; omega) ?_); intro ad c w3 hown3 hg3; obtain ⟨S', hLR, hS0⟩ := HLR.out.push hvl hbq (u := Value.slice ra r.length rc) (by first | exact HRO.out | simpa using HRO.out) (owns_below HOWN.out hbq) hg3; have hb3 : Below w1.heap.size w1 w3 := below_app (hbr.alloc hbr.size _) hg3 (by have := hbr.size; simp; omega) ((owns_below HOWN.out hbq).alloc (Obj.cells #[Value.slice ra r.length rc] 24)); have hLR' : LR w3 S' (vs ++ [Value.slice ra r.length rc]) (rs.take (k + 1)) := (by rw [List.take_succ_eq_append_getElem hlt, HRK.out]; exact hLR); have HLR3 := Lib.hid hLR'; have HO3 := Lib.hid hown3; have HS3 : Hid (S' 0 = w1.heap.size) := Lib.hid (hS0.trans HS0.out); clear hLR hLR' hown3 hS0 hg3)
          go_roundg (rs.length - (k + 1))
          case measure => omega
          case rel => exact ⟨k + 1, _, S', by omega, rfl, by go_num, HO3, HLR3, HS3, hb3⟩
    · have hkk : ¬ (k : Int) < (rs.length : Int) := by omega
      obtain rfl : k = rs.length := by omega
      have hlr : LR wo S vs rs := by have := HLR.out; rwa [List.take_length] at this
      have HEB := Lib.hid HESS.out.eb
      have htot : totalL rs ≤ 100000 := by have := total_le H60.out; omega
      have hess2 : Ess wo (.slice oa rs.length oc) rs := ess_of_own HOWN.out rfl fun i hi => by
        obtain ⟨v, h1, h2⟩ := hlr.2.2 i hi
        exact ⟨v, h1, h2.eso.es (HEB.out _ (List.getElem_mem hi))⟩
      have hess1 := HESS.out.below hb
      obtain ⟨out, z, hout⟩ : ∃ out z, mergeL rs = (out, z) := ⟨_, _, rfl⟩
      have HO := Lib.hid hout
      have HEO := Lib.hid (mergeL_eb HEB.out hout)
      have HLR2 := Lib.hid hlr
      have hzz : (z == z) = true := by simp
      clear hout hlr
      go_wp2_with (first
        | (go_at_call 11; go_must (refine merge_any _ rs out z HO.out _ hess2 (by omega) htot _ ?_); intro Lm w3 hm3 hb3; obtain ⟨ma, mc, rfl⟩ := EsO.shape hm3; have HM3 := Lib.hid hm3; have hess3 := hess1.below hb3; clear hm3 hess2 hess1)
        | (go_at_call 12; go_must (refine rmerge_any _ rs out z HO.out _ hess3 htot _ ?_); intro Ln w4 hn4 hb4; obtain ⟨na, nc, rfl⟩ := EsO.shape hn4; have HN4 := Lib.hid hn4; have HM4 := Lib.hid (HM3.out.below hb4); clear hn4 hess3)
        | (go_at_call 13; go_in)
        | (go_at_call 14; refine alike_any _ _ out out true (alikeL_refl out) _ (HM4.out.es HEO.out) (HN4.out.es HEO.out) _ ?_; intro w5 hb5))
      have hx4 := below_then hb3 hb4 hb3.size
      have hx5 := below_then hx4 hb5 hx4.size
      have hy5 := below_then hb hx5 hb.size
      have HW5 := Lib.hid hy5
      have HM5 := Lib.hid (HM4.out.below hb5)
      have HN5 := Lib.hid (HN4.out.below hb5)
      have HOW5 := Lib.hid (owns_below HOWN.out hx5)
      have HLR5 := Lib.hid (HLR2.out.below hx5)
      have hz3 := hb3.size
      have hzo := HLR2.out.2.1
      have HSM := Lib.hid HLR2.out.1
      clear hb3 hb4 hb5 hx4 hx5 hy5
      go_loopg [13] rs.length (fun gn i wr => ∃ k : Nat, k ≤ rs.length ∧ gn = rs.length - k ∧ i = .int .i64 k ∧ Hid (Below w1.heap.size w1 wr) ∧ Hid (EsO wr wo.heap.size (.slice ma out.length mc) out) ∧ Hid (EsO wr w3.heap.size (.slice na out.length nc) out) ∧ Hid (wr.ownsRow w1.heap.size 24 1 (.slice oa rs.length oc) rs.length vs) ∧ Hid (∀ (j : Nat) (h : j < rs.length), k ≤ j → ∃ v, vs[j]? = some v ∧ EsI wr (S j) (S (j + 1)) v rs[j]))
      case atStart => exact ⟨0, by omega, by omega, rfl, HW5, HM5, HN5, HOW5, Lib.hid fun j hj _ => HLR5.out.2.2 j hj⟩
      case round =>
        obtain ⟨k, hk, rfl, rfl, HB, HM, HN, HOW, HEI⟩ := hrel
        obtain ⟨wq, rfl⟩ : ∃ x, x = wr := ⟨_, rfl⟩
        by_cases hlt : k < rs.length
        · have hkk : (k : Int) < (rs.length : Int) := by omega
          obtain ⟨lv, hlv, hei⟩ := HEI.out k hlt (Nat.le_refl _)
          obtain ⟨r, hr⟩ : ∃ r, rs[k] = r := ⟨_, rfl⟩
          rw [hr] at hei
          obtain ⟨la, lc, rfl⟩ := EsO.shape hei.eso
          obtain ⟨g, rfl⟩ := owns_head HOW.out (by omega)
          have c0 : wq.cell? ⟨g, k, none⟩ = some (Value.slice la r.length lc) := by rw [HOW.out.cellAt k (by omega)]; exact hlv
          obtain ⟨va', vc', ee, _, _, _, v4⟩ := HESS.out.below HB.out
          simp only [Value.slice.injEq] at ee
          obtain ⟨rfl, -, rfl⟩ := ee
          obtain ⟨vb, vo, rfl, v5⟩ := v4 (by omega)
          obtain ⟨s, hs5, hes⟩ := v5 k hlt
          rw [hr] at hes
          obtain ⟨sa, sc, rfl, _⟩ := id hes
          have hesl := hei.eso.es hes.eb
          have HEIK := Lib.hid hei
          have HLV := Lib.hid hlv
          have HRK := Lib.hid hr
          clear v4 v5 hei hlv hr
          go_wp2_with fail
          have c0d : wq.drew.cell? ⟨g, k, none⟩ = some (Value.slice la r.length lc) := c0
          have hs5d : wq.drew.cell? ⟨vb, vo + k, none⟩ = some (Value.slice sa r.length sc) := hs5
          go_region_held3 (fun x => x.cell? ⟨g, k, none⟩ = some (Value.slice la r.length lc) ∧ x.cell? ⟨vb, vo + k, none⟩ = some (Value.slice sa r.length sc))
            (first | exact ⟨c0d, hs5d⟩ | exact ⟨cell_later hb6 c0d, cell_later hb6 hs5d⟩ | go_keep)
            (first | (go_at_call 14; refine alike_any _ _ r r true (alikeL_refl r) _ (hesl.below (Below.refl _ _).drew) (hes.below (Below.refl _ _).drew) _ ?_; intro w6 hb6))
          all_goals
            have hx6 : Below wq.heap.size wq w6 := below_tr (Below.refl _ _).drew hb6
            have HS6 : Hid (MRS w1 wo.heap.size w3.heap.size (.slice ma out.length mc) (.slice na out.length nc) (.slice (some ⟨g, 0, none⟩) rs.length oc) out vs S rs k (.slice la r.length lc) r w6) := Lib.hid (MRS.below ⟨HB.out, HM.out, HN.out, HOW.out, fun j hj h => HEI.out j hj (by omega), HEIK.out.esm, HSM.out, HS0.out, hzo, by omega, hlt, HLV.out⟩ hx6)
            clear hx6 hb6
            go_wp2_with fail
            go_loopg [14] r.length (fun gn i wr => ∃ q : Nat, q ≤ r.length ∧ gn = r.length - q ∧ i = .int .i64 q ∧ Hid (MRS w1 wo.heap.size w3.heap.size (.slice ma out.length mc) (.slice na out.length nc) (.slice (some ⟨g, 0, none⟩) rs.length oc) out vs S rs k (.slice la r.length lc) r wr))
            case atStart => exact ⟨0, by omega, by omega, rfl, HS6⟩
            case round =>
              obtain ⟨q, hq, rfl, rfl, HS⟩ := hrel
              obtain ⟨w4x, rfl⟩ : ∃ x, x = wr := ⟨_, rfl⟩
              have c4 : w4x.cell? ⟨g, k, none⟩ = some (Value.slice la r.length lc) := by rw [HS.out.ho.cellAt k (by omega)]; exact HLV.out
              by_cases hql : q < r.length
              · have hqq : (q : Int) < (r.length : Int) := by omega
                obtain ⟨gl, rfl⟩ : ∃ gl, la = some ⟨gl, 0, none⟩ := by
                  obtain ⟨kv, _, h4, _⟩ := HS.out.hk
                  exact owns_head h4 (by omega)
                obtain ⟨n, hn⟩ : ∃ n, r[q].key.length = n := ⟨_, rfl⟩
                have HNQ := Lib.hid hn
                clear hn
                go_wp2_with fail
                go_loopg [15] n (fun gn i wr => ∃ j : Nat, j ≤ n ∧ gn = n - j ∧ i = .int .i64 j ∧ Hid (MRS w1 wo.heap.size w3.heap.size (.slice ma out.length mc) (.slice na out.length nc) (.slice (some ⟨g, 0, none⟩) rs.length oc) out vs S rs k (.slice (some ⟨gl, 0, none⟩) r.length lc) r wr))
                case atStart => exact ⟨0, by omega, by omega, rfl, HS⟩
                case round =>
                  obtain ⟨j, hj, rfl, rfl, HS5⟩ := hrel
                  obtain ⟨w5x, rfl⟩ : ∃ x, x = wr := ⟨_, rfl⟩
                  have c5 : w5x.cell? ⟨g, k, none⟩ = some (Value.slice (some ⟨gl, 0, none⟩) r.length lc) := by rw [HS5.out.ho.cellAt k (by omega)]; exact HLV.out
                  obtain ⟨ka, kc, kc0, hnm, hbyte⟩ := HS5.out.key q hql
                  rw [HNQ.out] at kc0 hnm hbyte
                  unfold maxLen at hnm
                  have kc1 := kc0
                  rw [Nat.zero_add] at kc1
                  clear c4
                  by_cases hjl : j < n
                  · have hji : (j : Int) < (n : Int) := by omega
                    obtain ⟨gk, rfl, hb⟩ := hbyte (by omega)
                    obtain ⟨b, hcell, hfz, hst⟩ := hb j hjl
                    have HST := Lib.hid hst
                    clear hbyte hb hst
                    go_wp2_with fail
                    go_roundg (n - (j + 1))
                    case measure => omega
                    case rel => exact ⟨j + 1, by omega, rfl, by go_num, HST⟩
                  · have hji : ¬ (j : Int) < (n : Int) := by omega
                    clear hbyte
                    go_wp2_with fail
                    go_roundg (r.length - (q + 1))
                    case measure => omega
                    case rel => exact ⟨q + 1, by omega, rfl, by go_num, HS5⟩
              · have hqq : ¬ (q : Int) < (r.length : Int) := by omega
                go_wp2_with fail
                go_roundg (rs.length - (k + 1))
                case measure => omega
                case rel => exact ⟨k + 1, by omega, rfl, by go_num, Lib.hid HS.out.hb, Lib.hid HS.out.hm, Lib.hid HS.out.hn, Lib.hid HS.out.ho, Lib.hid fun j hj h => HS.out.hr j hj (by omega)⟩
        · have hkk : ¬ (k : Int) < (rs.length : Int) := by omega
          go_wp2_with (first
            | (go_at_call 14; refine alike_any _ _ out out true (alikeL_refl out) _ (HM.out.es HEO.out) (HN.out.es HEO.out) _ ?_; intro w6 hb6; have hx6 := below_then HB.out hb6 HB.out.size)
            | (go_at_call 15; refine wakes_any _ _ ?_; intro w7 hb7; have hx7 := below_then hx6 hb7 hx6.size))
          all_goals exact HR.out _ (below_then HB1.out hx7 HB1.out.size)
end Go.Proofs.Ytgkgahjdjkmmnaa
