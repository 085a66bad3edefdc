/- The law MergeSees, with many snapshots. -/
import Derived.Test.YtgkgahjdjkmmnaaSeesP
namespace Go.Proofs.Ytgkgahjdjkmmnaa
open Go.ChangeShapes Go.WideShapes Go.ChangeAt Go.RowKit

set_option maxRecDepth 100000 in
set_option maxHeartbeats 8000000 in
theorem sees_big (v u x : Value) (l : List Ent) (bt : Bool) (ss : List Int) (ks : List (List UInt8)) (w : World) (hv : Es w v l) (hu : Is w u ss) (hk : Ks w x ks) (hs : 10 < ss.length) (R : Ending → World → Prop)
    (hR : ∀ w', Below w.heap.size w w' → R (.returned (.bool true)) w') :
    Calls Try.prog 6 #[v, .bool bt, u, x] w R := by
  have HR := Lib.hid hR
  clear hR
  have hv' := hv
  have hu' := hu
  have hk' := hk
  obtain ⟨va, vc, rfl, hv1, _⟩ := hv'
  obtain ⟨ua, uc, rfl, _, hu1, _⟩ := hu'
  obtain ⟨xa, xc, rfl, hkm, _⟩ := hk'
  go_enter Try.func6, Try.ntmps6
  go_wp2_with (go_at_call 16; go_must (refine row_any _ l _ rfl _ hv _ ?_))
  intro L1 w1 ho1 hb1
  obtain ⟨l1, hl1⟩ : ∃ l1, rowL l = l1 := ⟨_, rfl⟩
  have he1 := ho1.es (rowL_eb hv.eb)
  have hlen1 := rowL_len l
  have hsrt1 := rowL_srt l
  rw [hl1] at he1 hlen1 hsrt1
  obtain ⟨la, lc, hLs⟩ := EsO.shape ho1
  rw [hl1] at hLs
  subst hLs
  have hu1' := hu.below hb1
  have hk1' := hk.below hb1
  have HSR := Lib.hid hsrt1
  clear ho1 hl1 hsrt1
  have hsi : (10 : Int) < (ss.length : Int) := by omega
  have hu2 := hu1'.take (j := 10) (by omega)
  have hsc : 10 ≤ uc := by omega
  have hss10 : ((ss.take 10)).length ≤ 10 := by first | omega | (rw [List.length_take]; omega)
  obtain ⟨out, z, hout⟩ : ∃ out z, thinL l1 bt ((ss.take 10)) = (out, z) := ⟨_, _, rfl⟩
  have hso : out = thinF bt ((ss.take 10)) l1.length l1 [] ∧ z = 0 := by
    unfold thinL at hout
    rw [if_pos ((sortedL_srt l1).2 HSR.out)] at hout
    simp only [Prod.mk.injEq] at hout
    exact ⟨hout.1.symm, hout.2.symm⟩
  have HOUT := Lib.hid hout
  have HSO := Lib.hid hso.1
  obtain rfl := hso.2
  have hlen : l1.length ≤ 100000 := by omega
  clear hout hso
  go_wp2_with (go_at_call 17; go_must (refine thin_any _ _ l1 bt ((ss.take 10)) out 0 HOUT.out _ he1 hu2 hlen _ ?_))
  intro L2 w2 ho2 hb2
  have hu3 := (hu2).below hb2
  have HK2 := Lib.hid (hk1'.below hb2)
  have hx2 := below_then hb1 hb2 hb1.size
  have heb2 := thinL_eb he1.eb HOUT.out
  have HE2 := Lib.hid (he1.below hb2)
  have HM2 := Lib.hid (ho2.es heb2)
  have hml : out.length ≤ l1.length := by rw [HSO.out]; exact thinF_len bt ((ss.take 10)) l1.length l1
  clear ho2 heb2
  obtain ⟨ma, mc, hms, _⟩ := HM2.out
  subst hms
  have hmn : ¬ (l1.length : Int) < (out.length : Int) := by omega
  obtain ⟨xs, hxs⟩ : ∃ xs, ((ss.take 10)) = xs := ⟨_, rfl⟩
  have hxn : xs.length = 10 := by first | (rw [← hxs, List.length_take]; omega) | rfl
  have HXN := Lib.hid hxn
  clear hxn
  have hxl : xs.length ≤ 10 := by rw [← hxs]; exact hss10
  have hoX : ∀ u ∈ xs.map (fun x => Value.int .i64 x), u.oneCell' = true := by
    intro u hu
    obtain ⟨q, _, rfl⟩ := List.mem_map.1 hu
    rfl
  have hx3 : Hid (Below w.heap.size w w2) := Lib.hid hx2
  clear hb1 hb2 hu1' hk1' hx2
  go_wp2_with (first
    | (go_at_call 13; go_in)
    | (go_at_call 15; go_must (refine wakes_any _ _ ?_); intro w3 hb3; have hx4 := below_then hx3.out hb3 hx3.out.size; have hu4 := hu3.below hb3; obtain ⟨qa, qc, qe, hrd, hqc, hqm, hqn⟩ := hu4; simp only [Value.slice.injEq] at qe; obtain ⟨rfl, -, rfl⟩ := qe; rw [hxs, HXN.out] at hrd; have hrd2 := hrd.below ((Below.refl w3.heap.size w3).alloc (Nat.le_refl _) (Obj.cells #[] 3)); clear hu hu2 hu3 hk hv he1)
    | (at_builtin; refine wpList_app (by rfl) (.tmp 47) (.tmp 48) 38 (by rfl) w3.heap.size 3 (.int .i64 0) 1 8 Try.underlying38 Try.info3 rfl (by decide) _ _ _ _ rfl (own_empty w3 rfl (Nat.le_refl _) 1) _ _ _ (xs.map (fun x => Value.int .i64 x)) rfl hrd2 hoX hqn (by unfold maxLen; omega) (by omega) (by simp) ?_; intro ad4 c4 w4 hown4 hg4; rw [Nat.zero_add] at hown4 ⊢; have hA : Below w3.heap.size w3 w4 := below_app ((Below.refl _ _).alloc (Nat.le_refl _) _) hg4 (by simp) (own_empty w3 rfl (Nat.le_refl _) 1); have hz4 := hA.size)
    | (at_builtin; go_must (refine wpList_app (by rfl) (.tmp 49) (.tmp 50) 38 (by rfl) w3.heap.size 3 (.int .i64 0) 1 8 Try.underlying38 Try.info3 rfl (by decide) ad4 (10) c4 _ (by rfl) (hown4.alloc (Obj.cells #[Value.int .i64 9223372036854775807] 3)) _ 1 1 [Value.int .i64 9223372036854775807] (by rfl) (rd_lit _ _ _ 1 1 rfl) (one_oneCell _ _) (fun h => by cases h) (by unfold maxLen; omega) (by omega) (by simp; omega) ?_); intro ad5 c5 w5 hown5 hg5; have hB2 : Below w3.heap.size w3 w5 := below_app (hA.alloc hA.size _) hg5 (by simp; omega) (hown4.alloc (Obj.cells #[Value.int .i64 9223372036854775807] 3)); obtain ⟨N, hN⟩ : ∃ N, 10 + 1 = N := ⟨_, rfl⟩; rw [hN] at hown5 ⊢))
  obtain ⟨ys, hys⟩ : ∃ ys, xs ++ [(9223372036854775807 : Int)] = ys := ⟨_, rfl⟩
  have hyl : ys.length = N := by rw [← hys, List.length_append]; first | exact hN | (rw [HXN.out]; exact hN)
  have hat : Is w5 (.slice ad5 N c5) ys := by
    rw [List.nil_append] at hown5
    refine ⟨ad5, c5, by rw [hyl], ?_, by rw [hyl]; exact (owns_cap hown5).1, by have := (owns_cap hown5).2; unfold maxLen at this; omega, owns_nil hown5⟩
    have := rd_of_owns hown5
    rw [hyl, ← hys, List.map_append]
    exact this
  have hsx : ∀ key s, s ∈ ys → liveO bt (seeL out key s) = liveO bt (seeL l1 key s) := by
    intro key s hs
    rw [HSO.out]
    refine see_thin _ _ (Nat.le_refl _) HSR.out ?_
    rw [← hys] at hs
    rcases List.mem_append.1 hs with h | h
    · left; rw [hxs]; exact h
    · right
      obtain rfl := List.mem_singleton.1 h
      intro e he
      exact (HE2.out.eb e he).2.2.2
  have hN11 : N ≤ 11 := by have := HXN.out; omega
  have HSX := Lib.hid hsx
  have HAT := Lib.hid hat
  have hb5 := below_then hb3 hB2 hb3.size
  have HE5 := Lib.hid (HE2.out.below hb5)
  have HM5 := Lib.hid (HM2.out.below hb5)
  have HK5 := Lib.hid (HK2.out.below hb5)
  have HX5 := Lib.hid (below_then hx4 hB2 hx4.size)
  clear hsx hat hb5 HK2 HM2 HE2 hown5 hown4 hg4 hg5 hB2 hA hb3 hx4 hrd hrd2 hoX hN hys hxs
  go_loopg [12] (l1.length + ks.length) (fun gn i wr => ∃ k : Nat, k ≤ l1.length + ks.length ∧ gn = l1.length + ks.length - k ∧ i = .int .i64 k ∧ Below w5.heap.size w5 wr)
  case atStart => exact ⟨0, Nat.zero_le _, by omega, rfl, Below.refl _ _⟩
  case round =>
    obtain ⟨k, hk, rfl, rfl, hb⟩ := hrel
    obtain ⟨wo, rfl⟩ : ∃ x, x = wr := ⟨_, rfl⟩
    by_cases hlt : k < l1.length + ks.length
    · have hkk : (k : Int) < (l1.length : Int) + (ks.length : Int) := by omega
      by_cases h80 : k < 80
      · have h80i : (k : Int) < 80 := by omega
        by_cases hkl : k < l1.length
        · have hkli : (k : Int) < (l1.length : Int) := by omega
          obtain ⟨va', vc', ee, _, _, _, v4⟩ := HE5.out.below hb
          simp only [Value.slice.injEq] at ee
          obtain ⟨rfl, -, rfl⟩ := ee
          obtain ⟨vb, vo, rfl, v5⟩ := v4 (by omega)
          obtain ⟨k0, v0, ⟨p0, p1, p2, p3⟩, hec⟩ := v5 k hkl
          obtain ⟨K, hK⟩ : ∃ K, l1[k].key = K := ⟨_, rfl⟩
          have hkey := hec.hk
          rw [hK] at hkey
          obtain ⟨k1, kc, rfl, _⟩ := id hkey
          clear v4 v5 hec hK
          go_wp2
          have HKEY := Lib.hid hkey
          clear hkey
          go_loopg [14] N (fun gn i wr => ∃ j : Nat, j ≤ N ∧ gn = N - j ∧ i = .int .i64 j ∧ Below wo.heap.size wo wr)
          case atStart => exact ⟨0, Nat.zero_le _, by omega, rfl, Below.refl _ _⟩
          case round =>
            obtain ⟨j, hj, rfl, rfl, hbj⟩ := hrel
            by_cases hjl : j < N
            · have hji : (j : Int) < (N : Int) := by omega
              have hbr := below_then hb hbj hb.size
              obtain ⟨ab, ao, rfl, ca⟩ := (HAT.out.below hbr).at j (by omega)
              obtain ⟨s, hs⟩ : ∃ s, ys[j]'(by omega) = s := ⟨_, rfl⟩
              have hsm : s ∈ ys := by rw [← hs]; exact List.getElem_mem _
              rw [hs] at ca
              obtain ⟨ra, hra⟩ : ∃ ra, seeL l1 K s = ra := ⟨_, rfl⟩
              obtain ⟨rb, hrb⟩ : ∃ rb, seeL out K s = rb := ⟨_, rfl⟩
              have hlv := HSX.out K s hsm
              rw [hra, hrb] at hlv
              obtain ⟨x, hx⟩ : ∃ x, ra.getD zeroE = x := ⟨_, rfl⟩
              obtain ⟨y, hy⟩ : ∃ y, rb.getD zeroE = y := ⟨_, rfl⟩
              obtain ⟨qa, hqa⟩ : ∃ q, ra.isSome = q := ⟨_, rfl⟩
              obtain ⟨qb, hqb⟩ : ∃ q, rb.isSome = q := ⟨_, rfl⟩
              have hone : x.dead = true → y.dead = false → bt = true → y = zeroE ∧ qb = false := by
                intro h1 h2 h3
                subst h3
                have := live_one hlv (by rw [hx]; exact h1) (by rw [hy]; exact h2)
                rw [← hy, ← hqb, this]
                exact ⟨rfl, rfl⟩
              have hone' : x.dead = false → y.dead = true → bt = true → x = zeroE ∧ qa = false := by
                intro h1 h2 h3
                subst h3
                have := live_one hlv.symm (by rw [hy]; exact h2) (by rw [hx]; exact h1)
                rw [← hx, ← hqa, this]
                exact ⟨rfl, rfl⟩
              have htwo : bt = false ∨ (x.dead = false ∧ y.dead = false) → y = x ∧ qb = qa := by
                intro h
                have hab : rb = ra := by
                  rcases h with h | ⟨h1, h2⟩
                  · subst h
                    exact live_zero _ _ hlv
                  · cases bt with
                    | false => exact live_zero _ _ hlv
                    | true => exact live_two hlv (by rw [hx]; exact h1) (by rw [hy]; exact h2)
                subst hab
                exact ⟨hy.symm.trans hx, hqb.symm.trans hqa⟩
              obtain ⟨K1, V1, s1, d1⟩ := x
              obtain ⟨K2, V2, s2, d2⟩ := y
              have HSA : Hid (∃ r, seeL l1 K s = r ∧ r.getD zeroE = ⟨K1, V1, s1, d1⟩ ∧ r.isSome = qa) := Lib.hid ⟨ra, hra, hx, hqa⟩
              have HSB : Hid (∃ r, seeL out K s = r ∧ r.getD zeroE = ⟨K2, V2, s2, d2⟩ ∧ r.isSome = qb) := Lib.hid ⟨rb, hrb, hy, hqb⟩
              clear hlv hra hrb hs hsm hx hy hqa hqb
              cases bt with
              | false =>
                obtain ⟨e1, e2⟩ := htwo (.inl rfl)
                subst e2
                simp only [Ent.mk.injEq] at e1
                obtain ⟨rfl, rfl, rfl, rfl⟩ := e1
                clear hone hone' htwo
                have HBJ := Lib.hid hbj
                have HBR := Lib.hid hbr
                go_wp2_with (first
                  | (go_at_call_of 20 (Value.slice (some ⟨vb, vo, none⟩) l1.length lc); go_must (refine see_x _ _ l1 K s _ _ _ _ _ HSA.out _ (HE5.out.below HBR.out) (HKEY.out.below HBJ.out) _ ?_); intro k4 k5 k6 v4 v5 v6 w6 hec6 hb6; have hbA := hb6.alloc hb6.size (Obj.cells #[Value.slice k4 k5 k6, Value.slice v4 v5 v6, Value.int .i64 s2, Value.bool d2] 27); have ca6 := cell_later hbA ca; have HB6 := Lib.hid hb6; have HBA := Lib.hid hbA)
                  | (go_at_call 20; go_must (refine see_x _ _ out K s _ _ _ _ _ HSB.out _ (HM5.out.below (below_then HBR.out HBA.out HBR.out.size)) (HKEY.out.below (below_then HBJ.out HBA.out HBJ.out.size)) _ ?_); intro k7 k8 k9 v7 v8 v9 w7 hec7 hb7; have hbB := hb7.alloc hb7.size (Obj.cells #[Value.slice k7 k8 k9, Value.slice v7 v8 v9, Value.int .i64 s2, Value.bool d2] 27); have nA := row_later2 (heap_alloc_new w6 (Obj.cells #[Value.slice k4 k5 k6, Value.slice v4 v5 v6, Value.int .i64 s2, Value.bool d2] 27)) hbB; have a0 := cell_of_row _ w6.heap.size 0 _ _ _ nA; have a1 := cell_of_row _ w6.heap.size 1 _ _ _ nA; have a2 := cell_of_row _ w6.heap.size 2 _ _ _ nA; have a3 := cell_of_row _ w6.heap.size 3 _ _ _ nA; have g0 := frozen_block nA 0; have g1 := frozen_block nA 1; have g2 := frozen_block nA 2; have g3 := frozen_block nA 3; have nB := heap_alloc_new w7 (Obj.cells #[Value.slice k7 k8 k9, Value.slice v7 v8 v9, Value.int .i64 s2, Value.bool d2] 27); have nBx := Lib.hid nB; clear nB; have hxx := Lib.hid (below_then HBA.out hbB HBA.out.size); have hz67 : w6.heap.size + 1 ≤ w7.heap.size := (by have := hb7.size; simp at this; omega); have hne : w6.heap.size ≠ w7.heap.size := (by omega); have hne' : w7.heap.size ≠ w6.heap.size := (by omega); have hecA := hec6.below (below_then ((Below.refl w6.heap.size w6).alloc (Nat.le_refl _) (Obj.cells #[Value.slice k4 k5 k6, Value.slice v4 v5 v6, Value.int .i64 s2, Value.bool d2] 27)) hbB (by simp)); have hecB := hec7.alloc (Obj.cells #[Value.slice k7 k8 k9, Value.slice v7 v8 v9, Value.int .i64 s2, Value.bool d2] 27); have nAx := Lib.hid nA; clear nA hbA hbB hb7 hb6 hec6 hec7)
                  | (refine wpList_store_row (o := ⟨none, .store 27 (.tmp 15) (.tmp 112), _, _, _, _⟩) (by rfl) 27 (.tmp 15) (.tmp 112) (by rfl) w6.heap.size #[Value.slice none 0 0, Value.slice none 0 0, Value.int .i64 0, Value.bool false] (by rfl) (by rfl) 27 _ nAx.out (by kernel_rfl) (by rfl) (by simp [Value.oneCell']) ?_; obtain ⟨wa, hwa, nA2, nB2, hx2⟩ := zset (cs := #[Value.slice none 0 0, Value.slice none 0 0, Value.int .i64 0, Value.bool false]) nAx.out nBx.out hne' hxx.out HB6.out.size; rw [hwa]; clear hwa a0 a1 a2 a3 g0 g1 g2 g3; have nAx := Lib.hid nA2; have nBx := Lib.hid nB2; have hxx := Lib.hid hx2; clear nA2 nB2 hx2; have e0 := cell_of_row _ w6.heap.size 0 _ _ _ nAx.out; have c0 := cell_of_row _ w7.heap.size 0 _ _ _ nBx.out; have e1 := cell_of_row _ w6.heap.size 1 _ _ _ nAx.out; have c1 := cell_of_row _ w7.heap.size 1 _ _ _ nBx.out; have e2 := cell_of_row _ w6.heap.size 2 _ _ _ nAx.out; have c2 := cell_of_row _ w7.heap.size 2 _ _ _ nBx.out; have e3 := cell_of_row _ w6.heap.size 3 _ _ _ nAx.out; have c3 := cell_of_row _ w7.heap.size 3 _ _ _ nBx.out)
                  | (refine wpList_store_row (o := ⟨none, .store 27 (.tmp 17) (.tmp 118), _, _, _, _⟩) (by rfl) 27 (.tmp 17) (.tmp 118) (by rfl) w7.heap.size #[Value.slice none 0 0, Value.slice none 0 0, Value.int .i64 0, Value.bool false] (by rfl) (by rfl) 27 _ nBx.out (by kernel_rfl) (by rfl) (by simp [Value.oneCell']) ?_; obtain ⟨wb, hwb, nB2, nA2, hx2⟩ := zset (cs := #[Value.slice none 0 0, Value.slice none 0 0, Value.int .i64 0, Value.bool false]) nBx.out nAx.out hne hxx.out (by have := HB6.out.size; omega); rw [hwb]; clear hwb; have nAx := Lib.hid nA2; have nBx := Lib.hid nB2; have hxx := Lib.hid hx2; clear nA2 nB2 hx2; have e0 := cell_of_row _ w6.heap.size 0 _ _ _ nAx.out; have c0 := cell_of_row _ w7.heap.size 0 _ _ _ nBx.out; have e1 := cell_of_row _ w6.heap.size 1 _ _ _ nAx.out; have c1 := cell_of_row _ w7.heap.size 1 _ _ _ nBx.out; have e2 := cell_of_row _ w6.heap.size 2 _ _ _ nAx.out; have c2 := cell_of_row _ w7.heap.size 2 _ _ _ nBx.out; have e3 := cell_of_row _ w6.heap.size 3 _ _ _ nAx.out; have c3 := cell_of_row _ w7.heap.size 3 _ _ _ nBx.out)
                  | (go_at_call 21; refine esame_any _ _ _ _ (⟨K2, V2, s2, d2⟩ : Ent) (⟨K2, V2, s2, d2⟩ : Ent) true (sameE_refl _) _ hecA hecB _ ?_; intro w8 hb8))
                have hx8 := hxx.out
                have hx9 := below_then hx8 hb8 hx8.size
                have hx9' := below_then HBJ.out hx9 HBJ.out.size
                go_roundg (N - (j + 1))
                case measure => omega
                case rel => exact ⟨j + 1, by omega, rfl, by go_num, hx9'⟩
              | true =>
                cases d1 with
                | false =>
                  cases d2 with
                  | false =>
                    obtain ⟨e1, e2⟩ := htwo (.inr ⟨rfl, rfl⟩)
                    subst e2
                    simp only [Ent.mk.injEq] at e1
                    obtain ⟨rfl, rfl, rfl, -⟩ := e1
                    clear hone hone' htwo
                    have HBJ := Lib.hid hbj
                    have HBR := Lib.hid hbr
                    go_wp2_with (first
                      | (go_at_call_of 20 (Value.slice (some ⟨vb, vo, none⟩) l1.length lc); go_must (refine see_x _ _ l1 K s _ _ _ _ _ HSA.out _ (HE5.out.below HBR.out) (HKEY.out.below HBJ.out) _ ?_); intro k4 k5 k6 v4 v5 v6 w6 hec6 hb6; have hbA := hb6.alloc hb6.size (Obj.cells #[Value.slice k4 k5 k6, Value.slice v4 v5 v6, Value.int .i64 s2, Value.bool false] 27); have ca6 := cell_later hbA ca; have HB6 := Lib.hid hb6; have HBA := Lib.hid hbA)
                      | (go_at_call 20; go_must (refine see_x _ _ out K s _ _ _ _ _ HSB.out _ (HM5.out.below (below_then HBR.out HBA.out HBR.out.size)) (HKEY.out.below (below_then HBJ.out HBA.out HBJ.out.size)) _ ?_); intro k7 k8 k9 v7 v8 v9 w7 hec7 hb7; have hbB := hb7.alloc hb7.size (Obj.cells #[Value.slice k7 k8 k9, Value.slice v7 v8 v9, Value.int .i64 s2, Value.bool false] 27); have nA := row_later2 (heap_alloc_new w6 (Obj.cells #[Value.slice k4 k5 k6, Value.slice v4 v5 v6, Value.int .i64 s2, Value.bool false] 27)) hbB; have a0 := cell_of_row _ w6.heap.size 0 _ _ _ nA; have a1 := cell_of_row _ w6.heap.size 1 _ _ _ nA; have a2 := cell_of_row _ w6.heap.size 2 _ _ _ nA; have a3 := cell_of_row _ w6.heap.size 3 _ _ _ nA; have g0 := frozen_block nA 0; have g1 := frozen_block nA 1; have g2 := frozen_block nA 2; have g3 := frozen_block nA 3; have nB := heap_alloc_new w7 (Obj.cells #[Value.slice k7 k8 k9, Value.slice v7 v8 v9, Value.int .i64 s2, Value.bool false] 27); have nBx := Lib.hid nB; clear nB; have hxx := Lib.hid (below_then HBA.out hbB HBA.out.size); have hz67 : w6.heap.size + 1 ≤ w7.heap.size := (by have := hb7.size; simp at this; omega); have hne : w6.heap.size ≠ w7.heap.size := (by omega); have hne' : w7.heap.size ≠ w6.heap.size := (by omega); have hecA := hec6.below (below_then ((Below.refl w6.heap.size w6).alloc (Nat.le_refl _) (Obj.cells #[Value.slice k4 k5 k6, Value.slice v4 v5 v6, Value.int .i64 s2, Value.bool false] 27)) hbB (by simp)); have hecB := hec7.alloc (Obj.cells #[Value.slice k7 k8 k9, Value.slice v7 v8 v9, Value.int .i64 s2, Value.bool false] 27); have nAx := Lib.hid nA; clear nA hbA hbB hb7 hb6 hec6 hec7)
                      | (refine wpList_store_row (o := ⟨none, .store 27 (.tmp 15) (.tmp 112), _, _, _, _⟩) (by rfl) 27 (.tmp 15) (.tmp 112) (by rfl) w6.heap.size #[Value.slice none 0 0, Value.slice none 0 0, Value.int .i64 0, Value.bool false] (by rfl) (by rfl) 27 _ nAx.out (by kernel_rfl) (by rfl) (by simp [Value.oneCell']) ?_; obtain ⟨wa, hwa, nA2, nB2, hx2⟩ := zset (cs := #[Value.slice none 0 0, Value.slice none 0 0, Value.int .i64 0, Value.bool false]) nAx.out nBx.out hne' hxx.out HB6.out.size; rw [hwa]; clear hwa a0 a1 a2 a3 g0 g1 g2 g3; have nAx := Lib.hid nA2; have nBx := Lib.hid nB2; have hxx := Lib.hid hx2; clear nA2 nB2 hx2; have e0 := cell_of_row _ w6.heap.size 0 _ _ _ nAx.out; have c0 := cell_of_row _ w7.heap.size 0 _ _ _ nBx.out; have e1 := cell_of_row _ w6.heap.size 1 _ _ _ nAx.out; have c1 := cell_of_row _ w7.heap.size 1 _ _ _ nBx.out; have e2 := cell_of_row _ w6.heap.size 2 _ _ _ nAx.out; have c2 := cell_of_row _ w7.heap.size 2 _ _ _ nBx.out; have e3 := cell_of_row _ w6.heap.size 3 _ _ _ nAx.out; have c3 := cell_of_row _ w7.heap.size 3 _ _ _ nBx.out)
                      | (refine wpList_store_row (o := ⟨none, .store 27 (.tmp 17) (.tmp 118), _, _, _, _⟩) (by rfl) 27 (.tmp 17) (.tmp 118) (by rfl) w7.heap.size #[Value.slice none 0 0, Value.slice none 0 0, Value.int .i64 0, Value.bool false] (by rfl) (by rfl) 27 _ nBx.out (by kernel_rfl) (by rfl) (by simp [Value.oneCell']) ?_; obtain ⟨wb, hwb, nB2, nA2, hx2⟩ := zset (cs := #[Value.slice none 0 0, Value.slice none 0 0, Value.int .i64 0, Value.bool false]) nBx.out nAx.out hne hxx.out (by have := HB6.out.size; omega); rw [hwb]; clear hwb; have nAx := Lib.hid nA2; have nBx := Lib.hid nB2; have hxx := Lib.hid hx2; clear nA2 nB2 hx2; have e0 := cell_of_row _ w6.heap.size 0 _ _ _ nAx.out; have c0 := cell_of_row _ w7.heap.size 0 _ _ _ nBx.out; have e1 := cell_of_row _ w6.heap.size 1 _ _ _ nAx.out; have c1 := cell_of_row _ w7.heap.size 1 _ _ _ nBx.out; have e2 := cell_of_row _ w6.heap.size 2 _ _ _ nAx.out; have c2 := cell_of_row _ w7.heap.size 2 _ _ _ nBx.out; have e3 := cell_of_row _ w6.heap.size 3 _ _ _ nAx.out; have c3 := cell_of_row _ w7.heap.size 3 _ _ _ nBx.out)
                      | (go_at_call 21; refine esame_any _ _ _ _ (⟨K2, V2, s2, false⟩ : Ent) (⟨K2, V2, s2, false⟩ : Ent) true (sameE_refl _) _ hecA hecB _ ?_; intro w8 hb8))
                    have hx8 := hxx.out
                    have hx9 := below_then hx8 hb8 hx8.size
                    have hx9' := below_then HBJ.out hx9 HBJ.out.size
                    go_roundg (N - (j + 1))
                    case measure => omega
                    case rel => exact ⟨j + 1, by omega, rfl, by go_num, hx9'⟩
                  | true =>
                    obtain ⟨e1, rfl⟩ := hone' rfl rfl rfl
                    simp only [zeroE, Ent.mk.injEq] at e1
                    obtain ⟨rfl, rfl, rfl, -⟩ := e1
                    clear hone hone' htwo
                    have HBJ := Lib.hid hbj
                    have HBR := Lib.hid hbr
                    go_wp2_with (first
                      | (go_at_call_of 20 (Value.slice (some ⟨vb, vo, none⟩) l1.length lc); go_must (refine see_x _ _ l1 K s _ _ _ _ _ HSA.out _ (HE5.out.below HBR.out) (HKEY.out.below HBJ.out) _ ?_); intro k4 k5 k6 v4 v5 v6 w6 hec6 hb6; have hbA := hb6.alloc hb6.size (Obj.cells #[Value.slice k4 k5 k6, Value.slice v4 v5 v6, Value.int .i64 0, Value.bool false] 27); have ca6 := cell_later hbA ca; have HB6 := Lib.hid hb6; have HBA := Lib.hid hbA)
                      | (go_at_call 20; go_must (refine see_x _ _ out K s _ _ _ _ _ HSB.out _ (HM5.out.below (below_then HBR.out HBA.out HBR.out.size)) (HKEY.out.below (below_then HBJ.out HBA.out HBJ.out.size)) _ ?_); intro k7 k8 k9 v7 v8 v9 w7 hec7 hb7; have hbB := hb7.alloc hb7.size (Obj.cells #[Value.slice k7 k8 k9, Value.slice v7 v8 v9, Value.int .i64 s2, Value.bool true] 27); have nA := row_later2 (heap_alloc_new w6 (Obj.cells #[Value.slice k4 k5 k6, Value.slice v4 v5 v6, Value.int .i64 0, Value.bool false] 27)) hbB; have a0 := cell_of_row _ w6.heap.size 0 _ _ _ nA; have a1 := cell_of_row _ w6.heap.size 1 _ _ _ nA; have a2 := cell_of_row _ w6.heap.size 2 _ _ _ nA; have a3 := cell_of_row _ w6.heap.size 3 _ _ _ nA; have g0 := frozen_block nA 0; have g1 := frozen_block nA 1; have g2 := frozen_block nA 2; have g3 := frozen_block nA 3; have nB := heap_alloc_new w7 (Obj.cells #[Value.slice k7 k8 k9, Value.slice v7 v8 v9, Value.int .i64 s2, Value.bool true] 27); have nBx := Lib.hid nB; clear nB; have hxx := Lib.hid (below_then HBA.out hbB HBA.out.size); have hz67 : w6.heap.size + 1 ≤ w7.heap.size := (by have := hb7.size; simp at this; omega); have hne : w6.heap.size ≠ w7.heap.size := (by omega); have hne' : w7.heap.size ≠ w6.heap.size := (by omega); have hecA := hec6.below (below_then ((Below.refl w6.heap.size w6).alloc (Nat.le_refl _) (Obj.cells #[Value.slice k4 k5 k6, Value.slice v4 v5 v6, Value.int .i64 0, Value.bool false] 27)) hbB (by simp)); have hecB := hec7.alloc (Obj.cells #[Value.slice k7 k8 k9, Value.slice v7 v8 v9, Value.int .i64 s2, Value.bool true] 27); have nAx := Lib.hid nA; clear nA hbA hbB hb7 hb6 hec6 hec7)
                      | (refine wpList_store_row (o := ⟨none, .store 27 (.tmp 15) (.tmp 112), _, _, _, _⟩) (by rfl) 27 (.tmp 15) (.tmp 112) (by rfl) w6.heap.size #[Value.slice none 0 0, Value.slice none 0 0, Value.int .i64 0, Value.bool false] (by rfl) (by rfl) 27 _ nAx.out (by kernel_rfl) (by rfl) (by simp [Value.oneCell']) ?_; obtain ⟨wa, hwa, nA2, nB2, hx2⟩ := zset (cs := #[Value.slice none 0 0, Value.slice none 0 0, Value.int .i64 0, Value.bool false]) nAx.out nBx.out hne' hxx.out HB6.out.size; rw [hwa]; clear hwa a0 a1 a2 a3 g0 g1 g2 g3; have nAx := Lib.hid nA2; have nBx := Lib.hid nB2; have hxx := Lib.hid hx2; clear nA2 nB2 hx2; have e0 := cell_of_row _ w6.heap.size 0 _ _ _ nAx.out; have c0 := cell_of_row _ w7.heap.size 0 _ _ _ nBx.out; have e1 := cell_of_row _ w6.heap.size 1 _ _ _ nAx.out; have c1 := cell_of_row _ w7.heap.size 1 _ _ _ nBx.out; have e2 := cell_of_row _ w6.heap.size 2 _ _ _ nAx.out; have c2 := cell_of_row _ w7.heap.size 2 _ _ _ nBx.out; have e3 := cell_of_row _ w6.heap.size 3 _ _ _ nAx.out; have c3 := cell_of_row _ w7.heap.size 3 _ _ _ nBx.out)
                      | (refine wpList_store_row (o := ⟨none, .store 27 (.tmp 17) (.tmp 118), _, _, _, _⟩) (by rfl) 27 (.tmp 17) (.tmp 118) (by rfl) w7.heap.size #[Value.slice none 0 0, Value.slice none 0 0, Value.int .i64 0, Value.bool false] (by rfl) (by rfl) 27 _ nBx.out (by kernel_rfl) (by rfl) (by simp [Value.oneCell']) ?_; obtain ⟨wb, hwb, nB2, nA2, hx2⟩ := zset (cs := #[Value.slice none 0 0, Value.slice none 0 0, Value.int .i64 0, Value.bool false]) nBx.out nAx.out hne hxx.out (by have := HB6.out.size; omega); rw [hwb]; clear hwb; have nAx := Lib.hid nA2; have nBx := Lib.hid nB2; have hxx := Lib.hid hx2; clear nA2 nB2 hx2; have e0 := cell_of_row _ w6.heap.size 0 _ _ _ nAx.out; have c0 := cell_of_row _ w7.heap.size 0 _ _ _ nBx.out; have e1 := cell_of_row _ w6.heap.size 1 _ _ _ nAx.out; have c1 := cell_of_row _ w7.heap.size 1 _ _ _ nBx.out; have e2 := cell_of_row _ w6.heap.size 2 _ _ _ nAx.out; have c2 := cell_of_row _ w7.heap.size 2 _ _ _ nBx.out; have e3 := cell_of_row _ w6.heap.size 3 _ _ _ nAx.out; have c3 := cell_of_row _ w7.heap.size 3 _ _ _ nBx.out)
                      | (go_at_call 21; refine esame_any _ _ _ _ zeroE zeroE true (sameE_refl _) _ (EC.zero hecA rfl) (EC.none _) _ ?_; intro w8 hb8))
                    have hx8 := hxx.out
                    have hx9 := below_then hx8 hb8 hx8.size
                    have hx9' := below_then HBJ.out hx9 HBJ.out.size
                    go_roundg (N - (j + 1))
                    case measure => omega
                    case rel => exact ⟨j + 1, by omega, rfl, by go_num, hx9'⟩
                | true =>
                  cases d2 with
                  | false =>
                    obtain ⟨e1, rfl⟩ := hone rfl rfl rfl
                    simp only [zeroE, Ent.mk.injEq] at e1
                    obtain ⟨rfl, rfl, rfl, -⟩ := e1
                    clear hone hone' htwo
                    have HBJ := Lib.hid hbj
                    have HBR := Lib.hid hbr
                    go_wp2_with (first
                      | (go_at_call_of 20 (Value.slice (some ⟨vb, vo, none⟩) l1.length lc); go_must (refine see_x _ _ l1 K s _ _ _ _ _ HSA.out _ (HE5.out.below HBR.out) (HKEY.out.below HBJ.out) _ ?_); intro k4 k5 k6 v4 v5 v6 w6 hec6 hb6; have hbA := hb6.alloc hb6.size (Obj.cells #[Value.slice k4 k5 k6, Value.slice v4 v5 v6, Value.int .i64 s1, Value.bool true] 27); have ca6 := cell_later hbA ca; have HB6 := Lib.hid hb6; have HBA := Lib.hid hbA)
                      | (go_at_call 20; go_must (refine see_x _ _ out K s _ _ _ _ _ HSB.out _ (HM5.out.below (below_then HBR.out HBA.out HBR.out.size)) (HKEY.out.below (below_then HBJ.out HBA.out HBJ.out.size)) _ ?_); intro k7 k8 k9 v7 v8 v9 w7 hec7 hb7; have hbB := hb7.alloc hb7.size (Obj.cells #[Value.slice k7 k8 k9, Value.slice v7 v8 v9, Value.int .i64 0, Value.bool false] 27); have nA := row_later2 (heap_alloc_new w6 (Obj.cells #[Value.slice k4 k5 k6, Value.slice v4 v5 v6, Value.int .i64 s1, Value.bool true] 27)) hbB; have a0 := cell_of_row _ w6.heap.size 0 _ _ _ nA; have a1 := cell_of_row _ w6.heap.size 1 _ _ _ nA; have a2 := cell_of_row _ w6.heap.size 2 _ _ _ nA; have a3 := cell_of_row _ w6.heap.size 3 _ _ _ nA; have g0 := frozen_block nA 0; have g1 := frozen_block nA 1; have g2 := frozen_block nA 2; have g3 := frozen_block nA 3; have nB := heap_alloc_new w7 (Obj.cells #[Value.slice k7 k8 k9, Value.slice v7 v8 v9, Value.int .i64 0, Value.bool false] 27); have nBx := Lib.hid nB; clear nB; have hxx := Lib.hid (below_then HBA.out hbB HBA.out.size); have hz67 : w6.heap.size + 1 ≤ w7.heap.size := (by have := hb7.size; simp at this; omega); have hne : w6.heap.size ≠ w7.heap.size := (by omega); have hne' : w7.heap.size ≠ w6.heap.size := (by omega); have hecA := hec6.below (below_then ((Below.refl w6.heap.size w6).alloc (Nat.le_refl _) (Obj.cells #[Value.slice k4 k5 k6, Value.slice v4 v5 v6, Value.int .i64 s1, Value.bool true] 27)) hbB (by simp)); have hecB := hec7.alloc (Obj.cells #[Value.slice k7 k8 k9, Value.slice v7 v8 v9, Value.int .i64 0, Value.bool false] 27); have nAx := Lib.hid nA; clear nA hbA hbB hb7 hb6 hec6 hec7)
                      | (refine wpList_store_row (o := ⟨none, .store 27 (.tmp 15) (.tmp 112), _, _, _, _⟩) (by rfl) 27 (.tmp 15) (.tmp 112) (by rfl) w6.heap.size #[Value.slice none 0 0, Value.slice none 0 0, Value.int .i64 0, Value.bool false] (by rfl) (by rfl) 27 _ nAx.out (by kernel_rfl) (by rfl) (by simp [Value.oneCell']) ?_; obtain ⟨wa, hwa, nA2, nB2, hx2⟩ := zset (cs := #[Value.slice none 0 0, Value.slice none 0 0, Value.int .i64 0, Value.bool false]) nAx.out nBx.out hne' hxx.out HB6.out.size; rw [hwa]; clear hwa a0 a1 a2 a3 g0 g1 g2 g3; have nAx := Lib.hid nA2; have nBx := Lib.hid nB2; have hxx := Lib.hid hx2; clear nA2 nB2 hx2; have e0 := cell_of_row _ w6.heap.size 0 _ _ _ nAx.out; have c0 := cell_of_row _ w7.heap.size 0 _ _ _ nBx.out; have e1 := cell_of_row _ w6.heap.size 1 _ _ _ nAx.out; have c1 := cell_of_row _ w7.heap.size 1 _ _ _ nBx.out; have e2 := cell_of_row _ w6.heap.size 2 _ _ _ nAx.out; have c2 := cell_of_row _ w7.heap.size 2 _ _ _ nBx.out; have e3 := cell_of_row _ w6.heap.size 3 _ _ _ nAx.out; have c3 := cell_of_row _ w7.heap.size 3 _ _ _ nBx.out)
                      | (refine wpList_store_row (o := ⟨none, .store 27 (.tmp 17) (.tmp 118), _, _, _, _⟩) (by rfl) 27 (.tmp 17) (.tmp 118) (by rfl) w7.heap.size #[Value.slice none 0 0, Value.slice none 0 0, Value.int .i64 0, Value.bool false] (by rfl) (by rfl) 27 _ nBx.out (by kernel_rfl) (by rfl) (by simp [Value.oneCell']) ?_; obtain ⟨wb, hwb, nB2, nA2, hx2⟩ := zset (cs := #[Value.slice none 0 0, Value.slice none 0 0, Value.int .i64 0, Value.bool false]) nBx.out nAx.out hne hxx.out (by have := HB6.out.size; omega); rw [hwb]; clear hwb; have nAx := Lib.hid nA2; have nBx := Lib.hid nB2; have hxx := Lib.hid hx2; clear nA2 nB2 hx2; have e0 := cell_of_row _ w6.heap.size 0 _ _ _ nAx.out; have c0 := cell_of_row _ w7.heap.size 0 _ _ _ nBx.out; have e1 := cell_of_row _ w6.heap.size 1 _ _ _ nAx.out; have c1 := cell_of_row _ w7.heap.size 1 _ _ _ nBx.out; have e2 := cell_of_row _ w6.heap.size 2 _ _ _ nAx.out; have c2 := cell_of_row _ w7.heap.size 2 _ _ _ nBx.out; have e3 := cell_of_row _ w6.heap.size 3 _ _ _ nAx.out; have c3 := cell_of_row _ w7.heap.size 3 _ _ _ nBx.out)
                      | (go_at_call 21; refine esame_any _ _ _ _ zeroE zeroE true (sameE_refl _) _ (EC.none _) (EC.zero hecB rfl) _ ?_; intro w8 hb8))
                    have hx8 := hxx.out
                    have hx9 := below_then hx8 hb8 hx8.size
                    have hx9' := below_then HBJ.out hx9 HBJ.out.size
                    go_roundg (N - (j + 1))
                    case measure => omega
                    case rel => exact ⟨j + 1, by omega, rfl, by go_num, hx9'⟩
                  | true =>
                    clear hone hone' htwo
                    have HBJ := Lib.hid hbj
                    have HBR := Lib.hid hbr
                    go_wp2_with (first
                      | (go_at_call_of 20 (Value.slice (some ⟨vb, vo, none⟩) l1.length lc); go_must (refine see_x _ _ l1 K s _ _ _ _ _ HSA.out _ (HE5.out.below HBR.out) (HKEY.out.below HBJ.out) _ ?_); intro k4 k5 k6 v4 v5 v6 w6 hec6 hb6; have hbA := hb6.alloc hb6.size (Obj.cells #[Value.slice k4 k5 k6, Value.slice v4 v5 v6, Value.int .i64 s1, Value.bool true] 27); have ca6 := cell_later hbA ca; have HB6 := Lib.hid hb6; have HBA := Lib.hid hbA)
                      | (go_at_call 20; go_must (refine see_x _ _ out K s _ _ _ _ _ HSB.out _ (HM5.out.below (below_then HBR.out HBA.out HBR.out.size)) (HKEY.out.below (below_then HBJ.out HBA.out HBJ.out.size)) _ ?_); intro k7 k8 k9 v7 v8 v9 w7 hec7 hb7; have hbB := hb7.alloc hb7.size (Obj.cells #[Value.slice k7 k8 k9, Value.slice v7 v8 v9, Value.int .i64 s2, Value.bool true] 27); have nA := row_later2 (heap_alloc_new w6 (Obj.cells #[Value.slice k4 k5 k6, Value.slice v4 v5 v6, Value.int .i64 s1, Value.bool true] 27)) hbB; have a0 := cell_of_row _ w6.heap.size 0 _ _ _ nA; have a1 := cell_of_row _ w6.heap.size 1 _ _ _ nA; have a2 := cell_of_row _ w6.heap.size 2 _ _ _ nA; have a3 := cell_of_row _ w6.heap.size 3 _ _ _ nA; have g0 := frozen_block nA 0; have g1 := frozen_block nA 1; have g2 := frozen_block nA 2; have g3 := frozen_block nA 3; have nB := heap_alloc_new w7 (Obj.cells #[Value.slice k7 k8 k9, Value.slice v7 v8 v9, Value.int .i64 s2, Value.bool true] 27); have nBx := Lib.hid nB; clear nB; have hxx := Lib.hid (below_then HBA.out hbB HBA.out.size); have hz67 : w6.heap.size + 1 ≤ w7.heap.size := (by have := hb7.size; simp at this; omega); have hne : w6.heap.size ≠ w7.heap.size := (by omega); have hne' : w7.heap.size ≠ w6.heap.size := (by omega); have hecA := hec6.below (below_then ((Below.refl w6.heap.size w6).alloc (Nat.le_refl _) (Obj.cells #[Value.slice k4 k5 k6, Value.slice v4 v5 v6, Value.int .i64 s1, Value.bool true] 27)) hbB (by simp)); have hecB := hec7.alloc (Obj.cells #[Value.slice k7 k8 k9, Value.slice v7 v8 v9, Value.int .i64 s2, Value.bool true] 27); have nAx := Lib.hid nA; clear nA hbA hbB hb7 hb6 hec6 hec7)
                      | (refine wpList_store_row (o := ⟨none, .store 27 (.tmp 15) (.tmp 112), _, _, _, _⟩) (by rfl) 27 (.tmp 15) (.tmp 112) (by rfl) w6.heap.size #[Value.slice none 0 0, Value.slice none 0 0, Value.int .i64 0, Value.bool false] (by rfl) (by rfl) 27 _ nAx.out (by kernel_rfl) (by rfl) (by simp [Value.oneCell']) ?_; obtain ⟨wa, hwa, nA2, nB2, hx2⟩ := zset (cs := #[Value.slice none 0 0, Value.slice none 0 0, Value.int .i64 0, Value.bool false]) nAx.out nBx.out hne' hxx.out HB6.out.size; rw [hwa]; clear hwa a0 a1 a2 a3 g0 g1 g2 g3; have nAx := Lib.hid nA2; have nBx := Lib.hid nB2; have hxx := Lib.hid hx2; clear nA2 nB2 hx2; have e0 := cell_of_row _ w6.heap.size 0 _ _ _ nAx.out; have c0 := cell_of_row _ w7.heap.size 0 _ _ _ nBx.out; have e1 := cell_of_row _ w6.heap.size 1 _ _ _ nAx.out; have c1 := cell_of_row _ w7.heap.size 1 _ _ _ nBx.out; have e2 := cell_of_row _ w6.heap.size 2 _ _ _ nAx.out; have c2 := cell_of_row _ w7.heap.size 2 _ _ _ nBx.out; have e3 := cell_of_row _ w6.heap.size 3 _ _ _ nAx.out; have c3 := cell_of_row _ w7.heap.size 3 _ _ _ nBx.out)
                      | (refine wpList_store_row (o := ⟨none, .store 27 (.tmp 17) (.tmp 118), _, _, _, _⟩) (by rfl) 27 (.tmp 17) (.tmp 118) (by rfl) w7.heap.size #[Value.slice none 0 0, Value.slice none 0 0, Value.int .i64 0, Value.bool false] (by rfl) (by rfl) 27 _ nBx.out (by kernel_rfl) (by rfl) (by simp [Value.oneCell']) ?_; obtain ⟨wb, hwb, nB2, nA2, hx2⟩ := zset (cs := #[Value.slice none 0 0, Value.slice none 0 0, Value.int .i64 0, Value.bool false]) nBx.out nAx.out hne hxx.out (by have := HB6.out.size; omega); rw [hwb]; clear hwb; have nAx := Lib.hid nA2; have nBx := Lib.hid nB2; have hxx := Lib.hid hx2; clear nA2 nB2 hx2; have e0 := cell_of_row _ w6.heap.size 0 _ _ _ nAx.out; have c0 := cell_of_row _ w7.heap.size 0 _ _ _ nBx.out; have e1 := cell_of_row _ w6.heap.size 1 _ _ _ nAx.out; have c1 := cell_of_row _ w7.heap.size 1 _ _ _ nBx.out; have e2 := cell_of_row _ w6.heap.size 2 _ _ _ nAx.out; have c2 := cell_of_row _ w7.heap.size 2 _ _ _ nBx.out; have e3 := cell_of_row _ w6.heap.size 3 _ _ _ nAx.out; have c3 := cell_of_row _ w7.heap.size 3 _ _ _ nBx.out)
                      | (go_at_call 21; refine esame_any _ _ _ _ zeroE zeroE true (sameE_refl _) _ (EC.none _) (EC.none _) _ ?_; intro w8 hb8))
                    have hx8 := hxx.out
                    have hx9 := below_then hx8 hb8 hx8.size
                    have hx9' := below_then HBJ.out hx9 HBJ.out.size
                    go_roundg (N - (j + 1))
                    case measure => omega
                    case rel => exact ⟨j + 1, by omega, rfl, by go_num, hx9'⟩
            · have hji : ¬ (j : Int) < (N : Int) := by omega
              go_wp2
              go_roundg (l1.length + ks.length - (k + 1))
              case measure => omega
              case rel => exact ⟨k + 1, by omega, rfl, by go_num, below_then hb hbj hb.size⟩
        · have hkli : ¬ (k : Int) < (l1.length : Int) := by omega
          obtain ⟨va', vc', ee, _, v4⟩ := HK5.out.below hb
          simp only [Value.slice.injEq] at ee
          obtain ⟨rfl, -, rfl⟩ := ee
          obtain ⟨vb, vo, rfl, v5⟩ := v4 (by omega)
          obtain ⟨q, hq⟩ : ∃ q, k - l1.length = q := ⟨_, rfl⟩
          have hqi : (k : Int) - (l1.length : Int) = (q : Int) := by omega
          have hql : q < ks.length := by omega
          have hqli : (q : Int) < (ks.length : Int) := by omega
          obtain ⟨k0, p0, hkey⟩ := v5 q hql
          obtain ⟨K, hK⟩ : ∃ K, ks[q] = K := ⟨_, rfl⟩
          rw [hK] at hkey
          obtain ⟨k1, kc, rfl, _⟩ := id hkey
          clear v4 v5 hK
          go_wp2
          have HKEY := Lib.hid hkey
          clear hkey
          go_loopg [14] N (fun gn i wr => ∃ j : Nat, j ≤ N ∧ gn = N - j ∧ i = .int .i64 j ∧ Below wo.heap.size wo wr)
          case atStart => exact ⟨0, Nat.zero_le _, by omega, rfl, Below.refl _ _⟩
          case round =>
            obtain ⟨j, hj, rfl, rfl, hbj⟩ := hrel
            by_cases hjl : j < N
            · have hji : (j : Int) < (N : Int) := by omega
              have hbr := below_then hb hbj hb.size
              obtain ⟨ab, ao, rfl, ca⟩ := (HAT.out.below hbr).at j (by omega)
              obtain ⟨s, hs⟩ : ∃ s, ys[j]'(by omega) = s := ⟨_, rfl⟩
              have hsm : s ∈ ys := by rw [← hs]; exact List.getElem_mem _
              rw [hs] at ca
              obtain ⟨ra, hra⟩ : ∃ ra, seeL l1 K s = ra := ⟨_, rfl⟩
              obtain ⟨rb, hrb⟩ : ∃ rb, seeL out K s = rb := ⟨_, rfl⟩
              have hlv := HSX.out K s hsm
              rw [hra, hrb] at hlv
              obtain ⟨x, hx⟩ : ∃ x, ra.getD zeroE = x := ⟨_, rfl⟩
              obtain ⟨y, hy⟩ : ∃ y, rb.getD zeroE = y := ⟨_, rfl⟩
              obtain ⟨qa, hqa⟩ : ∃ q, ra.isSome = q := ⟨_, rfl⟩
              obtain ⟨qb, hqb⟩ : ∃ q, rb.isSome = q := ⟨_, rfl⟩
              have hone : x.dead = true → y.dead = false → bt = true → y = zeroE ∧ qb = false := by
                intro h1 h2 h3
                subst h3
                have := live_one hlv (by rw [hx]; exact h1) (by rw [hy]; exact h2)
                rw [← hy, ← hqb, this]
                exact ⟨rfl, rfl⟩
              have hone' : x.dead = false → y.dead = true → bt = true → x = zeroE ∧ qa = false := by
                intro h1 h2 h3
                subst h3
                have := live_one hlv.symm (by rw [hy]; exact h2) (by rw [hx]; exact h1)
                rw [← hx, ← hqa, this]
                exact ⟨rfl, rfl⟩
              have htwo : bt = false ∨ (x.dead = false ∧ y.dead = false) → y = x ∧ qb = qa := by
                intro h
                have hab : rb = ra := by
                  rcases h with h | ⟨h1, h2⟩
                  · subst h
                    exact live_zero _ _ hlv
                  · cases bt with
                    | false => exact live_zero _ _ hlv
                    | true => exact live_two hlv (by rw [hx]; exact h1) (by rw [hy]; exact h2)
                subst hab
                exact ⟨hy.symm.trans hx, hqb.symm.trans hqa⟩
              obtain ⟨K1, V1, s1, d1⟩ := x
              obtain ⟨K2, V2, s2, d2⟩ := y
              have HSA : Hid (∃ r, seeL l1 K s = r ∧ r.getD zeroE = ⟨K1, V1, s1, d1⟩ ∧ r.isSome = qa) := Lib.hid ⟨ra, hra, hx, hqa⟩
              have HSB : Hid (∃ r, seeL out K s = r ∧ r.getD zeroE = ⟨K2, V2, s2, d2⟩ ∧ r.isSome = qb) := Lib.hid ⟨rb, hrb, hy, hqb⟩
              clear hlv hra hrb hs hsm hx hy hqa hqb
              cases bt with
              | false =>
                obtain ⟨e1, e2⟩ := htwo (.inl rfl)
                subst e2
                simp only [Ent.mk.injEq] at e1
                obtain ⟨rfl, rfl, rfl, rfl⟩ := e1
                clear hone hone' htwo
                have HBJ := Lib.hid hbj
                have HBR := Lib.hid hbr
                go_wp2_with (first
                  | (go_at_call_of 20 (Value.slice la l1.length lc); go_must (refine see_x _ _ l1 K s _ _ _ _ _ HSA.out _ (HE5.out.below HBR.out) (HKEY.out.below HBJ.out) _ ?_); intro k4 k5 k6 v4 v5 v6 w6 hec6 hb6; have hbA := hb6.alloc hb6.size (Obj.cells #[Value.slice k4 k5 k6, Value.slice v4 v5 v6, Value.int .i64 s2, Value.bool d2] 27); have ca6 := cell_later hbA ca; have HB6 := Lib.hid hb6; have HBA := Lib.hid hbA)
                  | (go_at_call 20; go_must (refine see_x _ _ out K s _ _ _ _ _ HSB.out _ (HM5.out.below (below_then HBR.out HBA.out HBR.out.size)) (HKEY.out.below (below_then HBJ.out HBA.out HBJ.out.size)) _ ?_); intro k7 k8 k9 v7 v8 v9 w7 hec7 hb7; have hbB := hb7.alloc hb7.size (Obj.cells #[Value.slice k7 k8 k9, Value.slice v7 v8 v9, Value.int .i64 s2, Value.bool d2] 27); have nA := row_later2 (heap_alloc_new w6 (Obj.cells #[Value.slice k4 k5 k6, Value.slice v4 v5 v6, Value.int .i64 s2, Value.bool d2] 27)) hbB; have a0 := cell_of_row _ w6.heap.size 0 _ _ _ nA; have a1 := cell_of_row _ w6.heap.size 1 _ _ _ nA; have a2 := cell_of_row _ w6.heap.size 2 _ _ _ nA; have a3 := cell_of_row _ w6.heap.size 3 _ _ _ nA; have g0 := frozen_block nA 0; have g1 := frozen_block nA 1; have g2 := frozen_block nA 2; have g3 := frozen_block nA 3; have nB := heap_alloc_new w7 (Obj.cells #[Value.slice k7 k8 k9, Value.slice v7 v8 v9, Value.int .i64 s2, Value.bool d2] 27); have nBx := Lib.hid nB; clear nB; have hxx := Lib.hid (below_then HBA.out hbB HBA.out.size); have hz67 : w6.heap.size + 1 ≤ w7.heap.size := (by have := hb7.size; simp at this; omega); have hne : w6.heap.size ≠ w7.heap.size := (by omega); have hne' : w7.heap.size ≠ w6.heap.size := (by omega); have hecA := hec6.below (below_then ((Below.refl w6.heap.size w6).alloc (Nat.le_refl _) (Obj.cells #[Value.slice k4 k5 k6, Value.slice v4 v5 v6, Value.int .i64 s2, Value.bool d2] 27)) hbB (by simp)); have hecB := hec7.alloc (Obj.cells #[Value.slice k7 k8 k9, Value.slice v7 v8 v9, Value.int .i64 s2, Value.bool d2] 27); have nAx := Lib.hid nA; clear nA hbA hbB hb7 hb6 hec6 hec7)
                  | (refine wpList_store_row (o := ⟨none, .store 27 (.tmp 15) (.tmp 112), _, _, _, _⟩) (by rfl) 27 (.tmp 15) (.tmp 112) (by rfl) w6.heap.size #[Value.slice none 0 0, Value.slice none 0 0, Value.int .i64 0, Value.bool false] (by rfl) (by rfl) 27 _ nAx.out (by kernel_rfl) (by rfl) (by simp [Value.oneCell']) ?_; obtain ⟨wa, hwa, nA2, nB2, hx2⟩ := zset (cs := #[Value.slice none 0 0, Value.slice none 0 0, Value.int .i64 0, Value.bool false]) nAx.out nBx.out hne' hxx.out HB6.out.size; rw [hwa]; clear hwa a0 a1 a2 a3 g0 g1 g2 g3; have nAx := Lib.hid nA2; have nBx := Lib.hid nB2; have hxx := Lib.hid hx2; clear nA2 nB2 hx2; have e0 := cell_of_row _ w6.heap.size 0 _ _ _ nAx.out; have c0 := cell_of_row _ w7.heap.size 0 _ _ _ nBx.out; have e1 := cell_of_row _ w6.heap.size 1 _ _ _ nAx.out; have c1 := cell_of_row _ w7.heap.size 1 _ _ _ nBx.out; have e2 := cell_of_row _ w6.heap.size 2 _ _ _ nAx.out; have c2 := cell_of_row _ w7.heap.size 2 _ _ _ nBx.out; have e3 := cell_of_row _ w6.heap.size 3 _ _ _ nAx.out; have c3 := cell_of_row _ w7.heap.size 3 _ _ _ nBx.out)
                  | (refine wpList_store_row (o := ⟨none, .store 27 (.tmp 17) (.tmp 118), _, _, _, _⟩) (by rfl) 27 (.tmp 17) (.tmp 118) (by rfl) w7.heap.size #[Value.slice none 0 0, Value.slice none 0 0, Value.int .i64 0, Value.bool false] (by rfl) (by rfl) 27 _ nBx.out (by kernel_rfl) (by rfl) (by simp [Value.oneCell']) ?_; obtain ⟨wb, hwb, nB2, nA2, hx2⟩ := zset (cs := #[Value.slice none 0 0, Value.slice none 0 0, Value.int .i64 0, Value.bool false]) nBx.out nAx.out hne hxx.out (by have := HB6.out.size; omega); rw [hwb]; clear hwb; have nAx := Lib.hid nA2; have nBx := Lib.hid nB2; have hxx := Lib.hid hx2; clear nA2 nB2 hx2; have e0 := cell_of_row _ w6.heap.size 0 _ _ _ nAx.out; have c0 := cell_of_row _ w7.heap.size 0 _ _ _ nBx.out; have e1 := cell_of_row _ w6.heap.size 1 _ _ _ nAx.out; have c1 := cell_of_row _ w7.heap.size 1 _ _ _ nBx.out; have e2 := cell_of_row _ w6.heap.size 2 _ _ _ nAx.out; have c2 := cell_of_row _ w7.heap.size 2 _ _ _ nBx.out; have e3 := cell_of_row _ w6.heap.size 3 _ _ _ nAx.out; have c3 := cell_of_row _ w7.heap.size 3 _ _ _ nBx.out)
                  | (go_at_call 21; refine esame_any _ _ _ _ (⟨K2, V2, s2, d2⟩ : Ent) (⟨K2, V2, s2, d2⟩ : Ent) true (sameE_refl _) _ hecA hecB _ ?_; intro w8 hb8))
                have hx8 := hxx.out
                have hx9 := below_then hx8 hb8 hx8.size
                have hx9' := below_then HBJ.out hx9 HBJ.out.size
                go_roundg (N - (j + 1))
                case measure => omega
                case rel => exact ⟨j + 1, by omega, rfl, by go_num, hx9'⟩
              | true =>
                cases d1 with
                | false =>
                  cases d2 with
                  | false =>
                    obtain ⟨e1, e2⟩ := htwo (.inr ⟨rfl, rfl⟩)
                    subst e2
                    simp only [Ent.mk.injEq] at e1
                    obtain ⟨rfl, rfl, rfl, -⟩ := e1
                    clear hone hone' htwo
                    have HBJ := Lib.hid hbj
                    have HBR := Lib.hid hbr
                    go_wp2_with (first
                      | (go_at_call_of 20 (Value.slice la l1.length lc); go_must (refine see_x _ _ l1 K s _ _ _ _ _ HSA.out _ (HE5.out.below HBR.out) (HKEY.out.below HBJ.out) _ ?_); intro k4 k5 k6 v4 v5 v6 w6 hec6 hb6; have hbA := hb6.alloc hb6.size (Obj.cells #[Value.slice k4 k5 k6, Value.slice v4 v5 v6, Value.int .i64 s2, Value.bool false] 27); have ca6 := cell_later hbA ca; have HB6 := Lib.hid hb6; have HBA := Lib.hid hbA)
                      | (go_at_call 20; go_must (refine see_x _ _ out K s _ _ _ _ _ HSB.out _ (HM5.out.below (below_then HBR.out HBA.out HBR.out.size)) (HKEY.out.below (below_then HBJ.out HBA.out HBJ.out.size)) _ ?_); intro k7 k8 k9 v7 v8 v9 w7 hec7 hb7; have hbB := hb7.alloc hb7.size (Obj.cells #[Value.slice k7 k8 k9, Value.slice v7 v8 v9, Value.int .i64 s2, Value.bool false] 27); have nA := row_later2 (heap_alloc_new w6 (Obj.cells #[Value.slice k4 k5 k6, Value.slice v4 v5 v6, Value.int .i64 s2, Value.bool false] 27)) hbB; have a0 := cell_of_row _ w6.heap.size 0 _ _ _ nA; have a1 := cell_of_row _ w6.heap.size 1 _ _ _ nA; have a2 := cell_of_row _ w6.heap.size 2 _ _ _ nA; have a3 := cell_of_row _ w6.heap.size 3 _ _ _ nA; have g0 := frozen_block nA 0; have g1 := frozen_block nA 1; have g2 := frozen_block nA 2; have g3 := frozen_block nA 3; have nB := heap_alloc_new w7 (Obj.cells #[Value.slice k7 k8 k9, Value.slice v7 v8 v9, Value.int .i64 s2, Value.bool false] 27); have nBx := Lib.hid nB; clear nB; have hxx := Lib.hid (below_then HBA.out hbB HBA.out.size); have hz67 : w6.heap.size + 1 ≤ w7.heap.size := (by have := hb7.size; simp at this; omega); have hne : w6.heap.size ≠ w7.heap.size := (by omega); have hne' : w7.heap.size ≠ w6.heap.size := (by omega); have hecA := hec6.below (below_then ((Below.refl w6.heap.size w6).alloc (Nat.le_refl _) (Obj.cells #[Value.slice k4 k5 k6, Value.slice v4 v5 v6, Value.int .i64 s2, Value.bool false] 27)) hbB (by simp)); have hecB := hec7.alloc (Obj.cells #[Value.slice k7 k8 k9, Value.slice v7 v8 v9, Value.int .i64 s2, Value.bool false] 27); have nAx := Lib.hid nA; clear nA hbA hbB hb7 hb6 hec6 hec7)
                      | (refine wpList_store_row (o := ⟨none, .store 27 (.tmp 15) (.tmp 112), _, _, _, _⟩) (by rfl) 27 (.tmp 15) (.tmp 112) (by rfl) w6.heap.size #[Value.slice none 0 0, Value.slice none 0 0, Value.int .i64 0, Value.bool false] (by rfl) (by rfl) 27 _ nAx.out (by kernel_rfl) (by rfl) (by simp [Value.oneCell']) ?_; obtain ⟨wa, hwa, nA2, nB2, hx2⟩ := zset (cs := #[Value.slice none 0 0, Value.slice none 0 0, Value.int .i64 0, Value.bool false]) nAx.out nBx.out hne' hxx.out HB6.out.size; rw [hwa]; clear hwa a0 a1 a2 a3 g0 g1 g2 g3; have nAx := Lib.hid nA2; have nBx := Lib.hid nB2; have hxx := Lib.hid hx2; clear nA2 nB2 hx2; have e0 := cell_of_row _ w6.heap.size 0 _ _ _ nAx.out; have c0 := cell_of_row _ w7.heap.size 0 _ _ _ nBx.out; have e1 := cell_of_row _ w6.heap.size 1 _ _ _ nAx.out; have c1 := cell_of_row _ w7.heap.size 1 _ _ _ nBx.out; have e2 := cell_of_row _ w6.heap.size 2 _ _ _ nAx.out; have c2 := cell_of_row _ w7.heap.size 2 _ _ _ nBx.out; have e3 := cell_of_row _ w6.heap.size 3 _ _ _ nAx.out; have c3 := cell_of_row _ w7.heap.size 3 _ _ _ nBx.out)
                      | (refine wpList_store_row (o := ⟨none, .store 27 (.tmp 17) (.tmp 118), _, _, _, _⟩) (by rfl) 27 (.tmp 17) (.tmp 118) (by rfl) w7.heap.size #[Value.slice none 0 0, Value.slice none 0 0, Value.int .i64 0, Value.bool false] (by rfl) (by rfl) 27 _ nBx.out (by kernel_rfl) (by rfl) (by simp [Value.oneCell']) ?_; obtain ⟨wb, hwb, nB2, nA2, hx2⟩ := zset (cs := #[Value.slice none 0 0, Value.slice none 0 0, Value.int .i64 0, Value.bool false]) nBx.out nAx.out hne hxx.out (by have := HB6.out.size; omega); rw [hwb]; clear hwb; have nAx := Lib.hid nA2; have nBx := Lib.hid nB2; have hxx := Lib.hid hx2; clear nA2 nB2 hx2; have e0 := cell_of_row _ w6.heap.size 0 _ _ _ nAx.out; have c0 := cell_of_row _ w7.heap.size 0 _ _ _ nBx.out; have e1 := cell_of_row _ w6.heap.size 1 _ _ _ nAx.out; have c1 := cell_of_row _ w7.heap.size 1 _ _ _ nBx.out; have e2 := cell_of_row _ w6.heap.size 2 _ _ _ nAx.out; have c2 := cell_of_row _ w7.heap.size 2 _ _ _ nBx.out; have e3 := cell_of_row _ w6.heap.size 3 _ _ _ nAx.out; have c3 := cell_of_row _ w7.heap.size 3 _ _ _ nBx.out)
                      | (go_at_call 21; refine esame_any _ _ _ _ (⟨K2, V2, s2, false⟩ : Ent) (⟨K2, V2, s2, false⟩ : Ent) true (sameE_refl _) _ hecA hecB _ ?_; intro w8 hb8))
                    have hx8 := hxx.out
                    have hx9 := below_then hx8 hb8 hx8.size
                    have hx9' := below_then HBJ.out hx9 HBJ.out.size
                    go_roundg (N - (j + 1))
                    case measure => omega
                    case rel => exact ⟨j + 1, by omega, rfl, by go_num, hx9'⟩
                  | true =>
                    obtain ⟨e1, rfl⟩ := hone' rfl rfl rfl
                    simp only [zeroE, Ent.mk.injEq] at e1
                    obtain ⟨rfl, rfl, rfl, -⟩ := e1
                    clear hone hone' htwo
                    have HBJ := Lib.hid hbj
                    have HBR := Lib.hid hbr
                    go_wp2_with (first
                      | (go_at_call_of 20 (Value.slice la l1.length lc); go_must (refine see_x _ _ l1 K s _ _ _ _ _ HSA.out _ (HE5.out.below HBR.out) (HKEY.out.below HBJ.out) _ ?_); intro k4 k5 k6 v4 v5 v6 w6 hec6 hb6; have hbA := hb6.alloc hb6.size (Obj.cells #[Value.slice k4 k5 k6, Value.slice v4 v5 v6, Value.int .i64 0, Value.bool false] 27); have ca6 := cell_later hbA ca; have HB6 := Lib.hid hb6; have HBA := Lib.hid hbA)
                      | (go_at_call 20; go_must (refine see_x _ _ out K s _ _ _ _ _ HSB.out _ (HM5.out.below (below_then HBR.out HBA.out HBR.out.size)) (HKEY.out.below (below_then HBJ.out HBA.out HBJ.out.size)) _ ?_); intro k7 k8 k9 v7 v8 v9 w7 hec7 hb7; have hbB := hb7.alloc hb7.size (Obj.cells #[Value.slice k7 k8 k9, Value.slice v7 v8 v9, Value.int .i64 s2, Value.bool true] 27); have nA := row_later2 (heap_alloc_new w6 (Obj.cells #[Value.slice k4 k5 k6, Value.slice v4 v5 v6, Value.int .i64 0, Value.bool false] 27)) hbB; have a0 := cell_of_row _ w6.heap.size 0 _ _ _ nA; have a1 := cell_of_row _ w6.heap.size 1 _ _ _ nA; have a2 := cell_of_row _ w6.heap.size 2 _ _ _ nA; have a3 := cell_of_row _ w6.heap.size 3 _ _ _ nA; have g0 := frozen_block nA 0; have g1 := frozen_block nA 1; have g2 := frozen_block nA 2; have g3 := frozen_block nA 3; have nB := heap_alloc_new w7 (Obj.cells #[Value.slice k7 k8 k9, Value.slice v7 v8 v9, Value.int .i64 s2, Value.bool true] 27); have nBx := Lib.hid nB; clear nB; have hxx := Lib.hid (below_then HBA.out hbB HBA.out.size); have hz67 : w6.heap.size + 1 ≤ w7.heap.size := (by have := hb7.size; simp at this; omega); have hne : w6.heap.size ≠ w7.heap.size := (by omega); have hne' : w7.heap.size ≠ w6.heap.size := (by omega); have hecA := hec6.below (below_then ((Below.refl w6.heap.size w6).alloc (Nat.le_refl _) (Obj.cells #[Value.slice k4 k5 k6, Value.slice v4 v5 v6, Value.int .i64 0, Value.bool false] 27)) hbB (by simp)); have hecB := hec7.alloc (Obj.cells #[Value.slice k7 k8 k9, Value.slice v7 v8 v9, Value.int .i64 s2, Value.bool true] 27); have nAx := Lib.hid nA; clear nA hbA hbB hb7 hb6 hec6 hec7)
                      | (refine wpList_store_row (o := ⟨none, .store 27 (.tmp 15) (.tmp 112), _, _, _, _⟩) (by rfl) 27 (.tmp 15) (.tmp 112) (by rfl) w6.heap.size #[Value.slice none 0 0, Value.slice none 0 0, Value.int .i64 0, Value.bool false] (by rfl) (by rfl) 27 _ nAx.out (by kernel_rfl) (by rfl) (by simp [Value.oneCell']) ?_; obtain ⟨wa, hwa, nA2, nB2, hx2⟩ := zset (cs := #[Value.slice none 0 0, Value.slice none 0 0, Value.int .i64 0, Value.bool false]) nAx.out nBx.out hne' hxx.out HB6.out.size; rw [hwa]; clear hwa a0 a1 a2 a3 g0 g1 g2 g3; have nAx := Lib.hid nA2; have nBx := Lib.hid nB2; have hxx := Lib.hid hx2; clear nA2 nB2 hx2; have e0 := cell_of_row _ w6.heap.size 0 _ _ _ nAx.out; have c0 := cell_of_row _ w7.heap.size 0 _ _ _ nBx.out; have e1 := cell_of_row _ w6.heap.size 1 _ _ _ nAx.out; have c1 := cell_of_row _ w7.heap.size 1 _ _ _ nBx.out; have e2 := cell_of_row _ w6.heap.size 2 _ _ _ nAx.out; have c2 := cell_of_row _ w7.heap.size 2 _ _ _ nBx.out; have e3 := cell_of_row _ w6.heap.size 3 _ _ _ nAx.out; have c3 := cell_of_row _ w7.heap.size 3 _ _ _ nBx.out)
                      | (refine wpList_store_row (o := ⟨none, .store 27 (.tmp 17) (.tmp 118), _, _, _, _⟩) (by rfl) 27 (.tmp 17) (.tmp 118) (by rfl) w7.heap.size #[Value.slice none 0 0, Value.slice none 0 0, Value.int .i64 0, Value.bool false] (by rfl) (by rfl) 27 _ nBx.out (by kernel_rfl) (by rfl) (by simp [Value.oneCell']) ?_; obtain ⟨wb, hwb, nB2, nA2, hx2⟩ := zset (cs := #[Value.slice none 0 0, Value.slice none 0 0, Value.int .i64 0, Value.bool false]) nBx.out nAx.out hne hxx.out (by have := HB6.out.size; omega); rw [hwb]; clear hwb; have nAx := Lib.hid nA2; have nBx := Lib.hid nB2; have hxx := Lib.hid hx2; clear nA2 nB2 hx2; have e0 := cell_of_row _ w6.heap.size 0 _ _ _ nAx.out; have c0 := cell_of_row _ w7.heap.size 0 _ _ _ nBx.out; have e1 := cell_of_row _ w6.heap.size 1 _ _ _ nAx.out; have c1 := cell_of_row _ w7.heap.size 1 _ _ _ nBx.out; have e2 := cell_of_row _ w6.heap.size 2 _ _ _ nAx.out; have c2 := cell_of_row _ w7.heap.size 2 _ _ _ nBx.out; have e3 := cell_of_row _ w6.heap.size 3 _ _ _ nAx.out; have c3 := cell_of_row _ w7.heap.size 3 _ _ _ nBx.out)
                      | (go_at_call 21; refine esame_any _ _ _ _ zeroE zeroE true (sameE_refl _) _ (EC.zero hecA rfl) (EC.none _) _ ?_; intro w8 hb8))
                    have hx8 := hxx.out
                    have hx9 := below_then hx8 hb8 hx8.size
                    have hx9' := below_then HBJ.out hx9 HBJ.out.size
                    go_roundg (N - (j + 1))
                    case measure => omega
                    case rel => exact ⟨j + 1, by omega, rfl, by go_num, hx9'⟩
                | true =>
                  cases d2 with
                  | false =>
                    obtain ⟨e1, rfl⟩ := hone rfl rfl rfl
                    simp only [zeroE, Ent.mk.injEq] at e1
                    obtain ⟨rfl, rfl, rfl, -⟩ := e1
                    clear hone hone' htwo
                    have HBJ := Lib.hid hbj
                    have HBR := Lib.hid hbr
                    go_wp2_with (first
                      | (go_at_call_of 20 (Value.slice la l1.length lc); go_must (refine see_x _ _ l1 K s _ _ _ _ _ HSA.out _ (HE5.out.below HBR.out) (HKEY.out.below HBJ.out) _ ?_); intro k4 k5 k6 v4 v5 v6 w6 hec6 hb6; have hbA := hb6.alloc hb6.size (Obj.cells #[Value.slice k4 k5 k6, Value.slice v4 v5 v6, Value.int .i64 s1, Value.bool true] 27); have ca6 := cell_later hbA ca; have HB6 := Lib.hid hb6; have HBA := Lib.hid hbA)
                      | (go_at_call 20; go_must (refine see_x _ _ out K s _ _ _ _ _ HSB.out _ (HM5.out.below (below_then HBR.out HBA.out HBR.out.size)) (HKEY.out.below (below_then HBJ.out HBA.out HBJ.out.size)) _ ?_); intro k7 k8 k9 v7 v8 v9 w7 hec7 hb7; have hbB := hb7.alloc hb7.size (Obj.cells #[Value.slice k7 k8 k9, Value.slice v7 v8 v9, Value.int .i64 0, Value.bool false] 27); have nA := row_later2 (heap_alloc_new w6 (Obj.cells #[Value.slice k4 k5 k6, Value.slice v4 v5 v6, Value.int .i64 s1, Value.bool true] 27)) hbB; have a0 := cell_of_row _ w6.heap.size 0 _ _ _ nA; have a1 := cell_of_row _ w6.heap.size 1 _ _ _ nA; have a2 := cell_of_row _ w6.heap.size 2 _ _ _ nA; have a3 := cell_of_row _ w6.heap.size 3 _ _ _ nA; have g0 := frozen_block nA 0; have g1 := frozen_block nA 1; have g2 := frozen_block nA 2; have g3 := frozen_block nA 3; have nB := heap_alloc_new w7 (Obj.cells #[Value.slice k7 k8 k9, Value.slice v7 v8 v9, Value.int .i64 0, Value.bool false] 27); have nBx := Lib.hid nB; clear nB; have hxx := Lib.hid (below_then HBA.out hbB HBA.out.size); have hz67 : w6.heap.size + 1 ≤ w7.heap.size := (by have := hb7.size; simp at this; omega); have hne : w6.heap.size ≠ w7.heap.size := (by omega); have hne' : w7.heap.size ≠ w6.heap.size := (by omega); have hecA := hec6.below (below_then ((Below.refl w6.heap.size w6).alloc (Nat.le_refl _) (Obj.cells #[Value.slice k4 k5 k6, Value.slice v4 v5 v6, Value.int .i64 s1, Value.bool true] 27)) hbB (by simp)); have hecB := hec7.alloc (Obj.cells #[Value.slice k7 k8 k9, Value.slice v7 v8 v9, Value.int .i64 0, Value.bool false] 27); have nAx := Lib.hid nA; clear nA hbA hbB hb7 hb6 hec6 hec7)
                      | (refine wpList_store_row (o := ⟨none, .store 27 (.tmp 15) (.tmp 112), _, _, _, _⟩) (by rfl) 27 (.tmp 15) (.tmp 112) (by rfl) w6.heap.size #[Value.slice none 0 0, Value.slice none 0 0, Value.int .i64 0, Value.bool false] (by rfl) (by rfl) 27 _ nAx.out (by kernel_rfl) (by rfl) (by simp [Value.oneCell']) ?_; obtain ⟨wa, hwa, nA2, nB2, hx2⟩ := zset (cs := #[Value.slice none 0 0, Value.slice none 0 0, Value.int .i64 0, Value.bool false]) nAx.out nBx.out hne' hxx.out HB6.out.size; rw [hwa]; clear hwa a0 a1 a2 a3 g0 g1 g2 g3; have nAx := Lib.hid nA2; have nBx := Lib.hid nB2; have hxx := Lib.hid hx2; clear nA2 nB2 hx2; have e0 := cell_of_row _ w6.heap.size 0 _ _ _ nAx.out; have c0 := cell_of_row _ w7.heap.size 0 _ _ _ nBx.out; have e1 := cell_of_row _ w6.heap.size 1 _ _ _ nAx.out; have c1 := cell_of_row _ w7.heap.size 1 _ _ _ nBx.out; have e2 := cell_of_row _ w6.heap.size 2 _ _ _ nAx.out; have c2 := cell_of_row _ w7.heap.size 2 _ _ _ nBx.out; have e3 := cell_of_row _ w6.heap.size 3 _ _ _ nAx.out; have c3 := cell_of_row _ w7.heap.size 3 _ _ _ nBx.out)
                      | (refine wpList_store_row (o := ⟨none, .store 27 (.tmp 17) (.tmp 118), _, _, _, _⟩) (by rfl) 27 (.tmp 17) (.tmp 118) (by rfl) w7.heap.size #[Value.slice none 0 0, Value.slice none 0 0, Value.int .i64 0, Value.bool false] (by rfl) (by rfl) 27 _ nBx.out (by kernel_rfl) (by rfl) (by simp [Value.oneCell']) ?_; obtain ⟨wb, hwb, nB2, nA2, hx2⟩ := zset (cs := #[Value.slice none 0 0, Value.slice none 0 0, Value.int .i64 0, Value.bool false]) nBx.out nAx.out hne hxx.out (by have := HB6.out.size; omega); rw [hwb]; clear hwb; have nAx := Lib.hid nA2; have nBx := Lib.hid nB2; have hxx := Lib.hid hx2; clear nA2 nB2 hx2; have e0 := cell_of_row _ w6.heap.size 0 _ _ _ nAx.out; have c0 := cell_of_row _ w7.heap.size 0 _ _ _ nBx.out; have e1 := cell_of_row _ w6.heap.size 1 _ _ _ nAx.out; have c1 := cell_of_row _ w7.heap.size 1 _ _ _ nBx.out; have e2 := cell_of_row _ w6.heap.size 2 _ _ _ nAx.out; have c2 := cell_of_row _ w7.heap.size 2 _ _ _ nBx.out; have e3 := cell_of_row _ w6.heap.size 3 _ _ _ nAx.out; have c3 := cell_of_row _ w7.heap.size 3 _ _ _ nBx.out)
                      | (go_at_call 21; refine esame_any _ _ _ _ zeroE zeroE true (sameE_refl _) _ (EC.none _) (EC.zero hecB rfl) _ ?_; intro w8 hb8))
                    have hx8 := hxx.out
                    have hx9 := below_then hx8 hb8 hx8.size
                    have hx9' := below_then HBJ.out hx9 HBJ.out.size
                    go_roundg (N - (j + 1))
                    case measure => omega
                    case rel => exact ⟨j + 1, by omega, rfl, by go_num, hx9'⟩
                  | true =>
                    clear hone hone' htwo
                    have HBJ := Lib.hid hbj
                    have HBR := Lib.hid hbr
                    go_wp2_with (first
                      | (go_at_call_of 20 (Value.slice la l1.length lc); go_must (refine see_x _ _ l1 K s _ _ _ _ _ HSA.out _ (HE5.out.below HBR.out) (HKEY.out.below HBJ.out) _ ?_); intro k4 k5 k6 v4 v5 v6 w6 hec6 hb6; have hbA := hb6.alloc hb6.size (Obj.cells #[Value.slice k4 k5 k6, Value.slice v4 v5 v6, Value.int .i64 s1, Value.bool true] 27); have ca6 := cell_later hbA ca; have HB6 := Lib.hid hb6; have HBA := Lib.hid hbA)
                      | (go_at_call 20; go_must (refine see_x _ _ out K s _ _ _ _ _ HSB.out _ (HM5.out.below (below_then HBR.out HBA.out HBR.out.size)) (HKEY.out.below (below_then HBJ.out HBA.out HBJ.out.size)) _ ?_); intro k7 k8 k9 v7 v8 v9 w7 hec7 hb7; have hbB := hb7.alloc hb7.size (Obj.cells #[Value.slice k7 k8 k9, Value.slice v7 v8 v9, Value.int .i64 s2, Value.bool true] 27); have nA := row_later2 (heap_alloc_new w6 (Obj.cells #[Value.slice k4 k5 k6, Value.slice v4 v5 v6, Value.int .i64 s1, Value.bool true] 27)) hbB; have a0 := cell_of_row _ w6.heap.size 0 _ _ _ nA; have a1 := cell_of_row _ w6.heap.size 1 _ _ _ nA; have a2 := cell_of_row _ w6.heap.size 2 _ _ _ nA; have a3 := cell_of_row _ w6.heap.size 3 _ _ _ nA; have g0 := frozen_block nA 0; have g1 := frozen_block nA 1; have g2 := frozen_block nA 2; have g3 := frozen_block nA 3; have nB := heap_alloc_new w7 (Obj.cells #[Value.slice k7 k8 k9, Value.slice v7 v8 v9, Value.int .i64 s2, Value.bool true] 27); have nBx := Lib.hid nB; clear nB; have hxx := Lib.hid (below_then HBA.out hbB HBA.out.size); have hz67 : w6.heap.size + 1 ≤ w7.heap.size := (by have := hb7.size; simp at this; omega); have hne : w6.heap.size ≠ w7.heap.size := (by omega); have hne' : w7.heap.size ≠ w6.heap.size := (by omega); have hecA := hec6.below (below_then ((Below.refl w6.heap.size w6).alloc (Nat.le_refl _) (Obj.cells #[Value.slice k4 k5 k6, Value.slice v4 v5 v6, Value.int .i64 s1, Value.bool true] 27)) hbB (by simp)); have hecB := hec7.alloc (Obj.cells #[Value.slice k7 k8 k9, Value.slice v7 v8 v9, Value.int .i64 s2, Value.bool true] 27); have nAx := Lib.hid nA; clear nA hbA hbB hb7 hb6 hec6 hec7)
                      | (refine wpList_store_row (o := ⟨none, .store 27 (.tmp 15) (.tmp 112), _, _, _, _⟩) (by rfl) 27 (.tmp 15) (.tmp 112) (by rfl) w6.heap.size #[Value.slice none 0 0, Value.slice none 0 0, Value.int .i64 0, Value.bool false] (by rfl) (by rfl) 27 _ nAx.out (by kernel_rfl) (by rfl) (by simp [Value.oneCell']) ?_; obtain ⟨wa, hwa, nA2, nB2, hx2⟩ := zset (cs := #[Value.slice none 0 0, Value.slice none 0 0, Value.int .i64 0, Value.bool false]) nAx.out nBx.out hne' hxx.out HB6.out.size; rw [hwa]; clear hwa a0 a1 a2 a3 g0 g1 g2 g3; have nAx := Lib.hid nA2; have nBx := Lib.hid nB2; have hxx := Lib.hid hx2; clear nA2 nB2 hx2; have e0 := cell_of_row _ w6.heap.size 0 _ _ _ nAx.out; have c0 := cell_of_row _ w7.heap.size 0 _ _ _ nBx.out; have e1 := cell_of_row _ w6.heap.size 1 _ _ _ nAx.out; have c1 := cell_of_row _ w7.heap.size 1 _ _ _ nBx.out; have e2 := cell_of_row _ w6.heap.size 2 _ _ _ nAx.out; have c2 := cell_of_row _ w7.heap.size 2 _ _ _ nBx.out; have e3 := cell_of_row _ w6.heap.size 3 _ _ _ nAx.out; have c3 := cell_of_row _ w7.heap.size 3 _ _ _ nBx.out)
                      | (refine wpList_store_row (o := ⟨none, .store 27 (.tmp 17) (.tmp 118), _, _, _, _⟩) (by rfl) 27 (.tmp 17) (.tmp 118) (by rfl) w7.heap.size #[Value.slice none 0 0, Value.slice none 0 0, Value.int .i64 0, Value.bool false] (by rfl) (by rfl) 27 _ nBx.out (by kernel_rfl) (by rfl) (by simp [Value.oneCell']) ?_; obtain ⟨wb, hwb, nB2, nA2, hx2⟩ := zset (cs := #[Value.slice none 0 0, Value.slice none 0 0, Value.int .i64 0, Value.bool false]) nBx.out nAx.out hne hxx.out (by have := HB6.out.size; omega); rw [hwb]; clear hwb; have nAx := Lib.hid nA2; have nBx := Lib.hid nB2; have hxx := Lib.hid hx2; clear nA2 nB2 hx2; have e0 := cell_of_row _ w6.heap.size 0 _ _ _ nAx.out; have c0 := cell_of_row _ w7.heap.size 0 _ _ _ nBx.out; have e1 := cell_of_row _ w6.heap.size 1 _ _ _ nAx.out; have c1 := cell_of_row _ w7.heap.size 1 _ _ _ nBx.out; have e2 := cell_of_row _ w6.heap.size 2 _ _ _ nAx.out; have c2 := cell_of_row _ w7.heap.size 2 _ _ _ nBx.out; have e3 := cell_of_row _ w6.heap.size 3 _ _ _ nAx.out; have c3 := cell_of_row _ w7.heap.size 3 _ _ _ nBx.out)
                      | (go_at_call 21; refine esame_any _ _ _ _ zeroE zeroE true (sameE_refl _) _ (EC.none _) (EC.none _) _ ?_; intro w8 hb8))
                    have hx8 := hxx.out
                    have hx9 := below_then hx8 hb8 hx8.size
                    have hx9' := below_then HBJ.out hx9 HBJ.out.size
                    go_roundg (N - (j + 1))
                    case measure => omega
                    case rel => exact ⟨j + 1, by omega, rfl, by go_num, hx9'⟩
            · have hji : ¬ (j : Int) < (N : Int) := by omega
              go_wp2
              go_roundg (l1.length + ks.length - (k + 1))
              case measure => omega
              case rel => exact ⟨k + 1, by omega, rfl, by go_num, below_then hb hbj hb.size⟩
      · have h80i : ¬ (k : Int) < 80 := by omega
        go_wp2
        exact HR.out _ (below_then HX5.out hb HX5.out.size)
    · have hkk : ¬ (k : Int) < (l1.length : Int) + (ks.length : Int) := by omega
      go_wp2
      exact HR.out _ (below_then HX5.out hb HX5.out.size)

end Go.Proofs.Ytgkgahjdjkmmnaa
