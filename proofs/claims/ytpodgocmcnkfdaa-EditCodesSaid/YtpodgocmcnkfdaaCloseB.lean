
import Derived.Test.YtpodgocmcnkfdaaClose
namespace Go.Proofs.Ytpodgocmcnkfdaa
open Go.RowKit

set_option maxRecDepth 100000 in
set_option maxHeartbeats 8000000 in
theorem closebytes_any (B K : Nat) (vs us : List Value) (ps : List (List UInt8)) (w : World) (hB : Bk 69 39 5 w B K vs us ps) (hlen : ∀ p ∈ ps, p.length ≤ 140737488351232) (hps : ps.length ≤ 400) (R : Ending → World → Prop)
    (hR : ∀ w' v0 v1, Below B w w' → w'.heap[K]? = some (.cells (BkCells v0 v1) 69 (0, 0)) → R (.returned (.bool true)) w') :
    Calls Try.prog 59 #[.pointer (some ⟨K, 0, none⟩)] w R := by
  obtain ⟨hKB, ⟨v0, v1, h0, h1, h2, h3⟩, he, ap, _⟩ := hB
  obtain ⟨a0, c0, rfl⟩ := owns_shape h1
  have hcap0 := owns_cap h1
  unfold maxLen at hcap0
  have hKlt : K < w.heap.size := (Array.getElem?_eq_some_iff.1 h0).1
  obtain ⟨m, hm⟩ : ∃ m, ps.length = m := ⟨_, rfl⟩
  have hCi : Cl 69 39 5 w B K a0 c0 v1 vs m (fun j => ps.getD j []) := by
    subst hm
    refine ⟨h0, h1, fun i hi => ?_⟩
    obtain ⟨v, u, e1, e2, e3, e4⟩ := he i hi
    refine ⟨v, e1, ?_⟩
    rw [show ps.getD i [] = ps[i] by simp [hi]]
    exact e3
  obtain ⟨f0, hf0⟩ : ∃ f : Nat → List UInt8, f = fun j => ps.getD j [] := ⟨_, rfl⟩
  rw [← hf0] at hCi
  obtain ⟨L, hL⟩ : ∃ L : Nat → Nat, ∀ j, (f0 j).length = L j := ⟨fun j => (f0 j).length, fun _ => rfl⟩
  have hLb : ∀ j, L j ≤ 140737488351232 := by
    intro j
    rw [← hL, hf0]
    by_cases hj : j < ps.length
    · simp only [List.getD_eq_getElem?_getD, List.getElem?_eq_getElem hj, Option.getD_some]
      exact hlen _ (List.getElem_mem hj)
    · simp [List.getElem?_eq_none (Nat.le_of_not_lt hj)]
  have HL := Lib.hid hLb
  have hvl : vs.length = m := by have := h1.1; omega
  rw [hm] at hps hcap0
  clear h0 h1 h2 h3 he hf0 hlen hm hLb
  go_enter Try.func59, Try.ntmps59
  go_wp2
  go_loopw [3, 4] (fun i _ wr => ∃ k : Nat, k ≤ m ∧ i = .int .i64 k ∧ ∃ f, Cl 69 39 5 wr B K a0 c0 v1 vs m f ∧ Hid (∀ j, (f j).length = L j) ∧ Hid (∀ j, j < k → f j = rp (L j) j) ∧ Below B w wr) (fun i _ _ => m - (intOf i).toNat)
  case atStart => exact ⟨0, Nat.zero_le _, rfl, f0, hCi, Lib.hid hL, Lib.hid (fun j hj => by omega), Below.refl _ _⟩
  case round =>
    clear hCi hL
    obtain ⟨k, hk, rfl, f, hC, hfl, hfk, hb⟩ := hrel
    have q0 : wr.cell? ⟨K, 0, none⟩ = some (.slice a0 m c0) := cell_of_row wr K 0 _ _ _ hC.hK
    by_cases hlt : k < m
    · have hkk : (k : Int) < (m : Int) := by omega
      generalize hwo : wr = wo at hb hC q0
      go_wp2
      go_loopw [4] (fun x wr => ∃ q : Nat, q ≤ L k ∧ x = .int .i64 q ∧ ∃ f, Cl 69 39 5 wr B K a0 c0 v1 vs m f ∧ Hid (∀ j, (f j).length = L j) ∧ Hid (∀ j, j < k → f j = rp (L j) j) ∧ Hid ((f k).take q = rp q k) ∧ Below B w wr) (fun x _ => L k - (intOf x).toNat)
      case atStart => exact ⟨0, Nat.zero_le _, rfl, f, hC, hfl, hfk, Lib.hid rfl, hb⟩
      case round =>
        obtain ⟨q, hq, rfl, f2, hC2, hfl2, hfk2, hfq, hb2⟩ := hrel
        obtain ⟨v, ev, ho⟩ := hC2.each k hlt
        obtain ⟨ad, c, rfl⟩ := owns_shape ho
        have hl := hfl2.out k
        rw [hl] at ev ho
        obtain ⟨g0, rfl⟩ := owns_head hC2.r0 (by omega)
        have r0 := hC2.r0.cellAt k (by omega)
        rw [ev] at r0
        have q2 : wr.cell? ⟨K, 0, none⟩ = some (.slice (some ⟨g0, 0, none⟩) m c0) := cell_of_row wr K 0 _ _ _ hC2.hK
        have hBw : B ≤ wr.heap.size := by have := hb2.size; omega
        have hcc := owns_cap ho
        unfold maxLen at hcc
        clear hb hC hfl hfk
        by_cases hqq : q < L k
        · obtain ⟨g, rfl⟩ := owns_head ho (by omega)
          have hfz := ho.frozenAt q
          have hcell := own_cell8 ho q (by omega)
          obtain ⟨hS1, hS2, hS3⟩ := hC2.store (by decide) (by decide) ap q (b8 (k : Int)) hlt ev
          rw [b8_toNat] at hS1 hS2
          have hbn := hb2.grown hS2 hBw (fun j hj => by have := Option.some.inj hj; omega)
          have HFQ : Hid (((fun x => if x = k then (f2 k).set q (b8 (k : Int)) else f2 x) k).take (q + 1) = rp (q + 1) k) := by
            simp only [if_true, Hid]
            rw [List.take_succ_eq_append_getElem (by rw [List.length_set]; omega), List.take_set_of_le (Nat.le_refl q), hfq.out]
            simp [rp, List.replicate_succ']
          have HFL : Hid (∀ j, ((fun x => if x = k then (f2 k).set q (b8 (k : Int)) else f2 x) j).length = L j) := by
            intro j
            by_cases hj : j = k
            · subst hj; simp [hl]
            · simp only [hj, if_false]; exact hfl2.out j
          have HFK : Hid (∀ j, j < k → (fun x => if x = k then (f2 k).set q (b8 (k : Int)) else f2 x) j = rp (L j) j) := by
            intro j hj
            simp only [show j ≠ k by omega, if_false]
            exact hfk2.out j hj
          have HS1 := Lib.hid hS1
          have HBN := Lib.hid hbn
          clear hS1 hbn hS2 hb2 hC2 hfq hfl2 hfk2 ho hBw q0
          go_wp2
          go_roundw
          case rel => exact ⟨q + 1, by omega, by go_num, _, HS1.out, HFL, HFK, HFQ, HBN.out⟩
          case measure => simp [intOf]; omega
        · have hqe : q = L k := by omega
          have HFK : Hid (∀ j, j < k + 1 → f2 j = rp (L j) j) := by
            intro j hj
            by_cases hjk : j = k
            · subst hjk
              have := hfq.out
              rw [List.take_of_length_le (by omega), hqe] at this
              exact this
            · exact hfk2.out j (by omega)
          have hql : ¬ ((q : Int) < (L k : Int)) := by omega
          clear hqq hfq hfk2 ho q0
          go_wp2
          go_roundw
          case rel => exact ⟨k + 1, by omega, by go_num, f2, hC2, hfl2, HFK, hb2⟩
          case measure => simp [intOf]; omega
    · obtain rfl : k = m := by omega
      obtain ⟨H, hH⟩ : ∃ H, wr.heap.size = H := ⟨_, rfl⟩
      have hG : Gr 69 39 5 wr B K H a0 c0 v1 vs [] k L 0 := by
        refine ⟨hC.hK, hC.r0, fun j hj => by rw [← hH]; exact (hC.r0.lt j hj).2, fun j _ hj => ?_, fun j hj => by omega⟩
        obtain ⟨v, ev, ho⟩ := hC.each j hj
        rw [hfl.out j, hfk.out j hj] at ho
        exact ⟨v, ev, ho, fun q hq => by rw [← hH]; exact (ho.lt q hq).2⟩
      have hKH : K < H := by rw [← hH]; exact (Array.getElem?_eq_some_iff.1 hC.hK).1
      have hkk : ¬ ((k : Int) < (k : Int)) := by omega
      have hBH : B ≤ H := by omega
      have hgr0 := World.ownsRow_nil wr H 39 1
      generalize hwo : wr = wo at hb hG hgr0 hH q0
      clear hC hfl hfk hwo
      go_wp2
      go_loopw [5, 6] (fun g i wr => ∃ j : Nat, j ≤ k ∧ i = .int .i64 j ∧ ∃ gs ag cg, gs.length = j ∧ g = .slice ag j cg ∧ wr.ownsRow H 39 1 (.slice ag j cg) j gs ∧ Gr 69 39 5 wr B K H a0 c0 v1 vs gs k L j ∧ Below B w wr ∧ H ≤ wr.heap.size) (fun _ i _ => k - (intOf i).toNat)
      case atStart => exact ⟨0, Nat.zero_le _, rfl, [], none, 0, rfl, rfl, hgr0, hG, hb, by omega⟩
      case round =>
        clear hgr0 hG hb hH
        obtain ⟨j, hj, rfl, gs, ag, cg, hgl, rfl, hgr, hG, hb, hH⟩ := hrel
        by_cases hlt2 : j < k
        · obtain ⟨v, ev, ho, hvH⟩ := hG.old j (Nat.le_refl _) hlt2
          obtain ⟨ad, c, rfl⟩ := owns_shape ho
          obtain ⟨g0, rfl⟩ := owns_head hG.r0 (by omega)
          have r0 := hG.r0.cellAt j (by omega)
          rw [ev] at r0
          have q2 : wr.cell? ⟨K, 0, none⟩ = some (.slice (some ⟨g0, 0, none⟩) k c0) := cell_of_row wr K 0 _ _ _ hG.hK
          have hLj := HL.out j
          have hjj : (j : Int) < (k : Int) := by omega
          have HGG := Lib.hid hG
          clear hG q0
          go_wp2_with (at_builtin; go_must (refine wpList_appX (by rfl) (.tmp 58) (.tmp 62) 39 (by rfl) B 5 (.int .u8 0) 1 Try.underlying39 Try.info5 rfl _ _ _ _ rfl (World.ownsRow.alloc ho _) _ _ _ rfl (rd_lit _ _ _ 1 1 rfl) rfl (by unfold maxLen; omega) (by omega) (by simp; omega) ?_))
          intro ad1 c1 w1 hown1 hap1
          have hown1' := own_snoc8 (b8 ((j : Int) + 100)) (b8_toNat _).symm hown1
          have hap1' := hap1.alloc
          have hs1 := hap1'.grown.size
          clear hown1 hap1 r0 q2
          go_wp2_with (at_builtin; go_must (refine wpList_appX (by rfl) (.tmp 65) (.tmp 69) 39 (by rfl) B 5 (.int .u8 0) 1 Try.underlying39 Try.info5 rfl _ _ _ _ rfl (World.ownsRow.alloc hown1' _) _ _ _ rfl (rd_lit _ _ _ 1 1 rfl) rfl (by unfold maxLen; omega) (by omega) (by simp; omega) ?_))
          intro ad2 c2 w2 hown2 hap2
          have hown2' := own_snoc8 (b8 ((j : Int) + 101)) (b8_toNat _).symm hown2
          have hap2' := hap2.alloc
          obtain ⟨hg12, halt⟩ := two_apps ho hap1' hown1' hap2' hown2'
          have hG2 := HGG.out.step (by decide) (by decide) ap hlt2 hgl hH ev hg12 hown2' halt
          have hgr2 := (Keeps.grown (te := 39) ho hg12 (by decide)) _ _ _ _ hgr
          have hb2 := hb.grown hg12 (by omega) (fun q hq => (ho.lt q hq).1)
          have hs2 := hg12.size
          clear hown2 hap2 hap1' hap2' hown1' hown2' ho hgr hb HGG halt
          go_wp2_with (at_builtin; go_must (refine wpList_app (by rfl) (.tmp 64) (.tmp 71) 49 (by rfl) H 39 (.slice none 0 0) 1 24 Try.underlying49 Try.info39 rfl (by decide) _ _ _ _ rfl (World.ownsRow.alloc hgr2 _) _ _ _ _ rfl (rd_lit _ _ _ 1 1 rfl) (slice_oneCell _ _ _) (by simp) (by unfold maxLen; omega) (by omega) (by simp; omega) ?_))
          intro ag3 cg3 w3 hgr3 hg3
          have hK3 := block_grown hg3 (block_alloc hG2.hK) (own_block_ne hG2.hK hgr2 (by decide))
          have hr3 := owns_grown (hG2.r0.alloc _) hg3 (fun q hq hc => by have := hG2.hH q hq; have := (hgr2.lt q hc.symm).1; omega)
          have hk3 : Keeps 5 w2 w3 := (Keeps.below ((Below.refl _ _).alloc (Nat.le_refl _) _)).trans (Keeps.grown (hgr2.alloc _) hg3 (by decide))
          have hG3 := hG2.later hK3 hr3 hk3
          have hb3 := below_app (hb2.alloc (by omega) _) hg3 (by simp; omega) ((owns_mono (base' := B) hgr2 hBH).alloc _)
          have hs3 := hg3.size
          have HG3 := Lib.hid hG3
          have HB3 := Lib.hid hb3
          have HR3 := Lib.hid hgr3
          simp at hs3
          clear hgr3 hg3 hK3 hr3 hk3 hG3 hb3 hG2 hgr2 hb2
          go_wp2
          go_roundw
          case rel => exact ⟨j + 1, by omega, by go_num, _, ag3, cg3, by simp [hgl], rfl, HR3.out, HG3.out, HB3.out, by omega⟩
          case measure => simp [intOf]; omega
        · obtain rfl : j = k := by omega
          have hjj : ¬ ((j : Int) < (j : Int)) := by omega
          have q2 : wr.cell? ⟨K, 0, none⟩ = some (.slice a0 j c0) := cell_of_row wr K 0 _ _ _ hG.hK
          have HGG := Lib.hid hG
          have HGR := Lib.hid hgr
          clear q0 hG hgr
          go_wp2
          go_loop [8, 9, 10] (fun i _ _ => ∃ x : Nat, x ≤ j ∧ i = .int .i64 x) (fun i _ _ => j - (intOf i).toNat)
          case atStart => exact ⟨0, Nat.zero_le _, rfl⟩
          case round =>
            obtain ⟨x, hx, rfl⟩ := hrel
            by_cases hxj : x < j
            · obtain ⟨ad, c, b, c', ev, eg, hv1, hg1, hx1, hx2⟩ := HGG.out.reads x hxj
              obtain ⟨g0, rfl⟩ := owns_head HGG.out.r0 (by omega)
              obtain ⟨g9, rfl⟩ := owns_head HGR.out (by omega)
              have r0 := HGG.out.r0.cellAt x (by omega)
              rw [ev] at r0
              have r9 := HGR.out.cellAt x (by omega)
              rw [eg] at r9
              have HV := Lib.hid hv1
              have HW := Lib.hid hg1
              have hxx : (x : Int) < (j : Int) := by omega
              have hLx := HL.out x
              clear hv1 hg1 ev eg
              go_wp2
              go_loop [10] (fun y => ∃ q : Nat, q ≤ L x ∧ y = .int .i64 q) (fun y => L x - (intOf y).toNat)
              case atStart => exact ⟨0, Nat.zero_le _, rfl⟩
              case round =>
                obtain ⟨q, hq, rfl⟩ := hrel
                by_cases hqq : q < L x
                · obtain ⟨b', rfl, hc⟩ := HV.out (by omega)
                  have z1 := hc q hqq
                  have z2 := HW.out q hqq
                  have hqx : (q : Int) < (L x : Int) := by omega
                  clear hc hx1 hx2
                  go_wp2
                  go_round
                  case rel => exact ⟨q + 1, by omega, by go_num⟩
                  case measure => simp [intOf]; omega
                · have hqx : ¬ ((q : Int) < (L x : Int)) := by omega
                  go_wp2
                  go_round
                  case rel => exact ⟨x + 1, by omega, by go_num⟩
                  case measure => simp [intOf]; omega
            · go_wp2
              exact hR _ _ _ hb HGG.out.hK

set_option maxRecDepth 100000 in
set_option maxHeartbeats 1600000 in
/-- 'Close': they still say it, and none shows in another. -/
theorem close_any (B K : Nat) (vs us : List Value) (ps : List (List UInt8)) (w : World) (hB : Bk 69 39 5 w B K vs us ps) (hlen : ∀ p ∈ ps, p.length ≤ 140737488351232) (hps : ps.length ≤ 400) (R : Ending → World → Prop)
    (hR : ∀ w', Below B w w' → R (.returned (.bool true)) w') :
    Calls Try.prog 32 #[.pointer (some ⟨K, 0, none⟩)] w R := by
  have hKB : B ≤ K := hB.hK
  have hKlt : K < w.heap.size := by
    obtain ⟨v0, v1, h0, _⟩ := hB.rows
    exact (Array.getElem?_eq_some_iff.1 h0).1
  go_enter Try.func32, Try.ntmps32
  go_wp2_with (go_at_call 58; go_must (refine look_any B K vs us ps _ hB _ ?_))
  intro w1 hb1
  have hB1 := hB.below hb1
  have hb1' := hb1.mono (show B ≤ w.heap.size by omega)
  have hs1 := hb1.size
  clear hB hb1
  go_wp2_with (go_at_call 59; go_must (refine closebytes_any B K vs us ps _ hB1 hlen hps _ ?_))
  intro w2 v0 v1 hb2 hK2
  have hb2' := hb1'.trans hb2
  have c2 : w2.cell? ⟨K, 2, none⟩ = some (.slice none 0 0) := cell_of_row w2 K 2 _ _ _ hK2
  have c4 : w2.cell? ⟨K, 4, none⟩ = some (.slice none 0 0) := cell_of_row w2 K 4 _ _ _ hK2
  clear hB1 hb2 hb1' hK2
  go_wp2_with (go_at_call 60; go_must (refine closewords_any K _ c2 _ ?_))
  go_wp2_with (go_at_call 61; go_must (refine closeints_any K _ c4 _ ?_))
  go_wp2
  exact hb2'
end Go.Proofs.Ytpodgocmcnkfdaa
