/- (tidingslaw19.Props).list, walked: with a format. -/
import Derived.Test.YtgimbocoamnkjaaGreatDoorM28
namespace Go.Proofs.YtgimbocoamnkjaaGreatDoor
open Go.RowKit

set_option maxRecDepth 100000 in
set_option maxHeartbeats 4000000 in
theorem list_yes (fm : Int) (h1 : 0 ≤ fm) (_hf1 : -9223372036854775808 ≤ fm) (_hf2 : fm ≤ 9223372036854775807) (cv rv uv : Value) (co cr us : List UInt8) (L : List Pr) (hL : listL fm co cr us = L) (W w : World) (hWw : Below W.heap.size W w) (hco : Bs W cv co) (hcr : Bs W rv cr) (hus : Bs W uv us) (R : Ending → World → Prop)
    (hR : ∀ ad c ds w', OP W w.heap.size w' ad L.length c ds L → Below w.heap.size w w' → R (.returned (.slice ad L.length c)) w') :
    Calls Tryz.prog 39 #[.agg #[.int .i64 fm, cv, rv, uv]] w R := by
  have HR := Lib.hid hR
  obtain ⟨ca, cc, rfl, _⟩ := id hco
  obtain ⟨ra, rc, rfl, _⟩ := id hcr
  obtain ⟨ua, uc, rfl, _⟩ := id hus
  have hb0 : Below w.heap.size w (w.alloc (Obj.cells #[.int .i64 fm, .slice ca co.length cc, .slice ra cr.length rc, .slice ua us.length uc] 24)) := (Below.refl _ _).alloc (Nat.le_refl _) _
  have HN0 := Lib.hid (heap_alloc_new w (Obj.cells #[.int .i64 fm, .slice ca co.length cc, .slice ra cr.length rc, .slice ua us.length uc] 24))
  have HL0 : Hid (OL W w (w.alloc (Obj.cells #[.int .i64 fm, .slice ca co.length cc, .slice ra cr.length rc, .slice ua us.length uc] 24)) none 0 0 [] []) := OL.nil W w _ hWw hb0
  have HCO := Lib.hid hco
  have HCR := Lib.hid hcr
  have HUS := Lib.hid hus
  have HLL := Lib.hid hL
  have HWW := Lib.hid hWw
  clear hR hco hcr hus hL hWw
  obtain ⟨l0, hl0⟩ : ∃ l0, (if 0 ≤ fm then [(⟨1, bits .and .i64 fm 1, [], [], []⟩ : Pr)] else []) ++ (if 0 < co.length then [⟨3, 0, plainL co, [], []⟩] else []) ++ (if 0 < cr.length then [⟨9, 0, [], [], cr.take 30⟩] else []) = l0 := ⟨_, rfl⟩
  have HLQ : Hid (L = l0 ++ (us.take 4).map fun u => ⟨38, 0, plainL [u], plainL us, []⟩) := by show _ = _; rw [← HLL.out, ← hl0]; rfl
  have HL0L := Lib.hid hl0
  clear hl0 HLL
  obtain ⟨C, hC⟩ : ∃ C, cr.take (30 : Int).toNat = C := ⟨_, rfl⟩
  have hcl : C.length ≤ 140737488351232 := by rw [← hC, List.length_take]; have := Nat.min_le_left (30 : Int).toNat cr.length; omega
  rw [show List.take 30 cr = C from hC] at HL0L
  have HC := Lib.hid hC
  have HCL := Lib.hid hcl
  clear hC hcl
  obtain ⟨c0, c1, c2, c3⟩ := pr4 HN0.out
  by_cases h2 : (0 : Int) < (co.length : Int)
  · have h2n : 0 < co.length := by omega
    by_cases h3 : (0 : Int) < (cr.length : Int)
    · have h3n : 0 < cr.length := by omega
      go_enter Tryz.func39, Tryz.ntmps39
      go_wp2_with (first
        | (at_builtin; have hla := HL0.out.below ((Below.refl _ _).alloc (Nat.le_refl _) (Obj.cells #[.int .i64 1, .int .i64 (bits .and .i64 fm 1), .string ⟨#[]⟩, .string ⟨#[]⟩, .slice none 0 0] 147)); refine wpList_appAt (by rfl) (.tmp 8) (.tmp 13) 32 (by rfl) w.heap.size 147 (.agg #[Value.int .i64 0, Value.int .i64 0, Value.string ⟨#[]⟩, Value.string ⟨#[]⟩, Value.slice none 0 0]) 5 72 Tryz.underlying32 Tryz.info147 rfl (by decide) _ _ _ _ (by rfl) hla.row _ 1 1 _ (by rfl) (lit5 _ _ (by first | rfl | simp)) (pc_oneCell _ _ _) (fun h => by cases h) (by unfold maxLen; omega) (by omega) hla.low.size ?_; intro ad1 cc1 w1 hown1 hg1 _; have hnb := block_alloc (o' := (Obj.cells #[.int .i64 1, .int .i64 (bits .and .i64 fm 1), .string ⟨#[]⟩, .string ⟨#[]⟩, .slice none 0 0] 147)) HN0.out; replace HN0 := Lib.hid (block_grown hg1 hnb (own_block_ne hnb hla.row (by decide))); replace HL0 := Lib.hid (hla.push (p := ⟨1, bits .and .i64 fm 1, [], [], []⟩) (pc_plain W (by decide) (by decide) (bits_lo_i64 _ _ _) (bits_hi_i64 _ _ _) (by simp) (by simp)) hown1 hg1 (by omega)); clear hla hown1 hg1 hnb; obtain ⟨c0, c1, c2, c3⟩ := pr4 HN0.out)
        | (go_at_call 38; refine plain_any _ co _ rfl _ (HCO.out.below (below_then HWW.out HL0.out.low HWW.out.size)) _ ?_; intro w3 hb3; replace HL0 := Lib.hid (HL0.out.below hb3); replace HN0 := Lib.hid (row_on HN0.out hb3); clear hb3; obtain ⟨c0, c1, c2, c3⟩ := pr4 HN0.out)
        | (at_builtin; have hla := HL0.out.below ((Below.refl _ _).alloc (Nat.le_refl _) (Obj.cells #[.int .i64 3, .int .i64 0, .string (str (plainL co)), .string ⟨#[]⟩, .slice none 0 0] 147)); refine wpList_appAt (by rfl) (.tmp 19) (.tmp 24) 32 (by rfl) w.heap.size 147 (.agg #[Value.int .i64 0, Value.int .i64 0, Value.string ⟨#[]⟩, Value.string ⟨#[]⟩, Value.slice none 0 0]) 5 72 Tryz.underlying32 Tryz.info147 rfl (by decide) _ _ _ _ (by rfl) hla.row _ 1 1 _ (by rfl) (lit5 _ _ (by first | rfl | simp)) (pc_oneCell _ _ _) (fun h => by cases h) (by unfold maxLen; omega) (by omega) hla.low.size ?_; intro ad1 cc1 w1 hown1 hg1 _; have hnb := block_alloc (o' := (Obj.cells #[.int .i64 3, .int .i64 0, .string (str (plainL co)), .string ⟨#[]⟩, .slice none 0 0] 147)) HN0.out; replace HN0 := Lib.hid (block_grown hg1 hnb (own_block_ne hnb hla.row (by decide))); replace HL0 := Lib.hid (hla.push (p := ⟨3, 0, plainL co, [], []⟩) (pc_plain W (by decide) (by decide) (by decide) (by decide) (Nat.le_trans (plainL_len _) (by decide)) (by simp)) hown1 hg1 (by omega)); clear hla hown1 hg1 hnb; obtain ⟨c0, c1, c2, c3⟩ := pr4 HN0.out)
        | (go_at_call 30; refine cut_old _ cr C 30 HC.out W _ HCR.out (by decide) _ ?_; intro xa xc hx3; have HX3 := Lib.hid hx3; clear hx3)
        | (at_builtin; have hla := HL0.out.below ((Below.refl _ _).alloc (Nat.le_refl _) (Obj.cells #[.int .i64 9, .int .i64 0, .string ⟨#[]⟩, .string ⟨#[]⟩, .slice xa C.length xc] 147)); refine wpList_appAt (by rfl) (.tmp 30) (.tmp 35) 32 (by rfl) w.heap.size 147 (.agg #[Value.int .i64 0, Value.int .i64 0, Value.string ⟨#[]⟩, Value.string ⟨#[]⟩, Value.slice none 0 0]) 5 72 Tryz.underlying32 Tryz.info147 rfl (by decide) _ _ _ _ (by rfl) hla.row _ 1 1 _ (by rfl) (lit5 _ _ (by first | rfl | simp)) (pc_oneCell _ _ _) (fun h => by cases h) (by unfold maxLen; omega) (by omega) hla.low.size ?_; intro ad1 cc1 w1 hown1 hg1 _; have hnb := block_alloc (o' := (Obj.cells #[.int .i64 9, .int .i64 0, .string ⟨#[]⟩, .string ⟨#[]⟩, .slice xa C.length xc] 147)) HN0.out; replace HN0 := Lib.hid (block_grown hg1 hnb (own_block_ne hnb hla.row (by decide))); replace HL0 := Lib.hid (hla.push (p := ⟨9, 0, [], [], C⟩) (pc_data HX3.out HCL.out) hown1 hg1 (by omega)); clear hla hown1 hg1 hnb; obtain ⟨c0, c1, c2, c3⟩ := pr4 HN0.out))
      go_loopg [3, 4] (min us.length 4) (fun gn r i wr => ∃ (k n c : Nat) (ad : Option Addr) (ds : List Value) (l : List Pr), k ≤ min us.length 4 ∧ gn = min us.length 4 - k ∧ i = .int .i64 k ∧ r = .slice ad n c ∧ Hid (OL W w wr ad n c ds l) ∧ Hid (l = l0 ++ (us.take k).map fun u => ⟨38, 0, plainL [u], plainL us, []⟩) ∧ Hid (wr.heap[w.heap.size]? = some (Obj.cells #[.int .i64 fm, .slice ca co.length cc, .slice ra cr.length rc, .slice ua us.length uc] 24)) ∧ n ≤ 3 + k)
      case atStart => exact ⟨0, _, _, _, _, _, Nat.zero_le _, by omega, rfl, rfl, HL0, Lib.hid (by rw [← HL0L.out]; simp [h1, h2n, h3n]), HN0, by omega⟩
      case round =>
        obtain ⟨k, n, c, ad, ds, l, hk, rfl, rfl, rfl, HL, HLQ1, HN, hn3⟩ := hrel
        obtain ⟨wo, rfl⟩ : ∃ x, x = wr := ⟨_, rfl⟩
        clear c0 c1 c2 c3 HL0 HN0
        obtain ⟨c0, c1, c2, c3⟩ := pr4 HN.out
        by_cases hlt : k < min us.length 4
        · have hk1 : k < us.length := by omega
          have hkk : (k : Int) < (us.length : Int) := by omega
          have hk4 : (k : Int) < 4 := by omega
          have hd : Below wo.heap.size wo wo.drew := (Below.refl _ _).drew
          have hwr : IntKind.i64.wrap ((k : Int) + 1) = (k : Int) + 1 := IntWalk.i64_in _ (by omega)
          obtain ⟨Lx, hsl, hbx⟩ := bs_one1 (HUS.out.below (below_then HWW.out HL.out.low HWW.out.size)) hk1
          obtain ⟨P1, hP1⟩ : ∃ P, plainL [us[k]] = P := ⟨_, rfl⟩
          obtain ⟨P2, hP2⟩ : ∃ P, plainL us = P := ⟨_, rfl⟩
          have hp1 : P1.length ≤ 100 := by rw [← hP1]; exact Nat.le_trans (plainL_len _) (by decide)
          have hp2 : P2.length ≤ 100 := by rw [← hP2]; exact Nat.le_trans (plainL_len _) (by decide)
          have HT : Hid (l ++ [⟨38, 0, P1, P2, []⟩] = l0 ++ (us.take (k + 1)).map fun u => ⟨38, 0, plainL [u], plainL us, []⟩) := by
            show _ = _
            rw [← hP1, ← hP2, HLQ1.out, List.take_succ_eq_append_getElem hk1, List.map_append, List.append_assoc]
            rfl
          have HP1 := Lib.hid hP1
          have HP2 := Lib.hid hP2
          have HBX := Lib.hid (hbx.below hd)
          have HLd := Lib.hid (HL.out.below hd)
          have HNd := Lib.hid (row_on HN.out hd)
          obtain ⟨e0, e1, e2, e3⟩ := pr4 HNd.out
          clear hP1 hP2 hbx hd HLQ1
          go_wp2_with fail
          go_region_law (first
            | (go_simp; go_at_call_of 38 Lx; refine plain_any _ [us[k]] P1 HP1.out _ HBX.out _ ?_; intro w5 hb5; have hl5 := HLd.out.below hb5; have hn5 := row_on HNd.out hb5; have f3 := (pr4 hn5).2.2.2)
            | (go_simp; go_at_call_of 38 us.length; refine plain_any _ us P2 HP2.out _ (HUS.out.below (below_then HWW.out hl5.low HWW.out.size)) _ ?_; intro w7 hb7; have hl7 := hl5.below hb7; have hn7 := block_alloc (o' := (Obj.cells #[.int .i64 38, .int .i64 0, .string (str P1), .string (str P2), .slice none 0 0] 147)) (row_on hn5 hb7); have hl8 := hl7.below ((Below.refl w7.heap.size w7).alloc (Nat.le_refl _) (Obj.cells #[.int .i64 38, .int .i64 0, .string (str P1), .string (str P2), .slice none 0 0] 147)))
            | (refine step_appAt (by rfl) (.tmp 48) (.tmp 60) 32 (by rfl) w.heap.size 147 (.agg #[Value.int .i64 0, Value.int .i64 0, Value.string ⟨#[]⟩, Value.string ⟨#[]⟩, Value.slice none 0 0]) 5 72 Tryz.underlying32 Tryz.info147 rfl (by decide) ad n c _ (by rfl) hl8.row (some ⟨w7.heap.size, 0, none⟩) 1 1 _ (by rfl) (lit5 _ _ rfl) (pc_oneCell _ _ _) (fun h => by cases h) (by unfold maxLen; omega) (by omega) hl8.low.size ?_; intro ad9 c9 w9 hown9 hg9 _))
          all_goals
            have HN9 := Lib.hid (block_grown hg9 hn7 (own_block_ne hn7 hl8.row (by decide)))
            have HL9 := Lib.hid (hl8.push (p := ⟨38, 0, P1, P2, []⟩) (pc_plain W (by decide) (by decide) (by decide) (by decide) hp1 hp2) hown9 hg9 (by omega))
            clear hown9 hg9 hn7 hl8 hl7 hl5 hn5 f3
            go_wp2_with fail
            go_roundg (min us.length 4 - (k + 1))
            case measure => omega
            case rel => exact ⟨k + 1, n + 1, c9, ad9, _, _, by omega, rfl, by go_num, rfl, HL9, HT, HN9, by omega⟩
        · have hkn : k = min us.length 4 := by omega
          have hfin : l = L := by
            rw [HLQ1.out, HLQ.out, hkn]
            by_cases h : us.length ≤ 4
            · rw [Nat.min_eq_left h, List.take_of_length_le (Nat.le_refl _), List.take_of_length_le h]
            · rw [Nat.min_eq_right (by omega)]
          subst hfin
          have HPS := Lib.hid HL.out.op
          have HNL := Lib.hid HL.out.nl
          have HBB := Lib.hid HL.out.low
          clear HL
          by_cases hk1 : k < us.length
          · have hkk : (k : Int) < (us.length : Int) := by omega
            have hk4 : ¬ (k : Int) < 4 := by omega
            go_wp2
            have hpo := HPS.out
            have hnl := HNL.out
            subst hnl
            exact HR.out _ _ _ _ hpo HBB.out
          · have hkk : ¬ (k : Int) < (us.length : Int) := by omega
            go_wp2
            have hpo := HPS.out
            have hnl := HNL.out
            subst hnl
            exact HR.out _ _ _ _ hpo HBB.out
    · have h3n : ¬ 0 < cr.length := by omega
      go_enter Tryz.func39, Tryz.ntmps39
      go_wp2_with (first
        | (at_builtin; have hla := HL0.out.below ((Below.refl _ _).alloc (Nat.le_refl _) (Obj.cells #[.int .i64 1, .int .i64 (bits .and .i64 fm 1), .string ⟨#[]⟩, .string ⟨#[]⟩, .slice none 0 0] 147)); refine wpList_appAt (by rfl) (.tmp 8) (.tmp 13) 32 (by rfl) w.heap.size 147 (.agg #[Value.int .i64 0, Value.int .i64 0, Value.string ⟨#[]⟩, Value.string ⟨#[]⟩, Value.slice none 0 0]) 5 72 Tryz.underlying32 Tryz.info147 rfl (by decide) _ _ _ _ (by rfl) hla.row _ 1 1 _ (by rfl) (lit5 _ _ (by first | rfl | simp)) (pc_oneCell _ _ _) (fun h => by cases h) (by unfold maxLen; omega) (by omega) hla.low.size ?_; intro ad1 cc1 w1 hown1 hg1 _; have hnb := block_alloc (o' := (Obj.cells #[.int .i64 1, .int .i64 (bits .and .i64 fm 1), .string ⟨#[]⟩, .string ⟨#[]⟩, .slice none 0 0] 147)) HN0.out; replace HN0 := Lib.hid (block_grown hg1 hnb (own_block_ne hnb hla.row (by decide))); replace HL0 := Lib.hid (hla.push (p := ⟨1, bits .and .i64 fm 1, [], [], []⟩) (pc_plain W (by decide) (by decide) (bits_lo_i64 _ _ _) (bits_hi_i64 _ _ _) (by simp) (by simp)) hown1 hg1 (by omega)); clear hla hown1 hg1 hnb; obtain ⟨c0, c1, c2, c3⟩ := pr4 HN0.out)
        | (go_at_call 38; refine plain_any _ co _ rfl _ (HCO.out.below (below_then HWW.out HL0.out.low HWW.out.size)) _ ?_; intro w3 hb3; replace HL0 := Lib.hid (HL0.out.below hb3); replace HN0 := Lib.hid (row_on HN0.out hb3); clear hb3; obtain ⟨c0, c1, c2, c3⟩ := pr4 HN0.out)
        | (at_builtin; have hla := HL0.out.below ((Below.refl _ _).alloc (Nat.le_refl _) (Obj.cells #[.int .i64 3, .int .i64 0, .string (str (plainL co)), .string ⟨#[]⟩, .slice none 0 0] 147)); refine wpList_appAt (by rfl) (.tmp 19) (.tmp 24) 32 (by rfl) w.heap.size 147 (.agg #[Value.int .i64 0, Value.int .i64 0, Value.string ⟨#[]⟩, Value.string ⟨#[]⟩, Value.slice none 0 0]) 5 72 Tryz.underlying32 Tryz.info147 rfl (by decide) _ _ _ _ (by rfl) hla.row _ 1 1 _ (by rfl) (lit5 _ _ (by first | rfl | simp)) (pc_oneCell _ _ _) (fun h => by cases h) (by unfold maxLen; omega) (by omega) hla.low.size ?_; intro ad1 cc1 w1 hown1 hg1 _; have hnb := block_alloc (o' := (Obj.cells #[.int .i64 3, .int .i64 0, .string (str (plainL co)), .string ⟨#[]⟩, .slice none 0 0] 147)) HN0.out; replace HN0 := Lib.hid (block_grown hg1 hnb (own_block_ne hnb hla.row (by decide))); replace HL0 := Lib.hid (hla.push (p := ⟨3, 0, plainL co, [], []⟩) (pc_plain W (by decide) (by decide) (by decide) (by decide) (Nat.le_trans (plainL_len _) (by decide)) (by simp)) hown1 hg1 (by omega)); clear hla hown1 hg1 hnb; obtain ⟨c0, c1, c2, c3⟩ := pr4 HN0.out)
        | (go_at_call 30; refine cut_old _ cr C 30 HC.out W _ HCR.out (by decide) _ ?_; intro xa xc hx3; have HX3 := Lib.hid hx3; clear hx3)
        | (at_builtin; have hla := HL0.out.below ((Below.refl _ _).alloc (Nat.le_refl _) (Obj.cells #[.int .i64 9, .int .i64 0, .string ⟨#[]⟩, .string ⟨#[]⟩, .slice xa C.length xc] 147)); refine wpList_appAt (by rfl) (.tmp 30) (.tmp 35) 32 (by rfl) w.heap.size 147 (.agg #[Value.int .i64 0, Value.int .i64 0, Value.string ⟨#[]⟩, Value.string ⟨#[]⟩, Value.slice none 0 0]) 5 72 Tryz.underlying32 Tryz.info147 rfl (by decide) _ _ _ _ (by rfl) hla.row _ 1 1 _ (by rfl) (lit5 _ _ (by first | rfl | simp)) (pc_oneCell _ _ _) (fun h => by cases h) (by unfold maxLen; omega) (by omega) hla.low.size ?_; intro ad1 cc1 w1 hown1 hg1 _; have hnb := block_alloc (o' := (Obj.cells #[.int .i64 9, .int .i64 0, .string ⟨#[]⟩, .string ⟨#[]⟩, .slice xa C.length xc] 147)) HN0.out; replace HN0 := Lib.hid (block_grown hg1 hnb (own_block_ne hnb hla.row (by decide))); replace HL0 := Lib.hid (hla.push (p := ⟨9, 0, [], [], C⟩) (pc_data HX3.out HCL.out) hown1 hg1 (by omega)); clear hla hown1 hg1 hnb; obtain ⟨c0, c1, c2, c3⟩ := pr4 HN0.out))
      go_loopg [3, 4] (min us.length 4) (fun gn r i wr => ∃ (k n c : Nat) (ad : Option Addr) (ds : List Value) (l : List Pr), k ≤ min us.length 4 ∧ gn = min us.length 4 - k ∧ i = .int .i64 k ∧ r = .slice ad n c ∧ Hid (OL W w wr ad n c ds l) ∧ Hid (l = l0 ++ (us.take k).map fun u => ⟨38, 0, plainL [u], plainL us, []⟩) ∧ Hid (wr.heap[w.heap.size]? = some (Obj.cells #[.int .i64 fm, .slice ca co.length cc, .slice ra cr.length rc, .slice ua us.length uc] 24)) ∧ n ≤ 3 + k)
      case atStart => exact ⟨0, _, _, _, _, _, Nat.zero_le _, by omega, rfl, rfl, HL0, Lib.hid (by rw [← HL0L.out]; simp [h1, h2n, h3n]), HN0, by omega⟩
      case round =>
        obtain ⟨k, n, c, ad, ds, l, hk, rfl, rfl, rfl, HL, HLQ1, HN, hn3⟩ := hrel
        obtain ⟨wo, rfl⟩ : ∃ x, x = wr := ⟨_, rfl⟩
        clear c0 c1 c2 c3 HL0 HN0
        obtain ⟨c0, c1, c2, c3⟩ := pr4 HN.out
        by_cases hlt : k < min us.length 4
        · have hk1 : k < us.length := by omega
          have hkk : (k : Int) < (us.length : Int) := by omega
          have hk4 : (k : Int) < 4 := by omega
          have hd : Below wo.heap.size wo wo.drew := (Below.refl _ _).drew
          have hwr : IntKind.i64.wrap ((k : Int) + 1) = (k : Int) + 1 := IntWalk.i64_in _ (by omega)
          obtain ⟨Lx, hsl, hbx⟩ := bs_one1 (HUS.out.below (below_then HWW.out HL.out.low HWW.out.size)) hk1
          obtain ⟨P1, hP1⟩ : ∃ P, plainL [us[k]] = P := ⟨_, rfl⟩
          obtain ⟨P2, hP2⟩ : ∃ P, plainL us = P := ⟨_, rfl⟩
          have hp1 : P1.length ≤ 100 := by rw [← hP1]; exact Nat.le_trans (plainL_len _) (by decide)
          have hp2 : P2.length ≤ 100 := by rw [← hP2]; exact Nat.le_trans (plainL_len _) (by decide)
          have HT : Hid (l ++ [⟨38, 0, P1, P2, []⟩] = l0 ++ (us.take (k + 1)).map fun u => ⟨38, 0, plainL [u], plainL us, []⟩) := by
            show _ = _
            rw [← hP1, ← hP2, HLQ1.out, List.take_succ_eq_append_getElem hk1, List.map_append, List.append_assoc]
            rfl
          have HP1 := Lib.hid hP1
          have HP2 := Lib.hid hP2
          have HBX := Lib.hid (hbx.below hd)
          have HLd := Lib.hid (HL.out.below hd)
          have HNd := Lib.hid (row_on HN.out hd)
          obtain ⟨e0, e1, e2, e3⟩ := pr4 HNd.out
          clear hP1 hP2 hbx hd HLQ1
          go_wp2_with fail
          go_region_law (first
            | (go_simp; go_at_call_of 38 Lx; refine plain_any _ [us[k]] P1 HP1.out _ HBX.out _ ?_; intro w5 hb5; have hl5 := HLd.out.below hb5; have hn5 := row_on HNd.out hb5; have f3 := (pr4 hn5).2.2.2)
            | (go_simp; go_at_call_of 38 us.length; refine plain_any _ us P2 HP2.out _ (HUS.out.below (below_then HWW.out hl5.low HWW.out.size)) _ ?_; intro w7 hb7; have hl7 := hl5.below hb7; have hn7 := block_alloc (o' := (Obj.cells #[.int .i64 38, .int .i64 0, .string (str P1), .string (str P2), .slice none 0 0] 147)) (row_on hn5 hb7); have hl8 := hl7.below ((Below.refl w7.heap.size w7).alloc (Nat.le_refl _) (Obj.cells #[.int .i64 38, .int .i64 0, .string (str P1), .string (str P2), .slice none 0 0] 147)))
            | (refine step_appAt (by rfl) (.tmp 48) (.tmp 60) 32 (by rfl) w.heap.size 147 (.agg #[Value.int .i64 0, Value.int .i64 0, Value.string ⟨#[]⟩, Value.string ⟨#[]⟩, Value.slice none 0 0]) 5 72 Tryz.underlying32 Tryz.info147 rfl (by decide) ad n c _ (by rfl) hl8.row (some ⟨w7.heap.size, 0, none⟩) 1 1 _ (by rfl) (lit5 _ _ rfl) (pc_oneCell _ _ _) (fun h => by cases h) (by unfold maxLen; omega) (by omega) hl8.low.size ?_; intro ad9 c9 w9 hown9 hg9 _))
          all_goals
            have HN9 := Lib.hid (block_grown hg9 hn7 (own_block_ne hn7 hl8.row (by decide)))
            have HL9 := Lib.hid (hl8.push (p := ⟨38, 0, P1, P2, []⟩) (pc_plain W (by decide) (by decide) (by decide) (by decide) hp1 hp2) hown9 hg9 (by omega))
            clear hown9 hg9 hn7 hl8 hl7 hl5 hn5 f3
            go_wp2_with fail
            go_roundg (min us.length 4 - (k + 1))
            case measure => omega
            case rel => exact ⟨k + 1, n + 1, c9, ad9, _, _, by omega, rfl, by go_num, rfl, HL9, HT, HN9, by omega⟩
        · have hkn : k = min us.length 4 := by omega
          have hfin : l = L := by
            rw [HLQ1.out, HLQ.out, hkn]
            by_cases h : us.length ≤ 4
            · rw [Nat.min_eq_left h, List.take_of_length_le (Nat.le_refl _), List.take_of_length_le h]
            · rw [Nat.min_eq_right (by omega)]
          subst hfin
          have HPS := Lib.hid HL.out.op
          have HNL := Lib.hid HL.out.nl
          have HBB := Lib.hid HL.out.low
          clear HL
          by_cases hk1 : k < us.length
          · have hkk : (k : Int) < (us.length : Int) := by omega
            have hk4 : ¬ (k : Int) < 4 := by omega
            go_wp2
            have hpo := HPS.out
            have hnl := HNL.out
            subst hnl
            exact HR.out _ _ _ _ hpo HBB.out
          · have hkk : ¬ (k : Int) < (us.length : Int) := by omega
            go_wp2
            have hpo := HPS.out
            have hnl := HNL.out
            subst hnl
            exact HR.out _ _ _ _ hpo HBB.out
  · have h2n : ¬ 0 < co.length := by omega
    by_cases h3 : (0 : Int) < (cr.length : Int)
    · have h3n : 0 < cr.length := by omega
      go_enter Tryz.func39, Tryz.ntmps39
      go_wp2_with (first
        | (at_builtin; have hla := HL0.out.below ((Below.refl _ _).alloc (Nat.le_refl _) (Obj.cells #[.int .i64 1, .int .i64 (bits .and .i64 fm 1), .string ⟨#[]⟩, .string ⟨#[]⟩, .slice none 0 0] 147)); refine wpList_appAt (by rfl) (.tmp 8) (.tmp 13) 32 (by rfl) w.heap.size 147 (.agg #[Value.int .i64 0, Value.int .i64 0, Value.string ⟨#[]⟩, Value.string ⟨#[]⟩, Value.slice none 0 0]) 5 72 Tryz.underlying32 Tryz.info147 rfl (by decide) _ _ _ _ (by rfl) hla.row _ 1 1 _ (by rfl) (lit5 _ _ (by first | rfl | simp)) (pc_oneCell _ _ _) (fun h => by cases h) (by unfold maxLen; omega) (by omega) hla.low.size ?_; intro ad1 cc1 w1 hown1 hg1 _; have hnb := block_alloc (o' := (Obj.cells #[.int .i64 1, .int .i64 (bits .and .i64 fm 1), .string ⟨#[]⟩, .string ⟨#[]⟩, .slice none 0 0] 147)) HN0.out; replace HN0 := Lib.hid (block_grown hg1 hnb (own_block_ne hnb hla.row (by decide))); replace HL0 := Lib.hid (hla.push (p := ⟨1, bits .and .i64 fm 1, [], [], []⟩) (pc_plain W (by decide) (by decide) (bits_lo_i64 _ _ _) (bits_hi_i64 _ _ _) (by simp) (by simp)) hown1 hg1 (by omega)); clear hla hown1 hg1 hnb; obtain ⟨c0, c1, c2, c3⟩ := pr4 HN0.out)
        | (go_at_call 38; refine plain_any _ co _ rfl _ (HCO.out.below (below_then HWW.out HL0.out.low HWW.out.size)) _ ?_; intro w3 hb3; replace HL0 := Lib.hid (HL0.out.below hb3); replace HN0 := Lib.hid (row_on HN0.out hb3); clear hb3; obtain ⟨c0, c1, c2, c3⟩ := pr4 HN0.out)
        | (at_builtin; have hla := HL0.out.below ((Below.refl _ _).alloc (Nat.le_refl _) (Obj.cells #[.int .i64 3, .int .i64 0, .string (str (plainL co)), .string ⟨#[]⟩, .slice none 0 0] 147)); refine wpList_appAt (by rfl) (.tmp 19) (.tmp 24) 32 (by rfl) w.heap.size 147 (.agg #[Value.int .i64 0, Value.int .i64 0, Value.string ⟨#[]⟩, Value.string ⟨#[]⟩, Value.slice none 0 0]) 5 72 Tryz.underlying32 Tryz.info147 rfl (by decide) _ _ _ _ (by rfl) hla.row _ 1 1 _ (by rfl) (lit5 _ _ (by first | rfl | simp)) (pc_oneCell _ _ _) (fun h => by cases h) (by unfold maxLen; omega) (by omega) hla.low.size ?_; intro ad1 cc1 w1 hown1 hg1 _; have hnb := block_alloc (o' := (Obj.cells #[.int .i64 3, .int .i64 0, .string (str (plainL co)), .string ⟨#[]⟩, .slice none 0 0] 147)) HN0.out; replace HN0 := Lib.hid (block_grown hg1 hnb (own_block_ne hnb hla.row (by decide))); replace HL0 := Lib.hid (hla.push (p := ⟨3, 0, plainL co, [], []⟩) (pc_plain W (by decide) (by decide) (by decide) (by decide) (Nat.le_trans (plainL_len _) (by decide)) (by simp)) hown1 hg1 (by omega)); clear hla hown1 hg1 hnb; obtain ⟨c0, c1, c2, c3⟩ := pr4 HN0.out)
        | (go_at_call 30; refine cut_old _ cr C 30 HC.out W _ HCR.out (by decide) _ ?_; intro xa xc hx3; have HX3 := Lib.hid hx3; clear hx3)
        | (at_builtin; have hla := HL0.out.below ((Below.refl _ _).alloc (Nat.le_refl _) (Obj.cells #[.int .i64 9, .int .i64 0, .string ⟨#[]⟩, .string ⟨#[]⟩, .slice xa C.length xc] 147)); refine wpList_appAt (by rfl) (.tmp 30) (.tmp 35) 32 (by rfl) w.heap.size 147 (.agg #[Value.int .i64 0, Value.int .i64 0, Value.string ⟨#[]⟩, Value.string ⟨#[]⟩, Value.slice none 0 0]) 5 72 Tryz.underlying32 Tryz.info147 rfl (by decide) _ _ _ _ (by rfl) hla.row _ 1 1 _ (by rfl) (lit5 _ _ (by first | rfl | simp)) (pc_oneCell _ _ _) (fun h => by cases h) (by unfold maxLen; omega) (by omega) hla.low.size ?_; intro ad1 cc1 w1 hown1 hg1 _; have hnb := block_alloc (o' := (Obj.cells #[.int .i64 9, .int .i64 0, .string ⟨#[]⟩, .string ⟨#[]⟩, .slice xa C.length xc] 147)) HN0.out; replace HN0 := Lib.hid (block_grown hg1 hnb (own_block_ne hnb hla.row (by decide))); replace HL0 := Lib.hid (hla.push (p := ⟨9, 0, [], [], C⟩) (pc_data HX3.out HCL.out) hown1 hg1 (by omega)); clear hla hown1 hg1 hnb; obtain ⟨c0, c1, c2, c3⟩ := pr4 HN0.out))
      go_loopg [3, 4] (min us.length 4) (fun gn r i wr => ∃ (k n c : Nat) (ad : Option Addr) (ds : List Value) (l : List Pr), k ≤ min us.length 4 ∧ gn = min us.length 4 - k ∧ i = .int .i64 k ∧ r = .slice ad n c ∧ Hid (OL W w wr ad n c ds l) ∧ Hid (l = l0 ++ (us.take k).map fun u => ⟨38, 0, plainL [u], plainL us, []⟩) ∧ Hid (wr.heap[w.heap.size]? = some (Obj.cells #[.int .i64 fm, .slice ca co.length cc, .slice ra cr.length rc, .slice ua us.length uc] 24)) ∧ n ≤ 3 + k)
      case atStart => exact ⟨0, _, _, _, _, _, Nat.zero_le _, by omega, rfl, rfl, HL0, Lib.hid (by rw [← HL0L.out]; simp [h1, h2n, h3n]), HN0, by omega⟩
      case round =>
        obtain ⟨k, n, c, ad, ds, l, hk, rfl, rfl, rfl, HL, HLQ1, HN, hn3⟩ := hrel
        obtain ⟨wo, rfl⟩ : ∃ x, x = wr := ⟨_, rfl⟩
        clear c0 c1 c2 c3 HL0 HN0
        obtain ⟨c0, c1, c2, c3⟩ := pr4 HN.out
        by_cases hlt : k < min us.length 4
        · have hk1 : k < us.length := by omega
          have hkk : (k : Int) < (us.length : Int) := by omega
          have hk4 : (k : Int) < 4 := by omega
          have hd : Below wo.heap.size wo wo.drew := (Below.refl _ _).drew
          have hwr : IntKind.i64.wrap ((k : Int) + 1) = (k : Int) + 1 := IntWalk.i64_in _ (by omega)
          obtain ⟨Lx, hsl, hbx⟩ := bs_one1 (HUS.out.below (below_then HWW.out HL.out.low HWW.out.size)) hk1
          obtain ⟨P1, hP1⟩ : ∃ P, plainL [us[k]] = P := ⟨_, rfl⟩
          obtain ⟨P2, hP2⟩ : ∃ P, plainL us = P := ⟨_, rfl⟩
          have hp1 : P1.length ≤ 100 := by rw [← hP1]; exact Nat.le_trans (plainL_len _) (by decide)
          have hp2 : P2.length ≤ 100 := by rw [← hP2]; exact Nat.le_trans (plainL_len _) (by decide)
          have HT : Hid (l ++ [⟨38, 0, P1, P2, []⟩] = l0 ++ (us.take (k + 1)).map fun u => ⟨38, 0, plainL [u], plainL us, []⟩) := by
            show _ = _
            rw [← hP1, ← hP2, HLQ1.out, List.take_succ_eq_append_getElem hk1, List.map_append, List.append_assoc]
            rfl
          have HP1 := Lib.hid hP1
          have HP2 := Lib.hid hP2
          have HBX := Lib.hid (hbx.below hd)
          have HLd := Lib.hid (HL.out.below hd)
          have HNd := Lib.hid (row_on HN.out hd)
          obtain ⟨e0, e1, e2, e3⟩ := pr4 HNd.out
          clear hP1 hP2 hbx hd HLQ1
          go_wp2_with fail
          go_region_law (first
            | (go_simp; go_at_call_of 38 Lx; refine plain_any _ [us[k]] P1 HP1.out _ HBX.out _ ?_; intro w5 hb5; have hl5 := HLd.out.below hb5; have hn5 := row_on HNd.out hb5; have f3 := (pr4 hn5).2.2.2)
            | (go_simp; go_at_call_of 38 us.length; refine plain_any _ us P2 HP2.out _ (HUS.out.below (below_then HWW.out hl5.low HWW.out.size)) _ ?_; intro w7 hb7; have hl7 := hl5.below hb7; have hn7 := block_alloc (o' := (Obj.cells #[.int .i64 38, .int .i64 0, .string (str P1), .string (str P2), .slice none 0 0] 147)) (row_on hn5 hb7); have hl8 := hl7.below ((Below.refl w7.heap.size w7).alloc (Nat.le_refl _) (Obj.cells #[.int .i64 38, .int .i64 0, .string (str P1), .string (str P2), .slice none 0 0] 147)))
            | (refine step_appAt (by rfl) (.tmp 48) (.tmp 60) 32 (by rfl) w.heap.size 147 (.agg #[Value.int .i64 0, Value.int .i64 0, Value.string ⟨#[]⟩, Value.string ⟨#[]⟩, Value.slice none 0 0]) 5 72 Tryz.underlying32 Tryz.info147 rfl (by decide) ad n c _ (by rfl) hl8.row (some ⟨w7.heap.size, 0, none⟩) 1 1 _ (by rfl) (lit5 _ _ rfl) (pc_oneCell _ _ _) (fun h => by cases h) (by unfold maxLen; omega) (by omega) hl8.low.size ?_; intro ad9 c9 w9 hown9 hg9 _))
          all_goals
            have HN9 := Lib.hid (block_grown hg9 hn7 (own_block_ne hn7 hl8.row (by decide)))
            have HL9 := Lib.hid (hl8.push (p := ⟨38, 0, P1, P2, []⟩) (pc_plain W (by decide) (by decide) (by decide) (by decide) hp1 hp2) hown9 hg9 (by omega))
            clear hown9 hg9 hn7 hl8 hl7 hl5 hn5 f3
            go_wp2_with fail
            go_roundg (min us.length 4 - (k + 1))
            case measure => omega
            case rel => exact ⟨k + 1, n + 1, c9, ad9, _, _, by omega, rfl, by go_num, rfl, HL9, HT, HN9, by omega⟩
        · have hkn : k = min us.length 4 := by omega
          have hfin : l = L := by
            rw [HLQ1.out, HLQ.out, hkn]
            by_cases h : us.length ≤ 4
            · rw [Nat.min_eq_left h, List.take_of_length_le (Nat.le_refl _), List.take_of_length_le h]
            · rw [Nat.min_eq_right (by omega)]
          subst hfin
          have HPS := Lib.hid HL.out.op
          have HNL := Lib.hid HL.out.nl
          have HBB := Lib.hid HL.out.low
          clear HL
          by_cases hk1 : k < us.length
          · have hkk : (k : Int) < (us.length : Int) := by omega
            have hk4 : ¬ (k : Int) < 4 := by omega
            go_wp2
            have hpo := HPS.out
            have hnl := HNL.out
            subst hnl
            exact HR.out _ _ _ _ hpo HBB.out
          · have hkk : ¬ (k : Int) < (us.length : Int) := by omega
            go_wp2
            have hpo := HPS.out
            have hnl := HNL.out
            subst hnl
            exact HR.out _ _ _ _ hpo HBB.out
    · have h3n : ¬ 0 < cr.length := by omega
      go_enter Tryz.func39, Tryz.ntmps39
      go_wp2_with (first
        | (at_builtin; have hla := HL0.out.below ((Below.refl _ _).alloc (Nat.le_refl _) (Obj.cells #[.int .i64 1, .int .i64 (bits .and .i64 fm 1), .string ⟨#[]⟩, .string ⟨#[]⟩, .slice none 0 0] 147)); refine wpList_appAt (by rfl) (.tmp 8) (.tmp 13) 32 (by rfl) w.heap.size 147 (.agg #[Value.int .i64 0, Value.int .i64 0, Value.string ⟨#[]⟩, Value.string ⟨#[]⟩, Value.slice none 0 0]) 5 72 Tryz.underlying32 Tryz.info147 rfl (by decide) _ _ _ _ (by rfl) hla.row _ 1 1 _ (by rfl) (lit5 _ _ (by first | rfl | simp)) (pc_oneCell _ _ _) (fun h => by cases h) (by unfold maxLen; omega) (by omega) hla.low.size ?_; intro ad1 cc1 w1 hown1 hg1 _; have hnb := block_alloc (o' := (Obj.cells #[.int .i64 1, .int .i64 (bits .and .i64 fm 1), .string ⟨#[]⟩, .string ⟨#[]⟩, .slice none 0 0] 147)) HN0.out; replace HN0 := Lib.hid (block_grown hg1 hnb (own_block_ne hnb hla.row (by decide))); replace HL0 := Lib.hid (hla.push (p := ⟨1, bits .and .i64 fm 1, [], [], []⟩) (pc_plain W (by decide) (by decide) (bits_lo_i64 _ _ _) (bits_hi_i64 _ _ _) (by simp) (by simp)) hown1 hg1 (by omega)); clear hla hown1 hg1 hnb; obtain ⟨c0, c1, c2, c3⟩ := pr4 HN0.out)
        | (go_at_call 38; refine plain_any _ co _ rfl _ (HCO.out.below (below_then HWW.out HL0.out.low HWW.out.size)) _ ?_; intro w3 hb3; replace HL0 := Lib.hid (HL0.out.below hb3); replace HN0 := Lib.hid (row_on HN0.out hb3); clear hb3; obtain ⟨c0, c1, c2, c3⟩ := pr4 HN0.out)
        | (at_builtin; have hla := HL0.out.below ((Below.refl _ _).alloc (Nat.le_refl _) (Obj.cells #[.int .i64 3, .int .i64 0, .string (str (plainL co)), .string ⟨#[]⟩, .slice none 0 0] 147)); refine wpList_appAt (by rfl) (.tmp 19) (.tmp 24) 32 (by rfl) w.heap.size 147 (.agg #[Value.int .i64 0, Value.int .i64 0, Value.string ⟨#[]⟩, Value.string ⟨#[]⟩, Value.slice none 0 0]) 5 72 Tryz.underlying32 Tryz.info147 rfl (by decide) _ _ _ _ (by rfl) hla.row _ 1 1 _ (by rfl) (lit5 _ _ (by first | rfl | simp)) (pc_oneCell _ _ _) (fun h => by cases h) (by unfold maxLen; omega) (by omega) hla.low.size ?_; intro ad1 cc1 w1 hown1 hg1 _; have hnb := block_alloc (o' := (Obj.cells #[.int .i64 3, .int .i64 0, .string (str (plainL co)), .string ⟨#[]⟩, .slice none 0 0] 147)) HN0.out; replace HN0 := Lib.hid (block_grown hg1 hnb (own_block_ne hnb hla.row (by decide))); replace HL0 := Lib.hid (hla.push (p := ⟨3, 0, plainL co, [], []⟩) (pc_plain W (by decide) (by decide) (by decide) (by decide) (Nat.le_trans (plainL_len _) (by decide)) (by simp)) hown1 hg1 (by omega)); clear hla hown1 hg1 hnb; obtain ⟨c0, c1, c2, c3⟩ := pr4 HN0.out)
        | (go_at_call 30; refine cut_old _ cr C 30 HC.out W _ HCR.out (by decide) _ ?_; intro xa xc hx3; have HX3 := Lib.hid hx3; clear hx3)
        | (at_builtin; have hla := HL0.out.below ((Below.refl _ _).alloc (Nat.le_refl _) (Obj.cells #[.int .i64 9, .int .i64 0, .string ⟨#[]⟩, .string ⟨#[]⟩, .slice xa C.length xc] 147)); refine wpList_appAt (by rfl) (.tmp 30) (.tmp 35) 32 (by rfl) w.heap.size 147 (.agg #[Value.int .i64 0, Value.int .i64 0, Value.string ⟨#[]⟩, Value.string ⟨#[]⟩, Value.slice none 0 0]) 5 72 Tryz.underlying32 Tryz.info147 rfl (by decide) _ _ _ _ (by rfl) hla.row _ 1 1 _ (by rfl) (lit5 _ _ (by first | rfl | simp)) (pc_oneCell _ _ _) (fun h => by cases h) (by unfold maxLen; omega) (by omega) hla.low.size ?_; intro ad1 cc1 w1 hown1 hg1 _; have hnb := block_alloc (o' := (Obj.cells #[.int .i64 9, .int .i64 0, .string ⟨#[]⟩, .string ⟨#[]⟩, .slice xa C.length xc] 147)) HN0.out; replace HN0 := Lib.hid (block_grown hg1 hnb (own_block_ne hnb hla.row (by decide))); replace HL0 := Lib.hid (hla.push (p := ⟨9, 0, [], [], C⟩) (pc_data HX3.out HCL.out) hown1 hg1 (by omega)); clear hla hown1 hg1 hnb; obtain ⟨c0, c1, c2, c3⟩ := pr4 HN0.out))
      go_loopg [3, 4] (min us.length 4) (fun gn r i wr => ∃ (k n c : Nat) (ad : Option Addr) (ds : List Value) (l : List Pr), k ≤ min us.length 4 ∧ gn = min us.length 4 - k ∧ i = .int .i64 k ∧ r = .slice ad n c ∧ Hid (OL W w wr ad n c ds l) ∧ Hid (l = l0 ++ (us.take k).map fun u => ⟨38, 0, plainL [u], plainL us, []⟩) ∧ Hid (wr.heap[w.heap.size]? = some (Obj.cells #[.int .i64 fm, .slice ca co.length cc, .slice ra cr.length rc, .slice ua us.length uc] 24)) ∧ n ≤ 3 + k)
      case atStart => exact ⟨0, _, _, _, _, _, Nat.zero_le _, by omega, rfl, rfl, HL0, Lib.hid (by rw [← HL0L.out]; simp [h1, h2n, h3n]), HN0, by omega⟩
      case round =>
        obtain ⟨k, n, c, ad, ds, l, hk, rfl, rfl, rfl, HL, HLQ1, HN, hn3⟩ := hrel
        obtain ⟨wo, rfl⟩ : ∃ x, x = wr := ⟨_, rfl⟩
        clear c0 c1 c2 c3 HL0 HN0
        obtain ⟨c0, c1, c2, c3⟩ := pr4 HN.out
        by_cases hlt : k < min us.length 4
        · have hk1 : k < us.length := by omega
          have hkk : (k : Int) < (us.length : Int) := by omega
          have hk4 : (k : Int) < 4 := by omega
          have hd : Below wo.heap.size wo wo.drew := (Below.refl _ _).drew
          have hwr : IntKind.i64.wrap ((k : Int) + 1) = (k : Int) + 1 := IntWalk.i64_in _ (by omega)
          obtain ⟨Lx, hsl, hbx⟩ := bs_one1 (HUS.out.below (below_then HWW.out HL.out.low HWW.out.size)) hk1
          obtain ⟨P1, hP1⟩ : ∃ P, plainL [us[k]] = P := ⟨_, rfl⟩
          obtain ⟨P2, hP2⟩ : ∃ P, plainL us = P := ⟨_, rfl⟩
          have hp1 : P1.length ≤ 100 := by rw [← hP1]; exact Nat.le_trans (plainL_len _) (by decide)
          have hp2 : P2.length ≤ 100 := by rw [← hP2]; exact Nat.le_trans (plainL_len _) (by decide)
          have HT : Hid (l ++ [⟨38, 0, P1, P2, []⟩] = l0 ++ (us.take (k + 1)).map fun u => ⟨38, 0, plainL [u], plainL us, []⟩) := by
            show _ = _
            rw [← hP1, ← hP2, HLQ1.out, List.take_succ_eq_append_getElem hk1, List.map_append, List.append_assoc]
            rfl
          have HP1 := Lib.hid hP1
          have HP2 := Lib.hid hP2
          have HBX := Lib.hid (hbx.below hd)
          have HLd := Lib.hid (HL.out.below hd)
          have HNd := Lib.hid (row_on HN.out hd)
          obtain ⟨e0, e1, e2, e3⟩ := pr4 HNd.out
          clear hP1 hP2 hbx hd HLQ1
          go_wp2_with fail
          go_region_law (first
            | (go_simp; go_at_call_of 38 Lx; refine plain_any _ [us[k]] P1 HP1.out _ HBX.out _ ?_; intro w5 hb5; have hl5 := HLd.out.below hb5; have hn5 := row_on HNd.out hb5; have f3 := (pr4 hn5).2.2.2)
            | (go_simp; go_at_call_of 38 us.length; refine plain_any _ us P2 HP2.out _ (HUS.out.below (below_then HWW.out hl5.low HWW.out.size)) _ ?_; intro w7 hb7; have hl7 := hl5.below hb7; have hn7 := block_alloc (o' := (Obj.cells #[.int .i64 38, .int .i64 0, .string (str P1), .string (str P2), .slice none 0 0] 147)) (row_on hn5 hb7); have hl8 := hl7.below ((Below.refl w7.heap.size w7).alloc (Nat.le_refl _) (Obj.cells #[.int .i64 38, .int .i64 0, .string (str P1), .string (str P2), .slice none 0 0] 147)))
            | (refine step_appAt (by rfl) (.tmp 48) (.tmp 60) 32 (by rfl) w.heap.size 147 (.agg #[Value.int .i64 0, Value.int .i64 0, Value.string ⟨#[]⟩, Value.string ⟨#[]⟩, Value.slice none 0 0]) 5 72 Tryz.underlying32 Tryz.info147 rfl (by decide) ad n c _ (by rfl) hl8.row (some ⟨w7.heap.size, 0, none⟩) 1 1 _ (by rfl) (lit5 _ _ rfl) (pc_oneCell _ _ _) (fun h => by cases h) (by unfold maxLen; omega) (by omega) hl8.low.size ?_; intro ad9 c9 w9 hown9 hg9 _))
          all_goals
            have HN9 := Lib.hid (block_grown hg9 hn7 (own_block_ne hn7 hl8.row (by decide)))
            have HL9 := Lib.hid (hl8.push (p := ⟨38, 0, P1, P2, []⟩) (pc_plain W (by decide) (by decide) (by decide) (by decide) hp1 hp2) hown9 hg9 (by omega))
            clear hown9 hg9 hn7 hl8 hl7 hl5 hn5 f3
            go_wp2_with fail
            go_roundg (min us.length 4 - (k + 1))
            case measure => omega
            case rel => exact ⟨k + 1, n + 1, c9, ad9, _, _, by omega, rfl, by go_num, rfl, HL9, HT, HN9, by omega⟩
        · have hkn : k = min us.length 4 := by omega
          have hfin : l = L := by
            rw [HLQ1.out, HLQ.out, hkn]
            by_cases h : us.length ≤ 4
            · rw [Nat.min_eq_left h, List.take_of_length_le (Nat.le_refl _), List.take_of_length_le h]
            · rw [Nat.min_eq_right (by omega)]
          subst hfin
          have HPS := Lib.hid HL.out.op
          have HNL := Lib.hid HL.out.nl
          have HBB := Lib.hid HL.out.low
          clear HL
          by_cases hk1 : k < us.length
          · have hkk : (k : Int) < (us.length : Int) := by omega
            have hk4 : ¬ (k : Int) < 4 := by omega
            go_wp2
            have hpo := HPS.out
            have hnl := HNL.out
            subst hnl
            exact HR.out _ _ _ _ hpo HBB.out
          · have hkk : ¬ (k : Int) < (us.length : Int) := by omega
            go_wp2
            have hpo := HPS.out
            have hnl := HNL.out
            subst hnl
            exact HR.out _ _ _ _ hpo HBB.out

end Go.Proofs.YtgimbocoamnkjaaGreatDoor
