/- The law EditUndoes, walked. -/
import Derived.Test.YtpodgocmcnkfdaaFew
import Derived.Test.YtpodgocmcnkfdaaEAll
import Derived.Test.YtpodgocmcnkfdaaWakes8
import Derived.Test.YtpodgocmcnkfdaaVerS
import Derived.Test.YtpodgocmcnkfdaaUndoP
import Derived.Test.YtpodgocmcnkfdaaKys
import Derived.Test.YtpodgocmcnkfdaaV4
namespace Go.Proofs.Ytpodgocmcnkfdaa
open Go.RowKit

theorem check_next {V : Vn} (h : checkV V = true) : 0 ≤ V.next ∧ V.next ≤ 1099511627776 := by
  obtain ⟨h1, _⟩ := (checkL_iff _ _ _ _).1 h
  unfold headL numberL at h1
  simp only [Bool.and_eq_true, decide_eq_true_eq] at h1
  exact ⟨h1.2.1.1, h1.2.1.2⟩
theorem wf_nums {w : World} {v : Value} {l : List Pl} (h : Pls w v l) (n : Int) (hn : n ∈ l.map (·.num)) : (Lit.int .i64 n).wf = true := by
  obtain ⟨p, hp, rfl⟩ := List.mem_map.1 hn
  have := h.pb p hp
  exact WalkArith.wf_i64 ⟨this.n0, this.n1⟩

set_option maxRecDepth 1000000 in
set_option maxHeartbeats 12800000 in
theorem undoes_law (v av kv : Value) (l : List Ed) (add : List Pl) (ks : List (List UInt8)) (w : World) (hv : Eds w v l) (hav : Pls w av add) (hks : Ks w kv ks) (R : Ending → World → Prop) (hR : ∀ w', Below w.heap.size w w' → R (.returned (.bool true)) w') :
    Calls Try.prog 5 #[v, av, kv] w R := by
  have HR := Lib.hid hR
  have HV := Lib.hid hv
  have HK := Lib.hid hks
  obtain ⟨L, hL⟩ : ∃ L, (l.take 8).map cutE = L := ⟨_, rfl⟩
  have hsm : SmallE L := by rw [← hL]; exact smallE_cut _
  have hll : L.length ≤ 8 := by rw [← hL, List.length_map, List.length_take]; omega
  obtain ⟨⟨V, z⟩, hx⟩ : ∃ q, allL vn0 L = q := ⟨_, rfl⟩
  have hck : checkV V = true := by
    have := allL_check L vn0 checkV0
    rw [hx] at this
    exact this
  have hvl : V.tabs.length ≤ 1000 := by
    have h1 := allL_len L hsm vn0
    rw [hx] at h1
    have h2 : vn0.tabs.length = 0 := rfl
    have h3 : V.tabs.length ≤ vn0.tabs.length + 20 * L.length := h1
    omega
  have HL := Lib.hid hL
  have HX := Lib.hid hx
  have HCK := Lib.hid hck
  have HN := Lib.hid (check_next hck)
  have hwrap : IntKind.i64.wrap (V.next + 100) = V.next + 100 := by have := HN.out; rw [IntKind.wrap_i64]; omega
  -- what is added, of eight tables at most
  obtain ⟨A, hA⟩ : ∃ A, add.take 8 = A := ⟨_, rfl⟩
  have hAl : A.length ≤ 8 := by rw [← hA, List.length_take]; omega
  clear hR hL hx hck hv
  obtain ⟨va, vc, rfl, _⟩ := HV.out
  have HAV := Lib.hid hav
  obtain ⟨ada, adc, rfl, hacap, _⟩ := hav
  obtain ⟨ka, kc, rfl, _⟩ := hks
  by_cases hz : z = 0
  rotate_left
  · have hd : (z != 0) = true := by simpa using hz
    go_enter Try.func5, Try.ntmps5
    go_wp2_with (first
      | (go_at_call 17; go_must (refine few_any _ l 8 (by omega) _ HV.out _ ?_); intro v1 w1 he1 hb1; rw [HL.out] at he1; have HE1 := Lib.hid he1; have HB1 := Lib.hid hb1; obtain ⟨xa, xc, rfl, _⟩ := he1; clear hb1)
      | (go_at_call 18; go_must (refine eall_any _ L V _ HX.out hsm (by omega) _ HE1.out _ ?_); intro v2 w2 hp2 hb2; obtain ⟨ya, yc, rfl⟩ := hp2.shape; have HB2 := Lib.hid (below_then HB1.out hb2 HB1.out.size); have HP2 := Lib.hid hp2.pls; clear hp2 hb2)
      | (go_at_call 12; go_must (refine num8_any _ _ _ ?_); have hx9 : Below w2.heap.size w2 (w2.alloc (Obj.cells #[Value.int .i64 V.log, .int .i64 V.next, .int .i64 V.seq, .slice ya V.tabs.length yc] 24)) := (Below.refl w2.heap.size w2).alloc (Nat.le_refl _) _; have HX9 := Lib.hid (below_then HB2.out hx9 HB2.out.size); clear hx9)
      | (go_at_call 16; go_must (refine wakes8_any _ _ ?_); intro w9 hb9; have HB9 := Lib.hid (below_then HX9.out hb9 (HX9.out).size); clear hb9))
    all_goals exact HR.out _ HB9.out
  subst hz
  obtain ⟨⟨Y, y⟩, hy⟩ : ∃ q, applyL V ⟨V.log, V.next + 100, V.seq, A, []⟩ = q := ⟨_, rfl⟩
  have hyl : Y.tabs.length ≤ 2000 := by
    have := applyL_len V ⟨V.log, V.next + 100, V.seq, A, []⟩
    rw [hy] at this
    have h3 : Y.tabs.length ≤ V.tabs.length + A.length := this
    omega
  have hyc : checkV Y = true := by
    have := applyL_check V ⟨V.log, V.next + 100, V.seq, A, []⟩
    rw [hy] at this
    exact this
  have HY := Lib.hid hy
  have HYC := Lib.hid hyc
  clear hy hyc
  by_cases hy0 : y = 0
  · subst hy0
    obtain ⟨U, hu⟩ : ∃ U, applyL Y ⟨Y.log, Y.next, Y.seq, [], A.map (·.num)⟩ = (U, 0) ∧ samePs U.tabs V.tabs = true := by
      have h1 := undo_law HCK.out A (by rw [HY.out])
      rw [HY.out] at h1
      obtain ⟨h2, h3⟩ := h1
      refine ⟨(applyL Y ⟨Y.log, Y.next, Y.seq, [], A.map (·.num)⟩).1, Prod.ext rfl h2, ?_⟩
      rw [h3]
      simp [samePs]
    have HU := Lib.hid hu.1
    have HSAME := Lib.hid hu.2
    have HCT := HYC
    clear hu
    by_cases h8 : 8 < add.length
    · have h8z : (8 : Int) < (add.length : Int) := by omega
      have HAL : Hid (8 = A.length) := by show _ = _; rw [← hA, List.length_take]; omega
      have HA : Hid (Pls w (.slice ada 8 adc) A) := by rw [← hA]; exact HAV.out.take (by omega)
      have hcz : (8 : Int) ≤ (adc : Int) := by omega
      clear hA HAV
      go_enter Try.func5, Try.ntmps5
      go_wp2_with (first | (go_at_call 17; go_must (refine few_any _ l 8 (by omega) _ HV.out _ ?_); intro v1 w1 he1 hb1; rw [HL.out] at he1; have HE1 := Lib.hid he1; have HB1 := Lib.hid hb1; obtain ⟨xa, xc, rfl, _⟩ := he1; clear hb1) | (go_at_call 18; go_must (refine eall_any _ L V _ HX.out hsm (by omega) _ HE1.out _ ?_); intro v2 w2 hp2 hb2; obtain ⟨ya, yc, rfl⟩ := hp2.shape; have HB2 := Lib.hid (below_then HB1.out hb2 HB1.out.size); have HP2 := Lib.hid hp2.pls; clear hp2 hb2) | (go_at_call 12; go_must (refine num8_any _ _ _ ?_)) | (go_at_call 10; have hx3 : Below w2.heap.size w2 ((w2.alloc (Obj.cells #[Value.int .i64 V.log, .int .i64 V.next, .int .i64 V.seq, .slice ya V.tabs.length yc] 24)).alloc (Obj.cells #[Value.int .i64 V.log, .int .i64 (V.next + 100), .int .i64 V.seq, .slice ada 8 adc, .slice none 0 0] 27)) := ((Below.refl w2.heap.size w2).alloc (Nat.le_refl _) _).alloc (by simp) _; have HX3 := Lib.hid hx3; clear hx3; go_must (refine eapply_any V.log V.next V.seq V.log (V.next + 100) V.seq _ _ _ V.tabs A [] Y _ HY.out (by omega) (by omega) (by simp) (fun n hn => by cases hn) _ (HP2.out.below HX3.out) (HA.out.below (below_then HB2.out HX3.out HB2.out.size)) (is_none _) _ ?_); intro v4 w4 hp4 hb4; obtain ⟨ba, bc, rfl⟩ := hp4.shape; have HN4 := Lib.hid (row_on (block_alloc (o' := (Obj.cells #[Value.int .i64 V.log, .int .i64 (V.next + 100), .int .i64 V.seq, .slice ada 8 adc, .slice none 0 0] 27)) (heap_alloc_new w2 (Obj.cells #[Value.int .i64 V.log, .int .i64 V.next, .int .i64 V.seq, .slice ya V.tabs.length yc] 24))) hb4); have HB24 := Lib.hid (below_tra HX3.out hb4); have HB4 := Lib.hid (below_then HB2.out HB24.out HB2.out.size); have HPO4 := Lib.hid hp4; have hz4 : w2.heap.size < w4.heap.size := Nat.lt_of_lt_of_le (by simp; omega) hb4.size; clear hp4 hb4))
      have hxt : Below w4.heap.size w4 (w4.alloc (Obj.cells #[Value.int .i64 Y.log, .int .i64 Y.next, .int .i64 Y.seq, .slice ba Y.tabs.length bc] 24)) := (Below.refl w4.heap.size w4).alloc (Nat.le_refl _) _
      have HB5 := Lib.hid (below_then HB4.out hxt HB4.out.size)
      have HN7 := Lib.hid (row_on HN4.out hxt)
      have HN10 := Lib.hid (heap_alloc_new w4 (Obj.cells #[Value.int .i64 Y.log, .int .i64 Y.next, .int .i64 Y.seq, .slice ba Y.tabs.length bc] 24))
      have HP5 := Lib.hid ((HP2.out.below HB24.out).below hxt)
      have HQ5 := Lib.hid (HPO4.out.below hxt)
      have hz5 : w2.heap.size < w4.heap.size ∧ w4.heap.size < (w4.alloc (Obj.cells #[Value.int .i64 Y.log, .int .i64 Y.next, .int .i64 Y.seq, .slice ba Y.tabs.length bc] 24)).heap.size := ⟨hz4, by simp⟩
      clear hxt
      generalize w4.alloc (Obj.cells #[Value.int .i64 Y.log, .int .i64 Y.next, .int .i64 Y.seq, .slice ba Y.tabs.length bc] 24) = w5 at HB5 HN7 HN10 HP5 HQ5 hz5 ⊢
      go_loopg [12, 13] (8) (fun gn s12 i wr => ∃ (k c : Nat) (ad : Option Addr), k ≤ (8) ∧ gn = (8) - k ∧ i = .int .i64 k ∧ s12 = .slice ad k c ∧ Hid (wr.ownsRow w5.heap.size 3 1 (.slice ad k c) k (iv ((A.take k).map (·.num)))) ∧ Hid (Below w5.heap.size w5 wr))
      case atStart => exact ⟨0, 0, none, Nat.zero_le _, by omega, rfl, rfl, World.ownsRow_nil _ _ _ _, Below.refl _ _⟩
      case round =>
        obtain ⟨k, c, ad, hk, rfl, rfl, rfl, HO, HBL⟩ := hrel
        obtain ⟨wl, rfl⟩ : ∃ x, x = wr := ⟨_, rfl⟩
        have hwl : Below w.heap.size w wl := below_then HB5.out HBL.out HB5.out.size
        by_cases hlt : k < (8)
        · have hkk : (k : Int) < ((8 : Nat) : Int) := by omega
          have hkA : k < A.length := by have := HAL.out; omega
          obtain ⟨pn, hpn⟩ : ∃ n, A[k].num = n := ⟨_, rfl⟩
          obtain ⟨ab, ao, rfl, hac⟩ : ∃ ab ao, ada = some ⟨ab, ao, none⟩ ∧ w.cell? ⟨ab, ao + k * 5, none⟩ = some (.int .i64 pn) := by
            obtain ⟨a', c', ee, _, _, _, v4⟩ := HA.out
            simp only [Value.slice.injEq] at ee
            obtain ⟨rfl, -, rfl⟩ := ee
            obtain ⟨b, o, rfl, v5⟩ := v4 (by omega)
            obtain ⟨x, y', q, _⟩ := v5 k hkA
            exact ⟨b, o, rfl, by rw [← hpn]; exact q.1⟩
          have p0 := cell_later hwl hac
          have htk : iv ((A.take (k + 1)).map (·.num)) = iv ((A.take k).map (·.num)) ++ [.int .i64 pn] := by
            rw [List.take_succ_eq_append_getElem hkA, List.map_append, iv_append, List.map_singleton, hpn]
            rfl
          have HTK := Lib.hid htk
          have HWL := Lib.hid hwl
          clear hac htk hpn hwl
          go_wp2_with (at_builtin; go_must (refine wpList_appAt (by rfl) (.tmp 58) (.tmp 64) 25 (by rfl) w5.heap.size 3 (.int .i64 0) 1 8 Try.underlying25 infoInt rfl (by decide) ad k c _ (by rfl) (HO.out.alloc (Obj.cells #[Value.int .i64 pn] 3)) (some ⟨wl.heap.size, 0, none⟩) 1 1 [Value.int .i64 pn] (by rfl) (rd_lit wl #[Value.int .i64 pn] 3 1 1 rfl) (one_oneCell _ _) (fun h => by cases h) (by unfold maxLen; omega) (by omega) (by have := HBL.out.size; simp; omega) ?_); intro ad6 c6 w6 hown6 hg6 _)
          have hb6 := below_app (HBL.out.alloc HBL.out.size (Obj.cells #[Value.int .i64 pn] 3)) hg6 (by have := HBL.out.size; simp; omega) (HO.out.alloc (Obj.cells #[Value.int .i64 pn] 3))
          rw [← HTK.out] at hown6
          go_roundg ((8) - (k + 1))
          case measure => omega
          case rel => exact ⟨k + 1, c6, ad6, by omega, rfl, by go_num, rfl, hown6, hb6⟩
        · have hkk : ¬ (k : Int) < ((8 : Nat) : Int) := by omega
          obtain rfl : k = (8) := by omega
          have hm7 := row_on HN7.out HBL.out
          have hm10 := row_on HN10.out HBL.out
          obtain ⟨e0, e1, e2, e3⟩ := v4_of_row hm10
          have HM7 := Lib.hid hm7
          have HM10 := Lib.hid hm10
          have HWL := Lib.hid hwl
          have HIS := Lib.hid (is_of_owns (L := A.map (·.num)) (by have := HO.out; rw [List.take_of_length_le (by have := HAL.out; omega)] at this; exact this) (by rw [List.length_map]; first | done | exact HAL.out.symm))
          have HPY := Lib.hid (HQ5.out.pls.below HBL.out)
          clear hm7 hm10 hwl
          go_wp2_with (first
            | (go_at_call 10; go_must (refine eapply_any Y.log Y.next Y.seq Y.log Y.next Y.seq _ _ _ Y.tabs [] (A.map (·.num)) U _ HU.out (by omega) (by simp) (by rw [List.length_map]; omega) (fun n hn => wf_nums HA.out n hn) _ HPY.out (pls_none _) HIS.out _ ?_); intro v6 w6 hp6 hb6; obtain ⟨ca, cc, rfl⟩ := hp6.shape; have hx6 := below_tra hb6 ((Below.refl w6.heap.size w6).alloc (Nat.le_refl _) (Obj.cells #[Value.int .i64 U.log, .int .i64 U.next, .int .i64 U.seq, .slice ca U.tabs.length cc] 24)); have hr7 := row_on HM7.out hx6; have f3 := (v4_of_row hr7).2.2.2; have HR7 := Lib.hid hr7; have HR10 := Lib.hid (row_on HM10.out hx6); have HX6 := Lib.hid (below_tra HBL.out hx6); have HPU := Lib.hid (hp6.pls.below ((Below.refl w6.heap.size w6).alloc (Nat.le_refl _) (Obj.cells #[Value.int .i64 U.log, .int .i64 U.next, .int .i64 U.seq, .slice ca U.tabs.length cc] 24))); clear hp6 hb6 hx6 hr7)
            | (go_at_call 12; go_must (refine num8_any _ _ _ ?_))
            | (go_at_call 20; go_must (refine rplaces_any _ _ U.tabs V.tabs true HSAME.out _ HPU.out (HP5.out.below HX6.out) _ ?_); intro w7 hb7; have hr10 := row_on HR10.out hb7; obtain ⟨i0, i1, i2, i3⟩ := v4_of_row hr10; have HS7 := Lib.hid (row_on HR7.out hb7); have HB7 := Lib.hid (below_tra HX6.out hb7); clear hr10 hb7)
            | (refine wpList_store_row (o := ⟨none, .store 24 (.tmp 7) (.tmp 90), _, _, _, _⟩) (by rfl) 24 (.tmp 7) (.tmp 90) (by rfl) (w2.heap.size) _ (by rfl) (by rfl) 24 _ (HS7).out (by kernel_rfl) (by rfl) (by simp [Value.oneCell']) ?_))
          have hbt : Below w.heap.size w (w7.setRow w2.heap.size #[Value.int .i64 Y.log, .int .i64 Y.next, .int .i64 Y.seq, .slice ba Y.tabs.length bc]) := below_setRow (below_then HB5.out HB7.out HB5.out.size) HB2.out.size _
          have HBT := Lib.hid hbt
          have HT7 := Lib.hid (setRow_heap w7 w2.heap.size _ #[Value.int .i64 Y.log, .int .i64 Y.next, .int .i64 Y.seq, .slice ba Y.tabs.length bc] _ _ HS7.out)
          have HPT := Lib.hid (((HQ5.out.below HB7.out).setRow_low (K := w2.heap.size) (cs := #[Value.int .i64 Y.log, .int .i64 Y.next, .int .i64 Y.seq, .slice ba Y.tabs.length bc]) (by simp; omega)).pls)
          clear hbt
          generalize w7.setRow w2.heap.size #[Value.int .i64 Y.log, .int .i64 Y.next, .int .i64 Y.seq, .slice ba Y.tabs.length bc] = wt at HBT HT7 HPT ⊢
          go_loopg [16] ks.length (fun gn i wr => ∃ k : Nat, k ≤ ks.length ∧ gn = ks.length - k ∧ i = .int .i64 k ∧ Hid (Below wt.heap.size wt wr))
          case atStart => exact ⟨0, Nat.zero_le _, by omega, rfl, Lib.hid (Below.refl _ _)⟩
          case round =>
            obtain ⟨k, hk, rfl, rfl, HBR⟩ := hrel
            obtain ⟨wo, rfl⟩ : ∃ x, x = wr := ⟨_, rfl⟩
            by_cases hlt : k < ks.length
            · have hkk : (k : Int) < (ks.length : Int) := by omega
              by_cases h10 : k < 10
              · have hk10 : (k : Int) < 10 := by omega
                obtain ⟨ka', kc', ee, _, k4⟩ := HK.out
                simp only [Value.slice.injEq] at ee
                obtain ⟨rfl, -, rfl⟩ := ee
                obtain ⟨kb, ko, rfl, k5⟩ := k4 (by omega)
                obtain ⟨u, ku, kbs⟩ := k5 k hlt
                obtain ⟨key, hkey⟩ : ∃ key, ks[k] = key := ⟨_, rfl⟩
                rw [hkey] at kbs
                obtain ⟨ua, uc, rfl, _⟩ : ∃ a c, u = .slice a key.length c ∧ True := by obtain ⟨a, c, h, _⟩ := kbs; exact ⟨a, c, h, trivial⟩
                have KU := Lib.hid ku
                have KBS := Lib.hid kbs
                clear k4 k5 ku kbs hkey
                go_wp2_with fail
                go_loopg [17] 3 (fun gn i wr => ∃ j : Nat, 1 ≤ j ∧ j ≤ 4 ∧ gn = 4 - j ∧ i = .int .i64 j ∧ Hid (Below wt.heap.size wt wr))
                case atStart => exact ⟨1, by omega, by omega, by omega, rfl, HBR⟩
                case round =>
                  obtain ⟨j, hj1, hj, rfl, rfl, HBI⟩ := hrel
                  obtain ⟨wi, rfl⟩ : ∃ x, x = wr := ⟨_, rfl⟩
                  by_cases hj4 : j < 4
                  · have hjj : (j : Int) ≤ 3 := by omega
                    obtain ⟨O, hO⟩ : ∃ O, overL Y.tabs (j : Int) key key = O := ⟨_, rfl⟩
                    have hol : O.length ≤ 1 := by rw [← hO]; exact over_one HCT.out (j : Int) (by omega) key
                    have HO := Lib.hid hO
                    have hwi : Below w.heap.size w wi := below_then HBT.out HBI.out HBT.out.size
                    have hd0 : Below wi.heap.size wi wi.drew := (Below.refl _ _).drew
                    have hr7 := row_on HT7.out HBI.out
                    have s7 : (wi.drew.cell? ⟨w2.heap.size, 0, none⟩ = some (Value.int .i64 Y.log) ∧ wi.drew.cell? ⟨w2.heap.size, 1, none⟩ = some (Value.int .i64 Y.next) ∧ wi.drew.cell? ⟨w2.heap.size, 2, none⟩ = some (Value.int .i64 Y.seq) ∧ wi.drew.cell? ⟨w2.heap.size, 3, none⟩ = some (Value.slice ba Y.tabs.length bc)) := v4_of_row (w := wi.drew) hr7
                    have u7 : wi.drew.cell? ⟨kb, ko + k, none⟩ = some (Value.slice ua key.length uc) := cell_later (hwi.drew) KU.out
                    have PT := Lib.hid ((HPT.out.below HBI.out).below hd0)
                    have PK := Lib.hid ((KBS.out.below hwi).below hd0)
                    have hng : ¬ (1 : Int) < (O.length : Int) := by omega
                    have hng2 : decide (1 < O.length) = false := decide_eq_false (by omega)
                    have HWI := Lib.hid hwi
                    clear hO hwi hd0 hr7
                    go_wp2_with fail
                    go_region_held3 (fun x => (x.cell? ⟨w2.heap.size, 0, none⟩ = some (Value.int .i64 Y.log) ∧ x.cell? ⟨w2.heap.size, 1, none⟩ = some (Value.int .i64 Y.next) ∧ x.cell? ⟨w2.heap.size, 2, none⟩ = some (Value.int .i64 Y.seq) ∧ x.cell? ⟨w2.heap.size, 3, none⟩ = some (Value.slice ba Y.tabs.length bc)) ∧ x.cell? ⟨kb, ko + k, none⟩ = some (Value.slice ua key.length uc))
                      (first | exact ⟨s7, u7⟩ | exact ⟨v4_later hk1 s7, cell_later hk1 u7⟩ | go_keep)
                      (first
                        | (go_at_call 21; refine over_any Y.log Y.next Y.seq (j : Int) _ _ _ Y.tabs key key O HO.out (by omega) _ PT.out PK.out PK.out _ ?_; intro oa oc wq hown hk1))
                    have HBN := Lib.hid (below_tra (HBI.out.drew) hk1)
                    rename_i hHeld
                    clear hHeld hk1 hown s7 u7
                    go_wp2_with fail
                    go_roundg (4 - (j + 1))
                    case measure => omega
                    case rel => exact ⟨j + 1, by omega, by omega, rfl, by go_num, HBN⟩
                  · have hjj : ¬ (j : Int) ≤ 3 := by omega
                    go_wp2_with fail
                    go_roundg (ks.length - (k + 1))
                    case measure => omega
                    case rel => exact ⟨k + 1, by omega, rfl, by go_num, HBI⟩
              · have hk10 : ¬ (k : Int) < 10 := by omega
                have hwo : Below w.heap.size w wo := below_then HBT.out HBR.out HBT.out.size
                have hr7 := row_on HT7.out HBR.out
                obtain ⟨q0, q1, q2, q3⟩ := v4_of_row hr7
                have HPO := Lib.hid (HPT.out.below HBR.out)
                have HWO := Lib.hid hwo
                clear hr7 hwo
                go_wp2_with (first
                  | (go_at_call 13; go_must (refine echeck_any Y.log Y.next Y.seq _ Y.tabs true HCT.out (by omega) _ HPO.out _ ?_); intro w8 hb8; unfold errI; have HB8 := Lib.hid (below_then HWO.out hb8 HWO.out.size); clear hb8)
                  | (go_at_call 12; go_must (refine num8_any _ _ _ ?_))
                  | (go_at_call 16; go_must (refine wakes8_any _ _ ?_); intro w9 hb9; have HB9 := Lib.hid (below_then HB8.out hb9 (HB8.out).size); clear hb9))
                all_goals exact HR.out _ HB9.out
            · have hkk : ¬ (k : Int) < (ks.length : Int) := by omega
              have hwo : Below w.heap.size w wo := below_then HBT.out HBR.out HBT.out.size
              have hr7 := row_on HT7.out HBR.out
              obtain ⟨q0, q1, q2, q3⟩ := v4_of_row hr7
              have HPO := Lib.hid (HPT.out.below HBR.out)
              have HWO := Lib.hid hwo
              clear hr7 hwo
              go_wp2_with (first
                | (go_at_call 13; go_must (refine echeck_any Y.log Y.next Y.seq _ Y.tabs true HCT.out (by omega) _ HPO.out _ ?_); intro w8 hb8; unfold errI; have HB8 := Lib.hid (below_then HWO.out hb8 HWO.out.size); clear hb8)
                | (go_at_call 12; go_must (refine num8_any _ _ _ ?_))
                | (go_at_call 16; go_must (refine wakes8_any _ _ ?_); intro w9 hb9; have HB9 := Lib.hid (below_then HB8.out hb9 (HB8.out).size); clear hb9))
              all_goals exact HR.out _ HB9.out
    · have h8z : ¬ (8 : Int) < (add.length : Int) := by omega
      obtain rfl : A = add := by rw [← hA, List.take_of_length_le (by omega)]
      have HAL : Hid (A.length = A.length) := rfl
      have HA := HAV
      clear hA HAV
      go_enter Try.func5, Try.ntmps5
      go_wp2_with (first | (go_at_call 17; go_must (refine few_any _ l 8 (by omega) _ HV.out _ ?_); intro v1 w1 he1 hb1; rw [HL.out] at he1; have HE1 := Lib.hid he1; have HB1 := Lib.hid hb1; obtain ⟨xa, xc, rfl, _⟩ := he1; clear hb1) | (go_at_call 18; go_must (refine eall_any _ L V _ HX.out hsm (by omega) _ HE1.out _ ?_); intro v2 w2 hp2 hb2; obtain ⟨ya, yc, rfl⟩ := hp2.shape; have HB2 := Lib.hid (below_then HB1.out hb2 HB1.out.size); have HP2 := Lib.hid hp2.pls; clear hp2 hb2) | (go_at_call 12; go_must (refine num8_any _ _ _ ?_)) | (go_at_call 10; have hx3 : Below w2.heap.size w2 ((w2.alloc (Obj.cells #[Value.int .i64 V.log, .int .i64 V.next, .int .i64 V.seq, .slice ya V.tabs.length yc] 24)).alloc (Obj.cells #[Value.int .i64 V.log, .int .i64 (V.next + 100), .int .i64 V.seq, .slice ada A.length adc, .slice none 0 0] 27)) := ((Below.refl w2.heap.size w2).alloc (Nat.le_refl _) _).alloc (by simp) _; have HX3 := Lib.hid hx3; clear hx3; go_must (refine eapply_any V.log V.next V.seq V.log (V.next + 100) V.seq _ _ _ V.tabs A [] Y _ HY.out (by omega) (by omega) (by simp) (fun n hn => by cases hn) _ (HP2.out.below HX3.out) (HA.out.below (below_then HB2.out HX3.out HB2.out.size)) (is_none _) _ ?_); intro v4 w4 hp4 hb4; obtain ⟨ba, bc, rfl⟩ := hp4.shape; have HN4 := Lib.hid (row_on (block_alloc (o' := (Obj.cells #[Value.int .i64 V.log, .int .i64 (V.next + 100), .int .i64 V.seq, .slice ada A.length adc, .slice none 0 0] 27)) (heap_alloc_new w2 (Obj.cells #[Value.int .i64 V.log, .int .i64 V.next, .int .i64 V.seq, .slice ya V.tabs.length yc] 24))) hb4); have HB24 := Lib.hid (below_tra HX3.out hb4); have HB4 := Lib.hid (below_then HB2.out HB24.out HB2.out.size); have HPO4 := Lib.hid hp4; have hz4 : w2.heap.size < w4.heap.size := Nat.lt_of_lt_of_le (by simp; omega) hb4.size; clear hp4 hb4))
      have hxt : Below w4.heap.size w4 (w4.alloc (Obj.cells #[Value.int .i64 Y.log, .int .i64 Y.next, .int .i64 Y.seq, .slice ba Y.tabs.length bc] 24)) := (Below.refl w4.heap.size w4).alloc (Nat.le_refl _) _
      have HB5 := Lib.hid (below_then HB4.out hxt HB4.out.size)
      have HN7 := Lib.hid (row_on HN4.out hxt)
      have HN10 := Lib.hid (heap_alloc_new w4 (Obj.cells #[Value.int .i64 Y.log, .int .i64 Y.next, .int .i64 Y.seq, .slice ba Y.tabs.length bc] 24))
      have HP5 := Lib.hid ((HP2.out.below HB24.out).below hxt)
      have HQ5 := Lib.hid (HPO4.out.below hxt)
      have hz5 : w2.heap.size < w4.heap.size ∧ w4.heap.size < (w4.alloc (Obj.cells #[Value.int .i64 Y.log, .int .i64 Y.next, .int .i64 Y.seq, .slice ba Y.tabs.length bc] 24)).heap.size := ⟨hz4, by simp⟩
      clear hxt
      generalize w4.alloc (Obj.cells #[Value.int .i64 Y.log, .int .i64 Y.next, .int .i64 Y.seq, .slice ba Y.tabs.length bc] 24) = w5 at HB5 HN7 HN10 HP5 HQ5 hz5 ⊢
      go_loopg [12, 13] (A.length) (fun gn s12 i wr => ∃ (k c : Nat) (ad : Option Addr), k ≤ (A.length) ∧ gn = (A.length) - k ∧ i = .int .i64 k ∧ s12 = .slice ad k c ∧ Hid (wr.ownsRow w5.heap.size 3 1 (.slice ad k c) k (iv ((A.take k).map (·.num)))) ∧ Hid (Below w5.heap.size w5 wr))
      case atStart => exact ⟨0, 0, none, Nat.zero_le _, by omega, rfl, rfl, World.ownsRow_nil _ _ _ _, Below.refl _ _⟩
      case round =>
        obtain ⟨k, c, ad, hk, rfl, rfl, rfl, HO, HBL⟩ := hrel
        obtain ⟨wl, rfl⟩ : ∃ x, x = wr := ⟨_, rfl⟩
        have hwl : Below w.heap.size w wl := below_then HB5.out HBL.out HB5.out.size
        by_cases hlt : k < (A.length)
        · have hkk : (k : Int) < ((A.length : Nat) : Int) := by omega
          have hkA : k < A.length := by have := HAL.out; omega
          obtain ⟨pn, hpn⟩ : ∃ n, A[k].num = n := ⟨_, rfl⟩
          obtain ⟨ab, ao, rfl, hac⟩ : ∃ ab ao, ada = some ⟨ab, ao, none⟩ ∧ w.cell? ⟨ab, ao + k * 5, none⟩ = some (.int .i64 pn) := by
            obtain ⟨a', c', ee, _, _, _, v4⟩ := HA.out
            simp only [Value.slice.injEq] at ee
            obtain ⟨rfl, -, rfl⟩ := ee
            obtain ⟨b, o, rfl, v5⟩ := v4 (by omega)
            obtain ⟨x, y', q, _⟩ := v5 k hkA
            exact ⟨b, o, rfl, by rw [← hpn]; exact q.1⟩
          have p0 := cell_later hwl hac
          have htk : iv ((A.take (k + 1)).map (·.num)) = iv ((A.take k).map (·.num)) ++ [.int .i64 pn] := by
            rw [List.take_succ_eq_append_getElem hkA, List.map_append, iv_append, List.map_singleton, hpn]
            rfl
          have HTK := Lib.hid htk
          have HWL := Lib.hid hwl
          clear hac htk hpn hwl
          go_wp2_with (at_builtin; go_must (refine wpList_appAt (by rfl) (.tmp 58) (.tmp 64) 25 (by rfl) w5.heap.size 3 (.int .i64 0) 1 8 Try.underlying25 infoInt rfl (by decide) ad k c _ (by rfl) (HO.out.alloc (Obj.cells #[Value.int .i64 pn] 3)) (some ⟨wl.heap.size, 0, none⟩) 1 1 [Value.int .i64 pn] (by rfl) (rd_lit wl #[Value.int .i64 pn] 3 1 1 rfl) (one_oneCell _ _) (fun h => by cases h) (by unfold maxLen; omega) (by omega) (by have := HBL.out.size; simp; omega) ?_); intro ad6 c6 w6 hown6 hg6 _)
          have hb6 := below_app (HBL.out.alloc HBL.out.size (Obj.cells #[Value.int .i64 pn] 3)) hg6 (by have := HBL.out.size; simp; omega) (HO.out.alloc (Obj.cells #[Value.int .i64 pn] 3))
          rw [← HTK.out] at hown6
          go_roundg ((A.length) - (k + 1))
          case measure => omega
          case rel => exact ⟨k + 1, c6, ad6, by omega, rfl, by go_num, rfl, hown6, hb6⟩
        · have hkk : ¬ (k : Int) < ((A.length : Nat) : Int) := by omega
          obtain rfl : k = (A.length) := by omega
          have hm7 := row_on HN7.out HBL.out
          have hm10 := row_on HN10.out HBL.out
          obtain ⟨e0, e1, e2, e3⟩ := v4_of_row hm10
          have HM7 := Lib.hid hm7
          have HM10 := Lib.hid hm10
          have HWL := Lib.hid hwl
          have HIS := Lib.hid (is_of_owns (L := A.map (·.num)) (by have := HO.out; rw [List.take_of_length_le (by have := HAL.out; omega)] at this; exact this) (by rw [List.length_map]; first | done | exact HAL.out.symm))
          have HPY := Lib.hid (HQ5.out.pls.below HBL.out)
          clear hm7 hm10 hwl
          go_wp2_with (first
            | (go_at_call 10; go_must (refine eapply_any Y.log Y.next Y.seq Y.log Y.next Y.seq _ _ _ Y.tabs [] (A.map (·.num)) U _ HU.out (by omega) (by simp) (by rw [List.length_map]; omega) (fun n hn => wf_nums HA.out n hn) _ HPY.out (pls_none _) HIS.out _ ?_); intro v6 w6 hp6 hb6; obtain ⟨ca, cc, rfl⟩ := hp6.shape; have hx6 := below_tra hb6 ((Below.refl w6.heap.size w6).alloc (Nat.le_refl _) (Obj.cells #[Value.int .i64 U.log, .int .i64 U.next, .int .i64 U.seq, .slice ca U.tabs.length cc] 24)); have hr7 := row_on HM7.out hx6; have f3 := (v4_of_row hr7).2.2.2; have HR7 := Lib.hid hr7; have HR10 := Lib.hid (row_on HM10.out hx6); have HX6 := Lib.hid (below_tra HBL.out hx6); have HPU := Lib.hid (hp6.pls.below ((Below.refl w6.heap.size w6).alloc (Nat.le_refl _) (Obj.cells #[Value.int .i64 U.log, .int .i64 U.next, .int .i64 U.seq, .slice ca U.tabs.length cc] 24))); clear hp6 hb6 hx6 hr7)
            | (go_at_call 12; go_must (refine num8_any _ _ _ ?_))
            | (go_at_call 20; go_must (refine rplaces_any _ _ U.tabs V.tabs true HSAME.out _ HPU.out (HP5.out.below HX6.out) _ ?_); intro w7 hb7; have hr10 := row_on HR10.out hb7; obtain ⟨i0, i1, i2, i3⟩ := v4_of_row hr10; have HS7 := Lib.hid (row_on HR7.out hb7); have HB7 := Lib.hid (below_tra HX6.out hb7); clear hr10 hb7)
            | (refine wpList_store_row (o := ⟨none, .store 24 (.tmp 7) (.tmp 90), _, _, _, _⟩) (by rfl) 24 (.tmp 7) (.tmp 90) (by rfl) (w2.heap.size) _ (by rfl) (by rfl) 24 _ (HS7).out (by kernel_rfl) (by rfl) (by simp [Value.oneCell']) ?_))
          have hbt : Below w.heap.size w (w7.setRow w2.heap.size #[Value.int .i64 Y.log, .int .i64 Y.next, .int .i64 Y.seq, .slice ba Y.tabs.length bc]) := below_setRow (below_then HB5.out HB7.out HB5.out.size) HB2.out.size _
          have HBT := Lib.hid hbt
          have HT7 := Lib.hid (setRow_heap w7 w2.heap.size _ #[Value.int .i64 Y.log, .int .i64 Y.next, .int .i64 Y.seq, .slice ba Y.tabs.length bc] _ _ HS7.out)
          have HPT := Lib.hid (((HQ5.out.below HB7.out).setRow_low (K := w2.heap.size) (cs := #[Value.int .i64 Y.log, .int .i64 Y.next, .int .i64 Y.seq, .slice ba Y.tabs.length bc]) (by simp; omega)).pls)
          clear hbt
          generalize w7.setRow w2.heap.size #[Value.int .i64 Y.log, .int .i64 Y.next, .int .i64 Y.seq, .slice ba Y.tabs.length bc] = wt at HBT HT7 HPT ⊢
          go_loopg [16] ks.length (fun gn i wr => ∃ k : Nat, k ≤ ks.length ∧ gn = ks.length - k ∧ i = .int .i64 k ∧ Hid (Below wt.heap.size wt wr))
          case atStart => exact ⟨0, Nat.zero_le _, by omega, rfl, Lib.hid (Below.refl _ _)⟩
          case round =>
            obtain ⟨k, hk, rfl, rfl, HBR⟩ := hrel
            obtain ⟨wo, rfl⟩ : ∃ x, x = wr := ⟨_, rfl⟩
            by_cases hlt : k < ks.length
            · have hkk : (k : Int) < (ks.length : Int) := by omega
              by_cases h10 : k < 10
              · have hk10 : (k : Int) < 10 := by omega
                obtain ⟨ka', kc', ee, _, k4⟩ := HK.out
                simp only [Value.slice.injEq] at ee
                obtain ⟨rfl, -, rfl⟩ := ee
                obtain ⟨kb, ko, rfl, k5⟩ := k4 (by omega)
                obtain ⟨u, ku, kbs⟩ := k5 k hlt
                obtain ⟨key, hkey⟩ : ∃ key, ks[k] = key := ⟨_, rfl⟩
                rw [hkey] at kbs
                obtain ⟨ua, uc, rfl, _⟩ : ∃ a c, u = .slice a key.length c ∧ True := by obtain ⟨a, c, h, _⟩ := kbs; exact ⟨a, c, h, trivial⟩
                have KU := Lib.hid ku
                have KBS := Lib.hid kbs
                clear k4 k5 ku kbs hkey
                go_wp2_with fail
                go_loopg [17] 3 (fun gn i wr => ∃ j : Nat, 1 ≤ j ∧ j ≤ 4 ∧ gn = 4 - j ∧ i = .int .i64 j ∧ Hid (Below wt.heap.size wt wr))
                case atStart => exact ⟨1, by omega, by omega, by omega, rfl, HBR⟩
                case round =>
                  obtain ⟨j, hj1, hj, rfl, rfl, HBI⟩ := hrel
                  obtain ⟨wi, rfl⟩ : ∃ x, x = wr := ⟨_, rfl⟩
                  by_cases hj4 : j < 4
                  · have hjj : (j : Int) ≤ 3 := by omega
                    obtain ⟨O, hO⟩ : ∃ O, overL Y.tabs (j : Int) key key = O := ⟨_, rfl⟩
                    have hol : O.length ≤ 1 := by rw [← hO]; exact over_one HCT.out (j : Int) (by omega) key
                    have HO := Lib.hid hO
                    have hwi : Below w.heap.size w wi := below_then HBT.out HBI.out HBT.out.size
                    have hd0 : Below wi.heap.size wi wi.drew := (Below.refl _ _).drew
                    have hr7 := row_on HT7.out HBI.out
                    have s7 : (wi.drew.cell? ⟨w2.heap.size, 0, none⟩ = some (Value.int .i64 Y.log) ∧ wi.drew.cell? ⟨w2.heap.size, 1, none⟩ = some (Value.int .i64 Y.next) ∧ wi.drew.cell? ⟨w2.heap.size, 2, none⟩ = some (Value.int .i64 Y.seq) ∧ wi.drew.cell? ⟨w2.heap.size, 3, none⟩ = some (Value.slice ba Y.tabs.length bc)) := v4_of_row (w := wi.drew) hr7
                    have u7 : wi.drew.cell? ⟨kb, ko + k, none⟩ = some (Value.slice ua key.length uc) := cell_later (hwi.drew) KU.out
                    have PT := Lib.hid ((HPT.out.below HBI.out).below hd0)
                    have PK := Lib.hid ((KBS.out.below hwi).below hd0)
                    have hng : ¬ (1 : Int) < (O.length : Int) := by omega
                    have hng2 : decide (1 < O.length) = false := decide_eq_false (by omega)
                    have HWI := Lib.hid hwi
                    clear hO hwi hd0 hr7
                    go_wp2_with fail
                    go_region_held3 (fun x => (x.cell? ⟨w2.heap.size, 0, none⟩ = some (Value.int .i64 Y.log) ∧ x.cell? ⟨w2.heap.size, 1, none⟩ = some (Value.int .i64 Y.next) ∧ x.cell? ⟨w2.heap.size, 2, none⟩ = some (Value.int .i64 Y.seq) ∧ x.cell? ⟨w2.heap.size, 3, none⟩ = some (Value.slice ba Y.tabs.length bc)) ∧ x.cell? ⟨kb, ko + k, none⟩ = some (Value.slice ua key.length uc))
                      (first | exact ⟨s7, u7⟩ | exact ⟨v4_later hk1 s7, cell_later hk1 u7⟩ | go_keep)
                      (first
                        | (go_at_call 21; refine over_any Y.log Y.next Y.seq (j : Int) _ _ _ Y.tabs key key O HO.out (by omega) _ PT.out PK.out PK.out _ ?_; intro oa oc wq hown hk1))
                    have HBN := Lib.hid (below_tra (HBI.out.drew) hk1)
                    rename_i hHeld
                    clear hHeld hk1 hown s7 u7
                    go_wp2_with fail
                    go_roundg (4 - (j + 1))
                    case measure => omega
                    case rel => exact ⟨j + 1, by omega, by omega, rfl, by go_num, HBN⟩
                  · have hjj : ¬ (j : Int) ≤ 3 := by omega
                    go_wp2_with fail
                    go_roundg (ks.length - (k + 1))
                    case measure => omega
                    case rel => exact ⟨k + 1, by omega, rfl, by go_num, HBI⟩
              · have hk10 : ¬ (k : Int) < 10 := by omega
                have hwo : Below w.heap.size w wo := below_then HBT.out HBR.out HBT.out.size
                have hr7 := row_on HT7.out HBR.out
                obtain ⟨q0, q1, q2, q3⟩ := v4_of_row hr7
                have HPO := Lib.hid (HPT.out.below HBR.out)
                have HWO := Lib.hid hwo
                clear hr7 hwo
                go_wp2_with (first
                  | (go_at_call 13; go_must (refine echeck_any Y.log Y.next Y.seq _ Y.tabs true HCT.out (by omega) _ HPO.out _ ?_); intro w8 hb8; unfold errI; have HB8 := Lib.hid (below_then HWO.out hb8 HWO.out.size); clear hb8)
                  | (go_at_call 12; go_must (refine num8_any _ _ _ ?_))
                  | (go_at_call 16; go_must (refine wakes8_any _ _ ?_); intro w9 hb9; have HB9 := Lib.hid (below_then HB8.out hb9 (HB8.out).size); clear hb9))
                all_goals exact HR.out _ HB9.out
            · have hkk : ¬ (k : Int) < (ks.length : Int) := by omega
              have hwo : Below w.heap.size w wo := below_then HBT.out HBR.out HBT.out.size
              have hr7 := row_on HT7.out HBR.out
              obtain ⟨q0, q1, q2, q3⟩ := v4_of_row hr7
              have HPO := Lib.hid (HPT.out.below HBR.out)
              have HWO := Lib.hid hwo
              clear hr7 hwo
              go_wp2_with (first
                | (go_at_call 13; go_must (refine echeck_any Y.log Y.next Y.seq _ Y.tabs true HCT.out (by omega) _ HPO.out _ ?_); intro w8 hb8; unfold errI; have HB8 := Lib.hid (below_then HWO.out hb8 HWO.out.size); clear hb8)
                | (go_at_call 12; go_must (refine num8_any _ _ _ ?_))
                | (go_at_call 16; go_must (refine wakes8_any _ _ ?_); intro w9 hb9; have HB9 := Lib.hid (below_then HB8.out hb9 (HB8.out).size); clear hb9))
              all_goals exact HR.out _ HB9.out
  · have hd : (y == 0) = false := by simpa using hy0
    have HCT : Hid (checkL apartL V.log V.next V.seq V.tabs = true) := HCK
    by_cases h8 : 8 < add.length
    · have h8z : (8 : Int) < (add.length : Int) := by omega
      have HAL : Hid (8 = A.length) := by show _ = _; rw [← hA, List.length_take]; omega
      have HA : Hid (Pls w (.slice ada 8 adc) A) := by rw [← hA]; exact HAV.out.take (by omega)
      have hcz : (8 : Int) ≤ (adc : Int) := by omega
      clear hA HAV
      go_enter Try.func5, Try.ntmps5
      go_wp2_with (first | (go_at_call 17; go_must (refine few_any _ l 8 (by omega) _ HV.out _ ?_); intro v1 w1 he1 hb1; rw [HL.out] at he1; have HE1 := Lib.hid he1; have HB1 := Lib.hid hb1; obtain ⟨xa, xc, rfl, _⟩ := he1; clear hb1) | (go_at_call 18; go_must (refine eall_any _ L V _ HX.out hsm (by omega) _ HE1.out _ ?_); intro v2 w2 hp2 hb2; obtain ⟨ya, yc, rfl⟩ := hp2.shape; have HB2 := Lib.hid (below_then HB1.out hb2 HB1.out.size); have HP2 := Lib.hid hp2.pls; clear hp2 hb2) | (go_at_call 12; go_must (refine num8_any _ _ _ ?_)) | (go_at_call 10; have hx3 : Below w2.heap.size w2 ((w2.alloc (Obj.cells #[Value.int .i64 V.log, .int .i64 V.next, .int .i64 V.seq, .slice ya V.tabs.length yc] 24)).alloc (Obj.cells #[Value.int .i64 V.log, .int .i64 (V.next + 100), .int .i64 V.seq, .slice ada 8 adc, .slice none 0 0] 27)) := ((Below.refl w2.heap.size w2).alloc (Nat.le_refl _) _).alloc (by simp) _; have HX3 := Lib.hid hx3; clear hx3; go_must (refine eapply_any V.log V.next V.seq V.log (V.next + 100) V.seq _ _ _ V.tabs A [] Y _ HY.out (by omega) (by omega) (by simp) (fun n hn => by cases hn) _ (HP2.out.below HX3.out) (HA.out.below (below_then HB2.out HX3.out HB2.out.size)) (is_none _) _ ?_); intro v4 w4 hp4 hb4; obtain ⟨ba, bc, rfl⟩ := hp4.shape; have HN4 := Lib.hid (row_on (block_alloc (o' := (Obj.cells #[Value.int .i64 V.log, .int .i64 (V.next + 100), .int .i64 V.seq, .slice ada 8 adc, .slice none 0 0] 27)) (heap_alloc_new w2 (Obj.cells #[Value.int .i64 V.log, .int .i64 V.next, .int .i64 V.seq, .slice ya V.tabs.length yc] 24))) hb4); have HB24 := Lib.hid (below_tra HX3.out hb4); have HB4 := Lib.hid (below_then HB2.out HB24.out HB2.out.size); have HPO4 := Lib.hid hp4; have hz4 : w2.heap.size < w4.heap.size := Nat.lt_of_lt_of_le (by simp; omega) hb4.size; clear hp4 hb4))
      have hxt : Below w4.heap.size w4 (w4.alloc (Obj.cells #[Value.int .i64 Y.log, .int .i64 Y.next, .int .i64 Y.seq, .slice ba Y.tabs.length bc] 24)) := (Below.refl w4.heap.size w4).alloc (Nat.le_refl _) _
      have HBT := Lib.hid (below_then HB4.out hxt HB4.out.size)
      have HT7 := Lib.hid (row_on HN4.out hxt)
      have HPT := Lib.hid ((HP2.out.below HB24.out).below hxt)
      clear hxt
      generalize w4.alloc (Obj.cells #[Value.int .i64 Y.log, .int .i64 Y.next, .int .i64 Y.seq, .slice ba Y.tabs.length bc] 24) = wt at HBT HT7 HPT ⊢
      go_loopg [16] ks.length (fun gn i wr => ∃ k : Nat, k ≤ ks.length ∧ gn = ks.length - k ∧ i = .int .i64 k ∧ Hid (Below wt.heap.size wt wr))
      case atStart => exact ⟨0, Nat.zero_le _, by omega, rfl, Lib.hid (Below.refl _ _)⟩
      case round =>
        obtain ⟨k, hk, rfl, rfl, HBR⟩ := hrel
        obtain ⟨wo, rfl⟩ : ∃ x, x = wr := ⟨_, rfl⟩
        by_cases hlt : k < ks.length
        · have hkk : (k : Int) < (ks.length : Int) := by omega
          by_cases h10 : k < 10
          · have hk10 : (k : Int) < 10 := by omega
            obtain ⟨ka', kc', ee, _, k4⟩ := HK.out
            simp only [Value.slice.injEq] at ee
            obtain ⟨rfl, -, rfl⟩ := ee
            obtain ⟨kb, ko, rfl, k5⟩ := k4 (by omega)
            obtain ⟨u, ku, kbs⟩ := k5 k hlt
            obtain ⟨key, hkey⟩ : ∃ key, ks[k] = key := ⟨_, rfl⟩
            rw [hkey] at kbs
            obtain ⟨ua, uc, rfl, _⟩ : ∃ a c, u = .slice a key.length c ∧ True := by obtain ⟨a, c, h, _⟩ := kbs; exact ⟨a, c, h, trivial⟩
            have KU := Lib.hid ku
            have KBS := Lib.hid kbs
            clear k4 k5 ku kbs hkey
            go_wp2_with fail
            go_loopg [17] 3 (fun gn i wr => ∃ j : Nat, 1 ≤ j ∧ j ≤ 4 ∧ gn = 4 - j ∧ i = .int .i64 j ∧ Hid (Below wt.heap.size wt wr))
            case atStart => exact ⟨1, by omega, by omega, by omega, rfl, HBR⟩
            case round =>
              obtain ⟨j, hj1, hj, rfl, rfl, HBI⟩ := hrel
              obtain ⟨wi, rfl⟩ : ∃ x, x = wr := ⟨_, rfl⟩
              by_cases hj4 : j < 4
              · have hjj : (j : Int) ≤ 3 := by omega
                obtain ⟨O, hO⟩ : ∃ O, overL V.tabs (j : Int) key key = O := ⟨_, rfl⟩
                have hol : O.length ≤ 1 := by rw [← hO]; exact over_one HCT.out (j : Int) (by omega) key
                have HO := Lib.hid hO
                have hwi : Below w.heap.size w wi := below_then HBT.out HBI.out HBT.out.size
                have hd0 : Below wi.heap.size wi wi.drew := (Below.refl _ _).drew
                have hr7 := row_on HT7.out HBI.out
                have s7 : (wi.drew.cell? ⟨w2.heap.size, 0, none⟩ = some (Value.int .i64 V.log) ∧ wi.drew.cell? ⟨w2.heap.size, 1, none⟩ = some (Value.int .i64 V.next) ∧ wi.drew.cell? ⟨w2.heap.size, 2, none⟩ = some (Value.int .i64 V.seq) ∧ wi.drew.cell? ⟨w2.heap.size, 3, none⟩ = some (Value.slice ya V.tabs.length yc)) := v4_of_row (w := wi.drew) hr7
                have u7 : wi.drew.cell? ⟨kb, ko + k, none⟩ = some (Value.slice ua key.length uc) := cell_later (hwi.drew) KU.out
                have PT := Lib.hid ((HPT.out.below HBI.out).below hd0)
                have PK := Lib.hid ((KBS.out.below hwi).below hd0)
                have hng : ¬ (1 : Int) < (O.length : Int) := by omega
                have hng2 : decide (1 < O.length) = false := decide_eq_false (by omega)
                have HWI := Lib.hid hwi
                clear hO hwi hd0 hr7
                go_wp2_with fail
                go_region_held3 (fun x => (x.cell? ⟨w2.heap.size, 0, none⟩ = some (Value.int .i64 V.log) ∧ x.cell? ⟨w2.heap.size, 1, none⟩ = some (Value.int .i64 V.next) ∧ x.cell? ⟨w2.heap.size, 2, none⟩ = some (Value.int .i64 V.seq) ∧ x.cell? ⟨w2.heap.size, 3, none⟩ = some (Value.slice ya V.tabs.length yc)) ∧ x.cell? ⟨kb, ko + k, none⟩ = some (Value.slice ua key.length uc))
                  (first | exact ⟨s7, u7⟩ | exact ⟨v4_later hk1 s7, cell_later hk1 u7⟩ | go_keep)
                  (first
                    | (go_at_call 21; refine over_any V.log V.next V.seq (j : Int) _ _ _ V.tabs key key O HO.out (by omega) _ PT.out PK.out PK.out _ ?_; intro oa oc wq hown hk1))
                have HBN := Lib.hid (below_tra (HBI.out.drew) hk1)
                rename_i hHeld
                clear hHeld hk1 hown s7 u7
                go_wp2_with fail
                go_roundg (4 - (j + 1))
                case measure => omega
                case rel => exact ⟨j + 1, by omega, by omega, rfl, by go_num, HBN⟩
              · have hjj : ¬ (j : Int) ≤ 3 := by omega
                go_wp2_with fail
                go_roundg (ks.length - (k + 1))
                case measure => omega
                case rel => exact ⟨k + 1, by omega, rfl, by go_num, HBI⟩
          · have hk10 : ¬ (k : Int) < 10 := by omega
            have hwo : Below w.heap.size w wo := below_then HBT.out HBR.out HBT.out.size
            have hr7 := row_on HT7.out HBR.out
            obtain ⟨q0, q1, q2, q3⟩ := v4_of_row hr7
            have HPO := Lib.hid (HPT.out.below HBR.out)
            have HWO := Lib.hid hwo
            clear hr7 hwo
            go_wp2_with (first
              | (go_at_call 13; go_must (refine echeck_any V.log V.next V.seq _ V.tabs true HCT.out (by omega) _ HPO.out _ ?_); intro w8 hb8; unfold errI; have HB8 := Lib.hid (below_then HWO.out hb8 HWO.out.size); clear hb8)
              | (go_at_call 12; go_must (refine num8_any _ _ _ ?_))
              | (go_at_call 16; go_must (refine wakes8_any _ _ ?_); intro w9 hb9; have HB9 := Lib.hid (below_then HB8.out hb9 (HB8.out).size); clear hb9))
            all_goals exact HR.out _ HB9.out
        · have hkk : ¬ (k : Int) < (ks.length : Int) := by omega
          have hwo : Below w.heap.size w wo := below_then HBT.out HBR.out HBT.out.size
          have hr7 := row_on HT7.out HBR.out
          obtain ⟨q0, q1, q2, q3⟩ := v4_of_row hr7
          have HPO := Lib.hid (HPT.out.below HBR.out)
          have HWO := Lib.hid hwo
          clear hr7 hwo
          go_wp2_with (first
            | (go_at_call 13; go_must (refine echeck_any V.log V.next V.seq _ V.tabs true HCT.out (by omega) _ HPO.out _ ?_); intro w8 hb8; unfold errI; have HB8 := Lib.hid (below_then HWO.out hb8 HWO.out.size); clear hb8)
            | (go_at_call 12; go_must (refine num8_any _ _ _ ?_))
            | (go_at_call 16; go_must (refine wakes8_any _ _ ?_); intro w9 hb9; have HB9 := Lib.hid (below_then HB8.out hb9 (HB8.out).size); clear hb9))
          all_goals exact HR.out _ HB9.out
    · have h8z : ¬ (8 : Int) < (add.length : Int) := by omega
      obtain rfl : A = add := by rw [← hA, List.take_of_length_le (by omega)]
      have HAL : Hid (A.length = A.length) := rfl
      have HA := HAV
      clear hA HAV
      go_enter Try.func5, Try.ntmps5
      go_wp2_with (first | (go_at_call 17; go_must (refine few_any _ l 8 (by omega) _ HV.out _ ?_); intro v1 w1 he1 hb1; rw [HL.out] at he1; have HE1 := Lib.hid he1; have HB1 := Lib.hid hb1; obtain ⟨xa, xc, rfl, _⟩ := he1; clear hb1) | (go_at_call 18; go_must (refine eall_any _ L V _ HX.out hsm (by omega) _ HE1.out _ ?_); intro v2 w2 hp2 hb2; obtain ⟨ya, yc, rfl⟩ := hp2.shape; have HB2 := Lib.hid (below_then HB1.out hb2 HB1.out.size); have HP2 := Lib.hid hp2.pls; clear hp2 hb2) | (go_at_call 12; go_must (refine num8_any _ _ _ ?_)) | (go_at_call 10; have hx3 : Below w2.heap.size w2 ((w2.alloc (Obj.cells #[Value.int .i64 V.log, .int .i64 V.next, .int .i64 V.seq, .slice ya V.tabs.length yc] 24)).alloc (Obj.cells #[Value.int .i64 V.log, .int .i64 (V.next + 100), .int .i64 V.seq, .slice ada A.length adc, .slice none 0 0] 27)) := ((Below.refl w2.heap.size w2).alloc (Nat.le_refl _) _).alloc (by simp) _; have HX3 := Lib.hid hx3; clear hx3; go_must (refine eapply_any V.log V.next V.seq V.log (V.next + 100) V.seq _ _ _ V.tabs A [] Y _ HY.out (by omega) (by omega) (by simp) (fun n hn => by cases hn) _ (HP2.out.below HX3.out) (HA.out.below (below_then HB2.out HX3.out HB2.out.size)) (is_none _) _ ?_); intro v4 w4 hp4 hb4; obtain ⟨ba, bc, rfl⟩ := hp4.shape; have HN4 := Lib.hid (row_on (block_alloc (o' := (Obj.cells #[Value.int .i64 V.log, .int .i64 (V.next + 100), .int .i64 V.seq, .slice ada A.length adc, .slice none 0 0] 27)) (heap_alloc_new w2 (Obj.cells #[Value.int .i64 V.log, .int .i64 V.next, .int .i64 V.seq, .slice ya V.tabs.length yc] 24))) hb4); have HB24 := Lib.hid (below_tra HX3.out hb4); have HB4 := Lib.hid (below_then HB2.out HB24.out HB2.out.size); have HPO4 := Lib.hid hp4; have hz4 : w2.heap.size < w4.heap.size := Nat.lt_of_lt_of_le (by simp; omega) hb4.size; clear hp4 hb4))
      have hxt : Below w4.heap.size w4 (w4.alloc (Obj.cells #[Value.int .i64 Y.log, .int .i64 Y.next, .int .i64 Y.seq, .slice ba Y.tabs.length bc] 24)) := (Below.refl w4.heap.size w4).alloc (Nat.le_refl _) _
      have HBT := Lib.hid (below_then HB4.out hxt HB4.out.size)
      have HT7 := Lib.hid (row_on HN4.out hxt)
      have HPT := Lib.hid ((HP2.out.below HB24.out).below hxt)
      clear hxt
      generalize w4.alloc (Obj.cells #[Value.int .i64 Y.log, .int .i64 Y.next, .int .i64 Y.seq, .slice ba Y.tabs.length bc] 24) = wt at HBT HT7 HPT ⊢
      go_loopg [16] ks.length (fun gn i wr => ∃ k : Nat, k ≤ ks.length ∧ gn = ks.length - k ∧ i = .int .i64 k ∧ Hid (Below wt.heap.size wt wr))
      case atStart => exact ⟨0, Nat.zero_le _, by omega, rfl, Lib.hid (Below.refl _ _)⟩
      case round =>
        obtain ⟨k, hk, rfl, rfl, HBR⟩ := hrel
        obtain ⟨wo, rfl⟩ : ∃ x, x = wr := ⟨_, rfl⟩
        by_cases hlt : k < ks.length
        · have hkk : (k : Int) < (ks.length : Int) := by omega
          by_cases h10 : k < 10
          · have hk10 : (k : Int) < 10 := by omega
            obtain ⟨ka', kc', ee, _, k4⟩ := HK.out
            simp only [Value.slice.injEq] at ee
            obtain ⟨rfl, -, rfl⟩ := ee
            obtain ⟨kb, ko, rfl, k5⟩ := k4 (by omega)
            obtain ⟨u, ku, kbs⟩ := k5 k hlt
            obtain ⟨key, hkey⟩ : ∃ key, ks[k] = key := ⟨_, rfl⟩
            rw [hkey] at kbs
            obtain ⟨ua, uc, rfl, _⟩ : ∃ a c, u = .slice a key.length c ∧ True := by obtain ⟨a, c, h, _⟩ := kbs; exact ⟨a, c, h, trivial⟩
            have KU := Lib.hid ku
            have KBS := Lib.hid kbs
            clear k4 k5 ku kbs hkey
            go_wp2_with fail
            go_loopg [17] 3 (fun gn i wr => ∃ j : Nat, 1 ≤ j ∧ j ≤ 4 ∧ gn = 4 - j ∧ i = .int .i64 j ∧ Hid (Below wt.heap.size wt wr))
            case atStart => exact ⟨1, by omega, by omega, by omega, rfl, HBR⟩
            case round =>
              obtain ⟨j, hj1, hj, rfl, rfl, HBI⟩ := hrel
              obtain ⟨wi, rfl⟩ : ∃ x, x = wr := ⟨_, rfl⟩
              by_cases hj4 : j < 4
              · have hjj : (j : Int) ≤ 3 := by omega
                obtain ⟨O, hO⟩ : ∃ O, overL V.tabs (j : Int) key key = O := ⟨_, rfl⟩
                have hol : O.length ≤ 1 := by rw [← hO]; exact over_one HCT.out (j : Int) (by omega) key
                have HO := Lib.hid hO
                have hwi : Below w.heap.size w wi := below_then HBT.out HBI.out HBT.out.size
                have hd0 : Below wi.heap.size wi wi.drew := (Below.refl _ _).drew
                have hr7 := row_on HT7.out HBI.out
                have s7 : (wi.drew.cell? ⟨w2.heap.size, 0, none⟩ = some (Value.int .i64 V.log) ∧ wi.drew.cell? ⟨w2.heap.size, 1, none⟩ = some (Value.int .i64 V.next) ∧ wi.drew.cell? ⟨w2.heap.size, 2, none⟩ = some (Value.int .i64 V.seq) ∧ wi.drew.cell? ⟨w2.heap.size, 3, none⟩ = some (Value.slice ya V.tabs.length yc)) := v4_of_row (w := wi.drew) hr7
                have u7 : wi.drew.cell? ⟨kb, ko + k, none⟩ = some (Value.slice ua key.length uc) := cell_later (hwi.drew) KU.out
                have PT := Lib.hid ((HPT.out.below HBI.out).below hd0)
                have PK := Lib.hid ((KBS.out.below hwi).below hd0)
                have hng : ¬ (1 : Int) < (O.length : Int) := by omega
                have hng2 : decide (1 < O.length) = false := decide_eq_false (by omega)
                have HWI := Lib.hid hwi
                clear hO hwi hd0 hr7
                go_wp2_with fail
                go_region_held3 (fun x => (x.cell? ⟨w2.heap.size, 0, none⟩ = some (Value.int .i64 V.log) ∧ x.cell? ⟨w2.heap.size, 1, none⟩ = some (Value.int .i64 V.next) ∧ x.cell? ⟨w2.heap.size, 2, none⟩ = some (Value.int .i64 V.seq) ∧ x.cell? ⟨w2.heap.size, 3, none⟩ = some (Value.slice ya V.tabs.length yc)) ∧ x.cell? ⟨kb, ko + k, none⟩ = some (Value.slice ua key.length uc))
                  (first | exact ⟨s7, u7⟩ | exact ⟨v4_later hk1 s7, cell_later hk1 u7⟩ | go_keep)
                  (first
                    | (go_at_call 21; refine over_any V.log V.next V.seq (j : Int) _ _ _ V.tabs key key O HO.out (by omega) _ PT.out PK.out PK.out _ ?_; intro oa oc wq hown hk1))
                have HBN := Lib.hid (below_tra (HBI.out.drew) hk1)
                rename_i hHeld
                clear hHeld hk1 hown s7 u7
                go_wp2_with fail
                go_roundg (4 - (j + 1))
                case measure => omega
                case rel => exact ⟨j + 1, by omega, by omega, rfl, by go_num, HBN⟩
              · have hjj : ¬ (j : Int) ≤ 3 := by omega
                go_wp2_with fail
                go_roundg (ks.length - (k + 1))
                case measure => omega
                case rel => exact ⟨k + 1, by omega, rfl, by go_num, HBI⟩
          · have hk10 : ¬ (k : Int) < 10 := by omega
            have hwo : Below w.heap.size w wo := below_then HBT.out HBR.out HBT.out.size
            have hr7 := row_on HT7.out HBR.out
            obtain ⟨q0, q1, q2, q3⟩ := v4_of_row hr7
            have HPO := Lib.hid (HPT.out.below HBR.out)
            have HWO := Lib.hid hwo
            clear hr7 hwo
            go_wp2_with (first
              | (go_at_call 13; go_must (refine echeck_any V.log V.next V.seq _ V.tabs true HCT.out (by omega) _ HPO.out _ ?_); intro w8 hb8; unfold errI; have HB8 := Lib.hid (below_then HWO.out hb8 HWO.out.size); clear hb8)
              | (go_at_call 12; go_must (refine num8_any _ _ _ ?_))
              | (go_at_call 16; go_must (refine wakes8_any _ _ ?_); intro w9 hb9; have HB9 := Lib.hid (below_then HB8.out hb9 (HB8.out).size); clear hb9))
            all_goals exact HR.out _ HB9.out
        · have hkk : ¬ (k : Int) < (ks.length : Int) := by omega
          have hwo : Below w.heap.size w wo := below_then HBT.out HBR.out HBT.out.size
          have hr7 := row_on HT7.out HBR.out
          obtain ⟨q0, q1, q2, q3⟩ := v4_of_row hr7
          have HPO := Lib.hid (HPT.out.below HBR.out)
          have HWO := Lib.hid hwo
          clear hr7 hwo
          go_wp2_with (first
            | (go_at_call 13; go_must (refine echeck_any V.log V.next V.seq _ V.tabs true HCT.out (by omega) _ HPO.out _ ?_); intro w8 hb8; unfold errI; have HB8 := Lib.hid (below_then HWO.out hb8 HWO.out.size); clear hb8)
            | (go_at_call 12; go_must (refine num8_any _ _ _ ?_))
            | (go_at_call 16; go_must (refine wakes8_any _ _ ?_); intro w9 hb9; have HB9 := Lib.hid (below_then HB8.out hb9 (HB8.out).size); clear hb9))
          all_goals exact HR.out _ HB9.out
end Go.Proofs.Ytpodgocmcnkfdaa
