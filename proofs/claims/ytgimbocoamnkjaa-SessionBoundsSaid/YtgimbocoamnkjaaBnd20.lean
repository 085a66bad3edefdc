/- The law SessionBounds, walked. -/
import Derived.Test.YtgimbocoamnkjaaWakes20
import Derived.Test.YtgimbocoamnkjaaOpen20
import Derived.Test.YtgimbocoamnkjaaMItem
import Derived.Deep.CutRange
import Derived.Deep.CutBlock
namespace Go.Proofs.Ytgimbocoamnkjaa
open Go.RowKit

theorem fl_id {w : World} {g c n : Nat} {qs : List (V3 × Fl)} {fs : List Fl} (hq : qs.map (·.2) = fs) (hn : qs.length = n) (h : w.ownsRow 0 54 16 (.slice (some ⟨g, 0, none⟩) n c) n (qs.flatMap flP)) {a : Nat} (ha : a < fs.length) : w.cell? ⟨g, a * 16, none⟩ = some (.int .i64 (fs[a]).id) := by
  subst hn
  subst hq
  have hk : a < qs.length := by simpa using ha
  have := fl_cells h hk 0 (by omega)
  rw [Nat.add_zero] at this
  rw [this, List.getElem_map]
  rfl
theorem ids_unlike {s : Sess} (hi : SInv s) {a b : Nat} (hb : b < a) (ha : a < s.flights.length) : ((s.flights[a]).id == (s.flights[b]'(by omega)).id) = false := by
  have hn := hi.nd
  rw [hi.eq] at hn
  rw [beq_eq_false_iff_ne]
  intro e
  have h1 := List.pairwise_iff_getElem.1 hn b a (by simp; omega) (by simpa using ha) hb
  rw [List.getElem_map, List.getElem_map] at h1
  exact h1 e.symm

set_option maxRecDepth 100000 in
set_option maxHeartbeats 8000000 in
theorem bounds_law (v : Value) (l : List Stp) (W : World) (hv : Sps W v l) (R : Ending → World → Prop)
    (hR : ∀ w', Below W.heap.size W w' → R (.returned (.bool true)) w') :
    Calls Try.prog 3 #[v] W R := by
  have HR := Lib.hid hR
  have HV := Lib.hid hv
  obtain ⟨va, vc, rfl, _⟩ := hv
  obtain ⟨N, hN⟩ : ∃ n, l.length = n := ⟨_, rfl⟩
  rw [hN]
  have HN := Lib.hid hN
  clear hR hN
  go_enter Try.func3, Try.ntmps3
  go_wp2_with (first
    | (go_at_call 5; go_must (refine new_sw [99] _ _ ?_); intro S w1 h1; have HW1 := Lib.hid h1; clear h1)
    | (go_at_call 6; go_must (refine wakes_any _ _ ?_); intro w2 hb2; have HW2 := Lib.hid (HW1.out.below hb2); clear hb2))
  go_loopg [4] (min N 80) (fun gn i wr => ∃ (k : Nat) (s : Sess), k ≤ min N 80 ∧ gn = min N 80 - k ∧ i = .int .i64 k ∧ Hid (SInv s) ∧ Hid (SW W wr S s))
  case atStart => exact ⟨0, _, by omega, by omega, rfl, Lib.hid (SInv.new [99]), HW2⟩
  case round =>
    obtain ⟨k, s, hk, rfl, rfl, HI, HW⟩ := hrel
    obtain ⟨wo, rfl⟩ : ∃ x, x = wr := ⟨_, rfl⟩
    by_cases hlt : k < min N 80
    · have hkN : k < l.length := by have := HN.out; omega
      have hkk : (k : Int) < (N : Int) := by omega
      have hk80 : (k : Int) < 80 := by omega
      obtain ⟨g, o, c, hve, a0, a1, a2, a3, b1, b2, b3, b4, hcell, hmd, hmb, hid', hin, him⟩ := HV.out.at HW.out.low k hkN
      rw [HN.out] at hve
      have e1 := congrArg (fun v => match v with | Value.slice a _ _ => a | _ => none) hve
      have e2 := congrArg (fun v => match v with | Value.slice _ _ c => c | _ => 0) hve
      simp only at e1 e2
      subst e1
      subst e2
      obtain ⟨x, hx⟩ : ∃ x, l[k] = x := ⟨_, rfl⟩
      rw [hx] at hcell hmd hmb hid' hin him
      obtain ⟨⟨ta, tc, rfl, _⟩, ⟨fa, fc, rfl, _⟩, ⟨sa, sc, rfl, _⟩, ⟨pa, pc, rfl, _⟩, ⟨ca, cc, rfl, _⟩, ⟨ra, rc, rfl, _⟩, ⟨ua, uc, rfl, _⟩, ⟨ia, ic, rfl, _⟩⟩ := id hmd
      have HCELL := Lib.hid hcell
      have HMD := Lib.hid hmd
      have HMB := Lib.hid hmb
      have HXD := Lib.hid hid'
      have HXN := Lib.hid hin
      obtain ⟨was, hwas⟩ : ∃ n, s.flights.length = n := ⟨_, rfl⟩
      have HWAS := Lib.hid hwas
      clear hve hx hcell hmd hmb hid' hin him hwas
      have N0 := Lib.hid (heap_alloc_new wo (Obj.cells #[.int .i64 0, .int .i64 0, .int .i64 0, .bool false, .slice none 0 0, .slice none 0 0, .slice none 0 0, .slice none 0 0, .int .i64 0, .int .i64 0, .bool false, .bool false, .int .i64 0, .int .i64 0, .slice none 0 0, .slice none 0 0, .slice none 0 0, .slice none 0 0, .int .i64 0, .int .i64 0, .string ⟨#[]⟩, .int .i64 0, .bool false, .bool false, .int .i64 0, .int .i64 0] 35))
      go_upto_region 9 with (first
        | (refine wpList_load_at (o := ⟨some 33, .load 35 (.tmp 32), _, _, _, _⟩) (by rfl) 35 (.tmp 32) (by rfl) (g) (o + k * 26) (by rfl) ([.int .i64 x.d, .int .i64 x.n, .int .i64 x.m, .bool x.yes, .slice ta x.it.topic.length tc, .slice fa x.it.src.length fc, .slice sa x.it.share.length sc, .slice pa x.it.payload.length pc, .int .i64 x.it.qos, .int .i64 x.it.sub, .bool x.it.retain, .bool x.it.keep, .int .i64 x.it.life, .int .i64 x.it.fm, .slice ca x.it.co.length cc, .slice ra x.it.cr.length rc, .slice ua x.it.us.length uc, .slice ia x.it.ids.length ic, .int .i64 x.it.origin, .int .i64 x.it.number, .string (str x.sub.filter), .int .i64 x.sub.qos, .bool x.sub.noLocal, .bool x.sub.asPub, .int .i64 x.sub.handling, .int .i64 x.sub.id]) _ (HCELL.out) (Try.underlying35) (by rfl) (by kernel_rfl) ?_)
        | (refine wpList_store_row (o := ⟨none, .store 35 (.tmp 5) (.tmp 33), _, _, _, _⟩) (by rfl) 35 (.tmp 5) (.tmp 33) (by rfl) wo.heap.size _ (by rfl) (by rfl) 35 _ N0.out (by kernel_rfl) (by rfl) (by simp [Value.oneCell']) ?_; rw [World.setRow_alloc_new]; have h4 := SWK.new HW.out (Obj.cells #[.int .i64 x.d, .int .i64 x.n, .int .i64 x.m, .bool x.yes, .slice ta x.it.topic.length tc, .slice fa x.it.src.length fc, .slice sa x.it.share.length sc, .slice pa x.it.payload.length pc, .int .i64 x.it.qos, .int .i64 x.it.sub, .bool x.it.retain, .bool x.it.keep, .int .i64 x.it.life, .int .i64 x.it.fm, .slice ca x.it.co.length cc, .slice ra x.it.cr.length rc, .slice ua x.it.us.length uc, .slice ia x.it.ids.length ic, .int .i64 x.it.origin, .int .i64 x.it.number, .string (str x.sub.filter), .int .i64 x.sub.qos, .bool x.sub.noLocal, .bool x.sub.asPub, .int .i64 x.sub.handling, .int .i64 x.sub.id] 35); generalize wo.alloc (Obj.cells #[.int .i64 x.d, .int .i64 x.n, .int .i64 x.m, .bool x.yes, .slice ta x.it.topic.length tc, .slice fa x.it.src.length fc, .slice sa x.it.share.length sc, .slice pa x.it.payload.length pc, .int .i64 x.it.qos, .int .i64 x.it.sub, .bool x.it.retain, .bool x.it.keep, .int .i64 x.it.life, .int .i64 x.it.fm, .slice ca x.it.co.length cc, .slice ra x.it.cr.length rc, .slice ua x.it.us.length uc, .slice ia x.it.ids.length ic, .int .i64 x.it.origin, .int .i64 x.it.number, .string (str x.sub.filter), .int .i64 x.sub.qos, .bool x.sub.noLocal, .bool x.sub.asPub, .int .i64 x.sub.handling, .int .i64 x.sub.id] 35) = w4 at h4 ⊢; have HW4 := Lib.hid h4; clear h4)
        | (go_at_call 7; go_must (refine flights_sw S s was HWAS.out HI.out W _ HW4.out.sw _ ?_); intro la lc qs w5 _ _ _ hb5; have HW5 := Lib.hid (HW4.out.below hb5); have N5 := Lib.hid HW5.out.blk; clear hb5))
      obtain ⟨q, hq⟩ : ∃ q, within x.d 0 4 = q := ⟨_, rfl⟩
      have hqb := within_bounds x.d 0 4 (by decide)
      rw [hq] at hqb
      have HQ := Lib.hid hq
      clear hq
      have c0 := cell_of_row w5 wo.heap.size 0 _ _ _ N5.out
      go_upto_block 2 with (first
        | (go_at_call 8; go_must (refine within_any x.d 0 4 _ (by decide) (by decide) (by decide) _ ?_); rw [HQ.out]))
      clear c0
      go_cut [] from 20 to 172 (fun wx => ∃ s' : Sess, Hid (SInv s') ∧ Hid (SW W wx S s'))
      case first =>
        have hq5 : q = 0 ∨ q = 1 ∨ q = 2 ∨ q = 3 ∨ q = 4 := by omega
        clear hqb
        have c1 := cell_of_row w5 wo.heap.size 1 _ _ _ N5.out
        have c3 := cell_of_row w5 wo.heap.size 3 _ _ _ N5.out
        rcases hq5 with rfl | rfl | rfl | rfl | rfl
        · obtain ⟨s', b, hps⟩ : ∃ s' b, pushS s (itemL x.it) = (s', b) := ⟨_, _, rfl⟩
          have hi' : SInv s' := by
            have := HI.out.pushS (x := itemL x.it) (itemL_qos x.it).1
            rw [hps] at this
            exact this
          have HI' := Lib.hid hi'
          have HPS := Lib.hid hps
          have HMC : Hid (∀ j, j < ([.slice ta x.it.topic.length tc, .slice fa x.it.src.length fc, .slice sa x.it.share.length sc, .slice pa x.it.payload.length pc, .int .i64 x.it.qos, .int .i64 x.it.sub, .bool x.it.retain, .bool x.it.keep, .int .i64 x.it.life, .int .i64 x.it.fm, .slice ca x.it.co.length cc, .slice ra x.it.cr.length rc, .slice ua x.it.us.length uc, .slice ia x.it.ids.length ic, .int .i64 x.it.origin, .int .i64 x.it.number] : List Value).length → w5.cell? ⟨wo.heap.size, 4 + j, none⟩ = ([.slice ta x.it.topic.length tc, .slice fa x.it.src.length fc, .slice sa x.it.share.length sc, .slice pa x.it.payload.length pc, .int .i64 x.it.qos, .int .i64 x.it.sub, .bool x.it.retain, .bool x.it.keep, .int .i64 x.it.life, .int .i64 x.it.fm, .slice ca x.it.co.length cc, .slice ra x.it.cr.length rc, .slice ua x.it.us.length uc, .slice ia x.it.ids.length ic, .int .i64 x.it.origin, .int .i64 x.it.number] : List Value)[j]?) := cells_mid (a := [.int .i64 x.d, .int .i64 x.n, .int .i64 x.m, .bool x.yes, .slice ta x.it.topic.length tc, .slice fa x.it.src.length fc, .slice sa x.it.share.length sc, .slice pa x.it.payload.length pc, .int .i64 x.it.qos, .int .i64 x.it.sub, .bool x.it.retain, .bool x.it.keep, .int .i64 x.it.life, .int .i64 x.it.fm, .slice ca x.it.co.length cc, .slice ra x.it.cr.length rc, .slice ua x.it.us.length uc, .slice ia x.it.ids.length ic, .int .i64 x.it.origin, .int .i64 x.it.number, .string (str x.sub.filter), .int .i64 x.sub.qos, .bool x.sub.noLocal, .bool x.sub.asPub, .int .i64 x.sub.handling, .int .i64 x.sub.id]) 4 16 N5.out rfl
          clear hi' hps c1 c3
          go_wp2_with (first
            | (refine wpList_load_at (o := ⟨some 56, .load 31 (.tmp 55), _, _, _, _⟩) (by rfl) 31 (.tmp 55) (by rfl) (wo.heap.size) (4) (by rfl) ([.slice ta x.it.topic.length tc, .slice fa x.it.src.length fc, .slice sa x.it.share.length sc, .slice pa x.it.payload.length pc, .int .i64 x.it.qos, .int .i64 x.it.sub, .bool x.it.retain, .bool x.it.keep, .int .i64 x.it.life, .int .i64 x.it.fm, .slice ca x.it.co.length cc, .slice ra x.it.cr.length rc, .slice ua x.it.us.length uc, .slice ia x.it.ids.length ic, .int .i64 x.it.origin, .int .i64 x.it.number]) _ (HMC.out) (Try.underlying31) (by rfl) (by kernel_rfl) ?_)
            | (go_at_call 10; go_must (refine item_any x.it HMB.out _ _ _ _ _ _ _ _ W _ HW5.out.low HMD.out _ ?_); intro pa7 pc7 qa7 qc7 ea7 ec7 w7 hit7 hb7; have HIC := Lib.hid hit7.c; have HW7 := Lib.hid (HW5.out.below hb7); clear hit7 hb7)
            | (go_at_call 9; go_must (refine push_sw S s (itemL x.it) b s' HPS.out HI.out _ _ _ W _ HW7.out.sw HIC.out (itemL_b _) _ ?_); intro w8 h8; have HW8 := Lib.hid h8; clear h8))
          go_meet
          exact ⟨s', HI', HW8⟩
        · clear c3
          go_upto_region 16 with (first
            | (go_at_call 11; go_must (refine next_sk S s x.n HI.out W _ _ _ HW5.out _ ?_); intro y id ok s' pa6 pc6 qa6 qc6 ea6 ec6 w6 hn h6 _ _; have HNX := Lib.hid hn; have HI' := Lib.hid (hn.inv HI.out); have HW6 := Lib.hid h6; have M6 := Lib.hid (heap_alloc_new w6 (Obj.cells #[.string ⟨#[]⟩, .slice none 0 0, .int .i64 0, .bool false, .string ⟨#[]⟩, .int .i64 0, .slice none 0 0, .int .i64 0, .int .i64 0, .int .i64 0, .int .i64 0, .bool false, .slice none 0 0, .string ⟨#[]⟩] 44)); clear hn h6)
            | (refine wpList_store_row (o := ⟨none, .store 44 (.tmp 7) (.tmp 66), _, _, _, _⟩) (by rfl) 44 (.tmp 7) (.tmp 66) (by rfl) w6.heap.size _ (by rfl) (by rfl) 44 _ M6.out (by kernel_rfl) (by rfl) (by simp [Value.oneCell']) ?_; rw [World.setRow_alloc_new]; have h4 := HW6.out.below ((Below.refl w6.heap.size w6).alloc (Nat.le_refl _) (Obj.cells #[.string (str y.note.topic), (.slice pa6 y.note.payload.length pc6), .int .i64 y.note.qos, .bool y.note.retain, .string (str y.note.src), .int .i64 y.note.expires, (.slice qa6 y.note.props.length qc6), .int .i64 y.note.origin, .int .i64 y.note.number, .int .i64 y.note.hops, .int .i64 y.qos, .bool y.keep, (.slice ea6 y.ids.length ec6), .string (str y.share)] 44)); generalize w6.alloc (Obj.cells #[.string (str y.note.topic), (.slice pa6 y.note.payload.length pc6), .int .i64 y.note.qos, .bool y.note.retain, .string (str y.note.src), .int .i64 y.note.expires, (.slice qa6 y.note.props.length qc6), .int .i64 y.note.origin, .int .i64 y.note.number, .int .i64 y.note.hops, .int .i64 y.qos, .bool y.keep, (.slice ea6 y.ids.length ec6), .string (str y.share)] 44) = w7 at h4 ⊢; have HW7 := Lib.hid h4; clear h4))
          clear c1
          have c1 := cell_of_row w7 wo.heap.size 1 _ _ _ HW7.out.blk
          have hw8 : was ≤ 8 := by rw [← HWAS.out]; exact HI.out.fn
          rcases HNX.out.asks with ⟨rfl, rfl⟩ | ⟨rfl, rfl, hl⟩ | ⟨rfl, h0, h1, h2, hl⟩
          · go_wp2_with fail
            go_meet
            exact ⟨s', HI', Lib.hid HW7.out.sw⟩
          · have HL : Hid (s'.flights.length = was) := by show _ = _; rw [hl, HWAS.out]
            clear hl
            go_wp2_with (first
              | (go_at_call 7; go_must (refine flights_sw S s' was HL.out HI'.out W _ HW7.out.sw _ ?_); intro la8 lc8 qs8 w8 _ _ h8 _; have HW8 := Lib.hid h8; clear h8))
            go_meet
            exact ⟨s', HI', HW8⟩
          · have HL : Hid (s'.flights.length = was + 1) := by show _ = _; rw [hl, HWAS.out]
            rw [HWAS.out] at h1 h2
            have h1' : ¬ (x.n ≤ (was : Int)) := by omega
            have h2' : ¬ ((8 : Int) ≤ (was : Int)) := by omega
            have hz : (id == 0) = false := by simp; omega
            clear hl h1 h2
            go_wp2_with (first
              | (go_at_call 7; go_must (refine flights_sw S s' (was + 1) HL.out HI'.out W _ HW7.out.sw _ ?_); intro la8 lc8 qs8 w8 _ _ h8 _; have HW8 := Lib.hid h8; clear h8))
            go_meet
            exact ⟨s', HI', HW8⟩
        · clear c3
          obtain ⟨z, hz⟩ : ∃ z, idxP (hitF x.n [1]) s.flights = z := ⟨_, rfl⟩
          obtain ⟨s', hs'⟩ : ∃ s', landS s z = s' := ⟨_, rfl⟩
          have hi' := HI.out.land hz
          rw [hs'] at hi'
          have HI' := Lib.hid hi'
          have HZ := Lib.hid hz
          have HS' := Lib.hid hs'
          by_cases hz0 : 0 ≤ z
          · have hlen := landS_len hz hz0
            rw [hs', HWAS.out] at hlen
            obtain ⟨n', hn'⟩ : ∃ n, s'.flights.length = n := ⟨_, rfl⟩
            rw [hn'] at hlen
            subst hlen
            have HN' := Lib.hid hn'
            have hw8 : n' + 1 ≤ 8 := by rw [← HWAS.out]; exact HI.out.fn
            clear hi' hz hs' hn'
            go_wp2_with (first
              | (go_at_call 12; go_must (refine ack_sw S s x.n z HZ.out HI.out W _ HW5.out.sw _ ?_); intro w6 h6; rw [HS'.out] at h6; have HW6 := Lib.hid h6; clear h6)
              | (go_at_call 7; go_must (refine flights_sw S s' n' HN'.out HI'.out W _ HW6.out _ ?_); intro la8 lc8 qs8 w8 _ _ h8 _; have HW8 := Lib.hid h8; clear h8))
            go_meet
            exact ⟨s', HI', HW8⟩
          · clear hi' hz hs'
            go_wp2_with (first
              | (go_at_call 12; go_must (refine ack_sw S s x.n z HZ.out HI.out W _ HW5.out.sw _ ?_); intro w6 h6; rw [HS'.out] at h6; have HW6 := Lib.hid h6; clear h6))
            go_meet
            exact ⟨s', HI', HW6⟩
        · obtain ⟨z, hz⟩ : ∃ z, idxP (hitF x.n [2, 3]) s.flights = z := ⟨_, rfl⟩
          obtain ⟨s', b1, b2, hr⟩ : ∃ s' a b, recS s z x.yes = (s', a, b) := ⟨_, _, _, rfl⟩
          have HI' := Lib.hid (HI.out.recd hz hr)
          have HZ := Lib.hid hz
          have HRC := Lib.hid hr
          clear hz hr
          go_wp2_with (first
            | (go_at_call 13; go_must (refine rec_sw S s x.n x.yes z HZ.out s' b1 b2 HRC.out HI.out W _ HW5.out.sw _ ?_); intro w6 h6; have HW6 := Lib.hid h6; clear h6))
          go_meet
          exact ⟨s', HI', HW6⟩
        · clear c3
          obtain ⟨z, hz⟩ : ∃ z, idxP (hitF x.n [3]) s.flights = z := ⟨_, rfl⟩
          obtain ⟨s', hs'⟩ : ∃ s', landS s z = s' := ⟨_, rfl⟩
          have hi' := HI.out.land hz
          rw [hs'] at hi'
          have HI' := Lib.hid hi'
          have HZ := Lib.hid hz
          have HS' := Lib.hid hs'
          by_cases hz0 : 0 ≤ z
          · have hlen := landS_len hz hz0
            rw [hs', HWAS.out] at hlen
            obtain ⟨n', hn'⟩ : ∃ n, s'.flights.length = n := ⟨_, rfl⟩
            rw [hn'] at hlen
            subst hlen
            have HN' := Lib.hid hn'
            have hw8 : n' + 1 ≤ 8 := by rw [← HWAS.out]; exact HI.out.fn
            clear hi' hz hs' hn'
            go_wp2_with (first
              | (go_at_call 14; go_must (refine comp_sw S s x.n z HZ.out HI.out W _ HW5.out.sw _ ?_); intro w6 h6; rw [HS'.out] at h6; have HW6 := Lib.hid h6; clear h6)
              | (go_at_call 7; go_must (refine flights_sw S s' n' HN'.out HI'.out W _ HW6.out _ ?_); intro la8 lc8 qs8 w8 _ _ h8 _; have HW8 := Lib.hid h8; clear h8))
            go_meet
            exact ⟨s', HI', HW8⟩
          · clear hi' hz hs'
            go_wp2_with (first
              | (go_at_call 14; go_must (refine comp_sw S s x.n z HZ.out HI.out W _ HW5.out.sw _ ?_); intro w6 h6; rw [HS'.out] at h6; have HW6 := Lib.hid h6; clear h6))
            go_meet
            exact ⟨s', HI', HW6⟩
      case rest =>
        obtain ⟨s', HI', HX'⟩ := hcut
        obtain ⟨n, hn⟩ : ∃ n, s'.flights.length = n := ⟨_, rfl⟩
        obtain ⟨m, hm⟩ : ∃ n, s'.queue.length = n := ⟨_, rfl⟩
        have hn8 : ¬ (8 : Int) < (n : Int) := by have := HI'.out.fn; omega
        have hm8 : ¬ (8 : Int) < (m : Int) := by have := HI'.out.qn; omega
        have HFN := Lib.hid hn
        have HQN := Lib.hid hm
        clear hn hm hqb
        go_wp2_with (first
          | (go_at_call 7; go_must (refine flights_sw S s' n HFN.out HI'.out W _ HX'.out _ ?_); intro la2 lc2 qs w6 hqs hrow h6 _; have HW6 := Lib.hid h6; have HQS := Lib.hid hqs; have HROW := Lib.hid (owns_mono hrow (Nat.zero_le _)); clear hqs hrow h6)
          | (go_at_call 15; go_must (refine queue_sw S s' m HQN.out HI'.out W _ HW6.out _ ?_); intro qa qc w7 h7 hb7; have HW7 := Lib.hid h7; have HROW7 := Lib.hid (owns_below HROW.out hb7); clear h7 hb7))
        have HQL : Hid (qs.length = n) := by show _ = _; rw [← HFN.out, ← HQS.out, List.length_map]
        have hn8' : n ≤ 8 := by omega
        go_loopg [11] n (fun gn i wr => ∃ a : Nat, a ≤ n ∧ gn = n - a ∧ i = .int .i64 a ∧ Hid (SW W wr S s') ∧ Hid (wr.ownsRow 0 54 16 (.slice la2 n lc2) n (qs.flatMap flP)))
        case atStart => exact ⟨0, Nat.zero_le _, by omega, rfl, HW7, HROW7⟩
        case round =>
          obtain ⟨a, ha, rfl, rfl, HWa, HRa⟩ := hrel
          obtain ⟨wa, rfl⟩ : ∃ x, x = wr := ⟨_, rfl⟩
          by_cases hlta : a < n
          · have hkk2 : (a : Int) < (n : Int) := by omega
            have haf : a < s'.flights.length := by rw [HFN.out]; exact hlta
            obtain ⟨g2, hg2⟩ := owns_head HRa.out (by omega)
            subst hg2
            have hba := HI'.out.rg _ (List.getElem_mem haf)
            obtain ⟨i1, hi1⟩ : ∃ i, (s'.flights[a]).id = i := ⟨_, rfl⟩
            rw [hi1] at hba
            have HI1 := Lib.hid hi1
            have hb1 : ¬ i1 < 1 := by omega
            have hb8 : ¬ 8 < i1 := by omega
            clear hi1 hba
            go_wp2_with fail
            go_loopg [12] a (fun gn j wr => ∃ b : Nat, b ≤ a ∧ gn = a - b ∧ j = .int .i64 b ∧ Hid (SW W wr S s') ∧ Hid (wr.ownsRow 0 54 16 (.slice (some ⟨g2, 0, none⟩) n lc2) n (qs.flatMap flP)))
            case atStart => exact ⟨0, Nat.zero_le _, by omega, rfl, HWa, HRa⟩
            case round =>
              obtain ⟨b, hb, rfl, rfl, HWb, HRb⟩ := hrel
              obtain ⟨wb, rfl⟩ : ∃ x, x = wr := ⟨_, rfl⟩
              have hrd : wb.drew.ownsRow 0 54 16 (.slice (some ⟨g2, 0, none⟩) n lc2) n (qs.flatMap flP) := owns_below HRb.out (Below.refl wb.heap.size wb).drew
              have HRd := Lib.hid hrd
              have HWd := Lib.hid (HWb.out.below (Below.refl wb.heap.size wb).drew)
              have da : wb.cell? ⟨g2, a * 16, none⟩ = some (.int .i64 i1) := by rw [← HI1.out]; exact fl_id HQS.out HQL.out HRb.out haf
              have dad : wb.drew.cell? ⟨g2, a * 16, none⟩ = some (.int .i64 i1) := da
              clear hrd
              by_cases hltb : b < a
              · have hkb : (b : Int) < (a : Int) := by omega
                have hkn : (b : Int) < (n : Int) := by omega
                have db : wb.drew.cell? ⟨g2, b * 16, none⟩ = some (.int .i64 (s'.flights[b]'(by omega)).id) := fl_id HQS.out HQL.out HRd.out (by omega)
                have hne := ids_unlike HI'.out hltb haf
                rw [HI1.out] at hne
                obtain ⟨i2, hi2⟩ : ∃ i, (s'.flights[b]'(by omega)).id = i := ⟨_, rfl⟩
                rw [hi2] at hne db
                clear hi2 da
                go_wp2_with fail
                go_region
                all_goals go_wp2_with fail
                go_roundg (a - (b + 1))
                case measure => omega
                case rel => exact ⟨b + 1, by omega, rfl, by go_num, HWd, HRd⟩
              · obtain rfl : b = a := by omega
                have hkb : ¬ (b : Int) < (b : Int) := by omega
                clear dad
                go_wp2_with fail
                go_roundg (n - (b + 1))
                case measure => omega
                case rel => exact ⟨b + 1, by omega, rfl, by go_num, HWb, HRb⟩
          · have hna : ¬ (a : Int) < (n : Int) := by omega
            go_wp2_with fail
            go_roundg (min N 80 - (k + 1))
            case measure => omega
            case rel => exact ⟨k + 1, s', by omega, rfl, by go_num, HI', HWa⟩
    · by_cases hkN : (k : Int) < (N : Int)
      · have hk80 : ¬ (k : Int) < 80 := by omega
        go_wp2_with fail
        exact HR.out _ HW.out.low
      · go_wp2_with fail
        exact HR.out _ HW.out.low
end Go.Proofs.Ytgimbocoamnkjaa
