/- (*tidingsref05.Table).Put. -/
import Derived.Test.YtgkgahjdjkmmnaaPutL
import Derived.IntWalk
namespace Go.Proofs.Ytgkgahjdjkmmnaa
open Go.RowKit
theorem Try.info3 : (Try.prog.info? 3).map (fun i => (i.zero, i.size, i.bytes)) = some (some (.int .i64 0), 1, 8) := by kernel_rfl

theorem e40_later {w w' : World} {b : Nat} {k v : Value} {s : Int} {d : Bool} (hb : Below w.heap.size w w') (h : (w.cell? ⟨b, 0, none⟩ = some k ∧ w.cell? ⟨b, 1, none⟩ = some v ∧ w.cell? ⟨b, 2, none⟩ = some (Value.int .i64 s) ∧ w.cell? ⟨b, 3, none⟩ = some (Value.bool d))) : (w'.cell? ⟨b, 0, none⟩ = some k ∧ w'.cell? ⟨b, 1, none⟩ = some v ∧ w'.cell? ⟨b, 2, none⟩ = some (Value.int .i64 s) ∧ w'.cell? ⟨b, 3, none⟩ = some (Value.bool d)) := ⟨cell_later hb h.1, cell_later hb h.2.1, cell_later hb h.2.2.1, cell_later hb h.2.2.2⟩

set_option maxRecDepth 100000 in
set_option maxHeartbeats 8000000 in
theorem rput_any (TB B : Nat) (L Hv : Value) (l : List Ent) (hs : List Value) (k v : Value) (e : Ent) (l' : List Ent) (hl' : putE l e = l') (w : World)
    (hT : w.heap[TB]? = some (.cells #[L, Hv] 74 (0, 0))) (hL : EsO w B L l) (hb : ∀ x ∈ l, EB x) (hlen : l.length ≤ 1000000)
    (hH : w.ownsRow B 3 1 Hv l.length hs) (h1 : ∀ u ∈ hs, u.oneCell' = true) (he : EC w k v e) (hB : B ≤ w.heap.size) (R : Ending → World → Prop)
    (hR : ∀ w' L' Hv' hs' z, w.grownBy w' (some TB) → w'.heap[TB]? = some (.cells #[L', Hv'] 74 (0, 0)) → EsO w' B L' l' → w'.ownsRow B 3 1 Hv' l'.length hs' → (∀ u ∈ hs', u.oneCell' = true) → R (.returned (.int .i64 z)) w') :
    Calls Try.prog 36 #[.pointer (some ⟨TB, 0, none⟩), .agg #[k, v, .int .i64 e.seq, .bool e.dead], .int .i64 1] w R := by
  obtain ⟨kv, hkv, hrow, heach⟩ := hL
  obtain ⟨La, Lc, rfl⟩ := owns_shape hrow
  obtain ⟨Ha, Hc, rfl⟩ := owns_shape hH
  have hTlt : TB < w.heap.size := (Array.getElem?_eq_some_iff.1 hT).1
  have hEs : Es w (.slice La l.length Lc) l := EsO.es ⟨kv, hkv, hrow, heach⟩ hb
  have hEsO : EsO w B (.slice La l.length Lc) l := ⟨kv, hkv, hrow, heach⟩
  obtain ⟨ka, kn, kc, rfl⟩ : ∃ a n c, k = .slice a n c := by obtain ⟨a, c, h, _⟩ := he.hk; exact ⟨_, _, _, h⟩
  obtain ⟨va, vn, vc, rfl⟩ := EC.shape he
  obtain ⟨w0, hw0⟩ : ∃ w0, w.alloc (Obj.cells #[Value.slice ka kn kc, Value.slice va vn vc, Value.int .i64 e.seq, Value.bool e.dead] 27) = w0 := ⟨_, rfl⟩
  have hb0 : Below w.heap.size w w0 := by rw [← hw0]; exact (Below.refl _ _).alloc (Nat.le_refl _) _
  have hz0 : w0.heap.size = w.heap.size + 1 := by rw [← hw0]; simp
  have n0 : w0.heap[w.heap.size]? = some (Obj.cells #[Value.slice ka kn kc, Value.slice va vn vc, Value.int .i64 e.seq, Value.bool e.dead] 27) := by rw [← hw0]; exact heap_alloc_new w _
  have N0 := Lib.hid n0
  have hT0 := Lib.hid (row_later2 hT hb0)
  have HES := Lib.hid (hEs.below hb0)
  have HLO := Lib.hid (hEsO.below hb0)
  have HHO := Lib.hid (owns_below hH hb0)
  have HE := he.below hb0
  have HROW := Lib.hid hrow
  have HEACH := Lib.hid heach
  have HZ := Lib.hid hz0
  have HL' := Lib.hid hl'
  have HRR := Lib.hid hR
  clear n0 hz0 hT hEs hEsO hH he hrow heach hl' hR
  go_enter Try.func36, Try.ntmps36
  go_wp2_with fail
  clear hw0
  go_loopw [7] (fun i wr => ∃ j : Nat, j ≤ l.length ∧ i = .int .i64 j ∧ Below w0.heap.size w0 wr ∧ Hid (∀ a ∈ l.take j, lessE a e = true)) (fun i _ => l.length - (intOf i).toNat)
  case atStart => exact ⟨0, Nat.zero_le _, rfl, Below.refl _ _, by show ∀ a ∈ l.take 0, _; simp⟩
  case round =>
    obtain ⟨j, hj, rfl, hbr, hall⟩ := hrel
    have t0 := cell_of_row _ TB 0 _ _ _ (row_later2 hT0.out hbr)
    change wr.drew.cell? _ = some (Value.slice La l.length Lc) at t0
    have x0 := row_later2 N0.out hbr
    have c1 : (wr.drew.cell? ⟨w.heap.size, 0, none⟩ = some (Value.slice ka kn kc) ∧ wr.drew.cell? ⟨w.heap.size, 1, none⟩ = some (Value.slice va vn vc) ∧ wr.drew.cell? ⟨w.heap.size, 2, none⟩ = some (Value.int .i64 e.seq) ∧ wr.drew.cell? ⟨w.heap.size, 3, none⟩ = some (Value.bool e.dead)) := ⟨cell_of_row _ w.heap.size 0 _ _ _ x0, cell_of_row _ w.heap.size 1 _ _ _ x0, cell_of_row _ w.heap.size 2 _ _ _ x0, cell_of_row _ w.heap.size 3 _ _ _ x0⟩
    have he1 := HE.below hbr
    have hzr := hbr.size
    clear x0
    by_cases hlt : j < l.length
    · have hjj : (j : Int) < (l.length : Int) := by omega
      obtain ⟨ad', c', ee, _, _, _, h4⟩ := HES.out.below hbr
      simp only [Value.slice.injEq] at ee
      obtain ⟨rfl, -, rfl⟩ := ee
      obtain ⟨b, o, rfl, h5⟩ := h4 (by omega)
      obtain ⟨kb, vb, c0, heb⟩ := h5 j hlt
      obtain ⟨x, hx⟩ : ∃ x, l[j] = x := ⟨_, rfl⟩
      rw [hx] at c0 heb
      have c0' : (wr.drew.cell? ⟨b, o + j * 4, none⟩ = some kb ∧ wr.drew.cell? ⟨b, o + j * 4 + 1, none⟩ = some vb ∧ wr.drew.cell? ⟨b, o + j * 4 + 2, none⟩ = some (Value.int .i64 x.seq) ∧ wr.drew.cell? ⟨b, o + j * 4 + 3, none⟩ = some (Value.bool x.dead)) := c0
      obtain ⟨r, hr⟩ : ∃ r, lessE x e = r := ⟨_, rfl⟩
      have HR := Lib.hid hr
      have HX := Lib.hid hx
      clear h4 h5 c0 hr hx
      go_wp2
      go_region_held3 (fun w' => w'.cell? ⟨TB, 0, none⟩ = some (Value.slice (some ⟨b, o, none⟩) l.length Lc) ∧ (w'.cell? ⟨b, o + j * 4, none⟩ = some kb ∧ w'.cell? ⟨b, o + j * 4 + 1, none⟩ = some vb ∧ w'.cell? ⟨b, o + j * 4 + 2, none⟩ = some (Value.int .i64 x.seq) ∧ w'.cell? ⟨b, o + j * 4 + 3, none⟩ = some (Value.bool x.dead)) ∧ (w'.cell? ⟨w.heap.size, 0, none⟩ = some (Value.slice ka kn kc) ∧ w'.cell? ⟨w.heap.size, 1, none⟩ = some (Value.slice va vn vc) ∧ w'.cell? ⟨w.heap.size, 2, none⟩ = some (Value.int .i64 e.seq) ∧ w'.cell? ⟨w.heap.size, 3, none⟩ = some (Value.bool e.dead)))
        (first | exact ⟨t0, c0', c1⟩ | exact ⟨cell_later hb2 t0, e4_later hb2 c0', e40_later hb2 c1⟩ | go_keep)
        ((go_at_call 55; refine rless_any _ _ _ _ x.key e.key x.seq e.seq _ _ r HR.out _ (heb.hk.below (Below.refl _ _).drew) (he1.hk.below (Below.refl _ _).drew) _ ?_; intro w2 hb2))
      have hb3 : Below w0.heap.size w0 w2 := below_then hbr.drew hb2 hzr
      have t2 : w2.cell? ⟨TB, 0, none⟩ = some (Value.slice (some ⟨b, o, none⟩) l.length Lc) := cell_later hb2 t0
      have d0 := e4_later hb2 c0'
      have d1 := e40_later hb2 c1
      have heb2 := heb.below (below_tr (Below.refl wr.heap.size wr).drew hb2)
      have he2 := he1.below (below_tr (Below.refl wr.heap.size wr).drew hb2)
      clear t0 c0' c1 heb he1
      cases r with
      | true =>
        have hnx : Hid (∀ a ∈ l.take (j + 1), lessE a e = true) := by
          show ∀ a ∈ l.take (j + 1), lessE a e = true
          intro a ha
          rw [List.take_succ_eq_append_getElem hlt] at ha
          rcases List.mem_append.1 ha with ha | ha
          · exact hall.out a ha
          · obtain rfl := List.mem_singleton.1 ha
            rw [HX.out]
            exact HR.out
        clear t2 d0 d1
        go_wp2
        go_roundw
        case rel => exact ⟨j + 1, by omega, by go_num, hb3, hnx⟩
        case measure => simp [intOf]; omega
      | false =>
        obtain ⟨r2, hr2⟩ : ∃ r2, lessE e x = r2 := ⟨_, rfl⟩
        have HR2 := Lib.hid hr2
        clear hr2
        go_wp2
        replace t2 : w2.drew.cell? ⟨TB, 0, none⟩ = some (Value.slice (some ⟨b, o, none⟩) l.length Lc) := t2
        replace d0 : (w2.drew.cell? ⟨b, o + j * 4, none⟩ = some kb ∧ w2.drew.cell? ⟨b, o + j * 4 + 1, none⟩ = some vb ∧ w2.drew.cell? ⟨b, o + j * 4 + 2, none⟩ = some (Value.int .i64 x.seq) ∧ w2.drew.cell? ⟨b, o + j * 4 + 3, none⟩ = some (Value.bool x.dead)) := d0
        replace d1 : (w2.drew.cell? ⟨w.heap.size, 0, none⟩ = some (Value.slice ka kn kc) ∧ w2.drew.cell? ⟨w.heap.size, 1, none⟩ = some (Value.slice va vn vc) ∧ w2.drew.cell? ⟨w.heap.size, 2, none⟩ = some (Value.int .i64 e.seq) ∧ w2.drew.cell? ⟨w.heap.size, 3, none⟩ = some (Value.bool e.dead)) := d1
        go_region_held3 (fun w' => w'.cell? ⟨TB, 0, none⟩ = some (Value.slice (some ⟨b, o, none⟩) l.length Lc) ∧ (w'.cell? ⟨b, o + j * 4, none⟩ = some kb ∧ w'.cell? ⟨b, o + j * 4 + 1, none⟩ = some vb ∧ w'.cell? ⟨b, o + j * 4 + 2, none⟩ = some (Value.int .i64 x.seq) ∧ w'.cell? ⟨b, o + j * 4 + 3, none⟩ = some (Value.bool x.dead)) ∧ (w'.cell? ⟨w.heap.size, 0, none⟩ = some (Value.slice ka kn kc) ∧ w'.cell? ⟨w.heap.size, 1, none⟩ = some (Value.slice va vn vc) ∧ w'.cell? ⟨w.heap.size, 2, none⟩ = some (Value.int .i64 e.seq) ∧ w'.cell? ⟨w.heap.size, 3, none⟩ = some (Value.bool e.dead)))
          (first | exact ⟨t2, d0, d1⟩ | exact ⟨cell_later hb4 t2, e4_later hb4 d0, e40_later hb4 d1⟩ | go_keep)
          ((go_at_call 55; refine rless_any _ _ _ _ e.key x.key e.seq x.seq _ _ r2 HR2.out _ (he2.hk.below (Below.refl _ _).drew) (heb2.hk.below (Below.refl _ _).drew) _ ?_; intro w4 hb4))
        have hb5 : Below w0.heap.size w0 w4 := below_then hb3.drew hb4 hb3.size
        clear t2 d0 d1 heb2 he2
        cases r2 with
        | false =>
          have hput : l' = l := by rw [← HL'.out]; exact putE_out hall.out hlt ⟨by rw [HX.out]; exact HR.out, by rw [HX.out]; exact HR2.out⟩
          go_wp2
          have hb6 := below_then hb0 hb5 hb0.size
          refine HRR.out _ _ _ _ _ (grownBy_below hb6) (row_later2 hT0.out hb5) ?_ ?_ h1
          · rw [hput]; exact HLO.out.below hb5
          · rw [hput]; exact owns_below HHO.out hb5
        | true =>
          have hput : Hid (l' = l.take j ++ e :: l.drop j) := by
            show l' = _
            rw [← HL'.out]
            exact putE_in hj hall.out (fun _ => by rw [HX.out]; exact ⟨HR.out, HR2.out⟩)
          clear HL' HR HR2 HX hall
          go_wp2
          refine (?_ : ∀ wj, Below w0.heap.size w0 wj → Code.wp _ _ _ _ wj) _ ?_
          rotate_left
          · exact hb5
          clear hb5 hb4 hb3 hb2
          have hcj : ¬ Lc = j := by omega
          intro wj hbW
          have hrow : w.ownsRow B 27 4 (.slice (some ⟨b, o, none⟩) l.length Lc) l.length (ecs kv l) := HROW.out
          have hbw : Below w.heap.size w wj := below_then hb0 hbW hb0.size
          have hzj : w.heap.size + 1 ≤ wj.heap.size := by have := hbW.size; have := HZ.out; omega
          have u0 : wj.drew.cell? ⟨TB, 0, none⟩ = some (Value.slice (some ⟨b, o, none⟩) l.length Lc) := cell_of_row _ TB 0 _ _ _ (row_later2 hT0.out hbW)
          have u1 : wj.drew.cell? ⟨TB, 1, none⟩ = some (Value.slice Ha l.length Hc) := cell_of_row _ TB 1 _ _ _ (row_later2 hT0.out hbW)
          have x0 := row_later2 N0.out hbW
          have u2 : (wj.drew.cell? ⟨w.heap.size, 0, none⟩ = some (Value.slice ka kn kc) ∧ wj.drew.cell? ⟨w.heap.size, 1, none⟩ = some (Value.slice va vn vc) ∧ wj.drew.cell? ⟨w.heap.size, 2, none⟩ = some (Value.int .i64 e.seq) ∧ wj.drew.cell? ⟨w.heap.size, 3, none⟩ = some (Value.bool e.dead)) := ⟨cell_of_row _ w.heap.size 0 _ _ _ x0, cell_of_row _ w.heap.size 1 _ _ _ x0, cell_of_row _ w.heap.size 2 _ _ _ x0, cell_of_row _ w.heap.size 3 _ _ _ x0⟩
          have hej := (HE.below hbW).below (Below.refl wj.heap.size wj).drew
          have hrd : Rd wj 4 (some ⟨b, o, none⟩) l.length (ecs kv l) := rd_of_owns (owns_below hrow hbw)
          have hone := ecs_oneCell hkv HEACH.out
          have hrA : Rd wj 4 (some ⟨b, o, none⟩) j (ecs (kv.take j) (l.take j)) := by rw [← ecs_take hkv j hj]; exact rd_takeN hrd hj
          obtain ⟨Lx, hsl, hnx, hLx⟩ := slice_from (P := Try.prog) (j := j) Try.underlying24 Try.info27 hj (owns_cap hrow).1 (owns_nil hrow)
          have hrB : Rd wj 4 Lx (l.length - j) (ecs (kv.drop j) (l.drop j)) := by rw [← ecs_drop hkv j hj]; exact hLx _ _ hrd
          have hoA : ∀ u ∈ ecs (kv.take j) (l.take j), u.oneCell' = true := fun u hu => hone u (by rw [← ecs_take hkv j hj] at hu; exact List.mem_of_mem_take hu)
          have hoB : ∀ u ∈ ecs (kv.drop j) (l.drop j), u.oneCell' = true := fun u hu => hone u (by rw [← ecs_drop hkv j hj] at hu; exact List.mem_of_mem_drop hu)
          have hnl := owns_nil hrow
          have hcl := (owns_cap hrow).1
          have hcm := (owns_cap hrow).2
          unfold maxLen at hcm
          have hjc : j ≤ Lc := by omega
          clear x0 hrow hone hrd hLx
          go_region_held3 (fun w' => w'.cell? ⟨TB, 0, none⟩ = some (Value.slice (some ⟨b, o, none⟩) l.length Lc) ∧ (w'.cell? ⟨w.heap.size, 0, none⟩ = some (Value.slice ka kn kc) ∧ w'.cell? ⟨w.heap.size, 1, none⟩ = some (Value.slice va vn vc) ∧ w'.cell? ⟨w.heap.size, 2, none⟩ = some (Value.int .i64 e.seq) ∧ w'.cell? ⟨w.heap.size, 3, none⟩ = some (Value.bool e.dead)))
            (first | exact ⟨u0, u2⟩ | exact ⟨cell_later hA u0, e40_later hA u2⟩ | exact ⟨cell_later hB2 u0, e40_later hB2 u2⟩ | exact ⟨cell_later (hB2.alloc hB2.size _) u0, e40_later (hB2.alloc hB2.size _) u2⟩ | exact ⟨cell_later hC u0, e40_later hC u2⟩ | exact ⟨cell_later hD u0, e40_later hD u2⟩ | go_keep)
            (first
              | ((refine step_app0 (by rfl) (.tmp 53) (.tmp 59) 24 (by rfl) wj.heap.size 27 (.agg #[.slice none 0 0, .slice none 0 0, .int .i64 0, .bool false]) 4 64 Try.underlying24 Try.info27 rfl (by decide) none (by rfl) (World.ownsRow_nil _ _ _ _) (some ⟨b, o, none⟩) j Lc (ecs (kv.take j) (l.take j)) (by rfl) (hrA.below (Below.refl wj.heap.size wj).drew) hoA hnl (by unfold maxLen; omega) (by omega) (Nat.le_refl _) ?_; intro ad1 c1 w5 hown5 hb5; have hA : Below wj.drew.heap.size wj.drew w5 := hb5))
              | (go_at_call 10; refine etwin_any _ _ e _ (hej.below hA) _ ?_; intro k' v' w6 heo6 hb6; obtain ⟨ka', kc', rfl⟩ := owns_shape heo6.hk; obtain ⟨va', vc', rfl⟩ := owns_shape heo6.hv; have hB2 : Below wj.drew.heap.size wj.drew w6 := below_tr hA hb6; have hown6 := (owns_below hown5 hb6).alloc (Obj.cells #[Value.slice ka' e.key.length kc', Value.slice va' e.val.length vc', Value.int .i64 e.seq, Value.bool e.dead] 27))
              | ((refine step_appAt (by rfl) (.tmp 60) (.tmp 63) 24 (by rfl) wj.heap.size 27 (.agg #[.slice none 0 0, .slice none 0 0, .int .i64 0, .bool false]) 4 64 Try.underlying24 Try.info27 rfl (by decide) ad1 j c1 _ (by rfl) hown6 _ 1 1 [Value.slice ka' e.key.length kc', Value.slice va' e.val.length vc', Value.int .i64 e.seq, Value.bool e.dead] (by rfl) (rd_lit _ _ _ 4 1 rfl) (ec_oneCell _ _ _ _ _ _) (by simp) (by unfold maxLen; omega) (by omega) (by have := hB2.size; simp at *; omega) ?_; intro ad2 c2 w7 hown7 hg7 hat7; have hC : Below wj.drew.heap.size wj.drew w7 := below_app (hB2.alloc hB2.size _) hg7 (by have := hB2.size; simp at *; omega) hown6))
              | ((refine step_appAt (by rfl) (.tmp 64) (.tmp 70) 24 (by rfl) wj.heap.size 27 (.agg #[.slice none 0 0, .slice none 0 0, .int .i64 0, .bool false]) 4 64 Try.underlying24 Try.info27 rfl (by decide) ad2 (j + 1) c2 _ (by rfl) hown7 Lx (l.length - j) (Lc - j) (ecs (kv.drop j) (l.drop j)) (by rfl) (hrB.below (below_tr (Below.refl wj.heap.size wj).drew hC)) hoB hnx (by unfold maxLen; omega) (by omega) (show wj.heap.size ≤ w7.heap.size from hC.size) ?_; intro ad3 c3 w8 hown8 hg8 hat8; have hD : Below wj.drew.heap.size wj.drew w8 := below_app hC hg8 hC.size hown7)))
          go_wp2
          have hD' : Below wj.heap.size wj w8 := below_tr (Below.refl wj.heap.size wj).drew hD
          have hHO := owns_below (owns_below HHO.out hbW) hD'
          have v1' : w8.cell? ⟨TB, 1, none⟩ = some (Value.slice Ha l.length Hc) := cell_later hD u1
          have v1 : w8.drew.cell? ⟨TB, 1, none⟩ = some (Value.slice Ha l.length Hc) := v1'
          have hw8 : Below w.heap.size w w8 := below_then hbw hD' (by omega)
          have hE8 : EsO w8 B (.slice ad3 (j + 1 + (l.length - j)) c3) (l.take j ++ e :: l.drop j) := by
            have k1 : Keeps 5 w6 _ := Keeps.below ((Below.refl w6.heap.size w6).alloc (Nat.le_refl _) (Obj.cells #[Value.slice ka' e.key.length kc', Value.slice va' e.val.length vc', Value.int .i64 e.seq, Value.bool e.dead] 27))
            have k2 := Keeps.grown4 (te := 5) hown6 hg7 (by decide)
            have k3 := Keeps.grown4 (te := 5) hown7 hg8 (by decide)
            have hz5 : wj.heap.size ≤ w5.heap.size := hA.size
            exact EsO.put hkv hj (fun i hi => (HEACH.out i hi).below hw8) ((heo6.keeps (k1.trans (k2.trans k3))).mono (by omega)) (owns_mono hown8 (by omega))
          have HE8 := Lib.hid hE8
          have HW8 := Lib.hid hw8
          have hHn := owns_nil hHO
          have hHc := (owns_cap hHO).1
          have hHm := (owns_cap hHO).2
          unfold maxLen at hHm
          have hjc2 : j ≤ Hc := by omega
          have hHrd : Rd w8 1 Ha l.length hs := rd_of_owns hHO
          obtain ⟨Hx, hsl2, hnx2, hHx⟩ := slice_from (P := Try.prog) (j := j) Try.underlying38 Try.info3 hj (owns_cap hHO).1 (owns_nil hHO)
          have hrC : Rd w8 1 Ha j (hs.take j) := rd_take hHrd hj
          have hrD : Rd w8 1 Hx (l.length - j) (hs.drop j) := by have := hHx _ _ hHrd; rw [Nat.mul_one] at this; exact this
          have hoC : ∀ u ∈ hs.take j, u.oneCell' = true := fun u hu => h1 u (List.mem_of_mem_take hu)
          have hoD : ∀ u ∈ hs.drop j, u.oneCell' = true := fun u hu => h1 u (List.mem_of_mem_drop hu)
          have HD := Lib.hid hD
          clear hE8 hw8 hHO hHrd hHx u0 u1 u2 hsl hnx hrA hrB hoA hoB hnl hcl hcm hjc hej hD hC hB2 hA
          go_region_held3 (fun w' => w'.cell? ⟨TB, 1, none⟩ = some (Value.slice Ha l.length Hc))
            (first | exact v1 | exact cell_later (by first | exact (Below.refl _ _).drew | exact ((Below.refl _ _).alloc (Nat.le_refl _) _).drew | exact hC | exact hB2 | exact hA | exact hA.alloc hA.size _) v1' | go_keep)
            (first
              | ((refine step_app0 (by rfl) (.tmp 72) (.tmp 78) 38 (by rfl) w8.heap.size 3 (.int .i64 0) 1 8 Try.underlying38 Try.info3 rfl (by decide) none (by rfl) (World.ownsRow_nil _ _ _ _) Ha j Hc (hs.take j) (by rfl) ?_ hoC hHn (by unfold maxLen; omega) (by omega) ?_ ?_; exact hrC.below (by first | exact (Below.refl _ _).drew | exact ((Below.refl _ _).alloc (Nat.le_refl _) _).drew | exact hC | exact hB2 | exact hA | exact hA.alloc hA.size _); exact le_of_below (by first | exact (Below.refl _ _).drew | exact ((Below.refl _ _).alloc (Nat.le_refl _) _).drew | exact hC | exact hB2 | exact hA | exact hA.alloc hA.size _); intro ad4 c4 w9 hown9 hb9; have hA := below_tr (a := w8) (by first | exact (Below.refl _ _).drew | exact ((Below.refl _ _).alloc (Nat.le_refl _) _).drew | exact hC | exact hB2 | exact hA | exact hA.alloc hA.size _) hb9))
              | ((refine step_appAt (by rfl) (.tmp 79) (.tmp 81) 38 (by rfl) w8.heap.size 3 (.int .i64 0) 1 8 Try.underlying38 Try.info3 rfl (by decide) ad4 j c4 _ (by rfl) (hown9.alloc (Obj.cells #[Value.int .i64 1] 3)) _ 1 1 [Value.int .i64 1] (by rfl) (rd_lit _ _ _ 1 1 rfl) (one_oneCell _ _) (fun h => by cases h) (by unfold maxLen; omega) (by omega) ?_ ?_; (have := hA.size; simp at *; omega); intro ad5 c5 w10 hown10 hg10 hat10; have hB2 : Below w8.heap.size w8 w10 := below_app (hA.alloc hA.size _) hg10 (by have := hA.size; simp at *; omega) (hown9.alloc (Obj.cells #[Value.int .i64 1] 3))))
              | ((refine step_appAt (by rfl) (.tmp 79) (.tmp 81) 38 (by rfl) w8.heap.size 3 (.int .i64 0) 1 8 Try.underlying38 Try.info3 rfl (by decide) ad4 j c4 _ (by rfl) hown9 _ 1 1 [Value.int .i64 1] (by rfl) (((rd_lit w8 #[Value.int .i64 1] 3 1 1 rfl).below (Below.refl _ _).drew).below hb9) (one_oneCell _ _) (fun h => by cases h) (by unfold maxLen; omega) (by omega) hA.size ?_; intro ad5 c5 w10 hown10 hg10 hat10; have hB2 : Below w8.heap.size w8 w10 := below_app hA hg10 hA.size hown9))
              | ((refine step_appAt (by rfl) (.tmp 82) (.tmp 88) 38 (by rfl) w8.heap.size 3 (.int .i64 0) 1 8 Try.underlying38 Try.info3 rfl (by decide) ad5 (j + 1) c5 _ (by rfl) hown10 Hx (l.length - j) (Hc - j) (hs.drop j) (by rfl) (hrD.below hB2) hoD hnx2 (by unfold maxLen; omega) (by omega) hB2.size ?_; intro ad6 c6 w11 hown11 hg11 hat11; have hC : Below w8.heap.size w8 w11 := below_app hB2 hg11 hB2.size hown10)))
          all_goals
            have hb11 : Below w0.heap.size w0 w11 := below_then (below_then hbW hD' (by have := hbW.size; omega)) hC (by have := hD'.size; have := hbW.size; omega)
            have hT11 := row_later2 hT0.out hb11
            have y0 := cell_of_row _ TB 0 _ _ _ hT11
            have y1 := cell_of_row _ TB 1 _ _ _ hT11
            change _ = some (Value.slice (some ⟨b, o, none⟩) l.length Lc) at y0
            change _ = some (Value.slice Ha l.length Hc) at y1
            have y2 := frozen_block hT11 0
            have y3 := frozen_block hT11 1
            have H11 := Lib.hid hT11
            have hw11 := Lib.hid (below_then hb0 hb11 hb0.size)
            clear hT11 v1 v1'
            go_wp2
            have P1 := heap_setCell_same w11 TB 0 _ _ (Value.slice ad3 (j + 1 + (l.length - j)) c3) H11.out
            have P2 := heap_setCell_same _ TB 1 _ _ (Value.slice ad6 (j + 1 + (l.length - j)) c6) P1
            have hlen' : l'.length = j + 1 + (l.length - j) := by rw [hput.out]; simp; omega
            refine HRR.out _ (Value.slice ad3 (j + 1 + (l.length - j)) c3) (Value.slice ad6 (j + 1 + (l.length - j)) c6) (hs.take j ++ [Value.int .i64 1] ++ hs.drop j) 0 ?_ P2 ?_ ?_ ?_
            · exact grownBy_trans (grownBy_trans (grownBy_below hw11.out) (grownBy_setCell w11 ⟨TB, 0, none⟩ _)) (grownBy_setCell _ ⟨TB, 1, none⟩ _)
            · rw [hput.out]
              exact ((HE8.out.below hC).set H11.out (by decide) (by decide)).set P1 (by decide) (by decide)
            · rw [hlen']
              have q0 := owns_mono (base' := B) hown11 (by have := HW8.out.size; omega)
              exact ownsRow_setCell_other (ownsRow_setCell_other q0 (own_block_ne H11.out q0 (by decide)) _) (own_block_ne P1 (ownsRow_setCell_other q0 (own_block_ne H11.out q0 (by decide)) (Value.slice ad3 (j + 1 + (l.length - j)) c3)) (by decide)) _
            · intro u hu
              simp only [List.mem_append, List.mem_singleton] at hu
              rcases hu with (hu | rfl) | hu
              · exact h1 u (List.mem_of_mem_take hu)
              · rfl
              · exact h1 u (List.mem_of_mem_drop hu)
    · have hjj : ¬ ((j : Int) < (l.length : Int)) := by omega
      have hput : Hid (l' = l.take j ++ e :: l.drop j) := by
        show l' = _
        rw [← HL'.out]
        exact putE_in hj hall.out (fun h => absurd h hlt)
      replace t0 : wr.cell? ⟨TB, 0, none⟩ = some (Value.slice La l.length Lc) := t0
      clear HL' hall c1
      go_wp2
      go_quiet (fail)
      go_wp2
      go_quiet (fail)
      go_wp2
      refine (?_ : ∀ wj, Below w0.heap.size w0 wj → Code.wp _ _ _ _ wj) _ ?_
      rotate_left
      · first | exact below_drewN hbr | exact below_drewN (below_drewN hbr)
      clear he1 t0
      intro wj hbW
      have hrow : w.ownsRow B 27 4 (.slice La l.length Lc) l.length (ecs kv l) := HROW.out
      have hbw : Below w.heap.size w wj := below_then hb0 hbW hb0.size
      have hzj : w.heap.size + 1 ≤ wj.heap.size := by have := hbW.size; have := HZ.out; omega
      have u0 : wj.drew.cell? ⟨TB, 0, none⟩ = some (Value.slice La l.length Lc) := cell_of_row _ TB 0 _ _ _ (row_later2 hT0.out hbW)
      have u1 : wj.drew.cell? ⟨TB, 1, none⟩ = some (Value.slice Ha l.length Hc) := cell_of_row _ TB 1 _ _ _ (row_later2 hT0.out hbW)
      have x0 := row_later2 N0.out hbW
      have u2 : (wj.drew.cell? ⟨w.heap.size, 0, none⟩ = some (Value.slice ka kn kc) ∧ wj.drew.cell? ⟨w.heap.size, 1, none⟩ = some (Value.slice va vn vc) ∧ wj.drew.cell? ⟨w.heap.size, 2, none⟩ = some (Value.int .i64 e.seq) ∧ wj.drew.cell? ⟨w.heap.size, 3, none⟩ = some (Value.bool e.dead)) := ⟨cell_of_row _ w.heap.size 0 _ _ _ x0, cell_of_row _ w.heap.size 1 _ _ _ x0, cell_of_row _ w.heap.size 2 _ _ _ x0, cell_of_row _ w.heap.size 3 _ _ _ x0⟩
      have hej := (HE.below hbW).below (Below.refl wj.heap.size wj).drew
      have hrd : Rd wj 4 La l.length (ecs kv l) := rd_of_owns (owns_below hrow hbw)
      have hone := ecs_oneCell hkv HEACH.out
      have hrA : Rd wj 4 La j (ecs (kv.take j) (l.take j)) := by rw [← ecs_take hkv j hj]; exact rd_takeN hrd hj
      obtain ⟨Lx, hsl, hnx, hLx⟩ := slice_from (P := Try.prog) (j := j) Try.underlying24 Try.info27 hj (owns_cap hrow).1 (owns_nil hrow)
      have hrB : Rd wj 4 Lx (l.length - j) (ecs (kv.drop j) (l.drop j)) := by rw [← ecs_drop hkv j hj]; exact hLx _ _ hrd
      have hoA : ∀ u ∈ ecs (kv.take j) (l.take j), u.oneCell' = true := fun u hu => hone u (by rw [← ecs_take hkv j hj] at hu; exact List.mem_of_mem_take hu)
      have hoB : ∀ u ∈ ecs (kv.drop j) (l.drop j), u.oneCell' = true := fun u hu => hone u (by rw [← ecs_drop hkv j hj] at hu; exact List.mem_of_mem_drop hu)
      have hnl := owns_nil hrow
      have hcl := (owns_cap hrow).1
      have hcm := (owns_cap hrow).2
      unfold maxLen at hcm
      have hjc : j ≤ Lc := by omega
      clear x0 hrow hone hrd hLx
      go_region_held3 (fun w' => w'.cell? ⟨TB, 0, none⟩ = some (Value.slice La l.length Lc) ∧ (w'.cell? ⟨w.heap.size, 0, none⟩ = some (Value.slice ka kn kc) ∧ w'.cell? ⟨w.heap.size, 1, none⟩ = some (Value.slice va vn vc) ∧ w'.cell? ⟨w.heap.size, 2, none⟩ = some (Value.int .i64 e.seq) ∧ w'.cell? ⟨w.heap.size, 3, none⟩ = some (Value.bool e.dead)))
        (first | exact ⟨u0, u2⟩ | exact ⟨cell_later hA u0, e40_later hA u2⟩ | exact ⟨cell_later hB2 u0, e40_later hB2 u2⟩ | exact ⟨cell_later (hB2.alloc hB2.size _) u0, e40_later (hB2.alloc hB2.size _) u2⟩ | exact ⟨cell_later hC u0, e40_later hC u2⟩ | exact ⟨cell_later hD u0, e40_later hD u2⟩ | go_keep)
        (first
          | ((refine step_app0 (by rfl) (.tmp 53) (.tmp 59) 24 (by rfl) wj.heap.size 27 (.agg #[.slice none 0 0, .slice none 0 0, .int .i64 0, .bool false]) 4 64 Try.underlying24 Try.info27 rfl (by decide) none (by rfl) (World.ownsRow_nil _ _ _ _) La j Lc (ecs (kv.take j) (l.take j)) (by rfl) (hrA.below (Below.refl wj.heap.size wj).drew) hoA hnl (by unfold maxLen; omega) (by omega) (Nat.le_refl _) ?_; intro ad1 c1 w5 hown5 hb5; have hA : Below wj.drew.heap.size wj.drew w5 := hb5))
          | (go_at_call 10; refine etwin_any _ _ e _ (hej.below hA) _ ?_; intro k' v' w6 heo6 hb6; obtain ⟨ka', kc', rfl⟩ := owns_shape heo6.hk; obtain ⟨va', vc', rfl⟩ := owns_shape heo6.hv; have hB2 : Below wj.drew.heap.size wj.drew w6 := below_tr hA hb6; have hown6 := (owns_below hown5 hb6).alloc (Obj.cells #[Value.slice ka' e.key.length kc', Value.slice va' e.val.length vc', Value.int .i64 e.seq, Value.bool e.dead] 27))
          | ((refine step_appAt (by rfl) (.tmp 60) (.tmp 63) 24 (by rfl) wj.heap.size 27 (.agg #[.slice none 0 0, .slice none 0 0, .int .i64 0, .bool false]) 4 64 Try.underlying24 Try.info27 rfl (by decide) ad1 j c1 _ (by rfl) hown6 _ 1 1 [Value.slice ka' e.key.length kc', Value.slice va' e.val.length vc', Value.int .i64 e.seq, Value.bool e.dead] (by rfl) (rd_lit _ _ _ 4 1 rfl) (ec_oneCell _ _ _ _ _ _) (by simp) (by unfold maxLen; omega) (by omega) (by have := hB2.size; simp at *; omega) ?_; intro ad2 c2 w7 hown7 hg7 hat7; have hC : Below wj.drew.heap.size wj.drew w7 := below_app (hB2.alloc hB2.size _) hg7 (by have := hB2.size; simp at *; omega) hown6))
          | ((refine step_appAt (by rfl) (.tmp 64) (.tmp 70) 24 (by rfl) wj.heap.size 27 (.agg #[.slice none 0 0, .slice none 0 0, .int .i64 0, .bool false]) 4 64 Try.underlying24 Try.info27 rfl (by decide) ad2 (j + 1) c2 _ (by rfl) hown7 Lx (l.length - j) (Lc - j) (ecs (kv.drop j) (l.drop j)) (by rfl) (hrB.below (below_tr (Below.refl wj.heap.size wj).drew hC)) hoB hnx (by unfold maxLen; omega) (by omega) (show wj.heap.size ≤ w7.heap.size from hC.size) ?_; intro ad3 c3 w8 hown8 hg8 hat8; have hD : Below wj.drew.heap.size wj.drew w8 := below_app hC hg8 hC.size hown7)))
      go_wp2
      have hD' : Below wj.heap.size wj w8 := below_tr (Below.refl wj.heap.size wj).drew hD
      have hHO := owns_below (owns_below HHO.out hbW) hD'
      have v1' : w8.cell? ⟨TB, 1, none⟩ = some (Value.slice Ha l.length Hc) := cell_later hD u1
      have v1 : w8.drew.cell? ⟨TB, 1, none⟩ = some (Value.slice Ha l.length Hc) := v1'
      have hw8 : Below w.heap.size w w8 := below_then hbw hD' (by omega)
      have hE8 : EsO w8 B (.slice ad3 (j + 1 + (l.length - j)) c3) (l.take j ++ e :: l.drop j) := by
        have k1 : Keeps 5 w6 _ := Keeps.below ((Below.refl w6.heap.size w6).alloc (Nat.le_refl _) (Obj.cells #[Value.slice ka' e.key.length kc', Value.slice va' e.val.length vc', Value.int .i64 e.seq, Value.bool e.dead] 27))
        have k2 := Keeps.grown4 (te := 5) hown6 hg7 (by decide)
        have k3 := Keeps.grown4 (te := 5) hown7 hg8 (by decide)
        have hz5 : wj.heap.size ≤ w5.heap.size := hA.size
        exact EsO.put hkv hj (fun i hi => (HEACH.out i hi).below hw8) ((heo6.keeps (k1.trans (k2.trans k3))).mono (by omega)) (owns_mono hown8 (by omega))
      have HE8 := Lib.hid hE8
      have HW8 := Lib.hid hw8
      have hHn := owns_nil hHO
      have hHc := (owns_cap hHO).1
      have hHm := (owns_cap hHO).2
      unfold maxLen at hHm
      have hjc2 : j ≤ Hc := by omega
      have hHrd : Rd w8 1 Ha l.length hs := rd_of_owns hHO
      obtain ⟨Hx, hsl2, hnx2, hHx⟩ := slice_from (P := Try.prog) (j := j) Try.underlying38 Try.info3 hj (owns_cap hHO).1 (owns_nil hHO)
      have hrC : Rd w8 1 Ha j (hs.take j) := rd_take hHrd hj
      have hrD : Rd w8 1 Hx (l.length - j) (hs.drop j) := by have := hHx _ _ hHrd; rw [Nat.mul_one] at this; exact this
      have hoC : ∀ u ∈ hs.take j, u.oneCell' = true := fun u hu => h1 u (List.mem_of_mem_take hu)
      have hoD : ∀ u ∈ hs.drop j, u.oneCell' = true := fun u hu => h1 u (List.mem_of_mem_drop hu)
      have HD := Lib.hid hD
      clear hE8 hw8 hHO hHrd hHx u0 u1 u2 hsl hnx hrA hrB hoA hoB hnl hcl hcm hjc hej hD hC hB2 hA
      go_region_held3 (fun w' => w'.cell? ⟨TB, 1, none⟩ = some (Value.slice Ha l.length Hc))
        (first | exact v1 | exact cell_later (by first | exact (Below.refl _ _).drew | exact ((Below.refl _ _).alloc (Nat.le_refl _) _).drew | exact hC | exact hB2 | exact hA | exact hA.alloc hA.size _) v1' | go_keep)
        (first
          | ((refine step_app0 (by rfl) (.tmp 72) (.tmp 78) 38 (by rfl) w8.heap.size 3 (.int .i64 0) 1 8 Try.underlying38 Try.info3 rfl (by decide) none (by rfl) (World.ownsRow_nil _ _ _ _) Ha j Hc (hs.take j) (by rfl) ?_ hoC hHn (by unfold maxLen; omega) (by omega) ?_ ?_; exact hrC.below (by first | exact (Below.refl _ _).drew | exact ((Below.refl _ _).alloc (Nat.le_refl _) _).drew | exact hC | exact hB2 | exact hA | exact hA.alloc hA.size _); exact le_of_below (by first | exact (Below.refl _ _).drew | exact ((Below.refl _ _).alloc (Nat.le_refl _) _).drew | exact hC | exact hB2 | exact hA | exact hA.alloc hA.size _); intro ad4 c4 w9 hown9 hb9; have hA := below_tr (a := w8) (by first | exact (Below.refl _ _).drew | exact ((Below.refl _ _).alloc (Nat.le_refl _) _).drew | exact hC | exact hB2 | exact hA | exact hA.alloc hA.size _) hb9))
          | ((refine step_appAt (by rfl) (.tmp 79) (.tmp 81) 38 (by rfl) w8.heap.size 3 (.int .i64 0) 1 8 Try.underlying38 Try.info3 rfl (by decide) ad4 j c4 _ (by rfl) (hown9.alloc (Obj.cells #[Value.int .i64 1] 3)) _ 1 1 [Value.int .i64 1] (by rfl) (rd_lit _ _ _ 1 1 rfl) (one_oneCell _ _) (fun h => by cases h) (by unfold maxLen; omega) (by omega) ?_ ?_; (have := hA.size; simp at *; omega); intro ad5 c5 w10 hown10 hg10 hat10; have hB2 : Below w8.heap.size w8 w10 := below_app (hA.alloc hA.size _) hg10 (by have := hA.size; simp at *; omega) (hown9.alloc (Obj.cells #[Value.int .i64 1] 3))))
          | ((refine step_appAt (by rfl) (.tmp 79) (.tmp 81) 38 (by rfl) w8.heap.size 3 (.int .i64 0) 1 8 Try.underlying38 Try.info3 rfl (by decide) ad4 j c4 _ (by rfl) hown9 _ 1 1 [Value.int .i64 1] (by rfl) (((rd_lit w8 #[Value.int .i64 1] 3 1 1 rfl).below (Below.refl _ _).drew).below hb9) (one_oneCell _ _) (fun h => by cases h) (by unfold maxLen; omega) (by omega) hA.size ?_; intro ad5 c5 w10 hown10 hg10 hat10; have hB2 : Below w8.heap.size w8 w10 := below_app hA hg10 hA.size hown9))
          | ((refine step_appAt (by rfl) (.tmp 82) (.tmp 88) 38 (by rfl) w8.heap.size 3 (.int .i64 0) 1 8 Try.underlying38 Try.info3 rfl (by decide) ad5 (j + 1) c5 _ (by rfl) hown10 Hx (l.length - j) (Hc - j) (hs.drop j) (by rfl) (hrD.below hB2) hoD hnx2 (by unfold maxLen; omega) (by omega) hB2.size ?_; intro ad6 c6 w11 hown11 hg11 hat11; have hC : Below w8.heap.size w8 w11 := below_app hB2 hg11 hB2.size hown10)))
      all_goals
        have hb11 : Below w0.heap.size w0 w11 := below_then (below_then hbW hD' (by have := hbW.size; omega)) hC (by have := hD'.size; have := hbW.size; omega)
        have hT11 := row_later2 hT0.out hb11
        have y0 := cell_of_row _ TB 0 _ _ _ hT11
        have y1 := cell_of_row _ TB 1 _ _ _ hT11
        change _ = some (Value.slice La l.length Lc) at y0
        change _ = some (Value.slice Ha l.length Hc) at y1
        have y2 := frozen_block hT11 0
        have y3 := frozen_block hT11 1
        have H11 := Lib.hid hT11
        have hw11 := Lib.hid (below_then hb0 hb11 hb0.size)
        clear hT11 v1 v1'
        go_wp2
        have P1 := heap_setCell_same w11 TB 0 _ _ (Value.slice ad3 (j + 1 + (l.length - j)) c3) H11.out
        have P2 := heap_setCell_same _ TB 1 _ _ (Value.slice ad6 (j + 1 + (l.length - j)) c6) P1
        have hlen' : l'.length = j + 1 + (l.length - j) := by rw [hput.out]; simp; omega
        refine HRR.out _ (Value.slice ad3 (j + 1 + (l.length - j)) c3) (Value.slice ad6 (j + 1 + (l.length - j)) c6) (hs.take j ++ [Value.int .i64 1] ++ hs.drop j) 0 ?_ P2 ?_ ?_ ?_
        · exact grownBy_trans (grownBy_trans (grownBy_below hw11.out) (grownBy_setCell w11 ⟨TB, 0, none⟩ _)) (grownBy_setCell _ ⟨TB, 1, none⟩ _)
        · rw [hput.out]
          exact ((HE8.out.below hC).set H11.out (by decide) (by decide)).set P1 (by decide) (by decide)
        · rw [hlen']
          have q0 := owns_mono (base' := B) hown11 (by have := HW8.out.size; omega)
          exact ownsRow_setCell_other (ownsRow_setCell_other q0 (own_block_ne H11.out q0 (by decide)) _) (own_block_ne P1 (ownsRow_setCell_other q0 (own_block_ne H11.out q0 (by decide)) (Value.slice ad3 (j + 1 + (l.length - j)) c3)) (by decide)) _
        · intro u hu
          simp only [List.mem_append, List.mem_singleton] at hu
          rcases hu with (hu | rfl) | hu
          · exact h1 u (List.mem_of_mem_take hu)
          · rfl
          · exact h1 u (List.mem_of_mem_drop hu)
end Go.Proofs.Ytgkgahjdjkmmnaa
