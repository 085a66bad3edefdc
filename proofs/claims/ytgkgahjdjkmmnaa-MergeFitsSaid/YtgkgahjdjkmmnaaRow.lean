/- tidingslaw07.Row: entries cut, and put into a table in order. -/
import Derived.Test.YtgkgahjdjkmmnaaPutT
namespace Go.Proofs.Ytgkgahjdjkmmnaa
open Go.RowKit

def normE (e : Ent) : Ent := ⟨e.key.take 128, if e.dead then [] else e.val.take 300, if e.seq < 0 then -(e.seq + 1) else e.seq, e.dead⟩
def rowL (l : List Ent) : List Ent := ((l.take 60).map normE).foldl putE []

theorem mem_put_of {α : Type} {lt : α → α → Bool} : ∀ (l : List α) (e x : α), x ∈ putG lt l e → x ∈ l ∨ x = e
  | [], e, x, h => by simp [putG] at h; exact .inr h
  | a :: l, e, x, h => by
    unfold putG at h
    split at h
    · rcases List.mem_cons.1 h with rfl | h
      · exact .inl List.mem_cons_self
      · exact (mem_put_of l e x h).imp (List.mem_cons_of_mem _) id
    · split at h
      · rcases List.mem_cons.1 h with rfl | h
        · exact .inr rfl
        · exact .inl h
      · exact .inl h
theorem mem_puts_of {α : Type} {lt : α → α → Bool} : ∀ (l s : List α) (x : α), x ∈ l.foldl (putG lt) s → x ∈ s ∨ x ∈ l
  | [], s, x, h => .inl h
  | a :: l, s, x, h => by
    rcases mem_puts_of l _ x h with h | h
    · rcases mem_put_of s a x h with h | rfl
      · exact .inl h
      · exact .inr List.mem_cons_self
    · exact .inr (List.mem_cons_of_mem _ h)
theorem len_put {α : Type} (lt : α → α → Bool) : ∀ (l : List α) (e : α), (putG lt l e).length ≤ l.length + 1
  | [], e => by simp [putG]
  | a :: l, e => by
    unfold putG
    have := len_put lt l e
    split
    · simp; omega
    · split <;> simp
theorem len_puts {α : Type} (lt : α → α → Bool) : ∀ (l s : List α), (l.foldl (putG lt) s).length ≤ s.length + l.length
  | [], s => by simp
  | a :: l, s => by
    have h1 := len_puts lt l (putG lt s a)
    have h2 := len_put lt s a
    rw [List.foldl_cons, List.length_cons]
    omega
theorem EB.norm {e : Ent} (h : EB e) : EB (normE e) := by
  obtain ⟨h1, h2, h3, h4⟩ := h
  refine ⟨?_, ?_, ?_, ?_⟩ <;> unfold normE <;> simp only
  · rw [List.length_take]; omega
  · split
    · simp
    · rw [List.length_take]; omega
  · split <;> omega
  · split <;> omega
theorem Es.eb {w : World} {v : Value} {l : List Ent} (h : Es w v l) : ∀ e ∈ l, EB e := by
  obtain ⟨ad, c, rfl, _, _, _, h4⟩ := h
  intro e he
  obtain ⟨i, hi, rfl⟩ := List.getElem_of_mem he
  obtain ⟨b, o, _, h5⟩ := h4 (by omega)
  obtain ⟨k, v, _, h6⟩ := h5 i hi
  exact ⟨h6.lk, h6.lv, h6.s0, h6.s1⟩
/-- The row's entries so far. -/
def rowK (l : List Ent) (k : Nat) : List Ent := ((l.take k).map normE).foldl putE []
theorem rowK_succ (l : List Ent) (k : Nat) (h : k < l.length) : rowK l (k + 1) = putE (rowK l k) (normE l[k]) := by
  unfold rowK
  rw [List.take_succ_eq_append_getElem h, List.map_append, List.foldl_append]
  rfl
theorem rowK_eb {l : List Ent} (h : ∀ e ∈ l, EB e) (k : Nat) : ∀ x ∈ rowK l k, EB x := by
  intro x hx
  rcases mem_puts_of _ _ x hx with hx | hx
  · cases hx
  · obtain ⟨e, he, rfl⟩ := List.mem_map.1 hx
    exact (h e (List.mem_of_mem_take he)).norm
theorem rowK_len (l : List Ent) (k : Nat) : (rowK l k).length ≤ k := by
  have := len_puts lessE ((l.take k).map normE) []
  rw [List.length_map, List.length_take, List.length_nil] at this
  have h : (rowK l k).length = (List.foldl (putG lessE) [] ((l.take k).map normE)).length := rfl
  omega

set_option maxHeartbeats 400000 in
theorem cutv_any (v : Value) (l C : List UInt8) (n : Int) (hC : l.take n.toNat = C) (w : World) (hv : Bs w v l) (h0 : 0 ≤ n) (R : Ending → World → Prop)
    (hR : ∀ ad c, (∀ w', Bs w' v l → Bs w' (.slice ad C.length c) C) → R (.returned (.slice ad C.length c)) w) :
    Calls Try.prog 37 #[v, .int .i64 n] w R := by
  subst hC
  have hv' := hv
  obtain ⟨ad, c, rfl, hr, hc, hm, hnil⟩ := hv'
  clear hr
  go_enter Try.func37, Try.ntmps37
  by_cases hlt : n < l.length
  · have hB : ∀ w', Bs w' (.slice ad l.length c) l → Bs w' (.slice ad n.toNat c) (l.take n.toNat) := fun w' h => h.cut (k := n.toNat) (by omega)
    clear hv
    go_wp2
    have e : (l.take n.toNat).length = n.toNat := by rw [List.length_take]; omega
    have := hR ad c
    rw [e] at this
    exact this hB
  · have hB : l.take n.toNat = l := List.take_of_length_le (by omega)
    clear hv
    go_wp2
    have := hR ad c
    rw [hB] at this
    exact this (fun _ h => h)

theorem EsO.row {w : World} {B : Nat} {v : Value} {l : List Ent} (h : EsO w B v l) : ∃ cs, w.ownsRow B 27 4 v l.length cs := by
  obtain ⟨kv, h1, h2, h3⟩ := h
  exact ⟨_, h2⟩
theorem EsO.shape {w : World} {B : Nat} {v : Value} {l : List Ent} (h : EsO w B v l) : ∃ ad c, v = .slice ad l.length c := by
  obtain ⟨kv, h1, h2, h3⟩ := h
  exact owns_shape h2
theorem bs_nil (w : World) : Bs w (.slice none 0 0) [] := ⟨none, 0, rfl, Rd.nil _ _ _, Nat.le_refl _, by omega, fun _ => rfl⟩

set_option maxRecDepth 100000 in
set_option maxHeartbeats 8000000 in
theorem row_any (v : Value) (l l' : List Ent) (hl' : rowL l = l') (w : World) (hv : Es w v l) (R : Ending → World → Prop)
    (hR : ∀ L' w', EsO w' w.heap.size L' l' → Below w.heap.size w w' → R (.returned L') w') :
    Calls Try.prog 16 #[v] w R := by
  have HB := Lib.hid hv.eb
  have HV := Lib.hid hv
  have HL := Lib.hid hl'
  have HR := Lib.hid hR
  obtain ⟨va, vc, rfl, v1, v2, v3, v4⟩ := hv
  clear v4 hl' hR
  obtain ⟨w0, hw0⟩ : ∃ w0, w.alloc (Obj.cells #[Value.slice none 0 0, Value.slice none 0 0] 74) = w0 := ⟨_, rfl⟩
  have hb0 : Below w.heap.size w w0 := by rw [← hw0]; exact (Below.refl _ _).alloc (Nat.le_refl _) _
  have hT0 : w0.heap[w.heap.size]? = some (Obj.cells #[Value.slice none 0 0, Value.slice none 0 0] 74) := by rw [← hw0]; exact heap_alloc_new w _
  have HT0 := Lib.hid hT0
  have hz0 : w.heap.size + 1 ≤ w0.heap.size := by rw [← hw0]; simp
  clear hT0
  go_enter Try.func16, Try.ntmps16
  go_wp2_with fail
  clear hw0
  go_loopw [4] (fun i wr => ∃ k : Nat, k ≤ l.length ∧ k ≤ 60 ∧ i = .int .i64 k ∧ Below w.heap.size w wr ∧ w.heap.size + 1 ≤ wr.heap.size ∧ ∃ L Hv hs, Hid (wr.heap[w.heap.size]? = some (Obj.cells #[L, Hv] 74)) ∧ EsO wr w.heap.size L (rowK l k) ∧ wr.ownsRow w.heap.size 3 1 Hv (rowK l k).length hs ∧ ∀ u ∈ hs, u.oneCell' = true) (fun i _ => 60 - (intOf i).toNat)
  case atStart => exact ⟨0, Nat.zero_le _, by omega, rfl, hb0, hz0, _, _, [], HT0, EsO.nil _ _, World.ownsRow_nil _ _ _ _, by simp⟩
  case round =>
    obtain ⟨k, hk, hk60, rfl, hb, hz, L, Hv, hs, hT, hL, hH, h1⟩ := hrel
    by_cases hlt : k < l.length ∧ k < 60
    · obtain ⟨hlt, hlt2⟩ := hlt
      have hkk : (k : Int) < (l.length : Int) := by omega
      have hkk2 : (k : Int) < 60 := by omega
      obtain ⟨ad', c', e, _, _, _, h4⟩ := HV.out.below hb
      simp only [Value.slice.injEq] at e
      obtain ⟨rfl, -, rfl⟩ := e
      obtain ⟨b, o, rfl, h5⟩ := h4 (by omega)
      obtain ⟨ka, va, ⟨p0, p1, p2, p3⟩, hea⟩ := h5 k hlt
      obtain ⟨x, hx⟩ : ∃ x, l[k] = x := ⟨_, rfl⟩
      obtain ⟨K, V, sq, dd⟩ := x
      have hsucc := rowK_succ l k hlt
      rw [hx] at hsucc p2 p3 hea
      simp only at p2 p3
      obtain ⟨lk, lv, s0, s1⟩ : K.length ≤ 140737488351232 ∧ V.length ≤ 140737488351232 ∧ -9223372036854775808 ≤ sq ∧ sq ≤ 9223372036854775807 := ⟨hea.lk, hea.lv, hea.s0, hea.s1⟩
      have hek : Bs wr ka K := hea.hk
      have hev : Bs wr va V := hea.hv
      have HS := Lib.hid hsucc
      obtain ⟨CK, hCK⟩ : ∃ C, K.take (128 : Int).toNat = C := ⟨_, rfl⟩
      obtain ⟨CV, hCV⟩ : ∃ C, V.take (300 : Int).toNat = C := ⟨_, rfl⟩
      have lck : CK.length ≤ 140737488351232 := by rw [← hCK, List.length_take]; omega
      have lcv : CV.length ≤ 140737488351232 := by rw [← hCV, List.length_take]; omega
      have HCK := Lib.hid hCK
      have HCV := Lib.hid hCV
      clear h4 h5 hx hsucc hCK hCV
      have HL2 := Lib.hid hL
      have HH := Lib.hid hH
      obtain ⟨ka1, kn1, kc1, rfl⟩ : ∃ a n c, ka = .slice a n c := by obtain ⟨a, c, h, _⟩ := hea.hk; exact ⟨_, _, _, h⟩
      obtain ⟨va1, vn1, vc1, rfl⟩ := EC.shape hea
      clear hL hH hea
      go_wp2
      obtain ⟨w1, hw1⟩ : ∃ w1, wr.alloc (Obj.cells #[Value.slice ka1 kn1 kc1, Value.slice va1 vn1 vc1, Value.int .i64 sq, Value.bool dd] 27) = w1 := ⟨_, rfl⟩
      have hy1 : Below wr.heap.size wr w1 := by rw [← hw1]; exact (Below.refl _ _).alloc (Nat.le_refl _) _
      have n1 : w1.heap[wr.heap.size]? = some (Obj.cells #[Value.slice ka1 kn1 kc1, Value.slice va1 vn1 vc1, Value.int .i64 sq, Value.bool dd] 27) := by rw [← hw1]; exact heap_alloc_new wr _
      have hz1 : wr.heap.size + 1 ≤ w1.heap.size := by rw [← hw1]; simp
      rw [hw1]
      clear hw1
      have hk1 : Bs w1.drew (Value.slice ka1 kn1 kc1) K := hek.below hy1.drew
      have hv1 : Bs w1.drew (Value.slice va1 vn1 vc1) V := hev.below hy1.drew
      have c0 : w1.drew.cell? ⟨wr.heap.size, 0, none⟩ = some (Value.slice ka1 kn1 kc1) := cell_of_row _ _ 0 _ _ _ n1
      have c1 : w1.drew.cell? ⟨wr.heap.size, 1, none⟩ = some (Value.slice va1 vn1 vc1) := cell_of_row _ _ 1 _ _ _ n1
      have g0 : w1.drew.frozen? ⟨wr.heap.size, 0, none⟩ = false := frozen_block n1 0
      have g1 : w1.drew.frozen? ⟨wr.heap.size, 1, none⟩ = false := frozen_block n1 1
      have c0' : w1.cell? ⟨wr.heap.size, 0, none⟩ = some (Value.slice ka1 kn1 kc1) := c0
      have c1' : w1.cell? ⟨wr.heap.size, 1, none⟩ = some (Value.slice va1 vn1 vc1) := c1
      have g0' : w1.frozen? ⟨wr.heap.size, 0, none⟩ = false := g0
      have g1' : w1.frozen? ⟨wr.heap.size, 1, none⟩ = false := g1
      have N1 := Lib.hid n1
      have q0 := Lib.hid p0
      clear n1 p0 p1 p2 p3
      go_region_with (first
        | (go_at_call_of 37 (Value.slice ka1 kn1 kc1); refine cutv_any _ K CK 128 HCK.out _ hk1 (by omega) _ ?_; intro ad1 cc1 hk2)
        | (go_at_call_of 37 (Value.slice va1 vn1 vc1); refine cutv_any _ V CV 300 HCV.out _ hv1 (by omega) _ ?_; intro ad2 cc2 hv2))
      all_goals
        have n2 := heap_setCell_same _ wr.heap.size 1 _ _ (Value.slice ad2 CV.length cc2) (heap_setCell_same w1 wr.heap.size 0 _ _ (Value.slice ad1 CK.length cc1) N1.out)
        have hy2 : Below wr.heap.size wr (((w1.setCell ⟨wr.heap.size, 0, none⟩ (Value.slice ad1 CK.length cc1)).setCell ⟨wr.heap.size, 1, none⟩ (Value.slice ad2 CV.length cc2))) := (hy1.setCell (Nat.le_refl _) _).setCell (Nat.le_refl _) _
        replace n2 : ((w1.setCell ⟨wr.heap.size, 0, none⟩ (Value.slice ad1 CK.length cc1)).setCell ⟨wr.heap.size, 1, none⟩ (Value.slice ad2 CV.length cc2)).heap[wr.heap.size]? = some (Obj.cells #[Value.slice ad1 CK.length cc1, Value.slice ad2 CV.length cc2, Value.int .i64 sq, Value.bool dd] 27) := n2
        replace hk2 := hk2 _ hek
        replace hv2 := hv2 _ hev
        clear c0 c1 g0 g1 c0' c1' g0' g1' hk1 hv1 hek hev
        generalize (w1.setCell ⟨wr.heap.size, 0, none⟩ (Value.slice ad1 CK.length cc1)).setCell ⟨wr.heap.size, 1, none⟩ (Value.slice ad2 CV.length cc2) = w2 at n2 hy2 ⊢
        have N2 := Lib.hid n2
        have d0 : w2.cell? ⟨wr.heap.size, 0, none⟩ = some (Value.slice ad1 CK.length cc1) := cell_of_row _ _ 0 _ _ _ n2
        have d1 : w2.cell? ⟨wr.heap.size, 1, none⟩ = some (Value.slice ad2 CV.length cc2) := cell_of_row _ _ 1 _ _ _ n2
        have d2 : w2.cell? ⟨wr.heap.size, 2, none⟩ = some (Value.int .i64 sq) := cell_of_row _ _ 2 _ _ _ n2
        have d3 : w2.cell? ⟨wr.heap.size, 3, none⟩ = some (Value.bool dd) := cell_of_row _ _ 3 _ _ _ n2
        have f1 : w2.frozen? ⟨wr.heap.size, 1, none⟩ = false := frozen_block n2 1
        have f2 : w2.frozen? ⟨wr.heap.size, 2, none⟩ = false := frozen_block n2 2
        have HY2 := Lib.hid hy2
        clear n2 hy1 hz1 N1 hy2
        cases dd with
        | true =>
          by_cases hneg : sq < 0
          · have hn1 : normE ⟨K, V, sq, true⟩ = ⟨CK, [], (-(sq + 1)), true⟩ := by
              rw [← HCK.out]
              simp [normE, hneg]
            have HN := Lib.hid hn1
            clear hn1
            have HW := Lib.hid (((HY2.out.setCell (show wr.heap.size ≤ (⟨wr.heap.size, 1, none⟩ : Addr).block from Nat.le_refl _) (Value.slice none 0 0)).setCell (show wr.heap.size ≤ (⟨wr.heap.size, 2, none⟩ : Addr).block from Nat.le_refl _) (Value.int .i64 (-(sq + 1))))).drew
            have hput : putE (rowK l k) ⟨CK, [], (-(sq + 1)), true⟩ = rowK l (k + 1) := by rw [HS.out, HN.out]
            have HPUT := Lib.hid hput
            clear hput
            go_wp2_with (go_at_call 36; go_must (refine rput_any w.heap.size w.heap.size L Hv (rowK l k) hs _ _ ⟨CK, [], (-(sq + 1)), true⟩ (rowK l (k + 1)) HPUT.out _ (row_later2 hT.out HW.out) (HL2.out.below HW.out) (rowK_eb HB.out k) (by have := rowK_len l k; omega) (owns_below HH.out HW.out) h1 ⟨hk2.below HW.out, (bs_nil wr).below HW.out, lck, (by simp), by show _ ≤ (-(sq + 1)); omega, by show (-(sq + 1)) ≤ _; omega⟩ (by have := HW.out.size; omega) _ ?_))
            intro w4 L4 H4 hs4 z hg4 hT4 hL4 hH4 ho4
            have HT4 := Lib.hid hT4
            have HL4 := Lib.hid hL4
            have HH4 := Lib.hid hH4
            have hb4 := below_grown (below_then hb HW.out (by omega)) hg4 (by have := HW.out.size; omega) (fun q hq => by cases hq; exact Nat.le_refl _)
            have hz4 : w.heap.size + 1 ≤ w4.heap.size := by have := HW.out.size; have := hg4.size; omega
            clear hT4 hL4 hH4 hg4 HW d0 d1 d2 d3 f1 f2 hk2 hv2
            go_wp2
            go_roundw
            case rel => exact ⟨k + 1, by omega, by omega, by go_num, hb4, hz4, L4, H4, hs4, HT4, HL4.out, HH4.out, ho4⟩
            case measure => simp [intOf]; omega
          · have hn1 : normE ⟨K, V, sq, true⟩ = ⟨CK, [], sq, true⟩ := by
              rw [← HCK.out]
              simp [normE, hneg]
            have HN := Lib.hid hn1
            clear hn1
            have HW := Lib.hid ((HY2.out.setCell (show wr.heap.size ≤ (⟨wr.heap.size, 1, none⟩ : Addr).block from Nat.le_refl _) (Value.slice none 0 0))).drew
            have hput : putE (rowK l k) ⟨CK, [], sq, true⟩ = rowK l (k + 1) := by rw [HS.out, HN.out]
            have HPUT := Lib.hid hput
            clear hput
            go_wp2_with (go_at_call 36; go_must (refine rput_any w.heap.size w.heap.size L Hv (rowK l k) hs _ _ ⟨CK, [], sq, true⟩ (rowK l (k + 1)) HPUT.out _ (row_later2 hT.out HW.out) (HL2.out.below HW.out) (rowK_eb HB.out k) (by have := rowK_len l k; omega) (owns_below HH.out HW.out) h1 ⟨hk2.below HW.out, (bs_nil wr).below HW.out, lck, (by simp), by show _ ≤ sq; omega, by show sq ≤ _; omega⟩ (by have := HW.out.size; omega) _ ?_))
            intro w4 L4 H4 hs4 z hg4 hT4 hL4 hH4 ho4
            have HT4 := Lib.hid hT4
            have HL4 := Lib.hid hL4
            have HH4 := Lib.hid hH4
            have hb4 := below_grown (below_then hb HW.out (by omega)) hg4 (by have := HW.out.size; omega) (fun q hq => by cases hq; exact Nat.le_refl _)
            have hz4 : w.heap.size + 1 ≤ w4.heap.size := by have := HW.out.size; have := hg4.size; omega
            clear hT4 hL4 hH4 hg4 HW d0 d1 d2 d3 f1 f2 hk2 hv2
            go_wp2
            go_roundw
            case rel => exact ⟨k + 1, by omega, by omega, by go_num, hb4, hz4, L4, H4, hs4, HT4, HL4.out, HH4.out, ho4⟩
            case measure => simp [intOf]; omega
        | false =>
          by_cases hneg : sq < 0
          · have hn1 : normE ⟨K, V, sq, false⟩ = ⟨CK, CV, (-(sq + 1)), false⟩ := by
              rw [← HCK.out, ← HCV.out]
              simp [normE, hneg]
            have HN := Lib.hid hn1
            clear hn1
            have HW := Lib.hid ((HY2.out.setCell (show wr.heap.size ≤ (⟨wr.heap.size, 2, none⟩ : Addr).block from Nat.le_refl _) (Value.int .i64 (-(sq + 1))))).drew
            have hput : putE (rowK l k) ⟨CK, CV, (-(sq + 1)), false⟩ = rowK l (k + 1) := by rw [HS.out, HN.out]
            have HPUT := Lib.hid hput
            clear hput
            go_wp2_with (go_at_call 36; go_must (refine rput_any w.heap.size w.heap.size L Hv (rowK l k) hs _ _ ⟨CK, CV, (-(sq + 1)), false⟩ (rowK l (k + 1)) HPUT.out _ (row_later2 hT.out HW.out) (HL2.out.below HW.out) (rowK_eb HB.out k) (by have := rowK_len l k; omega) (owns_below HH.out HW.out) h1 ⟨hk2.below HW.out, hv2.below HW.out, lck, (lcv), by show _ ≤ (-(sq + 1)); omega, by show (-(sq + 1)) ≤ _; omega⟩ (by have := HW.out.size; omega) _ ?_))
            intro w4 L4 H4 hs4 z hg4 hT4 hL4 hH4 ho4
            have HT4 := Lib.hid hT4
            have HL4 := Lib.hid hL4
            have HH4 := Lib.hid hH4
            have hb4 := below_grown (below_then hb HW.out (by omega)) hg4 (by have := HW.out.size; omega) (fun q hq => by cases hq; exact Nat.le_refl _)
            have hz4 : w.heap.size + 1 ≤ w4.heap.size := by have := HW.out.size; have := hg4.size; omega
            clear hT4 hL4 hH4 hg4 HW d0 d1 d2 d3 f1 f2 hk2 hv2
            go_wp2
            go_roundw
            case rel => exact ⟨k + 1, by omega, by omega, by go_num, hb4, hz4, L4, H4, hs4, HT4, HL4.out, HH4.out, ho4⟩
            case measure => simp [intOf]; omega
          · have hn1 : normE ⟨K, V, sq, false⟩ = ⟨CK, CV, sq, false⟩ := by
              rw [← HCK.out, ← HCV.out]
              simp [normE, hneg]
            have HN := Lib.hid hn1
            clear hn1
            have HW := Lib.hid (HY2.out).drew
            have hput : putE (rowK l k) ⟨CK, CV, sq, false⟩ = rowK l (k + 1) := by rw [HS.out, HN.out]
            have HPUT := Lib.hid hput
            clear hput
            go_wp2_with (go_at_call 36; go_must (refine rput_any w.heap.size w.heap.size L Hv (rowK l k) hs _ _ ⟨CK, CV, sq, false⟩ (rowK l (k + 1)) HPUT.out _ (row_later2 hT.out HW.out) (HL2.out.below HW.out) (rowK_eb HB.out k) (by have := rowK_len l k; omega) (owns_below HH.out HW.out) h1 ⟨hk2.below HW.out, hv2.below HW.out, lck, (lcv), by show _ ≤ sq; omega, by show sq ≤ _; omega⟩ (by have := HW.out.size; omega) _ ?_))
            intro w4 L4 H4 hs4 z hg4 hT4 hL4 hH4 ho4
            have HT4 := Lib.hid hT4
            have HL4 := Lib.hid hL4
            have HH4 := Lib.hid hH4
            have hb4 := below_grown (below_then hb HW.out (by omega)) hg4 (by have := HW.out.size; omega) (fun q hq => by cases hq; exact Nat.le_refl _)
            have hz4 : w.heap.size + 1 ≤ w4.heap.size := by have := HW.out.size; have := hg4.size; omega
            clear hT4 hL4 hH4 hg4 HW d0 d1 d2 d3 f1 f2 hk2 hv2
            go_wp2
            go_roundw
            case rel => exact ⟨k + 1, by omega, by omega, by go_num, hb4, hz4, L4, H4, hs4, HT4, HL4.out, HH4.out, ho4⟩
            case measure => simp [intOf]; omega
    · obtain ⟨Lv, Lc, rfl⟩ := EsO.shape hL
      have t0 : wr.cell? ⟨w.heap.size, 0, none⟩ = some (Value.slice Lv (rowK l k).length Lc) := cell_of_row _ _ 0 _ _ _ hT.out
      have hll : rowK l k = l' := by
        rw [← HL.out]
        unfold rowK rowL
        by_cases h : k = 60
        · rw [h]
        · have : k = l.length := by omega
          rw [List.take_of_length_le (by omega), List.take_of_length_le (by omega)]
      have HLL := Lib.hid hll
      have HL2 := Lib.hid hL
      clear hT hH hL hll
      by_cases hlt2 : k < l.length
      · have hkk : (k : Int) < (l.length : Int) := by omega
        have hkk2 : ¬ (k : Int) < 60 := by omega
        go_wp2
        exact HR.out _ _ (by rw [← HLL.out]; exact HL2.out) hb
      · have hkk : ¬ (k : Int) < (l.length : Int) := by omega
        go_wp2
        exact HR.out _ _ (by rw [← HLL.out]; exact HL2.out) hb
end Go.Proofs.Ytgkgahjdjkmmnaa
