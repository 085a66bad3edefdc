
import Derived.Test.YtgkgahjdjkmmnaaAlike
import Derived.IntWalk
namespace Go.Proofs.Ytgkgahjdjkmmnaa
open Go.RowKit

def sortedL : List Ent → Bool
  | a :: b :: r => lessE a b && sortedL (b :: r)
  | _ => true
theorem sortedL_step (l : List Ent) (j : Nat) (h : j + 1 < l.length) : sortedL (l.drop j) = (lessE l[j] l[j + 1] && sortedL (l.drop (j + 1))) := by
  rw [List.drop_eq_getElem_cons (by omega : j < l.length), List.drop_eq_getElem_cons h, sortedL]
theorem sortedL_end (l : List Ent) (j : Nat) (h : l.length ≤ j + 1) : sortedL (l.drop j) = true := by
  have hl : (l.drop j).length ≤ 1 := by rw [List.length_drop]; omega
  match h2 : l.drop j with
  | [] => rfl
  | [a] => rfl
  | a :: b :: r => rw [h2] at hl; simp at hl
theorem EC.shape {w : World} {k v : Value} {e : Ent} (h : EC w k v e) : ∃ a n c, v = .slice a n c := by
  obtain ⟨ad, c, rfl, _⟩ := h.hv
  exact ⟨_, _, _, rfl⟩

set_option maxRecDepth 100000 in
set_option maxHeartbeats 1600000 in
theorem msorted_any (u : Value) (l : List Ent) (t : Bool) (ht : sortedL l = t) (w : World) (hl : Es w u l) (R : Ending → World → Prop)
    (hR : ∀ w', Below w.heap.size w w' → R (.returned (.bool t)) w') :
    Calls Try.prog 31 #[u] w R := by
  have HL := Lib.hid hl
  obtain ⟨la, lc, rfl, l1, l2, l3, l4⟩ := hl
  clear l4
  have hst : Hid (sortedL (l.drop 0) = t) := by rw [List.drop_zero, ht]; exact Lib.hid rfl
  clear ht
  go_enter Try.func31, Try.ntmps31
  go_wp2
  go_loopw [3] (fun i wr => ∃ k : Nat, k ≤ l.length ∧ i = .int .i64 ((k : Int) + 1) ∧ Below w.heap.size w wr ∧ Hid (sortedL (l.drop k) = t)) (fun i _ => l.length + 1 - (intOf i).toNat)
  case atStart => exact ⟨0, Nat.zero_le _, rfl, Below.refl _ _, hst⟩
  case round =>
    obtain ⟨k, hk, rfl, hb, hlk⟩ := hrel
    clear hst
    have hz := hb.size
    by_cases hlt : k + 1 < l.length
    · have hkk : (k : Int) + 1 < (l.length : Int) := by omega
      have hk0 : (k : Int) < (l.length : Int) := by omega
      obtain ⟨ad', c', e, _, _, _, h4⟩ := HL.out.below hb
      simp only [Value.slice.injEq] at e
      obtain ⟨rfl, -, rfl⟩ := e
      obtain ⟨b, o, rfl, h5⟩ := h4 (by omega)
      obtain ⟨ka, va, ⟨p0, p1, p2, p3⟩, hea⟩ := h5 k (by omega)
      obtain ⟨kb, vb, ⟨q0, q1, q2, q3⟩, heb⟩ := h5 (k + 1) hlt
      have hst := sortedL_step l k hlt
      rw [hlk.out] at hst
      obtain ⟨x, hx⟩ : ∃ x, l[k] = x := ⟨_, rfl⟩
      obtain ⟨y, hy⟩ : ∃ y, l[k + 1] = y := ⟨_, rfl⟩
      rw [hx] at p2 p3 hea
      rw [hy] at q2 q3 heb
      obtain ⟨r, hr⟩ : ∃ r, lessE x y = r := ⟨_, rfl⟩
      rw [hx, hy, hr] at hst
      have HR : Hid (lessL x.key x.seq y.key y.seq = r) := hr
      have HST := Lib.hid hst
      clear h4 h5 hst hx hy hr hlk
      go_wp2
      replace hb : Below w.heap.size w wr.drew := hb.drew
      replace hz : w.heap.size ≤ wr.drew.heap.size := hz
      replace hea : EC wr.drew ka va x := hea.below (Below.refl _ _).drew
      replace heb : EC wr.drew kb vb y := heb.below (Below.refl _ _).drew
      have c0 : (wr.drew.cell? ⟨b, o + k * 4, none⟩ = some ka ∧ wr.drew.cell? ⟨b, o + k * 4 + 1, none⟩ = some va ∧ wr.drew.cell? ⟨b, o + k * 4 + 2, none⟩ = some (Value.int .i64 x.seq) ∧ wr.drew.cell? ⟨b, o + k * 4 + 3, none⟩ = some (Value.bool x.dead)) := ⟨p0, p1, p2, p3⟩
      have c1 : (wr.drew.cell? ⟨b, o + (k + 1) * 4, none⟩ = some kb ∧ wr.drew.cell? ⟨b, o + (k + 1) * 4 + 1, none⟩ = some vb ∧ wr.drew.cell? ⟨b, o + (k + 1) * 4 + 2, none⟩ = some (Value.int .i64 y.seq) ∧ wr.drew.cell? ⟨b, o + (k + 1) * 4 + 3, none⟩ = some (Value.bool y.dead)) := ⟨q0, q1, q2, q3⟩
      have n1 : IntKind.i64.wrap ((k : Int) + 1 - 1) = (k : Int) := by rw [show (k : Int) + 1 - 1 = k by omega]; exact IntWalk.i64_in _ (by omega)
      have n5 : IntKind.i64.wrap (k : Int) = (k : Int) := IntWalk.i64_in _ (by omega)
      have n2 : (0 : Int) ≤ (k : Int) := by omega
      have n3 : ((k : Int) + 1).toNat = k + 1 := by omega
      have n4 : (0 : Int) ≤ (k : Int) + 1 := by omega
      clear p0 p1 p2 p3 q0 q1 q2 q3
      go_region_held (fun w' => (w'.cell? ⟨b, o + k * 4, none⟩ = some ka ∧ w'.cell? ⟨b, o + k * 4 + 1, none⟩ = some va ∧ w'.cell? ⟨b, o + k * 4 + 2, none⟩ = some (Value.int .i64 x.seq) ∧ w'.cell? ⟨b, o + k * 4 + 3, none⟩ = some (Value.bool x.dead)) ∧ (w'.cell? ⟨b, o + (k + 1) * 4, none⟩ = some kb ∧ w'.cell? ⟨b, o + (k + 1) * 4 + 1, none⟩ = some vb ∧ w'.cell? ⟨b, o + (k + 1) * 4 + 2, none⟩ = some (Value.int .i64 y.seq) ∧ w'.cell? ⟨b, o + (k + 1) * 4 + 3, none⟩ = some (Value.bool y.dead)))
        (first | exact ⟨c0, c1⟩ | exact ⟨d0, d1⟩ | go_keep)
        (first | (go_at_call 33; refine mless_any _ _ _ _ x.key y.key x.seq y.seq _ _ r HR.out (EC.shape hea) (EC.shape heb) _ hea.hk heb.hk _ ?_; intro w2 hb2; have d0 := e4_later hb2 c0; have d1 := e4_later hb2 c1; have hb3 := below_then hb hb2 hz; clear hb hb2 hea heb c0 c1))
      clear n1 n2 n3 n4 n5
      cases r with
      | true =>
        have hn : Hid (sortedL (l.drop (k + 1)) = t) := by have := HST.out; simpa [Hid] using this.symm
        clear HST
        go_wp2
        go_roundw
        case rel => exact ⟨k + 1, by omega, by go_num, hb3, hn⟩
        case measure => simp [intOf]; omega
      | false =>
        obtain rfl : t = false := by have := HST.out; simpa using this
        clear HST
        go_wp2
        all_goals first | exact hb3 | exact hR _ hb3
    · have hkk : ¬ ((k : Int) + 1 < (l.length : Int)) := by omega
      have htt : t = true := by rw [← hlk.out]; exact sortedL_end l k (by omega)
      subst htt
      clear hlk
      go_wp2
      all_goals first | exact hb | exact hR _ hb

set_option maxRecDepth 100000 in
set_option maxHeartbeats 1600000 in
theorem rsorted_any (u : Value) (l : List Ent) (t : Bool) (ht : sortedL l = t) (w : World) (hl : Es w u l) (R : Ending → World → Prop)
    (hR : ∀ w', Below w.heap.size w w' → R (.returned (.bool t)) w') :
    Calls Try.prog 35 #[u] w R := by
  have HL := Lib.hid hl
  obtain ⟨la, lc, rfl, l1, l2, l3, l4⟩ := hl
  clear l4
  have hst : Hid (sortedL (l.drop 0) = t) := by rw [List.drop_zero, ht]; exact Lib.hid rfl
  clear ht
  go_enter Try.func35, Try.ntmps35
  go_wp2
  go_loopw [3] (fun i wr => ∃ k : Nat, k ≤ l.length ∧ i = .int .i64 ((k : Int) + 1) ∧ Below w.heap.size w wr ∧ Hid (sortedL (l.drop k) = t)) (fun i _ => l.length + 1 - (intOf i).toNat)
  case atStart => exact ⟨0, Nat.zero_le _, rfl, Below.refl _ _, hst⟩
  case round =>
    obtain ⟨k, hk, rfl, hb, hlk⟩ := hrel
    clear hst
    have hz := hb.size
    by_cases hlt : k + 1 < l.length
    · have hkk : (k : Int) + 1 < (l.length : Int) := by omega
      have hk0 : (k : Int) < (l.length : Int) := by omega
      obtain ⟨ad', c', e, _, _, _, h4⟩ := HL.out.below hb
      simp only [Value.slice.injEq] at e
      obtain ⟨rfl, -, rfl⟩ := e
      obtain ⟨b, o, rfl, h5⟩ := h4 (by omega)
      obtain ⟨ka, va, ⟨p0, p1, p2, p3⟩, hea⟩ := h5 k (by omega)
      obtain ⟨kb, vb, ⟨q0, q1, q2, q3⟩, heb⟩ := h5 (k + 1) hlt
      have hst := sortedL_step l k hlt
      rw [hlk.out] at hst
      obtain ⟨x, hx⟩ : ∃ x, l[k] = x := ⟨_, rfl⟩
      obtain ⟨y, hy⟩ : ∃ y, l[k + 1] = y := ⟨_, rfl⟩
      rw [hx] at p2 p3 hea
      rw [hy] at q2 q3 heb
      obtain ⟨r, hr⟩ : ∃ r, lessE x y = r := ⟨_, rfl⟩
      rw [hx, hy, hr] at hst
      have HR : Hid (lessL x.key x.seq y.key y.seq = r) := hr
      have HST := Lib.hid hst
      clear h4 h5 hst hx hy hr hlk
      go_wp2
      replace hb : Below w.heap.size w wr.drew := hb.drew
      replace hz : w.heap.size ≤ wr.drew.heap.size := hz
      replace hea : EC wr.drew ka va x := hea.below (Below.refl _ _).drew
      replace heb : EC wr.drew kb vb y := heb.below (Below.refl _ _).drew
      have c0 : (wr.drew.cell? ⟨b, o + k * 4, none⟩ = some ka ∧ wr.drew.cell? ⟨b, o + k * 4 + 1, none⟩ = some va ∧ wr.drew.cell? ⟨b, o + k * 4 + 2, none⟩ = some (Value.int .i64 x.seq) ∧ wr.drew.cell? ⟨b, o + k * 4 + 3, none⟩ = some (Value.bool x.dead)) := ⟨p0, p1, p2, p3⟩
      have c1 : (wr.drew.cell? ⟨b, o + (k + 1) * 4, none⟩ = some kb ∧ wr.drew.cell? ⟨b, o + (k + 1) * 4 + 1, none⟩ = some vb ∧ wr.drew.cell? ⟨b, o + (k + 1) * 4 + 2, none⟩ = some (Value.int .i64 y.seq) ∧ wr.drew.cell? ⟨b, o + (k + 1) * 4 + 3, none⟩ = some (Value.bool y.dead)) := ⟨q0, q1, q2, q3⟩
      have n1 : IntKind.i64.wrap ((k : Int) + 1 - 1) = (k : Int) := by rw [show (k : Int) + 1 - 1 = k by omega]; exact IntWalk.i64_in _ (by omega)
      have n5 : IntKind.i64.wrap (k : Int) = (k : Int) := IntWalk.i64_in _ (by omega)
      have n2 : (0 : Int) ≤ (k : Int) := by omega
      have n3 : ((k : Int) + 1).toNat = k + 1 := by omega
      have n4 : (0 : Int) ≤ (k : Int) + 1 := by omega
      clear p0 p1 p2 p3 q0 q1 q2 q3
      go_region_held (fun w' => (w'.cell? ⟨b, o + k * 4, none⟩ = some ka ∧ w'.cell? ⟨b, o + k * 4 + 1, none⟩ = some va ∧ w'.cell? ⟨b, o + k * 4 + 2, none⟩ = some (Value.int .i64 x.seq) ∧ w'.cell? ⟨b, o + k * 4 + 3, none⟩ = some (Value.bool x.dead)) ∧ (w'.cell? ⟨b, o + (k + 1) * 4, none⟩ = some kb ∧ w'.cell? ⟨b, o + (k + 1) * 4 + 1, none⟩ = some vb ∧ w'.cell? ⟨b, o + (k + 1) * 4 + 2, none⟩ = some (Value.int .i64 y.seq) ∧ w'.cell? ⟨b, o + (k + 1) * 4 + 3, none⟩ = some (Value.bool y.dead)))
        (first | exact ⟨c0, c1⟩ | exact ⟨d0, d1⟩ | go_keep)
        (first | (go_at_call 55; refine rless_any _ _ _ _ x.key y.key x.seq y.seq _ _ r HR.out _ hea.hk heb.hk _ ?_; intro w2 hb2; have d0 := e4_later hb2 c0; have d1 := e4_later hb2 c1; have hb3 := below_then hb hb2 hz; clear hb hb2 hea heb c0 c1))
      clear n1 n2 n3 n4 n5
      cases r with
      | true =>
        have hn : Hid (sortedL (l.drop (k + 1)) = t) := by have := HST.out; simpa [Hid] using this.symm
        clear HST
        go_wp2
        go_roundw
        case rel => exact ⟨k + 1, by omega, by go_num, hb3, hn⟩
        case measure => simp [intOf]; omega
      | false =>
        obtain rfl : t = false := by have := HST.out; simpa using this
        clear HST
        go_wp2
        all_goals first | exact hb3 | exact hR _ hb3
    · have hkk : ¬ ((k : Int) + 1 < (l.length : Int)) := by omega
      have htt : t = true := by rw [← hlk.out]; exact sortedL_end l k (by omega)
      subst htt
      clear hlk
      go_wp2
      all_goals first | exact hb | exact hR _ hb
end Go.Proofs.Ytgkgahjdjkmmnaa
