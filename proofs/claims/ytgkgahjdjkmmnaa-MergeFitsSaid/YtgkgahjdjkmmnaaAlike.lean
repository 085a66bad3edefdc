
import Derived.Test.YtgkgahjdjkmmnaaEnt
namespace Go.Proofs.Ytgkgahjdjkmmnaa
open Go.RowKit

def alikeL : List Ent → List Ent → Bool
  | [], [] => true
  | a :: l, b :: m => sameE a b && alikeL l m
  | _, _ => false
theorem alikeL_step (l m : List Ent) (k : Nat) (h : k < l.length) (h2 : k < m.length) : alikeL (l.drop k) (m.drop k) = (sameE l[k] m[k] && alikeL (l.drop (k + 1)) (m.drop (k + 1))) := by
  rw [List.drop_eq_getElem_cons h, List.drop_eq_getElem_cons h2, alikeL]
theorem alikeL_len : ∀ (l m : List Ent), l.length ≠ m.length → alikeL l m = false
  | [], [], h => absurd rfl h
  | [], _ :: _, _ => rfl
  | _ :: _, [], _ => rfl
  | a :: l, b :: m, h => by
    rw [alikeL, alikeL_len l m (by simpa using h), Bool.and_false]

theorem e4_later {w w' : World} {b o : Nat} {k v : Value} {s : Int} {d : Bool} (hb : Below w.heap.size w w') (h : (w.cell? ⟨b, o, none⟩ = some k ∧ w.cell? ⟨b, o + 1, none⟩ = some v ∧ w.cell? ⟨b, o + 2, none⟩ = some (Value.int .i64 s) ∧ w.cell? ⟨b, o + 3, none⟩ = some (Value.bool d))) : (w'.cell? ⟨b, o, none⟩ = some k ∧ w'.cell? ⟨b, o + 1, none⟩ = some v ∧ w'.cell? ⟨b, o + 2, none⟩ = some (Value.int .i64 s) ∧ w'.cell? ⟨b, o + 3, none⟩ = some (Value.bool d)) := ⟨cell_later hb h.1, cell_later hb h.2.1, cell_later hb h.2.2.1, cell_later hb h.2.2.2⟩

set_option maxRecDepth 100000 in
set_option maxHeartbeats 1600000 in
theorem alike_any (u v : Value) (l m : List Ent) (t : Bool) (ht : alikeL l m = t) (w : World) (hl : Es w u l) (hm : Es w v m) (R : Ending → World → Prop)
    (hR : ∀ w', Below w.heap.size w w' → R (.returned (.bool t)) w') :
    Calls Try.prog 14 #[u, v] w R := by
  have HL := Lib.hid hl
  have HM := Lib.hid hm
  obtain ⟨la, lc, rfl, l1, l2, l3, l4⟩ := hl
  obtain ⟨ma, mc, rfl, m1, m2, m3, m4⟩ := hm
  clear l4 m4
  by_cases hlen : l.length = m.length
  · have hst : Hid (alikeL (l.drop 0) (m.drop 0) = t) := by rw [List.drop_zero, List.drop_zero, ht]; exact Lib.hid rfl
    have h0 : ((l.length : Int) != (m.length : Int)) = false := by rw [hlen]; simp
    have hlm := Lib.hid hlen
    clear ht hlen
    go_enter Try.func14, Try.ntmps14
    go_wp2
    go_loopw [5] (fun i wr => ∃ k : Nat, k ≤ l.length ∧ i = .int .i64 k ∧ Below w.heap.size w wr ∧ Hid (alikeL (l.drop k) (m.drop k) = t)) (fun i _ => l.length - (intOf i).toNat)
    case atStart => exact ⟨0, Nat.zero_le _, rfl, Below.refl _ _, hst⟩
    case round =>
      obtain ⟨k, hk, rfl, hb, hlk⟩ := hrel
      clear hst h0
      have hz := hb.size
      by_cases hlt : k < l.length
      · have hlt2 : k < m.length := by have := hlm.out; omega
        have hkk : (k : Int) < (l.length : Int) := by omega
        have hkm : (k : Int) < (m.length : Int) := by omega
        obtain ⟨ad', c', e, _, _, _, h4⟩ := HL.out.below hb
        simp only [Value.slice.injEq] at e
        obtain ⟨rfl, -, rfl⟩ := e
        obtain ⟨b, o, rfl, h5⟩ := h4 (by omega)
        obtain ⟨ka, va, ⟨p0, p1, p2, p3⟩, hea⟩ := h5 k hlt
        obtain ⟨ad', c', e, _, _, _, g4⟩ := HM.out.below hb
        simp only [Value.slice.injEq] at e
        obtain ⟨rfl, -, rfl⟩ := e
        obtain ⟨b2, o2, rfl, g5⟩ := g4 (by omega)
        obtain ⟨kb, vb, ⟨q0, q1, q2, q3⟩, heb⟩ := g5 k hlt2
        have hst := alikeL_step l m k hlt hlt2
        rw [hlk.out] at hst
        obtain ⟨x, hx⟩ : ∃ x, l[k] = x := ⟨_, rfl⟩
        obtain ⟨y, hy⟩ : ∃ y, m[k] = y := ⟨_, rfl⟩
        rw [hx] at p2 p3 hea
        rw [hy] at q2 q3 heb
        obtain ⟨r, hr⟩ : ∃ r, sameE x y = r := ⟨_, rfl⟩
        rw [hx, hy, hr] at hst
        have HR := Lib.hid hr
        have HST := Lib.hid hst
        clear h4 h5 g4 g5 hst hx hy hr hlk
        go_wp2
        replace hb : Below w.heap.size w wr.drew := hb.drew
        replace hz : w.heap.size ≤ wr.drew.heap.size := hz
        replace hea : EC wr.drew ka va x := hea.below (Below.refl _ _).drew
        replace heb : EC wr.drew kb vb y := heb.below (Below.refl _ _).drew
        have c0 : (wr.drew.cell? ⟨b, o + k * 4, none⟩ = some ka ∧ wr.drew.cell? ⟨b, o + k * 4 + 1, none⟩ = some va ∧ wr.drew.cell? ⟨b, o + k * 4 + 2, none⟩ = some (Value.int .i64 x.seq) ∧ wr.drew.cell? ⟨b, o + k * 4 + 3, none⟩ = some (Value.bool x.dead)) := ⟨p0, p1, p2, p3⟩
        have c1 : (wr.drew.cell? ⟨b2, o2 + k * 4, none⟩ = some kb ∧ wr.drew.cell? ⟨b2, o2 + k * 4 + 1, none⟩ = some vb ∧ wr.drew.cell? ⟨b2, o2 + k * 4 + 2, none⟩ = some (Value.int .i64 y.seq) ∧ wr.drew.cell? ⟨b2, o2 + k * 4 + 3, none⟩ = some (Value.bool y.dead)) := ⟨q0, q1, q2, q3⟩
        clear p0 p1 p2 p3 q0 q1 q2 q3
        go_region_held (fun w' => (w'.cell? ⟨b, o + k * 4, none⟩ = some ka ∧ w'.cell? ⟨b, o + k * 4 + 1, none⟩ = some va ∧ w'.cell? ⟨b, o + k * 4 + 2, none⟩ = some (Value.int .i64 x.seq) ∧ w'.cell? ⟨b, o + k * 4 + 3, none⟩ = some (Value.bool x.dead)) ∧ (w'.cell? ⟨b2, o2 + k * 4, none⟩ = some kb ∧ w'.cell? ⟨b2, o2 + k * 4 + 1, none⟩ = some vb ∧ w'.cell? ⟨b2, o2 + k * 4 + 2, none⟩ = some (Value.int .i64 y.seq) ∧ w'.cell? ⟨b2, o2 + k * 4 + 3, none⟩ = some (Value.bool y.dead)))
          (first | exact ⟨c0, c1⟩ | exact ⟨d0, d1⟩ | go_keep)
          (first | (go_at_call 21; refine esame_any _ _ _ _ x y r HR.out _ hea heb _ ?_; intro w2 hb2; have d0 := e4_later hb2 c0; have d1 := e4_later hb2 c1; have hb3 := below_then hb hb2 hz; clear hb hb2 hea heb c0 c1))
        cases r with
        | true =>
          have hn : Hid (alikeL (l.drop (k + 1)) (m.drop (k + 1)) = t) := by have := HST.out; simpa [Hid] using this.symm
          clear HST
          go_wp2
          go_roundw
          case rel => exact ⟨k + 1, by omega, by go_num, hb3, hn⟩
          case measure => simp [intOf]; omega
        | false =>
          obtain rfl : t = false := by have := HST.out; simpa using this
          clear HST
          go_wp2
          all_goals first | exact hb3 | exact hR _ hb3
      · have hkk : ¬ ((k : Int) < (l.length : Int)) := by omega
        have htt : t = true := by
          rw [← hlk.out, List.drop_of_length_le (by omega), List.drop_of_length_le (by have := hlm.out; omega)]
          rfl
        subst htt
        clear hlk
        go_wp2
        all_goals first | exact hb | exact hR _ hb
  · have hf : t = false := by rw [← ht]; exact alikeL_len l m hlen
    subst hf
    have h0 : ((l.length : Int) != (m.length : Int)) = true := by simp; omega
    clear ht
    go_enter Try.func14, Try.ntmps14
    go_wp2
    all_goals first | exact Below.refl _ _ | exact hR _ (Below.refl _ _)
end Go.Proofs.Ytgkgahjdjkmmnaa
