/- (*Session).Flights, walked. -/
import Derived.Test.YtgimbocoamnkjaaFlts
namespace Go.Proofs.Ytgimbocoamnkjaa
open Go.RowKit

set_option maxRecDepth 100000 in
set_option maxHeartbeats 2000000 in
theorem flights_any (S : Nat) (s : Sess) (hl : s.flights.length ≤ 100000) (w : World) (M : Nat → Prop) (h : SR w M S s) (R : Ending → World → Prop)
    (hR : ∀ ad c (qs : List (V3 × Fl)) w', qs.map (·.2) = s.flights → w'.ownsRow w.heap.size 54 16 (.slice ad s.flights.length c) s.flights.length (qs.flatMap flP) → (∀ (j : Nat) (h : j < qs.length), ImO w' w.heap.size (qs[j]).1.1 (qs[j]).1.2.1 (qs[j]).1.2.2 (qs[j]).2.item) → (∀ p ∈ qs, ImB p.2.item) → Below w.heap.size w w' → R (.returned (.slice ad s.flights.length c)) w') :
    Calls Try.prog 7 #[.pointer (some ⟨S, 0, none⟩)] w R := by
  obtain ⟨NB, MB, GB, GM, sv, qv, fv, hx⟩ := h
  have HR := Lib.hid hR
  obtain ⟨ps, hps, hrow, hcon, _⟩ := id hx.hf
  have hlen : s.flights.length = ps.length := by rw [← hps]; simp
  rw [hlen] at hrow hl
  obtain ⟨fa, fc, hfv⟩ := owns_shape hrow
  subst hfv
  have c7 := (ss9 hx.hS).2.2.2.1
  have HROW := Lib.hid hrow
  have HCON := Lib.hid hcon
  have HPS := Lib.hid hps
  have HLEN := Lib.hid hlen
  obtain ⟨n, hn⟩ : ∃ n, ps.length = n := ⟨_, rfl⟩
  have HN := Lib.hid hn
  rw [hn] at c7 hl
  clear hR hx hps hrow hcon hlen hn
  go_enter Try.func7, Try.ntmps7
  go_wp2_with (go_at_call 19; go_must (refine clonefl_any fa n fc (ps.flatMap flP) w (by have := rd_of_owns HROW.out; rw [HN.out] at this; exact this) (ps_one HCON.out) (by have := (owns_cap HROW.out).1; rw [HN.out] at this; exact this) (owns_nil HROW.out) (Nat.le_trans hl (by decide)) _ ?_); intro ad3 c3 w3 ho3 hb3; have HO3 := Lib.hid ho3; have HB3 := Lib.hid hb3; clear ho3 hb3)
  have HF0 : Hid (FCp w w3 w.heap.size 0 (.slice ad3 n c3) ps ps) := ⟨rfl, rfl, by rw [HN.out]; exact HO3.out, fun j hj h0 => by omega, fun j hj _ => (HCON.out _ (List.getElem_mem hj)).1.out, fun p hp => (HCON.out p hp).2⟩
  clear c7
  go_loopg [4, 12] n (fun gn _ i wr => ∃ (k : Nat) (qs : List (V3 × Fl)), k ≤ n ∧ gn = n - k ∧ i = .int .i64 k ∧ Hid (FCp w wr w.heap.size k (.slice ad3 n c3) ps qs) ∧ Hid (Below w.heap.size w wr))
  case atStart => exact ⟨0, ps, Nat.zero_le _, by omega, rfl, HF0, HB3⟩
  case round =>
    obtain ⟨k, qs, hk, rfl, rfl, HF, HB⟩ := hrel
    obtain ⟨wo, rfl⟩ : ∃ x, x = wr := ⟨_, rfl⟩
    clear HF0 HO3 HB3
    by_cases hlt : k < n
    · have hkk : (k : Int) < (n : Int) := by omega
      have hrow := HF.out.row
      rw [HN.out] at hrow
      obtain ⟨g, hg⟩ := owns_head hrow (by omega)
      subst hg
      have hqn : qs.length = n := HF.out.len.trans HN.out
      have hkq : k < qs.length := by omega
      rw [← hqn] at hrow
      have hcell := fl_cells hrow hkq
      have hold := HF.out.old k hkq (Nat.le_refl _)
      have hbx := HF.out.reach _ (List.getElem_mem hkq)
      obtain ⟨⟨⟨v1, v2, v3⟩, ⟨fid, fst, x⟩⟩, hp⟩ : ∃ p, qs[k] = p := ⟨_, rfl⟩
      rw [hp] at hcell hold hbx
      have HC : Hid (∀ j, j < 14 → wo.cell? ⟨g, k * 16 + 2 + j, none⟩ = [.string (str x.note.topic), v1, .int .i64 x.note.qos, .bool x.note.retain, .string (str x.note.src), .int .i64 x.note.expires, v2, .int .i64 x.note.origin, .int .i64 x.note.number, .int .i64 x.note.hops, .int .i64 x.qos, .bool x.keep, v3, .string (str x.share)][j]?) := fun j hj => by
        have := hcell (j + 2) (by omega)
        rw [show k * 16 + (j + 2) = k * 16 + 2 + j by omega] at this
        exact this
      have HOLD := Lib.hid (show ImC wo v1 v2 v3 x from ImC.below hold HB.out)
      have HBX := Lib.hid (show ImB x from hbx)
      have HP : Hid ((qs[k]).2 = ⟨fid, fst, x⟩) := by show _ = _; rw [hp]
      have HQN := Lib.hid hqn
      clear hrow hcell hold hbx hp hqn
      go_wp2_with (first
        | (refine wpList_load_at (o := ⟨some 21, .load 44 (.tmp 20), _, _, _, _⟩) (by rfl) 44 (.tmp 20) (by rfl) (g) (k * 16 + 2) (by rfl) ([.string (str x.note.topic), v1, .int .i64 x.note.qos, .bool x.note.retain, .string (str x.note.src), .int .i64 x.note.expires, v2, .int .i64 x.note.origin, .int .i64 x.note.number, .int .i64 x.note.hops, .int .i64 x.qos, .bool x.keep, v3, .string (str x.share)]) _ (HC.out) (Try.underlying44) (by rfl) (by kernel_rfl) ?_)
        | (go_at_call 20; go_must (refine icopy_any x v1 v2 v3 wo HOLD.out HBX.out _ ?_; intro pa7 pc7 qa7 qc7 ea7 ec7 w7 ho7 hb7; have HF7 := Lib.hid (HF.out.below hb7); have HO7 := Lib.hid (ho7.mono HB.out.size); have HB7 := Lib.hid (below_then HB.out hb7 HB.out.size); clear ho7 hb7))
        | (refine wpList_store_at (o := ⟨none, .store 44 (.tmp 24) (.tmp 22), _, _, _, _⟩) (by rfl) 44 (.tmp 24) (.tmp 22) (by rfl) g (k * 16 + 2) #[.string (str x.note.topic), .slice pa7 x.note.payload.length pc7, .int .i64 x.note.qos, .bool x.note.retain, .string (str x.note.src), .int .i64 x.note.expires, .slice qa7 x.note.props.length qc7, .int .i64 x.note.origin, .int .i64 x.note.number, .int .i64 x.note.hops, .int .i64 x.qos, .bool x.keep, .slice ea7 x.ids.length ec7, .string (str x.share)] (by rfl) (by rfl) ?_ ?_ (by kernel_rfl) (by simp [Value.oneCell']) ?_))
      · intro j hj
        have hj : j < 14 := hj
        have h7 := HF7.out.row
        rw [HN.out] at h7
        have hfl := flatN_length 16 flP flP_length qs
        have := HQN.out
        rw [Nat.add_assoc, h7.cellAt (k * 16 + (2 + j)) (by omega), List.getElem?_eq_getElem (by rw [hfl]; omega)]
        rfl
      · intro j hj
        have h7 := HF7.out.row
        rw [HN.out] at h7
        exact h7.frozenAt _
      have HF8 : Hid (FCp w (w7.setCells g (k * 16 + 2) [.string (str x.note.topic), .slice pa7 x.note.payload.length pc7, .int .i64 x.note.qos, .bool x.note.retain, .string (str x.note.src), .int .i64 x.note.expires, .slice qa7 x.note.props.length qc7, .int .i64 x.note.origin, .int .i64 x.note.number, .int .i64 x.note.hops, .int .i64 x.qos, .bool x.keep, .slice ea7 x.ids.length ec7, .string (str x.share)]) w.heap.size (k + 1) (.slice (some ⟨g, 0, none⟩) n c3) ps (qs.set k ((.slice pa7 x.note.payload.length pc7, .slice qa7 x.note.props.length qc7, .slice ea7 x.ids.length ec7), ⟨fid, fst, x⟩))) := by
        have := FCp.step (f := ⟨fid, fst, x⟩) (by have := HF7.out; rw [← HN.out] at this; exact this) hkq HP.out HO7.out
        rw [HN.out] at this
        exact this
      have HB8 : Hid (Below w.heap.size w (w7.setCells g (k * 16 + 2) [.string (str x.note.topic), .slice pa7 x.note.payload.length pc7, .int .i64 x.note.qos, .bool x.note.retain, .string (str x.note.src), .int .i64 x.note.expires, .slice qa7 x.note.props.length qc7, .int .i64 x.note.origin, .int .i64 x.note.number, .int .i64 x.note.hops, .int .i64 x.qos, .bool x.keep, .slice ea7 x.ids.length ec7, .string (str x.share)])) := by
        refine below_grown HB7.out (grownBy_setCells _ _ _ _) HB7.out.size (fun k hk => ?_)
        cases hk
        have h7 := HF7.out.row
        exact (h7.lt g rfl).1
      clear HF7 HO7 HB7 HC HOLD
      go_wp2_with fail
      go_roundg (n - (k + 1))
      case measure => omega
      case rel => exact ⟨k + 1, _, by omega, rfl, by go_num, HF8, HB8⟩
    · have hkk : ¬ (k : Int) < (n : Int) := by omega
      have hkn : k = n := by omega
      go_wp2
      have := HR.out ad3 c3 qs wo (HF.out.eqs.trans HPS.out) (by rw [HLEN.out, HN.out]; have := HF.out.row; rw [HN.out] at this; exact this) (fun j hj => HF.out.new j hj (by have := HF.out.len; have := HN.out; omega)) HF.out.reach HB.out
      rw [HLEN.out, HN.out] at this
      exact this
end Go.Proofs.Ytgimbocoamnkjaa
