/- (*Session).Flights, walked. -/
import Derived.Test.YtgimbocoamnkjaaGreatDoorM23
import Derived.Test.YtgimbocoamnkjaaGreatDoorM18
namespace Go.Proofs.YtgimbocoamnkjaaGreatDoor
open Go.RowKit

set_option maxRecDepth 100000 in
set_option maxHeartbeats 2000000 in
theorem flights_any (S : Nat) (s : Sess) (hl : s.flights.length ≤ 100000) (w : World) (M : Nat → Prop) (h : SR w M S s) (R : Ending → World → Prop)
    (hR : ∀ ad c (qs : List (V3 × Fl)) w', qs.map (·.2) = s.flights → w'.ownsRow w.heap.size 51 16 (.slice ad s.flights.length c) s.flights.length (qs.flatMap flP) → (∀ (j : Nat) (h : j < qs.length), ImO w' w.heap.size (qs[j]).1.1 (qs[j]).1.2.1 (qs[j]).1.2.2 (qs[j]).2.item) → (∀ p ∈ qs, ImB p.2.item) → Below w.heap.size w w' → R (.returned (.slice ad s.flights.length c)) w') :
    Calls Tryz.prog 16 #[.pointer (some ⟨S, 0, none⟩)] w R := by
  obtain ⟨NB, MB, GB, GM, sv, qv, fv, hx⟩ := h
  have HR := Lib.hid hR
  obtain ⟨ps, hps, hrow, hcon, _⟩ := id hx.hf
  have hlen : s.flights.length = ps.length := by rw [← hps]; simp
  rw [hlen] at hrow hl
  obtain ⟨fa, fc, hfv⟩ := owns_shape hrow
  subst hfv
  have c7 := (ss9 hx.hS).2.2.2.1
  have HROW := Lib.hid hrow
  have HCON := Lib.hid hcon
  have HPS := Lib.hid hps
  have HLEN := Lib.hid hlen
  obtain ⟨n, hn⟩ : ∃ n, ps.length = n := ⟨_, rfl⟩
  have HN := Lib.hid hn
  rw [hn] at c7 hl
  clear hR hx hps hrow hcon hlen hn
  go_enter Tryz.func16, Tryz.ntmps16
  go_wp2_with (go_at_call 62; go_must (refine clonefl_any fa n fc (ps.flatMap flP) w (by have := rd_of_owns HROW.out; rw [HN.out] at this; exact this) (ps_one HCON.out) (by have := (owns_cap HROW.out).1; rw [HN.out] at this; exact this) (owns_nil HROW.out) (Nat.le_trans hl (by decide)) _ ?_); intro ad3 c3 w3 ho3 hb3; have HO3 := Lib.hid ho3; have HB3 := Lib.hid hb3; clear ho3 hb3)
  have HF0 : Hid (FCp w w3 w.heap.size 0 (.slice ad3 n c3) ps ps) := ⟨rfl, rfl, by rw [HN.out]; exact HO3.out, fun j hj h0 => by omega, fun j hj _ => (HCON.out _ (List.getElem_mem hj)).1.out, fun p hp => (HCON.out p hp).2⟩
  clear c7
  go_loopg [4, 12] n (fun gn _ i wr => ∃ (k : Nat) (qs : List (V3 × Fl)), k ≤ n ∧ gn = n - k ∧ i = .int .i64 k ∧ Hid (FCp w wr w.heap.size k (.slice ad3 n c3) ps qs) ∧ Hid (Below w.heap.size w wr))
  case atStart => exact ⟨0, ps, Nat.zero_le _, by omega, rfl, HF0, HB3⟩
  case round =>
    obtain ⟨k, qs, hk, rfl, rfl, HF, HB⟩ := hrel
    obtain ⟨wo, rfl⟩ : ∃ x, x = wr := ⟨_, rfl⟩
    clear HF0 HO3 HB3
    by_cases hlt : k < n
    · have hkk : (k : Int) < (n : Int) := by omega
      have hrow := HF.out.row
      rw [HN.out] at hrow
      obtain ⟨g, hg⟩ := owns_head hrow (by omega)
      subst hg
      have hqn : qs.length = n := HF.out.len.trans HN.out
      have hkq : k < qs.length := by omega
      rw [← hqn] at hrow
      have hcell := fl_cells hrow hkq
      have hold := HF.out.old k hkq (Nat.le_refl _)
      have hbx := HF.out.reach _ (List.getElem_mem hkq)
      obtain ⟨⟨⟨v1, v2, v3⟩, ⟨fid, fst, x⟩⟩, hp⟩ : ∃ p, qs[k] = p := ⟨_, rfl⟩
      rw [hp] at hcell hold hbx
      have HC : Hid (∀ j, j < 14 → wo.cell? ⟨g, k * 16 + 2 + j, none⟩ = [.string (str x.note.topic), v1, .int .i64 x.note.qos, .bool x.note.retain, .string (str x.note.src), .int .i64 x.note.expires, v2, .int .i64 x.note.origin, .int .i64 x.note.number, .int .i64 x.note.hops, .int .i64 x.qos, .bool x.keep, v3, .string (str x.share)][j]?) := fun j hj => by
        have := hcell (j + 2) (by omega)
        rw [show k * 16 + (j + 2) = k * 16 + 2 + j by omega] at this
        exact this
      have HOLD := Lib.hid (show ImC wo v1 v2 v3 x from ImC.below hold HB.out)
      have HBX := Lib.hid (show ImB x from hbx)
      have HP : Hid ((qs[k]).2 = ⟨fid, fst, x⟩) := by show _ = _; rw [hp]
      have HQN := Lib.hid hqn
      clear hrow hcell hold hbx hp hqn
      go_wp2_with (first
        | (refine wpList_load_at (o := ⟨some 21, .load 36 (.tmp 20), _, _, _, _⟩) (by rfl) 36 (.tmp 20) (by rfl) (g) (k * 16 + 2) (by rfl) ([.string (str x.note.topic), v1, .int .i64 x.note.qos, .bool x.note.retain, .string (str x.note.src), .int .i64 x.note.expires, v2, .int .i64 x.note.origin, .int .i64 x.note.number, .int .i64 x.note.hops, .int .i64 x.qos, .bool x.keep, v3, .string (str x.share)]) _ (HC.out) (Tryz.underlying36) (by rfl) (by kernel_rfl) ?_)
        | (go_at_call 37; go_must (refine icopy_any x v1 v2 v3 wo HOLD.out HBX.out _ ?_; intro pa7 pc7 qa7 qc7 ea7 ec7 w7 ho7 hb7; have HF7 := Lib.hid (HF.out.below hb7); have HO7 := Lib.hid (ho7.mono HB.out.size); have HB7 := Lib.hid (below_then HB.out hb7 HB.out.size); clear ho7 hb7))
        | (refine wpList_store_at (o := ⟨none, .store 36 (.tmp 24) (.tmp 22), _, _, _, _⟩) (by rfl) 36 (.tmp 24) (.tmp 22) (by rfl) g (k * 16 + 2) #[.string (str x.note.topic), .slice pa7 x.note.payload.length pc7, .int .i64 x.note.qos, .bool x.note.retain, .string (str x.note.src), .int .i64 x.note.expires, .slice qa7 x.note.props.length qc7, .int .i64 x.note.origin, .int .i64 x.note.number, .int .i64 x.note.hops, .int .i64 x.qos, .bool x.keep, .slice ea7 x.ids.length ec7, .string (str x.share)] (by rfl) (by rfl) ?_ ?_ (by kernel_rfl) (by simp [Value.oneCell']) ?_))
      · intro j hj
        have hj : j < 14 := hj
        have h7 := HF7.out.row
        rw [HN.out] at h7
        have hfl := flatN_length 16 flP flP_length qs
        have := HQN.out
        rw [Nat.add_assoc, h7.cellAt (k * 16 + (2 + j)) (by omega), List.getElem?_eq_getElem (by rw [hfl]; omega)]
        rfl
      · intro j hj
        have h7 := HF7.out.row
        rw [HN.out] at h7
        exact h7.frozenAt _
      have HF8 : Hid (FCp w (w7.setCells g (k * 16 + 2) [.string (str x.note.topic), .slice pa7 x.note.payload.length pc7, .int .i64 x.note.qos, .bool x.note.retain, .string (str x.note.src), .int .i64 x.note.expires, .slice qa7 x.note.props.length qc7, .int .i64 x.note.origin, .int .i64 x.note.number, .int .i64 x.note.hops, .int .i64 x.qos, .bool x.keep, .slice ea7 x.ids.length ec7, .string (str x.share)]) w.heap.size (k + 1) (.slice (some ⟨g, 0, none⟩) n c3) ps (qs.set k ((.slice pa7 x.note.payload.length pc7, .slice qa7 x.note.props.length qc7, .slice ea7 x.ids.length ec7), ⟨fid, fst, x⟩))) := by
        have := FCp.step (f := ⟨fid, fst, x⟩) (by have := HF7.out; rw [← HN.out] at this; exact this) hkq HP.out HO7.out
        rw [HN.out] at this
        exact this
      have HB8 : Hid (Below w.heap.size w (w7.setCells g (k * 16 + 2) [.string (str x.note.topic), .slice pa7 x.note.payload.length pc7, .int .i64 x.note.qos, .bool x.note.retain, .string (str x.note.src), .int .i64 x.note.expires, .slice qa7 x.note.props.length qc7, .int .i64 x.note.origin, .int .i64 x.note.number, .int .i64 x.note.hops, .int .i64 x.qos, .bool x.keep, .slice ea7 x.ids.length ec7, .string (str x.share)])) := by
        refine below_grown HB7.out (grownBy_setCells _ _ _ _) HB7.out.size (fun k hk => ?_)
        cases hk
        have h7 := HF7.out.row
        exact (h7.lt g rfl).1
      clear HF7 HO7 HB7 HC HOLD
      go_wp2_with fail
      go_roundg (n - (k + 1))
      case measure => omega
      case rel => exact ⟨k + 1, _, by omega, rfl, by go_num, HF8, HB8⟩
    · have hkk : ¬ (k : Int) < (n : Int) := by omega
      have hkn : k = n := by omega
      go_wp2
      have := HR.out ad3 c3 qs wo (HF.out.eqs.trans HPS.out) (by rw [HLEN.out, HN.out]; have := HF.out.row; rw [HN.out] at this; exact this) (fun j hj => HF.out.new j hj (by have := HF.out.len; have := HN.out; omega)) HF.out.reach HB.out
      rw [HLEN.out, HN.out] at this
      exact this
end Go.Proofs.YtgimbocoamnkjaaGreatDoor

/- (*Session).Queue, walked. -/
namespace Go.Proofs.YtgimbocoamnkjaaGreatDoor
open Go.RowKit

theorem ImO.app {w w' : World} {B B' n : Nat} {v pv qv ev : Value} {x : Im} {xs : List Value} {e size : Nat} (h : ImO w B pv qv ev x) (hr : w.ownsRow B' e size v n xs) (h1 : e ≠ 147) (h2 : e ≠ 5) (h3 : e ≠ 3) (hg : w.grownBy w' v.ownBlock) : ImO w' B pv qv ev x := by
  rcases hr.2 with ⟨rfl, _⟩ | ⟨g, cap, cur, rfl, _, hk, _⟩
  · exact h.below (below_of_grown hg (Nat.le_refl _) (fun k hk => by simp [Value.ownBlock] at hk))
  · exact h.typed hk h1 h2 h3 hg

/-- The first k items of a queue, copied into a row of the call's own. -/
structure QCp (wr : World) (B k : Nat) (v : Value) (l : List Im) (qs : List (V3 × Im)) : Prop where
  eqs : qs.map (·.2) = l.take k
  row : wr.ownsRow B 36 14 v k (qs.flatMap imP)
  new : ∀ p ∈ qs, ImO wr B p.1.1 p.1.2.1 p.1.2.2 p.2
  reach : ∀ p ∈ qs, ImB p.2
theorem QCp.below {wr wr' : World} {B k : Nat} {v : Value} {l : List Im} {qs : List (V3 × Im)} (h : QCp wr B k v l qs) (hb : Below wr.heap.size wr wr') : QCp wr' B k v l qs :=
  ⟨h.eqs, owns_below h.row hb, fun p hp => (h.new p hp).below hb, h.reach⟩
theorem QCp.push {wr wr' : World} {B k : Nat} {v v' : Value} {l : List Im} {qs : List (V3 × Im)} (h : QCp wr B k v l qs) {v1 v2 v3 : Value} {x : Im} (hk : k < l.length) (hx : l[k] = x) (ho : ImO wr B v1 v2 v3 x) (hb : ImB x)
    (hr : wr'.ownsRow B 36 14 v' (k + 1) (qs.flatMap imP ++ imP ((v1, v2, v3), x))) (hg : wr.grownBy wr' v.ownBlock) : QCp wr' B (k + 1) v' l (qs ++ [((v1, v2, v3), x)]) := by
  refine ⟨?_, by rw [List.flatMap_append]; simpa using hr, fun p hp => ?_, fun p hp => ?_⟩
  · rw [List.map_append, h.eqs, List.take_succ_eq_append_getElem hk, hx]
    rfl
  · rcases List.mem_append.1 hp with hp | hp
    · exact (h.new p hp).app h.row (by decide) (by decide) (by decide) hg
    · obtain rfl := List.mem_singleton.1 hp
      exact ho.app h.row (by decide) (by decide) (by decide) hg
  · rcases List.mem_append.1 hp with hp | hp
    · exact h.reach p hp
    · obtain rfl := List.mem_singleton.1 hp
      exact hb

set_option maxRecDepth 100000 in
set_option maxHeartbeats 2000000 in
theorem queue_any (S : Nat) (s : Sess) (hl : s.queue.length ≤ 100000) (w : World) (M : Nat → Prop) (h : SR w M S s) (R : Ending → World → Prop)
    (hR : ∀ ad c (qs : List (V3 × Im)) w', qs.map (·.2) = s.queue → w'.ownsRow w.heap.size 36 14 (.slice ad s.queue.length c) s.queue.length (qs.flatMap imP) → (∀ p ∈ qs, ImO w' w.heap.size p.1.1 p.1.2.1 p.1.2.2 p.2) → (∀ p ∈ qs, ImB p.2) → Below w.heap.size w w' → R (.returned (.slice ad s.queue.length c)) w') :
    Calls Tryz.prog 25 #[.pointer (some ⟨S, 0, none⟩)] w R := by
  obtain ⟨NB, MB, GB, GM, sv, qv, fv, hx⟩ := h
  have HR := Lib.hid hR
  obtain ⟨ps, hps, hrow, hcon, _⟩ := id hx.hq
  obtain ⟨va, vc, hqv⟩ := hrow.shape
  subst hqv
  have c6 := (ss9 hx.hS).2.2.1
  obtain ⟨n, hn⟩ : ∃ n, s.queue.length = n := ⟨_, rfl⟩
  rw [hn] at c6 hl hrow
  have hpl : ps.length = n := by rw [← hn, ← hps]; simp
  have HROW := Lib.hid hrow
  have HCON := Lib.hid hcon
  have HPS := Lib.hid hps
  have HN := Lib.hid hn
  have HPL := Lib.hid hpl
  have HF0 : Hid (QCp w w.heap.size 0 (.slice none 0 0) s.queue []) := ⟨by simp, World.ownsRow_nil _ _ _ _, fun p hp => by simp at hp, fun p hp => by simp at hp⟩
  clear hR hx hps hrow hcon hn hpl
  go_enter Tryz.func25, Tryz.ntmps25
  go_wp2
  go_loopg [3, 11] n (fun gn r i wr => ∃ (k c : Nat) (ad : Option Addr) (qs : List (V3 × Im)), k ≤ n ∧ gn = n - k ∧ i = .int .i64 k ∧ r = .slice ad k c ∧ Hid (QCp wr w.heap.size k (.slice ad k c) s.queue qs) ∧ Hid (Below w.heap.size w wr))
  case atStart => exact ⟨0, 0, none, [], Nat.zero_le _, by omega, rfl, rfl, HF0, Lib.hid (Below.refl _ _)⟩
  case round =>
    obtain ⟨k, c, ad, qs, hk, rfl, rfl, rfl, HF, HB⟩ := hrel
    obtain ⟨wo, rfl⟩ : ∃ x, x = wr := ⟨_, rfl⟩
    clear HF0
    by_cases hlt : k < n
    · have hkk : (k : Int) < (n : Int) := by omega
      obtain ⟨g, o, hva, hcell, _⟩ := (HROW.out.below HB.out).at (by omega)
      subst hva
      have hkp : k < ps.length := by have := HPL.out; omega
      have hkq : k < s.queue.length := by have := HN.out; omega
      have hqk : s.queue[k] = (ps[k]).2 := by
        have h2 := congrArg (fun l => l[k]?) HPS.out
        simp only [List.getElem?_map, List.getElem?_eq_getElem hkp, List.getElem?_eq_getElem hkq, Option.map_some] at h2
        exact (Option.some.inj h2).symm
      have hcon := HCON.out _ (List.getElem_mem hkp)
      have hat : ∀ j, j < 14 → wo.cell? ⟨g, o + k * 14 + j, none⟩ = (imP ps[k])[j]? := fun j hj => by
        have := HPL.out
        rw [Nat.add_assoc, hcell (k * 14 + j) (by omega), flatN 14 imP imP_length ps k j hkp hj]
      obtain ⟨⟨⟨v1, v2, v3⟩, x⟩, hp⟩ : ∃ p, ps[k] = p := ⟨_, rfl⟩
      rw [hp] at hqk hcon hat
      obtain ⟨⟨v1a, v1c, e1⟩, ⟨v2a, v2c, e2⟩, v3a, v3c, e3⟩ := hcon.1.out.shape
      simp only at e1 e2 e3
      subst e1 e2 e3
      have HC : Hid (∀ j, j < 14 → wo.cell? ⟨g, o + k * 14 + j, none⟩ = [.string (str x.note.topic), .slice v1a x.note.payload.length v1c, .int .i64 x.note.qos, .bool x.note.retain, .string (str x.note.src), .int .i64 x.note.expires, .slice v2a x.note.props.length v2c, .int .i64 x.note.origin, .int .i64 x.note.number, .int .i64 x.note.hops, .int .i64 x.qos, .bool x.keep, .slice v3a x.ids.length v3c, .string (str x.share)][j]?) := hat
      have HQK : Hid (s.queue[k] = x) := hqk
      have HBX := Lib.hid hcon.2
      have hy4 : Below wo.heap.size wo (wo.alloc (Obj.cells #[.string (str x.note.topic), .slice v1a x.note.payload.length v1c, .int .i64 x.note.qos, .bool x.note.retain, .string (str x.note.src), .int .i64 x.note.expires, .slice v2a x.note.props.length v2c, .int .i64 x.note.origin, .int .i64 x.note.number, .int .i64 x.note.hops, .int .i64 x.qos, .bool x.keep, .slice v3a x.ids.length v3c, .string (str x.share)] 36)) := (Below.refl _ _).alloc (Nat.le_refl _) _
      have HI4 := Lib.hid (show ImC (wo.alloc (Obj.cells #[.string (str x.note.topic), .slice v1a x.note.payload.length v1c, .int .i64 x.note.qos, .bool x.note.retain, .string (str x.note.src), .int .i64 x.note.expires, .slice v2a x.note.props.length v2c, .int .i64 x.note.origin, .int .i64 x.note.number, .int .i64 x.note.hops, .int .i64 x.qos, .bool x.keep, .slice v3a x.ids.length v3c, .string (str x.share)] 36)) (.slice v1a x.note.payload.length v1c) (.slice v2a x.note.props.length v2c) (.slice v3a x.ids.length v3c) x from (hcon.1.out.below HB.out).below hy4)
      have HF4 := Lib.hid (HF.out.below hy4)
      have HB4 := Lib.hid (below_then HB.out hy4 HB.out.size)
      have N1 := Lib.hid (heap_alloc_new wo (Obj.cells #[.string ⟨#[]⟩, .slice none 0 0, .int .i64 0, .bool false, .string ⟨#[]⟩, .int .i64 0, .slice none 0 0, .int .i64 0, .int .i64 0, .int .i64 0, .int .i64 0, .bool false, .slice none 0 0, .string ⟨#[]⟩] 36))
      have N2 := Lib.hid (heap_alloc_new wo (Obj.cells #[.string (str x.note.topic), .slice v1a x.note.payload.length v1c, .int .i64 x.note.qos, .bool x.note.retain, .string (str x.note.src), .int .i64 x.note.expires, .slice v2a x.note.props.length v2c, .int .i64 x.note.origin, .int .i64 x.note.number, .int .i64 x.note.hops, .int .i64 x.qos, .bool x.keep, .slice v3a x.ids.length v3c, .string (str x.share)] 36))
      clear hcell hqk hcon hat hp hy4
      go_wp2_with (first
        | (refine wpList_load_at (o := ⟨some 14, .load 36 (.tmp 13), _, _, _, _⟩) (by rfl) 36 (.tmp 13) (by rfl) (g) (o + k * 14) (by rfl) ([.string (str x.note.topic), .slice v1a x.note.payload.length v1c, .int .i64 x.note.qos, .bool x.note.retain, .string (str x.note.src), .int .i64 x.note.expires, .slice v2a x.note.props.length v2c, .int .i64 x.note.origin, .int .i64 x.note.number, .int .i64 x.note.hops, .int .i64 x.qos, .bool x.keep, .slice v3a x.ids.length v3c, .string (str x.share)]) _ (HC.out) (Tryz.underlying36) (by rfl) (by kernel_rfl) ?_)
        | (refine wpList_store_row (o := ⟨none, .store 36 (.tmp 5) (.tmp 14), _, _, _, _⟩) (by rfl) 36 (.tmp 5) (.tmp 14) (by rfl) wo.heap.size _ (by rfl) (by rfl) 36 _ N1.out (by kernel_rfl) (by rfl) (by simp [Value.oneCell']) ?_; rw [World.setRow_alloc_new])
        | (refine wpList_load_row (o := ⟨some 16, .load 36 (.tmp 5), _, _, _, _⟩) (by rfl) 36 (.tmp 5) (by rfl) (wo.heap.size) (by rfl) 36 _ (0, 0) _ (N2).out (Tryz.underlying36) (by rfl) (by kernel_rfl) ?_)
        | (go_at_call 37; go_must (refine icopy_any x _ _ _ _ HI4.out HBX.out _ ?_; intro pa7 pc7 qa7 qc7 ea7 ec7 w7 ho7 hb7; have hy8 : Below w7.heap.size w7 (w7.alloc (Obj.cells #[.string (str x.note.topic), .slice pa7 x.note.payload.length pc7, .int .i64 x.note.qos, .bool x.note.retain, .string (str x.note.src), .int .i64 x.note.expires, .slice qa7 x.note.props.length qc7, .int .i64 x.note.origin, .int .i64 x.note.number, .int .i64 x.note.hops, .int .i64 x.qos, .bool x.keep, .slice ea7 x.ids.length ec7, .string (str x.share)] 36)) := (Below.refl _ _).alloc (Nat.le_refl _) _; have HF8 := Lib.hid ((HF4.out.below hb7).below hy8); have HO8 := Lib.hid ((ho7.mono HB4.out.size).below hy8); have HB8 := Lib.hid (below_then (below_then HB4.out hb7 HB4.out.size) hy8 (Nat.le_trans HB4.out.size hb7.size)); clear ho7 hb7 hy8))
        | (have hq := HF8; at_builtin; go_must (refine wpList_appAt (by rfl) (.tmp 15) (.tmp 18) 52 (by rfl) w.heap.size 36 (Value.agg #[.string ⟨#[]⟩, .slice none 0 0, .int .i64 0, .bool false, .string ⟨#[]⟩, .int .i64 0, .slice none 0 0, .int .i64 0, .int .i64 0, .int .i64 0, .int .i64 0, .bool false, .slice none 0 0, .string ⟨#[]⟩]) 14 184 Tryz.underlying52 infoIm rfl (by decide) ad k c _ (by rfl) HF8.out.row (some ⟨w7.heap.size, 0, none⟩) 1 1 [.string (str x.note.topic), .slice pa7 x.note.payload.length pc7, .int .i64 x.note.qos, .bool x.note.retain, .string (str x.note.src), .int .i64 x.note.expires, .slice qa7 x.note.props.length qc7, .int .i64 x.note.origin, .int .i64 x.note.number, .int .i64 x.note.hops, .int .i64 x.qos, .bool x.keep, .slice ea7 x.ids.length ec7, .string (str x.share)] (by rfl) (rd_lit w7 #[.string (str x.note.topic), .slice pa7 x.note.payload.length pc7, .int .i64 x.note.qos, .bool x.note.retain, .string (str x.note.src), .int .i64 x.note.expires, .slice qa7 x.note.props.length qc7, .int .i64 x.note.origin, .int .i64 x.note.number, .int .i64 x.note.hops, .int .i64 x.qos, .bool x.keep, .slice ea7 x.ids.length ec7, .string (str x.share)] 36 14 1 rfl) (im_oneCell _ _ _ _ _ _ _) (fun h => by cases h) (by unfold maxLen; omega) (by omega) HB8.out.size ?_; intro ad9 c9 w9 hown9 hg9 _; have HF9 := Lib.hid (HF8.out.push (by have := HN.out; omega) HQK.out HO8.out HBX.out hown9 hg9); have HB9 := Lib.hid (below_app HB8.out hg9 HB8.out.size HF8.out.row); clear hq hown9 hg9)))
      go_roundg (n - (k + 1))
      case measure => omega
      case rel => exact ⟨k + 1, c9, ad9, _, by omega, rfl, by go_num, rfl, HF9, HB9⟩
    · have hkk : ¬ (k : Int) < (n : Int) := by omega
      obtain rfl : k = n := by omega
      go_wp2
      have := HR.out ad c qs wo (by rw [HF.out.eqs, List.take_of_length_le (by have := HN.out; omega)]) (by rw [HN.out]; exact HF.out.row) HF.out.new HF.out.reach HB.out
      rw [HN.out] at this
      exact this
end Go.Proofs.YtgimbocoamnkjaaGreatDoor

/- session.New, Client, walked. -/
namespace Go.Proofs.YtgimbocoamnkjaaGreatDoor
open Go.RowKit

/-- A session with nothing. -/
def newS (l : List UInt8) : Sess := ⟨l, 0, 0, false, [], [], [], [], []⟩

set_option maxRecDepth 100000 in
set_option maxHeartbeats 400000 in
theorem snew_any (l : List UInt8) (w : World) (R : Ending → World → Prop)
    (hR : ∀ S M w', SR w' M S (newS l) → (∀ b, M b → w.heap.size ≤ b) → Below w.heap.size w w' → R (.returned (.pointer (some ⟨S, 0, none⟩))) w') :
    Calls Tryz.prog 6 #[.string (str l)] w R := by
  have HR := Lib.hid hR
  clear hR
  have ht1 : Hid True := trivial
  go_enter Tryz.func6, Tryz.ntmps6
  go_wp2_with (first
    | (have hq := ht1; go_at_call 35; go_must (refine inew_any _ _ ?_; intro NB MB w3 hs3 hn3 hm3 hb3; have HS3 := Lib.hid hs3; have HN3 := Lib.hid hn3; have HM3 := Lib.hid hm3; have HB3 := Lib.hid hb3; clear hq ht1 hs3 hn3 hm3 hb3))
    | (go_at_call 35; go_must (refine inew_any _ _ ?_; intro GB GM w5 hs5 hn5 hm5 hb5; have HS5 := Lib.hid hs5; have HN5 := Lib.hid hn5; have HM5 := Lib.hid hm5; have HB5 := Lib.hid hb5; clear hs5 hn5 hm5 hb5)))
  have hy : Below w5.heap.size w5 (w5.alloc (Obj.cells #[.pointer (some ⟨NB, 0, none⟩), .string (str (newS l).client), .int .i64 (newS l).expiry, .int .i64 (newS l).ends, .bool (newS l).online, (.slice none 0 0), (.slice none 0 0), (.slice none 0 0), .pointer (some ⟨GB, 0, none⟩)] 94)) := (Below.refl _ _).alloc (Nat.le_refl _) _
  have hsz := HB3.out.size
  have hsz5 := HB5.out.size
  have h3 := (HS3.out.below HB5.out).below hy
  have h5 := HS5.out.below hy
  have lt1 : ∀ {x : World} {b t : Nat} {fr : Nat × Nat} {cs : Array Value}, x.heap[b]? = some (.cells cs t fr) → b < x.heap.size := fun h => (Array.getElem?_eq_some_iff.1 h).1
  have l1 := lt1 HS3.out.1
  have l2 := HS3.out.2.lt
  have l3 := lt1 HS5.out.1
  have l4 := HS5.out.2.lt
  have n5 := HN5.out
  have m5 := HM5.out
  have n3 := HN3.out
  have m3 := HM3.out
  have e3 := HS3.out.ne
  have e5 := HS5.out.ne
  refine HR.out w5.heap.size (fun b => b = w5.heap.size ∨ b = MB ∨ b = GM) _ ⟨NB, MB, GB, GM, _, _, _, ⟨heap_alloc_new w5 (Obj.cells #[.pointer (some ⟨NB, 0, none⟩), .string (str (newS l).client), .int .i64 (newS l).expiry, .int .i64 (newS l).ends, .bool (newS l).online, (.slice none 0 0), (.slice none 0 0), (.slice none 0 0), .pointer (some ⟨GB, 0, none⟩)] 94), h3, h5, World.ownsRow_nil _ _ _ _, ⟨[], rfl, RowA.nil _ _ _, fun p hp => by simp at hp, fun k hk => by simp [Value.ownBlock] at hk⟩, ⟨[], rfl, World.ownsRow_nil _ _ _ _, fun p hp => by simp at hp, fun k hk => by simp [Value.ownBlock] at hk⟩, by omega, by omega, .inl rfl, .inr (.inl rfl), .inr (.inr rfl), fun k hk => by simp [Value.ownBlock] at hk, ?_, ?_, ?_⟩⟩ ?_ (below_then (below_then HB3.out HB5.out hsz) hy (by omega))
  · rintro (h | h | h) <;> omega
  · rintro (h | h | h) <;> omega
  · rintro b (h | h | h) <;> simp <;> omega
  · rintro b (h | h | h) <;> omega

set_option maxRecDepth 100000 in
theorem client_any (S : Nat) (s : Sess) (w : World) (M : Nat → Prop) (h : SR w M S s) (R : Ending → World → Prop)
    (hR : R (.returned (.string (str s.client))) w) :
    Calls Tryz.prog 36 #[.pointer (some ⟨S, 0, none⟩)] w R := by
  obtain ⟨NB, MB, GB, GM, sv, qv, fv, hx⟩ := h
  have HR := Lib.hid hR
  have c1 := (ss9 hx.hS).1.2.1
  clear hR hx
  go_enter Tryz.func36, Tryz.ntmps36
  go_wp2
  exact HR.out
end Go.Proofs.YtgimbocoamnkjaaGreatDoor

/- (*Session).Ready, walked. -/
namespace Go.Proofs.YtgimbocoamnkjaaGreatDoor
open Go.RowKit

theorem im_cell10 {w : World} {g o : Nat} {c : V3} {x : Im} {rest : List Value} {n : Nat} (h : ∀ j, j < n * 14 → w.cell? ⟨g, o + j, none⟩ = (imP (c, x) ++ rest)[j]?) (hn : 0 < n) : w.cell? ⟨g, o + 10, none⟩ = some (.int .i64 x.qos) := by
  rw [h 10 (by omega), List.getElem?_append_left (by rw [imP_length]; omega)]
  rfl

set_option maxRecDepth 100000 in
set_option maxHeartbeats 800000 in
theorem ready_any (S : Nat) (s : Sess) (win : Int) (b : Bool) (hb : readyL s win = b) (w : World) (M : Nat → Prop) (h : SR w M S s) (hl1 : s.queue.length ≤ 100000) (R : Ending → World → Prop)
    (hR : R (.returned (.bool b)) w) :
    Calls Tryz.prog 40 #[.pointer (some ⟨S, 0, none⟩), .int .i64 win] w R := by
  obtain ⟨NB, MB, GB, GM, sv, qv, fv, hx⟩ := h
  have HR := Lib.hid hR
  obtain ⟨ps, hps, hrow, _, _⟩ := hx.hq
  obtain ⟨fs, _, hfl, _, _⟩ := hx.hf
  obtain ⟨fa, fc, rfl⟩ := owns_shape hfl
  obtain ⟨va, vc, rfl⟩ := hrow.shape
  have c6 := (ss9 hx.hS).2.2.1
  have c7 := (ss9 hx.hS).2.2.2.1
  obtain ⟨n, hn⟩ : ∃ n, s.queue.length = n := ⟨_, rfl⟩
  obtain ⟨m, hm⟩ : ∃ m, s.flights.length = m := ⟨_, rfl⟩
  rw [hn] at c6 hrow
  rw [hm] at c7
  have HB := Lib.hid hb
  have HN := Lib.hid hn
  have HM := Lib.hid hm
  clear hR hx hb hfl
  match hq : s.queue with
  | [] =>
    have hn0 : n = 0 := by rw [← HN.out, hq]; rfl
    subst hn0
    obtain rfl : false = b := by rw [← HB.out]; unfold readyL; rw [hq]
    clear hq hn hm
    go_enter Tryz.func40, Tryz.ntmps40
    go_wp2
    exact HR.out
  | x :: rest =>
    have hn0 : 0 < n := by rw [← HN.out, hq]; simp
    have hn1 : (0 : Int) < (n : Int) := by omega
    rw [hq] at hps
    obtain ⟨p, pr, rfl⟩ : ∃ p pr, ps = p :: pr := by
      cases ps with
      | nil => simp at hps
      | cons p pr => exact ⟨p, pr, rfl⟩
    obtain ⟨c, y⟩ := p
    obtain rfl : y = x := by simp at hps; exact hps.1
    obtain ⟨g, o, rfl, hcell, _⟩ := hrow.at hn0
    rw [List.flatMap_cons] at hcell
    have c10 := im_cell10 hcell hn0
    have hb' : (y.qos == 0 || (decide ((m : Int) < win) && decide (m < 8))) = b := by
      rw [← HB.out, ← HM.out]
      unfold readyL
      rw [hq]
    have HBB := Lib.hid hb'
    clear hcell hrow hps hq hb' hn hm
    by_cases hz : y.qos = 0
    · obtain rfl : true = b := by rw [← HBB.out]; simp [hz]
      have hz' : (y.qos == 0) = true := by simp [hz]
      rw [hz] at c10
      clear hz hz'
      go_enter Tryz.func40, Tryz.ntmps40
      go_wp2
      exact HR.out
    · have hz' : (y.qos == 0) = false := by simp [hz]
      by_cases h1 : (m : Int) < win
      · by_cases h2 : m < 8
        · have h2' : (m : Int) < 8 := by omega
          obtain rfl : true = b := by rw [← HBB.out, hz']; simp [h1, h2]
          clear HBB
          go_enter Tryz.func40, Tryz.ntmps40
          go_wp2
          exact HR.out
        · have h2' : ¬ (m : Int) < 8 := by omega
          obtain rfl : false = b := by rw [← HBB.out, hz']; simp [h2]
          clear HBB
          go_enter Tryz.func40, Tryz.ntmps40
          go_wp2
          exact HR.out
      · obtain rfl : false = b := by rw [← HBB.out, hz']; simp [h1]
        clear HBB
        go_enter Tryz.func40, Tryz.ntmps40
        go_wp2
        exact HR.out
end Go.Proofs.YtgimbocoamnkjaaGreatDoor
