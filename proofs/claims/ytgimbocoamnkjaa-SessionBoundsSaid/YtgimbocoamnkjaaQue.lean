/- (*Session).Queue, walked. -/
import Derived.Test.YtgimbocoamnkjaaFltW
namespace Go.Proofs.Ytgimbocoamnkjaa
open Go.RowKit

theorem ImO.app {w w' : World} {B B' n : Nat} {v pv qv ev : Value} {x : Im} {xs : List Value} {e size : Nat} (h : ImO w B pv qv ev x) (hr : w.ownsRow B' e size v n xs) (h1 : e ≠ 84) (h2 : e ≠ 5) (h3 : e ≠ 3) (hg : w.grownBy w' v.ownBlock) : ImO w' B pv qv ev x := by
  rcases hr.2 with ⟨rfl, _⟩ | ⟨g, cap, cur, rfl, _, hk, _⟩
  · exact h.below (below_of_grown hg (Nat.le_refl _) (fun k hk => by simp [Value.ownBlock] at hk))
  · exact h.typed hk h1 h2 h3 hg

/-- The first k items of a queue, copied into a row of the call's own. -/
structure QCp (wr : World) (B k : Nat) (v : Value) (l : List Im) (qs : List (V3 × Im)) : Prop where
  eqs : qs.map (·.2) = l.take k
  row : wr.ownsRow B 44 14 v k (qs.flatMap imP)
  new : ∀ p ∈ qs, ImO wr B p.1.1 p.1.2.1 p.1.2.2 p.2
  reach : ∀ p ∈ qs, ImB p.2
theorem QCp.below {wr wr' : World} {B k : Nat} {v : Value} {l : List Im} {qs : List (V3 × Im)} (h : QCp wr B k v l qs) (hb : Below wr.heap.size wr wr') : QCp wr' B k v l qs :=
  ⟨h.eqs, owns_below h.row hb, fun p hp => (h.new p hp).below hb, h.reach⟩
theorem QCp.push {wr wr' : World} {B k : Nat} {v v' : Value} {l : List Im} {qs : List (V3 × Im)} (h : QCp wr B k v l qs) {v1 v2 v3 : Value} {x : Im} (hk : k < l.length) (hx : l[k] = x) (ho : ImO wr B v1 v2 v3 x) (hb : ImB x)
    (hr : wr'.ownsRow B 44 14 v' (k + 1) (qs.flatMap imP ++ imP ((v1, v2, v3), x))) (hg : wr.grownBy wr' v.ownBlock) : QCp wr' B (k + 1) v' l (qs ++ [((v1, v2, v3), x)]) := by
  refine ⟨?_, by rw [List.flatMap_append]; simpa using hr, fun p hp => ?_, fun p hp => ?_⟩
  · rw [List.map_append, h.eqs, List.take_succ_eq_append_getElem hk, hx]
    rfl
  · rcases List.mem_append.1 hp with hp | hp
    · exact (h.new p hp).app h.row (by decide) (by decide) (by decide) hg
    · obtain rfl := List.mem_singleton.1 hp
      exact ho.app h.row (by decide) (by decide) (by decide) hg
  · rcases List.mem_append.1 hp with hp | hp
    · exact h.reach p hp
    · obtain rfl := List.mem_singleton.1 hp
      exact hb

set_option maxRecDepth 100000 in
set_option maxHeartbeats 2000000 in
theorem queue_any (S : Nat) (s : Sess) (hl : s.queue.length ≤ 100000) (w : World) (M : Nat → Prop) (h : SR w M S s) (R : Ending → World → Prop)
    (hR : ∀ ad c (qs : List (V3 × Im)) w', qs.map (·.2) = s.queue → w'.ownsRow w.heap.size 44 14 (.slice ad s.queue.length c) s.queue.length (qs.flatMap imP) → (∀ p ∈ qs, ImO w' w.heap.size p.1.1 p.1.2.1 p.1.2.2 p.2) → (∀ p ∈ qs, ImB p.2) → Below w.heap.size w w' → R (.returned (.slice ad s.queue.length c)) w') :
    Calls Try.prog 15 #[.pointer (some ⟨S, 0, none⟩)] w R := by
  obtain ⟨NB, MB, GB, GM, sv, qv, fv, hx⟩ := h
  have HR := Lib.hid hR
  obtain ⟨ps, hps, hrow, hcon, _⟩ := id hx.hq
  obtain ⟨va, vc, hqv⟩ := hrow.shape
  subst hqv
  have c6 := (ss9 hx.hS).2.2.1
  obtain ⟨n, hn⟩ : ∃ n, s.queue.length = n := ⟨_, rfl⟩
  rw [hn] at c6 hl hrow
  have hpl : ps.length = n := by rw [← hn, ← hps]; simp
  have HROW := Lib.hid hrow
  have HCON := Lib.hid hcon
  have HPS := Lib.hid hps
  have HN := Lib.hid hn
  have HPL := Lib.hid hpl
  have HF0 : Hid (QCp w w.heap.size 0 (.slice none 0 0) s.queue []) := ⟨by simp, World.ownsRow_nil _ _ _ _, fun p hp => by simp at hp, fun p hp => by simp at hp⟩
  clear hR hx hps hrow hcon hn hpl
  go_enter Try.func15, Try.ntmps15
  go_wp2
  go_loopg [3, 11] n (fun gn r i wr => ∃ (k c : Nat) (ad : Option Addr) (qs : List (V3 × Im)), k ≤ n ∧ gn = n - k ∧ i = .int .i64 k ∧ r = .slice ad k c ∧ Hid (QCp wr w.heap.size k (.slice ad k c) s.queue qs) ∧ Hid (Below w.heap.size w wr))
  case atStart => exact ⟨0, 0, none, [], Nat.zero_le _, by omega, rfl, rfl, HF0, Lib.hid (Below.refl _ _)⟩
  case round =>
    obtain ⟨k, c, ad, qs, hk, rfl, rfl, rfl, HF, HB⟩ := hrel
    obtain ⟨wo, rfl⟩ : ∃ x, x = wr := ⟨_, rfl⟩
    clear HF0
    by_cases hlt : k < n
    · have hkk : (k : Int) < (n : Int) := by omega
      obtain ⟨g, o, hva, hcell, _⟩ := (HROW.out.below HB.out).at (by omega)
      subst hva
      have hkp : k < ps.length := by have := HPL.out; omega
      have hkq : k < s.queue.length := by have := HN.out; omega
      have hqk : s.queue[k] = (ps[k]).2 := by
        have h2 := congrArg (fun l => l[k]?) HPS.out
        simp only [List.getElem?_map, List.getElem?_eq_getElem hkp, List.getElem?_eq_getElem hkq, Option.map_some] at h2
        exact (Option.some.inj h2).symm
      have hcon := HCON.out _ (List.getElem_mem hkp)
      have hat : ∀ j, j < 14 → wo.cell? ⟨g, o + k * 14 + j, none⟩ = (imP ps[k])[j]? := fun j hj => by
        have := HPL.out
        rw [Nat.add_assoc, hcell (k * 14 + j) (by omega), flatN 14 imP imP_length ps k j hkp hj]
      obtain ⟨⟨⟨v1, v2, v3⟩, x⟩, hp⟩ : ∃ p, ps[k] = p := ⟨_, rfl⟩
      rw [hp] at hqk hcon hat
      obtain ⟨⟨v1a, v1c, e1⟩, ⟨v2a, v2c, e2⟩, v3a, v3c, e3⟩ := hcon.1.out.shape
      simp only at e1 e2 e3
      subst e1 e2 e3
      have HC : Hid (∀ j, j < 14 → wo.cell? ⟨g, o + k * 14 + j, none⟩ = [.string (str x.note.topic), .slice v1a x.note.payload.length v1c, .int .i64 x.note.qos, .bool x.note.retain, .string (str x.note.src), .int .i64 x.note.expires, .slice v2a x.note.props.length v2c, .int .i64 x.note.origin, .int .i64 x.note.number, .int .i64 x.note.hops, .int .i64 x.qos, .bool x.keep, .slice v3a x.ids.length v3c, .string (str x.share)][j]?) := hat
      have HQK : Hid (s.queue[k] = x) := hqk
      have HBX := Lib.hid hcon.2
      have hy4 : Below wo.heap.size wo (wo.alloc (Obj.cells #[.string (str x.note.topic), .slice v1a x.note.payload.length v1c, .int .i64 x.note.qos, .bool x.note.retain, .string (str x.note.src), .int .i64 x.note.expires, .slice v2a x.note.props.length v2c, .int .i64 x.note.origin, .int .i64 x.note.number, .int .i64 x.note.hops, .int .i64 x.qos, .bool x.keep, .slice v3a x.ids.length v3c, .string (str x.share)] 44)) := (Below.refl _ _).alloc (Nat.le_refl _) _
      have HI4 := Lib.hid (show ImC (wo.alloc (Obj.cells #[.string (str x.note.topic), .slice v1a x.note.payload.length v1c, .int .i64 x.note.qos, .bool x.note.retain, .string (str x.note.src), .int .i64 x.note.expires, .slice v2a x.note.props.length v2c, .int .i64 x.note.origin, .int .i64 x.note.number, .int .i64 x.note.hops, .int .i64 x.qos, .bool x.keep, .slice v3a x.ids.length v3c, .string (str x.share)] 44)) (.slice v1a x.note.payload.length v1c) (.slice v2a x.note.props.length v2c) (.slice v3a x.ids.length v3c) x from (hcon.1.out.below HB.out).below hy4)
      have HF4 := Lib.hid (HF.out.below hy4)
      have HB4 := Lib.hid (below_then HB.out hy4 HB.out.size)
      have N1 := Lib.hid (heap_alloc_new wo (Obj.cells #[.string ⟨#[]⟩, .slice none 0 0, .int .i64 0, .bool false, .string ⟨#[]⟩, .int .i64 0, .slice none 0 0, .int .i64 0, .int .i64 0, .int .i64 0, .int .i64 0, .bool false, .slice none 0 0, .string ⟨#[]⟩] 44))
      have N2 := Lib.hid (heap_alloc_new wo (Obj.cells #[.string (str x.note.topic), .slice v1a x.note.payload.length v1c, .int .i64 x.note.qos, .bool x.note.retain, .string (str x.note.src), .int .i64 x.note.expires, .slice v2a x.note.props.length v2c, .int .i64 x.note.origin, .int .i64 x.note.number, .int .i64 x.note.hops, .int .i64 x.qos, .bool x.keep, .slice v3a x.ids.length v3c, .string (str x.share)] 44))
      clear hcell hqk hcon hat hp hy4
      go_wp2_with (first
        | (refine wpList_load_at (o := ⟨some 14, .load 44 (.tmp 13), _, _, _, _⟩) (by rfl) 44 (.tmp 13) (by rfl) (g) (o + k * 14) (by rfl) ([.string (str x.note.topic), .slice v1a x.note.payload.length v1c, .int .i64 x.note.qos, .bool x.note.retain, .string (str x.note.src), .int .i64 x.note.expires, .slice v2a x.note.props.length v2c, .int .i64 x.note.origin, .int .i64 x.note.number, .int .i64 x.note.hops, .int .i64 x.qos, .bool x.keep, .slice v3a x.ids.length v3c, .string (str x.share)]) _ (HC.out) (Try.underlying44) (by rfl) (by kernel_rfl) ?_)
        | (refine wpList_store_row (o := ⟨none, .store 44 (.tmp 5) (.tmp 14), _, _, _, _⟩) (by rfl) 44 (.tmp 5) (.tmp 14) (by rfl) wo.heap.size _ (by rfl) (by rfl) 44 _ N1.out (by kernel_rfl) (by rfl) (by simp [Value.oneCell']) ?_; rw [World.setRow_alloc_new])
        | (refine wpList_load_row (o := ⟨some 16, .load 44 (.tmp 5), _, _, _, _⟩) (by rfl) 44 (.tmp 5) (by rfl) (wo.heap.size) (by rfl) 44 _ (0, 0) _ (N2).out (Try.underlying44) (by rfl) (by kernel_rfl) ?_)
        | (go_at_call 20; go_must (refine icopy_any x _ _ _ _ HI4.out HBX.out _ ?_; intro pa7 pc7 qa7 qc7 ea7 ec7 w7 ho7 hb7; have hy8 : Below w7.heap.size w7 (w7.alloc (Obj.cells #[.string (str x.note.topic), .slice pa7 x.note.payload.length pc7, .int .i64 x.note.qos, .bool x.note.retain, .string (str x.note.src), .int .i64 x.note.expires, .slice qa7 x.note.props.length qc7, .int .i64 x.note.origin, .int .i64 x.note.number, .int .i64 x.note.hops, .int .i64 x.qos, .bool x.keep, .slice ea7 x.ids.length ec7, .string (str x.share)] 44)) := (Below.refl _ _).alloc (Nat.le_refl _) _; have HF8 := Lib.hid ((HF4.out.below hb7).below hy8); have HO8 := Lib.hid ((ho7.mono HB4.out.size).below hy8); have HB8 := Lib.hid (below_then (below_then HB4.out hb7 HB4.out.size) hy8 (Nat.le_trans HB4.out.size hb7.size)); clear ho7 hb7 hy8))
        | (have hq := HF8; at_builtin; go_must (refine wpList_appAt (by rfl) (.tmp 15) (.tmp 18) 51 (by rfl) w.heap.size 44 (Value.agg #[.string ⟨#[]⟩, .slice none 0 0, .int .i64 0, .bool false, .string ⟨#[]⟩, .int .i64 0, .slice none 0 0, .int .i64 0, .int .i64 0, .int .i64 0, .int .i64 0, .bool false, .slice none 0 0, .string ⟨#[]⟩]) 14 184 Try.underlying51 infoIm rfl (by decide) ad k c _ (by rfl) HF8.out.row (some ⟨w7.heap.size, 0, none⟩) 1 1 [.string (str x.note.topic), .slice pa7 x.note.payload.length pc7, .int .i64 x.note.qos, .bool x.note.retain, .string (str x.note.src), .int .i64 x.note.expires, .slice qa7 x.note.props.length qc7, .int .i64 x.note.origin, .int .i64 x.note.number, .int .i64 x.note.hops, .int .i64 x.qos, .bool x.keep, .slice ea7 x.ids.length ec7, .string (str x.share)] (by rfl) (rd_lit w7 #[.string (str x.note.topic), .slice pa7 x.note.payload.length pc7, .int .i64 x.note.qos, .bool x.note.retain, .string (str x.note.src), .int .i64 x.note.expires, .slice qa7 x.note.props.length qc7, .int .i64 x.note.origin, .int .i64 x.note.number, .int .i64 x.note.hops, .int .i64 x.qos, .bool x.keep, .slice ea7 x.ids.length ec7, .string (str x.share)] 44 14 1 rfl) (im_oneCell _ _ _ _ _ _ _) (fun h => by cases h) (by unfold maxLen; omega) (by omega) HB8.out.size ?_; intro ad9 c9 w9 hown9 hg9 _; have HF9 := Lib.hid (HF8.out.push (by have := HN.out; omega) HQK.out HO8.out HBX.out hown9 hg9); have HB9 := Lib.hid (below_app HB8.out hg9 HB8.out.size HF8.out.row); clear hq hown9 hg9)))
      go_roundg (n - (k + 1))
      case measure => omega
      case rel => exact ⟨k + 1, c9, ad9, _, by omega, rfl, by go_num, rfl, HF9, HB9⟩
    · have hkk : ¬ (k : Int) < (n : Int) := by omega
      obtain rfl : k = n := by omega
      go_wp2
      have := HR.out ad c qs wo (by rw [HF.out.eqs, List.take_of_length_le (by have := HN.out; omega)]) (by rw [HN.out]; exact HF.out.row) HF.out.new HF.out.reach HB.out
      rw [HN.out] at this
      exact this
end Go.Proofs.Ytgimbocoamnkjaa
