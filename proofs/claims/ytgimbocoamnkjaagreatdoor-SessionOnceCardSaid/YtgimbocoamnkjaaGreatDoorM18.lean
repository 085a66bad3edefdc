/- (*Session).Push, walked. -/
import Derived.Test.YtgimbocoamnkjaaGreatDoorM17
import Derived.Deep.RegionHeld3
import Derived.Maps.RangeWalk
import Derived.Test.YtgimbocoamnkjaaGreatDoorM01
import Derived.Laws.Rows
import Derived.ArgAppend
namespace Go.Proofs.YtgimbocoamnkjaaGreatDoor
open Go.RowKit

theorem infoIm : (Tryz.prog.info? 36).map (fun i => (i.zero, i.size, i.bytes)) = some (some (Value.agg #[.string ⟨#[]⟩, .slice none 0 0, .int .i64 0, .bool false, .string ⟨#[]⟩, .int .i64 0, .slice none 0 0, .int .i64 0, .int .i64 0, .int .i64 0, .int .i64 0, .bool false, .slice none 0 0, .string ⟨#[]⟩]), 14, 184) := by kernel_rfl
theorem infoFl : (Tryz.prog.info? 51).map (fun i => (i.zero, i.size, i.bytes)) = some (some (Value.agg #[.int .i64 0, .int .i64 0, .string ⟨#[]⟩, .slice none 0 0, .int .i64 0, .bool false, .string ⟨#[]⟩, .int .i64 0, .slice none 0 0, .int .i64 0, .int .i64 0, .int .i64 0, .int .i64 0, .bool false, .slice none 0 0, .string ⟨#[]⟩]), 16, 200) := by kernel_rfl

/-- A store into the session's own block. -/
theorem SX.set {w : World} {M : Nat → Prop} {S NB MB GB GM : Nat} {sv qv fv : Value} {s s' : Sess} (h : SX w M S NB MB GB GM sv qv fv s) (j : Nat) (u : Value) {qv' fv' sv' : Value}
    (hS : (w.setCell ⟨S, j, none⟩ u).heap[S]? = some (Obj.cells #[.pointer (some ⟨NB, 0, none⟩), .string (str s'.client), .int .i64 s'.expiry, .int .i64 s'.ends, .bool s'.online, sv', qv', fv', .pointer (some ⟨GB, 0, none⟩)] 94))
    (e1 : s'.nums = s.nums) (e2 : s'.got = s.got) (hs : (w.setCell ⟨S, j, none⟩ u).ownsRow 0 64 6 sv s.subs.length (s.subs.flatMap sbP) → (w.setCell ⟨S, j, none⟩ u).ownsRow 0 64 6 sv' s'.subs.length (s'.subs.flatMap sbP)) (hsv : sv' = sv)
    (hq : QuR (w.setCell ⟨S, j, none⟩ u) M qv' s'.queue) (hf : FlR (w.setCell ⟨S, j, none⟩ u) M fv' s'.flights) : SX (w.setCell ⟨S, j, none⟩ u) M S NB MB GB GM sv' qv' fv' s' := by
  have hg := grownBy_setCell w ⟨S, j, none⟩ u
  have hk := bkind_cells h.hS
  have hp := h.parts S hg (M' := M) (fun _ hm => hm) (.of_grown hg (fun k hk => by cases hk; exact h.mS))
  refine ⟨hS, ?_, ?_, hs (hp.2.2.2.1 (by rw [hk]; decide)), hq, hf, h.nb, h.nm, h.mS, h.mN, h.mG, fun k hk' => h.ms k (hsv ▸ hk'), h.mNB, h.mGB, fun b hb => ?_⟩
  · rw [e1]
    exact hp.2.1 (fun e => by have := h.hn.kinds.2; rw [← e, hk] at this; omega) (by rw [hk]; decide)
  · rw [e2]
    exact hp.2.2.1 (fun e => by have := h.hg.kinds.2; rw [← e, hk] at this; omega) (by rw [hk]; decide)
  · have := h.lt b hb
    simpa [World.setCell] using this

/-- An item more in the queue's row, stored. -/
theorem SX.push {w w1 : World} {M : Nat → Prop} {S NB MB GB GM : Nat} {sv qv fv qv' : Value} {s : Sess} {ps : List (V3 × Im)} {c : V3} {x : Im} (h : SX w M S NB MB GB GM sv qv fv s) (hps : ps.map (·.2) = s.queue) (hcon : ∀ p ∈ ps, ImS w M p.1 p.2) (hx : ImS w M c x)
    (hr : RowA w1 36 14 qv' (s.queue.length + 1) (ps.flatMap imP ++ imP (c, x))) (ha : AppA w w1 qv qv') (hq0 : ∀ k, qv.ownBlock = some k → bkind w k = 36 + 2) :
    ∃ M', SX (w1.setCell ⟨S, 6, none⟩ qv') M' S NB MB GB GM sv qv' fv { s with queue := s.queue ++ [x] } ∧ Sep M M' w (w1.setCell ⟨S, 6, none⟩ qv') := by
  -- behind the append
  obtain ⟨K, hg, hK⟩ : ∃ K, w.grownBy w1 (some K) ∧ (M K ∧ bkind w K = 36 + 2 ∨ w.heap.size ≤ K) := by
    rcases ha with ⟨hg, e⟩ | ⟨hg, e⟩
    · cases hv : qv.ownBlock with
      | none => exact ⟨w.heap.size, grownBy_weaken (by rw [hv] at hg; exact hg), .inr (Nat.le_refl _)⟩
      | some k => exact ⟨k, by rw [hv] at hg; exact hg, .inl ⟨h.hq.own k hv, hq0 k hv⟩⟩
    · exact ⟨w.heap.size, grownBy_weaken hg, .inr (Nat.le_refl _)⟩
  have hnew : ∀ k, qv'.ownBlock = some k → M k ∨ w.heap.size ≤ k := fun k hk => by
    rcases ha with ⟨_, e⟩ | ⟨_, e⟩
    · exact .inl (h.hq.own k (e ▸ hk))
    · rw [e] at hk
      cases hk
      exact .inr (Nat.le_refl _)
  have hlt' : ∀ k, qv'.ownBlock = some k → k < w1.heap.size := hr.lt
  let M' : Nat → Prop := fun b => M b ∨ qv'.ownBlock = some b
  have hs1 : Sep M M' w w1 := ⟨hg.os, hg.tape, hg.output, hg.size, fun b hb hM => hg.block b hb (fun e => by
    have e := Option.some.inj e
    rcases hK with ⟨hk, _⟩ | hk
    · exact hM (e ▸ hk)
    · omega), fun b hb => by
    rcases hb with hb | hb
    · exact .inl hb
    · exact hnew b hb⟩
  have hne : ∀ b, b < w.heap.size → bkind w b ≠ 36 + 2 → w1.heap[b]? = w.heap[b]? := fun b hb hk => hg.block b hb (fun e => by
    have e := Option.some.inj e
    rcases hK with ⟨_, hk2⟩ | hk2
    · exact hk (e ▸ hk2)
    · omega)
  have lt1 : ∀ {b t : Nat} {fr : Nat × Nat} {cs : Array Value}, w.heap[b]? = some (.cells cs t fr) → b < w.heap.size := fun h => (Array.getElem?_eq_some_iff.1 h).1
  have hS1 := (hne S (lt1 h.hS) (by rw [bkind_cells h.hS]; decide)).trans h.hS
  have hk1 : bkind w1 S = 94 + 2 := bkind_cells hS1
  -- the session behind the append: its queue's row is read no more
  have hx1 : SX (w1.setCell ⟨S, 6, none⟩ qv') M' S NB MB GB GM sv qv' fv { s with queue := s.queue ++ [x] } := by
    have hg2 := grownBy_setCell w1 ⟨S, 6, none⟩ qv'
    have hs2 : Sep M' M' w1 (w1.setCell ⟨S, 6, none⟩ qv') := .of_grown hg2 (fun k hk => by cases hk; exact .inl h.mS)
    have keep : ∀ b, b < w1.heap.size → bkind w1 b ≠ 94 + 2 → (w1.setCell ⟨S, 6, none⟩ qv').heap[b]? = w1.heap[b]? := fun b hb hk => hg2.block b hb (fun e => hk (Option.some.inj e ▸ hk1))
    have both : ∀ b, b < w.heap.size → bkind w b ≠ 36 + 2 → bkind w b ≠ 94 + 2 → (w1.setCell ⟨S, 6, none⟩ qv').heap[b]? = w.heap[b]? := fun b hb k1 k2 => by
      have e := hne b hb k1
      have hb1 : bkind w1 b = bkind w b := by unfold bkind; rw [e]
      exact (keep b (Nat.lt_of_lt_of_le hb hg.size) (by rw [hb1]; exact k2)).trans e
    refine ⟨?_, h.hn.of_blocks (both _ (lt1 h.hn.1) (by rw [h.hn.kinds.1]; decide) (by rw [h.hn.kinds.1]; decide)) (both _ h.hn.2.lt (by rw [h.hn.kinds.2]; decide) (by rw [h.hn.kinds.2]; decide)),
      h.hg.of_blocks (both _ (lt1 h.hg.1) (by rw [h.hg.kinds.1]; decide) (by rw [h.hg.kinds.1]; decide)) (both _ h.hg.2.lt (by rw [h.hg.kinds.2]; decide) (by rw [h.hg.kinds.2]; decide)),
      owns_of_block h.hs (fun k hk => both k (h.lt k (h.ms k hk)) (by rw [own_kind h.hs k hk]; decide) (by rw [own_kind h.hs k hk]; decide)), ?_,
      h.hf.sep (hs1.trans hs2) (fun k hk => both k (h.lt k (h.hf.own k hk)) (by rw [h.hf.kind k hk]; decide) (by rw [h.hf.kind k hk]; decide)) (fun k hk => .inl (h.hf.own k hk)),
      h.nb, h.nm, .inl h.mS, .inl h.mN, .inl h.mG, fun k hk => .inl (h.ms k hk), ?_, ?_, ?_⟩
    · rw [heap_setCell_same w1 S 6 _ _ _ hS1]
      rfl
    · refine ⟨ps ++ [(c, x)], by rw [List.map_append, hps]; rfl, ?_, fun p hp => ?_, fun k hk => .inr hk⟩
      · rw [List.flatMap_append]
        have := hr.grown hg2 (.inl (hr.ne hS1 (by decide)))
        simpa using this
      · rcases List.mem_append.1 hp with hp | hp
        · exact ((hcon p hp).sep hs1).sep hs2
        · obtain rfl := List.mem_singleton.1 hp
          exact (hx.sep hs1).sep hs2
    · rintro (hm | hm)
      · exact h.mNB hm
      · have h1 := hr.kind NB hm
        rw [bkind_cells ((hne _ (lt1 h.hn.1) (by rw [h.hn.kinds.1]; decide)).trans h.hn.1)] at h1
        revert h1
        decide
    · rintro (hm | hm)
      · exact h.mGB hm
      · have h1 := hr.kind GB hm
        rw [bkind_cells ((hne _ (lt1 h.hg.1) (by rw [h.hg.kinds.1]; decide)).trans h.hg.1)] at h1
        revert h1
        decide
    · rintro b (hb | hb)
      · have := h.lt b hb
        have := hg.size
        simp only [World.setCell, Array.size_modify]
        omega
      · have := hlt' b hb
        simpa [World.setCell] using this
  exact ⟨M', hx1, hs1.trans (.of_grown (grownBy_setCell w1 ⟨S, 6, none⟩ qv') (fun k hk => by cases hk; exact .inl h.mS))⟩

theorem ss9 {w : World} {S t : Nat} {fr : Nat × Nat} {a b c d e f g h i : Value} (hS : w.heap[S]? = some (.cells #[a, b, c, d, e, f, g, h, i] t fr)) :
    (w.cell? ⟨S, 0, none⟩ = some a ∧ w.cell? ⟨S, 1, none⟩ = some b ∧ w.cell? ⟨S, 2, none⟩ = some c ∧ w.cell? ⟨S, 3, none⟩ = some d ∧ w.cell? ⟨S, 4, none⟩ = some e) ∧ w.cell? ⟨S, 5, none⟩ = some f ∧ w.cell? ⟨S, 6, none⟩ = some g ∧ w.cell? ⟨S, 7, none⟩ = some h ∧ w.cell? ⟨S, 8, none⟩ = some i :=
  ⟨⟨cell_of_row w S 0 _ _ _ hS, cell_of_row w S 1 _ _ _ hS, cell_of_row w S 2 _ _ _ hS, cell_of_row w S 3 _ _ _ hS, cell_of_row w S 4 _ _ _ hS⟩, cell_of_row w S 5 _ _ _ hS, cell_of_row w S 6 _ _ _ hS, cell_of_row w S 7 _ _ _ hS, cell_of_row w S 8 _ _ _ hS⟩

theorem im_oneCell {a c e : ByteArray} {i j k l m n : Int} {b q : Bool} (pa qa ea : Option Addr) (pn pc qn qc : Nat) {en ec : Nat} : ∀ u ∈ [Value.string a, .slice pa pn pc, .int .i64 i, .bool b, .string c, .int .i64 j, .slice qa qn qc, .int .i64 k, .int .i64 l, .int .i64 m, .int .i64 n, .bool q, .slice ea en ec, .string e], u.oneCell' = true := by
  intro u hu
  simp only [List.mem_cons, List.not_mem_nil, or_false] at hu
  rcases hu with rfl | rfl | rfl | rfl | rfl | rfl | rfl | rfl | rfl | rfl | rfl | rfl | rfl | rfl <;> rfl

set_option maxRecDepth 100000 in
set_option maxHeartbeats 400000 in
theorem push_no (S : Nat) (s : Sess) (v : Array Value) (w : World) (M : Nat → Prop) (h : SR w M S s) (hl : 8 ≤ s.queue.length) (hl2 : s.queue.length ≤ 100000) (R : Ending → World → Prop)
    (hR : ∀ w', Below w.heap.size w w' → R (.returned (.bool false)) w') :
    Calls Tryz.prog 8 #[.pointer (some ⟨S, 0, none⟩), .agg v] w R := by
  obtain ⟨NB, MB, GB, GM, sv, qv, fv, hx⟩ := h
  have HR := Lib.hid hR
  obtain ⟨qa, qc, rfl⟩ : ∃ a c, qv = .slice a s.queue.length c := by
    obtain ⟨ps, _, h2, _⟩ := hx.hq
    exact h2.shape
  have hb0 : Below w.heap.size w (w.alloc (.cells v 36)) := (Below.refl _ _).alloc (Nat.le_refl _) _
  have HB0 := Lib.hid hb0
  have c6 := (ss9 (hx.below hb0).hS).2.2.1
  have hl' : (8 : Int) ≤ (s.queue.length : Int) := by omega
  clear hR hx hb0
  go_enter Tryz.func8, Tryz.ntmps8
  go_wp2
  exact HR.out _ HB0.out

set_option maxRecDepth 100000 in
set_option maxHeartbeats 2000000 in
theorem push_yes (S : Nat) (s : Sess) (x : Im) (pv qw ev : Value) (w : World) (M : Nat → Prop) (h : SR w M S s) (hl : s.queue.length < 8) (hc : ImC w pv qw ev x) (hB : ImB x) (R : Ending → World → Prop)
    (hR : ∀ M' w', SR w' M' S { s with queue := s.queue ++ [x] } → Sep M M' w w' → R (.returned (.bool true)) w') :
    Calls Tryz.prog 8 #[.pointer (some ⟨S, 0, none⟩), (Value.agg #[.string (str x.note.topic), pv, .int .i64 x.note.qos, .bool x.note.retain, .string (str x.note.src), .int .i64 x.note.expires, qw, .int .i64 x.note.origin, .int .i64 x.note.number, .int .i64 x.note.hops, .int .i64 x.qos, .bool x.keep, ev, .string (str x.share)])] w R := by
  obtain ⟨NB, MB, GB, GM, sv, qv, fv, hx⟩ := h
  have HR := Lib.hid hR
  have HC := Lib.hid hc
  have HBD := Lib.hid hB
  obtain ⟨⟨pa, pc, rfl⟩, ⟨qa, qc, rfl⟩, ea, ec, rfl⟩ := hc.shape
  obtain ⟨va, vc, rfl⟩ : ∃ a c, qv = .slice a s.queue.length c := by
    obtain ⟨ps, _, h2, _⟩ := hx.hq
    exact h2.shape
  obtain ⟨n, hn⟩ : ∃ n, s.queue.length = n := ⟨_, rfl⟩
  rw [hn] at hx hl
  have HX := Lib.hid hx
  have HN := Lib.hid hn
  clear hR hB hc hx hn
  have hl' : ¬ (8 : Int) ≤ (n : Int) := by omega
  have hb0 : Below w.heap.size w (w.alloc (Obj.cells #[.string (str x.note.topic), (.slice pa x.note.payload.length pc), .int .i64 x.note.qos, .bool x.note.retain, .string (str x.note.src), .int .i64 x.note.expires, (.slice qa x.note.props.length qc), .int .i64 x.note.origin, .int .i64 x.note.number, .int .i64 x.note.hops, .int .i64 x.qos, .bool x.keep, (.slice ea x.ids.length ec), .string (str x.share)] 36)) := (Below.refl _ _).alloc (Nat.le_refl _) _
  have HB0 := Lib.hid hb0
  have HI0 := Lib.hid (heap_alloc_new w (Obj.cells #[.string (str x.note.topic), (.slice pa x.note.payload.length pc), .int .i64 x.note.qos, .bool x.note.retain, .string (str x.note.src), .int .i64 x.note.expires, (.slice qa x.note.props.length qc), .int .i64 x.note.origin, .int .i64 x.note.number, .int .i64 x.note.hops, .int .i64 x.qos, .bool x.keep, (.slice ea x.ids.length ec), .string (str x.share)] 36))
  have c6 := (ss9 (HX.out.below hb0).hS).2.2.1
  clear hb0
  go_enter Tryz.func8, Tryz.ntmps8
  go_wp2_with fail
  clear c6
  generalize w.alloc (Obj.cells #[.string (str x.note.topic), (.slice pa x.note.payload.length pc), .int .i64 x.note.qos, .bool x.note.retain, .string (str x.note.src), .int .i64 x.note.expires, (.slice qa x.note.props.length qc), .int .i64 x.note.origin, .int .i64 x.note.number, .int .i64 x.note.hops, .int .i64 x.qos, .bool x.keep, (.slice ea x.ids.length ec), .string (str x.share)] 36) = w1 at HB0 HI0 ⊢
  have hd1 : Below w.heap.size w w1.drew := HB0.out.drew
  have HX1 := Lib.hid (HX.out.below hd1)
  have HC1 := Lib.hid (HC.out.below hd1)
  have c6 := (ss9 HX1.out.hS).2.2.1
  obtain ⟨⟨i0, i1, i2, i3, i4, i5, i6⟩, i7, i8, i9, i10, i11, i12, i13⟩ := it14 (w := w1.drew) HI0.out
  obtain ⟨ps, hps, hrow, hcon, hown⟩ := HX1.out.hq
  rw [HN.out] at hrow
  have HPS := Lib.hid hps
  have HROW := Lib.hid hrow
  have HCON := Lib.hid hcon
  clear hps hrow hcon hown
  go_region_law (first
    | (go_simp; go_at_call 37; refine icopy_any x _ _ _ w1.drew HC1.out HBD.out _ ?_; intro pa3 pc3 qa3 qc3 ea3 ec3 w3 ho3 hb3; have c63 := cell_later hb3 c6; have hy4 : Below w3.heap.size w3 (w3.alloc (Obj.cells #[.string (str x.note.topic), (.slice pa3 x.note.payload.length pc3), .int .i64 x.note.qos, .bool x.note.retain, .string (str x.note.src), .int .i64 x.note.expires, (.slice qa3 x.note.props.length qc3), .int .i64 x.note.origin, .int .i64 x.note.number, .int .i64 x.note.hops, .int .i64 x.qos, .bool x.keep, (.slice ea3 x.ids.length ec3), .string (str x.share)] 36)) := (Below.refl _ _).alloc (Nat.le_refl _) _; have c64 := cell_later hy4 c63; have hb4 := below_tra hb3 hy4; have hx4 := HX1.out.below hb4; have hrow4 := HROW.out.below hb4)
    | refine step_appA (by rfl) (.tmp 15) (.tmp 18) 52 (by rfl) 36 (Value.agg #[.string ⟨#[]⟩, .slice none 0 0, .int .i64 0, .bool false, .string ⟨#[]⟩, .int .i64 0, .slice none 0 0, .int .i64 0, .int .i64 0, .int .i64 0, .int .i64 0, .bool false, .slice none 0 0, .string ⟨#[]⟩]) 14 184 Tryz.underlying52 infoIm rfl (by decide) (.slice va n vc) n _ (by rfl) hrow4 ⟨w3.heap.size, 0, none⟩ 1 1 [.string (str x.note.topic), (.slice pa3 x.note.payload.length pc3), .int .i64 x.note.qos, .bool x.note.retain, .string (str x.note.src), .int .i64 x.note.expires, (.slice qa3 x.note.props.length qc3), .int .i64 x.note.origin, .int .i64 x.note.number, .int .i64 x.note.hops, .int .i64 x.qos, .bool x.keep, (.slice ea3 x.ids.length ec3), .string (str x.share)] (by rfl) (rd_lit w3 #[.string (str x.note.topic), (.slice pa3 x.note.payload.length pc3), .int .i64 x.note.qos, .bool x.note.retain, .string (str x.note.src), .int .i64 x.note.expires, (.slice qa3 x.note.props.length qc3), .int .i64 x.note.origin, .int .i64 x.note.number, .int .i64 x.note.hops, .int .i64 x.qos, .bool x.keep, (.slice ea3 x.ids.length ec3), .string (str x.share)] 36 14 1 rfl) (im_oneCell _ _ _ _ _ _ _) (by unfold maxLen; omega) (by omega) (by omega) ?_; intro ad5 c5 w5 hrow5 happ5; have r5 := happ5.row hrow4 hx4.hS (by decide); have c65 := (ss9 r5).2.2.1; have f65 := frozen_block r5 6)
  all_goals
    have hx8 : ImS (w3.alloc (Obj.cells #[.string (str x.note.topic), (.slice pa3 x.note.payload.length pc3), .int .i64 x.note.qos, .bool x.note.retain, .string (str x.note.src), .int .i64 x.note.expires, (.slice qa3 x.note.props.length qc3), .int .i64 x.note.origin, .int .i64 x.note.number, .int .i64 x.note.hops, .int .i64 x.qos, .bool x.keep, (.slice ea3 x.ids.length ec3), .string (str x.share)] 36)) M (.slice pa3 x.note.payload.length pc3, .slice qa3 x.note.props.length qc3, .slice ea3 x.ids.length ec3) x := ⟨(((ho3.wr HX1.out.lt).sep (Sep.wr (.of_below hy4))).imp fun y hy => hy.c HBD.out), HBD.out⟩
    obtain ⟨M', hx9, hs9⟩ := SX.push hx4 HPS.out (fun p hp => (HCON.out p hp).sep (.of_below hb4)) hx8 (by rw [HN.out]; exact hrow5) happ5 hrow4.kind
    have hs10 : Sep M M' w _ := (Sep.of_below (below_then hd1 hb4 hd1.size)).trans hs9
    have HX9 := Lib.hid hx9
    have HS10 := Lib.hid hs10
    clear hx8 hx9 hs9 hs10 r5 c65 f65 happ5 hrow5 hrow4 hx4 hb4 c64 hy4 c63 hb3 ho3 i0 i1 i2 i3 i4 i5 i6 i7 i8 i9 i10 i11 i12 i13 c6 hd1
    go_wp2_with fail
    exact HR.out M' _ ⟨NB, MB, GB, GM, sv, _, fv, HX9.out⟩ HS10.out
end Go.Proofs.YtgimbocoamnkjaaGreatDoor

/- (*ident.Set).All at an empty set; (*Session).Got likewise: walked. -/
namespace Go.Proofs.YtgimbocoamnkjaaGreatDoor
open Go.RowKit

set_option maxRecDepth 100000 in
set_option maxHeartbeats 800000 in
theorem blen_zero (w : World) (R : Ending → World → Prop) (hR : R (.returned (.int .i64 0)) w) :
    Calls Tryz.prog 175 #[.int .u64 0] w R := by
  go_enter Tryz.func175, Tryz.ntmps175
  go_wp2_with (go_at_call 202; go_in)
  refine Eq.mp (congrArg (fun v => R (Ending.returned v) w) ?_) hR
  kernel_rfl

set_option maxRecDepth 100000 in
set_option maxHeartbeats 1600000 in
theorem isort_none (w : World) (R : Ending → World → Prop) (hR : R (.returned (.tuple #[])) w) :
    Calls Tryz.prog 157 #[.slice none 0 0] w R := by
  go_enter Tryz.func157, Tryz.ntmps157
  go_wp2_with (first
    | (go_at_call 175; go_must (refine blen_zero _ _ ?_))
    | (go_at_call 174; go_in)
    | (go_at_call 192; go_in))
  refine wp_loop_rounds 1 ?_
  rw [rounds_succ]
  go_wp2_with (first
    | (go_at_call 192; go_in))
  refine wp_loop_rounds 1 ?_
  rw [rounds_succ]
  go_wp2_with fail
  go_end0
  go_wp2_with fail
  refine bodyPost_ret (results_none rfl _ _ _) rfl ?_
  simp only []
  go_wp2_with fail
  go_end0
  exact hR

set_option maxRecDepth 100000 in
set_option maxHeartbeats 1600000 in
theorem iall_none (N m : Nat) (w : World) (hs : St w N m []) (R : Ending → World → Prop)
    (hR : ∀ w', Below w.heap.size w w' → R (.returned (.slice none 0 0)) w') :
    Calls Tryz.prog 121 #[.pointer (some ⟨N, 0, none⟩)] w R := by
  have HR := Lib.hid hR
  obtain ⟨D, hD, hh, hsz⟩ := hs.2.ex
  have c0 : w.cell? ⟨N, 0, none⟩ = some (.map (some m)) := cell_of_row w N 0 _ _ _ hs.1
  have HH := Lib.hid hh
  clear hs hR hh
  go_enter Tryz.func121, Tryz.ntmps121
  go_wp2_with (first
    | (at_range; refine wpList_range_own _ rfl _ 141 rfl 3 161 Tryz.keyed3 Tryz.underlying141 _ m _ D rfl hD ?_; intro w0 hrg0 hg0 hs0))
  go_frame
  have hb0 : Below w.heap.size w w0 := below_of_grown hg0 (Nat.le_refl _) (fun k hk => by cases hk)
  refine wp_loop_rounds 1 ?_
  rw [rounds_succ]
  go_wp2_with (first
    | (at_next; refine wpList_next_ranges _ rfl _ rfl 3 Tryz.keyed3 _ (fun x : Int => Value.int .i64 x) (fun v : Value => v) (fun key kl hk => by obtain ⟨x, e, _⟩ := Maps.keyOf_int_inv Tryz.underlying3 hk; exact ⟨x, e⟩) (fun v y _ => ⟨v, rfl⟩) m w.heap.size _ _ _ _ rfl hrg0 ?_ ?_))
  intro _
  go_wp2_with (first
    | (go_at_call 157; go_must (refine isort_none _ _ ?_)))
  exact HR.out _ hb0

set_option maxRecDepth 100000 in
set_option maxHeartbeats 800000 in
theorem got_none (S : Nat) (s : Sess) (hg : s.got = []) (w : World) (M : Nat → Prop) (h : SR w M S s) (R : Ending → World → Prop)
    (hR : ∀ w', Below w.heap.size w w' → R (.returned (.slice none 0 0)) w') :
    Calls Tryz.prog 61 #[.pointer (some ⟨S, 0, none⟩)] w R := by
  obtain ⟨NB, MB, GB, GM, sv, qv, fv, hx⟩ := h
  have HR := Lib.hid hR
  have c8 := (ss9 hx.hS).2.2.2.2
  have hst := hx.hg
  rw [hg] at hst
  have HST := Lib.hid hst
  clear hR hst hx
  go_enter Tryz.func61, Tryz.ntmps61
  go_wp2_with (go_at_call 121; go_must (refine iall_none GB GM _ HST.out _ ?_); intro w3 hb3)
  all_goals exact HR.out _ hb3
end Go.Proofs.YtgimbocoamnkjaaGreatDoor

/- Wide structs inside rows: loads and stores at an offset, in one step. -/
namespace Go.Proofs.YtgimbocoamnkjaaGreatDoor
open Go.RowKit

theorem run_loadVar_at {P : Program} (w : World) (b o : Nat) (ty : TypeId) (cs : List Value) (d : TypeDesc) (hc : ∀ j, j < cs.length → w.cell? ⟨b, o + j, none⟩ = cs[j]?)
    (hu : P.underlying ty = some d) (hd : (match d with | .struct _ | .array _ _ => true | _ => false) = true) (hi : (P.info? ty).map (·.size) = some cs.length) :
    (loadVar ty ⟨b, o, none⟩).run P w = .ok (.agg cs.toArray) w := by
  have hl : (loadCells ⟨b, o, none⟩ cs.length).run P w = .ok cs.toArray w :=
    run_loadCells_list (P := P) w ⟨b, o, none⟩ cs (fun j v hv => by
      rw [Addr.add_lit, hc j (List.getElem?_eq_some_iff.1 hv).1]
      exact hv)
  cases hq : P.info? ty with
  | none => simp [hq] at hi
  | some i =>
    have hs : i.size = cs.length := by simpa [hq] using hi
    have hagg : (isAgg ty).run P w = .ok true w := by
      unfold isAgg
      rw [Sem.run_bind, run_underlying hu w]
      cases d <;> simp_all
    simp [loadVar, Sem.run_bind, hagg, sizeOf, typeInfo, hq, hs, hl]
theorem wpList_load_at {P : Program} {ops : Array Oper} {rest : List Oper} {o : Oper} {a : Act} {w : World} {Q : Exit → Act → World → Prop} (hgd : o.guard = none) (ty : TypeId) (x : Operand) (ho : o.op = .load ty x)
    (b off : Nat) (hx : a.eval x = .pointer (some ⟨b, off, none⟩)) (cs : List Value) (d : TypeDesc) (hc : ∀ j, j < cs.length → w.cell? ⟨b, off + j, none⟩ = cs[j]?)
    (hu : P.underlying ty = some d) (hd : (match d with | .struct _ | .array _ _ => true | _ => false) = true) (hi : (P.info? ty).map (·.size) = some cs.length)
    (h : wpList P ops Q rest (a.put o.dst (.agg cs.toArray)) w) : wpList P ops Q (o :: rest) a w :=
  wpList_plain hgd fun K hK => by
    unfold Oper.wp execOp
    simp only [ho, hx, Instr.loadAt, Instr.sureAddr, Sem.run_bind, Sem.run_pure, Result.andThen_ok, run_loadVar_at w b off ty cs d hc hu hd hi]
    exact hK _ _ h

theorem run_storeVar_at {P : Program} (w : World) (b o : Nat) (ty : TypeId) (cells : Array Value) (hc : ∀ j, j < cells.size → (w.cell? ⟨b, o + j, none⟩).isSome = true) (hf : ∀ j, j < cells.size → w.frozen? ⟨b, o + j, none⟩ = false) (hi : (P.info? ty).map (·.size) = some cells.size)
    (h1 : cells.all (·.oneCell') = true) : (storeVar ty ⟨b, o, none⟩ (.agg cells)).run P w = .ok () (w.setCells b o cells.toList) := by
  have := run_storeCells_cells (P := P) b o cells.toList 0 w (by simpa using hc) (by simpa using hf) (fun v hv => (Array.all_eq_true_iff_forall_mem.1 h1) v (by simpa using hv))
  simp only [Nat.add_zero] at this
  cases hq : P.info? ty with
  | none => simp [hq] at hi
  | some i =>
    have hs : cells.size = i.size := by simp [hq] at hi; omega
    simp [storeVar, sizeOf, typeInfo, hq, Value.cells, hs, this]
theorem wpList_store_at {P : Program} {ops : Array Oper} {rest : List Oper} {o : Oper} {a : Act} {w : World} {Q : Exit → Act → World → Prop} (hgd : o.guard = none) (ty : TypeId) (x y : Operand) (ho : o.op = .store ty x y)
    (b off : Nat) (cells : Array Value) (hx : a.eval x = .pointer (some ⟨b, off, none⟩)) (hy : a.eval y = .agg cells)
    (hc : ∀ j, j < cells.size → (w.cell? ⟨b, off + j, none⟩).isSome = true) (hf : ∀ j, j < cells.size → w.frozen? ⟨b, off + j, none⟩ = false) (hi : (P.info? ty).map (·.size) = some cells.size) (h1 : cells.all (·.oneCell') = true)
    (h : wpList P ops Q rest (a.put o.dst undef) (w.setCells b off cells.toList)) : wpList P ops Q (o :: rest) a w :=
  wpList_plain hgd fun K hK => by
    unfold Oper.wp execOp
    simp only [ho, hx, hy, Instr.storeAt, Instr.sureAddr, Sem.run_bind, Sem.run_pure, Result.andThen_ok, run_storeVar_at w b off ty cells hc hf hi h1]
    exact hK _ _ h
end Go.Proofs.YtgimbocoamnkjaaGreatDoor

/- What becomes of a session in Next, Ack and their like. -/
namespace Go.Proofs.YtgimbocoamnkjaaGreatDoor
open Go.RowKit

/-- A block of the call's own, beside the session's. -/
theorem SX.alloc1 {w : World} {M : Nat → Prop} {S NB MB GB GM : Nat} {sv qv fv : Value} {s : Sess} (h : SX w M S NB MB GB GM sv qv fv s) (o : Obj) :
    SX (w.alloc o) (fun b => M b ∨ b = w.heap.size) S NB MB GB GM sv qv fv s ∧ Sep M (fun b => M b ∨ b = w.heap.size) w (w.alloc o) := by
  have hb : Below w.heap.size w (w.alloc o) := (Below.refl _ _).alloc (Nat.le_refl _) o
  have hs : Sep M (fun b => M b ∨ b = w.heap.size) w (w.alloc o) := (Sep.of_below hb).more fun b hb => hb.imp id (fun e => by omega)
  have h1 := h.below hb
  have lt1 : ∀ {b t : Nat} {fr : Nat × Nat} {cs : Array Value}, w.heap[b]? = some (.cells cs t fr) → b < w.heap.size := fun h => (Array.getElem?_eq_some_iff.1 h).1
  exact ⟨⟨h1.hS, h1.hn, h1.hg, h1.hs, h.hq.sep hs (fun k hk => hb.block k (h.lt k (h.hq.own k hk))) (fun k hk => .inl (h.hq.own k hk)), h.hf.sep hs (fun k hk => hb.block k (h.lt k (h.hf.own k hk))) (fun k hk => .inl (h.hf.own k hk)), h.nb, h.nm, .inl h.mS, .inl h.mN, .inl h.mG, fun k hk => .inl (h.ms k hk),
    (fun hm => hm.elim h.mNB (fun e => by have := lt1 h.hn.1; omega)), (fun hm => hm.elim h.mGB (fun e => by have := lt1 h.hg.1; omega)), fun b hb => by
      rcases hb with hb | hb
      · have := h.lt b hb
        simp
        omega
      · simp
        omega⟩, hs⟩
/-- That block is written a last time, and given away. -/
theorem SX.retire {w w' : World} {M : Nat → Prop} {S NB MB GB GM N : Nat} {sv qv fv : Value} {s : Sess} (h : SX w M S NB MB GB GM sv qv fv s) (hN : M N) (hg : w.grownBy w' (some N)) (e0 : N ≠ S) (e1 : N ≠ NB) (e2 : N ≠ MB) (e3 : N ≠ GB) (e4 : N ≠ GM) (e5 : sv.ownBlock ≠ some N) (e6 : qv.ownBlock ≠ some N) (e7 : fv.ownBlock ≠ some N) :
    SX w' (fun b => M b ∧ b ≠ N) S NB MB GB GM sv qv fv s ∧ Sep M (fun b => M b ∧ b ≠ N) w w' := by
  have hs : Sep M (fun b => M b ∧ b ≠ N) w w' := (Sep.of_grown hg (fun k hk => by cases hk; exact hN)).more fun b hb => .inl hb.1
  have lt1 : ∀ {b t : Nat} {fr : Nat × Nat} {cs : Array Value}, w.heap[b]? = some (.cells cs t fr) → b < w.heap.size := fun h => (Array.getElem?_eq_some_iff.1 h).1
  have key : ∀ b, b < w.heap.size → N ≠ b → w'.heap[b]? = w.heap[b]? := fun b hb hne => hg.block b hb (fun e => hne (Option.some.inj e).symm)
  have own : ∀ {v : Value} {k : Nat}, v.ownBlock ≠ some N → v.ownBlock = some k → N ≠ k := fun hv hk e => hv (e ▸ hk)
  exact ⟨⟨(key S (lt1 h.hS) e0).trans h.hS, h.hn.of_blocks (key _ (lt1 h.hn.1) e1) (key _ h.hn.2.lt e2), h.hg.of_blocks (key _ (lt1 h.hg.1) e3) (key _ h.hg.2.lt e4),
    owns_of_block h.hs (fun k hk => key k (h.lt k (h.ms k hk)) (own e5 hk)), h.hq.sep hs (fun k hk => key k (h.lt k (h.hq.own k hk)) (own e6 hk)) (fun k hk => ⟨h.hq.own k hk, (own e6 hk).symm⟩), h.hf.sep hs (fun k hk => key k (h.lt k (h.hf.own k hk)) (own e7 hk)) (fun k hk => ⟨h.hf.own k hk, (own e7 hk).symm⟩),
    h.nb, h.nm, ⟨h.mS, e0.symm⟩, ⟨h.mN, e2.symm⟩, ⟨h.mG, e4.symm⟩, fun k hk => ⟨h.ms k hk, (own e5 hk).symm⟩, fun hm => h.mNB hm.1, fun hm => h.mGB hm.1, fun b hb => Nat.lt_of_lt_of_le (h.lt b hb.1) hg.size⟩, hs⟩
/-- The numbers in use were changed. -/
theorem SX.turn {w w' : World} {M : Nat → Prop} {S NB MB GB GM : Nat} {sv qv fv : Value} {s : Sess} {l : List Int} (h : SX w M S NB MB GB GM sv qv fv s) (hg : w.grownBy w' (some MB)) (hn : St w' NB MB l) :
    SX w' M S NB MB GB GM sv qv fv { s with nums := l } ∧ Sep M M w w' := by
  have hs : Sep M M w w' := .of_grown hg (fun k hk => by cases hk; exact h.mN)
  have hk := h.hn.kinds.2
  obtain ⟨p1, _, p3, p4, p5, p6⟩ := h.parts MB hg (fun _ hm => hm) hs
  exact ⟨⟨(p1 (by rw [hk]; decide)).trans h.hS, hn, p3 h.nm (by rw [hk]; decide), p4 (by rw [hk]; decide), p5 (by rw [hk]; decide), p6 (by rw [hk]; decide), h.nb, h.nm, h.mS, h.mN, h.mG, h.ms, h.mNB, h.mGB, fun b hb => Nat.lt_of_lt_of_le (h.lt b hb) hg.size⟩, hs⟩
/-- .. those that came. -/
theorem SX.turnG {w w' : World} {M : Nat → Prop} {S NB MB GB GM : Nat} {sv qv fv : Value} {s : Sess} {l : List Int} (h : SX w M S NB MB GB GM sv qv fv s) (hg : w.grownBy w' (some GM)) (hn : St w' GB GM l) :
    SX w' M S NB MB GB GM sv qv fv { s with got := l } ∧ Sep M M w w' := by
  have hs : Sep M M w w' := .of_grown hg (fun k hk => by cases hk; exact h.mG)
  have hk := h.hg.kinds.2
  obtain ⟨p1, p2, _, p4, p5, p6⟩ := h.parts GM hg (fun _ hm => hm) hs
  exact ⟨⟨(p1 (by rw [hk]; decide)).trans h.hS, p2 h.nm.symm (by rw [hk]; decide), hn, p4 (by rw [hk]; decide), p5 (by rw [hk]; decide), p6 (by rw [hk]; decide), h.nb, h.nm, h.mS, h.mN, h.mG, h.ms, h.mNB, h.mGB, fun b hb => Nat.lt_of_lt_of_le (h.lt b hb) hg.size⟩, hs⟩

/-- The queue's first is out: the row's rest, stored. -/
theorem SX.pop {w : World} {M : Nat → Prop} {S NB MB GB GM : Nat} {sv qv fv qv' : Value} {s : Sess} {x : Im} {rest : List Im} {c : V3} {pr : List (V3 × Im)} (h : SX w M S NB MB GB GM sv qv fv s) (hps : pr.map (·.2) = rest) (hcon : ∀ p ∈ (c, x) :: pr, ImS w M p.1 p.2)
    (hr : RowA w 36 14 qv' rest.length (pr.flatMap imP)) (ho : qv'.ownBlock = qv.ownBlock) :
    SX (w.setCell ⟨S, 6, none⟩ qv') M S NB MB GB GM sv qv' fv { s with queue := rest } ∧ Sep M M w (w.setCell ⟨S, 6, none⟩ qv') := by
  have hg2 := grownBy_setCell w ⟨S, 6, none⟩ qv'
  have hk := bkind_cells h.hS
  have hs2 : Sep M M w (w.setCell ⟨S, 6, none⟩ qv') := .of_grown hg2 (fun k hk => by cases hk; exact h.mS)
  have hp := h.parts S hg2 (fun _ hm => hm) hs2
  refine ⟨h.set 6 qv' ?_ rfl rfl id rfl ?_ (hp.2.2.2.2.2 (by rw [hk]; decide)), hs2⟩
  · rw [heap_setCell_same w S 6 _ _ _ h.hS]
    rfl
  · exact ⟨pr, hps, hr.grown hg2 (.inl (hr.ne h.hS (by decide))), fun p hp => (hcon p (List.mem_cons_of_mem _ hp)).sep hs2, fun k hk => h.hq.own k (ho ▸ hk)⟩

/-- The flights' row was written (in its own block, or made anew), and stored. -/
theorem SX.fly {w w1 : World} {M : Nat → Prop} {S NB MB GB GM : Nat} {sv qv fv fv' : Value} {s : Sess} {ps : List (V3 × Fl)} {fs : List Fl} (h : SX w M S NB MB GB GM sv qv fv s) (hps : ps.map (·.2) = fs) (hcon : ∀ p ∈ ps, ImS w M p.1 p.2.item)
    (hr : w1.ownsRow 0 51 16 fv' fs.length (ps.flatMap flP)) (hg : w.grownBy w1 fv.ownBlock) (hat : fv'.ownBlock = fv.ownBlock ∨ fv'.ownBlock = some w.heap.size) :
    ∃ M', SX (w1.setCell ⟨S, 7, none⟩ fv') M' S NB MB GB GM sv qv fv' { s with flights := fs } ∧ Sep M M' w (w1.setCell ⟨S, 7, none⟩ fv') ∧ (∀ b, M b → M' b) := by
  obtain ⟨K, hg, hK⟩ : ∃ K, w.grownBy w1 (some K) ∧ (M K ∧ bkind w K = 51 + 2 ∨ w.heap.size ≤ K) := by
    cases hv : fv.ownBlock with
    | none => exact ⟨w.heap.size, grownBy_weaken (by rw [hv] at hg; exact hg), .inr (Nat.le_refl _)⟩
    | some k => exact ⟨k, by rw [hv] at hg; exact hg, .inl ⟨h.hf.own k hv, h.hf.kind k hv⟩⟩
  have hnew : ∀ k, fv'.ownBlock = some k → M k ∨ w.heap.size ≤ k := fun k hk => by
    rcases hat with e | e
    · exact .inl (h.hf.own k (e ▸ hk))
    · rw [e] at hk
      cases hk
      exact .inr (Nat.le_refl _)
  have hlt' : ∀ k, fv'.ownBlock = some k → k < w1.heap.size := fun k hk => (hr.lt k hk).2
  let M' : Nat → Prop := fun b => M b ∨ fv'.ownBlock = some b
  have hs1 : Sep M M' w w1 := ⟨hg.os, hg.tape, hg.output, hg.size, fun b hb hM => hg.block b hb (fun e => by
    have e := Option.some.inj e
    rcases hK with ⟨hk, _⟩ | hk
    · exact hM (e ▸ hk)
    · omega), fun b hb => by
    rcases hb with hb | hb
    · exact .inl hb
    · exact hnew b hb⟩
  have hne : ∀ b, b < w.heap.size → bkind w b ≠ 51 + 2 → w1.heap[b]? = w.heap[b]? := fun b hb hk => hg.block b hb (fun e => by
    have e := Option.some.inj e
    rcases hK with ⟨_, hk2⟩ | hk2
    · exact hk (e ▸ hk2)
    · omega)
  have lt1 : ∀ {b t : Nat} {fr : Nat × Nat} {cs : Array Value}, w.heap[b]? = some (.cells cs t fr) → b < w.heap.size := fun h => (Array.getElem?_eq_some_iff.1 h).1
  have hS1 := (hne S (lt1 h.hS) (by rw [bkind_cells h.hS]; decide)).trans h.hS
  have hk1 : bkind w1 S = 94 + 2 := bkind_cells hS1
  have hg2 := grownBy_setCell w1 ⟨S, 7, none⟩ fv'
  have hs2 : Sep M' M' w1 (w1.setCell ⟨S, 7, none⟩ fv') := .of_grown hg2 (fun k hk => by cases hk; exact .inl h.mS)
  have keep : ∀ b, b < w1.heap.size → bkind w1 b ≠ 94 + 2 → (w1.setCell ⟨S, 7, none⟩ fv').heap[b]? = w1.heap[b]? := fun b hb hk => hg2.block b hb (fun e => hk (Option.some.inj e ▸ hk1))
  have both : ∀ b, b < w.heap.size → bkind w b ≠ 51 + 2 → bkind w b ≠ 94 + 2 → (w1.setCell ⟨S, 7, none⟩ fv').heap[b]? = w.heap[b]? := fun b hb k1 k2 => by
    have e := hne b hb k1
    have hb1 : bkind w1 b = bkind w b := by unfold bkind; rw [e]
    exact (keep b (Nat.lt_of_lt_of_le hb hg.size) (by rw [hb1]; exact k2)).trans e
  refine ⟨M', ⟨?_, h.hn.of_blocks (both _ (lt1 h.hn.1) (by rw [h.hn.kinds.1]; decide) (by rw [h.hn.kinds.1]; decide)) (both _ h.hn.2.lt (by rw [h.hn.kinds.2]; decide) (by rw [h.hn.kinds.2]; decide)),
    h.hg.of_blocks (both _ (lt1 h.hg.1) (by rw [h.hg.kinds.1]; decide) (by rw [h.hg.kinds.1]; decide)) (both _ h.hg.2.lt (by rw [h.hg.kinds.2]; decide) (by rw [h.hg.kinds.2]; decide)),
    owns_of_block h.hs (fun k hk => both k (h.lt k (h.ms k hk)) (by rw [own_kind h.hs k hk]; decide) (by rw [own_kind h.hs k hk]; decide)),
    h.hq.sep (hs1.trans hs2) (fun k hk => both k (h.lt k (h.hq.own k hk)) (by rw [h.hq.kind k hk]; decide) (by rw [h.hq.kind k hk]; decide)) (fun k hk => .inl (h.hq.own k hk)), ?_,
    h.nb, h.nm, .inl h.mS, .inl h.mN, .inl h.mG, fun k hk => .inl (h.ms k hk), ?_, ?_, ?_⟩, hs1.trans hs2, fun b hb => .inl hb⟩
  · rw [heap_setCell_same w1 S 7 _ _ _ hS1]
    rfl
  · refine ⟨ps, hps, owns_typed hr hS1 (by decide) hg2, fun p hp => ((hcon p hp).sep hs1).sep hs2, fun k hk => .inr hk⟩
  · rintro (hm | hm)
    · exact h.mNB hm
    · have h1 := own_kind hr NB hm
      rw [bkind_cells ((hne _ (lt1 h.hn.1) (by rw [h.hn.kinds.1]; decide)).trans h.hn.1)] at h1
      revert h1
      decide
  · rintro (hm | hm)
    · exact h.mGB hm
    · have h1 := own_kind hr GB hm
      rw [bkind_cells ((hne _ (lt1 h.hg.1) (by rw [h.hg.kinds.1]; decide)).trans h.hg.1)] at h1
      revert h1
      decide
  · rintro b (hb | hb)
    · have := h.lt b hb
      have := hg.size
      simp only [World.setCell, Array.size_modify]
      omega
    · have := hlt' b hb
      simpa [World.setCell] using this

/-- A block behind all that there was is none of the session's. -/
theorem SX.away {w : World} {M : Nat → Prop} {S NB MB GB GM : Nat} {sv qv fv : Value} {s : Sess} (h : SX w M S NB MB GB GM sv qv fv s) :
    w.heap.size ≠ S ∧ w.heap.size ≠ NB ∧ w.heap.size ≠ MB ∧ w.heap.size ≠ GB ∧ w.heap.size ≠ GM ∧ sv.ownBlock ≠ some w.heap.size ∧ qv.ownBlock ≠ some w.heap.size ∧ fv.ownBlock ≠ some w.heap.size := by
  have lt1 : ∀ {b t : Nat} {fr : Nat × Nat} {cs : Array Value}, w.heap[b]? = some (.cells cs t fr) → b < w.heap.size := fun h => (Array.getElem?_eq_some_iff.1 h).1
  have hn := lt1 h.hn.1
  have hg := lt1 h.hg.1
  refine ⟨fun e => by have := h.lt S h.mS; omega, by omega, fun e => by have := h.lt MB h.mN; omega, by omega, fun e => by have := h.lt GM h.mG; omega, fun e => ?_, fun e => ?_, fun e => ?_⟩
  · have := h.lt _ (h.ms _ e); omega
  · have := h.lt _ (h.hq.own _ e); omega
  · have := h.lt _ (h.hf.own _ e); omega

/-- May the queue's first go? -/
def readyL (s : Sess) (win : Int) : Bool := match s.queue with
  | [] => false
  | x :: _ => x.qos == 0 || (decide ((s.flights.length : Int) < win) && decide (s.flights.length < 8))
end Go.Proofs.YtgimbocoamnkjaaGreatDoor
