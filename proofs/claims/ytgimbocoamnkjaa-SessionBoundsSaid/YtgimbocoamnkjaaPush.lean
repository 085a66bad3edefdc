/- (*Session).Push, walked. -/
import Derived.Test.YtgimbocoamnkjaaSess
import Derived.Deep.RegionHeld3
namespace Go.Proofs.Ytgimbocoamnkjaa
open Go.RowKit

theorem infoIm : (Try.prog.info? 44).map (fun i => (i.zero, i.size, i.bytes)) = some (some (Value.agg #[.string ⟨#[]⟩, .slice none 0 0, .int .i64 0, .bool false, .string ⟨#[]⟩, .int .i64 0, .slice none 0 0, .int .i64 0, .int .i64 0, .int .i64 0, .int .i64 0, .bool false, .slice none 0 0, .string ⟨#[]⟩]), 14, 184) := by kernel_rfl
theorem infoFl : (Try.prog.info? 54).map (fun i => (i.zero, i.size, i.bytes)) = some (some (Value.agg #[.int .i64 0, .int .i64 0, .string ⟨#[]⟩, .slice none 0 0, .int .i64 0, .bool false, .string ⟨#[]⟩, .int .i64 0, .slice none 0 0, .int .i64 0, .int .i64 0, .int .i64 0, .int .i64 0, .bool false, .slice none 0 0, .string ⟨#[]⟩]), 16, 200) := by kernel_rfl

/-- A store into the session's own block. -/
theorem SX.set {w : World} {M : Nat → Prop} {S NB MB GB GM : Nat} {sv qv fv : Value} {s s' : Sess} (h : SX w M S NB MB GB GM sv qv fv s) (j : Nat) (u : Value) {qv' fv' sv' : Value}
    (hS : (w.setCell ⟨S, j, none⟩ u).heap[S]? = some (Obj.cells #[.pointer (some ⟨NB, 0, none⟩), .string (str s'.client), .int .i64 s'.expiry, .int .i64 s'.ends, .bool s'.online, sv', qv', fv', .pointer (some ⟨GB, 0, none⟩)] 65))
    (e1 : s'.nums = s.nums) (e2 : s'.got = s.got) (hs : (w.setCell ⟨S, j, none⟩ u).ownsRow 0 33 6 sv s.subs.length (s.subs.flatMap sbP) → (w.setCell ⟨S, j, none⟩ u).ownsRow 0 33 6 sv' s'.subs.length (s'.subs.flatMap sbP)) (hsv : sv' = sv)
    (hq : QuR (w.setCell ⟨S, j, none⟩ u) M qv' s'.queue) (hf : FlR (w.setCell ⟨S, j, none⟩ u) M fv' s'.flights) : SX (w.setCell ⟨S, j, none⟩ u) M S NB MB GB GM sv' qv' fv' s' := by
  have hg := grownBy_setCell w ⟨S, j, none⟩ u
  have hk := bkind_cells h.hS
  have hp := h.parts S hg (M' := M) (fun _ hm => hm) (.of_grown hg (fun k hk => by cases hk; exact h.mS))
  refine ⟨hS, ?_, ?_, hs (hp.2.2.2.1 (by rw [hk]; decide)), hq, hf, h.nb, h.nm, h.mS, h.mN, h.mG, fun k hk' => h.ms k (hsv ▸ hk'), h.mNB, h.mGB, fun b hb => ?_⟩
  · rw [e1]
    exact hp.2.1 (fun e => by have := h.hn.kinds.2; rw [← e, hk] at this; omega) (by rw [hk]; decide)
  · rw [e2]
    exact hp.2.2.1 (fun e => by have := h.hg.kinds.2; rw [← e, hk] at this; omega) (by rw [hk]; decide)
  · have := h.lt b hb
    simpa [World.setCell] using this

/-- An item more in the queue's row, stored. -/
theorem SX.push {w w1 : World} {M : Nat → Prop} {S NB MB GB GM : Nat} {sv qv fv qv' : Value} {s : Sess} {ps : List (V3 × Im)} {c : V3} {x : Im} (h : SX w M S NB MB GB GM sv qv fv s) (hps : ps.map (·.2) = s.queue) (hcon : ∀ p ∈ ps, ImS w M p.1 p.2) (hx : ImS w M c x)
    (hr : RowA w1 44 14 qv' (s.queue.length + 1) (ps.flatMap imP ++ imP (c, x))) (ha : AppA w w1 qv qv') (hq0 : ∀ k, qv.ownBlock = some k → bkind w k = 44 + 2) :
    ∃ M', SX (w1.setCell ⟨S, 6, none⟩ qv') M' S NB MB GB GM sv qv' fv { s with queue := s.queue ++ [x] } ∧ Sep M M' w (w1.setCell ⟨S, 6, none⟩ qv') := by
  -- behind the append
  obtain ⟨K, hg, hK⟩ : ∃ K, w.grownBy w1 (some K) ∧ (M K ∧ bkind w K = 44 + 2 ∨ w.heap.size ≤ K) := by
    rcases ha with ⟨hg, e⟩ | ⟨hg, e⟩
    · cases hv : qv.ownBlock with
      | none => exact ⟨w.heap.size, grownBy_weaken (by rw [hv] at hg; exact hg), .inr (Nat.le_refl _)⟩
      | some k => exact ⟨k, by rw [hv] at hg; exact hg, .inl ⟨h.hq.own k hv, hq0 k hv⟩⟩
    · exact ⟨w.heap.size, grownBy_weaken hg, .inr (Nat.le_refl _)⟩
  have hnew : ∀ k, qv'.ownBlock = some k → M k ∨ w.heap.size ≤ k := fun k hk => by
    rcases ha with ⟨_, e⟩ | ⟨_, e⟩
    · exact .inl (h.hq.own k (e ▸ hk))
    · rw [e] at hk
      cases hk
      exact .inr (Nat.le_refl _)
  have hlt' : ∀ k, qv'.ownBlock = some k → k < w1.heap.size := hr.lt
  let M' : Nat → Prop := fun b => M b ∨ qv'.ownBlock = some b
  have hs1 : Sep M M' w w1 := ⟨hg.os, hg.tape, hg.output, hg.size, fun b hb hM => hg.block b hb (fun e => by
    have e := Option.some.inj e
    rcases hK with ⟨hk, _⟩ | hk
    · exact hM (e ▸ hk)
    · omega), fun b hb => by
    rcases hb with hb | hb
    · exact .inl hb
    · exact hnew b hb⟩
  have hne : ∀ b, b < w.heap.size → bkind w b ≠ 44 + 2 → w1.heap[b]? = w.heap[b]? := fun b hb hk => hg.block b hb (fun e => by
    have e := Option.some.inj e
    rcases hK with ⟨_, hk2⟩ | hk2
    · exact hk (e ▸ hk2)
    · omega)
  have lt1 : ∀ {b t : Nat} {fr : Nat × Nat} {cs : Array Value}, w.heap[b]? = some (.cells cs t fr) → b < w.heap.size := fun h => (Array.getElem?_eq_some_iff.1 h).1
  have hS1 := (hne S (lt1 h.hS) (by rw [bkind_cells h.hS]; decide)).trans h.hS
  have hk1 : bkind w1 S = 65 + 2 := bkind_cells hS1
  -- the session behind the append: its queue's row is read no more
  have hx1 : SX (w1.setCell ⟨S, 6, none⟩ qv') M' S NB MB GB GM sv qv' fv { s with queue := s.queue ++ [x] } := by
    have hg2 := grownBy_setCell w1 ⟨S, 6, none⟩ qv'
    have hs2 : Sep M' M' w1 (w1.setCell ⟨S, 6, none⟩ qv') := .of_grown hg2 (fun k hk => by cases hk; exact .inl h.mS)
    have keep : ∀ b, b < w1.heap.size → bkind w1 b ≠ 65 + 2 → (w1.setCell ⟨S, 6, none⟩ qv').heap[b]? = w1.heap[b]? := fun b hb hk => hg2.block b hb (fun e => hk (Option.some.inj e ▸ hk1))
    have both : ∀ b, b < w.heap.size → bkind w b ≠ 44 + 2 → bkind w b ≠ 65 + 2 → (w1.setCell ⟨S, 6, none⟩ qv').heap[b]? = w.heap[b]? := fun b hb k1 k2 => by
      have e := hne b hb k1
      have hb1 : bkind w1 b = bkind w b := by unfold bkind; rw [e]
      exact (keep b (Nat.lt_of_lt_of_le hb hg.size) (by rw [hb1]; exact k2)).trans e
    refine ⟨?_, h.hn.of_blocks (both _ (lt1 h.hn.1) (by rw [h.hn.kinds.1]; decide) (by rw [h.hn.kinds.1]; decide)) (both _ h.hn.2.lt (by rw [h.hn.kinds.2]; decide) (by rw [h.hn.kinds.2]; decide)),
      h.hg.of_blocks (both _ (lt1 h.hg.1) (by rw [h.hg.kinds.1]; decide) (by rw [h.hg.kinds.1]; decide)) (both _ h.hg.2.lt (by rw [h.hg.kinds.2]; decide) (by rw [h.hg.kinds.2]; decide)),
      owns_of_block h.hs (fun k hk => both k (h.lt k (h.ms k hk)) (by rw [own_kind h.hs k hk]; decide) (by rw [own_kind h.hs k hk]; decide)), ?_,
      h.hf.sep (hs1.trans hs2) (fun k hk => both k (h.lt k (h.hf.own k hk)) (by rw [h.hf.kind k hk]; decide) (by rw [h.hf.kind k hk]; decide)) (fun k hk => .inl (h.hf.own k hk)),
      h.nb, h.nm, .inl h.mS, .inl h.mN, .inl h.mG, fun k hk => .inl (h.ms k hk), ?_, ?_, ?_⟩
    · rw [heap_setCell_same w1 S 6 _ _ _ hS1]
      rfl
    · refine ⟨ps ++ [(c, x)], by rw [List.map_append, hps]; rfl, ?_, fun p hp => ?_, fun k hk => .inr hk⟩
      · rw [List.flatMap_append]
        have := hr.grown hg2 (.inl (hr.ne hS1 (by decide)))
        simpa using this
      · rcases List.mem_append.1 hp with hp | hp
        · exact ((hcon p hp).sep hs1).sep hs2
        · obtain rfl := List.mem_singleton.1 hp
          exact (hx.sep hs1).sep hs2
    · rintro (hm | hm)
      · exact h.mNB hm
      · have h1 := hr.kind NB hm
        rw [bkind_cells ((hne _ (lt1 h.hn.1) (by rw [h.hn.kinds.1]; decide)).trans h.hn.1)] at h1
        revert h1
        decide
    · rintro (hm | hm)
      · exact h.mGB hm
      · have h1 := hr.kind GB hm
        rw [bkind_cells ((hne _ (lt1 h.hg.1) (by rw [h.hg.kinds.1]; decide)).trans h.hg.1)] at h1
        revert h1
        decide
    · rintro b (hb | hb)
      · have := h.lt b hb
        have := hg.size
        simp only [World.setCell, Array.size_modify]
        omega
      · have := hlt' b hb
        simpa [World.setCell] using this
  exact ⟨M', hx1, hs1.trans (.of_grown (grownBy_setCell w1 ⟨S, 6, none⟩ qv') (fun k hk => by cases hk; exact .inl h.mS))⟩

theorem ss9 {w : World} {S t : Nat} {fr : Nat × Nat} {a b c d e f g h i : Value} (hS : w.heap[S]? = some (.cells #[a, b, c, d, e, f, g, h, i] t fr)) :
    (w.cell? ⟨S, 0, none⟩ = some a ∧ w.cell? ⟨S, 1, none⟩ = some b ∧ w.cell? ⟨S, 2, none⟩ = some c ∧ w.cell? ⟨S, 3, none⟩ = some d ∧ w.cell? ⟨S, 4, none⟩ = some e) ∧ w.cell? ⟨S, 5, none⟩ = some f ∧ w.cell? ⟨S, 6, none⟩ = some g ∧ w.cell? ⟨S, 7, none⟩ = some h ∧ w.cell? ⟨S, 8, none⟩ = some i :=
  ⟨⟨cell_of_row w S 0 _ _ _ hS, cell_of_row w S 1 _ _ _ hS, cell_of_row w S 2 _ _ _ hS, cell_of_row w S 3 _ _ _ hS, cell_of_row w S 4 _ _ _ hS⟩, cell_of_row w S 5 _ _ _ hS, cell_of_row w S 6 _ _ _ hS, cell_of_row w S 7 _ _ _ hS, cell_of_row w S 8 _ _ _ hS⟩

theorem im_oneCell {a c e : ByteArray} {i j k l m n : Int} {b q : Bool} (pa qa ea : Option Addr) (pn pc qn qc : Nat) {en ec : Nat} : ∀ u ∈ [Value.string a, .slice pa pn pc, .int .i64 i, .bool b, .string c, .int .i64 j, .slice qa qn qc, .int .i64 k, .int .i64 l, .int .i64 m, .int .i64 n, .bool q, .slice ea en ec, .string e], u.oneCell' = true := by
  intro u hu
  simp only [List.mem_cons, List.not_mem_nil, or_false] at hu
  rcases hu with rfl | rfl | rfl | rfl | rfl | rfl | rfl | rfl | rfl | rfl | rfl | rfl | rfl | rfl <;> rfl

set_option maxRecDepth 100000 in
set_option maxHeartbeats 400000 in
theorem push_no (S : Nat) (s : Sess) (v : Array Value) (w : World) (M : Nat → Prop) (h : SR w M S s) (hl : 8 ≤ s.queue.length) (hl2 : s.queue.length ≤ 100000) (R : Ending → World → Prop)
    (hR : ∀ w', Below w.heap.size w w' → R (.returned (.bool false)) w') :
    Calls Try.prog 9 #[.pointer (some ⟨S, 0, none⟩), .agg v] w R := by
  obtain ⟨NB, MB, GB, GM, sv, qv, fv, hx⟩ := h
  have HR := Lib.hid hR
  obtain ⟨qa, qc, rfl⟩ : ∃ a c, qv = .slice a s.queue.length c := by
    obtain ⟨ps, _, h2, _⟩ := hx.hq
    exact h2.shape
  have hb0 : Below w.heap.size w (w.alloc (.cells v 44)) := (Below.refl _ _).alloc (Nat.le_refl _) _
  have HB0 := Lib.hid hb0
  have c6 := (ss9 (hx.below hb0).hS).2.2.1
  have hl' : (8 : Int) ≤ (s.queue.length : Int) := by omega
  clear hR hx hb0
  go_enter Try.func9, Try.ntmps9
  go_wp2
  exact HR.out _ HB0.out

set_option maxRecDepth 100000 in
set_option maxHeartbeats 2000000 in
theorem push_yes (S : Nat) (s : Sess) (x : Im) (pv qw ev : Value) (w : World) (M : Nat → Prop) (h : SR w M S s) (hl : s.queue.length < 8) (hc : ImC w pv qw ev x) (hB : ImB x) (R : Ending → World → Prop)
    (hR : ∀ M' w', SR w' M' S { s with queue := s.queue ++ [x] } → Sep M M' w w' → R (.returned (.bool true)) w') :
    Calls Try.prog 9 #[.pointer (some ⟨S, 0, none⟩), (Value.agg #[.string (str x.note.topic), pv, .int .i64 x.note.qos, .bool x.note.retain, .string (str x.note.src), .int .i64 x.note.expires, qw, .int .i64 x.note.origin, .int .i64 x.note.number, .int .i64 x.note.hops, .int .i64 x.qos, .bool x.keep, ev, .string (str x.share)])] w R := by
  obtain ⟨NB, MB, GB, GM, sv, qv, fv, hx⟩ := h
  have HR := Lib.hid hR
  have HC := Lib.hid hc
  have HBD := Lib.hid hB
  obtain ⟨⟨pa, pc, rfl⟩, ⟨qa, qc, rfl⟩, ea, ec, rfl⟩ := hc.shape
  obtain ⟨va, vc, rfl⟩ : ∃ a c, qv = .slice a s.queue.length c := by
    obtain ⟨ps, _, h2, _⟩ := hx.hq
    exact h2.shape
  obtain ⟨n, hn⟩ : ∃ n, s.queue.length = n := ⟨_, rfl⟩
  rw [hn] at hx hl
  have HX := Lib.hid hx
  have HN := Lib.hid hn
  clear hR hB hc hx hn
  have hl' : ¬ (8 : Int) ≤ (n : Int) := by omega
  have hb0 : Below w.heap.size w (w.alloc (Obj.cells #[.string (str x.note.topic), (.slice pa x.note.payload.length pc), .int .i64 x.note.qos, .bool x.note.retain, .string (str x.note.src), .int .i64 x.note.expires, (.slice qa x.note.props.length qc), .int .i64 x.note.origin, .int .i64 x.note.number, .int .i64 x.note.hops, .int .i64 x.qos, .bool x.keep, (.slice ea x.ids.length ec), .string (str x.share)] 44)) := (Below.refl _ _).alloc (Nat.le_refl _) _
  have HB0 := Lib.hid hb0
  have HI0 := Lib.hid (heap_alloc_new w (Obj.cells #[.string (str x.note.topic), (.slice pa x.note.payload.length pc), .int .i64 x.note.qos, .bool x.note.retain, .string (str x.note.src), .int .i64 x.note.expires, (.slice qa x.note.props.length qc), .int .i64 x.note.origin, .int .i64 x.note.number, .int .i64 x.note.hops, .int .i64 x.qos, .bool x.keep, (.slice ea x.ids.length ec), .string (str x.share)] 44))
  have c6 := (ss9 (HX.out.below hb0).hS).2.2.1
  clear hb0
  go_enter Try.func9, Try.ntmps9
  go_wp2_with fail
  clear c6
  generalize w.alloc (Obj.cells #[.string (str x.note.topic), (.slice pa x.note.payload.length pc), .int .i64 x.note.qos, .bool x.note.retain, .string (str x.note.src), .int .i64 x.note.expires, (.slice qa x.note.props.length qc), .int .i64 x.note.origin, .int .i64 x.note.number, .int .i64 x.note.hops, .int .i64 x.qos, .bool x.keep, (.slice ea x.ids.length ec), .string (str x.share)] 44) = w1 at HB0 HI0 ⊢
  have hd1 : Below w.heap.size w w1.drew := HB0.out.drew
  have HX1 := Lib.hid (HX.out.below hd1)
  have HC1 := Lib.hid (HC.out.below hd1)
  have c6 := (ss9 HX1.out.hS).2.2.1
  obtain ⟨⟨i0, i1, i2, i3, i4, i5, i6⟩, i7, i8, i9, i10, i11, i12, i13⟩ := it14 (w := w1.drew) HI0.out
  obtain ⟨ps, hps, hrow, hcon, hown⟩ := HX1.out.hq
  rw [HN.out] at hrow
  have HPS := Lib.hid hps
  have HROW := Lib.hid hrow
  have HCON := Lib.hid hcon
  clear hps hrow hcon hown
  go_region_law (first
    | (go_simp; go_at_call 20; refine icopy_any x _ _ _ w1.drew HC1.out HBD.out _ ?_; intro pa3 pc3 qa3 qc3 ea3 ec3 w3 ho3 hb3; have c63 := cell_later hb3 c6; have hy4 : Below w3.heap.size w3 (w3.alloc (Obj.cells #[.string (str x.note.topic), (.slice pa3 x.note.payload.length pc3), .int .i64 x.note.qos, .bool x.note.retain, .string (str x.note.src), .int .i64 x.note.expires, (.slice qa3 x.note.props.length qc3), .int .i64 x.note.origin, .int .i64 x.note.number, .int .i64 x.note.hops, .int .i64 x.qos, .bool x.keep, (.slice ea3 x.ids.length ec3), .string (str x.share)] 44)) := (Below.refl _ _).alloc (Nat.le_refl _) _; have c64 := cell_later hy4 c63; have hb4 := below_tra hb3 hy4; have hx4 := HX1.out.below hb4; have hrow4 := HROW.out.below hb4)
    | refine step_appA (by rfl) (.tmp 15) (.tmp 18) 51 (by rfl) 44 (Value.agg #[.string ⟨#[]⟩, .slice none 0 0, .int .i64 0, .bool false, .string ⟨#[]⟩, .int .i64 0, .slice none 0 0, .int .i64 0, .int .i64 0, .int .i64 0, .int .i64 0, .bool false, .slice none 0 0, .string ⟨#[]⟩]) 14 184 Try.underlying51 infoIm rfl (by decide) (.slice va n vc) n _ (by rfl) hrow4 ⟨w3.heap.size, 0, none⟩ 1 1 [.string (str x.note.topic), (.slice pa3 x.note.payload.length pc3), .int .i64 x.note.qos, .bool x.note.retain, .string (str x.note.src), .int .i64 x.note.expires, (.slice qa3 x.note.props.length qc3), .int .i64 x.note.origin, .int .i64 x.note.number, .int .i64 x.note.hops, .int .i64 x.qos, .bool x.keep, (.slice ea3 x.ids.length ec3), .string (str x.share)] (by rfl) (rd_lit w3 #[.string (str x.note.topic), (.slice pa3 x.note.payload.length pc3), .int .i64 x.note.qos, .bool x.note.retain, .string (str x.note.src), .int .i64 x.note.expires, (.slice qa3 x.note.props.length qc3), .int .i64 x.note.origin, .int .i64 x.note.number, .int .i64 x.note.hops, .int .i64 x.qos, .bool x.keep, (.slice ea3 x.ids.length ec3), .string (str x.share)] 44 14 1 rfl) (im_oneCell _ _ _ _ _ _ _) (by unfold maxLen; omega) (by omega) (by omega) ?_; intro ad5 c5 w5 hrow5 happ5; have r5 := happ5.row hrow4 hx4.hS (by decide); have c65 := (ss9 r5).2.2.1; have f65 := frozen_block r5 6)
  all_goals
    have hx8 : ImS (w3.alloc (Obj.cells #[.string (str x.note.topic), (.slice pa3 x.note.payload.length pc3), .int .i64 x.note.qos, .bool x.note.retain, .string (str x.note.src), .int .i64 x.note.expires, (.slice qa3 x.note.props.length qc3), .int .i64 x.note.origin, .int .i64 x.note.number, .int .i64 x.note.hops, .int .i64 x.qos, .bool x.keep, (.slice ea3 x.ids.length ec3), .string (str x.share)] 44)) M (.slice pa3 x.note.payload.length pc3, .slice qa3 x.note.props.length qc3, .slice ea3 x.ids.length ec3) x := ⟨(((ho3.wr HX1.out.lt).sep (Sep.wr (.of_below hy4))).imp fun y hy => hy.c HBD.out), HBD.out⟩
    obtain ⟨M', hx9, hs9⟩ := SX.push hx4 HPS.out (fun p hp => (HCON.out p hp).sep (.of_below hb4)) hx8 (by rw [HN.out]; exact hrow5) happ5 hrow4.kind
    have hs10 : Sep M M' w _ := (Sep.of_below (below_then hd1 hb4 hd1.size)).trans hs9
    have HX9 := Lib.hid hx9
    have HS10 := Lib.hid hs10
    clear hx8 hx9 hs9 hs10 r5 c65 f65 happ5 hrow5 hrow4 hx4 hb4 c64 hy4 c63 hb3 ho3 i0 i1 i2 i3 i4 i5 i6 i7 i8 i9 i10 i11 i12 i13 c6 hd1
    go_wp2_with fail
    exact HR.out M' _ ⟨NB, MB, GB, GM, sv, _, fv, HX9.out⟩ HS10.out
end Go.Proofs.Ytgimbocoamnkjaa
