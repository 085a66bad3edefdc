/- A session that a law made and uses: one structure for its memory; each use as one step. -/
import Derived.Test.YtgimbocoamnkjaaBndP
import Derived.Test.YtgimbocoamnkjaaQue
import Derived.Test.YtgimbocoamnkjaaFltW
namespace Go.Proofs.Ytgimbocoamnkjaa
open Go.RowKit

theorem cells_mid {w : World} {N t : Nat} {fr : Nat × Nat} {a L : List Value} (k n : Nat) (hN : w.heap[N]? = some (.cells a.toArray t fr)) (hL : L = (a.drop k).take n) : ∀ j, j < L.length → w.cell? ⟨N, k + j, none⟩ = L[j]? := by
  intro j hj
  subst hL
  have hj' : j < n := by rw [List.length_take] at hj; omega
  rw [cell_of_row w N (k + j) _ _ _ hN, List.getElem?_take_of_lt hj', List.getElem?_drop]
  simp
/-- A session of the law's own in block S; what was below W stays. -/
structure SW (W w : World) (S : Nat) (s : Sess) : Prop where
  ex : ∃ M, SR w M S s ∧ ∀ b, M b → W.heap.size ≤ b
  low : Below W.heap.size W w
theorem SW.step {W w w' : World} {M M' : Nat → Prop} {S : Nat} {s' : Sess} (hl : Below W.heap.size W w) (hM : ∀ b, M b → W.heap.size ≤ b) (h : SR w' M' S s') (hs : Sep M M' w w') : SW W w' S s' :=
  ⟨⟨M', h, fun b hb => by
    rcases hs.new b hb with h1 | h1
    · exact hM b h1
    · exact Nat.le_trans hl.size h1⟩, below_then hl (hs.low hl.size hM) (Nat.le_refl _)⟩
theorem SW.below {W w w' : World} {S : Nat} {s : Sess} (h : SW W w S s) (hb : Below w.heap.size w w') : SW W w' S s := by
  obtain ⟨M, h1, h2⟩ := h.ex
  exact ⟨⟨M, h1.below hb, h2⟩, below_then h.low hb h.low.size⟩

/-- The like, and a block K of the law's own that the session does not write. -/
structure SWK (W w : World) (S : Nat) (s : Sess) (K : Nat) (o : Obj) : Prop where
  ex : ∃ M, SR w M S s ∧ (∀ b, M b → W.heap.size ≤ b) ∧ ¬ M K
  low : Below W.heap.size W w
  blk : w.heap[K]? = some o
theorem SWK.sw {W w : World} {S K : Nat} {s : Sess} {o : Obj} (h : SWK W w S s K o) : SW W w S s := by
  obtain ⟨M, h1, h2, _⟩ := h.ex
  exact ⟨⟨M, h1, h2⟩, h.low⟩
theorem SWK.new {W w : World} {S : Nat} {s : Sess} (h : SW W w S s) (o : Obj) : SWK W (w.alloc o) S s w.heap.size o := by
  obtain ⟨M, h1, h2⟩ := h.ex
  have hb := (Below.refl w.heap.size w).alloc (Nat.le_refl _) o
  refine ⟨⟨M, h1.below hb, h2, fun hm => ?_⟩, below_then h.low hb h.low.size, heap_alloc_new w o⟩
  obtain ⟨NB, MB, GB, GM, sv, qv, fv, hx⟩ := h1
  have := hx.lt _ hm
  omega
theorem SWK.below {W w w' : World} {S K : Nat} {s : Sess} {o : Obj} (h : SWK W w S s K o) (hb : Below w.heap.size w w') : SWK W w' S s K o := by
  obtain ⟨M, h1, h2, h3⟩ := h.ex
  exact ⟨⟨M, h1.below hb, h2, h3⟩, below_then h.low hb h.low.size, (hb.block _ (Array.getElem?_eq_some_iff.1 h.blk).1).trans h.blk⟩
theorem SWK.step {W w w' : World} {M M' : Nat → Prop} {S K : Nat} {s' : Sess} {o : Obj} (hl : Below W.heap.size W w) (hM : ∀ b, M b → W.heap.size ≤ b) (hK : ¬ M K) (hblk : w.heap[K]? = some o) (h : SR w' M' S s') (hs : Sep M M' w w') : SWK W w' S s' K o := by
  have hlt := (Array.getElem?_eq_some_iff.1 hblk).1
  have h1 := SW.step hl hM h hs
  refine ⟨⟨M', h, fun b hb => ?_, fun hm => ?_⟩, h1.low, (hs.block K hlt hK).trans hblk⟩
  · rcases hs.new b hb with h2 | h2
    · exact hM b h2
    · exact Nat.le_trans hl.size h2
  · rcases hs.new K hm with h2 | h2
    · exact hK h2
    · omega

/-- What Push does. -/
def pushS (s : Sess) (x : Im) : Sess × Bool := if s.queue.length < 8 then ({ s with queue := s.queue ++ [x] }, true) else (s, false)
theorem SInv.pushS {s : Sess} {x : Im} (h : SInv s) (hx : 0 ≤ x.qos) : SInv (pushS s x).1 := by
  unfold Go.Proofs.Ytgimbocoamnkjaa.pushS
  split
  · rename_i hl
    exact h.push hl hx
  · exact h

theorem push_any (S : Nat) (s : Sess) (x : Im) (b : Bool) (s' : Sess) (hs : pushS s x = (s', b)) (hi : SInv s) (pv qw ev : Value) (w : World) (M : Nat → Prop) (h : SR w M S s) (hc : ImC w pv qw ev x) (hB : ImB x) (R : Ending → World → Prop)
    (hR : ∀ M' w', SR w' M' S s' → Sep M M' w w' → R (.returned (.bool b)) w') :
    Calls Try.prog 9 #[.pointer (some ⟨S, 0, none⟩), (Value.agg #[.string (str x.note.topic), pv, .int .i64 x.note.qos, .bool x.note.retain, .string (str x.note.src), .int .i64 x.note.expires, qw, .int .i64 x.note.origin, .int .i64 x.note.number, .int .i64 x.note.hops, .int .i64 x.qos, .bool x.keep, ev, .string (str x.share)])] w R := by
  unfold pushS at hs
  by_cases hl : s.queue.length < 8
  · rw [if_pos hl] at hs
    cases hs
    exact push_yes S s x pv qw ev w M h hl hc hB R hR
  · rw [if_neg hl] at hs
    cases hs
    have := hi.qn
    exact push_no S s _ w M h (by omega) (by omega) R fun w' hb => hR M w' (h.below hb) (.of_below hb)

theorem push_sw (S : Nat) (s : Sess) (x : Im) (b : Bool) (s' : Sess) (hs : pushS s x = (s', b)) (hi : SInv s) (pv qw ev : Value) (W w : World) (h : SW W w S s) (hc : ImC w pv qw ev x) (hB : ImB x) (R : Ending → World → Prop)
    (hR : ∀ w', SW W w' S s' → R (.returned (.bool b)) w') :
    Calls Try.prog 9 #[.pointer (some ⟨S, 0, none⟩), (Value.agg #[.string (str x.note.topic), pv, .int .i64 x.note.qos, .bool x.note.retain, .string (str x.note.src), .int .i64 x.note.expires, qw, .int .i64 x.note.origin, .int .i64 x.note.number, .int .i64 x.note.hops, .int .i64 x.qos, .bool x.keep, ev, .string (str x.share)])] w R := by
  obtain ⟨M, h1, h2⟩ := h.ex
  exact push_any S s x b s' hs hi pv qw ev w M h1 hc hB R fun M' w' k1 k2 => hR w' (.step h.low h2 k1 k2)
theorem next_sw (S : Nat) (s : Sess) (win : Int) (hi : SInv s) (W w : World) (h : SW W w S s) (R : Ending → World → Prop)
    (hR : ∀ x id ok s' pa pc qa qc ea ec w', NextR s win x id ok s' → SW W w' S s' → ImC w' (.slice pa x.note.payload.length pc) (.slice qa x.note.props.length qc) (.slice ea x.ids.length ec) x → ImB x →
      R (.returned (.tuple #[(Value.agg #[.string (str x.note.topic), (.slice pa x.note.payload.length pc), .int .i64 x.note.qos, .bool x.note.retain, .string (str x.note.src), .int .i64 x.note.expires, (.slice qa x.note.props.length qc), .int .i64 x.note.origin, .int .i64 x.note.number, .int .i64 x.note.hops, .int .i64 x.qos, .bool x.keep, (.slice ea x.ids.length ec), .string (str x.share)]), .int .i64 id, .bool ok])) w') :
    Calls Try.prog 11 #[.pointer (some ⟨S, 0, none⟩), .int .i64 win] w R := by
  obtain ⟨M, h1, h2⟩ := h.ex
  exact next_any S s win hi w M h1 R fun x id ok s' B M' pa pc qa qc ea ec w' k1 k2 k3 k4 k5 k6 k7 => hR x id ok s' pa pc qa qc ea ec w' k1 (.step h.low h2 k2 k3) (k4.c k7) k7
theorem next_sk (S : Nat) (s : Sess) (win : Int) (hi : SInv s) (W w : World) (K : Nat) (o : Obj) (h : SWK W w S s K o) (R : Ending → World → Prop)
    (hR : ∀ x id ok s' pa pc qa qc ea ec w', NextR s win x id ok s' → SWK W w' S s' K o → ImC w' (.slice pa x.note.payload.length pc) (.slice qa x.note.props.length qc) (.slice ea x.ids.length ec) x → ImB x →
      R (.returned (.tuple #[(Value.agg #[.string (str x.note.topic), (.slice pa x.note.payload.length pc), .int .i64 x.note.qos, .bool x.note.retain, .string (str x.note.src), .int .i64 x.note.expires, (.slice qa x.note.props.length qc), .int .i64 x.note.origin, .int .i64 x.note.number, .int .i64 x.note.hops, .int .i64 x.qos, .bool x.keep, (.slice ea x.ids.length ec), .string (str x.share)]), .int .i64 id, .bool ok])) w') :
    Calls Try.prog 11 #[.pointer (some ⟨S, 0, none⟩), .int .i64 win] w R := by
  obtain ⟨M, h1, h2, h3⟩ := h.ex
  exact next_any S s win hi w M h1 R fun x id ok s' B M' pa pc qa qc ea ec w' k1 k2 k3 k4 k5 k6 k7 => hR x id ok s' pa pc qa qc ea ec w' k1 (.step h.low h2 h3 h.blk k2 k3) (k4.c k7) k7
theorem ack_sw (S : Nat) (s : Sess) (id z : Int) (hz : idxP (hitF id [1]) s.flights = z) (hi : SInv s) (W w : World) (h : SW W w S s) (R : Ending → World → Prop)
    (hR : ∀ w', SW W w' S (landS s z) → R (.returned (.bool (decide (0 ≤ z)))) w') :
    Calls Try.prog 12 #[.pointer (some ⟨S, 0, none⟩), .int .i64 id] w R := by
  obtain ⟨M, h1, h2⟩ := h.ex
  have := hi.fn
  exact ack_any S s id z hz hi.i64 (by omega) w M h1 R fun M' w' k1 k2 => hR w' (.step h.low h2 k1 k2)
theorem comp_sw (S : Nat) (s : Sess) (id z : Int) (hz : idxP (hitF id [3]) s.flights = z) (hi : SInv s) (W w : World) (h : SW W w S s) (R : Ending → World → Prop)
    (hR : ∀ w', SW W w' S (landS s z) → R (.returned (.bool (decide (0 ≤ z)))) w') :
    Calls Try.prog 14 #[.pointer (some ⟨S, 0, none⟩), .int .i64 id] w R := by
  obtain ⟨M, h1, h2⟩ := h.ex
  have := hi.fn
  exact comp_any S s id z hz hi.i64 (by omega) w M h1 R fun M' w' k1 k2 => hR w' (.step h.low h2 k1 k2)
theorem rec_sw (S : Nat) (s : Sess) (num : Int) (fine : Bool) (z : Int) (hz : idxP (hitF num [2, 3]) s.flights = z) (s' : Sess) (a b : Bool) (hr : recS s z fine = (s', a, b)) (hi : SInv s) (W w : World) (h : SW W w S s) (R : Ending → World → Prop)
    (hR : ∀ w', SW W w' S s' → R (.returned (.tuple #[.bool a, .bool b])) w') :
    Calls Try.prog 13 #[.pointer (some ⟨S, 0, none⟩), .int .i64 num, .bool fine] w R := by
  obtain ⟨M, h1, h2⟩ := h.ex
  have := hi.fn
  exact rec_any S s num fine z hz hi.i64 (by omega) s' a b hr w M h1 R fun M' w' k1 k2 => hR w' (.step h.low h2 k1 k2)
/-- How many flights there are. -/
theorem flights_sw (S : Nat) (s : Sess) (n : Nat) (hn : s.flights.length = n) (hi : SInv s) (W w : World) (h : SW W w S s) (R : Ending → World → Prop)
    (hR : ∀ ad c (qs : List (V3 × Fl)) w', qs.map (·.2) = s.flights → w'.ownsRow w.heap.size 54 16 (.slice ad n c) n (qs.flatMap flP) → SW W w' S s → Below w.heap.size w w' → R (.returned (.slice ad n c)) w') :
    Calls Try.prog 7 #[.pointer (some ⟨S, 0, none⟩)] w R := by
  subst hn
  obtain ⟨M, h1, h2⟩ := h.ex
  have := hi.fn
  exact flights_any S s (by omega) w M h1 R fun ad c qs w' k1 k2 k3 k4 k5 => hR ad c qs w' k1 k2 (h.below k5) k5
theorem queue_sw (S : Nat) (s : Sess) (n : Nat) (hn : s.queue.length = n) (hi : SInv s) (W w : World) (h : SW W w S s) (R : Ending → World → Prop)
    (hR : ∀ ad c w', SW W w' S s → Below w.heap.size w w' → R (.returned (.slice ad n c)) w') :
    Calls Try.prog 15 #[.pointer (some ⟨S, 0, none⟩)] w R := by
  subst hn
  obtain ⟨M, h1, h2⟩ := h.ex
  have := hi.qn
  exact queue_any S s (by omega) w M h1 R fun ad c qs w' k1 k2 k3 k4 k5 => hR ad c w' (h.below k5) k5
theorem new_sw (l : List UInt8) (w : World) (R : Ending → World → Prop)
    (hR : ∀ S w', SW w w' S (newS l) → R (.returned (.pointer (some ⟨S, 0, none⟩))) w') :
    Calls Try.prog 5 #[.string (str l)] w R :=
  snew_any l w R fun S M w' h1 h2 h3 => hR S w' ⟨⟨M, h1, h2⟩, h3⟩
theorem client_sw (S : Nat) (s : Sess) (W w : World) (h : SW W w S s) (R : Ending → World → Prop)
    (hR : R (.returned (.string (str s.client))) w) :
    Calls Try.prog 18 #[.pointer (some ⟨S, 0, none⟩)] w R := by
  obtain ⟨M, h1, h2⟩ := h.ex
  exact client_any S s w M h1 R hR
end Go.Proofs.Ytgimbocoamnkjaa
