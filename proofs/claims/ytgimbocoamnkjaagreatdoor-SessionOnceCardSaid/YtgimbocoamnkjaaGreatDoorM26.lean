/- Sessions in use: what stays true of them (plain). -/
import Derived.Test.YtgimbocoamnkjaaGreatDoorM20
import Derived.Test.YtgimbocoamnkjaaGreatDoorM24
import Derived.Test.YtgimbocoamnkjaaGreatDoorM25
import Derived.Test.YtgimbocoamnkjaaGreatDoorM23
import Derived.Test.YtgimbocoamnkjaaGreatDoorM18
namespace Go.Proofs.YtgimbocoamnkjaaGreatDoor
open Go.RowKit

theorem erase_at : ∀ (l : List Int) (i : Nat) (h : i < l.length), l.Nodup → l.erase l[i] = l.eraseIdx i
  | [], i, h, _ => by simp at h
  | x :: l, 0, h, _ => by simp
  | x :: l, i + 1, h, hn => by
    have hn2 := List.nodup_cons.1 hn
    have hi : i < l.length := by simpa using h
    have hne : x ≠ l[i] := fun e => hn2.1 (e ▸ List.getElem_mem hi)
    rw [List.getElem_cons_succ, List.eraseIdx_cons_succ, List.erase_cons_tail (by simpa using hne), erase_at l i hi hn2.2]
theorem map_eraseIdx {α β : Type} (f : α → β) : ∀ (l : List α) (i : Nat), (l.eraseIdx i).map f = (l.map f).eraseIdx i
  | [], i => by simp
  | x :: l, 0 => by simp
  | x :: l, i + 1 => by rw [List.eraseIdx_cons_succ, List.map_cons, List.map_cons, List.eraseIdx_cons_succ, map_eraseIdx f l i]

/-- A session that came about by use. -/
structure SInv (s : Sess) : Prop where
  qn : s.queue.length ≤ 8
  fn : s.flights.length ≤ 8
  eq : s.nums = s.flights.map (·.id)
  nd : s.nums.Nodup
  rg : ∀ f ∈ s.flights, 1 ≤ f.id ∧ f.id ≤ 8
  qq : ∀ x ∈ s.queue, 0 ≤ x.qos
theorem SInv.new (l : List UInt8) : SInv (newS l) := ⟨by simp [newS], by simp [newS], rfl, .nil, by simp [newS], by simp [newS]⟩
theorem SInv.i64 {s : Sess} (h : SInv s) : ∀ f ∈ s.flights, I64 f.id := fun f hf => by
  have := h.rg f hf
  exact ⟨by omega, by omega⟩
theorem SInv.push {s : Sess} {x : Im} (h : SInv s) (hl : s.queue.length < 8) (hx : 0 ≤ x.qos) : SInv { s with queue := s.queue ++ [x] } :=
  ⟨by show (s.queue ++ [x]).length ≤ 8; rw [List.length_append]; show _ + 1 ≤ 8; omega, h.fn, h.eq, h.nd, h.rg, fun y hy => by
    rcases List.mem_append.1 hy with hy | hy
    · exact h.qq y hy
    · obtain rfl := List.mem_singleton.1 hy
      exact hx⟩
theorem SInv.pop {s : Sess} {x : Im} {rest : List Im} (h : SInv s) (hq : s.queue = x :: rest) : SInv { s with queue := rest } :=
  ⟨by have := h.qn; rw [hq, List.length_cons] at this; show rest.length ≤ 8; omega, h.fn, h.eq, h.nd, h.rg, fun y hy => h.qq y (by rw [hq]; exact List.mem_cons_of_mem _ hy)⟩
theorem SInv.fly {s : Sess} {x : Im} {rest : List Im} {d : Nat} {q : Int} (h : SInv s) (hq : s.queue = x :: rest) (hf : s.flights.length < 8) (h1 : 1 ≤ d) (h2 : d ≤ s.nums.length + 1) (hc : s.nums.contains (d : Int) = false) :
    SInv { s with queue := rest, nums := s.nums ++ [(d : Int)], flights := s.flights ++ [⟨d, q, x⟩] } := by
  have hp := h.pop hq
  have hnl : s.nums.length = s.flights.length := by rw [h.eq, List.length_map]
  refine ⟨hp.qn, ?_, ?_, ?_, ?_, hp.qq⟩
  · show (s.flights ++ [(⟨d, q, x⟩ : Fl)]).length ≤ 8
    rw [List.length_append]
    show _ + 1 ≤ 8
    omega
  · show s.nums ++ [(d : Int)] = (s.flights ++ [(⟨d, q, x⟩ : Fl)]).map (·.id)
    rw [List.map_append, h.eq]
    rfl
  · show (s.nums ++ [(d : Int)]).Nodup
    rw [List.nodup_append]
    refine ⟨h.nd, by simp, fun a ha b hb => ?_⟩
    obtain rfl := List.mem_singleton.1 hb
    rintro rfl
    simp at hc
    exact hc ha
  · intro f hf'
    rcases List.mem_append.1 hf' with hf' | hf'
    · exact h.rg f hf'
    · obtain rfl := List.mem_singleton.1 hf'
      exact ⟨by show (1 : Int) ≤ (d : Int); omega, by show (d : Int) ≤ 8; omega⟩
theorem SInv.land {s : Sess} {z : Int} {p : Fl → Bool} (h : SInv s) (hz : idxP p s.flights = z) : SInv (landS s z) := by
  unfold landS
  split
  · exact h
  · obtain ⟨k, hk, rfl, _⟩ := idxP_some hz (by omega)
    simp only [Int.toNat_natCast, List.getElem?_eq_getElem hk, Option.map_some, Option.getD_some]
    have hk2 : k < (s.flights.map (·.id)).length := by rw [List.length_map]; exact hk
    refine ⟨h.qn, ?_, ?_, h.nd.erase _, fun f hf => h.rg f (List.mem_of_mem_eraseIdx hf), h.qq⟩
    · show (s.flights.eraseIdx k).length ≤ 8
      have := h.fn
      rw [List.length_eraseIdx]
      split <;> omega
    · show s.nums.erase (s.flights[k]).id = (s.flights.eraseIdx k).map (·.id)
      rw [map_eraseIdx, h.eq]
      have hn : (s.flights.map (·.id)).Nodup := h.eq ▸ h.nd
      have := erase_at (s.flights.map (·.id)) k hk2 hn
      rwa [List.getElem_map] at this
theorem landS_len {s : Sess} {z : Int} {p : Fl → Bool} (hz : idxP p s.flights = z) (h0 : 0 ≤ z) : (landS s z).flights.length + 1 = s.flights.length := by
  unfold landS
  rw [if_neg (by omega)]
  obtain ⟨k, hk, rfl, _⟩ := idxP_some hz h0
  show (s.flights.eraseIdx (k : Int).toNat).length + 1 = _
  rw [Int.toNat_natCast, List.length_eraseIdx, if_pos hk]
  omega
theorem SInv.recd {s s' : Sess} {z : Int} {p : Fl → Bool} {fine a b : Bool} (h : SInv s) (hz : idxP p s.flights = z) (hr : recS s z fine = (s', a, b)) : SInv s' := by
  by_cases hn : z < 0
  · rw [recS_neg hn] at hr
    cases hr
    exact h
  · obtain ⟨k, hk, rfl, _⟩ := idxP_some hz (by omega)
    rw [recS_at hk] at hr
    split at hr
    · cases hr
      exact h
    · split at hr
      · cases hr
        exact h.land hz
      · cases hr
        refine ⟨h.qn, by show (s.flights.set k _).length ≤ 8; rw [List.length_set]; exact h.fn, ?_, h.nd, fun f hf => ?_, h.qq⟩
        · show s.nums = (s.flights.set k _).map (·.id)
          rw [h.eq]
          apply List.ext_getElem
          · simp
          · intro i h1 h2
            rw [List.getElem_map, List.getElem_map, List.getElem_set]
            split
            · rename_i e
              subst e
              rfl
            · rfl
        · rcases List.mem_or_eq_of_mem_set hf with h1 | h1
          · exact h.rg f h1
          · rw [h1]
            exact (h.rg (s.flights[k]) (List.getElem_mem hk) : 1 ≤ (s.flights[k]).id ∧ (s.flights[k]).id ≤ 8)

/-- What Next answers, and what the session is then. -/
inductive NextR (s : Sess) (win : Int) : Im → Int → Bool → Sess → Prop
  | no (h : readyL s win = false) : NextR s win ⟨⟨[], [], 0, false, [], 0, [], 0, 0, 0⟩, 0, false, [], []⟩ 0 false s
  | out (x : Im) (rest : List Im) (hq : s.queue = x :: rest) (h : readyL s win = true) (hz : x.qos = 0) : NextR s win x 0 true { s with queue := rest }
  | fly (x : Im) (rest : List Im) (d : Nat) (hq : s.queue = x :: rest) (h : readyL s win = true) (hz : 0 < x.qos) (h1 : 1 ≤ d) (h2 : d ≤ s.nums.length + 1) (hc : s.nums.contains (d : Int) = false) (ha : ∀ j : Nat, 1 ≤ j → j < d → s.nums.contains (j : Int) = true) :
      NextR s win x (d : Int) true { s with queue := rest, nums := s.nums ++ [(d : Int)], flights := s.flights ++ [⟨d, x.qos, x⟩] }
theorem ready_room {s : Sess} {win : Int} {x : Im} {rest : List Im} (hq : s.queue = x :: rest) (h : readyL s win = true) (hz : 0 < x.qos) : (s.flights.length : Int) < win ∧ s.flights.length < 8 := by
  unfold readyL at h
  rw [hq] at h
  simp only [Bool.or_eq_true, beq_iff_eq, Bool.and_eq_true, decide_eq_true_eq] at h
  rcases h with h | h
  · omega
  · exact h
theorem NextR.inv {s s' : Sess} {win id : Int} {x : Im} {ok : Bool} (h : SInv s) (hn : NextR s win x id ok s') : SInv s' := by
  cases hn with
  | no _ => exact h
  | out x rest hq _ _ => exact h.pop hq
  | fly x rest d hq hr hz h1 h2 hc ha => exact h.fly hq (ready_room hq hr hz).2 h1 h2 hc

/-- What SessionBounds asks of Next. -/
theorem NextR.asks {s s' : Sess} {win id : Int} {x : Im} {ok : Bool} (hn : NextR s win x id ok s') :
    (ok = false ∧ id = 0) ∨ (ok = true ∧ id = 0 ∧ s'.flights.length = s.flights.length) ∨ (ok = true ∧ 0 < id ∧ (s.flights.length : Int) < win ∧ s.flights.length < 8 ∧ s'.flights.length = s.flights.length + 1) := by
  cases hn with
  | no _ => exact .inl ⟨rfl, rfl⟩
  | out x rest hq _ _ => exact .inr (.inl ⟨rfl, rfl, rfl⟩)
  | fly x rest d hq hr hz h1 h2 hc ha =>
    have := ready_room hq hr hz
    exact .inr (.inr ⟨rfl, by omega, this.1, this.2, by show (s.flights ++ [_]).length = _; rw [List.length_append]; rfl⟩)

theorem next_any (S : Nat) (s : Sess) (win : Int) (hi : SInv s) (w : World) (M : Nat → Prop) (h : SR w M S s) (R : Ending → World → Prop)
    (hR : ∀ x id ok s' B M' pa pc qa qc ea ec w', NextR s win x id ok s' → SR w' M' S s' → Sep M M' w w' → ImO w' B (.slice pa x.note.payload.length pc) (.slice qa x.note.props.length qc) (.slice ea x.ids.length ec) x → w.heap.size ≤ B → (∀ b, M' b → b < B) → ImB x →
      R (.returned (.tuple #[(Value.agg #[.string (str x.note.topic), (.slice pa x.note.payload.length pc), .int .i64 x.note.qos, .bool x.note.retain, .string (str x.note.src), .int .i64 x.note.expires, (.slice qa x.note.props.length qc), .int .i64 x.note.origin, .int .i64 x.note.number, .int .i64 x.note.hops, .int .i64 x.qos, .bool x.keep, (.slice ea x.ids.length ec), .string (str x.share)]), .int .i64 id, .bool ok])) w') :
    Calls Tryz.prog 10 #[.pointer (some ⟨S, 0, none⟩), .int .i64 win] w R := by
  have hq8 := hi.qn
  have hf8 := hi.fn
  have hnl : s.nums.length = s.flights.length := by rw [hi.eq, List.length_map]
  cases hr : readyL s win with
  | false =>
    refine next_no S s win hr w M h (by omega) R fun w' hb => ?_
    have hM : ∀ b, M b → b < w'.heap.size := fun b hm => by
      obtain ⟨NB, MB, GB, GM, sv, qv, fv, hx⟩ := h
      have := hx.lt b hm
      have := hb.size
      omega
    exact hR _ _ _ _ w'.heap.size M none 0 none 0 none 0 w' (.no hr) (h.below hb) (.of_below hb) ⟨World.ownsRow_nil _ _ _ _, PsO.nil _ _, World.ownsRow_nil _ _ _ _⟩ hb.size hM imZ_bounds
  | true =>
    cases hq : s.queue with
    | nil =>
      unfold readyL at hr
      rw [hq] at hr
      simp at hr
    | cons x rest =>
      have hx := hi.qq x (by rw [hq]; exact List.mem_cons_self)
      by_cases hz : x.qos = 0
      · exact next_0 S s x rest hq win hr hz w M h (by omega) R fun B M' pa pc qa qc ea ec w' h1 h2 h3 h4 h5 h6 => hR _ _ _ _ B M' pa pc qa qc ea ec w' (.out x rest hq hr hz) h1 h2 h3 h4 h5 h6
      · obtain ⟨d, d1, d2, d3, d4⟩ := least_free s.nums
        exact next_1 S s x rest hq win hr (by omega) d d1 (by omega) d3 d4 (by omega) (by omega) w M h (by omega) R fun B M' pa pc qa qc ea ec w' h1 h2 h3 h4 h5 h6 => hR _ _ _ _ B M' pa pc qa qc ea ec w' (.fly x rest d hq hr (by omega) d1 d2 d3 d4) h1 h2 h3 h4 h5 h6
end Go.Proofs.YtgimbocoamnkjaaGreatDoor

/- A session that a law made and uses: one structure for its memory; each use as one step. -/
namespace Go.Proofs.YtgimbocoamnkjaaGreatDoor
open Go.RowKit

theorem cells_mid {w : World} {N t : Nat} {fr : Nat × Nat} {a L : List Value} (k n : Nat) (hN : w.heap[N]? = some (.cells a.toArray t fr)) (hL : L = (a.drop k).take n) : ∀ j, j < L.length → w.cell? ⟨N, k + j, none⟩ = L[j]? := by
  intro j hj
  subst hL
  have hj' : j < n := by rw [List.length_take] at hj; omega
  rw [cell_of_row w N (k + j) _ _ _ hN, List.getElem?_take_of_lt hj', List.getElem?_drop]
  simp
/-- A session of the law's own in block S; what was below W stays. -/
structure SW (W w : World) (S : Nat) (s : Sess) : Prop where
  ex : ∃ M, SR w M S s ∧ ∀ b, M b → W.heap.size ≤ b
  low : Below W.heap.size W w
theorem SW.step {W w w' : World} {M M' : Nat → Prop} {S : Nat} {s' : Sess} (hl : Below W.heap.size W w) (hM : ∀ b, M b → W.heap.size ≤ b) (h : SR w' M' S s') (hs : Sep M M' w w') : SW W w' S s' :=
  ⟨⟨M', h, fun b hb => by
    rcases hs.new b hb with h1 | h1
    · exact hM b h1
    · exact Nat.le_trans hl.size h1⟩, below_then hl (hs.low hl.size hM) (Nat.le_refl _)⟩
theorem SW.below {W w w' : World} {S : Nat} {s : Sess} (h : SW W w S s) (hb : Below w.heap.size w w') : SW W w' S s := by
  obtain ⟨M, h1, h2⟩ := h.ex
  exact ⟨⟨M, h1.below hb, h2⟩, below_then h.low hb h.low.size⟩

/-- The like, and a block K of the law's own that the session does not write. -/
structure SWK (W w : World) (S : Nat) (s : Sess) (K : Nat) (o : Obj) : Prop where
  ex : ∃ M, SR w M S s ∧ (∀ b, M b → W.heap.size ≤ b) ∧ ¬ M K
  low : Below W.heap.size W w
  blk : w.heap[K]? = some o
theorem SWK.sw {W w : World} {S K : Nat} {s : Sess} {o : Obj} (h : SWK W w S s K o) : SW W w S s := by
  obtain ⟨M, h1, h2, _⟩ := h.ex
  exact ⟨⟨M, h1, h2⟩, h.low⟩
theorem SWK.new {W w : World} {S : Nat} {s : Sess} (h : SW W w S s) (o : Obj) : SWK W (w.alloc o) S s w.heap.size o := by
  obtain ⟨M, h1, h2⟩ := h.ex
  have hb := (Below.refl w.heap.size w).alloc (Nat.le_refl _) o
  refine ⟨⟨M, h1.below hb, h2, fun hm => ?_⟩, below_then h.low hb h.low.size, heap_alloc_new w o⟩
  obtain ⟨NB, MB, GB, GM, sv, qv, fv, hx⟩ := h1
  have := hx.lt _ hm
  omega
theorem SWK.below {W w w' : World} {S K : Nat} {s : Sess} {o : Obj} (h : SWK W w S s K o) (hb : Below w.heap.size w w') : SWK W w' S s K o := by
  obtain ⟨M, h1, h2, h3⟩ := h.ex
  exact ⟨⟨M, h1.below hb, h2, h3⟩, below_then h.low hb h.low.size, (hb.block _ (Array.getElem?_eq_some_iff.1 h.blk).1).trans h.blk⟩
theorem SWK.step {W w w' : World} {M M' : Nat → Prop} {S K : Nat} {s' : Sess} {o : Obj} (hl : Below W.heap.size W w) (hM : ∀ b, M b → W.heap.size ≤ b) (hK : ¬ M K) (hblk : w.heap[K]? = some o) (h : SR w' M' S s') (hs : Sep M M' w w') : SWK W w' S s' K o := by
  have hlt := (Array.getElem?_eq_some_iff.1 hblk).1
  have h1 := SW.step hl hM h hs
  refine ⟨⟨M', h, fun b hb => ?_, fun hm => ?_⟩, h1.low, (hs.block K hlt hK).trans hblk⟩
  · rcases hs.new b hb with h2 | h2
    · exact hM b h2
    · exact Nat.le_trans hl.size h2
  · rcases hs.new K hm with h2 | h2
    · exact hK h2
    · omega

/-- What Push does. -/
def pushS (s : Sess) (x : Im) : Sess × Bool := if s.queue.length < 8 then ({ s with queue := s.queue ++ [x] }, true) else (s, false)
theorem SInv.pushS {s : Sess} {x : Im} (h : SInv s) (hx : 0 ≤ x.qos) : SInv (pushS s x).1 := by
  unfold Go.Proofs.YtgimbocoamnkjaaGreatDoor.pushS
  split
  · rename_i hl
    exact h.push hl hx
  · exact h

theorem push_any (S : Nat) (s : Sess) (x : Im) (b : Bool) (s' : Sess) (hs : pushS s x = (s', b)) (hi : SInv s) (pv qw ev : Value) (w : World) (M : Nat → Prop) (h : SR w M S s) (hc : ImC w pv qw ev x) (hB : ImB x) (R : Ending → World → Prop)
    (hR : ∀ M' w', SR w' M' S s' → Sep M M' w w' → R (.returned (.bool b)) w') :
    Calls Tryz.prog 8 #[.pointer (some ⟨S, 0, none⟩), (Value.agg #[.string (str x.note.topic), pv, .int .i64 x.note.qos, .bool x.note.retain, .string (str x.note.src), .int .i64 x.note.expires, qw, .int .i64 x.note.origin, .int .i64 x.note.number, .int .i64 x.note.hops, .int .i64 x.qos, .bool x.keep, ev, .string (str x.share)])] w R := by
  unfold pushS at hs
  by_cases hl : s.queue.length < 8
  · rw [if_pos hl] at hs
    cases hs
    exact push_yes S s x pv qw ev w M h hl hc hB R hR
  · rw [if_neg hl] at hs
    cases hs
    have := hi.qn
    exact push_no S s _ w M h (by omega) (by omega) R fun w' hb => hR M w' (h.below hb) (.of_below hb)

theorem push_sw (S : Nat) (s : Sess) (x : Im) (b : Bool) (s' : Sess) (hs : pushS s x = (s', b)) (hi : SInv s) (pv qw ev : Value) (W w : World) (h : SW W w S s) (hc : ImC w pv qw ev x) (hB : ImB x) (R : Ending → World → Prop)
    (hR : ∀ w', SW W w' S s' → R (.returned (.bool b)) w') :
    Calls Tryz.prog 8 #[.pointer (some ⟨S, 0, none⟩), (Value.agg #[.string (str x.note.topic), pv, .int .i64 x.note.qos, .bool x.note.retain, .string (str x.note.src), .int .i64 x.note.expires, qw, .int .i64 x.note.origin, .int .i64 x.note.number, .int .i64 x.note.hops, .int .i64 x.qos, .bool x.keep, ev, .string (str x.share)])] w R := by
  obtain ⟨M, h1, h2⟩ := h.ex
  exact push_any S s x b s' hs hi pv qw ev w M h1 hc hB R fun M' w' k1 k2 => hR w' (.step h.low h2 k1 k2)
theorem next_sw (S : Nat) (s : Sess) (win : Int) (hi : SInv s) (W w : World) (h : SW W w S s) (R : Ending → World → Prop)
    (hR : ∀ x id ok s' pa pc qa qc ea ec w', NextR s win x id ok s' → SW W w' S s' → ImC w' (.slice pa x.note.payload.length pc) (.slice qa x.note.props.length qc) (.slice ea x.ids.length ec) x → ImB x →
      R (.returned (.tuple #[(Value.agg #[.string (str x.note.topic), (.slice pa x.note.payload.length pc), .int .i64 x.note.qos, .bool x.note.retain, .string (str x.note.src), .int .i64 x.note.expires, (.slice qa x.note.props.length qc), .int .i64 x.note.origin, .int .i64 x.note.number, .int .i64 x.note.hops, .int .i64 x.qos, .bool x.keep, (.slice ea x.ids.length ec), .string (str x.share)]), .int .i64 id, .bool ok])) w') :
    Calls Tryz.prog 10 #[.pointer (some ⟨S, 0, none⟩), .int .i64 win] w R := by
  obtain ⟨M, h1, h2⟩ := h.ex
  exact next_any S s win hi w M h1 R fun x id ok s' B M' pa pc qa qc ea ec w' k1 k2 k3 k4 k5 k6 k7 => hR x id ok s' pa pc qa qc ea ec w' k1 (.step h.low h2 k2 k3) (k4.c k7) k7
theorem next_sk (S : Nat) (s : Sess) (win : Int) (hi : SInv s) (W w : World) (K : Nat) (o : Obj) (h : SWK W w S s K o) (R : Ending → World → Prop)
    (hR : ∀ x id ok s' pa pc qa qc ea ec w', NextR s win x id ok s' → SWK W w' S s' K o → ImC w' (.slice pa x.note.payload.length pc) (.slice qa x.note.props.length qc) (.slice ea x.ids.length ec) x → ImB x →
      R (.returned (.tuple #[(Value.agg #[.string (str x.note.topic), (.slice pa x.note.payload.length pc), .int .i64 x.note.qos, .bool x.note.retain, .string (str x.note.src), .int .i64 x.note.expires, (.slice qa x.note.props.length qc), .int .i64 x.note.origin, .int .i64 x.note.number, .int .i64 x.note.hops, .int .i64 x.qos, .bool x.keep, (.slice ea x.ids.length ec), .string (str x.share)]), .int .i64 id, .bool ok])) w') :
    Calls Tryz.prog 10 #[.pointer (some ⟨S, 0, none⟩), .int .i64 win] w R := by
  obtain ⟨M, h1, h2, h3⟩ := h.ex
  exact next_any S s win hi w M h1 R fun x id ok s' B M' pa pc qa qc ea ec w' k1 k2 k3 k4 k5 k6 k7 => hR x id ok s' pa pc qa qc ea ec w' k1 (.step h.low h2 h3 h.blk k2 k3) (k4.c k7) k7
theorem ack_sw (S : Nat) (s : Sess) (id z : Int) (hz : idxP (hitF id [1]) s.flights = z) (hi : SInv s) (W w : World) (h : SW W w S s) (R : Ending → World → Prop)
    (hR : ∀ w', SW W w' S (landS s z) → R (.returned (.bool (decide (0 ≤ z)))) w') :
    Calls Tryz.prog 12 #[.pointer (some ⟨S, 0, none⟩), .int .i64 id] w R := by
  obtain ⟨M, h1, h2⟩ := h.ex
  have := hi.fn
  exact ack_any S s id z hz hi.i64 (by omega) w M h1 R fun M' w' k1 k2 => hR w' (.step h.low h2 k1 k2)
theorem comp_sw (S : Nat) (s : Sess) (id z : Int) (hz : idxP (hitF id [3]) s.flights = z) (hi : SInv s) (W w : World) (h : SW W w S s) (R : Ending → World → Prop)
    (hR : ∀ w', SW W w' S (landS s z) → R (.returned (.bool (decide (0 ≤ z)))) w') :
    Calls Tryz.prog 18 #[.pointer (some ⟨S, 0, none⟩), .int .i64 id] w R := by
  obtain ⟨M, h1, h2⟩ := h.ex
  have := hi.fn
  exact comp_any S s id z hz hi.i64 (by omega) w M h1 R fun M' w' k1 k2 => hR w' (.step h.low h2 k1 k2)
theorem rec_sw (S : Nat) (s : Sess) (num : Int) (fine : Bool) (z : Int) (hz : idxP (hitF num [2, 3]) s.flights = z) (s' : Sess) (a b : Bool) (hr : recS s z fine = (s', a, b)) (hi : SInv s) (W w : World) (h : SW W w S s) (R : Ending → World → Prop)
    (hR : ∀ w', SW W w' S s' → R (.returned (.tuple #[.bool a, .bool b])) w') :
    Calls Tryz.prog 11 #[.pointer (some ⟨S, 0, none⟩), .int .i64 num, .bool fine] w R := by
  obtain ⟨M, h1, h2⟩ := h.ex
  have := hi.fn
  exact rec_any S s num fine z hz hi.i64 (by omega) s' a b hr w M h1 R fun M' w' k1 k2 => hR w' (.step h.low h2 k1 k2)
/-- How many flights there are. -/
theorem flights_sw (S : Nat) (s : Sess) (n : Nat) (hn : s.flights.length = n) (hi : SInv s) (W w : World) (h : SW W w S s) (R : Ending → World → Prop)
    (hR : ∀ ad c (qs : List (V3 × Fl)) w', qs.map (·.2) = s.flights → w'.ownsRow w.heap.size 51 16 (.slice ad n c) n (qs.flatMap flP) → SW W w' S s → Below w.heap.size w w' → R (.returned (.slice ad n c)) w') :
    Calls Tryz.prog 16 #[.pointer (some ⟨S, 0, none⟩)] w R := by
  subst hn
  obtain ⟨M, h1, h2⟩ := h.ex
  have := hi.fn
  exact flights_any S s (by omega) w M h1 R fun ad c qs w' k1 k2 k3 k4 k5 => hR ad c qs w' k1 k2 (h.below k5) k5
theorem queue_sw (S : Nat) (s : Sess) (n : Nat) (hn : s.queue.length = n) (hi : SInv s) (W w : World) (h : SW W w S s) (R : Ending → World → Prop)
    (hR : ∀ ad c w', SW W w' S s → Below w.heap.size w w' → R (.returned (.slice ad n c)) w') :
    Calls Tryz.prog 25 #[.pointer (some ⟨S, 0, none⟩)] w R := by
  subst hn
  obtain ⟨M, h1, h2⟩ := h.ex
  have := hi.qn
  exact queue_any S s (by omega) w M h1 R fun ad c qs w' k1 k2 k3 k4 k5 => hR ad c w' (h.below k5) k5
theorem new_sw (l : List UInt8) (w : World) (R : Ending → World → Prop)
    (hR : ∀ S w', SW w w' S (newS l) → R (.returned (.pointer (some ⟨S, 0, none⟩))) w') :
    Calls Tryz.prog 6 #[.string (str l)] w R :=
  snew_any l w R fun S M w' h1 h2 h3 => hR S w' ⟨⟨M, h1, h2⟩, h3⟩
theorem client_sw (S : Nat) (s : Sess) (W w : World) (h : SW W w S s) (R : Ending → World → Prop)
    (hR : R (.returned (.string (str s.client))) w) :
    Calls Tryz.prog 36 #[.pointer (some ⟨S, 0, none⟩)] w R := by
  obtain ⟨M, h1, h2⟩ := h.ex
  exact client_any S s w M h1 R hR
end Go.Proofs.YtgimbocoamnkjaaGreatDoor

/- A session that is read: its memory beside the cursor's; (*Session).Set, walked. -/
namespace Go.Proofs.YtgimbocoamnkjaaGreatDoor
open Go.RowKit

/-- An item of whose slices nothing is read. -/
def Void (x : Im) : Prop := x.note.payload = [] ∧ x.note.props = [] ∧ x.ids = []
theorem gI_void (t : List UInt8) : Void (gI t) := ⟨rfl, rfl, rfl⟩
theorem ImC.void {w : World} {pv qv ev : Value} {x : Im} (h : ImC w pv qv ev x) (hx : Void x) (w' : World) : ImC w' pv qv ev x := by
  obtain ⟨⟨topic, payload, nqos, retain, src, expires, props, origin, number, hops⟩, qos, keep, ids, share⟩ := x
  obtain ⟨h1, h2, h3⟩ := hx
  simp only at h1 h2 h3
  subst h1 h2 h3
  obtain ⟨⟨pa, pc, rfl, _, p1, p2, p3⟩, ⟨qa, qc, rfl, q1, q2, q3, _⟩, ⟨ea, ec, rfl, _, e1, e2, e3⟩⟩ := h
  exact ⟨⟨pa, pc, rfl, Rd.nil _ _ _, p1, p2, p3⟩, ⟨qa, qc, rfl, q1, q2, q3, fun h => absurd h (Nat.lt_irrefl _)⟩, ⟨ea, ec, rfl, Rd.nil _ _ _, e1, e2, e3⟩⟩
theorem ImS.void {w : World} {M : Nat → Prop} {c : V3} {x : Im} (h : ImS w M c x) (hx : Void x) (w' : World) (M' : Nat → Prop) : ImS w' M' c x := ⟨fun _ y _ => h.1.out.void hx y, h.2⟩
/-- A block K of another type was written, which is none of the session's. -/
theorem SX.other {w w' : World} {M : Nat → Prop} {S NB MB GB GM K t : Nat} {fr : Nat × Nat} {cs : Array Value} {sv qv fv : Value} {s : Sess} (h : SX w M S NB MB GB GM sv qv fv s) (hK : w.heap[K]? = some (.cells cs t fr)) (ht : t ≠ 143) (hKM : ¬ M K) (hg : w.grownBy w' (some K))
    (hvq : ∀ x ∈ s.queue, Void x) (hvf : ∀ f ∈ s.flights, Void f.item) : SX w' M S NB MB GB GM sv qv fv s := by
  have key : ∀ b, b < w.heap.size → b ≠ K → w'.heap[b]? = w.heap[b]? := fun b hb hne => hg.block b hb (fun e => hne (Option.some.inj e))
  have own : ∀ b, M b → w'.heap[b]? = w.heap[b]? := fun b hb => key b (h.lt b hb) (fun e => hKM (e ▸ hb))
  have lt1 : ∀ {b t : Nat} {fr : Nat × Nat} {cs : Array Value}, w.heap[b]? = some (.cells cs t fr) → b < w.heap.size := fun h => (Array.getElem?_eq_some_iff.1 h).1
  have hkn : NB ≠ K := fun e => by
    have h1 := h.hn.kinds.1
    have h2 := bkind_cells hK
    rw [e] at h1
    omega
  have hkg : GB ≠ K := fun e => by
    have h1 := h.hg.kinds.1
    have h2 := bkind_cells hK
    rw [e] at h1
    omega
  refine ⟨(own S h.mS).trans h.hS, h.hn.of_blocks (key NB (lt1 h.hn.1) hkn) (own MB h.mN), h.hg.of_blocks (key GB (lt1 h.hg.1) hkg) (own GM h.mG), owns_of_block h.hs (fun k hk' => own k (h.ms k hk')), ?_, ?_, h.nb, h.nm, h.mS, h.mN, h.mG, h.ms, h.mNB, h.mGB, fun b hb => Nat.lt_of_lt_of_le (h.lt b hb) hg.size⟩
  · obtain ⟨ps, h1, h2, h3, h4⟩ := h.hq
    exact ⟨ps, h1, h2.of_block (fun k hk' => own k (h4 k hk')), fun p hp => (h3 p hp).void (hvq _ (by rw [← h1]; exact List.mem_map_of_mem hp)) _ _, h4⟩
  · obtain ⟨ps, h1, h2, h3, h4⟩ := h.hf
    exact ⟨ps, h1, owns_of_block h2 (fun k hk' => own k (h4 k hk')), fun p hp => (h3 p hp).void (hvf p.2 (by rw [← h1]; exact List.mem_map_of_mem hp)) _ _, h4⟩

/-- What is known while a session is read: the cursor in box N, the session S behind it. -/
structure RS (W w : World) (N S : Nat) (M : Nat → Prop) (s : Sess) (r : List UInt8) : Prop where
  cr : CR W 106 N ⟨r, false⟩ w
  sr : SR w M S s
  lo : ∀ b, M b → N < b
  vq : ∀ x ∈ s.queue, Void x
  vf : ∀ f ∈ s.flights, Void f.item
theorem RS.cur {W w w' : World} {N S : Nat} {M : Nat → Prop} {s : Sess} {r r' : List UInt8} (h : RS W w N S M s r) (hc : CR W 106 N ⟨r', false⟩ w') (hg : w.grownBy w' (some N)) : RS W w' N S M s r' := by
  obtain ⟨ad, c, hr, _⟩ := h.cr.row
  obtain ⟨NB, MB, GB, GM, sv, qv, fv, hx⟩ := h.sr
  exact ⟨hc, ⟨NB, MB, GB, GM, sv, qv, fv, hx.other hr (by decide) (fun hm => Nat.lt_irrefl _ (h.lo N hm)) hg h.vq h.vf⟩, h.lo, h.vq, h.vf⟩
theorem RS.ses {W w w' : World} {N S : Nat} {M M' : Nat → Prop} {s s' : Sess} {r : List UInt8} (h : RS W w N S M s r) (hs : Sep M M' w w') (hr : SR w' M' S s') (vq : ∀ x ∈ s'.queue, Void x) (vf : ∀ f ∈ s'.flights, Void f.item) : RS W w' N S M' s' r := by
  have hnn := h.cr.nn
  refine ⟨?_, hr, fun b hb => ?_, vq, vf⟩
  · obtain ⟨ad, c, hr, hb⟩ := h.cr.row
    refine ⟨⟨ad, c, ?_, hb⟩, below_then h.cr.low (hs.low h.cr.low.size (fun b hb => by have := h.lo b hb; omega)) (Nat.le_refl _), hnn, h.cr.len⟩
    rw [hs.block N h.cr.lt (fun hm => Nat.lt_irrefl _ (h.lo N hm))]
    exact hr
  · rcases hs.new b hb with h1 | h1
    · exact h.lo b h1
    · have := h.cr.lt
      omega
theorem RS.below {W w w' : World} {N S : Nat} {M : Nat → Prop} {s : Sess} {r : List UInt8} (h : RS W w N S M s r) (hb : Below w.heap.size w w') : RS W w' N S M s r := h.ses (.of_below hb) (h.sr.below hb) h.vq h.vf

/-- A number of the session's own was written. -/
theorem SX.cell {w : World} {M : Nat → Prop} {S NB MB GB GM : Nat} {sv qv fv : Value} {s : Sess} (h : SX w M S NB MB GB GM sv qv fv s) (j : Nat) (u : Value) (s' : Sess) (hS : (w.setCell ⟨S, j, none⟩ u).heap[S]? = some (Obj.cells #[.pointer (some ⟨NB, 0, none⟩), .string (str s'.client), .int .i64 s'.expiry, .int .i64 s'.ends, .bool s'.online, sv, qv, fv, .pointer (some ⟨GB, 0, none⟩)] 94))
    (e1 : s'.nums = s.nums) (e2 : s'.got = s.got) (e3 : s'.subs = s.subs) (e4 : s'.queue = s.queue) (e5 : s'.flights = s.flights) : SX (w.setCell ⟨S, j, none⟩ u) M S NB MB GB GM sv qv fv s' ∧ Sep M M w (w.setCell ⟨S, j, none⟩ u) := by
  have hg := grownBy_setCell w ⟨S, j, none⟩ u
  have hk := bkind_cells h.hS
  have hs : Sep M M w (w.setCell ⟨S, j, none⟩ u) := .of_grown hg (fun k hk => by cases hk; exact h.mS)
  have hmb : S ≠ MB := fun e => by
    have h1 := h.hn.kinds.2
    rw [← e, hk] at h1
    revert h1
    decide
  have hmg : S ≠ GM := fun e => by
    have h1 := h.hg.kinds.2
    rw [← e, hk] at h1
    revert h1
    decide
  obtain ⟨_, p2, p3, p4, p5, p6⟩ := h.parts S hg (fun _ hm => hm) hs
  refine ⟨⟨hS, ?_, ?_, ?_, ?_, ?_, h.nb, h.nm, h.mS, h.mN, h.mG, h.ms, h.mNB, h.mGB, fun b hb => Nat.lt_of_lt_of_le (h.lt b hb) hg.size⟩, hs⟩
  · rw [e1]; exact p2 hmb (by rw [hk]; decide)
  · rw [e2]; exact p3 hmg (by rw [hk]; decide)
  · rw [e3]; exact p4 (by rw [hk]; decide)
  · rw [e4]; exact p5 (by rw [hk]; decide)
  · rw [e5]; exact p6 (by rw [hk]; decide)

set_option maxRecDepth 100000 in
set_option maxHeartbeats 1600000 in
theorem sset_any (S : Nat) (s : Sess) (x y : Int) (b : Bool) (w : World) (M : Nat → Prop) (h : SR w M S s) (R : Ending → World → Prop)
    (hR : ∀ w', SR w' M S { s with expiry := x, ends := y, online := b } → Sep M M w w' → R (.returned (.tuple #[])) w') :
    Calls Tryz.prog 46 #[.pointer (some ⟨S, 0, none⟩), .int .i64 x, .int .i64 y, .bool b] w R := by
  have HR := Lib.hid hR
  obtain ⟨NB, MB, GB, GM, sv, qv, fv, hx⟩ := h
  have k1 := hx.cell 2 (.int .i64 x) { s with expiry := x } (by rw [heap_setCell_same w S 2 _ _ _ hx.hS]; rfl) rfl rfl rfl rfl rfl
  have k2 := k1.1.cell 3 (.int .i64 y) { s with expiry := x, ends := y } (by rw [heap_setCell_same _ S 3 _ _ _ k1.1.hS]; rfl) rfl rfl rfl rfl rfl
  have k3 := k2.1.cell 4 (.bool b) { s with expiry := x, ends := y, online := b } (by rw [heap_setCell_same _ S 4 _ _ _ k2.1.hS]; rfl) rfl rfl rfl rfl rfl
  have c2 := cell_of_row w S 2 _ _ _ hx.hS
  have f2 := frozen_block hx.hS 2
  have c3 := cell_of_row _ S 3 _ _ _ k1.1.hS
  have f3 := frozen_block k1.1.hS 3
  have c4 := cell_of_row _ S 4 _ _ _ k2.1.hS
  have f4 := frozen_block k2.1.hS 4
  have K3 := Lib.hid k3.1
  have KS := Lib.hid (k1.2.trans (k2.2.trans k3.2))
  clear hR k1 k2 k3 hx
  go_enter Tryz.func46, Tryz.ntmps46
  go_wp2
  refine bodyPost_ret (results_none rfl _ _ _) rfl ?_
  exact HR.out _ ⟨NB, MB, GB, GM, sv, qv, fv, K3.out⟩ KS.out
end Go.Proofs.YtgimbocoamnkjaaGreatDoor
