/- Sessions in use: what stays true of them (plain). -/
import Derived.Test.YtgimbocoamnkjaaRec
import Derived.Test.YtgimbocoamnkjaaNew
import Derived.Test.YtgimbocoamnkjaaNext
namespace Go.Proofs.Ytgimbocoamnkjaa
open Go.RowKit

theorem erase_at : ∀ (l : List Int) (i : Nat) (h : i < l.length), l.Nodup → l.erase l[i] = l.eraseIdx i
  | [], i, h, _ => by simp at h
  | x :: l, 0, h, _ => by simp
  | x :: l, i + 1, h, hn => by
    have hn2 := List.nodup_cons.1 hn
    have hi : i < l.length := by simpa using h
    have hne : x ≠ l[i] := fun e => hn2.1 (e ▸ List.getElem_mem hi)
    rw [List.getElem_cons_succ, List.eraseIdx_cons_succ, List.erase_cons_tail (by simpa using hne), erase_at l i hi hn2.2]
theorem map_eraseIdx {α β : Type} (f : α → β) : ∀ (l : List α) (i : Nat), (l.eraseIdx i).map f = (l.map f).eraseIdx i
  | [], i => by simp
  | x :: l, 0 => by simp
  | x :: l, i + 1 => by rw [List.eraseIdx_cons_succ, List.map_cons, List.map_cons, List.eraseIdx_cons_succ, map_eraseIdx f l i]

/-- A session that came about by use. -/
structure SInv (s : Sess) : Prop where
  qn : s.queue.length ≤ 8
  fn : s.flights.length ≤ 8
  eq : s.nums = s.flights.map (·.id)
  nd : s.nums.Nodup
  rg : ∀ f ∈ s.flights, 1 ≤ f.id ∧ f.id ≤ 8
  qq : ∀ x ∈ s.queue, 0 ≤ x.qos
theorem SInv.new (l : List UInt8) : SInv (newS l) := ⟨by simp [newS], by simp [newS], rfl, .nil, by simp [newS], by simp [newS]⟩
theorem SInv.i64 {s : Sess} (h : SInv s) : ∀ f ∈ s.flights, I64 f.id := fun f hf => by
  have := h.rg f hf
  exact ⟨by omega, by omega⟩
theorem SInv.push {s : Sess} {x : Im} (h : SInv s) (hl : s.queue.length < 8) (hx : 0 ≤ x.qos) : SInv { s with queue := s.queue ++ [x] } :=
  ⟨by show (s.queue ++ [x]).length ≤ 8; rw [List.length_append]; show _ + 1 ≤ 8; omega, h.fn, h.eq, h.nd, h.rg, fun y hy => by
    rcases List.mem_append.1 hy with hy | hy
    · exact h.qq y hy
    · obtain rfl := List.mem_singleton.1 hy
      exact hx⟩
theorem SInv.pop {s : Sess} {x : Im} {rest : List Im} (h : SInv s) (hq : s.queue = x :: rest) : SInv { s with queue := rest } :=
  ⟨by have := h.qn; rw [hq, List.length_cons] at this; show rest.length ≤ 8; omega, h.fn, h.eq, h.nd, h.rg, fun y hy => h.qq y (by rw [hq]; exact List.mem_cons_of_mem _ hy)⟩
theorem SInv.fly {s : Sess} {x : Im} {rest : List Im} {d : Nat} {q : Int} (h : SInv s) (hq : s.queue = x :: rest) (hf : s.flights.length < 8) (h1 : 1 ≤ d) (h2 : d ≤ s.nums.length + 1) (hc : s.nums.contains (d : Int) = false) :
    SInv { s with queue := rest, nums := s.nums ++ [(d : Int)], flights := s.flights ++ [⟨d, q, x⟩] } := by
  have hp := h.pop hq
  have hnl : s.nums.length = s.flights.length := by rw [h.eq, List.length_map]
  refine ⟨hp.qn, ?_, ?_, ?_, ?_, hp.qq⟩
  · show (s.flights ++ [(⟨d, q, x⟩ : Fl)]).length ≤ 8
    rw [List.length_append]
    show _ + 1 ≤ 8
    omega
  · show s.nums ++ [(d : Int)] = (s.flights ++ [(⟨d, q, x⟩ : Fl)]).map (·.id)
    rw [List.map_append, h.eq]
    rfl
  · show (s.nums ++ [(d : Int)]).Nodup
    rw [List.nodup_append]
    refine ⟨h.nd, by simp, fun a ha b hb => ?_⟩
    obtain rfl := List.mem_singleton.1 hb
    rintro rfl
    simp at hc
    exact hc ha
  · intro f hf'
    rcases List.mem_append.1 hf' with hf' | hf'
    · exact h.rg f hf'
    · obtain rfl := List.mem_singleton.1 hf'
      exact ⟨by show (1 : Int) ≤ (d : Int); omega, by show (d : Int) ≤ 8; omega⟩
theorem SInv.land {s : Sess} {z : Int} {p : Fl → Bool} (h : SInv s) (hz : idxP p s.flights = z) : SInv (landS s z) := by
  unfold landS
  split
  · exact h
  · obtain ⟨k, hk, rfl, _⟩ := idxP_some hz (by omega)
    simp only [Int.toNat_natCast, List.getElem?_eq_getElem hk, Option.map_some, Option.getD_some]
    have hk2 : k < (s.flights.map (·.id)).length := by rw [List.length_map]; exact hk
    refine ⟨h.qn, ?_, ?_, h.nd.erase _, fun f hf => h.rg f (List.mem_of_mem_eraseIdx hf), h.qq⟩
    · show (s.flights.eraseIdx k).length ≤ 8
      have := h.fn
      rw [List.length_eraseIdx]
      split <;> omega
    · show s.nums.erase (s.flights[k]).id = (s.flights.eraseIdx k).map (·.id)
      rw [map_eraseIdx, h.eq]
      have hn : (s.flights.map (·.id)).Nodup := h.eq ▸ h.nd
      have := erase_at (s.flights.map (·.id)) k hk2 hn
      rwa [List.getElem_map] at this
theorem landS_len {s : Sess} {z : Int} {p : Fl → Bool} (hz : idxP p s.flights = z) (h0 : 0 ≤ z) : (landS s z).flights.length + 1 = s.flights.length := by
  unfold landS
  rw [if_neg (by omega)]
  obtain ⟨k, hk, rfl, _⟩ := idxP_some hz h0
  show (s.flights.eraseIdx (k : Int).toNat).length + 1 = _
  rw [Int.toNat_natCast, List.length_eraseIdx, if_pos hk]
  omega
theorem SInv.recd {s s' : Sess} {z : Int} {p : Fl → Bool} {fine a b : Bool} (h : SInv s) (hz : idxP p s.flights = z) (hr : recS s z fine = (s', a, b)) : SInv s' := by
  by_cases hn : z < 0
  · rw [recS_neg hn] at hr
    cases hr
    exact h
  · obtain ⟨k, hk, rfl, _⟩ := idxP_some hz (by omega)
    rw [recS_at hk] at hr
    split at hr
    · cases hr
      exact h
    · split at hr
      · cases hr
        exact h.land hz
      · cases hr
        refine ⟨h.qn, by show (s.flights.set k _).length ≤ 8; rw [List.length_set]; exact h.fn, ?_, h.nd, fun f hf => ?_, h.qq⟩
        · show s.nums = (s.flights.set k _).map (·.id)
          rw [h.eq]
          apply List.ext_getElem
          · simp
          · intro i h1 h2
            rw [List.getElem_map, List.getElem_map, List.getElem_set]
            split
            · rename_i e
              subst e
              rfl
            · rfl
        · rcases List.mem_or_eq_of_mem_set hf with h1 | h1
          · exact h.rg f h1
          · rw [h1]
            exact (h.rg (s.flights[k]) (List.getElem_mem hk) : 1 ≤ (s.flights[k]).id ∧ (s.flights[k]).id ≤ 8)

/-- What Next answers, and what the session is then. -/
inductive NextR (s : Sess) (win : Int) : Im → Int → Bool → Sess → Prop
  | no (h : readyL s win = false) : NextR s win ⟨⟨[], [], 0, false, [], 0, [], 0, 0, 0⟩, 0, false, [], []⟩ 0 false s
  | out (x : Im) (rest : List Im) (hq : s.queue = x :: rest) (h : readyL s win = true) (hz : x.qos = 0) : NextR s win x 0 true { s with queue := rest }
  | fly (x : Im) (rest : List Im) (d : Nat) (hq : s.queue = x :: rest) (h : readyL s win = true) (hz : 0 < x.qos) (h1 : 1 ≤ d) (h2 : d ≤ s.nums.length + 1) (hc : s.nums.contains (d : Int) = false) (ha : ∀ j : Nat, 1 ≤ j → j < d → s.nums.contains (j : Int) = true) :
      NextR s win x (d : Int) true { s with queue := rest, nums := s.nums ++ [(d : Int)], flights := s.flights ++ [⟨d, x.qos, x⟩] }
theorem ready_room {s : Sess} {win : Int} {x : Im} {rest : List Im} (hq : s.queue = x :: rest) (h : readyL s win = true) (hz : 0 < x.qos) : (s.flights.length : Int) < win ∧ s.flights.length < 8 := by
  unfold readyL at h
  rw [hq] at h
  simp only [Bool.or_eq_true, beq_iff_eq, Bool.and_eq_true, decide_eq_true_eq] at h
  rcases h with h | h
  · omega
  · exact h
theorem NextR.inv {s s' : Sess} {win id : Int} {x : Im} {ok : Bool} (h : SInv s) (hn : NextR s win x id ok s') : SInv s' := by
  cases hn with
  | no _ => exact h
  | out x rest hq _ _ => exact h.pop hq
  | fly x rest d hq hr hz h1 h2 hc ha => exact h.fly hq (ready_room hq hr hz).2 h1 h2 hc

/-- What SessionBounds asks of Next. -/
theorem NextR.asks {s s' : Sess} {win id : Int} {x : Im} {ok : Bool} (hn : NextR s win x id ok s') :
    (ok = false ∧ id = 0) ∨ (ok = true ∧ id = 0 ∧ s'.flights.length = s.flights.length) ∨ (ok = true ∧ 0 < id ∧ (s.flights.length : Int) < win ∧ s.flights.length < 8 ∧ s'.flights.length = s.flights.length + 1) := by
  cases hn with
  | no _ => exact .inl ⟨rfl, rfl⟩
  | out x rest hq _ _ => exact .inr (.inl ⟨rfl, rfl, rfl⟩)
  | fly x rest d hq hr hz h1 h2 hc ha =>
    have := ready_room hq hr hz
    exact .inr (.inr ⟨rfl, by omega, this.1, this.2, by show (s.flights ++ [_]).length = _; rw [List.length_append]; rfl⟩)

theorem next_any (S : Nat) (s : Sess) (win : Int) (hi : SInv s) (w : World) (M : Nat → Prop) (h : SR w M S s) (R : Ending → World → Prop)
    (hR : ∀ x id ok s' B M' pa pc qa qc ea ec w', NextR s win x id ok s' → SR w' M' S s' → Sep M M' w w' → ImO w' B (.slice pa x.note.payload.length pc) (.slice qa x.note.props.length qc) (.slice ea x.ids.length ec) x → w.heap.size ≤ B → (∀ b, M' b → b < B) → ImB x →
      R (.returned (.tuple #[(Value.agg #[.string (str x.note.topic), (.slice pa x.note.payload.length pc), .int .i64 x.note.qos, .bool x.note.retain, .string (str x.note.src), .int .i64 x.note.expires, (.slice qa x.note.props.length qc), .int .i64 x.note.origin, .int .i64 x.note.number, .int .i64 x.note.hops, .int .i64 x.qos, .bool x.keep, (.slice ea x.ids.length ec), .string (str x.share)]), .int .i64 id, .bool ok])) w') :
    Calls Try.prog 11 #[.pointer (some ⟨S, 0, none⟩), .int .i64 win] w R := by
  have hq8 := hi.qn
  have hf8 := hi.fn
  have hnl : s.nums.length = s.flights.length := by rw [hi.eq, List.length_map]
  cases hr : readyL s win with
  | false =>
    refine next_no S s win hr w M h (by omega) R fun w' hb => ?_
    have hM : ∀ b, M b → b < w'.heap.size := fun b hm => by
      obtain ⟨NB, MB, GB, GM, sv, qv, fv, hx⟩ := h
      have := hx.lt b hm
      have := hb.size
      omega
    exact hR _ _ _ _ w'.heap.size M none 0 none 0 none 0 w' (.no hr) (h.below hb) (.of_below hb) ⟨World.ownsRow_nil _ _ _ _, PsO.nil _ _, World.ownsRow_nil _ _ _ _⟩ hb.size hM imZ_bounds
  | true =>
    cases hq : s.queue with
    | nil =>
      unfold readyL at hr
      rw [hq] at hr
      simp at hr
    | cons x rest =>
      have hx := hi.qq x (by rw [hq]; exact List.mem_cons_self)
      by_cases hz : x.qos = 0
      · exact next_0 S s x rest hq win hr hz w M h (by omega) R fun B M' pa pc qa qc ea ec w' h1 h2 h3 h4 h5 h6 => hR _ _ _ _ B M' pa pc qa qc ea ec w' (.out x rest hq hr hz) h1 h2 h3 h4 h5 h6
      · obtain ⟨d, d1, d2, d3, d4⟩ := least_free s.nums
        exact next_1 S s x rest hq win hr (by omega) d d1 (by omega) d3 d4 (by omega) (by omega) w M h (by omega) R fun B M' pa pc qa qc ea ec w' h1 h2 h3 h4 h5 h6 => hR _ _ _ _ B M' pa pc qa qc ea ec w' (.fly x rest d hq hr (by omega) d1 d2 d3 d4) h1 h2 h3 h4 h5 h6
end Go.Proofs.Ytgimbocoamnkjaa
