/- A session: what it is, how it lies in memory. -/
import Derived.Test.YtgimbocoamnkjaaItem
import Derived.Test.YtgimbocoamnkjaaRowA
import Derived.Test.YtgimbocoamnkjaaSet
namespace Go.Proofs.Ytgimbocoamnkjaa
open Go.RowKit

structure Sb where
  filter : List UInt8
  qos : Int
  noLocal : Bool
  asPub : Bool
  handling : Int
  id : Int
deriving DecidableEq
structure Fl where
  id : Int
  state : Int
  item : Im
deriving DecidableEq
structure Sess where
  client : List UInt8
  expiry : Int
  ends : Int
  online : Bool
  subs : List Sb
  queue : List Im
  flights : List Fl
  nums : List Int
  got : List Int

/-! ### rows of structs, cell by cell -/
theorem flatN {α : Type} (C : Nat) (f : α → List Value) (hf : ∀ x, (f x).length = C) : ∀ (l : List α) (i j : Nat) (hi : i < l.length), j < C → (l.flatMap f)[i * C + j]? = (f l[i])[j]?
  | [], i, j, hi, hj => by simp at hi
  | x :: l, 0, j, hi, hj => by
    rw [List.flatMap_cons, Nat.zero_mul, Nat.zero_add, List.getElem?_append_left (by rw [hf]; omega)]
    rfl
  | x :: l, i + 1, j, hi, hj => by
    rw [List.flatMap_cons, List.getElem?_append_right (by rw [hf, Nat.succ_mul]; omega), hf, show (i + 1) * C + j - C = i * C + j by rw [Nat.succ_mul]; omega, flatN C f hf l i j (by simpa using hi) hj]
    rfl
theorem flatN_length {α : Type} (C : Nat) (f : α → List Value) (hf : ∀ x, (f x).length = C) : ∀ l : List α, (l.flatMap f).length = l.length * C
  | [] => by simp
  | x :: l => by
    rw [List.flatMap_cons, List.length_append, hf, flatN_length C f hf l, List.length_cons, Nat.succ_mul]
    omega
theorem flatN_drop {α : Type} (C : Nat) (f : α → List Value) (hf : ∀ x, (f x).length = C) : ∀ (l : List α) (k : Nat), (l.flatMap f).drop (k * C) = (l.drop k).flatMap f
  | l, 0 => by simp
  | [], k + 1 => by simp
  | x :: l, k + 1 => by
    rw [List.flatMap_cons, List.drop_succ_cons, ← flatN_drop C f hf l k, List.drop_append, List.drop_of_length_le (by rw [hf, Nat.succ_mul]; omega), hf, List.nil_append]
    congr 1
    rw [Nat.succ_mul]
    omega
theorem flatN_take {α : Type} (C : Nat) (f : α → List Value) (hf : ∀ x, (f x).length = C) : ∀ (l : List α) (k : Nat), (l.flatMap f).take (k * C) = (l.take k).flatMap f
  | l, 0 => by simp
  | [], k + 1 => by simp
  | x :: l, k + 1 => by
    rw [List.flatMap_cons, List.take_succ_cons, List.flatMap_cons, ← flatN_take C f hf l k, List.take_append, List.take_of_length_le (by rw [hf, Nat.succ_mul]; omega), hf]
    congr 2
    rw [Nat.succ_mul]
    omega

abbrev V3 := Value × Value × Value
/-- An item's cells. -/
def imP (p : V3 × Im) : List Value := [.string (str p.2.note.topic), p.1.1, .int .i64 p.2.note.qos, .bool p.2.note.retain, .string (str p.2.note.src), .int .i64 p.2.note.expires, p.1.2.1, .int .i64 p.2.note.origin, .int .i64 p.2.note.number, .int .i64 p.2.note.hops, .int .i64 p.2.qos, .bool p.2.keep, p.1.2.2, .string (str p.2.share)]
theorem imP_length (p : V3 × Im) : (imP p).length = 14 := rfl
/-- A flight's cells. -/
def flP (p : V3 × Fl) : List Value := .int .i64 p.2.id :: .int .i64 p.2.state :: imP (p.1, p.2.item)
theorem flP_length (p : V3 × Fl) : (flP p).length = 16 := rfl
def sbP (x : Sb) : List Value := [.string (str x.filter), .int .i64 x.qos, .bool x.noLocal, .bool x.asPub, .int .i64 x.handling, .int .i64 x.id]
theorem sbP_length (x : Sb) : (sbP x).length = 6 := rfl

/-- What kind of thing a block holds. -/
def bkind (w : World) (b : Nat) : Nat := match w.heap[b]? with
  | some (.cells _ t _) => t + 2
  | some (.map _ _) => 1
  | _ => 0
theorem bkind_cells {w : World} {b t : Nat} {fr : Nat × Nat} {cs : Array Value} (h : w.heap[b]? = some (.cells cs t fr)) : bkind w b = t + 2 := by
  unfold bkind
  rw [h]
theorem own_kind {w : World} {B e size n : Nat} {v : Value} {xs : List Value} (h : w.ownsRow B e size v n xs) : ∀ k, v.ownBlock = some k → bkind w k = e + 2 := by
  intro k hk
  rcases h.2 with ⟨rfl, _⟩ | ⟨g, cap, cur, rfl, _, hg, _⟩
  · simp [Value.ownBlock] at hk
  · simp only [Value.ownBlock, Option.some.injEq] at hk
    subst hk
    exact bkind_cells hg
/-- The blocks of M, and rows of items (from the first of M on): what an item's slices do not lie in. -/
def Wr (w : World) (M : Nat → Prop) : Nat → Prop := fun b => M b ∨ (bkind w b = 44 + 2 ∧ ∃ m, M m ∧ m ≤ b)
theorem Sep.wr {M M' : Nat → Prop} {w w' : World} (h : Sep M M' w w') : Sep (Wr w M) (Wr w' M') w w' :=
  ⟨h.os, h.tape, h.output, h.size, fun b hb hn => h.block b hb (fun hm => hn (.inl hm)), fun b hb => by
    by_cases hlt : b < w.heap.size
    · rcases hb with hb | ⟨hk, m, hm, hle⟩
      · rcases h.new b hb with h1 | h1
        · exact .inl (.inl h1)
        · exact .inr h1
      · by_cases hM : M b
        · exact .inl (.inl hM)
        · refine .inl (.inr ⟨?_, m, ?_, hle⟩)
          · rw [← hk]
            unfold bkind
            rw [h.block b hlt hM]
          · rcases h.new m hm with h1 | h1
            · exact h1
            · omega
    · exact .inr (by omega)⟩
theorem ImO.wr {M : Nat → Prop} {w : World} {B : Nat} {pv qv iv : Value} {x : Im} (h : ImO w B pv qv iv x) (hM : ∀ b, M b → b < B) : Safe (Wr w M) w fun y => ImO y B pv qv iv x := fun M' w' s => by
  have key : ∀ {e size n : Nat} {v : Value} {xs : List Value}, e ≠ 44 → w.ownsRow B e size v n xs → w'.ownsRow B e size v n xs := fun he ho => owns_safe ho (fun k hk hm => by
    rcases hm with hm | ⟨hm, _⟩
    · have := (ho.lt k hk).1
      have := hM k hm
      omega
    · rw [own_kind ho k hk] at hm
      exact he (by omega)) M' w' s
  obtain ⟨ds, hd, hr, he, ha⟩ := h.q
  exact ⟨key (by decide) h.p, ⟨ds, hd, key (by decide) hr, fun i hi => key (by decide) (he i hi), ha⟩, key (by decide) h.i⟩
/-- An item whose slices read so, whatever is written in M (or in rows of items). -/
def ImS (w : World) (M : Nat → Prop) (c : V3) (x : Im) : Prop := Safe (Wr w M) w (fun y => ImC y c.1 c.2.1 c.2.2 x) ∧ ImB x
theorem ImS.sep {w w' : World} {M M' : Nat → Prop} {c : V3} {x : Im} (h : ImS w M c x) (s : Sep M M' w w') : ImS w' M' c x := ⟨h.1.sep s.wr, h.2⟩
theorem ImS.oneCell {w : World} {M : Nat → Prop} {c : V3} {x : Im} (h : ImS w M c x) : ∀ u ∈ imP (c, x), u.oneCell' = true := by
  obtain ⟨⟨a, b, e⟩, ⟨a1, b1, e1⟩, a2, b2, e2⟩ := h.1.out.shape
  intro u hu
  simp only [imP, e, e1, e2, List.mem_cons, List.not_mem_nil, or_false] at hu
  rcases hu with rfl | rfl | rfl | rfl | rfl | rfl | rfl | rfl | rfl | rfl | rfl | rfl | rfl | rfl <;> rfl
theorem imZ_bounds : ImB ⟨⟨[], [], 0, false, [], 0, [], 0, 0, 0⟩, 0, false, [], []⟩ := ⟨⟨by simp, by simp, by simp, by simp, by simp, by decide⟩, by simp, by simp, by decide⟩

/-- The queue's row. -/
def QuR (w : World) (M : Nat → Prop) (v : Value) (l : List Im) : Prop :=
  ∃ ps : List (V3 × Im), ps.map (·.2) = l ∧ RowA w 44 14 v l.length (ps.flatMap imP) ∧ (∀ p ∈ ps, ImS w M p.1 p.2) ∧ ∀ k, v.ownBlock = some k → M k
/-- The flights' row. -/
def FlR (w : World) (M : Nat → Prop) (v : Value) (l : List Fl) : Prop :=
  ∃ ps : List (V3 × Fl), ps.map (·.2) = l ∧ w.ownsRow 0 54 16 v l.length (ps.flatMap flP) ∧ (∀ p ∈ ps, ImS w M p.1 p.2.item) ∧ ∀ k, v.ownBlock = some k → M k

theorem RowA.kind {w : World} {e size n : Nat} {v : Value} {xs : List Value} (h : RowA w e size v n xs) : ∀ k, v.ownBlock = some k → bkind w k = e + 2 := by
  intro k hk
  rcases h.2 with ⟨rfl, _⟩ | ⟨g, o, c, cur, rfl, hg, _⟩
  · simp [Value.ownBlock] at hk
  · simp only [Value.ownBlock, Option.some.injEq] at hk
    subst hk
    exact bkind_cells hg
theorem Nu.kind {w : World} {m : Nat} {l : List Int} (h : Nu w m l) : bkind w m = 1 := by
  obtain ⟨D, ⟨es, ck, hb, _⟩, _⟩ := h.ex
  unfold bkind
  rw [hb]
theorem St.kinds {w : World} {N m : Nat} {l : List Int} (h : St w N m l) : bkind w N = 80 + 2 ∧ bkind w m = 1 := ⟨bkind_cells h.1, h.2.kind⟩
theorem St.of_blocks {w w' : World} {N m : Nat} {l : List Int} (h : St w N m l) (h1 : w'.heap[N]? = w.heap[N]?) (h2 : w'.heap[m]? = w.heap[m]?) : St w' N m l := ⟨h1.trans h.1, h.2.of_block h2⟩

theorem QuR.sep {w w' : World} {M M' : Nat → Prop} {v : Value} {l : List Im} (h : QuR w M v l) (s : Sep M M' w w') (hb : ∀ k, v.ownBlock = some k → w'.heap[k]? = w.heap[k]?) (hM : ∀ k, v.ownBlock = some k → M' k) : QuR w' M' v l := by
  obtain ⟨ps, h1, h2, h3, _⟩ := h
  exact ⟨ps, h1, h2.of_block hb, fun p hp => (h3 p hp).sep s, hM⟩
theorem owns_of_block {w w' : World} {B e size n : Nat} {v : Value} {xs : List Value} (h : w.ownsRow B e size v n xs) (hb : ∀ k, v.ownBlock = some k → w'.heap[k]? = w.heap[k]?) : w'.ownsRow B e size v n xs := by
  refine ⟨h.1, ?_⟩
  rcases h.2 with hn | ⟨g, cap, cur, rfl, hbg, hg, rest⟩
  · exact .inl hn
  · exact .inr ⟨g, cap, cur, rfl, hbg, (hb g rfl).trans hg, rest⟩
theorem FlR.sep {w w' : World} {M M' : Nat → Prop} {v : Value} {l : List Fl} (h : FlR w M v l) (s : Sep M M' w w') (hb : ∀ k, v.ownBlock = some k → w'.heap[k]? = w.heap[k]?) (hM : ∀ k, v.ownBlock = some k → M' k) : FlR w' M' v l := by
  obtain ⟨ps, h1, h2, h3, _⟩ := h
  exact ⟨ps, h1, owns_of_block h2 hb, fun p hp => (h3 p hp).sep s, hM⟩
theorem QuR.kind {w : World} {M : Nat → Prop} {v : Value} {l : List Im} (h : QuR w M v l) : ∀ k, v.ownBlock = some k → bkind w k = 44 + 2 := by
  obtain ⟨ps, h1, h2, _⟩ := h
  exact h2.kind
theorem FlR.kind {w : World} {M : Nat → Prop} {v : Value} {l : List Fl} (h : FlR w M v l) : ∀ k, v.ownBlock = some k → bkind w k = 54 + 2 := by
  obtain ⟨ps, h1, h2, _⟩ := h
  exact own_kind h2

theorem QuR.own {w : World} {M : Nat → Prop} {v : Value} {l : List Im} (h : QuR w M v l) : ∀ k, v.ownBlock = some k → M k := by
  obtain ⟨ps, _, _, _, h4⟩ := h
  exact h4
theorem FlR.own {w : World} {M : Nat → Prop} {v : Value} {l : List Fl} (h : FlR w M v l) : ∀ k, v.ownBlock = some k → M k := by
  obtain ⟨ps, _, _, _, h4⟩ := h
  exact h4

/-- A session in block S; M: the blocks that it writes. -/
structure SX (w : World) (M : Nat → Prop) (S NB MB GB GM : Nat) (sv qv fv : Value) (s : Sess) : Prop where
  hS : w.heap[S]? = some (.cells #[.pointer (some ⟨NB, 0, none⟩), .string (str s.client), .int .i64 s.expiry, .int .i64 s.ends, .bool s.online, sv, qv, fv, .pointer (some ⟨GB, 0, none⟩)] 65 (0, 0))
  hn : St w NB MB s.nums
  hg : St w GB GM s.got
  hs : w.ownsRow 0 33 6 sv s.subs.length (s.subs.flatMap sbP)
  hq : QuR w M qv s.queue
  hf : FlR w M fv s.flights
  nb : NB ≠ GB
  nm : MB ≠ GM
  mS : M S
  mN : M MB
  mG : M GM
  ms : ∀ k, sv.ownBlock = some k → M k
  mNB : ¬ M NB
  mGB : ¬ M GB
  lt : ∀ b, M b → b < w.heap.size
def SR (w : World) (M : Nat → Prop) (S : Nat) (s : Sess) : Prop := ∃ NB MB GB GM sv qv fv, SX w M S NB MB GB GM sv qv fv s

theorem SX.below {w w' : World} {M : Nat → Prop} {S NB MB GB GM : Nat} {sv qv fv : Value} {s : Sess} (h : SX w M S NB MB GB GM sv qv fv s) (hb : Below w.heap.size w w') : SX w' M S NB MB GB GM sv qv fv s where
  hS := row_on h.hS hb
  hn := h.hn.below hb
  hg := h.hg.below hb
  hs := owns_below h.hs hb
  hq := h.hq.sep (.of_below hb) (fun k hk => hb.block k (h.lt k (h.hq.own k hk))) h.hq.own
  hf := h.hf.sep (.of_below hb) (fun k hk => hb.block k (h.lt k (h.hf.own k hk))) h.hf.own
  nb := h.nb
  nm := h.nm
  mS := h.mS
  mN := h.mN
  mG := h.mG
  ms := h.ms
  mNB := h.mNB
  mGB := h.mGB
  lt := fun b hm => Nat.lt_of_lt_of_le (h.lt b hm) hb.size
theorem SR.below {w w' : World} {M : Nat → Prop} {S : Nat} {s : Sess} (h : SR w M S s) (hb : Below w.heap.size w w') : SR w' M S s := by
  obtain ⟨NB, MB, GB, GM, sv, qv, fv, hx⟩ := h
  exact ⟨NB, MB, GB, GM, sv, qv, fv, hx.below hb⟩

/-- What becomes of a session where one block K of its own was written (its kind told), and a new one perhaps made: the parts that were not written stay. -/
theorem SX.parts {w w' : World} {M M' : Nat → Prop} {S NB MB GB GM : Nat} {sv qv fv : Value} {s : Sess} (h : SX w M S NB MB GB GM sv qv fv s) (K : Nat) (hg : w.grownBy w' (some K)) (hM : ∀ b, M b → M' b) (hs : Sep M M' w w') :
    (bkind w K ≠ 65 + 2 → w'.heap[S]? = w.heap[S]?) ∧ (K ≠ MB → bkind w K ≠ 80 + 2 → St w' NB MB s.nums) ∧ (K ≠ GM → bkind w K ≠ 80 + 2 → St w' GB GM s.got) ∧
    (bkind w K ≠ 33 + 2 → w'.ownsRow 0 33 6 sv s.subs.length (s.subs.flatMap sbP)) ∧ (bkind w K ≠ 44 + 2 → QuR w' M' qv s.queue) ∧ (bkind w K ≠ 54 + 2 → FlR w' M' fv s.flights) := by
  have key : ∀ b, b < w.heap.size → b ≠ K → w'.heap[b]? = w.heap[b]? := fun b hb hne => hg.block b hb (fun e => hne (Option.some.inj e))
  have lt1 : ∀ {b t : Nat} {fr : Nat × Nat} {cs : Array Value}, w.heap[b]? = some (.cells cs t fr) → b < w.heap.size := fun h => (Array.getElem?_eq_some_iff.1 h).1
  refine ⟨fun hk => key S (lt1 h.hS) (fun e => hk (e ▸ bkind_cells h.hS)), fun hne hk => h.hn.of_blocks (key _ (lt1 h.hn.1) (fun e => hk (e ▸ h.hn.kinds.1))) (key _ h.hn.2.lt (fun e => hne e.symm)),
    fun hne hk => h.hg.of_blocks (key _ (lt1 h.hg.1) (fun e => hk (e ▸ h.hg.kinds.1))) (key _ h.hg.2.lt (fun e => hne e.symm)),
    fun hk => owns_of_block h.hs fun k hk' => key k (h.lt k (h.ms k hk')) (fun e => hk (e ▸ own_kind h.hs k hk')),
    fun hk => h.hq.sep hs (fun k hk' => key k (h.lt k (h.hq.own k hk')) (fun e => hk (e ▸ h.hq.kind k hk'))) (fun k hk' => hM k (h.hq.own k hk')),
    fun hk => h.hf.sep hs (fun k hk' => key k (h.lt k (h.hf.own k hk')) (fun e => hk (e ▸ h.hf.kind k hk'))) (fun k hk' => hM k (h.hf.own k hk'))⟩
end Go.Proofs.Ytgimbocoamnkjaa
