/- What becomes of a session in Next, Ack and their like. -/
import Derived.Test.YtgimbocoamnkjaaPush
import Derived.Test.YtgimbocoamnkjaaWideA
namespace Go.Proofs.Ytgimbocoamnkjaa
open Go.RowKit

/-- A block of the call's own, beside the session's. -/
theorem SX.alloc1 {w : World} {M : Nat → Prop} {S NB MB GB GM : Nat} {sv qv fv : Value} {s : Sess} (h : SX w M S NB MB GB GM sv qv fv s) (o : Obj) :
    SX (w.alloc o) (fun b => M b ∨ b = w.heap.size) S NB MB GB GM sv qv fv s ∧ Sep M (fun b => M b ∨ b = w.heap.size) w (w.alloc o) := by
  have hb : Below w.heap.size w (w.alloc o) := (Below.refl _ _).alloc (Nat.le_refl _) o
  have hs : Sep M (fun b => M b ∨ b = w.heap.size) w (w.alloc o) := (Sep.of_below hb).more fun b hb => hb.imp id (fun e => by omega)
  have h1 := h.below hb
  have lt1 : ∀ {b t : Nat} {fr : Nat × Nat} {cs : Array Value}, w.heap[b]? = some (.cells cs t fr) → b < w.heap.size := fun h => (Array.getElem?_eq_some_iff.1 h).1
  exact ⟨⟨h1.hS, h1.hn, h1.hg, h1.hs, h.hq.sep hs (fun k hk => hb.block k (h.lt k (h.hq.own k hk))) (fun k hk => .inl (h.hq.own k hk)), h.hf.sep hs (fun k hk => hb.block k (h.lt k (h.hf.own k hk))) (fun k hk => .inl (h.hf.own k hk)), h.nb, h.nm, .inl h.mS, .inl h.mN, .inl h.mG, fun k hk => .inl (h.ms k hk),
    (fun hm => hm.elim h.mNB (fun e => by have := lt1 h.hn.1; omega)), (fun hm => hm.elim h.mGB (fun e => by have := lt1 h.hg.1; omega)), fun b hb => by
      rcases hb with hb | hb
      · have := h.lt b hb
        simp
        omega
      · simp
        omega⟩, hs⟩
/-- That block is written a last time, and given away. -/
theorem SX.retire {w w' : World} {M : Nat → Prop} {S NB MB GB GM N : Nat} {sv qv fv : Value} {s : Sess} (h : SX w M S NB MB GB GM sv qv fv s) (hN : M N) (hg : w.grownBy w' (some N)) (e0 : N ≠ S) (e1 : N ≠ NB) (e2 : N ≠ MB) (e3 : N ≠ GB) (e4 : N ≠ GM) (e5 : sv.ownBlock ≠ some N) (e6 : qv.ownBlock ≠ some N) (e7 : fv.ownBlock ≠ some N) :
    SX w' (fun b => M b ∧ b ≠ N) S NB MB GB GM sv qv fv s ∧ Sep M (fun b => M b ∧ b ≠ N) w w' := by
  have hs : Sep M (fun b => M b ∧ b ≠ N) w w' := (Sep.of_grown hg (fun k hk => by cases hk; exact hN)).more fun b hb => .inl hb.1
  have lt1 : ∀ {b t : Nat} {fr : Nat × Nat} {cs : Array Value}, w.heap[b]? = some (.cells cs t fr) → b < w.heap.size := fun h => (Array.getElem?_eq_some_iff.1 h).1
  have key : ∀ b, b < w.heap.size → N ≠ b → w'.heap[b]? = w.heap[b]? := fun b hb hne => hg.block b hb (fun e => hne (Option.some.inj e).symm)
  have own : ∀ {v : Value} {k : Nat}, v.ownBlock ≠ some N → v.ownBlock = some k → N ≠ k := fun hv hk e => hv (e ▸ hk)
  exact ⟨⟨(key S (lt1 h.hS) e0).trans h.hS, h.hn.of_blocks (key _ (lt1 h.hn.1) e1) (key _ h.hn.2.lt e2), h.hg.of_blocks (key _ (lt1 h.hg.1) e3) (key _ h.hg.2.lt e4),
    owns_of_block h.hs (fun k hk => key k (h.lt k (h.ms k hk)) (own e5 hk)), h.hq.sep hs (fun k hk => key k (h.lt k (h.hq.own k hk)) (own e6 hk)) (fun k hk => ⟨h.hq.own k hk, (own e6 hk).symm⟩), h.hf.sep hs (fun k hk => key k (h.lt k (h.hf.own k hk)) (own e7 hk)) (fun k hk => ⟨h.hf.own k hk, (own e7 hk).symm⟩),
    h.nb, h.nm, ⟨h.mS, e0.symm⟩, ⟨h.mN, e2.symm⟩, ⟨h.mG, e4.symm⟩, fun k hk => ⟨h.ms k hk, (own e5 hk).symm⟩, fun hm => h.mNB hm.1, fun hm => h.mGB hm.1, fun b hb => Nat.lt_of_lt_of_le (h.lt b hb.1) hg.size⟩, hs⟩
/-- The numbers in use were changed. -/
theorem SX.turn {w w' : World} {M : Nat → Prop} {S NB MB GB GM : Nat} {sv qv fv : Value} {s : Sess} {l : List Int} (h : SX w M S NB MB GB GM sv qv fv s) (hg : w.grownBy w' (some MB)) (hn : St w' NB MB l) :
    SX w' M S NB MB GB GM sv qv fv { s with nums := l } ∧ Sep M M w w' := by
  have hs : Sep M M w w' := .of_grown hg (fun k hk => by cases hk; exact h.mN)
  have hk := h.hn.kinds.2
  obtain ⟨p1, _, p3, p4, p5, p6⟩ := h.parts MB hg (fun _ hm => hm) hs
  exact ⟨⟨(p1 (by rw [hk]; decide)).trans h.hS, hn, p3 h.nm (by rw [hk]; decide), p4 (by rw [hk]; decide), p5 (by rw [hk]; decide), p6 (by rw [hk]; decide), h.nb, h.nm, h.mS, h.mN, h.mG, h.ms, h.mNB, h.mGB, fun b hb => Nat.lt_of_lt_of_le (h.lt b hb) hg.size⟩, hs⟩
/-- .. those that came. -/
theorem SX.turnG {w w' : World} {M : Nat → Prop} {S NB MB GB GM : Nat} {sv qv fv : Value} {s : Sess} {l : List Int} (h : SX w M S NB MB GB GM sv qv fv s) (hg : w.grownBy w' (some GM)) (hn : St w' GB GM l) :
    SX w' M S NB MB GB GM sv qv fv { s with got := l } ∧ Sep M M w w' := by
  have hs : Sep M M w w' := .of_grown hg (fun k hk => by cases hk; exact h.mG)
  have hk := h.hg.kinds.2
  obtain ⟨p1, p2, _, p4, p5, p6⟩ := h.parts GM hg (fun _ hm => hm) hs
  exact ⟨⟨(p1 (by rw [hk]; decide)).trans h.hS, p2 h.nm.symm (by rw [hk]; decide), hn, p4 (by rw [hk]; decide), p5 (by rw [hk]; decide), p6 (by rw [hk]; decide), h.nb, h.nm, h.mS, h.mN, h.mG, h.ms, h.mNB, h.mGB, fun b hb => Nat.lt_of_lt_of_le (h.lt b hb) hg.size⟩, hs⟩

/-- The queue's first is out: the row's rest, stored. -/
theorem SX.pop {w : World} {M : Nat → Prop} {S NB MB GB GM : Nat} {sv qv fv qv' : Value} {s : Sess} {x : Im} {rest : List Im} {c : V3} {pr : List (V3 × Im)} (h : SX w M S NB MB GB GM sv qv fv s) (hps : pr.map (·.2) = rest) (hcon : ∀ p ∈ (c, x) :: pr, ImS w M p.1 p.2)
    (hr : RowA w 44 14 qv' rest.length (pr.flatMap imP)) (ho : qv'.ownBlock = qv.ownBlock) :
    SX (w.setCell ⟨S, 6, none⟩ qv') M S NB MB GB GM sv qv' fv { s with queue := rest } ∧ Sep M M w (w.setCell ⟨S, 6, none⟩ qv') := by
  have hg2 := grownBy_setCell w ⟨S, 6, none⟩ qv'
  have hk := bkind_cells h.hS
  have hs2 : Sep M M w (w.setCell ⟨S, 6, none⟩ qv') := .of_grown hg2 (fun k hk => by cases hk; exact h.mS)
  have hp := h.parts S hg2 (fun _ hm => hm) hs2
  refine ⟨h.set 6 qv' ?_ rfl rfl id rfl ?_ (hp.2.2.2.2.2 (by rw [hk]; decide)), hs2⟩
  · rw [heap_setCell_same w S 6 _ _ _ h.hS]
    rfl
  · exact ⟨pr, hps, hr.grown hg2 (.inl (hr.ne h.hS (by decide))), fun p hp => (hcon p (List.mem_cons_of_mem _ hp)).sep hs2, fun k hk => h.hq.own k (ho ▸ hk)⟩

/-- The flights' row was written (in its own block, or made anew), and stored. -/
theorem SX.fly {w w1 : World} {M : Nat → Prop} {S NB MB GB GM : Nat} {sv qv fv fv' : Value} {s : Sess} {ps : List (V3 × Fl)} {fs : List Fl} (h : SX w M S NB MB GB GM sv qv fv s) (hps : ps.map (·.2) = fs) (hcon : ∀ p ∈ ps, ImS w M p.1 p.2.item)
    (hr : w1.ownsRow 0 54 16 fv' fs.length (ps.flatMap flP)) (hg : w.grownBy w1 fv.ownBlock) (hat : fv'.ownBlock = fv.ownBlock ∨ fv'.ownBlock = some w.heap.size) :
    ∃ M', SX (w1.setCell ⟨S, 7, none⟩ fv') M' S NB MB GB GM sv qv fv' { s with flights := fs } ∧ Sep M M' w (w1.setCell ⟨S, 7, none⟩ fv') ∧ (∀ b, M b → M' b) := by
  obtain ⟨K, hg, hK⟩ : ∃ K, w.grownBy w1 (some K) ∧ (M K ∧ bkind w K = 54 + 2 ∨ w.heap.size ≤ K) := by
    cases hv : fv.ownBlock with
    | none => exact ⟨w.heap.size, grownBy_weaken (by rw [hv] at hg; exact hg), .inr (Nat.le_refl _)⟩
    | some k => exact ⟨k, by rw [hv] at hg; exact hg, .inl ⟨h.hf.own k hv, h.hf.kind k hv⟩⟩
  have hnew : ∀ k, fv'.ownBlock = some k → M k ∨ w.heap.size ≤ k := fun k hk => by
    rcases hat with e | e
    · exact .inl (h.hf.own k (e ▸ hk))
    · rw [e] at hk
      cases hk
      exact .inr (Nat.le_refl _)
  have hlt' : ∀ k, fv'.ownBlock = some k → k < w1.heap.size := fun k hk => (hr.lt k hk).2
  let M' : Nat → Prop := fun b => M b ∨ fv'.ownBlock = some b
  have hs1 : Sep M M' w w1 := ⟨hg.os, hg.tape, hg.output, hg.size, fun b hb hM => hg.block b hb (fun e => by
    have e := Option.some.inj e
    rcases hK with ⟨hk, _⟩ | hk
    · exact hM (e ▸ hk)
    · omega), fun b hb => by
    rcases hb with hb | hb
    · exact .inl hb
    · exact hnew b hb⟩
  have hne : ∀ b, b < w.heap.size → bkind w b ≠ 54 + 2 → w1.heap[b]? = w.heap[b]? := fun b hb hk => hg.block b hb (fun e => by
    have e := Option.some.inj e
    rcases hK with ⟨_, hk2⟩ | hk2
    · exact hk (e ▸ hk2)
    · omega)
  have lt1 : ∀ {b t : Nat} {fr : Nat × Nat} {cs : Array Value}, w.heap[b]? = some (.cells cs t fr) → b < w.heap.size := fun h => (Array.getElem?_eq_some_iff.1 h).1
  have hS1 := (hne S (lt1 h.hS) (by rw [bkind_cells h.hS]; decide)).trans h.hS
  have hk1 : bkind w1 S = 65 + 2 := bkind_cells hS1
  have hg2 := grownBy_setCell w1 ⟨S, 7, none⟩ fv'
  have hs2 : Sep M' M' w1 (w1.setCell ⟨S, 7, none⟩ fv') := .of_grown hg2 (fun k hk => by cases hk; exact .inl h.mS)
  have keep : ∀ b, b < w1.heap.size → bkind w1 b ≠ 65 + 2 → (w1.setCell ⟨S, 7, none⟩ fv').heap[b]? = w1.heap[b]? := fun b hb hk => hg2.block b hb (fun e => hk (Option.some.inj e ▸ hk1))
  have both : ∀ b, b < w.heap.size → bkind w b ≠ 54 + 2 → bkind w b ≠ 65 + 2 → (w1.setCell ⟨S, 7, none⟩ fv').heap[b]? = w.heap[b]? := fun b hb k1 k2 => by
    have e := hne b hb k1
    have hb1 : bkind w1 b = bkind w b := by unfold bkind; rw [e]
    exact (keep b (Nat.lt_of_lt_of_le hb hg.size) (by rw [hb1]; exact k2)).trans e
  refine ⟨M', ⟨?_, h.hn.of_blocks (both _ (lt1 h.hn.1) (by rw [h.hn.kinds.1]; decide) (by rw [h.hn.kinds.1]; decide)) (both _ h.hn.2.lt (by rw [h.hn.kinds.2]; decide) (by rw [h.hn.kinds.2]; decide)),
    h.hg.of_blocks (both _ (lt1 h.hg.1) (by rw [h.hg.kinds.1]; decide) (by rw [h.hg.kinds.1]; decide)) (both _ h.hg.2.lt (by rw [h.hg.kinds.2]; decide) (by rw [h.hg.kinds.2]; decide)),
    owns_of_block h.hs (fun k hk => both k (h.lt k (h.ms k hk)) (by rw [own_kind h.hs k hk]; decide) (by rw [own_kind h.hs k hk]; decide)),
    h.hq.sep (hs1.trans hs2) (fun k hk => both k (h.lt k (h.hq.own k hk)) (by rw [h.hq.kind k hk]; decide) (by rw [h.hq.kind k hk]; decide)) (fun k hk => .inl (h.hq.own k hk)), ?_,
    h.nb, h.nm, .inl h.mS, .inl h.mN, .inl h.mG, fun k hk => .inl (h.ms k hk), ?_, ?_, ?_⟩, hs1.trans hs2, fun b hb => .inl hb⟩
  · rw [heap_setCell_same w1 S 7 _ _ _ hS1]
    rfl
  · refine ⟨ps, hps, owns_typed hr hS1 (by decide) hg2, fun p hp => ((hcon p hp).sep hs1).sep hs2, fun k hk => .inr hk⟩
  · rintro (hm | hm)
    · exact h.mNB hm
    · have h1 := own_kind hr NB hm
      rw [bkind_cells ((hne _ (lt1 h.hn.1) (by rw [h.hn.kinds.1]; decide)).trans h.hn.1)] at h1
      revert h1
      decide
  · rintro (hm | hm)
    · exact h.mGB hm
    · have h1 := own_kind hr GB hm
      rw [bkind_cells ((hne _ (lt1 h.hg.1) (by rw [h.hg.kinds.1]; decide)).trans h.hg.1)] at h1
      revert h1
      decide
  · rintro b (hb | hb)
    · have := h.lt b hb
      have := hg.size
      simp only [World.setCell, Array.size_modify]
      omega
    · have := hlt' b hb
      simpa [World.setCell] using this

/-- A block behind all that there was is none of the session's. -/
theorem SX.away {w : World} {M : Nat → Prop} {S NB MB GB GM : Nat} {sv qv fv : Value} {s : Sess} (h : SX w M S NB MB GB GM sv qv fv s) :
    w.heap.size ≠ S ∧ w.heap.size ≠ NB ∧ w.heap.size ≠ MB ∧ w.heap.size ≠ GB ∧ w.heap.size ≠ GM ∧ sv.ownBlock ≠ some w.heap.size ∧ qv.ownBlock ≠ some w.heap.size ∧ fv.ownBlock ≠ some w.heap.size := by
  have lt1 : ∀ {b t : Nat} {fr : Nat × Nat} {cs : Array Value}, w.heap[b]? = some (.cells cs t fr) → b < w.heap.size := fun h => (Array.getElem?_eq_some_iff.1 h).1
  have hn := lt1 h.hn.1
  have hg := lt1 h.hg.1
  refine ⟨fun e => by have := h.lt S h.mS; omega, by omega, fun e => by have := h.lt MB h.mN; omega, by omega, fun e => by have := h.lt GM h.mG; omega, fun e => ?_, fun e => ?_, fun e => ?_⟩
  · have := h.lt _ (h.ms _ e); omega
  · have := h.lt _ (h.hq.own _ e); omega
  · have := h.lt _ (h.hf.own _ e); omega

/-- May the queue's first go? -/
def readyL (s : Sess) (win : Int) : Bool := match s.queue with
  | [] => false
  | x :: _ => x.qos == 0 || (decide ((s.flights.length : Int) < win) && decide (s.flights.length < 8))
end Go.Proofs.Ytgimbocoamnkjaa
