/- What stays while a few blocks are written over: facts that lean on other blocks alone. -/
import Derived.Test.YtgimbocoamnkjaaPk
namespace Go.Proofs.Ytgimbocoamnkjaa
open Go.RowKit

/-- w' is w but for the blocks of M (of those that w had) and for new ones; M' are the blocks that may be written from then on. -/
structure Sep (M M' : Nat → Prop) (w w' : World) : Prop where
  os : w'.os = w.os
  tape : w'.tape = w.tape
  output : w'.output = w.output
  size : w.heap.size ≤ w'.heap.size
  block : ∀ b, b < w.heap.size → ¬ M b → w'.heap[b]? = w.heap[b]?
  new : ∀ b, M' b → M b ∨ w.heap.size ≤ b
theorem Sep.refl (M : Nat → Prop) (w : World) : Sep M M w w := ⟨rfl, rfl, rfl, Nat.le_refl _, fun _ _ _ => rfl, fun _ h => .inl h⟩
theorem Sep.trans {M M' M'' : Nat → Prop} {a b c : World} (h : Sep M M' a b) (k : Sep M' M'' b c) : Sep M M'' a c :=
  ⟨k.os.trans h.os, k.tape.trans h.tape, k.output.trans h.output, Nat.le_trans h.size k.size,
    fun i hi hM => (k.block i (Nat.lt_of_lt_of_le hi h.size) (fun hm => by
      rcases h.new i hm with h1 | h1
      · exact hM h1
      · omega)).trans (h.block i hi hM),
    fun i hi => by
      rcases k.new i hi with h1 | h1
      · exact h.new i h1
      · have := h.size
        exact .inr (by omega)⟩
theorem Sep.of_below {M : Nat → Prop} {w w' : World} (h : Below w.heap.size w w') : Sep M M w w' := ⟨h.os, h.tape, h.output, h.size, fun b hb _ => h.block b hb, fun _ h => .inl h⟩
theorem Sep.below {M M' : Nat → Prop} {a w w' : World} (h : Sep M M' a w) (hb : Below w.heap.size w w') : Sep M M' a w' := h.trans (.of_below hb)
theorem Sep.of_grown {M : Nat → Prop} {w w' : World} {row : Option Nat} (h : w.grownBy w' row) (hr : ∀ k, row = some k → M k) : Sep M M w w' :=
  ⟨h.os, h.tape, h.output, h.size, fun b hb hM => h.block b hb (fun e => hM (hr b e.symm)), fun _ h => .inl h⟩
theorem Sep.grown {M M' : Nat → Prop} {a w w' : World} {row : Option Nat} (h : Sep M M' a w) (hg : w.grownBy w' row) (hr : ∀ k, row = some k → M' k) : Sep M M' a w' := h.trans (.of_grown hg hr)
/-- More blocks are held to be writable: new ones. -/
theorem Sep.more {M M' M'' : Nat → Prop} {w w' : World} (h : Sep M M' w w') (hm : ∀ b, M'' b → M' b ∨ w.heap.size ≤ b) : Sep M M'' w w' :=
  ⟨h.os, h.tape, h.output, h.size, h.block, fun b hb => by
    rcases hm b hb with h1 | h1
    · exact h.new b h1
    · exact .inr h1⟩
theorem Sep.low {M M' : Nat → Prop} {B : Nat} {w w' : World} (h : Sep M M' w w') (hB : B ≤ w.heap.size) (hM : ∀ b, M b → B ≤ b) : Below B w w' :=
  ⟨h.os, h.tape, h.output, h.size, fun k hk => h.block k (by omega) (fun hm => by have := hM k hm; omega)⟩

/-- p holds in w, and goes on to hold while none but the blocks of M is written. -/
def Safe (M : Nat → Prop) (w : World) (p : World → Prop) : Prop := ∀ M' w', Sep M M' w w' → p w'
theorem Safe.out {M : Nat → Prop} {w : World} {p : World → Prop} (h : Safe M w p) : p w := h M w (.refl M w)
theorem Safe.sep {M M' : Nat → Prop} {w w' : World} {p : World → Prop} (h : Safe M w p) (hs : Sep M M' w w') : Safe M' w' p := fun M'' w'' k => h M'' w'' (hs.trans k)
theorem Safe.below {M : Nat → Prop} {w w' : World} {p : World → Prop} (h : Safe M w p) (hb : Below w.heap.size w w') : Safe M w' p := h.sep (.of_below hb)
theorem Safe.imp {M : Nat → Prop} {w : World} {p q : World → Prop} (h : Safe M w p) (hi : ∀ x, p x → q x) : Safe M w q := fun M' w' k => hi w' (h M' w' k)
theorem Safe.and {M : Nat → Prop} {w : World} {p q : World → Prop} (h : Safe M w p) (k : Safe M w q) : Safe M w fun x => p x ∧ q x := fun M' w' s => ⟨h M' w' s, k M' w' s⟩
/-- Fewer blocks are writable. -/
theorem Safe.less {M M' : Nat → Prop} {w : World} {p : World → Prop} (h : Safe M w p) (hM : ∀ b, M' b → M b) : Safe M' w p := fun M'' w' k =>
  h M'' w' ⟨k.os, k.tape, k.output, k.size, fun b hb hn => k.block b hb (fun hm => hn (hM b hm)), fun b hb => (k.new b hb).imp (hM b) id⟩
/-- What memory below B says, where only blocks from B on may be written. -/
theorem Safe.low {M : Nat → Prop} {B : Nat} {W w : World} {p : World → Prop} (h : ∀ x, Below B W x → p x) (hb : Below B W w) (hB : B ≤ w.heap.size) (hM : ∀ b, M b → B ≤ b) : Safe M w p :=
  fun _ w' k => h w' (hb.trans (k.low hB hM))

theorem owns_safe {M : Nat → Prop} {w : World} {base e size n : Nat} {v : Value} {xs : List Value} (h : w.ownsRow base e size v n xs) (hv : ∀ k, v.ownBlock = some k → ¬ M k) : Safe M w fun x => x.ownsRow base e size v n xs := fun M' w' s => by
  refine ⟨h.1, ?_⟩
  rcases h.2 with hn | ⟨g, cap, cur, rfl, hbg, hg, rest⟩
  · exact .inl hn
  · refine .inr ⟨g, cap, cur, rfl, hbg, ?_, rest⟩
    rw [s.block g (Array.getElem?_eq_some_iff.1 hg).1 (hv g rfl)]
    exact hg
/-- A row that a callee made behind w lies in none of the writable blocks that w had. -/
theorem owns_fresh {M : Nat → Prop} {w w' : World} {e size n : Nat} {v : Value} {xs : List Value} (h : w'.ownsRow w.heap.size e size v n xs) (hM : ∀ b, M b → b < w.heap.size) : Safe M w' fun x => x.ownsRow w.heap.size e size v n xs :=
  owns_safe h fun k hk hm => by
    have := (h.lt k hk).1
    have := hM k hm
    omega
theorem block_safe {M : Nat → Prop} {w : World} {g : Nat} {o : Obj} (h : w.heap[g]? = some o) (hM : ¬ M g) : Safe M w fun x => x.heap[g]? = some o := fun M' w' s => by
  show w'.heap[g]? = some o
  rw [s.block g (Array.getElem?_eq_some_iff.1 h).1 hM]
  exact h
end Go.Proofs.Ytgimbocoamnkjaa
