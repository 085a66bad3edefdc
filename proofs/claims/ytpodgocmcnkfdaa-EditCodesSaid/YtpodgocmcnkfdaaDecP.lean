/- What stays while a reader is read from: the reader's box, the boxes of the edit that is built, its rows. -/
import Derived.Test.YtpodgocmcnkfdaaRdr
import Derived.Test.YtpodgocmcnkfdaaEds
import Derived.Test.YtpodgocmcnkfdaaApp0
namespace Go.Proofs.Ytpodgocmcnkfdaa
open Go.RowKit

theorem PlsO.grow {w w' : World} {B N : Nat} {v : Value} {l : List Pl} (h : PlsO w B v l) (hg : w.grownBy w' (some N)) (hN : N < B) : PlsO w' B v l := by
  obtain ⟨kv, h1, h2, h3⟩ := h
  exact ⟨kv, h1, owns_grown h2 hg (own_apart h2 hN), fun i hi => ⟨owns_grown (h3 i hi).hx hg (own_apart (h3 i hi).hx hN), owns_grown (h3 i hi).hy hg (own_apart (h3 i hi).hy hN), (h3 i hi).hb⟩⟩
/-- A reader in its box. -/
structure DR (w wr : World) (N t : Nat) (ad : Option Addr) (c : Nat) (s : Rs) : Prop where
  hb : Below w.heap.size w wr
  hN : w.heap.size ≤ N
  hlt : N < wr.heap.size
  hrow : wr.heap[N]? = some (.cells #[.slice ad s.b.length c, .bool s.bad] t)
  hbs : Bs w (.slice ad s.b.length c) s.b
  hlen : s.b.length ≤ 100000
theorem DR.step {w wr w' : World} {N t : Nat} {ad ad' : Option Addr} {c c' : Nat} {s S : Rs} (h : DR w wr N t ad c s) (hl : S.b.length ≤ s.b.length) (hr : w'.heap[N]? = some (.cells #[.slice ad' S.b.length c', .bool S.bad] t)) (hbs : Bs w (.slice ad' S.b.length c') S.b) (hg : wr.grownBy w' (some N)) : DR w w' N t ad' c' S :=
  ⟨below_grown h.hb hg h.hb.size (fun k hk => by cases hk; exact h.hN), h.hN, Nat.lt_of_lt_of_le h.hlt hg.size, hr, hbs, Nat.le_trans hl h.hlen⟩
theorem DR.below {w wr w' : World} {N t : Nat} {ad : Option Addr} {c : Nat} {s : Rs} (h : DR w wr N t ad c s) (hb : Below wr.heap.size wr w') : DR w w' N t ad c s :=
  ⟨below_then h.hb hb h.hb.size, h.hN, Nat.lt_of_lt_of_le h.hlt hb.size, row_on h.hrow hb, h.hbs, h.hlen⟩
theorem DR.grown {w wr w' : World} {N t M : Nat} {ad : Option Addr} {c : Nat} {s : Rs} (h : DR w wr N t ad c s) (hg : wr.grownBy w' (some M)) (hM : N < M) : DR w w' N t ad c s :=
  ⟨below_grown h.hb hg h.hb.size (fun k hk => by cases hk; have := h.hN; omega), h.hN, Nat.lt_of_lt_of_le h.hlt hg.size, block_grown hg h.hrow (fun e => by cases e; omega), h.hbs, h.hlen⟩
theorem DR.grow {w wr w' : World} {N t : Nat} {row : Option Nat} {ad : Option Addr} {c : Nat} {s : Rs} (h : DR w wr N t ad c s) (hg : wr.grownBy w' row) (hM : ∀ k, row = some k → N < k) : DR w w' N t ad c s :=
  ⟨below_grown h.hb hg h.hb.size (fun k hk => by have := h.hN; have := hM k hk; omega), h.hN, Nat.lt_of_lt_of_le h.hlt hg.size, block_grown hg h.hrow (fun e => by have := hM _ e; omega), h.hbs, h.hlen⟩
theorem grownBy_new {w x : World} {row : Option Nat} (h : w.grownBy x row) {N i : Nat} (hN : w.heap.size ≤ N) (v : Value) : w.grownBy (x.setCell ⟨N, i, none⟩ v) row :=
  ⟨h.os, h.tape, h.output, by have := h.size; simpa [World.setCell] using this, fun k hk hne => (heap_setCell_other _ _ _ _ (by show k ≠ N; omega)).trans (h.block k hk hne)⟩
theorem grownBy_then {w x y : World} {row row2 : Option Nat} (h : w.grownBy x row) (hg : x.grownBy y row2) (hr : ∀ k, row2 = some k → w.heap.size ≤ k ∨ row = some k) : w.grownBy y row :=
  ⟨hg.os.trans h.os, hg.tape.trans h.tape, hg.output.trans h.output, Nat.le_trans h.size hg.size, fun k hk hne => (hg.block k (Nat.lt_of_lt_of_le hk h.size) (fun e => by
    rcases hr k e.symm with h1 | h1
    · omega
    · exact hne h1.symm)).trans (h.block k hk hne)⟩
/-- The boxes and rows of the edit that is built. -/
structure DL (wr : World) (N2 N4 N5 : Nat) (log next seq : Int) (pv dv : Value) (P : List Pl) (Q : List Int) : Prop where
  h24 : N2 < N4
  h45 : N4 < N5
  h2 : wr.heap[N2]? = some (.cells #[.int .i64 0, .int .i64 0, .int .i64 0, .slice none 0 0, .slice none 0 0] 27)
  h5 : wr.heap[N5]? = some (.cells #[.int .i64 log, .int .i64 next, .int .i64 seq, pv, dv] 27)
  hp : PlsO wr (N5 + 1) pv P
  hq : wr.ownsRow (N5 + 1) 3 1 dv Q.length (iv Q)
theorem DL.below {wr w' : World} {N2 N4 N5 : Nat} {log next seq : Int} {pv dv : Value} {P : List Pl} {Q : List Int} (h : DL wr N2 N4 N5 log next seq pv dv P Q) (hb : Below wr.heap.size wr w') : DL w' N2 N4 N5 log next seq pv dv P Q :=
  ⟨h.h24, h.h45, row_on h.h2 hb, row_on h.h5 hb, h.hp.below hb, owns_below h.hq hb⟩
theorem DL.step {wr w' : World} {N2 N4 N5 : Nat} {log next seq : Int} {pv dv : Value} {P : List Pl} {Q : List Int} (h : DL wr N2 N4 N5 log next seq pv dv P Q) (hg : wr.grownBy w' (some N4)) : DL w' N2 N4 N5 log next seq pv dv P Q := by
  have h1 := h.h24
  have h2 := h.h45
  exact ⟨h1, h2, block_grown hg h.h2 (fun e => by cases e; omega), block_grown hg h.h5 (fun e => by cases e; omega), h.hp.grow hg (by omega), owns_grown h.hq hg (own_apart h.hq (by omega))⟩

theorem kept_grownP {te B e size n c b2 s2 m : Nat} {ad : Option Addr} {xs ys : List Value} {v : Value} {w w' : World} (ho : w.ownsRow B e size (.slice ad n c) n xs) (hg : w.grownBy w' (Value.slice ad n c).ownBlock) (he : te ≠ e) (hy : w.ownsRow b2 te s2 v m ys) : w'.ownsRow b2 te s2 v m ys := by
  refine owns_grown hy hg fun k hk hc => ?_
  rcases ho.2 with ⟨hn, _⟩ | ⟨g, cap, cur, hv, _, hgb, _⟩
  · simp only [Value.slice.injEq] at hn
    obtain ⟨rfl, _, _⟩ := hn
    simp [Value.ownBlock] at hc
  · simp only [Value.slice.injEq] at hv
    obtain ⟨rfl, _, _⟩ := hv
    simp only [Value.ownBlock, Option.some.injEq] at hc
    subst hc
    exact own_block_ne hgb hy (fun h => he h.symm) hk
theorem PlsO.grownInt {w w' : World} {B B2 n c : Nat} {v : Value} {l : List Pl} {ad : Option Addr} {xs : List Value} (h : PlsO w B v l) (ho : w.ownsRow B2 3 1 (.slice ad n c) n xs) (hg : w.grownBy w' (Value.slice ad n c).ownBlock) : PlsO w' B v l := by
  obtain ⟨kv, h1, h2, h3⟩ := h
  exact ⟨kv, h1, kept_grownP ho hg (by decide) h2, fun i hi => (h3 i hi).keeps (keeps_grownP ho hg (by decide))⟩

/-! ### bounds of what is read -/
theorem textR_len (g : Bool) (s : Rs) : (textR g s).1.length ≤ 255 ∧ (textR g s).2.b.length ≤ s.b.length := by
  unfold textR
  have h1 := numR_two g 1 (by omega) s
  have h2 := takeL_len g (numR g 1 s).1.toNat (numR g 1 s).2
  have h3 := numR_len g 1 s
  have h4 : ((256 ^ 1 : Nat) : Int) = 256 := by decide
  omega
theorem placeR_b (g : Bool) (s : Rs) : PlB (placeR g s).1 := by
  unfold placeR
  have e1 := (textR_len g (numR g 8 (numR g 1 (numR g 8 s).2).2).2).1
  have e2 := (textR_len g (textR g (numR g 8 (numR g 1 (numR g 8 s).2).2).2).2).1
  have r1 := numR_range g 8 s
  have r2 := numR_range g 1 (numR g 8 s).2
  have r3 := numR_range g 8 (numR g 1 (numR g 8 s).2).2
  exact ⟨Nat.le_trans e1 (by omega), Nat.le_trans e2 (by omega), r1.1, r1.2, r2.1, r2.2, r3.1, r3.2⟩
theorem addsR_len (g : Bool) : ∀ (n : Nat) (s : Rs) (acc : List Pl), (addsR g n s acc).1.length ≤ acc.length + n
  | 0, s, acc => by simp [addsR]
  | n + 1, s, acc => by
    rw [addsR]
    split
    · simp
    · have := addsR_len g n (placeR g s).2 (acc ++ [(placeR g s).1])
      simp only [List.length_append, List.length_singleton] at this
      omega
theorem dropsR_len (g : Bool) : ∀ (n : Nat) (s : Rs) (acc : List Int), (dropsR g n s acc).1.length ≤ acc.length + n
  | 0, s, acc => by simp [dropsR]
  | n + 1, s, acc => by
    rw [dropsR]
    split
    · simp
    · have := dropsR_len g n (numR g 8 s).2 (acc ++ [(numR g 8 s).1])
      simp only [List.length_append, List.length_singleton] at this
      omega
theorem dropsR_wf (g : Bool) : ∀ (n : Nat) (s : Rs) (acc : List Int), (∀ x ∈ acc, (Lit.int .i64 x).wf = true) → ∀ x ∈ (dropsR g n s acc).1, (Lit.int .i64 x).wf = true
  | 0, s, acc, h => by simpa [dropsR] using h
  | n + 1, s, acc, h => by
    rw [dropsR]
    split
    · exact h
    · refine dropsR_wf g n _ _ fun x hx => ?_
      rcases List.mem_append.1 hx with hx | hx
      · exact h x hx
      · rw [List.mem_singleton.1 hx]
        exact WalkArith.wf_i64 (numR_range g 8 s)
end Go.Proofs.Ytpodgocmcnkfdaa
