/- Rows of edits, as they read. -/
import Derived.Test.YtpodgocmcnkfdaaAppW
import Derived.Test.YtpodgocmcnkfdaaCut8
namespace Go.Proofs.Ytpodgocmcnkfdaa
open Go.RowKit

/-- The two slices of an edit read as what it adds and what it drops. -/
structure EdC (w : World) (x y : Value) (e : Ed) : Prop where
  ha : Pls w x e.add
  hd : Is w y e.drop
  wf : ∀ n ∈ e.drop, (Lit.int .i64 n).wf = true
theorem EdC.below {w w' : World} {x y : Value} {e : Ed} (h : EdC w x y e) (hb : Below w.heap.size w w') : EdC w' x y e := ⟨h.ha.below hb, h.hd.below hb, h.wf⟩
theorem EdC.shape {w : World} {x y : Value} {e : Ed} (h : EdC w x y e) : (∃ a c, x = .slice a e.add.length c) ∧ ∃ a c, y = .slice a e.drop.length c := by
  obtain ⟨⟨a, c, rfl, _⟩, ⟨d, f, rfl, _⟩, _⟩ := h
  exact ⟨⟨_, _, rfl⟩, _, _, rfl⟩
def edc (x y : Value) (e : Ed) : List Value := [.int .i64 e.log, .int .i64 e.next, .int .i64 e.seq, x, y]
def ED5 (w : World) (b o : Nat) (x y : Value) (e : Ed) : Prop := w.cell? ⟨b, o, none⟩ = some (.int .i64 e.log) ∧ w.cell? ⟨b, o + 1, none⟩ = some (.int .i64 e.next) ∧ w.cell? ⟨b, o + 2, none⟩ = some (.int .i64 e.seq) ∧ w.cell? ⟨b, o + 3, none⟩ = some x ∧ w.cell? ⟨b, o + 4, none⟩ = some y
theorem ED5.below {w w' : World} {b o : Nat} {x y : Value} {e : Ed} (h : ED5 w b o x y e) (hb : Below w.heap.size w w') : ED5 w' b o x y e := ⟨cell_later hb h.1, cell_later hb h.2.1, cell_later hb h.2.2.1, cell_later hb h.2.2.2.1, cell_later hb h.2.2.2.2⟩
/-- The slice value v reads as the edits l. -/
def Eds (w : World) (v : Value) (l : List Ed) : Prop :=
  ∃ ad c, v = .slice ad l.length c ∧ l.length ≤ c ∧ c ≤ 9223372036854775807 ∧ (ad = none → c = 0) ∧
    (0 < l.length → ∃ b o, ad = some ⟨b, o, none⟩ ∧ ∀ (i : Nat) (h : i < l.length), ∃ x y, ED5 w b (o + i * 5) x y l[i] ∧ EdC w x y l[i])
theorem Eds.below {w w' : World} {v : Value} {l : List Ed} (h : Eds w v l) (hb : Below w.heap.size w w') : Eds w' v l := by
  obtain ⟨ad, c, rfl, h1, h2, h3, h4⟩ := h
  refine ⟨ad, c, rfl, h1, h2, h3, fun h0 => ?_⟩
  obtain ⟨b, o, rfl, h5⟩ := h4 h0
  refine ⟨b, o, rfl, fun i hi => ?_⟩
  obtain ⟨x, y, h6, h7⟩ := h5 i hi
  exact ⟨x, y, h6.below hb, h7.below hb⟩
theorem Bx.setRow {B N : Nat} {w x : World} (h : Bx B N w x) (cs : Array Value) : Bx B N w (x.setRow N cs) :=
  ⟨h.os, h.tape, h.output, by simpa using h.size, fun k h1 h2 => (setRow_other x N k cs h2).trans (h.block k h1 h2)⟩
/-- An edit of few tables and numbers. -/
def SmallE (l : List Ed) : Prop := ∀ e ∈ l, e.add.length ≤ 20 ∧ e.drop.length ≤ 20
theorem applyL_len (v : Vn) (e : Ed) : (applyL v e).1.tabs.length ≤ v.tabs.length + e.add.length := by
  rcases applyL_cases v e with ⟨_, _, _, _, h⟩ | ⟨_, h⟩
  · rw [h]
    show (sortT (keptL e.drop v.tabs) e.add).length ≤ _
    rw [sortT_length]
    have := keptL_le e.drop v.tabs
    omega
  · rw [h]
    exact Nat.zero_le _
theorem allL_at (V : Vn) (l : List Ed) (k : Nat) (hk : k < l.length) : allL V (l.drop k) = if (applyL V l[k]).2 = 0 then allL (applyL V l[k]).1 (l.drop (k + 1)) else (vn0, (applyL V l[k]).2) := by
  rw [List.drop_eq_getElem_cons hk, allL]
theorem allL_end (V : Vn) (l : List Ed) (k : Nat) (hk : l.length ≤ k) : allL V (l.drop k) = (V, 0) := by
  rw [List.drop_of_length_le hk, allL]
end Go.Proofs.Ytpodgocmcnkfdaa
