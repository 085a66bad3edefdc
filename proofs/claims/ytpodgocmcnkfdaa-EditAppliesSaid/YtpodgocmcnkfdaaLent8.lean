/- A lent version whose tables' first keys are written over: what stays. -/
import Derived.Test.YtpodgocmcnkfdaaRApB
namespace Go.Proofs.Ytpodgocmcnkfdaa
open Go.RowKit

theorem own_lp {w : World} {B e size n : Nat} {v : Value} {xs : List Value} (h : w.ownsRow B e size v n xs) : ∀ k, v.ownBlock = some k → B ≤ k ∧ k < w.heap.size := fun k hk => h.lt k hk
/-- Bytes of the call's own, whatever they are. -/
def Kp (w : World) (B n : Nat) (v : Value) : Prop := ∃ bs : List UInt8, bs.length = n ∧ w.ownsRow B 5 1 v n (bv bs)
theorem Kp.store {w : World} {B n g i : Nat} {v : Value} (h : Kp w B n v) (b : UInt8) : Kp (w.setCell ⟨g, i, none⟩ (.int .u8 (b.toNat : Int))) B n v := by
  obtain ⟨bs, h1, h2⟩ := h
  by_cases hc : v.ownBlock = some g
  · obtain ⟨ad, c, rfl⟩ := owns_shape h2
    cases ad with
    | none => cases hc
    | some a =>
      have h2' := h2
      rcases h2'.2 with ⟨e, _⟩ | ⟨g', cap, cur, e, _⟩
      · cases e
      · simp only [Value.slice.injEq, Option.some.injEq] at e
        obtain ⟨rfl, -, rfl⟩ := e
        simp only [Value.ownBlock, Option.some.injEq] at hc
        subst hc
        exact ⟨bs.set i b, by simp [h1], (own_store8 h2 i b).1⟩
  · exact ⟨bs, h1, ownsRow_setCell_other h2 hc _⟩
theorem Kp.below {w w' : World} {B n : Nat} {v : Value} (h : Kp w B n v) (hb : Below w.heap.size w w') : Kp w' B n v := by
  obtain ⟨bs, h1, h2⟩ := h
  exact ⟨bs, h1, owns_below h2 hb⟩

/-- A row of the call's own whose first keys may have been written over: keys in blocks below C. -/
def PlsM (w : World) (B C : Nat) (v : Value) (l : List Pl) : Prop :=
  ∃ kv : List (Value × Value), ∃ _ : kv.length = l.length, w.ownsRow B 41 5 v l.length (plcs kv l) ∧ ∀ (i : Nat) (h : i < l.length), Kp w B l[i].least.length (kv[i]'(by omega)).1 ∧ (∀ k, (kv[i]'(by omega)).1.ownBlock = some k → k < C) ∧ ∃ a n c, (kv[i]'(by omega)).2 = .slice a n c
theorem PlsM.of {w w' : World} {B : Nat} {v : Value} {l : List Pl} (h : PlsO w B v l) (hb : Below w.heap.size w w') : PlsM w' B w.heap.size v l := by
  obtain ⟨kv, h1, h2, h3⟩ := h
  exact ⟨kv, h1, owns_below h2 hb, fun i hi => ⟨⟨_, rfl, owns_below (h3 i hi).hx hb⟩, fun k hk => (own_lp (h3 i hi).hx k hk).2, by obtain ⟨a, c, e⟩ := owns_shape (h3 i hi).hy; exact ⟨a, _, c, e⟩⟩⟩
theorem PlsM.below {w w' : World} {B C : Nat} {v : Value} {l : List Pl} (h : PlsM w B C v l) (hb : Below w.heap.size w w') : PlsM w' B C v l := by
  obtain ⟨kv, h1, h2, h3⟩ := h
  exact ⟨kv, h1, owns_below h2 hb, fun i hi => ⟨(h3 i hi).1.below hb, (h3 i hi).2⟩⟩
theorem PlsM.store {w : World} {B C g i : Nat} {cs : Array Value} {v : Value} {l : List Pl} (h : PlsM w B C v l) (hg : w.heap[g]? = some (.cells cs 5 (0, 0))) (b : UInt8) : PlsM (w.setCell ⟨g, i, none⟩ (.int .u8 (b.toNat : Int))) B C v l := by
  obtain ⟨kv, h1, h2, h3⟩ := h
  exact ⟨kv, h1, ownsRow_setCell_other h2 (own_block_ne hg h2 (by decide)) _, fun j hj => ⟨(h3 j hj).1.store b, (h3 j hj).2⟩⟩
theorem PlsR.low {w0 w : World} {B : Nat} {v : Value} {l : List Pl} (h : PlsR w0 w B v l) {a : Addr} (ha : a.block < B) (u : Value) : PlsR w0 (w.setCell a u) B v l := by
  obtain ⟨kv, h1, h2, h3⟩ := h
  exact ⟨kv, h1, ownsRow_setCell_below h2 ha u, h3⟩

/-- While a lent version's first keys are written over: what stays. -/
structure ML (w w7 : World) (C N5 N6 N8 : Nat) (o5 o6 o8 : Obj) (lv xv yv : Value) (L XT : List Pl) (wr : World) : Prop where
  hb : Below w7.heap.size w7 wr
  hm : PlsM wr w7.heap.size C lv L
  hx : PlsO wr C xv XT
  hy : PlsR w wr C yv XT
  h5 : wr.heap[N5]? = some o5
  h6 : wr.heap[N6]? = some o6
  h8 : wr.heap[N8]? = some o8
  c5 : C ≤ N5
  c6 : C ≤ N6
  c8 : C ≤ N8
  hc : C ≤ wr.heap.size
theorem ML.store {w w7 : World} {C N5 N6 N8 g i : Nat} {o5 o6 o8 : Obj} {lv xv yv : Value} {L XT : List Pl} {wr : World} {cs : Array Value} (h : ML w w7 C N5 N6 N8 o5 o6 o8 lv xv yv L XT wr)
    (hg : wr.heap[g]? = some (.cells cs 5 (0, 0))) (hlo : w7.heap.size ≤ g) (hhi : g < C) (b : UInt8) : ML w w7 C N5 N6 N8 o5 o6 o8 lv xv yv L XT (wr.setCell ⟨g, i, none⟩ (.int .u8 (b.toNat : Int))) where
  hb := h.hb.setCell hlo _
  hm := h.hm.store hg b
  hx := h.hx.low (by show g < C; exact hhi) _
  hy := h.hy.low (by show g < C; exact hhi) _
  h5 := by rw [heap_setCell_other _ _ _ _ (by show N5 ≠ g; have := h.c5; omega)]; exact h.h5
  h6 := by rw [heap_setCell_other _ _ _ _ (by show N6 ≠ g; have := h.c6; omega)]; exact h.h6
  h8 := by rw [heap_setCell_other _ _ _ _ (by show N8 ≠ g; have := h.c8; omega)]; exact h.h8
  c5 := h.c5
  c6 := h.c6
  c8 := h.c8
  hc := by simpa [World.setCell] using h.hc
theorem ML.below {w w7 : World} {C N5 N6 N8 : Nat} {o5 o6 o8 : Obj} {lv xv yv : Value} {L XT : List Pl} {wr w' : World} (h : ML w w7 C N5 N6 N8 o5 o6 o8 lv xv yv L XT wr) (hb : Below wr.heap.size wr w') : ML w w7 C N5 N6 N8 o5 o6 o8 lv xv yv L XT w' where
  hb := below_then h.hb hb h.hb.size
  hm := h.hm.below hb
  hx := h.hx.below hb
  hy := h.hy.below hb
  h5 := row_on h.h5 hb
  h6 := row_on h.h6 hb
  h8 := row_on h.h8 hb
  c5 := h.c5
  c6 := h.c6
  c8 := h.c8
  hc := Nat.le_trans h.hc hb.size
/-- The cells that the writing reads. -/
theorem ML.at {w w7 : World} {C N5 N6 N8 : Nat} {o5 o6 o8 : Obj} {lv xv yv : Value} {L XT : List Pl} {wr : World} (h : ML w w7 C N5 N6 N8 o5 o6 o8 lv xv yv L XT wr) (i : Nat) (hi : i < L.length) :
    ∃ gr c a c', lv = .slice (some ⟨gr, 0, none⟩) L.length c ∧ wr.cell? ⟨gr, i * 5 + 3, none⟩ = some (.slice a L[i].least.length c') ∧ L[i].least.length ≤ 9223372036854775807 ∧
      (0 < L[i].least.length → ∃ g, a = some ⟨g, 0, none⟩ ∧ w7.heap.size ≤ g ∧ g < C ∧ (∃ cs, wr.heap[g]? = some (.cells cs 5 (0, 0))) ∧ ∀ j, j < L[i].least.length → ∃ b : UInt8, wr.cell? ⟨g, j, none⟩ = some (.int .u8 (b.toNat : Int)) ∧ wr.frozen? ⟨g, j, none⟩ = false) := by
  obtain ⟨kv, h1, h2, h3⟩ := h.hm
  obtain ⟨ad, c, rfl⟩ := owns_shape h2
  obtain ⟨gr, rfl⟩ := owns_head h2 (by omega)
  obtain ⟨⟨bs, hbs, hk⟩, hlt, _⟩ := h3 i hi
  have hat := h2.cellAt (i * 5 + 3) (by omega)
  rw [plcs_at kv L h1 i hi 3 (by omega)] at hat
  obtain ⟨a, c', e⟩ := owns_shape hk
  rw [e] at hk hlt
  have hcap := owns_cap hk
  unfold maxLen at hcap
  refine ⟨gr, c, a, c', rfl, ?_, by omega, fun h0 => ?_⟩
  · rw [hat]
    show some (kv[i]).1 = _
    rw [e]
  · obtain ⟨g, rfl⟩ := owns_head hk h0
    have hcc := hk
    rcases hcc.2 with ⟨e2, _⟩ | ⟨g', cap, cur, e2, hbase, hh, _⟩
    · cases e2
    · simp only [Value.slice.injEq, Option.some.injEq, Addr.mk.injEq, and_true] at e2
      obtain ⟨rfl, -, rfl⟩ := e2
      refine ⟨g, rfl, hbase, hlt g rfl, ⟨cur, hh⟩, fun j hj => ?_⟩
      have hc := hk.cellAt j (by omega)
      refine ⟨bs[j]'(by omega), ?_, hk.frozenAt j⟩
      rw [hc]
      unfold bv
      rw [List.getElem?_map, List.getElem?_eq_getElem (by omega)]
      rfl
end Go.Proofs.Ytpodgocmcnkfdaa
