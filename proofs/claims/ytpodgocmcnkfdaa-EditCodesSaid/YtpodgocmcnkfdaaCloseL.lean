
import Derived.Test.YtpodgocmcnkfdaaCloseW
import Derived.Test.YtpodgocmcnkfdaaApp0
import Derived.Laws.Append
import Derived.Laws.AppendOwn
import Derived.Maps.AppendAt
namespace Go.Proofs.Ytpodgocmcnkfdaa
open Go.RowKit

/-- The beginning of an owned row is owned. -/
theorem own_cut {w : World} {B e n m c : Nat} {ad : Option Addr} {l : List UInt8} (h : w.ownsRow B e 1 (.slice ad n c) n (bv l)) (hm : m ≤ n) (h0 : 0 < n) : w.ownsRow B e 1 (.slice ad m c) m (bv (l.take m)) := by
  have hl : l.length = n := by have := h.1; simpa using this
  refine ⟨by simp [List.length_take]; omega, ?_⟩
  rcases h.2 with ⟨hv, hn⟩ | ⟨g, cap, cur, hv, hb, hg, h1, h2, h3, h4⟩
  · omega
  · simp only [Value.slice.injEq] at hv
    obtain ⟨rfl, -, rfl⟩ := hv
    refine .inr ⟨g, c, cur, rfl, hb, hg, by omega, h2, h3, ?_⟩
    rw [Nat.mul_one] at h4 ⊢
    have : (cur.toList.take n).take m = cur.toList.take m := by rw [List.take_take, Nat.min_eq_left hm]
    rw [← this, h4]
    simp [bv, List.map_take]

/-- One byte appended, and one more: what became of the slice itself. -/
theorem two_apps {w w1 w2 : World} {B e n : Nat} {v v1 v2 : Value} {l : List UInt8} {x y : UInt8} (ho : w.ownsRow B e 1 v n (bv l)) (h1 : Appd w w1 v v1) (ho1 : w1.ownsRow B e 1 v1 (n + 1) (bv (l ++ [x]))) (h2 : Appd w1 w2 v1 v2) (ho2 : w2.ownsRow B e 1 v2 (n + 2) (bv (l ++ [x] ++ [y]))) :
    w.grownBy w2 v.ownBlock ∧ ((∃ b c, v = .slice (some ⟨b, 0, none⟩) n c ∧ v2 = .slice (some ⟨b, 0, none⟩) (n + 2) c) ∨ (w2.ownsRow B e 1 v n (bv l) ∧ ∃ k, v2.ownBlock = some k ∧ w.heap.size ≤ k)) := by
  obtain ⟨ad, c, rfl⟩ := owns_shape ho
  obtain ⟨ad1, c1, rfl⟩ := owns_shape ho1
  obtain ⟨ad2, c2, rfl⟩ := owns_shape ho2
  have hl : l.length = n := by have := ho.1; simpa using this
  rcases h1 with ⟨b, m, m', c', q1, q2, g1⟩ | ⟨⟨k, q1, q2⟩, g1⟩
  · simp only [Value.slice.injEq] at q1 q2
    obtain ⟨rfl, rfl, rfl⟩ := q1
    obtain ⟨rfl, rfl, rfl⟩ := q2
    rcases h2 with ⟨b', m2, m2', c2', r1, r2, g2⟩ | ⟨⟨k, r1, r2⟩, g2⟩
    · simp only [Value.slice.injEq, Option.some.injEq, Addr.mk.injEq, and_true] at r1 r2
      obtain ⟨rfl, rfl, rfl⟩ := r1
      obtain ⟨rfl, -, rfl⟩ := r2
      exact ⟨grownBy_trans g1 g2, .inl ⟨_, _, rfl, rfl⟩⟩
    · refine ⟨grownBy_trans g1 (grownBy_weaken g2), .inr ⟨?_, k, r1, Nat.le_trans g1.size r2⟩⟩
      have := own_cut (m := n) ho1 (by omega) (by omega)
      rw [← hl, List.take_left, hl] at this
      exact owns_grown this g2 (fun j hj hc => by cases hc)
  · have hw1 : w1.ownsRow B e 1 (.slice ad n c) n (bv l) := owns_grown ho g1 (fun j hj hc => by cases hc)
    rcases h2 with ⟨b', m2, m2', c2', r1, r2, g2⟩ | ⟨⟨k', r1, r2⟩, g2⟩
    · simp only [Value.slice.injEq] at r1 r2
      obtain ⟨rfl, rfl, rfl⟩ := r1
      obtain ⟨rfl, rfl, rfl⟩ := r2
      simp only [Value.ownBlock, Option.some.injEq] at q1
      subst q1
      refine ⟨grownBy_weaken (grownBy_fresh g1 g2 q2), .inr ⟨owns_grown hw1 g2 (fun j hj hc => ?_), _, rfl, q2⟩⟩
      have := (ho.lt j hj).2
      have := Option.some.inj hc
      omega
    · exact ⟨grownBy_weaken (grownBy_trans g1 g2), .inr ⟨owns_grown hw1 g2 (fun j hj hc => by cases hc), k', r1, Nat.le_trans g1.size r2⟩⟩

/-- 'append(s, x)', one byte: as a law for the walk, with all that became of it. -/
theorem wpList_appX {P : Program} {w : World} {ops : Array Oper} {rest : List Oper} {o : Oper} {a : Act} {Q : Exit → Act → World → Prop} (hgd : o.guard = none) (s x : Operand) (t : TypeId)
    (ho : o.op = .call { callee := .builtin .append, args := #[s, x], argTypes := #[t, t] })
    (base : Nat) (e : TypeId) (z : Value) (bytes : Nat) (ht : P.underlying t = some (.slice e)) (hinfo : (P.info? e).map (fun i => (i.zero, i.size, i.bytes)) = some (some z, 1, bytes)) (hzs : z.cells.size = 1)
    (ad : Option Addr) (n c : Nat) (xs : List Value) (hs : a.eval s = .slice ad n c) (hown : w.ownsRow base e 1 (.slice ad n c) n xs)
    (ad2 : Addr) (c2 : Nat) (u : Value) (hx : a.eval x = .slice (some ad2) 1 c2) (hrd : Rd w 1 (some ad2) 1 [u]) (h1 : u.oneCell' = true)
    (h63 : n + 1 ≤ maxLen) (hbytes : (n + 1) * bytes ≤ 140737488355328) (hbase : base ≤ w.heap.size)
    (h : ∀ ad' c' w', w'.ownsRow base e 1 (.slice ad' (n + 1) c') (n + 1) (xs ++ [u]) → Appd w w' (.slice ad n c) (.slice ad' (n + 1) c') → wpList P ops Q rest (a.put o.dst (.slice ad' (n + 1) c')) w') :
    wpList P ops Q (o :: rest) a w := by
  obtain ⟨i, hi, hz, hi1, hi2⟩ := info_parts hinfo
  refine wpList_plain hgd fun K hK => ?_
  obtain ⟨v', w', hr, h2, h3⟩ := run_appX (P := P) w base t o.type e i z 1 bytes ht hi hz hi1 hi2 hzs (by decide) _ n xs hown ad2 1 c2 [u] rfl (by
    intro j q hj
    obtain ⟨b, o', hao, hc⟩ := hrd.2 (by decide)
    obtain rfl := Option.some.inj hao
    have hj0 : j < 1 := (List.getElem?_eq_some_iff.1 hj).1
    rw [Addr.add_lit, hc j (by omega)]
    exact hj) (by simpa using h1) h63 hbytes hbase (by decide)
  obtain ⟨ad', c', rfl⟩ := owns_shape h2
  unfold Oper.wp execOp
  simp only [ho, resolve, invoke, builtin, Sem.run_bind, Sem.run_pure, Result.andThen_ok, List.map_toArray, List.map_cons, List.map_nil, hs, hx, hr]
  exact hK _ _ (h ad' c' w' h2 h3)
end Go.Proofs.Ytpodgocmcnkfdaa
