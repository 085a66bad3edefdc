
import Derived.Test.YtpodhidabhnnnaaDoorCloseW
import Derived.Laws.Append
import Derived.Laws.AppendOwn
import Derived.Maps.AppendAt
namespace Go.Proofs.YtpodhidabhnnnaaDoor
open Go.RowKit

/-- What an append of something onto an owned slice did: it wrote behind it in its own block, or it made a block of its own and left all others as they were. -/
def Appd (w w' : World) (v v' : Value) : Prop :=
  (∃ b n n' c, v = .slice (some ⟨b, 0, none⟩) n c ∧ v' = .slice (some ⟨b, 0, none⟩) n' c ∧ w.grownBy w' (some b)) ∨ ((∃ k, v'.ownBlock = some k ∧ w.heap.size ≤ k) ∧ w.grownBy w' none)

theorem grownBy_weaken {w w' : World} {row : Option Nat} (h : w.grownBy w' none) : w.grownBy w' row := ⟨h.os, h.tape, h.output, h.size, fun k hk _ => h.block k hk (by simp)⟩
theorem grownBy_fresh {w w' w'' : World} {k : Nat} (h : w.grownBy w' none) (h2 : w'.grownBy w'' (some k)) (hk : w.heap.size ≤ k) : w.grownBy w'' none :=
  ⟨h2.os.trans h.os, h2.tape.trans h.tape, h2.output.trans h.output, Nat.le_trans h.size h2.size, fun j hj _ => by
    rw [h2.block j (by have := h.size; omega) (by simp; omega)]
    exact h.block j hj (by simp)⟩
theorem Appd.alloc {w w' : World} {o : Obj} {v v' : Value} (h : Appd (w.alloc o) w' v v') : Appd w w' v v' := by
  rcases h with ⟨b, n, n', c, h1, h2, h3⟩ | ⟨⟨k, h1, h2⟩, h3⟩
  · exact .inl ⟨b, n, n', c, h1, h2, grownBy_trans (World.grownBy_alloc w o _) h3⟩
  · exact .inr ⟨⟨k, h1, by simp at h2; omega⟩, grownBy_trans (World.grownBy_alloc w o _) h3⟩
theorem Appd.grown {w w' : World} {v v' : Value} (h : Appd w w' v v') : w.grownBy w' v.ownBlock := by
  rcases h with ⟨b, n, n', c, h1, h2, h3⟩ | ⟨⟨k, h1, h2⟩, h3⟩
  · subst h1; exact h3
  · exact grownBy_weaken h3

/-- The beginning of an owned row is owned. -/
theorem own_cut {w : World} {B e n m c : Nat} {ad : Option Addr} {l : List UInt8} (h : w.ownsRow B e 1 (.slice ad n c) n (bv l)) (hm : m ≤ n) (h0 : 0 < n) : w.ownsRow B e 1 (.slice ad m c) m (bv (l.take m)) := by
  have hl : l.length = n := by have := h.1; simpa using this
  refine ⟨by simp [List.length_take]; omega, ?_⟩
  rcases h.2 with ⟨hv, hn⟩ | ⟨g, cap, cur, hv, hb, hg, h1, h2, h3, h4⟩
  · omega
  · simp only [Value.slice.injEq] at hv
    obtain ⟨rfl, -, rfl⟩ := hv
    refine .inr ⟨g, c, cur, rfl, hb, hg, by omega, h2, h3, ?_⟩
    rw [Nat.mul_one] at h4 ⊢
    have : (cur.toList.take n).take m = cur.toList.take m := by rw [List.take_take, Nat.min_eq_left hm]
    rw [← this, h4]
    simp [bv, List.map_take]

/-- One byte appended, and one more: what became of the slice itself. -/
theorem two_apps {w w1 w2 : World} {B e n : Nat} {v v1 v2 : Value} {l : List UInt8} {x y : UInt8} (ho : w.ownsRow B e 1 v n (bv l)) (h1 : Appd w w1 v v1) (ho1 : w1.ownsRow B e 1 v1 (n + 1) (bv (l ++ [x]))) (h2 : Appd w1 w2 v1 v2) (ho2 : w2.ownsRow B e 1 v2 (n + 2) (bv (l ++ [x] ++ [y]))) :
    w.grownBy w2 v.ownBlock ∧ ((∃ b c, v = .slice (some ⟨b, 0, none⟩) n c ∧ v2 = .slice (some ⟨b, 0, none⟩) (n + 2) c) ∨ (w2.ownsRow B e 1 v n (bv l) ∧ ∃ k, v2.ownBlock = some k ∧ w.heap.size ≤ k)) := by
  obtain ⟨ad, c, rfl⟩ := owns_shape ho
  obtain ⟨ad1, c1, rfl⟩ := owns_shape ho1
  obtain ⟨ad2, c2, rfl⟩ := owns_shape ho2
  have hl : l.length = n := by have := ho.1; simpa using this
  rcases h1 with ⟨b, m, m', c', q1, q2, g1⟩ | ⟨⟨k, q1, q2⟩, g1⟩
  · simp only [Value.slice.injEq] at q1 q2
    obtain ⟨rfl, rfl, rfl⟩ := q1
    obtain ⟨rfl, rfl, rfl⟩ := q2
    rcases h2 with ⟨b', m2, m2', c2', r1, r2, g2⟩ | ⟨⟨k, r1, r2⟩, g2⟩
    · simp only [Value.slice.injEq, Option.some.injEq, Addr.mk.injEq, and_true] at r1 r2
      obtain ⟨rfl, rfl, rfl⟩ := r1
      obtain ⟨rfl, -, rfl⟩ := r2
      exact ⟨grownBy_trans g1 g2, .inl ⟨_, _, rfl, rfl⟩⟩
    · refine ⟨grownBy_trans g1 (grownBy_weaken g2), .inr ⟨?_, k, r1, Nat.le_trans g1.size r2⟩⟩
      have := own_cut (m := n) ho1 (by omega) (by omega)
      rw [← hl, List.take_left, hl] at this
      exact owns_grown this g2 (fun j hj hc => by cases hc)
  · have hw1 : w1.ownsRow B e 1 (.slice ad n c) n (bv l) := owns_grown ho g1 (fun j hj hc => by cases hc)
    rcases h2 with ⟨b', m2, m2', c2', r1, r2, g2⟩ | ⟨⟨k', r1, r2⟩, g2⟩
    · simp only [Value.slice.injEq] at r1 r2
      obtain ⟨rfl, rfl, rfl⟩ := r1
      obtain ⟨rfl, rfl, rfl⟩ := r2
      simp only [Value.ownBlock, Option.some.injEq] at q1
      subst q1
      refine ⟨grownBy_weaken (grownBy_fresh g1 g2 q2), .inr ⟨owns_grown hw1 g2 (fun j hj hc => ?_), _, rfl, q2⟩⟩
      have := (ho.lt j hj).2
      have := Option.some.inj hc
      omega
    · exact ⟨grownBy_weaken (grownBy_trans g1 g2), .inr ⟨owns_grown hw1 g2 (fun j hj hc => by cases hc), k', r1, Nat.le_trans g1.size r2⟩⟩

section
variable {P : Program} (w : World)
theorem run_appX (base : Nat) (t ty e : TypeId) (i : TypeInfo) (z : Value) (size bytes : Nat) (ht : P.underlying t = some (.slice e)) (hi : P.info? e = some i) (hz : i.zero = some z)
    (hsize : i.size = size) (hby : i.bytes = bytes) (hzs : z.cells.size = size) (hsz : 0 < size)
    (v : Value) (n : Nat) (xs : List Value) (hown : w.ownsRow base e size v n xs)
    (a : Addr) (m c : Nat) (news : List Value) (hl : news.length = m * size) (hnews : ∀ j u, news[j]? = some u → w.cell? (a.add j) = some u) (h1 : ∀ u ∈ news, u.oneCell' = true)
    (h63 : n + m ≤ maxLen) (hbytes : (n + m) * bytes ≤ 140737488355328) (hbase : base ≤ w.heap.size) (hm : 0 < m) :
    ∃ v' w', (Builtin.append_ #[t, t] ty #[v, .slice (some a) m c]).run P w = .ok v' w' ∧ w'.ownsRow base e size v' (n + m) (xs ++ news) ∧ Appd w w' v v' := by
  obtain ⟨v', w', hr, h2, h3, _, _⟩ := run_append_own_at (P := P) w base t ty e i z size bytes ht hi hz hsize hby hzs hsz v n xs hown a m c news hl hnews h1 h63 hbytes hbase
  refine ⟨v', w', hr, h2, ?_⟩
  subst hsize hby
  have hsmall : n + m ≤ 9223372036854775807 := by simp only [maxLen] at h63; omega
  rcases hown.2 with ⟨rfl, rfl⟩ | ⟨g, cap, cur, rfl, hbg, hg, hnc, hcm, hcs, htake⟩
  · have hr2 := run_append_nil (P := P) w t ty e i z ht hi hz a m c news hl hnews hm (by omega) (by have hb := hbytes; simp only [Nat.zero_add] at hb; omega)
    rw [hr] at hr2
    simp only [Result.ok.injEq] at hr2
    obtain ⟨rfl, rfl⟩ := hr2
    exact .inr ⟨⟨w.heap.size, rfl, Nat.le_refl _⟩, ⟨rfl, rfl, rfl, by simp, fun k hk _ => heap_alloc_old w.drew _ hk⟩⟩
  · by_cases hroom : n + m ≤ cap
    · have hfit : n * i.size + news.length ≤ cur.size := by rw [hl, hcs, ← Nat.add_mul]; exact Nat.mul_le_mul_right _ hroom
      have hr2 := run_append_room (P := P) w t ty e i ht hi g n cap cur hg a m c news hl hnews h1 hroom hfit
      rw [hr] at hr2
      simp only [Result.ok.injEq] at hr2
      obtain ⟨rfl, rfl⟩ := hr2
      exact .inl ⟨g, n, n + m, cap, rfl, rfl, h3⟩
    · have holds : ∀ j u, xs[j]? = some u → w.cell? ((⟨g, 0, none⟩ : Addr).add j) = some u := hown.cells (g := g) rfl
      have hr2 := run_append_grow (P := P) w t ty e i z ht hi hz ⟨g, 0, none⟩ n cap xs hown.1 holds a m c news hl hnews (by omega) (by omega) (growslice_fits (by omega) hbytes)
      rw [hr] at hr2
      simp only [Result.ok.injEq] at hr2
      obtain ⟨rfl, rfl⟩ := hr2
      exact .inr ⟨⟨w.heap.size, rfl, Nat.le_refl _⟩, ⟨rfl, rfl, rfl, by simp, fun k hk _ => heap_alloc_old w.drew _ hk⟩⟩
end

/-- 'append(s, x)', one byte: as a law for the walk, with all that became of it. -/
theorem wpList_appX {P : Program} {w : World} {ops : Array Oper} {rest : List Oper} {o : Oper} {a : Act} {Q : Exit → Act → World → Prop} (hgd : o.guard = none) (s x : Operand) (t : TypeId)
    (ho : o.op = .call { callee := .builtin .append, args := #[s, x], argTypes := #[t, t] })
    (base : Nat) (e : TypeId) (z : Value) (bytes : Nat) (ht : P.underlying t = some (.slice e)) (hinfo : (P.info? e).map (fun i => (i.zero, i.size, i.bytes)) = some (some z, 1, bytes)) (hzs : z.cells.size = 1)
    (ad : Option Addr) (n c : Nat) (xs : List Value) (hs : a.eval s = .slice ad n c) (hown : w.ownsRow base e 1 (.slice ad n c) n xs)
    (ad2 : Addr) (c2 : Nat) (u : Value) (hx : a.eval x = .slice (some ad2) 1 c2) (hrd : Rd w 1 (some ad2) 1 [u]) (h1 : u.oneCell' = true)
    (h63 : n + 1 ≤ maxLen) (hbytes : (n + 1) * bytes ≤ 140737488355328) (hbase : base ≤ w.heap.size)
    (h : ∀ ad' c' w', w'.ownsRow base e 1 (.slice ad' (n + 1) c') (n + 1) (xs ++ [u]) → Appd w w' (.slice ad n c) (.slice ad' (n + 1) c') → wpList P ops Q rest (a.put o.dst (.slice ad' (n + 1) c')) w') :
    wpList P ops Q (o :: rest) a w := by
  obtain ⟨i, hi, hz, hi1, hi2⟩ := info_parts hinfo
  refine wpList_plain hgd fun K hK => ?_
  obtain ⟨v', w', hr, h2, h3⟩ := run_appX (P := P) w base t o.type e i z 1 bytes ht hi hz hi1 hi2 hzs (by decide) _ n xs hown ad2 1 c2 [u] rfl (by
    intro j q hj
    obtain ⟨b, o', hao, hc⟩ := hrd.2 (by decide)
    obtain rfl := Option.some.inj hao
    have hj0 : j < 1 := (List.getElem?_eq_some_iff.1 hj).1
    rw [Addr.add_lit, hc j (by omega)]
    exact hj) (by simpa using h1) h63 hbytes hbase (by decide)
  obtain ⟨ad', c', rfl⟩ := owns_shape h2
  unfold Oper.wp execOp
  simp only [ho, resolve, invoke, builtin, Sem.run_bind, Sem.run_pure, Result.andThen_ok, List.map_toArray, List.map_cons, List.map_nil, hs, hx, hr]
  exact hK _ _ (h ad' c' w' h2 h3)
end Go.Proofs.YtpodhidabhnnnaaDoor
