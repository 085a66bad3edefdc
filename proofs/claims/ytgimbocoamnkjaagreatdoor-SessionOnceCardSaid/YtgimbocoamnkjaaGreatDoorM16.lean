/- Appends: what became of the slice itself; onto a slice with no room at all nothing old is touched. -/
import Derived.Test.YtgimbocoamnkjaaGreatDoorM01
import Derived.Laws.Append
import Derived.Laws.AppendOwn
import Derived.Maps.AppendAt
import Derived.Deep.RegionLaw
import Derived.Deep.Upon
import Derived.Test.YtgimbocoamnkjaaGreatDoorM04
namespace Go.Proofs.YtgimbocoamnkjaaGreatDoor
open Go.RowKit

/-- What an append of something onto an owned slice did: it wrote behind it in its own block, or it made a block of its own and left all others as they were. -/
def Appd (w w' : World) (v v' : Value) : Prop :=
  (∃ b n n' c, v = .slice (some ⟨b, 0, none⟩) n c ∧ v' = .slice (some ⟨b, 0, none⟩) n' c ∧ w.grownBy w' (some b)) ∨ ((∃ k, v'.ownBlock = some k ∧ w.heap.size ≤ k) ∧ w.grownBy w' none)

theorem grownBy_weaken {w w' : World} {row : Option Nat} (h : w.grownBy w' none) : w.grownBy w' row := ⟨h.os, h.tape, h.output, h.size, fun k hk _ => h.block k hk (by simp)⟩
theorem grownBy_fresh {w w' w'' : World} {k : Nat} (h : w.grownBy w' none) (h2 : w'.grownBy w'' (some k)) (hk : w.heap.size ≤ k) : w.grownBy w'' none :=
  ⟨h2.os.trans h.os, h2.tape.trans h.tape, h2.output.trans h.output, Nat.le_trans h.size h2.size, fun j hj _ => by
    rw [h2.block j (by have := h.size; omega) (by simp; omega)]
    exact h.block j hj (by simp)⟩
theorem Appd.alloc {w w' : World} {o : Obj} {v v' : Value} (h : Appd (w.alloc o) w' v v') : Appd w w' v v' := by
  rcases h with ⟨b, n, n', c, h1, h2, h3⟩ | ⟨⟨k, h1, h2⟩, h3⟩
  · exact .inl ⟨b, n, n', c, h1, h2, grownBy_trans (World.grownBy_alloc w o _) h3⟩
  · exact .inr ⟨⟨k, h1, by simp at h2; omega⟩, grownBy_trans (World.grownBy_alloc w o _) h3⟩
theorem Appd.grown {w w' : World} {v v' : Value} (h : Appd w w' v v') : w.grownBy w' v.ownBlock := by
  rcases h with ⟨b, n, n', c, h1, h2, h3⟩ | ⟨⟨k, h1, h2⟩, h3⟩
  · subst h1; exact h3
  · exact grownBy_weaken h3

section
variable {P : Program} (w : World)
theorem run_appX (base : Nat) (t ty e : TypeId) (i : TypeInfo) (z : Value) (size bytes : Nat) (ht : P.underlying t = some (.slice e)) (hi : P.info? e = some i) (hz : i.zero = some z)
    (hsize : i.size = size) (hby : i.bytes = bytes) (hzs : z.cells.size = size) (hsz : 0 < size)
    (v : Value) (n : Nat) (xs : List Value) (hown : w.ownsRow base e size v n xs)
    (a : Addr) (m c : Nat) (news : List Value) (hl : news.length = m * size) (hnews : ∀ j u, news[j]? = some u → w.cell? (a.add j) = some u) (h1 : ∀ u ∈ news, u.oneCell' = true)
    (h63 : n + m ≤ maxLen) (hbytes : (n + m) * bytes ≤ 140737488355328) (hbase : base ≤ w.heap.size) (hm : 0 < m) :
    ∃ v' w', (Builtin.append_ #[t, t] ty #[v, .slice (some a) m c]).run P w = .ok v' w' ∧ w'.ownsRow base e size v' (n + m) (xs ++ news) ∧ Appd w w' v v' := by
  obtain ⟨v', w', hr, h2, h3, _, _⟩ := run_append_own_at (P := P) w base t ty e i z size bytes ht hi hz hsize hby hzs hsz v n xs hown a m c news hl hnews h1 h63 hbytes hbase
  refine ⟨v', w', hr, h2, ?_⟩
  subst hsize hby
  have hsmall : n + m ≤ 9223372036854775807 := by simp only [maxLen] at h63; omega
  rcases hown.2 with ⟨rfl, rfl⟩ | ⟨g, cap, cur, rfl, hbg, hg, hnc, hcm, hcs, htake⟩
  · have hr2 := run_append_nil (P := P) w t ty e i z ht hi hz a m c news hl hnews hm (by omega) (by have hb := hbytes; simp only [Nat.zero_add] at hb; omega)
    rw [hr] at hr2
    simp only [Result.ok.injEq] at hr2
    obtain ⟨rfl, rfl⟩ := hr2
    exact .inr ⟨⟨w.heap.size, rfl, Nat.le_refl _⟩, ⟨rfl, rfl, rfl, by simp, fun k hk _ => heap_alloc_old w.drew _ hk⟩⟩
  · by_cases hroom : n + m ≤ cap
    · have hfit : n * i.size + news.length ≤ cur.size := by rw [hl, hcs, ← Nat.add_mul]; exact Nat.mul_le_mul_right _ hroom
      have hr2 := run_append_room (P := P) w t ty e i ht hi g n cap cur hg a m c news hl hnews h1 hroom hfit
      rw [hr] at hr2
      simp only [Result.ok.injEq] at hr2
      obtain ⟨rfl, rfl⟩ := hr2
      exact .inl ⟨g, n, n + m, cap, rfl, rfl, h3⟩
    · have holds : ∀ j u, xs[j]? = some u → w.cell? ((⟨g, 0, none⟩ : Addr).add j) = some u := hown.cells (g := g) rfl
      have hr2 := run_append_grow (P := P) w t ty e i z ht hi hz ⟨g, 0, none⟩ n cap xs hown.1 holds a m c news hl hnews (by omega) (by omega) (growslice_fits (by omega) hbytes)
      rw [hr] at hr2
      simp only [Result.ok.injEq] at hr2
      obtain ⟨rfl, rfl⟩ := hr2
      exact .inr ⟨⟨w.heap.size, rfl, Nat.le_refl _⟩, ⟨rfl, rfl, rfl, by simp, fun k hk _ => heap_alloc_old w.drew _ hk⟩⟩
end


/-- An append onto a slice with no room at all (nil, or empty): whatever was there is as it was. -/
theorem run_app0 {P : Program} {w : World} (base : Nat) (t ty e : TypeId) (i : TypeInfo) (z : Value) (size bytes : Nat) (ht : P.underlying t = some (.slice e)) (hi : P.info? e = some i) (hz : i.zero = some z)
    (hsize : i.size = size) (hby : i.bytes = bytes) (hzs : z.cells.size = size) (hsz : 0 < size)
    (a0 : Option Addr) (hown : w.ownsRow base e size (.slice a0 0 0) 0 [])
    (ad : Option Addr) (m c : Nat) (news : List Value) (hrd : Rd w size ad m news) (h1 : ∀ u ∈ news, u.oneCell' = true) (hnil : ad = none → c = 0)
    (h63 : m ≤ maxLen) (hbytes : m * bytes ≤ 140737488355328) (hbase : base ≤ w.heap.size) :
    ∃ ad' c' w', (Builtin.append_ #[t, t] ty #[.slice a0 0 0, .slice ad m c]).run P w = .ok (.slice ad' m c') w' ∧ w'.ownsRow base e size (.slice ad' m c') m news ∧ Below w.heap.size w w' := by
  by_cases hm : 0 < m
  · obtain ⟨b, o, rfl, hc⟩ := hrd.2 (by have := Nat.mul_pos hm hsz; omega)
    obtain ⟨v', w', hr, h2, h3⟩ := run_appX (P := P) w base t ty e i z size bytes ht hi hz hsize hby hzs hsz _ 0 [] hown ⟨b, o, none⟩ m c news hrd.1 (by
      intro j q hj
      have hj0 : j < m * size := by rw [← hrd.1]; exact (List.getElem?_eq_some_iff.1 hj).1
      rw [Addr.add_lit, hc j hj0]
      exact hj) h1 (by omega) (by simpa using hbytes) hbase hm
    obtain ⟨ad', c', rfl⟩ := owns_shape h2
    rw [Nat.zero_add, List.nil_append] at h2
    rw [Nat.zero_add] at hr h3
    refine ⟨ad', c', w', hr, h2, ?_⟩
    rcases h3 with ⟨g, n', n'', c'', q1, q2, q3⟩ | ⟨_, q3⟩
    · simp only [Value.slice.injEq] at q1 q2
      obtain ⟨rfl, rfl, rfl⟩ := q1
      have := (owns_cap h2).1
      omega
    · exact (Below.refl _ _).grown q3 (Nat.le_refl _) (fun k hk => by cases hk)
  · obtain rfl : m = 0 := by omega
    have hn0 : news = [] := List.eq_nil_of_length_eq_zero (by simpa using hrd.1)
    subst hn0
    refine ⟨a0, 0, w, ?_, hown, Below.refl _ _⟩
    have hs : Src P i.size t (.slice ad 0 c) 0 [] w := by
      cases ad with
      | none => exact Src.ofNil w ht c
      | some a => exact Src.ofSlice w ht a 0 c [] (by simp) (by simp) (by simp)
    exact run_append_nothing w t t ty e i ht hi a0 0 0 (Nat.le_refl _) _ hs

theorem wp_app0 {P : Program} {w : World} {o : Oper} {a : Act} {K : Act → World → Prop} {Q : Exit → Act → World → Prop} (s x : Operand) (t : TypeId)
    (ho : o.op = .call { callee := .builtin .append, args := #[s, x], argTypes := #[t, t] })
    (base : Nat) (e : TypeId) (z : Value) (size bytes : Nat) (ht : P.underlying t = some (.slice e)) (hinfo : (P.info? e).map (fun i => (i.zero, i.size, i.bytes)) = some (some z, size, bytes)) (hzs : z.cells.size = size) (hsz : 0 < size)
    (a0 : Option Addr) (hs : a.eval s = .slice a0 0 0) (hown : w.ownsRow base e size (.slice a0 0 0) 0 [])
    (ad : Option Addr) (m c : Nat) (news : List Value) (hx : a.eval x = .slice ad m c) (hrd : Rd w size ad m news) (h1 : ∀ u ∈ news, u.oneCell' = true) (hnil : ad = none → c = 0)
    (h63 : m ≤ maxLen) (hbytes : m * bytes ≤ 140737488355328) (hbase : base ≤ w.heap.size)
    (h : ∀ ad' c' w', w'.ownsRow base e size (.slice ad' m c') m news → Below w.heap.size w w' → K (a.put o.dst (.slice ad' m c')) w') : o.wp P a w K Q := by
  obtain ⟨i, hi, hz, hi1, hi2⟩ := info_parts hinfo
  obtain ⟨ad', c', w', hr, h2, h3⟩ := run_app0 (P := P) base t o.type e i z size bytes ht hi hz hi1 hi2 hzs hsz a0 hown ad m c news hrd h1 hnil h63 hbytes hbase
  unfold Oper.wp execOp
  simp only [ho, resolve, invoke, builtin, Sem.run_bind, Sem.run_pure, Result.andThen_ok, List.map_toArray, List.map_cons, List.map_nil, hs, hx, hr]
  exact h ad' c' w' h2 h3

theorem step_app0 {P : Program} {w : World} {ops : Array Oper} {o : Oper} {a : Act} {K : Act → World → Prop} {Q : Exit → Act → World → Prop} {E : Prop} (hgd : o.guard = none) (s x : Operand) (t : TypeId)
    (ho : o.op = .call { callee := .builtin .append, args := #[s, x], argTypes := #[t, t] })
    (base : Nat) (e : TypeId) (z : Value) (size bytes : Nat) (ht : P.underlying t = some (.slice e)) (hinfo : (P.info? e).map (fun i => (i.zero, i.size, i.bytes)) = some (some z, size, bytes)) (hzs : z.cells.size = size) (hsz : 0 < size)
    (a0 : Option Addr) (hs : a.eval s = .slice a0 0 0) (hown : w.ownsRow base e size (.slice a0 0 0) 0 [])
    (ad : Option Addr) (m c : Nat) (news : List Value) (hx : a.eval x = .slice ad m c) (hrd : Rd w size ad m news) (h1 : ∀ u ∈ news, u.oneCell' = true) (hnil : ad = none → c = 0)
    (h63 : m ≤ maxLen) (hbytes : m * bytes ≤ 140737488355328) (hbase : base ≤ w.heap.size)
    (h : ∀ ad' c' w', w'.ownsRow base e size (.slice ad' m c') m news → Below w.heap.size w w' → K (a.put o.dst (.slice ad' m c')) w') :
    if Region.wanted o (yielded ops a.tmps) = true then Oper.wp P o a w K Q else E := by
  have hw : Region.wanted o (yielded ops a.tmps) = true := by simp [Region.wanted, hgd]
  rw [if_pos hw]
  exact wp_app0 s x t ho base e z size bytes ht hinfo hzs hsz a0 hs hown ad m c news hx hrd h1 hnil h63 hbytes hbase h

theorem below_tr {a b c : World} (h : Below a.heap.size a b) (h2 : Below b.heap.size b c) : Below a.heap.size a c := h.trans (h2.mono h.size)

/-- An empty row that was just written out. -/
theorem own_empty {B e G : Nat} (X : World) (hG : G = X.heap.size) (hB : B ≤ G) (size : Nat) : (X.alloc (.cells #[] e)).ownsRow B e size (.slice (some ⟨G, 0, none⟩) 0 0) 0 [] := by
  subst hG
  exact World.ownsRow_made X #[] 0 hB (by unfold maxLen; omega) (by simp)
theorem own_e1d {B e G : Nat} (X : World) (hG : G = X.heap.size) (hB : B ≤ G) (size : Nat) : (X.alloc (.cells #[] e)).drew.ownsRow B e size (.slice (some ⟨G, 0, none⟩) 0 0) 0 [] := own_empty X hG hB size
theorem own_e2 {B e G : Nat} (X : World) (o : Obj) (hG : G = X.heap.size) (hB : B ≤ G) (size : Nat) : ((X.alloc (.cells #[] e)).alloc o).ownsRow B e size (.slice (some ⟨G, 0, none⟩) 0 0) 0 [] := (own_empty X hG hB size).alloc o
theorem own_e2d {B e G : Nat} (X : World) (o : Obj) (hG : G = X.heap.size) (hB : B ≤ G) (size : Nat) : ((X.alloc (.cells #[] e)).alloc o).drew.ownsRow B e size (.slice (some ⟨G, 0, none⟩) 0 0) 0 [] := (own_empty X hG hB size).alloc o

/-- What lies in a cell. -/
def cellOr (x : World) (a : Addr) : Value := (x.cell? a).getD (.bool false)
theorem cellOr_of {x : World} {a : Addr} {v : Value} (h : x.cell? a = some v) : x.cell? a = some (cellOr x a) := by
  rw [cellOr, h]
  rfl

/-- A parameter's box in block N, the result's in the next one. -/
structure BoxIn (N t : Nat) (box : Array Value) (x : World) : Prop where
  hb : x.heap[N]? = some (.cells box t (0, 0))
  ho : ∃ out : Array Value, out.size = box.size ∧ x.heap[N + 1]? = some (.cells out t (0, 0))
theorem BoxIn.below {N t : Nat} {box : Array Value} {x y : World} (h : BoxIn N t box x) (hb : Below x.heap.size x y) : BoxIn N t box y := by
  obtain ⟨h1, out, h2, h3⟩ := h
  exact ⟨by rw [hb.block N (Array.getElem?_eq_some_iff.1 h1).1]; exact h1, out, h2, by rw [hb.block (N + 1) (Array.getElem?_eq_some_iff.1 h3).1]; exact h3⟩
theorem BoxIn.set {N t : Nat} {box : Array Value} {x : World} (h : BoxIn N t box x) (i : Nat) (v : Value) : BoxIn N t box (x.setCell ⟨N + 1, i, none⟩ v) := by
  obtain ⟨h1, out, h2, h3⟩ := h
  refine ⟨by rw [heap_setCell_other _ _ _ _ (by simp)]; exact h1, out.setIfInBounds i v, by simp [h2], ?_⟩
  rw [heap_setCell_same _ _ _ _ _ _ h3]
theorem BoxIn.at {N t : Nat} {box : Array Value} {x : World} (h : BoxIn N t box x) (i : Nat) (v : Value) (hv : box[i]? = some v) : x.cell? ⟨N, i, none⟩ = some v := by
  rw [cell_of_row x N i _ _ _ h.hb]
  exact hv
theorem BoxIn.out {N t : Nat} {box : Array Value} {x : World} (h : BoxIn N t box x) (i : Nat) (hi : i < box.size) : x.cell? ⟨N + 1, i, none⟩ = some (cellOr x ⟨N + 1, i, none⟩) := by
  obtain ⟨h1, out, h2, h3⟩ := h
  exact cellOr_of (v := out[i]) (by rw [cell_of_row x (N + 1) i _ _ _ h3]; simp [h2, hi])
theorem BoxIn.free {N t : Nat} {box : Array Value} {x : World} (h : BoxIn N t box x) (i : Nat) : x.frozen? ⟨N + 1, i, none⟩ = false := by
  obtain ⟨h1, out, h2, h3⟩ := h
  exact frozen_of_row x (N + 1) i _ _ h3
theorem BoxIn.keeps {N t te : Nat} {box : Array Value} {x : World} (h : BoxIn N t box x) (ht : t ≠ te) (i : Nat) (v : Value) : Keeps te x (x.setCell ⟨N + 1, i, none⟩ v) := by
  obtain ⟨h1, out, h2, h3⟩ := h
  exact Keeps.setK h3 ht
theorem BoxIn.keeps4 {N t te : Nat} {box : Array Value} {x : World} (h : BoxIn N t box x) (ht : t ≠ te) (a b c d : Value) : Keeps te x ((((x.setCell ⟨N + 1, 0, none⟩ a).setCell ⟨N + 1, 1, none⟩ b).setCell ⟨N + 1, 2, none⟩ c).setCell ⟨N + 1, 3, none⟩ d) :=
  (((h.keeps ht 0 a).trans ((h.set 0 a).keeps ht 1 b)).trans (((h.set 0 a).set 1 b).keeps ht 2 c)).trans ((((h.set 0 a).set 1 b).set 2 c).keeps ht 3 d)
theorem BoxIn.done4 {N t : Nat} {box : Array Value} {x : World} (h : BoxIn N t box x) (hs : box.size = 4) (a b c d : Value) : ((((x.setCell ⟨N + 1, 0, none⟩ a).setCell ⟨N + 1, 1, none⟩ b).setCell ⟨N + 1, 2, none⟩ c).setCell ⟨N + 1, 3, none⟩ d).heap[N + 1]? = some (.cells #[a, b, c, d] t (0, 0)) := by
  obtain ⟨h1, out, h2, h3⟩ := h
  rw [heap_setCell_same _ _ 3 _ _ _ (heap_setCell_same _ _ 2 _ _ _ (heap_setCell_same _ _ 1 _ _ _ (heap_setCell_same _ _ 0 _ _ _ h3)))]
  match out, h2.trans hs with
  | ⟨[_, _, _, _]⟩, _ => rfl
theorem below_set4 {B N : Nat} {w x : World} (h : Below B w x) (hN : B ≤ N) (a b c d : Value) : Below B w ((((x.setCell ⟨N, 0, none⟩ a).setCell ⟨N, 1, none⟩ b).setCell ⟨N, 2, none⟩ c).setCell ⟨N, 3, none⟩ d) :=
  (((h.setCell hN a).setCell hN b).setCell hN c).setCell hN d

/-- 'append(s, x...)' onto a slice of the call's own, x whatever slice: the run. -/
theorem run_appAt {P : Program} {w : World} (base : Nat) (t ty e : TypeId) (i : TypeInfo) (z : Value) (size bytes : Nat) (ht : P.underlying t = some (.slice e)) (hi : P.info? e = some i) (hz : i.zero = some z)
    (hsize : i.size = size) (hby : i.bytes = bytes) (hzs : z.cells.size = size) (hsz : 0 < size)
    (a0 : Option Addr) (n c0 : Nat) (xs : List Value) (hown : w.ownsRow base e size (.slice a0 n c0) n xs)
    (ad : Option Addr) (m c : Nat) (news : List Value) (hrd : Rd w size ad m news) (h1 : ∀ u ∈ news, u.oneCell' = true) (hnil : ad = none → c = 0)
    (h63 : n + m ≤ maxLen) (hbytes : (n + m) * bytes ≤ 140737488355328) (hbase : base ≤ w.heap.size) :
    ∃ ad' c' w', (Builtin.append_ #[t, t] ty #[.slice a0 n c0, .slice ad m c]).run P w = .ok (.slice ad' (n + m) c') w' ∧ w'.ownsRow base e size (.slice ad' (n + m) c') (n + m) (xs ++ news) ∧ w.grownBy w' (Value.slice a0 n c0).ownBlock ∧ ((Value.slice ad' (n + m) c').ownBlock = (Value.slice a0 n c0).ownBlock ∨ (Value.slice ad' (n + m) c').ownBlock = some w.heap.size) := by
  by_cases hm : 0 < m
  · obtain ⟨b, o, rfl, hc⟩ := hrd.2 (by have := Nat.mul_pos hm hsz; omega)
    obtain ⟨v', w', hr, h2, h3, _, h5⟩ := run_append_own_at (P := P) w base t ty e i z size bytes ht hi hz hsize hby hzs hsz _ n xs hown ⟨b, o, none⟩ m c news hrd.1 (by
      intro j q hj
      have hj0 : j < m * size := by rw [← hrd.1]; exact (List.getElem?_eq_some_iff.1 hj).1
      rw [Addr.add_lit, hc j hj0]
      exact hj) h1 h63 hbytes hbase
    obtain ⟨ad', c', rfl⟩ := owns_shape h2
    exact ⟨ad', c', w', hr, h2, h3, h5⟩
  · obtain rfl : m = 0 := by omega
    have hn0 : news = [] := List.eq_nil_of_length_eq_zero (by simpa using hrd.1)
    subst hn0
    have hs : Src P i.size t (.slice ad 0 c) 0 [] w := by
      cases ad with
      | none => obtain rfl := hnil rfl; exact Src.ofNil w ht 0
      | some a => exact Src.ofSlice w ht a 0 c [] (by simp) (by simp) (by simp)
    exact ⟨a0, c0, w, run_append_nothing w t t ty e i ht hi a0 n c0 (owns_cap hown).1 _ hs, by simpa using hown, World.grownBy.refl _ _, .inl (by cases a0 <;> rfl)⟩

theorem wp_appAt {P : Program} {w : World} {o : Oper} {a : Act} {K : Act → World → Prop} {Q : Exit → Act → World → Prop} (s x : Operand) (t : TypeId)
    (ho : o.op = .call { callee := .builtin .append, args := #[s, x], argTypes := #[t, t] })
    (base : Nat) (e : TypeId) (z : Value) (size bytes : Nat) (ht : P.underlying t = some (.slice e)) (hinfo : (P.info? e).map (fun i => (i.zero, i.size, i.bytes)) = some (some z, size, bytes)) (hzs : z.cells.size = size) (hsz : 0 < size)
    (a0 : Option Addr) (n c0 : Nat) (xs : List Value) (hs : a.eval s = .slice a0 n c0) (hown : w.ownsRow base e size (.slice a0 n c0) n xs)
    (ad : Option Addr) (m c : Nat) (news : List Value) (hx : a.eval x = .slice ad m c) (hrd : Rd w size ad m news) (h1 : ∀ u ∈ news, u.oneCell' = true) (hnil : ad = none → c = 0)
    (h63 : n + m ≤ maxLen) (hbytes : (n + m) * bytes ≤ 140737488355328) (hbase : base ≤ w.heap.size)
    (h : ∀ ad' c' w', w'.ownsRow base e size (.slice ad' (n + m) c') (n + m) (xs ++ news) → w.grownBy w' (Value.slice a0 n c0).ownBlock → ((Value.slice ad' (n + m) c').ownBlock = (Value.slice a0 n c0).ownBlock ∨ (Value.slice ad' (n + m) c').ownBlock = some w.heap.size) → K (a.put o.dst (.slice ad' (n + m) c')) w') : o.wp P a w K Q := by
  obtain ⟨i, hi, hz, hi1, hi2⟩ := info_parts hinfo
  obtain ⟨ad', c', w', hr, h2, h3, h4⟩ := run_appAt (P := P) base t o.type e i z size bytes ht hi hz hi1 hi2 hzs hsz a0 n c0 xs hown ad m c news hrd h1 hnil h63 hbytes hbase
  unfold Oper.wp execOp
  simp only [ho, resolve, invoke, builtin, Sem.run_bind, Sem.run_pure, Result.andThen_ok, List.map_toArray, List.map_cons, List.map_nil, hs, hx, hr]
  exact h ad' c' w' h2 h3 h4

theorem step_appAt {P : Program} {w : World} {ops : Array Oper} {o : Oper} {a : Act} {K : Act → World → Prop} {Q : Exit → Act → World → Prop} {E : Prop} (hgd : o.guard = none) (s x : Operand) (t : TypeId)
    (ho : o.op = .call { callee := .builtin .append, args := #[s, x], argTypes := #[t, t] })
    (base : Nat) (e : TypeId) (z : Value) (size bytes : Nat) (ht : P.underlying t = some (.slice e)) (hinfo : (P.info? e).map (fun i => (i.zero, i.size, i.bytes)) = some (some z, size, bytes)) (hzs : z.cells.size = size) (hsz : 0 < size)
    (a0 : Option Addr) (n c0 : Nat) (xs : List Value) (hs : a.eval s = .slice a0 n c0) (hown : w.ownsRow base e size (.slice a0 n c0) n xs)
    (ad : Option Addr) (m c : Nat) (news : List Value) (hx : a.eval x = .slice ad m c) (hrd : Rd w size ad m news) (h1 : ∀ u ∈ news, u.oneCell' = true) (hnil : ad = none → c = 0)
    (h63 : n + m ≤ maxLen) (hbytes : (n + m) * bytes ≤ 140737488355328) (hbase : base ≤ w.heap.size)
    (h : ∀ ad' c' w', w'.ownsRow base e size (.slice ad' (n + m) c') (n + m) (xs ++ news) → w.grownBy w' (Value.slice a0 n c0).ownBlock → ((Value.slice ad' (n + m) c').ownBlock = (Value.slice a0 n c0).ownBlock ∨ (Value.slice ad' (n + m) c').ownBlock = some w.heap.size) → K (a.put o.dst (.slice ad' (n + m) c')) w') :
    if Region.wanted o (yielded ops a.tmps) = true then Oper.wp P o a w K Q else E := by
  have hw : Region.wanted o (yielded ops a.tmps) = true := by simp [Region.wanted, hgd]
  rw [if_pos hw]
  exact wp_appAt s x t ho base e z size bytes ht hinfo hzs hsz a0 n c0 xs hs hown ad m c news hx hrd h1 hnil h63 hbytes hbase h
end Go.Proofs.YtgimbocoamnkjaaGreatDoor

/- Rows that may be written, wherever in their block they begin: append, reslice. -/
namespace Go.Proofs.YtgimbocoamnkjaaGreatDoor
open Go.RowKit

/-- n elements of 'size' cells of type e, with room behind them up to the capacity. -/
def RowA (w : World) (e size : Nat) (v : Value) (n : Nat) (xs : List Value) : Prop :=
  xs.length = n * size ∧ ((v = .slice none 0 0 ∧ n = 0) ∨ ∃ g o c, ∃ cur : Array Value, v = .slice (some ⟨g, o, none⟩) n c ∧ w.heap[g]? = some (.cells cur e (0, 0)) ∧ n ≤ c ∧ c ≤ maxLen ∧ o + c * size ≤ cur.size ∧ ∀ j, j < n * size → cur[o + j]? = xs[j]?)
theorem RowA.nil (w : World) (e size : Nat) : RowA w e size (.slice none 0 0) 0 [] := ⟨by simp, .inl ⟨rfl, rfl⟩⟩
theorem RowA.shape {w : World} {e size n : Nat} {v : Value} {xs : List Value} (h : RowA w e size v n xs) : ∃ a c, v = .slice a n c := by
  rcases h.2 with ⟨hv, h0⟩ | ⟨g, o, c, cur, hv, _⟩
  · subst h0; exact ⟨_, _, hv⟩
  · exact ⟨_, _, hv⟩
theorem RowA.of_owns {w : World} {B e size n : Nat} {v : Value} {xs : List Value} (h : w.ownsRow B e size v n xs) : RowA w e size v n xs := by
  refine ⟨h.1, ?_⟩
  rcases h.2 with hn | ⟨g, cap, cur, hv, _, hg, h1, h2, h3, h4⟩
  · exact .inl hn
  · refine .inr ⟨g, 0, cap, cur, hv, hg, h1, h2, by omega, fun j hj => ?_⟩
    rw [Nat.zero_add, ← h4, List.getElem?_take, if_pos hj]
    simp
theorem RowA.lt {w : World} {e size n : Nat} {v : Value} {xs : List Value} (h : RowA w e size v n xs) : ∀ k, v.ownBlock = some k → k < w.heap.size := by
  intro k hk
  rcases h.2 with ⟨rfl, _⟩ | ⟨g, o, c, cur, rfl, hg, _⟩
  · simp [Value.ownBlock] at hk
  · simp only [Value.ownBlock, Option.some.injEq] at hk
    subst hk
    exact (Array.getElem?_eq_some_iff.1 hg).1
theorem RowA.of_block {w w' : World} {e size n : Nat} {v : Value} {xs : List Value} (h : RowA w e size v n xs) (hb : ∀ k, v.ownBlock = some k → w'.heap[k]? = w.heap[k]?) : RowA w' e size v n xs := by
  refine ⟨h.1, ?_⟩
  rcases h.2 with hn | ⟨g, o, c, cur, rfl, hg, rest⟩
  · exact .inl hn
  · exact .inr ⟨g, o, c, cur, rfl, (hb g rfl).trans hg, rest⟩
theorem RowA.below {w w' : World} {e size n : Nat} {v : Value} {xs : List Value} (h : RowA w e size v n xs) (hb : Below w.heap.size w w') : RowA w' e size v n xs := h.of_block fun k hk => hb.block k (h.lt k hk)
/-- The block that a row lies in is of its type. -/
theorem RowA.ne {w : World} {e size n K t : Nat} {fr : Nat × Nat} {cs : Array Value} {v : Value} {xs : List Value} (h : RowA w e size v n xs) (hK : w.heap[K]? = some (.cells cs t fr)) (ht : t ≠ e) : v.ownBlock ≠ some K := by
  intro hc
  rcases h.2 with ⟨rfl, _⟩ | ⟨g, o, c, cur, rfl, hg, _⟩
  · simp [Value.ownBlock] at hc
  · simp only [Value.ownBlock, Option.some.injEq] at hc
    subst hc
    rw [hK] at hg
    simp only [Option.some.injEq, Obj.cells.injEq] at hg
    exact ht hg.2.1
theorem RowA.neMap {w : World} {e size n K : Nat} {es : Array MapEntry} {ck : Nat} {v : Value} {xs : List Value} (h : RowA w e size v n xs) (hK : w.heap[K]? = some (.map es ck)) : v.ownBlock ≠ some K := by
  intro hc
  rcases h.2 with ⟨rfl, _⟩ | ⟨g, o, c, cur, rfl, hg, _⟩
  · simp [Value.ownBlock] at hc
  · simp only [Value.ownBlock, Option.some.injEq] at hc
    subst hc
    rw [hK] at hg
    cases hg
theorem RowA.grown {w w' : World} {row : Option Nat} {e size n : Nat} {v : Value} {xs : List Value} (h : RowA w e size v n xs) (hg : w.grownBy w' row) (hne : v.ownBlock ≠ row ∨ row = none) : RowA w' e size v n xs := h.of_block fun k hk => hg.block k (h.lt k hk) (fun e => by
  rcases hne with h1 | h1
  · exact h1 (hk.trans e)
  · rw [h1] at e; cases e)
theorem RowA.rd {w : World} {e size n c : Nat} {ad : Option Addr} {xs : List Value} (h : RowA w e size (.slice ad n c) n xs) : Rd w size ad n xs := by
  refine ⟨h.1, fun hn => ?_⟩
  rcases h.2 with ⟨_, h0⟩ | ⟨g, o, c', cur, hv, hg, h1, h2, h3, h4⟩
  · subst h0; simp at hn
  · simp only [Value.slice.injEq] at hv
    obtain ⟨rfl, -, rfl⟩ := hv
    refine ⟨g, o, rfl, fun j hj => ?_⟩
    rw [cell_of_row w g (o + j) cur e (0, 0) hg, h4 j hj]
theorem RowA.cap {w : World} {e size n c : Nat} {ad : Option Addr} {xs : List Value} (h : RowA w e size (.slice ad n c) n xs) : n ≤ c ∧ c ≤ maxLen ∧ (ad = none → c = 0) := by
  rcases h.2 with ⟨hv, h0⟩ | ⟨g, o, c', cur, hv, hg, h1, h2, h3, h4⟩
  · simp only [Value.slice.injEq] at hv
    obtain ⟨rfl, -, rfl⟩ := hv
    exact ⟨by omega, Nat.zero_le _, fun _ => rfl⟩
  · simp only [Value.slice.injEq] at hv
    obtain ⟨rfl, -, rfl⟩ := hv
    exact ⟨h1, h2, fun h => by cases h⟩
/-- Where its elements lie, where there are any. -/
theorem RowA.at {w : World} {e size n c : Nat} {ad : Option Addr} {xs : List Value} (h : RowA w e size (.slice ad n c) n xs) (hn : 0 < n) : ∃ g o, ad = some ⟨g, o, none⟩ ∧ (∀ j, j < n * size → w.cell? ⟨g, o + j, none⟩ = xs[j]?) ∧ ∀ i, w.frozen? ⟨g, i, none⟩ = false := by
  rcases h.2 with ⟨_, h0⟩ | ⟨g, o, c', cur, hv, hg, h1, h2, h3, h4⟩
  · omega
  · simp only [Value.slice.injEq] at hv
    obtain ⟨rfl, -, rfl⟩ := hv
    exact ⟨g, o, rfl, fun j hj => by rw [cell_of_row w g (o + j) cur e (0, 0) hg, h4 j hj], fun i => frozen_of_row w g i cur e hg⟩

theorem heap_setCells_row (g t : Nat) : ∀ (vs : List Value) (o : Nat) (w : World) (cur : Array Value), w.heap[g]? = some (.cells cur t (0, 0)) →
    ∃ cur' : Array Value, (w.setCells g o vs).heap[g]? = some (.cells cur' t (0, 0)) ∧ cur'.size = cur.size ∧ ∀ j, cur'[j]? = if o ≤ j ∧ j < o + vs.length ∧ j < cur.size then vs[j - o]? else cur[j]?
  | [], o, w, cur, h => ⟨cur, h, rfl, fun j => by rw [if_neg (by simp; omega)]⟩
  | v :: r, o, w, cur, h => by
    obtain ⟨cur', h1, h2, h3⟩ := heap_setCells_row g t r (o + 1) (w.setCell ⟨g, o, none⟩ v) _ (heap_setCell_same w g o cur t v h)
    refine ⟨cur', h1, by rw [h2]; simp, fun j => ?_⟩
    rw [h3 j, Array.getElem?_setIfInBounds]
    simp only [Array.size_setIfInBounds, List.length_cons]
    by_cases hj : o = j
    · subst hj
      rw [if_neg (by omega)]
      by_cases hs : o < cur.size
      · rw [if_pos rfl, if_pos hs, if_pos (by omega)]
        simp
      · rw [if_pos rfl, if_neg hs, if_neg (by omega)]
        simp [hs]
    · rw [if_neg hj]
      by_cases hc : o + 1 ≤ j ∧ j < o + 1 + r.length ∧ j < cur.size
      · rw [if_pos hc, if_pos (by omega), show j - o = (j - (o + 1)) + 1 by omega]
        simp
      · rw [if_neg hc, if_neg (by omega)]
theorem grownBy_setCells (g : Nat) : ∀ (vs : List Value) (o : Nat) (w : World), w.grownBy (w.setCells g o vs) (some g)
  | [], _, _ => World.grownBy.refl _ _
  | v :: r, o, w => grownBy_trans (grownBy_setCell w ⟨g, o, none⟩ v) (grownBy_setCells g r (o + 1) _)

/-- What an append of something did: it wrote in the row's own block, or it made a new one. -/
def AppA (w w' : World) (v v' : Value) : Prop := (w.grownBy w' v.ownBlock ∧ v'.ownBlock = v.ownBlock) ∨ (w.grownBy w' none ∧ v'.ownBlock = some w.heap.size)

/-- A block of another type is as it was. -/
theorem AppA.row {w w' : World} {v v' : Value} {e size n S t : Nat} {fr : Nat × Nat} {cs : Array Value} {xs : List Value} (h : AppA w w' v v') (hr : RowA w e size v n xs) (hS : w.heap[S]? = some (.cells cs t fr)) (ht : t ≠ e) : w'.heap[S]? = some (.cells cs t fr) := by
  rcases h with ⟨hg, _⟩ | ⟨hg, _⟩
  · exact block_grown hg hS (hr.ne hS ht)
  · exact block_grown hg hS (by simp)

section
variable {P : Program} (w : World)
theorem run_appA (t ty e : TypeId) (i : TypeInfo) (z : Value) (size bytes : Nat) (ht : P.underlying t = some (.slice e)) (hi : P.info? e = some i) (hz : i.zero = some z)
    (hsize : i.size = size) (hby : i.bytes = bytes) (hzs : z.cells.size = size) (hsz : 0 < size)
    (v : Value) (n : Nat) (xs : List Value) (hown : RowA w e size v n xs)
    (a : Addr) (m c : Nat) (news : List Value) (hl : news.length = m * size) (hnews : ∀ j u, news[j]? = some u → w.cell? (a.add j) = some u) (h1 : ∀ u ∈ news, u.oneCell' = true)
    (h63 : n + m ≤ maxLen) (hbytes : (n + m) * bytes ≤ 140737488355328) (hm : 0 < m) :
    ∃ ad' c' w', (Builtin.append_ #[t, t] ty #[v, .slice (some a) m c]).run P w = .ok (.slice ad' (n + m) c') w' ∧ RowA w' e size (.slice ad' (n + m) c') (n + m) (xs ++ news) ∧ AppA w w' v (.slice ad' (n + m) c') := by
  have hlen : (xs ++ news).length = (n + m) * size := by rw [List.length_append, hown.1, hl, Nat.add_mul]
  rcases hown.2 with ⟨rfl, rfl⟩ | ⟨g, o, cap, cur, rfl, hg, hnc, hcm, hcs, hat⟩
  · obtain ⟨v', w', hr, h2, h3⟩ := run_appX (P := P) w 0 t ty e i z size bytes ht hi hz hsize hby hzs hsz _ 0 xs (by
      have : xs = [] := List.eq_nil_of_length_eq_zero (by have := hown.1; simpa using this)
      subst this
      exact World.ownsRow_nil _ _ _ _) a m c news hl hnews h1 h63 hbytes (Nat.zero_le _) hm
    obtain ⟨ad', c', rfl⟩ := owns_shape h2
    refine ⟨ad', c', w', hr, .of_owns h2, ?_⟩
    obtain ⟨v1, w1, hr1, h21, h31, _, h51⟩ := run_append_own_at (P := P) w 0 t ty e i z size bytes ht hi hz hsize hby hzs hsz (.slice none 0 0) 0 xs (by
      have : xs = [] := List.eq_nil_of_length_eq_zero (by have := hown.1; simpa using this)
      subst this
      exact World.ownsRow_nil _ _ _ _) a m c news hl hnews h1 h63 hbytes (Nat.zero_le _)
    rw [hr] at hr1
    simp only [Result.ok.injEq] at hr1
    obtain ⟨rfl, rfl⟩ := hr1
    rcases h51 with h | h
    · exact .inl ⟨h31, h⟩
    · exact .inr ⟨h31, h⟩
  · by_cases hroom : n + m ≤ cap
    · have hmul := Nat.mul_le_mul_right size hroom
      rw [Nat.add_mul] at hmul
      have hcell : ∀ j, j < news.length → (w.cell? ⟨g, o + n * i.size + j, none⟩).isSome = true := fun j hj => by
        rw [cell_of_row w g _ cur e (0, 0) hg, hsize, Array.getElem?_eq_getElem (by omega)]
        rfl
      have hr2 := run_append_room_cells (P := P) w t ty e i ht hi g o n cap a m c news (by rw [hl, hsize]) hnews h1 hroom hcell (fun j _ => frozen_of_row w g _ cur e hg)
      obtain ⟨cur', k1, k2, k3⟩ := heap_setCells_row g e news (o + n * i.size) w cur hg
      refine ⟨_, _, _, hr2, ⟨hlen, .inr ⟨g, o, cap, cur', rfl, k1, hroom, hcm, by omega, fun j hj => ?_⟩⟩, .inl ⟨grownBy_setCells g _ _ _, rfl⟩⟩
      rw [k3, hsize]
      rw [Nat.add_mul] at hj
      by_cases hjn : j < n * size
      · rw [if_neg (by omega), hat j hjn, List.getElem?_append_left (by rw [hown.1]; exact hjn)]
      · rw [if_pos (by omega), List.getElem?_append_right (by rw [hown.1]; omega), hown.1]
        congr 1
        omega
    · have hfro : ∀ j u, xs[j]? = some u → w.cell? ((⟨g, o, none⟩ : Addr).add j) = some u := fun j u hu => by
        have hj : j < n * size := by rw [← hown.1]; exact (List.getElem?_eq_some_iff.1 hu).1
        rw [Addr.add_lit, cell_of_row w g _ cur e (0, 0) hg, hat j hj]
        exact hu
      have hr2 := run_append_grow (P := P) w t ty e i z ht hi hz ⟨g, o, none⟩ n cap xs (by rw [hown.1, hsize]) hfro a m c news (by rw [hl, hsize]) hnews (by omega) (by unfold maxLen at h63; omega) (growslice_fits (by omega) (by rw [hby]; exact hbytes))
      obtain ⟨v', w', hr3, h4, h5⟩ := run_append_arg_grows (P := P) w t ty e i z size bytes ht hi hz hsize hby hzs hsz ⟨g, o, none⟩ n cap xs hown.1 hfro a m c news hl hnews (by omega) h63 hbytes
      rw [hr2] at hr3
      simp only [Result.ok.injEq] at hr3
      obtain ⟨rfl, rfl⟩ := hr3
      exact ⟨_, _, _, hr2, .of_owns h4, .inr ⟨h5, rfl⟩⟩
end

theorem wp_appA {P : Program} {w : World} {o : Oper} {a : Act} {K : Act → World → Prop} {Q : Exit → Act → World → Prop} (s x : Operand) (t : TypeId)
    (ho : o.op = .call { callee := .builtin .append, args := #[s, x], argTypes := #[t, t] })
    (e : TypeId) (z : Value) (size bytes : Nat) (ht : P.underlying t = some (.slice e)) (hinfo : (P.info? e).map (fun i => (i.zero, i.size, i.bytes)) = some (some z, size, bytes)) (hzs : z.cells.size = size) (hsz : 0 < size)
    (v : Value) (n : Nat) (xs : List Value) (hs : a.eval s = v) (hown : RowA w e size v n xs)
    (ad : Addr) (m c : Nat) (news : List Value) (hx : a.eval x = .slice (some ad) m c) (hrd : Rd w size (some ad) m news) (h1 : ∀ u ∈ news, u.oneCell' = true)
    (h63 : n + m ≤ maxLen) (hbytes : (n + m) * bytes ≤ 140737488355328) (hm : 0 < m)
    (h : ∀ ad' c' w', RowA w' e size (.slice ad' (n + m) c') (n + m) (xs ++ news) → AppA w w' v (.slice ad' (n + m) c') → K (a.put o.dst (.slice ad' (n + m) c')) w') : o.wp P a w K Q := by
  obtain ⟨i, hi, hz, hi1, hi2⟩ := info_parts hinfo
  obtain ⟨b, o', e', hc⟩ := hrd.2 (by have := Nat.mul_pos hm hsz; omega)
  obtain rfl := Option.some.inj e'
  obtain ⟨ad', c', w', hr, h2, h3⟩ := run_appA (P := P) w t o.type e i z size bytes ht hi hz hi1 hi2 hzs hsz v n xs hown ⟨b, o', none⟩ m c news hrd.1 (by
    intro j q hj
    have hj0 : j < m * size := by rw [← hrd.1]; exact (List.getElem?_eq_some_iff.1 hj).1
    rw [Addr.add_lit, hc j hj0]
    exact hj) h1 h63 hbytes hm
  unfold Oper.wp execOp
  simp only [ho, resolve, invoke, builtin, Sem.run_bind, Sem.run_pure, Result.andThen_ok, List.map_toArray, List.map_cons, List.map_nil, hs, hx, hr]
  exact h ad' c' w' h2 h3

theorem step_appA {P : Program} {w : World} {ops : Array Oper} {o : Oper} {a : Act} {K : Act → World → Prop} {Q : Exit → Act → World → Prop} {E : Prop} (hgd : o.guard = none) (s x : Operand) (t : TypeId)
    (ho : o.op = .call { callee := .builtin .append, args := #[s, x], argTypes := #[t, t] })
    (e : TypeId) (z : Value) (size bytes : Nat) (ht : P.underlying t = some (.slice e)) (hinfo : (P.info? e).map (fun i => (i.zero, i.size, i.bytes)) = some (some z, size, bytes)) (hzs : z.cells.size = size) (hsz : 0 < size)
    (v : Value) (n : Nat) (xs : List Value) (hs : a.eval s = v) (hown : RowA w e size v n xs)
    (ad : Addr) (m c : Nat) (news : List Value) (hx : a.eval x = .slice (some ad) m c) (hrd : Rd w size (some ad) m news) (h1 : ∀ u ∈ news, u.oneCell' = true)
    (h63 : n + m ≤ maxLen) (hbytes : (n + m) * bytes ≤ 140737488355328) (hm : 0 < m)
    (h : ∀ ad' c' w', RowA w' e size (.slice ad' (n + m) c') (n + m) (xs ++ news) → AppA w w' v (.slice ad' (n + m) c') → K (a.put o.dst (.slice ad' (n + m) c')) w') :
    if Region.wanted o (yielded ops a.tmps) = true then Oper.wp P o a w K Q else E := by
  have hw : Region.wanted o (yielded ops a.tmps) = true := by simp [Region.wanted, hgd]
  rw [if_pos hw]
  exact wp_appA s x t ho e z size bytes ht hinfo hzs hsz v n xs hs hown ad m c news hx hrd h1 h63 hbytes hm h
theorem wpList_appA {P : Program} {w : World} {ops : Array Oper} {rest : List Oper} {o : Oper} {a : Act} {Q : Exit → Act → World → Prop} (hgd : o.guard = none) (s x : Operand) (t : TypeId)
    (ho : o.op = .call { callee := .builtin .append, args := #[s, x], argTypes := #[t, t] })
    (e : TypeId) (z : Value) (size bytes : Nat) (ht : P.underlying t = some (.slice e)) (hinfo : (P.info? e).map (fun i => (i.zero, i.size, i.bytes)) = some (some z, size, bytes)) (hzs : z.cells.size = size) (hsz : 0 < size)
    (v : Value) (n : Nat) (xs : List Value) (hs : a.eval s = v) (hown : RowA w e size v n xs)
    (ad : Addr) (m c : Nat) (news : List Value) (hx : a.eval x = .slice (some ad) m c) (hrd : Rd w size (some ad) m news) (h1 : ∀ u ∈ news, u.oneCell' = true)
    (h63 : n + m ≤ maxLen) (hbytes : (n + m) * bytes ≤ 140737488355328) (hm : 0 < m)
    (h : ∀ ad' c' w', RowA w' e size (.slice ad' (n + m) c') (n + m) (xs ++ news) → AppA w w' v (.slice ad' (n + m) c') → wpList P ops Q rest (a.put o.dst (.slice ad' (n + m) c')) w') :
    wpList P ops Q (o :: rest) a w :=
  wpList_plain hgd fun _ hK => wp_appA s x t ho e z size bytes ht hinfo hzs hsz v n xs hs hown ad m c news hx hrd h1 h63 hbytes hm fun ad' c' w' h2 h3 => hK _ _ (h ad' c' w' h2 h3)

/-- 's[k:]': the equation, and what is left. -/
theorem RowA.from {w : World} {t e n c : Nat} {i : TypeInfo} {ad : Option Addr} {xs : List Value} {size k : Nat} (h : RowA w e size (.slice ad n c) n xs) (ht : Tryz.prog.underlying t = some (.slice e)) (hi : Tryz.prog.info? e = some i) (hsz : i.size = size) (hk : k ≤ n) :
    ∃ ax, (∀ w', (Instr.slice t (.slice ad n c) (some (.int .i64 (k : Int))) none none).run Tryz.prog w' = .ok (.slice ax (n - k) (c - k)) w') ∧ RowA w e size (.slice ax (n - k) (c - k)) (n - k) (xs.drop (k * size)) ∧ (Value.slice ax (n - k) (c - k)).ownBlock = (Value.slice ad n c).ownBlock := by
  have he : Tryz.prog.elem t = e := by simp [Program.elem, ht]
  have hlen : (xs.drop (k * size)).length = (n - k) * size := by rw [List.length_drop, h.1, Nat.sub_mul]
  have hcap := h.cap
  refine ⟨if c = k then ad else ad.map (·.add (k * size)), fun w' => ?_, ⟨hlen, ?_⟩, ?_⟩
  · rw [run_slice_l (P := Tryz.prog) w' _ ad n c (by rw [he]; exact ht) .i64 k (by omega) (by omega), he]
    simp [sizeOf, typeInfo, hi, hsz, sliced]
  · rcases h.2 with ⟨hv, h0⟩ | ⟨g, o, c', cur, hv, hg, h1, h2, h3, h4⟩
    · simp only [Value.slice.injEq] at hv
      obtain ⟨rfl, -, rfl⟩ := hv
      refine .inl ⟨?_, by omega⟩
      have : k = 0 := by omega
      subst this h0
      simp
    · simp only [Value.slice.injEq] at hv
      obtain ⟨rfl, -, rfl⟩ := hv
      have hmul := Nat.mul_le_mul_right size hk
      have hmul2 := Nat.mul_le_mul_right size h1
      refine .inr ⟨g, if c = k then o else o + k * size, c - k, cur, ?_, hg, by omega, by omega, ?_, fun j hj => ?_⟩
      · split
        · rfl
        · rw [Option.map_some, Addr.add_lit]
      · rw [Nat.sub_mul]
        split <;> omega
      · rw [Nat.sub_mul] at hj
        rw [List.getElem?_drop]
        split
        · have : n = k := by omega
          subst this
          omega
        · rw [Nat.add_assoc]
          exact h4 _ (by omega)
  · cases ad with
    | none => split <;> rfl
    | some a =>
      split
      · rfl
      · simp only [Option.map_some, Value.ownBlock, Option.some.injEq]
        unfold Addr.add
        split <;> rfl
end Go.Proofs.YtgimbocoamnkjaaGreatDoor
