/- Rows that may be written, wherever in their block they begin: append, reslice. -/
import Derived.Test.YtgimbocoamnkjaaApp0
import Derived.Test.YtgimbocoamnkjaaSafe
namespace Go.Proofs.Ytgimbocoamnkjaa
open Go.RowKit

/-- n elements of 'size' cells of type e, with room behind them up to the capacity. -/
def RowA (w : World) (e size : Nat) (v : Value) (n : Nat) (xs : List Value) : Prop :=
  xs.length = n * size ∧ ((v = .slice none 0 0 ∧ n = 0) ∨ ∃ g o c, ∃ cur : Array Value, v = .slice (some ⟨g, o, none⟩) n c ∧ w.heap[g]? = some (.cells cur e (0, 0)) ∧ n ≤ c ∧ c ≤ maxLen ∧ o + c * size ≤ cur.size ∧ ∀ j, j < n * size → cur[o + j]? = xs[j]?)
theorem RowA.nil (w : World) (e size : Nat) : RowA w e size (.slice none 0 0) 0 [] := ⟨by simp, .inl ⟨rfl, rfl⟩⟩
theorem RowA.shape {w : World} {e size n : Nat} {v : Value} {xs : List Value} (h : RowA w e size v n xs) : ∃ a c, v = .slice a n c := by
  rcases h.2 with ⟨hv, h0⟩ | ⟨g, o, c, cur, hv, _⟩
  · subst h0; exact ⟨_, _, hv⟩
  · exact ⟨_, _, hv⟩
theorem RowA.of_owns {w : World} {B e size n : Nat} {v : Value} {xs : List Value} (h : w.ownsRow B e size v n xs) : RowA w e size v n xs := by
  refine ⟨h.1, ?_⟩
  rcases h.2 with hn | ⟨g, cap, cur, hv, _, hg, h1, h2, h3, h4⟩
  · exact .inl hn
  · refine .inr ⟨g, 0, cap, cur, hv, hg, h1, h2, by omega, fun j hj => ?_⟩
    rw [Nat.zero_add, ← h4, List.getElem?_take, if_pos hj]
    simp
theorem RowA.lt {w : World} {e size n : Nat} {v : Value} {xs : List Value} (h : RowA w e size v n xs) : ∀ k, v.ownBlock = some k → k < w.heap.size := by
  intro k hk
  rcases h.2 with ⟨rfl, _⟩ | ⟨g, o, c, cur, rfl, hg, _⟩
  · simp [Value.ownBlock] at hk
  · simp only [Value.ownBlock, Option.some.injEq] at hk
    subst hk
    exact (Array.getElem?_eq_some_iff.1 hg).1
theorem RowA.of_block {w w' : World} {e size n : Nat} {v : Value} {xs : List Value} (h : RowA w e size v n xs) (hb : ∀ k, v.ownBlock = some k → w'.heap[k]? = w.heap[k]?) : RowA w' e size v n xs := by
  refine ⟨h.1, ?_⟩
  rcases h.2 with hn | ⟨g, o, c, cur, rfl, hg, rest⟩
  · exact .inl hn
  · exact .inr ⟨g, o, c, cur, rfl, (hb g rfl).trans hg, rest⟩
theorem RowA.below {w w' : World} {e size n : Nat} {v : Value} {xs : List Value} (h : RowA w e size v n xs) (hb : Below w.heap.size w w') : RowA w' e size v n xs := h.of_block fun k hk => hb.block k (h.lt k hk)
/-- The block that a row lies in is of its type. -/
theorem RowA.ne {w : World} {e size n K t : Nat} {fr : Nat × Nat} {cs : Array Value} {v : Value} {xs : List Value} (h : RowA w e size v n xs) (hK : w.heap[K]? = some (.cells cs t fr)) (ht : t ≠ e) : v.ownBlock ≠ some K := by
  intro hc
  rcases h.2 with ⟨rfl, _⟩ | ⟨g, o, c, cur, rfl, hg, _⟩
  · simp [Value.ownBlock] at hc
  · simp only [Value.ownBlock, Option.some.injEq] at hc
    subst hc
    rw [hK] at hg
    simp only [Option.some.injEq, Obj.cells.injEq] at hg
    exact ht hg.2.1
theorem RowA.neMap {w : World} {e size n K : Nat} {es : Array MapEntry} {ck : Nat} {v : Value} {xs : List Value} (h : RowA w e size v n xs) (hK : w.heap[K]? = some (.map es ck)) : v.ownBlock ≠ some K := by
  intro hc
  rcases h.2 with ⟨rfl, _⟩ | ⟨g, o, c, cur, rfl, hg, _⟩
  · simp [Value.ownBlock] at hc
  · simp only [Value.ownBlock, Option.some.injEq] at hc
    subst hc
    rw [hK] at hg
    cases hg
theorem RowA.grown {w w' : World} {row : Option Nat} {e size n : Nat} {v : Value} {xs : List Value} (h : RowA w e size v n xs) (hg : w.grownBy w' row) (hne : v.ownBlock ≠ row ∨ row = none) : RowA w' e size v n xs := h.of_block fun k hk => hg.block k (h.lt k hk) (fun e => by
  rcases hne with h1 | h1
  · exact h1 (hk.trans e)
  · rw [h1] at e; cases e)
theorem RowA.rd {w : World} {e size n c : Nat} {ad : Option Addr} {xs : List Value} (h : RowA w e size (.slice ad n c) n xs) : Rd w size ad n xs := by
  refine ⟨h.1, fun hn => ?_⟩
  rcases h.2 with ⟨_, h0⟩ | ⟨g, o, c', cur, hv, hg, h1, h2, h3, h4⟩
  · subst h0; simp at hn
  · simp only [Value.slice.injEq] at hv
    obtain ⟨rfl, -, rfl⟩ := hv
    refine ⟨g, o, rfl, fun j hj => ?_⟩
    rw [cell_of_row w g (o + j) cur e (0, 0) hg, h4 j hj]
theorem RowA.cap {w : World} {e size n c : Nat} {ad : Option Addr} {xs : List Value} (h : RowA w e size (.slice ad n c) n xs) : n ≤ c ∧ c ≤ maxLen ∧ (ad = none → c = 0) := by
  rcases h.2 with ⟨hv, h0⟩ | ⟨g, o, c', cur, hv, hg, h1, h2, h3, h4⟩
  · simp only [Value.slice.injEq] at hv
    obtain ⟨rfl, -, rfl⟩ := hv
    exact ⟨by omega, Nat.zero_le _, fun _ => rfl⟩
  · simp only [Value.slice.injEq] at hv
    obtain ⟨rfl, -, rfl⟩ := hv
    exact ⟨h1, h2, fun h => by cases h⟩
/-- Where its elements lie, where there are any. -/
theorem RowA.at {w : World} {e size n c : Nat} {ad : Option Addr} {xs : List Value} (h : RowA w e size (.slice ad n c) n xs) (hn : 0 < n) : ∃ g o, ad = some ⟨g, o, none⟩ ∧ (∀ j, j < n * size → w.cell? ⟨g, o + j, none⟩ = xs[j]?) ∧ ∀ i, w.frozen? ⟨g, i, none⟩ = false := by
  rcases h.2 with ⟨_, h0⟩ | ⟨g, o, c', cur, hv, hg, h1, h2, h3, h4⟩
  · omega
  · simp only [Value.slice.injEq] at hv
    obtain ⟨rfl, -, rfl⟩ := hv
    exact ⟨g, o, rfl, fun j hj => by rw [cell_of_row w g (o + j) cur e (0, 0) hg, h4 j hj], fun i => frozen_of_row w g i cur e hg⟩

theorem heap_setCells_row (g t : Nat) : ∀ (vs : List Value) (o : Nat) (w : World) (cur : Array Value), w.heap[g]? = some (.cells cur t (0, 0)) →
    ∃ cur' : Array Value, (w.setCells g o vs).heap[g]? = some (.cells cur' t (0, 0)) ∧ cur'.size = cur.size ∧ ∀ j, cur'[j]? = if o ≤ j ∧ j < o + vs.length ∧ j < cur.size then vs[j - o]? else cur[j]?
  | [], o, w, cur, h => ⟨cur, h, rfl, fun j => by rw [if_neg (by simp; omega)]⟩
  | v :: r, o, w, cur, h => by
    obtain ⟨cur', h1, h2, h3⟩ := heap_setCells_row g t r (o + 1) (w.setCell ⟨g, o, none⟩ v) _ (heap_setCell_same w g o cur t v h)
    refine ⟨cur', h1, by rw [h2]; simp, fun j => ?_⟩
    rw [h3 j, Array.getElem?_setIfInBounds]
    simp only [Array.size_setIfInBounds, List.length_cons]
    by_cases hj : o = j
    · subst hj
      rw [if_neg (by omega)]
      by_cases hs : o < cur.size
      · rw [if_pos rfl, if_pos hs, if_pos (by omega)]
        simp
      · rw [if_pos rfl, if_neg hs, if_neg (by omega)]
        simp [hs]
    · rw [if_neg hj]
      by_cases hc : o + 1 ≤ j ∧ j < o + 1 + r.length ∧ j < cur.size
      · rw [if_pos hc, if_pos (by omega), show j - o = (j - (o + 1)) + 1 by omega]
        simp
      · rw [if_neg hc, if_neg (by omega)]
theorem grownBy_setCells (g : Nat) : ∀ (vs : List Value) (o : Nat) (w : World), w.grownBy (w.setCells g o vs) (some g)
  | [], _, _ => World.grownBy.refl _ _
  | v :: r, o, w => grownBy_trans (grownBy_setCell w ⟨g, o, none⟩ v) (grownBy_setCells g r (o + 1) _)

/-- What an append of something did: it wrote in the row's own block, or it made a new one. -/
def AppA (w w' : World) (v v' : Value) : Prop := (w.grownBy w' v.ownBlock ∧ v'.ownBlock = v.ownBlock) ∨ (w.grownBy w' none ∧ v'.ownBlock = some w.heap.size)

/-- A block of another type is as it was. -/
theorem AppA.row {w w' : World} {v v' : Value} {e size n S t : Nat} {fr : Nat × Nat} {cs : Array Value} {xs : List Value} (h : AppA w w' v v') (hr : RowA w e size v n xs) (hS : w.heap[S]? = some (.cells cs t fr)) (ht : t ≠ e) : w'.heap[S]? = some (.cells cs t fr) := by
  rcases h with ⟨hg, _⟩ | ⟨hg, _⟩
  · exact block_grown hg hS (hr.ne hS ht)
  · exact block_grown hg hS (by simp)

section
variable {P : Program} (w : World)
theorem run_appA (t ty e : TypeId) (i : TypeInfo) (z : Value) (size bytes : Nat) (ht : P.underlying t = some (.slice e)) (hi : P.info? e = some i) (hz : i.zero = some z)
    (hsize : i.size = size) (hby : i.bytes = bytes) (hzs : z.cells.size = size) (hsz : 0 < size)
    (v : Value) (n : Nat) (xs : List Value) (hown : RowA w e size v n xs)
    (a : Addr) (m c : Nat) (news : List Value) (hl : news.length = m * size) (hnews : ∀ j u, news[j]? = some u → w.cell? (a.add j) = some u) (h1 : ∀ u ∈ news, u.oneCell' = true)
    (h63 : n + m ≤ maxLen) (hbytes : (n + m) * bytes ≤ 140737488355328) (hm : 0 < m) :
    ∃ ad' c' w', (Builtin.append_ #[t, t] ty #[v, .slice (some a) m c]).run P w = .ok (.slice ad' (n + m) c') w' ∧ RowA w' e size (.slice ad' (n + m) c') (n + m) (xs ++ news) ∧ AppA w w' v (.slice ad' (n + m) c') := by
  have hlen : (xs ++ news).length = (n + m) * size := by rw [List.length_append, hown.1, hl, Nat.add_mul]
  rcases hown.2 with ⟨rfl, rfl⟩ | ⟨g, o, cap, cur, rfl, hg, hnc, hcm, hcs, hat⟩
  · obtain ⟨v', w', hr, h2, h3⟩ := run_appX (P := P) w 0 t ty e i z size bytes ht hi hz hsize hby hzs hsz _ 0 xs (by
      have : xs = [] := List.eq_nil_of_length_eq_zero (by have := hown.1; simpa using this)
      subst this
      exact World.ownsRow_nil _ _ _ _) a m c news hl hnews h1 h63 hbytes (Nat.zero_le _) hm
    obtain ⟨ad', c', rfl⟩ := owns_shape h2
    refine ⟨ad', c', w', hr, .of_owns h2, ?_⟩
    obtain ⟨v1, w1, hr1, h21, h31, _, h51⟩ := run_append_own_at (P := P) w 0 t ty e i z size bytes ht hi hz hsize hby hzs hsz (.slice none 0 0) 0 xs (by
      have : xs = [] := List.eq_nil_of_length_eq_zero (by have := hown.1; simpa using this)
      subst this
      exact World.ownsRow_nil _ _ _ _) a m c news hl hnews h1 h63 hbytes (Nat.zero_le _)
    rw [hr] at hr1
    simp only [Result.ok.injEq] at hr1
    obtain ⟨rfl, rfl⟩ := hr1
    rcases h51 with h | h
    · exact .inl ⟨h31, h⟩
    · exact .inr ⟨h31, h⟩
  · by_cases hroom : n + m ≤ cap
    · have hmul := Nat.mul_le_mul_right size hroom
      rw [Nat.add_mul] at hmul
      have hcell : ∀ j, j < news.length → (w.cell? ⟨g, o + n * i.size + j, none⟩).isSome = true := fun j hj => by
        rw [cell_of_row w g _ cur e (0, 0) hg, hsize, Array.getElem?_eq_getElem (by omega)]
        rfl
      have hr2 := run_append_room_cells (P := P) w t ty e i ht hi g o n cap a m c news (by rw [hl, hsize]) hnews h1 hroom hcell (fun j _ => frozen_of_row w g _ cur e hg)
      obtain ⟨cur', k1, k2, k3⟩ := heap_setCells_row g e news (o + n * i.size) w cur hg
      refine ⟨_, _, _, hr2, ⟨hlen, .inr ⟨g, o, cap, cur', rfl, k1, hroom, hcm, by omega, fun j hj => ?_⟩⟩, .inl ⟨grownBy_setCells g _ _ _, rfl⟩⟩
      rw [k3, hsize]
      rw [Nat.add_mul] at hj
      by_cases hjn : j < n * size
      · rw [if_neg (by omega), hat j hjn, List.getElem?_append_left (by rw [hown.1]; exact hjn)]
      · rw [if_pos (by omega), List.getElem?_append_right (by rw [hown.1]; omega), hown.1]
        congr 1
        omega
    · have hfro : ∀ j u, xs[j]? = some u → w.cell? ((⟨g, o, none⟩ : Addr).add j) = some u := fun j u hu => by
        have hj : j < n * size := by rw [← hown.1]; exact (List.getElem?_eq_some_iff.1 hu).1
        rw [Addr.add_lit, cell_of_row w g _ cur e (0, 0) hg, hat j hj]
        exact hu
      have hr2 := run_append_grow (P := P) w t ty e i z ht hi hz ⟨g, o, none⟩ n cap xs (by rw [hown.1, hsize]) hfro a m c news (by rw [hl, hsize]) hnews (by omega) (by unfold maxLen at h63; omega) (growslice_fits (by omega) (by rw [hby]; exact hbytes))
      obtain ⟨v', w', hr3, h4, h5⟩ := run_append_arg_grows (P := P) w t ty e i z size bytes ht hi hz hsize hby hzs hsz ⟨g, o, none⟩ n cap xs hown.1 hfro a m c news hl hnews (by omega) h63 hbytes
      rw [hr2] at hr3
      simp only [Result.ok.injEq] at hr3
      obtain ⟨rfl, rfl⟩ := hr3
      exact ⟨_, _, _, hr2, .of_owns h4, .inr ⟨h5, rfl⟩⟩
end

theorem wp_appA {P : Program} {w : World} {o : Oper} {a : Act} {K : Act → World → Prop} {Q : Exit → Act → World → Prop} (s x : Operand) (t : TypeId)
    (ho : o.op = .call { callee := .builtin .append, args := #[s, x], argTypes := #[t, t] })
    (e : TypeId) (z : Value) (size bytes : Nat) (ht : P.underlying t = some (.slice e)) (hinfo : (P.info? e).map (fun i => (i.zero, i.size, i.bytes)) = some (some z, size, bytes)) (hzs : z.cells.size = size) (hsz : 0 < size)
    (v : Value) (n : Nat) (xs : List Value) (hs : a.eval s = v) (hown : RowA w e size v n xs)
    (ad : Addr) (m c : Nat) (news : List Value) (hx : a.eval x = .slice (some ad) m c) (hrd : Rd w size (some ad) m news) (h1 : ∀ u ∈ news, u.oneCell' = true)
    (h63 : n + m ≤ maxLen) (hbytes : (n + m) * bytes ≤ 140737488355328) (hm : 0 < m)
    (h : ∀ ad' c' w', RowA w' e size (.slice ad' (n + m) c') (n + m) (xs ++ news) → AppA w w' v (.slice ad' (n + m) c') → K (a.put o.dst (.slice ad' (n + m) c')) w') : o.wp P a w K Q := by
  obtain ⟨i, hi, hz, hi1, hi2⟩ := info_parts hinfo
  obtain ⟨b, o', e', hc⟩ := hrd.2 (by have := Nat.mul_pos hm hsz; omega)
  obtain rfl := Option.some.inj e'
  obtain ⟨ad', c', w', hr, h2, h3⟩ := run_appA (P := P) w t o.type e i z size bytes ht hi hz hi1 hi2 hzs hsz v n xs hown ⟨b, o', none⟩ m c news hrd.1 (by
    intro j q hj
    have hj0 : j < m * size := by rw [← hrd.1]; exact (List.getElem?_eq_some_iff.1 hj).1
    rw [Addr.add_lit, hc j hj0]
    exact hj) h1 h63 hbytes hm
  unfold Oper.wp execOp
  simp only [ho, resolve, invoke, builtin, Sem.run_bind, Sem.run_pure, Result.andThen_ok, List.map_toArray, List.map_cons, List.map_nil, hs, hx, hr]
  exact h ad' c' w' h2 h3

theorem step_appA {P : Program} {w : World} {ops : Array Oper} {o : Oper} {a : Act} {K : Act → World → Prop} {Q : Exit → Act → World → Prop} {E : Prop} (hgd : o.guard = none) (s x : Operand) (t : TypeId)
    (ho : o.op = .call { callee := .builtin .append, args := #[s, x], argTypes := #[t, t] })
    (e : TypeId) (z : Value) (size bytes : Nat) (ht : P.underlying t = some (.slice e)) (hinfo : (P.info? e).map (fun i => (i.zero, i.size, i.bytes)) = some (some z, size, bytes)) (hzs : z.cells.size = size) (hsz : 0 < size)
    (v : Value) (n : Nat) (xs : List Value) (hs : a.eval s = v) (hown : RowA w e size v n xs)
    (ad : Addr) (m c : Nat) (news : List Value) (hx : a.eval x = .slice (some ad) m c) (hrd : Rd w size (some ad) m news) (h1 : ∀ u ∈ news, u.oneCell' = true)
    (h63 : n + m ≤ maxLen) (hbytes : (n + m) * bytes ≤ 140737488355328) (hm : 0 < m)
    (h : ∀ ad' c' w', RowA w' e size (.slice ad' (n + m) c') (n + m) (xs ++ news) → AppA w w' v (.slice ad' (n + m) c') → K (a.put o.dst (.slice ad' (n + m) c')) w') :
    if Region.wanted o (yielded ops a.tmps) = true then Oper.wp P o a w K Q else E := by
  have hw : Region.wanted o (yielded ops a.tmps) = true := by simp [Region.wanted, hgd]
  rw [if_pos hw]
  exact wp_appA s x t ho e z size bytes ht hinfo hzs hsz v n xs hs hown ad m c news hx hrd h1 h63 hbytes hm h
theorem wpList_appA {P : Program} {w : World} {ops : Array Oper} {rest : List Oper} {o : Oper} {a : Act} {Q : Exit → Act → World → Prop} (hgd : o.guard = none) (s x : Operand) (t : TypeId)
    (ho : o.op = .call { callee := .builtin .append, args := #[s, x], argTypes := #[t, t] })
    (e : TypeId) (z : Value) (size bytes : Nat) (ht : P.underlying t = some (.slice e)) (hinfo : (P.info? e).map (fun i => (i.zero, i.size, i.bytes)) = some (some z, size, bytes)) (hzs : z.cells.size = size) (hsz : 0 < size)
    (v : Value) (n : Nat) (xs : List Value) (hs : a.eval s = v) (hown : RowA w e size v n xs)
    (ad : Addr) (m c : Nat) (news : List Value) (hx : a.eval x = .slice (some ad) m c) (hrd : Rd w size (some ad) m news) (h1 : ∀ u ∈ news, u.oneCell' = true)
    (h63 : n + m ≤ maxLen) (hbytes : (n + m) * bytes ≤ 140737488355328) (hm : 0 < m)
    (h : ∀ ad' c' w', RowA w' e size (.slice ad' (n + m) c') (n + m) (xs ++ news) → AppA w w' v (.slice ad' (n + m) c') → wpList P ops Q rest (a.put o.dst (.slice ad' (n + m) c')) w') :
    wpList P ops Q (o :: rest) a w :=
  wpList_plain hgd fun _ hK => wp_appA s x t ho e z size bytes ht hinfo hzs hsz v n xs hs hown ad m c news hx hrd h1 h63 hbytes hm fun ad' c' w' h2 h3 => hK _ _ (h ad' c' w' h2 h3)

/-- 's[k:]': the equation, and what is left. -/
theorem RowA.from {w : World} {t e n c : Nat} {i : TypeInfo} {ad : Option Addr} {xs : List Value} {size k : Nat} (h : RowA w e size (.slice ad n c) n xs) (ht : Try.prog.underlying t = some (.slice e)) (hi : Try.prog.info? e = some i) (hsz : i.size = size) (hk : k ≤ n) :
    ∃ ax, (∀ w', (Instr.slice t (.slice ad n c) (some (.int .i64 (k : Int))) none none).run Try.prog w' = .ok (.slice ax (n - k) (c - k)) w') ∧ RowA w e size (.slice ax (n - k) (c - k)) (n - k) (xs.drop (k * size)) ∧ (Value.slice ax (n - k) (c - k)).ownBlock = (Value.slice ad n c).ownBlock := by
  have he : Try.prog.elem t = e := by simp [Program.elem, ht]
  have hlen : (xs.drop (k * size)).length = (n - k) * size := by rw [List.length_drop, h.1, Nat.sub_mul]
  have hcap := h.cap
  refine ⟨if c = k then ad else ad.map (·.add (k * size)), fun w' => ?_, ⟨hlen, ?_⟩, ?_⟩
  · rw [run_slice_l (P := Try.prog) w' _ ad n c (by rw [he]; exact ht) .i64 k (by omega) (by omega), he]
    simp [sizeOf, typeInfo, hi, hsz, sliced]
  · rcases h.2 with ⟨hv, h0⟩ | ⟨g, o, c', cur, hv, hg, h1, h2, h3, h4⟩
    · simp only [Value.slice.injEq] at hv
      obtain ⟨rfl, -, rfl⟩ := hv
      refine .inl ⟨?_, by omega⟩
      have : k = 0 := by omega
      subst this h0
      simp
    · simp only [Value.slice.injEq] at hv
      obtain ⟨rfl, -, rfl⟩ := hv
      have hmul := Nat.mul_le_mul_right size hk
      have hmul2 := Nat.mul_le_mul_right size h1
      refine .inr ⟨g, if c = k then o else o + k * size, c - k, cur, ?_, hg, by omega, by omega, ?_, fun j hj => ?_⟩
      · split
        · rfl
        · rw [Option.map_some, Addr.add_lit]
      · rw [Nat.sub_mul]
        split <;> omega
      · rw [Nat.sub_mul] at hj
        rw [List.getElem?_drop]
        split
        · have : n = k := by omega
          subst this
          omega
        · rw [Nat.add_assoc]
          exact h4 _ (by omega)
  · cases ad with
    | none => split <;> rfl
    | some a =>
      split
      · rfl
      · simp only [Option.map_some, Value.ownBlock, Option.some.injEq]
        unfold Addr.add
        split <;> rfl
end Go.Proofs.Ytgimbocoamnkjaa
