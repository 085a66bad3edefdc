/- Properties: the walks' own tools. -/
import Derived.Test.YtpodhidabhnnnaaDoorPropC
import Derived.Test.YtpodhidabhnnnaaDoorPropP
import Derived.Test.YtpodhidabhnnnaaDoorKindW
import Derived.Deep.WholeRow
import Derived.Laws.CopyOwn
namespace Go.Proofs.YtpodhidabhnnnaaDoor
open Go.RowKit

theorem row_later2 {w w' : World} {g : Nat} {o : Obj} (h : w.heap[g]? = some o) (hb : Below w.heap.size w w') : w'.heap[g]? = some o := by
  rw [hb.block g (Array.getElem?_eq_some_iff.1 h).1]
  exact h
theorem below_tr {a b c : World} (h : Below a.heap.size a b) (h2 : Below b.heap.size b c) : Below a.heap.size a c := h.trans (h2.mono h.size)
theorem bs_nil (w : World) : Bs w (.slice none 0 0) [] := ⟨none, 0, rfl, Rd.nil _ _ _, Nat.le_refl _, by omega, fun _ => rfl⟩

theorem results_cell_two {P : Program} {fn : Func} {p q u : Tmp} {ty : TypeId} (h : fn.results = #[.cell p ty, .tmp q, .tmp u]) (tmps : Array Value) (w : World) (g : Nat) (t : TypeId) (cs : Array Value) (fr : Nat × Nat) (d : TypeDesc) (r s : Value)
    (hp : tmps.getD p undef = .pointer (some ⟨g, 0, none⟩)) (hq : tmps.getD q undef = r) (hu' : tmps.getD u undef = s) (hg : w.heap[g]? = some (.cells cs t fr))
    (hu : P.underlying ty = some d) (hd : (match d with | .struct _ | .array _ _ => true | _ => false) = true) (hi : (P.info? ty).map (·.size) = some cs.size) :
    (results fn tmps).run P w = .ok (.tuple #[.agg cs, r, s]) w := by
  have hp' : tmps[p]?.getD undef = .pointer (some ⟨g, 0, none⟩) := by simpa using hp
  have hq' : tmps[q]?.getD undef = r := by simpa using hq
  have hu2 : tmps[u]?.getD undef = s := by simpa using hu'
  simp [results, h, hp', hq', hu2, asAddr, run_loadVar_row w g t ty cs fr d hg hu hd hi]
theorem results_cell_one {P : Program} {fn : Func} {p q : Tmp} {ty : TypeId} (h : fn.results = #[.cell p ty, .tmp q]) (tmps : Array Value) (w : World) (g : Nat) (t : TypeId) (cs : Array Value) (fr : Nat × Nat) (d : TypeDesc) (r : Value)
    (hp : tmps.getD p undef = .pointer (some ⟨g, 0, none⟩)) (hq : tmps.getD q undef = r) (hg : w.heap[g]? = some (.cells cs t fr))
    (hu : P.underlying ty = some d) (hd : (match d with | .struct _ | .array _ _ => true | _ => false) = true) (hi : (P.info? ty).map (·.size) = some cs.size) :
    (results fn tmps).run P w = .ok (.tuple #[.agg cs, r]) w := by
  have hp' : tmps[p]?.getD undef = .pointer (some ⟨g, 0, none⟩) := by simpa using hp
  have hq' : tmps[q]?.getD undef = r := by simpa using hq
  simp [results, h, hp', hq', asAddr, run_loadVar_row w g t ty cs fr d hg hu hd hi]

/-- Five cells written over. -/
def set5 (x : World) (N : Nat) (a b c d e : Value) : World := ((((x.setCell ⟨N, 0, none⟩ a).setCell ⟨N, 1, none⟩ b).setCell ⟨N, 2, none⟩ c).setCell ⟨N, 3, none⟩ d).setCell ⟨N, 4, none⟩ e
theorem done5 {N t : Nat} {x : World} {out : Array Value} (h3 : x.heap[N]? = some (.cells out t (0, 0))) (hs : out.size = 5) (a b c d e : Value) : (set5 x N a b c d e).heap[N]? = some (.cells #[a, b, c, d, e] t (0, 0)) := by
  unfold set5
  rw [heap_setCell_same _ _ 4 _ _ _ (heap_setCell_same _ _ 3 _ _ _ (heap_setCell_same _ _ 2 _ _ _ (heap_setCell_same _ _ 1 _ _ _ (heap_setCell_same _ _ 0 _ _ _ h3))))]
  match out, hs with
  | ⟨[_, _, _, _, _]⟩, _ => rfl
theorem keeps5 {N t te : Nat} {x : World} {out : Array Value} (h3 : x.heap[N]? = some (.cells out t (0, 0))) (ht : t ≠ te) (a b c d e : Value) : Keeps te x (set5 x N a b c d e) := by
  have k1 := heap_setCell_same _ _ 0 _ _ a h3
  have k2 := heap_setCell_same _ _ 1 _ _ b k1
  have k3 := heap_setCell_same _ _ 2 _ _ c k2
  have k4 := heap_setCell_same _ _ 3 _ _ d k3
  exact (((Keeps.setK h3 ht).trans (Keeps.setK k1 ht)).trans ((Keeps.setK k2 ht).trans (Keeps.setK k3 ht))).trans (Keeps.setK k4 ht)
theorem below_set5 {B N : Nat} {w x : World} (h : Below B w x) (hN : B ≤ N) (a b c d e : Value) : Below B w (set5 x N a b c d e) :=
  ((((h.setCell hN a).setCell hN b).setCell hN c).setCell hN d).setCell hN e

theorem rd_takeN {w : World} {size n m : Nat} {ad : Option Addr} {cs : List Value} (h : Rd w size ad n cs) (hm : m ≤ n) : Rd w size ad m (cs.take (m * size)) := by
  have hms := Nat.mul_le_mul_right size hm
  refine ⟨by have := h.1; rw [List.length_take]; omega, fun h0 => ?_⟩
  obtain ⟨b, o, e, hc⟩ := h.2 (by omega)
  refine ⟨b, o, e, fun j hj => ?_⟩
  rw [hc j (by omega), List.getElem?_take, if_pos (by omega)]
theorem rd_dropN {w : World} {size n m : Nat} {ad : Option Addr} {cs : List Value} (h : Rd w size ad n cs) (hm : m ≤ n) : Rd w size (ad.map (·.add (m * size))) (n - m) (cs.drop (m * size)) := by
  have hms := Nat.mul_le_mul_right size hm
  have hsub : (n - m) * size = n * size - m * size := Nat.sub_mul _ _ _
  refine ⟨by have := h.1; rw [List.length_drop]; omega, fun h0 => ?_⟩
  obtain ⟨b, o, rfl, hc⟩ := h.2 (by omega)
  refine ⟨b, o + m * size, by rw [Option.map_some, Addr.add_lit], fun j hj => ?_⟩
  rw [Nat.add_assoc, hc (m * size + j) (by omega), List.getElem?_drop]

theorem bv_take (l : List UInt8) (k : Nat) : bv (l.take k) = (bv l).take k := by simp [bv, List.map_take]
theorem bv_drop (l : List UInt8) (k : Nat) : bv (l.drop k) = (bv l).drop k := by simp [bv, List.map_drop]

/-- A piece of bytes from a place on. -/
theorem bs_from {w : World} {La : Option Addr} {n c j : Nat} {l : List UInt8} (h : Bs w (.slice La n c) l) (hj : j ≤ l.length) :
    ∃ Lx, (∀ w', (Instr.slice 22 (.slice La n c) (some (.int .i64 (j : Int))) none none).run Tryd.prog w' = .ok (.slice Lx (n - j) (c - j)) w') ∧ Bs w (.slice Lx (n - j) (c - j)) (l.drop j) := by
  obtain ⟨ad, c', e, q1, q2, q3, q4⟩ := h
  simp only [Value.slice.injEq] at e
  obtain ⟨rfl, rfl, rfl⟩ := e
  have he : Tryd.prog.elem 22 = 5 := by simp [Program.elem, Tryd.underlying22]
  obtain ⟨i, hi0, hz, hi1, hi2⟩ := info_parts Tryd.info5
  have hlen : (l.drop j).length = l.length - j := List.length_drop
  refine ⟨if c = j then La else La.map (·.add (j * 1)), fun w => ?_, _, _, by rw [hlen], ?_, by omega, by omega, fun hx => ?_⟩
  · rw [run_slice_l (P := Tryd.prog) w _ La l.length c (by rw [he]; exact Tryd.underlying22) .i64 j (by omega) (by omega), he]
    simp [sizeOf, typeInfo, hi0, hi1, sliced]
  · rw [hlen]
    by_cases hcj : c = j
    · have h0 : l.length - j = 0 := by omega
      have h1 : l.drop j = [] := List.drop_of_length_le (by omega)
      rw [h0, h1]
      exact Rd.nil _ _ _
    · rw [if_neg hcj]
      have := rd_dropN (m := j) q1 hj
      rw [Nat.mul_one, ← bv_drop] at this
      rw [Nat.mul_one]
      exact this
  · by_cases hcj : c = j
    · omega
    · rw [if_neg hcj] at hx
      have := q4 (by simpa using hx)
      omega
/-- A piece of bytes between two places. -/
theorem bs_mid {w : World} {La : Option Addr} {n c lo hi : Nat} {l : List UInt8} (h : Bs w (.slice La n c) l) (h1 : lo ≤ hi) (h2 : hi ≤ l.length) :
    ∃ Lx, (∀ w', (Instr.slice 22 (.slice La n c) (some (.int .i64 (lo : Int))) (some (.int .i64 (hi : Int))) none).run Tryd.prog w' = .ok (.slice Lx (hi - lo) (c - lo)) w') ∧ Bs w (.slice Lx (hi - lo) (c - lo)) ((l.take hi).drop lo) := by
  obtain ⟨ad, c', e, q1, q2, q3, q4⟩ := h
  simp only [Value.slice.injEq] at e
  obtain ⟨rfl, rfl, rfl⟩ := e
  have he : Tryd.prog.elem 22 = 5 := by simp [Program.elem, Tryd.underlying22]
  obtain ⟨i, hi0, hz, hi1, hi2⟩ := info_parts Tryd.info5
  have hlen : ((l.take hi).drop lo).length = hi - lo := by rw [List.length_drop, List.length_take]; omega
  refine ⟨if c = lo then La else La.map (·.add (lo * 1)), fun w => ?_, _, _, by rw [hlen], ?_, by omega, by omega, fun hx => ?_⟩
  · rw [run_slice_lh (P := Tryd.prog) w _ La l.length c (by rw [he]; exact Tryd.underlying22) .i64 .i64 lo hi (by omega) (by omega) (by omega), he]
    simp [sizeOf, typeInfo, hi0, hi1, sliced]
  · rw [hlen]
    by_cases hcj : c = lo
    · have h0 : hi - lo = 0 := by omega
      have h1 : (l.take hi).drop lo = [] := List.drop_of_length_le (by rw [List.length_take]; omega)
      rw [h0, h1]
      exact Rd.nil _ _ _
    · rw [if_neg hcj]
      have h3 := rd_takeN (m := hi) q1 h2
      have := rd_dropN (m := lo) h3 h1
      rw [Nat.mul_one, Nat.mul_one, ← bv_take, ← bv_drop] at this
      rw [Nat.mul_one]
      exact this
  · by_cases hcj : c = lo
    · omega
    · rw [if_neg hcj] at hx
      have := q4 (by simpa using hx)
      omega

set_option maxRecDepth 100000 in
set_option maxHeartbeats 800000 in
theorem clone_any (v : Value) (l : List UInt8) (w : World) (hv : Bs w v l) (hl : l.length ≤ 140737488355328) (R : Ending → World → Prop)
    (hR : ∀ ad c w', w'.ownsRow w.heap.size 5 1 (.slice ad l.length c) l.length (bv l) → Below w.heap.size w w' → R (.returned (.slice ad l.length c)) w') :
    Calls Tryd.prog 67 #[v] w R := by
  obtain ⟨ad, c, rfl, hr, h1, h2, h3⟩ := hv
  cases ad with
  | none =>
    have hc : c = 0 := h3 rfl
    subst hc
    have hl0 : l = [] := List.eq_nil_of_length_eq_zero (by omega)
    subst hl0
    have he : ∀ w : World, (binOp .eql 22 (.slice none 0 0) (.slice none 0 0)).run Tryd.prog w = .ok (.bool true) w := fun _ => rfl
    go_enter Tryd.func67, Tryd.ntmps67
    go_wp2
    exact hR _ _ _ (World.ownsRow_nil _ _ _ _) (Below.refl _ _)
  | some a =>
    have he : ∀ w : World, (binOp .eql 22 (.slice (some a) l.length c) (.slice none 0 0)).run Tryd.prog w = .ok (.bool false) w := fun _ => rfl
    have hown := (World.ownsRow_made (base := w.heap.size) (e := 5) (size := 1) w #[] 0 (Nat.le_refl _) (by unfold maxLen; omega) rfl)
    have hr1 := rd_alloc hr (.cells #[] 5)
    go_enter Tryd.func67, Tryd.ntmps67
    go_wp2_with (at_builtin; go_must (refine wpList_app (by rfl) (.tmp 5) (.tmp 6) 22 (by rfl) w.heap.size 5 (.int .u8 0) 1 1 Tryd.underlying22 Tryd.info5 rfl (by decide) _ _ _ _ rfl hown _ _ _ _ rfl hr1 (bv_oneCell _) h3 (by unfold maxLen; omega) (by omega) (by simp) ?_))
    intro ad2 c2 w2 hown2 hg2
    have hb2 := below_app ((Below.refl w.heap.size w).alloc (Nat.le_refl _) _) hg2 (by simp) hown
    clear hg2 hown hr1 hr
    go_wp2
    exact hR _ _ _ hown2 hb2
end Go.Proofs.YtpodhidabhnnnaaDoor
