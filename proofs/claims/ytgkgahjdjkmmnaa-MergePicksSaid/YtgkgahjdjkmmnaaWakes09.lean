/- The law's own waking call. -/
import Derived.Test.YtgkgahjdjkmmnaaThin
namespace Go.Proofs.Ytgkgahjdjkmmnaa
open Go.RowKit

theorem ec_nil {w : World} {k : Value} {K : List UInt8} {s : Int} {d : Bool} (hk : Bs w k K) (lk : K.length ≤ 1000) (h0 : 0 ≤ s) (h1 : s ≤ 1000) : EC w k (.slice none 0 0) ⟨K, [], s, d⟩ :=
  ⟨hk, bs_nil w, by show K.length ≤ _; omega, by simp, by show _ ≤ s; omega, by show s ≤ _; omega⟩
theorem EC.alloc {w : World} {k v : Value} {e : Ent} (h : EC w k v e) (o : Obj) : EC (w.alloc o) k v e := h.below ((Below.refl _ _).alloc (Nat.le_refl _) o)
theorem Es.alloc {w : World} {v : Value} {l : List Ent} (h : Es w v l) (o : Obj) : Es (w.alloc o) v l := h.below ((Below.refl _ _).alloc (Nat.le_refl _) o)
theorem es_row1 {w : World} {g t : Nat} {k v : Value} {e : Ent} (hg : g = w.heap.size) (h : EC w k v e) : Es (w.alloc (.cells #[k, v, .int .i64 e.seq, .bool e.dead] t)) (.slice (some ⟨g, 0, none⟩) 1 1) [e] := by
  subst hg
  refine ⟨_, 1, rfl, Nat.le_refl _, by omega, (fun h => by cases h), fun _ => ⟨_, 0, rfl, fun i hi => ?_⟩⟩
  obtain rfl : i = 0 := by simpa using hi
  have n := heap_alloc_new w (.cells #[k, v, .int .i64 e.seq, .bool e.dead] t)
  exact ⟨k, v, ⟨cell_of_row _ _ 0 _ _ _ n, cell_of_row _ _ 1 _ _ _ n, cell_of_row _ _ 2 _ _ _ n, cell_of_row _ _ 3 _ _ _ n⟩, h.alloc _⟩
theorem es_row2 {w : World} {g t : Nat} {k v k2 v2 : Value} {e f : Ent} (hg : g = w.heap.size) (h : EC w k v e) (h2 : EC w k2 v2 f) : Es (w.alloc (.cells #[k, v, .int .i64 e.seq, .bool e.dead, k2, v2, .int .i64 f.seq, .bool f.dead] t)) (.slice (some ⟨g, 0, none⟩) 2 2) [e, f] := by
  subst hg
  refine ⟨_, 2, rfl, Nat.le_refl _, by omega, (fun h => by cases h), fun _ => ⟨_, 0, rfl, fun i hi => ?_⟩⟩
  have n := heap_alloc_new w (.cells #[k, v, .int .i64 e.seq, .bool e.dead, k2, v2, .int .i64 f.seq, .bool f.dead] t)
  match i, hi with
  | 0, _ => exact ⟨k, v, ⟨cell_of_row _ _ 0 _ _ _ n, cell_of_row _ _ 1 _ _ _ n, cell_of_row _ _ 2 _ _ _ n, cell_of_row _ _ 3 _ _ _ n⟩, h.alloc _⟩
  | 1, _ => exact ⟨k2, v2, ⟨cell_of_row _ _ 4 _ _ _ n, cell_of_row _ _ 5 _ _ _ n, cell_of_row _ _ 6 _ _ _ n, cell_of_row _ _ 7 _ _ _ n⟩, h2.alloc _⟩
theorem ess_row2 {w : World} {g t : Nat} {s1 s2 : Value} {l1 l2 : List Ent} (hg : g = w.heap.size) (h1 : Es w s1 l1) (h2 : Es w s2 l2) : Ess (w.alloc (.cells #[s1, s2] t)) (.slice (some ⟨g, 0, none⟩) 2 2) [l1, l2] := by
  subst hg
  refine ⟨_, 2, rfl, Nat.le_refl _, by omega, (fun h => by cases h), fun _ => ⟨_, 0, rfl, fun i hi => ?_⟩⟩
  have n := heap_alloc_new w (.cells #[s1, s2] t)
  match i, hi with
  | 0, _ => exact ⟨s1, cell_of_row _ _ 0 _ _ _ n, h1.alloc _⟩
  | 1, _ => exact ⟨s2, cell_of_row _ _ 1 _ _ _ n, h2.alloc _⟩

theorem wk1 : mergeL [[⟨[98], [], 1, false⟩], [⟨[97], [], 2, false⟩]] = ([⟨[97], [], 2, false⟩, ⟨[98], [], 1, false⟩], 0) := by kernel_rfl
theorem wk2 : thinL [⟨[97], [], 2, false⟩, ⟨[97], [], 1, false⟩] false [] = ([⟨[97], [], 2, false⟩], 0) := by kernel_rfl

set_option maxRecDepth 100000 in
set_option maxHeartbeats 4000000 in
theorem wakes_any (w : World) (R : Ending → World → Prop) (hR : ∀ w', Below w.heap.size w w' → R (.returned (.bool true)) w') :
    Calls Try.prog 15 #[] w R := by
  have HR := Lib.hid hR
  clear hR
  have kc := fun (w : World) (C : Array Value) (n c g : Nat) => run_conv_const (P := Try.prog) w 25 5 C n c g Try.underlying25 Try.underlying5
  go_enter Try.func15, Try.ntmps15
  go_wp2_with (go_at_call 11; fail)
  have b1 : Bs (w.alloc (Obj.cells #[Value.int .u8 98] 5 (1, 2))) (.slice (some ⟨w.heap.size, 0, none⟩) 1 1) [98] := bs_row _ [98] rfl rfl rfl (by simp)
  have e1 := es_row1 (t := 27) (g := w.heap.size + 1) (by simp) (ec_nil (s := 1) (d := false) b1 (by simp) (by omega) (by omega))
  have e1' := e1.alloc (Obj.cells #[Value.int .u8 97] 5 (1, 2))
  have b2 := bs_row (w := (w.alloc (Obj.cells #[Value.int .u8 98] 5 (1, 2))).alloc (Obj.cells #[Value.slice (some ⟨w.heap.size, 0, none⟩) 1 1, Value.slice none 0 0, Value.int .i64 1, Value.bool false] 27)) (e := 5) (fr := (1, 2)) (g := w.heap.size + 1 + 1) #[Value.int .u8 97] [97] (by simp) rfl rfl (by simp)
  have e2 := es_row1 (t := 27) (g := w.heap.size + 1 + 1 + 1) (by simp) (ec_nil (s := 2) (d := false) b2 (by simp) (by omega) (by omega))
  have hess := ess_row2 (t := 24) (g := w.heap.size + 1 + 1 + 1 + 1) (by simp) (e1'.alloc _) e2
  refine merge_any _ _ _ _ wk1 _ hess (by simp) (by simp [totalL]) _ ?_
  clear b1 e1 e1' b2 e2 hess
  intro L1 w1 ho1 hb1
  have hb1' := below_then (((((Below.refl w.heap.size w).alloc (Nat.le_refl _) (Obj.cells #[Value.int .u8 98] 5 (1, 2))).alloc (by simp) (Obj.cells #[Value.slice (some ⟨w.heap.size, 0, none⟩) 1 1, Value.slice none 0 0, Value.int .i64 1, Value.bool false] 27)).alloc (by simp; omega) (Obj.cells #[Value.int .u8 97] 5 (1, 2))).alloc (by simp; omega) (Obj.cells #[Value.slice (some ⟨w.heap.size + 1 + 1, 0, none⟩) 1 1, Value.slice none 0 0, Value.int .i64 2, Value.bool false] 27)|>.alloc (by simp; omega) (Obj.cells #[Value.slice (some ⟨w.heap.size + 1, 0, none⟩) 1 1, Value.slice (some ⟨w.heap.size + 1 + 1 + 1, 0, none⟩) 1 1] 24)) hb1 (by simp; omega)
  have HO1 := Lib.hid ho1
  have HB1 := Lib.hid hb1'
  obtain ⟨la, lc, rfl⟩ := EsO.shape ho1
  clear ho1 hb1 hb1'
  go_wp2_with (go_at_call 17; fail)
  have b1 : Bs (w1.alloc (Obj.cells #[Value.int .u8 97] 5 (1, 2))) (.slice (some ⟨w1.heap.size, 0, none⟩) 1 1) [97] := bs_row _ [97] rfl rfl rfl (by simp)
  have b2 := bs_row (w := w1.alloc (Obj.cells #[Value.int .u8 97] 5 (1, 2))) (e := 5) (fr := (1, 2)) (g := w1.heap.size + 1) #[Value.int .u8 97] [97] (by simp) rfl rfl (by simp)
  have e1 := es_row2 (t := 27) (g := w1.heap.size + 1 + 1) (by simp) (ec_nil (s := 2) (d := false) (b1.alloc _) (by simp) (by omega) (by omega)) (ec_nil (s := 1) (d := false) b2 (by simp) (by omega) (by omega))
  refine thin_any _ _ _ _ [] _ _ wk2 _ e1 ⟨none, 0, rfl, Rd.nil _ _ _, Nat.le_refl _, by omega, fun _ => rfl⟩ (by simp) _ ?_
  clear b1 e1 b2
  intro L2 w2 ho2 hb2
  have hb2' := below_then (((Below.refl w1.heap.size w1).alloc (Nat.le_refl _) (Obj.cells #[Value.int .u8 97] 5 (1, 2))).alloc (by simp) (Obj.cells #[Value.int .u8 97] 5 (1, 2)) |>.alloc (by simp; omega) (Obj.cells #[Value.slice (some ⟨w1.heap.size, 0, none⟩) 1 1, Value.slice none 0 0, Value.int .i64 2, Value.bool false, Value.slice (some ⟨w1.heap.size + 1, 0, none⟩) 1 1, Value.slice none 0 0, Value.int .i64 1, Value.bool false] 27)) hb2 (by simp; omega)
  have HB2 := Lib.hid (below_then HB1.out hb2' HB1.out.size)
  have he2 : Es w2 _ _ := (HO1.out.below hb2').es (by
    intro e he
    simp at he
    rcases he with rfl | rfl <;> exact ⟨by simp, by simp, by simp, by simp⟩)
  obtain ⟨la2, lc2, rfl⟩ := EsO.shape ho2
  obtain ⟨xa, xc, ee, _, _, _, x4⟩ := he2
  simp only [Value.slice.injEq, List.length_cons, List.length_nil] at ee
  obtain ⟨rfl, -, rfl⟩ := ee
  obtain ⟨xb, xo, rfl, x5⟩ := x4 (by simp)
  obtain ⟨k0, v0, p0, he0⟩ := x5 0 (by simp)
  have c0 : w2.cell? ⟨xb, xo, none⟩ = some k0 := by have := p0.1; simpa using this
  obtain ⟨ka1, ka2, rfl, _⟩ := he0.hk
  have hk := run_conv_bs (P := Try.prog) Try.underlying25 Try.underlying5 Try.underlying9 he0.hk
  replace hk : (convert 25 9 (.slice ka1 1 ka2)).run Try.prog w2 = .ok (.string ⟨#[97]⟩) w2 := hk
  replace c0 : w2.cell? ⟨xb, xo, none⟩ = some (.slice ka1 1 ka2) := c0
  clear x4 x5 p0 he0 ho2 hb2 hb2' HO1
  go_wp2_with (first | (go_at_call 13; go_in) | (go_at_call 11; fail))
  all_goals first | exact HR.out _ HB2.out | trace_state
end Go.Proofs.Ytgkgahjdjkmmnaa
