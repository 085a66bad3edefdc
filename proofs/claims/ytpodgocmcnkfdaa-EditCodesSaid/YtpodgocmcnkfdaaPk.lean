/- Tools of the walks over tables: blocks later on, results with a cell among them, five cells written, a clone of bytes. -/
import Derived.Test.YtpodgocmcnkfdaaKeep
import Derived.Deep.WholeRow
import Derived.Laws.CopyOwn
import Derived.Shelf.SlSortCmp.QuietGrown
namespace Go.Proofs.Ytpodgocmcnkfdaa
open Go.RowKit

theorem row_on {w w' : World} {g : Nat} {o : Obj} (h : w.heap[g]? = some o) (hb : Below w.heap.size w w') : w'.heap[g]? = some o := by
  rw [hb.block g (Array.getElem?_eq_some_iff.1 h).1]
  exact h
theorem below_tra {a b c : World} (h : Below a.heap.size a b) (h2 : Below b.heap.size b c) : Below a.heap.size a c := h.trans (h2.mono h.size)
theorem bs_none (w : World) : Bs w (.slice none 0 0) [] := ⟨none, 0, rfl, Rd.nil _ _ _, Nat.le_refl _, by omega, fun _ => rfl⟩

theorem res_two {P : Program} {fn : Func} {p q u : Tmp} {ty : TypeId} (h : fn.results = #[.cell p ty, .tmp q, .tmp u]) (tmps : Array Value) (w : World) (g : Nat) (t : TypeId) (cs : Array Value) (fr : Nat × Nat) (d : TypeDesc) (r s : Value)
    (hp : tmps.getD p undef = .pointer (some ⟨g, 0, none⟩)) (hq : tmps.getD q undef = r) (hu' : tmps.getD u undef = s) (hg : w.heap[g]? = some (.cells cs t fr))
    (hu : P.underlying ty = some d) (hd : (match d with | .struct _ | .array _ _ => true | _ => false) = true) (hi : (P.info? ty).map (·.size) = some cs.size) :
    (results fn tmps).run P w = .ok (.tuple #[.agg cs, r, s]) w := by
  have hp' : tmps[p]?.getD undef = .pointer (some ⟨g, 0, none⟩) := by simpa using hp
  have hq' : tmps[q]?.getD undef = r := by simpa using hq
  have hu2 : tmps[u]?.getD undef = s := by simpa using hu'
  simp [results, h, hp', hq', hu2, asAddr, run_loadVar_row w g t ty cs fr d hg hu hd hi]
theorem res_one {P : Program} {fn : Func} {p q : Tmp} {ty : TypeId} (h : fn.results = #[.cell p ty, .tmp q]) (tmps : Array Value) (w : World) (g : Nat) (t : TypeId) (cs : Array Value) (fr : Nat × Nat) (d : TypeDesc) (r : Value)
    (hp : tmps.getD p undef = .pointer (some ⟨g, 0, none⟩)) (hq : tmps.getD q undef = r) (hg : w.heap[g]? = some (.cells cs t fr))
    (hu : P.underlying ty = some d) (hd : (match d with | .struct _ | .array _ _ => true | _ => false) = true) (hi : (P.info? ty).map (·.size) = some cs.size) :
    (results fn tmps).run P w = .ok (.tuple #[.agg cs, r]) w := by
  have hp' : tmps[p]?.getD undef = .pointer (some ⟨g, 0, none⟩) := by simpa using hp
  have hq' : tmps[q]?.getD undef = r := by simpa using hq
  simp [results, h, hp', hq', asAddr, run_loadVar_row w g t ty cs fr d hg hu hd hi]

/-- Five cells written over. -/
def put5 (x : World) (N : Nat) (a b c d e : Value) : World := ((((x.setCell ⟨N, 0, none⟩ a).setCell ⟨N, 1, none⟩ b).setCell ⟨N, 2, none⟩ c).setCell ⟨N, 3, none⟩ d).setCell ⟨N, 4, none⟩ e
theorem put5_row {N t : Nat} {x : World} {out : Array Value} (h3 : x.heap[N]? = some (.cells out t (0, 0))) (hs : out.size = 5) (a b c d e : Value) : (put5 x N a b c d e).heap[N]? = some (.cells #[a, b, c, d, e] t (0, 0)) := by
  unfold put5
  rw [heap_setCell_same _ _ 4 _ _ _ (heap_setCell_same _ _ 3 _ _ _ (heap_setCell_same _ _ 2 _ _ _ (heap_setCell_same _ _ 1 _ _ _ (heap_setCell_same _ _ 0 _ _ _ h3))))]
  match out, hs with
  | ⟨[_, _, _, _, _]⟩, _ => rfl
theorem put5_keeps {N t te : Nat} {x : World} {out : Array Value} (h3 : x.heap[N]? = some (.cells out t (0, 0))) (ht : t ≠ te) (a b c d e : Value) : Keeps te x (put5 x N a b c d e) := by
  have k1 := heap_setCell_same _ _ 0 _ _ a h3
  have k2 := heap_setCell_same _ _ 1 _ _ b k1
  have k3 := heap_setCell_same _ _ 2 _ _ c k2
  have k4 := heap_setCell_same _ _ 3 _ _ d k3
  exact (((Keeps.setK h3 ht).trans (Keeps.setK k1 ht)).trans ((Keeps.setK k2 ht).trans (Keeps.setK k3 ht))).trans (Keeps.setK k4 ht)
theorem put5_below {B N : Nat} {w x : World} (h : Below B w x) (hN : B ≤ N) (a b c d e : Value) : Below B w (put5 x N a b c d e) :=
  ((((h.setCell hN a).setCell hN b).setCell hN c).setCell hN d).setCell hN e

set_option maxRecDepth 100000 in
set_option maxHeartbeats 800000 in
theorem cloneb_any (v : Value) (l : List UInt8) (w : World) (hv : Bs w v l) (hl : l.length ≤ 140737488355328) (R : Ending → World → Prop)
    (hR : ∀ ad c w', w'.ownsRow w.heap.size 5 1 (.slice ad l.length c) l.length (bv l) → Below w.heap.size w w' → R (.returned (.slice ad l.length c)) w') :
    Calls Try.prog 62 #[v] w R := by
  obtain ⟨ad, c, rfl, hr, h1, h2, h3⟩ := hv
  cases ad with
  | none =>
    have hc : c = 0 := h3 rfl
    subst hc
    have hl0 : l = [] := List.eq_nil_of_length_eq_zero (by omega)
    subst hl0
    have he : ∀ w : World, (binOp .eql 39 (.slice none 0 0) (.slice none 0 0)).run Try.prog w = .ok (.bool true) w := fun _ => rfl
    go_enter Try.func62, Try.ntmps62
    go_wp2
    exact hR _ _ _ (World.ownsRow_nil _ _ _ _) (Below.refl _ _)
  | some a =>
    have he : ∀ w : World, (binOp .eql 39 (.slice (some a) l.length c) (.slice none 0 0)).run Try.prog w = .ok (.bool false) w := fun _ => rfl
    have hown := (World.ownsRow_made (base := w.heap.size) (e := 5) (size := 1) w #[] 0 (Nat.le_refl _) (by unfold maxLen; omega) rfl)
    have hr1 := rd_alloc hr (.cells #[] 5)
    go_enter Try.func62, Try.ntmps62
    go_wp2_with (at_builtin; go_must (refine wpList_app (by rfl) (.tmp 5) (.tmp 6) 39 (by rfl) w.heap.size 5 (.int .u8 0) 1 1 Try.underlying39 Try.info5 rfl (by decide) _ _ _ _ rfl hown _ _ _ _ rfl hr1 (bv_oneCell _) h3 (by unfold maxLen; omega) (by omega) (by simp) ?_))
    intro ad2 c2 w2 hown2 hg2
    have hb2 := below_app ((Below.refl w.heap.size w).alloc (Nat.le_refl _) _) hg2 (by simp) hown
    clear hg2 hown hr1 hr
    go_wp2
    exact hR _ _ _ hown2 hb2

theorem grown_bel {w w' : World} {row : Option Nat} (h : Below w.heap.size w w') : w.grownBy w' row := ⟨h.os, h.tape, h.output, h.size, fun k hk _ => h.block k hk⟩
/-- w' is w after some draws, with some blocks laid behind it. -/
structure Grn (w w' : World) : Prop where
  ex : ∃ q os, w' = Sort.grow (w.drewN q) os
theorem Grn.refl (w : World) : Grn w w := ⟨0, #[], by rw [Sort.grow_empty]; rfl⟩
theorem Grn.alloc {w x : World} (h : Grn w x) (o : Obj) : Grn w (x.alloc o) := by
  obtain ⟨q, os, rfl⟩ := h
  exact ⟨q, os ++ #[o], by rw [Sort.alloc_eq_grow, Sort.grow_grow]⟩
theorem Grn.drewN {w x : World} (h : Grn w x) (n : Nat) : Grn w (x.drewN n) := by
  obtain ⟨q, os, rfl⟩ := h
  exact ⟨q + n, os, by rw [← World.drewN_drewN]; rfl⟩
theorem Grn.drew {w x : World} (h : Grn w x) : Grn w x.drew := h.drewN 1
theorem Grn.trans {w x y : World} (h : Grn w x) (k : Grn x y) : Grn w y := by
  obtain ⟨q, os, rfl⟩ := h
  obtain ⟨r, os', rfl⟩ := k
  exact ⟨q + r, os ++ os', by rw [← World.drewN_drewN, ← Sort.grow_grow]; rfl⟩
theorem Grn.grow {w x : World} (h : Grn w x) (n : Nat) (os : Array Obj) : Grn w (Sort.grow (x.drewN n) os) := h.trans ⟨n, os, rfl⟩
theorem Grn.below {w x : World} (h : Grn w x) : Below w.heap.size w x := by
  obtain ⟨q, os, rfl⟩ := h
  refine ⟨rfl, rfl, rfl, ?_, fun k hk => ?_⟩
  · show w.heap.size ≤ (w.heap ++ os).size
    simp
  · show (w.heap ++ os)[k]? = w.heap[k]?
    exact Array.getElem?_append_left hk
theorem grn_calls {P : Program} {f : FuncId} {args : Array Value} {w : World} {n : Nat} {os : Array Obj} {v : Value}
    (h : Calls P f args (Sort.grow (w.drewN n) os) fun e w' => e = .returned v ∧ Grn (Sort.grow (w.drewN n) os) w') : Calls P f args (Sort.grow (w.drewN n) os) fun e w'' => e = .returned v ∧ ∃ p : Go.GrownBy, w'' = Sort.grow (w.drewN p.n) p.os :=
  Calls.grown_of (h.mono fun _ _ ⟨he, hq⟩ => ⟨he, hq.ex⟩)
end Go.Proofs.Ytpodgocmcnkfdaa
