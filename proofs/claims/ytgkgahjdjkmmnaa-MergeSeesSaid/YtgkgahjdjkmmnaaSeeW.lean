/- merge.See, walked. -/
import Derived.Test.YtgkgahjdjkmmnaaSee
import Derived.Deep.WholeRow
namespace Go.Proofs.Ytgkgahjdjkmmnaa
open Go.RowKit

def zeroE : Ent := ⟨[], [], 0, false⟩
theorem seeL_mem {l : List Ent} {key : List UInt8} {s : Int} {e : Ent} (h : seeL l key s = some e) : e ∈ l := List.mem_of_find?_eq_some h

theorem results_row_tmp {P : Program} {fn : Func} {p q : Tmp} {ty : TypeId} (h : fn.results = #[.cell p ty, .tmp q]) (tmps : Array Value) (w : World) (g : Nat) (t : TypeId) (cs : Array Value) (fr : Nat × Nat) (d : TypeDesc) (r : Value)
    (hp : tmps.getD p undef = .pointer (some ⟨g, 0, none⟩)) (hq : tmps.getD q undef = r) (hg : w.heap[g]? = some (.cells cs t fr))
    (hu : P.underlying ty = some d) (hd : (match d with | .struct _ | .array _ _ => true | _ => false) = true) (hi : (P.info? ty).map (·.size) = some cs.size) :
    (results fn tmps).run P w = .ok (.tuple #[.agg cs, r]) w := by
  have hp' : tmps[p]?.getD undef = .pointer (some ⟨g, 0, none⟩) := by simpa using hp
  have hq' : tmps[q]?.getD undef = r := by simpa using hq
  simp [results, h, hp', hq', asAddr, run_loadVar_row w g t ty cs fr d hg hu hd hi]
theorem done4 {N t : Nat} {x : World} {out : Array Value} (h3 : x.heap[N]? = some (.cells out t (0, 0))) (hs : out.size = 4) (a b c d : Value) : ((((x.setCell ⟨N, 0, none⟩ a).setCell ⟨N, 1, none⟩ b).setCell ⟨N, 2, none⟩ c).setCell ⟨N, 3, none⟩ d).heap[N]? = some (.cells #[a, b, c, d] t (0, 0)) := by
  rw [heap_setCell_same _ _ 3 _ _ _ (heap_setCell_same _ _ 2 _ _ _ (heap_setCell_same _ _ 1 _ _ _ (heap_setCell_same _ _ 0 _ _ _ h3)))]
  match out, hs with
  | ⟨[_, _, _, _]⟩, _ => rfl
theorem keeps4 {N t te : Nat} {x : World} {out : Array Value} (h3 : x.heap[N]? = some (.cells out t (0, 0))) (ht : t ≠ te) (a b c d : Value) : Keeps te x ((((x.setCell ⟨N, 0, none⟩ a).setCell ⟨N, 1, none⟩ b).setCell ⟨N, 2, none⟩ c).setCell ⟨N, 3, none⟩ d) := by
  have k1 := heap_setCell_same _ _ 0 _ _ a h3
  have k2 := heap_setCell_same _ _ 1 _ _ b k1
  have k3 := heap_setCell_same _ _ 2 _ _ c k2
  exact ((Keeps.setK h3 ht).trans (Keeps.setK k1 ht)).trans ((Keeps.setK k2 ht).trans (Keeps.setK k3 ht))

set_option maxRecDepth 100000 in
set_option maxHeartbeats 8000000 in
theorem see_any (v u : Value) (l : List Ent) (key : List UInt8) (s : Int) (r : Option Ent) (hr : seeL l key s = r) (w : World) (hv : Es w v l) (hu : Bs w u key) (R : Ending → World → Prop)
    (hR : ∀ k' v' w', EC w' k' v' (r.getD zeroE) → Below w.heap.size w w' → R (.returned (.tuple #[.agg #[k', v', .int .i64 (r.getD zeroE).seq, .bool (r.getD zeroE).dead], .bool r.isSome])) w') :
    Calls Try.prog 20 #[v, u, .int .i64 s] w R := by
  have HR := Lib.hid hR
  have HV := Lib.hid hv
  have HU := Lib.hid hu
  have hst : Hid (seeL (l.drop 0) key s = r) := by rw [List.drop_zero]; exact Lib.hid hr
  clear hR hr
  obtain ⟨va, vc, rfl, _⟩ := hv
  obtain ⟨ua, uc, rfl, _⟩ := hu
  obtain ⟨w0, hw0⟩ : ∃ w0, w.alloc (Obj.cells #[Value.slice none 0 0, Value.slice none 0 0, Value.int .i64 0, Value.bool false] 27) = w0 := ⟨_, rfl⟩
  have hb0 : Below w.heap.size w w0 := by rw [← hw0]; exact (Below.refl _ _).alloc (Nat.le_refl _) _
  have n0 : w0.heap[w.heap.size]? = some (Obj.cells #[Value.slice none 0 0, Value.slice none 0 0, Value.int .i64 0, Value.bool false] 27) := by rw [← hw0]; exact heap_alloc_new w _
  have hz0 : w.heap.size + 1 ≤ w0.heap.size := by rw [← hw0]; simp
  have N0 := Lib.hid n0
  clear n0
  go_enter Try.func20, Try.ntmps20
  go_wp2
  clear hw0
  go_loopg [12] l.length (fun gn i wr => ∃ k : Nat, k ≤ l.length ∧ gn = l.length - k ∧ i = .int .i64 k ∧ Below w0.heap.size w0 wr ∧ Hid (seeL (l.drop k) key s = r))
  case atStart => exact ⟨0, Nat.zero_le _, by omega, rfl, Below.refl _ _, hst⟩
  case round =>
    obtain ⟨k, hk, rfl, rfl, hb, HS⟩ := hrel
    have hbw := below_then hb0 hb hb0.size
    have nr := row_later2 N0.out hb
    have NR := Lib.hid nr
    have hzr := hb.size
    clear nr
    by_cases hlt : k < l.length
    · have hkk : (k : Int) < (l.length : Int) := by omega
      obtain ⟨va', vc', ee, _, _, _, v4⟩ := HV.out.below hbw
      simp only [Value.slice.injEq] at ee
      obtain ⟨rfl, -, rfl⟩ := ee
      obtain ⟨vb, vo, rfl, v5⟩ := v4 (by omega)
      obtain ⟨k0, v0, ⟨p0, p1, p2, p3⟩, hec⟩ := v5 k hlt
      obtain ⟨y, hy⟩ : ∃ y, l[k] = y := ⟨_, rfl⟩
      rw [hy] at p2 p3 hec
      have hss := HS.out
      rw [List.drop_eq_getElem_cons hlt, hy, seeL, List.find?_cons] at hss
      obtain ⟨k1, k2, k3, rfl⟩ : ∃ a n c, k0 = .slice a n c := by obtain ⟨a, c, h, _⟩ := hec.hk; exact ⟨_, _, _, h⟩
      obtain ⟨v1, v2, v3, rfl⟩ := EC.shape hec
      obtain ⟨q, hq⟩ : ∃ q, (y.key == key) = q := ⟨_, rfl⟩
      have HQ := Lib.hid hq
      have HEC := Lib.hid hec
      have hyE : Below wr.heap.size wr (wr.alloc (Obj.cells #[Value.slice k1 k2 k3, Value.slice v1 v2 v3, Value.int .i64 y.seq, Value.bool y.dead] 27)) := (Below.refl _ _).alloc (Nat.le_refl _) _
      have hkE := hec.hk.below hyE
      have huE := (HU.out.below hbw).below hyE
      have hecE := hec.below hyE
      have hbE := below_tr hb hyE
      have nE := row_later2 NR.out hyE
      have e0 := cell_of_row _ w.heap.size 0 _ _ _ nE
      have e1 := cell_of_row _ w.heap.size 1 _ _ _ nE
      have e2 := cell_of_row _ w.heap.size 2 _ _ _ nE
      have e3 := cell_of_row _ w.heap.size 3 _ _ _ nE
      have HBE := Lib.hid hbE
      have NE := Lib.hid nE
      have HSS := Lib.hid hss
      clear v4 v5 hy hss hq hec hbE nE e0 e1 e2 e3 HS
      cases q with
      | false =>
        have hnx : Hid (seeL (l.drop (k + 1)) key s = r) := by
          have := HSS.out
          rw [HQ.out, Bool.false_and] at this
          exact this
        clear HSS hyE
        go_wp2_with (go_at_call 38; go_must (refine equal_any _ _ y.key key false HQ.out _ hkE huE _ ?_))
        go_roundg (l.length - (k + 1))
        case measure => omega
        case rel => exact ⟨k + 1, by omega, rfl, by go_num, HBE.out, hnx⟩
      | true =>
        by_cases hsq : y.seq ≤ s
        · have hsq2 : decide (y.seq ≤ s) = true := decide_eq_true hsq
          have hry : r = some y := by
            have := HSS.out
            rw [HQ.out, hsq2] at this
            exact this.symm
          subst hry
          clear HSS hyE
          go_wp2_with (first
            | (go_at_call 38; go_must (refine equal_any _ _ y.key key true HQ.out _ hkE huE _ ?_))
            | (go_at_call 34; go_must (refine copied_any _ _ y _ hecE _ ?_); intro k' v' w5 heo hy5; have n5 := row_later2 NE.out hy5; have e0 := cell_of_row _ w.heap.size 0 _ _ _ n5; have e1 := cell_of_row _ w.heap.size 1 _ _ _ n5; have e2 := cell_of_row _ w.heap.size 2 _ _ _ n5; have e3 := cell_of_row _ w.heap.size 3 _ _ _ n5; have f0 := frozen_block n5 0; have f1 := frozen_block n5 1; have f2 := frozen_block n5 2; have f3 := frozen_block n5 3; have N5 := Lib.hid n5; clear n5; obtain ⟨ka', kc', rfl⟩ := owns_shape heo.hk; obtain ⟨va', vc', rfl⟩ := owns_shape heo.hv))
          have hx5 := below_tr HBE.out hy5
          have P0 := done4 N5.out rfl (Value.slice ka' y.key.length kc') (Value.slice va' y.val.length vc') (Value.int .i64 y.seq) (Value.bool y.dead)
          have kp := keeps4 (te := 5) N5.out (by decide) (Value.slice ka' y.key.length kc') (Value.slice va' y.val.length vc') (Value.int .i64 y.seq) (Value.bool y.dead)
          have hx := below_set4 (N := w.heap.size) (below_then hb0 hx5 (by omega)) (Nat.le_refl _) (Value.slice ka' y.key.length kc') (Value.slice va' y.val.length vc') (Value.int .i64 y.seq) (Value.bool y.dead)
          refine bodyPost_ret (results_row_tmp rfl _ _ w.heap.size 27 #[Value.slice ka' y.key.length kc', Value.slice va' y.val.length vc', Value.int .i64 y.seq, Value.bool y.dead] (0, 0) _ (Value.bool true) rfl rfl P0 Try.underlying27 rfl (by kernel_rfl)) rfl ?_
          exact HR.out _ _ _ (EO.ec ⟨kp _ _ _ _ heo.hk, kp _ _ _ _ heo.hv⟩ HEC.out.lk HEC.out.lv ⟨HEC.out.s0, HEC.out.s1⟩) hx
        · have hsq2 : decide (y.seq ≤ s) = false := decide_eq_false hsq
          have hnx : Hid (seeL (l.drop (k + 1)) key s = r) := by
            have := HSS.out
            rw [hsq2, Bool.and_false] at this
            exact this
          clear HSS hyE
          go_wp2_with (go_at_call 38; go_must (refine equal_any _ _ y.key key true HQ.out _ hkE huE _ ?_))
          go_roundg (l.length - (k + 1))
          case measure => omega
          case rel => exact ⟨k + 1, by omega, rfl, by go_num, HBE.out, hnx⟩
    · have hkk : ¬ (k : Int) < (l.length : Int) := by omega
      have hrn : r = none := by
        rw [← HS.out, List.drop_of_length_le (by omega)]
        rfl
      subst hrn
      have e0 := cell_of_row _ w.heap.size 0 _ _ _ NR.out
      have e1 := cell_of_row _ w.heap.size 1 _ _ _ NR.out
      have e2 := cell_of_row _ w.heap.size 2 _ _ _ NR.out
      have e3 := cell_of_row _ w.heap.size 3 _ _ _ NR.out
      have f0 := frozen_block NR.out 0
      have f1 := frozen_block NR.out 1
      have f2 := frozen_block NR.out 2
      have f3 := frozen_block NR.out 3
      clear HS
      go_wp2
      have P0 := done4 NR.out rfl (Value.slice none 0 0) (Value.slice none 0 0) (Value.int .i64 0) (Value.bool false)
      have hx := below_set4 (N := w.heap.size) hbw (Nat.le_refl _) (Value.slice none 0 0) (Value.slice none 0 0) (Value.int .i64 0) (Value.bool false)
      refine bodyPost_ret (results_row_tmp rfl _ _ w.heap.size 27 #[Value.slice none 0 0, Value.slice none 0 0, Value.int .i64 0, Value.bool false] (0, 0) _ (Value.bool false) rfl rfl P0 Try.underlying27 rfl (by kernel_rfl)) rfl ?_
      exact HR.out _ _ _ ⟨bs_nil _, bs_nil _, by simp [zeroE], by simp [zeroE], by simp [zeroE], by simp [zeroE]⟩ hx
end Go.Proofs.Ytgkgahjdjkmmnaa
