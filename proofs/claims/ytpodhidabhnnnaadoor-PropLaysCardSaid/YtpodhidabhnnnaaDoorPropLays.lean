/- The law PropLays, walked. -/
import Derived.Test.YtpodhidabhnnnaaDoorRefF
import Derived.Test.YtpodhidabhnnnaaDoorPropQ
import Derived.Test.YtpodhidabhnnnaaDoorCut11
import Derived.Test.YtpodhidabhnnnaaDoorRefR
import Derived.Test.YtpodhidabhnnnaaDoorRefS
import Derived.Test.YtpodhidabhnnnaaDoorBook11
import Derived.Test.YtpodhidabhnnnaaDoorPropE
import Derived.Test.YtpodhidabhnnnaaDoorPropS
/- Only, on both sides. -/
namespace Go.Proofs.YtpodhidabhnnnaaDoor
open Go.RowKit

def idxI (l : List Int) (x : Int) : Int := match l.idxOf? x with
  | none => -1
  | some k => k

set_option maxRecDepth 100000 in
set_option maxHeartbeats 400000 in
theorem index_any (x : Int) (ps : List Int) (z : Bool) (hz : ps.contains x = z) (ad : Option Addr) (n c : Nat) (hn : n = ps.length) (hm : ps.length ≤ 1000) (w : World) (cs : List Value) (hr : Rd w 1 ad n cs) (hcs : cs = ps.map (Value.int .i64)) (R : Ending → World → Prop)
    (hR : ∀ i : Int, (z = true → 0 ≤ i) → (z = false → i = -1) → R (.returned (.int .i64 i)) w) :
    Calls Tryd.prog 68 #[.slice ad n c, .int .i64 x] w R := by
  subst hn
  subst hcs
  have HZ := Lib.hid hz
  have HR := Lib.hid hR
  clear hz hR
  go_enter Tryd.func68, Tryd.ntmps68
  go_wp2
  go_loop [5, 8] (fun _ i => ∃ k : Nat, k ≤ ps.length ∧ i = .int .i64 k ∧ Hid ((ps.take k).contains x = false)) (fun _ i => ps.length - (intOf i).toNat)
  case atStart => exact ⟨0, Nat.zero_le _, rfl, Lib.hid (by simp)⟩
  case round =>
    obtain ⟨k, hk, rfl, hno⟩ := hrel
    by_cases hlt : k < ps.length
    · have hkk : (k : Int) < (ps.length : Int) := by omega
      obtain ⟨b, o, rfl, hcell⟩ := hr.2 (by omega)
      have hck := hcell k (by omega)
      rw [List.getElem?_map, List.getElem?_eq_getElem hlt, Option.map_some] at hck
      have HS : Hid (ps.take (k + 1) = ps.take k ++ [ps[k]]) := Lib.hid (List.take_succ_eq_append_getElem hlt)
      have HM : Hid (ps[k] ∈ ps) := Lib.hid (List.getElem_mem hlt)
      obtain ⟨p, hpp⟩ : ∃ p, ps[k] = p := ⟨_, rfl⟩
      rw [hpp] at HS HM hck
      clear hcell hr hpp
      by_cases he : x = p
      · subst he
        obtain rfl : z = true := by rw [← HZ.out]; simpa using HM.out
        go_wp2
        exact HR.out k (fun _ => by omega) (fun h => by cases h)
      · have hp : Hid ((ps.take (k + 1)).contains x = false) := by
          refine Lib.hid ?_
          rw [HS.out]
          have := hno.out
          simp only [List.contains_eq_mem, List.mem_append, List.mem_singleton, decide_eq_false_iff_not] at this ⊢
          rintro (h | h)
          · exact this h
          · exact he h
        clear HS HM hno
        go_wp2
        go_round
        case rel => exact ⟨k + 1, by omega, by go_num, hp⟩
        case measure => simp [intOf]; omega
    · have hkk : ¬ (k : Int) < (ps.length : Int) := by omega
      obtain rfl : z = false := by
        rw [← HZ.out]
        have := hno.out
        rwa [List.take_of_length_le (by omega)] at this
      go_wp2
      exact HR.out (-1) (fun h => by cases h) (fun _ => rfl)
set_option maxRecDepth 100000 in
set_option maxHeartbeats 400000 in
theorem contains_any (x : Int) (ps : List Int) (z : Bool) (hz : ps.contains x = z) (ad : Option Addr) (n c : Nat) (hn : n = ps.length) (hm : ps.length ≤ 1000) (w : World) (cs : List Value) (hr : Rd w 1 ad n cs) (hcs : cs = ps.map (Value.int .i64)) (R : Ending → World → Prop)
    (hR : R (.returned (.bool z)) w) :
    Calls Tryd.prog 52 #[.slice ad n c, .int .i64 x] w R := by
  have HR := Lib.hid hR
  have HRR := Lib.hid hr
  have HZ := Lib.hid hz
  have HN := Lib.hid hn
  have HCS := Lib.hid hcs
  clear hR hr hz hn hcs
  go_enter Tryd.func52, Tryd.ntmps52
  cases z with
  | true =>
    go_wp2_with (go_at_call 68; go_must (refine index_any x ps true HZ.out ad n c HN.out hm _ cs HRR.out HCS.out _ ?_); intro i hi _; have hi0 : 0 ≤ i := hi rfl)
    exact HR.out
  | false =>
    go_wp2_with (go_at_call 68; go_must (refine index_any x ps false HZ.out ad n c HN.out hm _ cs HRR.out HCS.out _ ?_); intro i _ hi; obtain rfl := hi rfl)
    exact HR.out

theorem Ps.pb {w : World} {v : Value} {l : List Pr} (h : Ps w v l) : ∀ p ∈ l, PB p := by
  intro p hp
  obtain ⟨i, hi, rfl⟩ := List.getElem_of_mem hp
  obtain ⟨ad, c, _, _, _, _, h4⟩ := h
  obtain ⟨b, o, _, h5⟩ := h4 (by omega)
  obtain ⟨d, _, h6⟩ := h5 i hi
  exact ⟨h6.ld, h6.lt, h6.lp, h6.i0, h6.i1, h6.n0, h6.n1⟩
theorem onlyL_len (l : List Pr) (ids : List Int) : (onlyL l ids).length ≤ l.length := List.length_filter_le _ _

set_option maxRecDepth 100000 in
set_option maxHeartbeats 2000000 in
theorem ponly_any (v : Value) (l : List Pr) (ids : List Int) (hm : ids.length ≤ 1000) (ia : Option Addr) (n c : Nat) (hn : n = ids.length) (w : World) (cs : List Value) (hr : Rd w 1 ia n cs) (hcs : cs = ids.map (Value.int .i64)) (hv : Ps w v l) (hll : l.length ≤ 1000000) (R : Ending → World → Prop)
    (hR : ∀ ad cc w', PsO w' w.heap.size (.slice ad (onlyL l ids).length cc) (onlyL l ids) → Below w.heap.size w w' → R (.returned (.slice ad (onlyL l ids).length cc)) w') :
    Calls Tryd.prog 30 #[v, .slice ia n c] w R := by
  have HR := Lib.hid hR
  have HV := Lib.hid hv
  have HRD := Lib.hid hr
  have HCS := Lib.hid hcs
  have HN := Lib.hid hn
  obtain ⟨va, vc, rfl, _⟩ := _root_.id hv
  clear hR hv hr hcs hn
  go_enter Tryd.func30, Tryd.ntmps30
  go_wp2
  go_loopg [5, 7, 10] l.length (fun gn L _ i wr => ∃ (k : Nat) (o : List Pr) (oa : Option Addr) (oc : Nat), k ≤ l.length ∧ gn = l.length - k ∧ i = .int .i64 k ∧ L = .slice oa o.length oc ∧ Hid (o = onlyL (l.take k) ids) ∧ o.length ≤ k ∧ Hid (PsO wr w.heap.size (.slice oa o.length oc) o) ∧ Below w.heap.size w wr)
  case atStart => exact ⟨0, [], none, 0, Nat.zero_le _, by omega, rfl, rfl, Lib.hid rfl, Nat.le_refl _, Lib.hid (PsO.nil _ _), Below.refl _ _⟩
  case round =>
    obtain ⟨k, o, oa, oc, hk, rfl, rfl, rfl, HO, hok, HPS, hb⟩ := hrel
    obtain ⟨wo, rfl⟩ : ∃ y, y = wr := ⟨_, rfl⟩
    by_cases hlt : k < l.length
    · have hkk : (k : Int) < (l.length : Int) := by omega
      obtain ⟨va', vc', ee, _, _, _, v4⟩ := HV.out.below hb
      simp only [Value.slice.injEq] at ee
      obtain ⟨rfl, -, rfl⟩ := ee
      obtain ⟨vb, vo, rfl, v5⟩ := v4 (by omega)
      obtain ⟨d0, ⟨p0, p1, p2, p3, p4⟩, hec⟩ := v5 k hlt
      have HT1 : Hid (l.take (k + 1) = l.take k ++ [l[k]]) := Lib.hid (List.take_succ_eq_append_getElem hlt)
      obtain ⟨y, hy⟩ : ∃ y, l[k] = y := ⟨_, rfl⟩
      rw [hy] at p0 p1 p2 p3 hec HT1
      obtain ⟨d1, d3, rfl, _⟩ := _root_.id hec.hd
      have hyE : Below wo.heap.size wo (wo.alloc (Obj.cells #[.int .i64 y.id, .int .i64 y.num, .string (str y.text), .string (str y.pair), .slice d1 y.data.length d3] 43)) := (Below.refl _ _).alloc (Nat.le_refl _) _
      have HEC := Lib.hid (hec.below hyE)
      have hxE := below_tr hb hyE
      have HYE := Lib.hid hyE
      obtain ⟨z, hz⟩ : ∃ z, ids.contains y.id = z := ⟨_, rfl⟩
      have hO1 : onlyL (l.take (k + 1)) ids = o ++ (if z = true then [y] else []) := by rw [HT1.out, onlyL_snoc, ← HO.out, hz]
      have HO1 := Lib.hid hO1
      have HZ := Lib.hid hz
      clear v4 v5 hy hec hyE hz hO1
      cases z with
      | false =>
        go_wp2_with (go_at_call 52; go_must (refine contains_any y.id ids false HZ.out ia n c HN.out hm _ cs (HRD.out.below hxE) HCS.out _ ?_))
        go_roundg (l.length - (k + 1))
        case measure => omega
        case rel => exact ⟨k + 1, o, oa, oc, by omega, rfl, by go_num, rfl, Lib.hid (by rw [HO1.out]; simp), by omega, Lib.hid (HPS.out.below HYE.out), hxE⟩
      | true =>
        obtain ⟨ds, hds, hrow, heach, hap⟩ := HPS.out
        have HDS := Lib.hid hds
        have HEACH := Lib.hid heach
        have HROW := Lib.hid hrow
        have HAP := Lib.hid hap
        clear heach hrow hap
        go_wp2_with (first
          | (go_at_call 52; go_must (refine contains_any y.id ids true HZ.out ia n c HN.out hm _ cs (HRD.out.below hxE) HCS.out _ ?_))
          | (go_at_call 51; go_must (refine pcopied_any _ y _ HEC.out _ ?_); intro ca cc w5 hown5 hb5; have hy5 := below_tr HYE.out hb5; have hx5 := below_then hb hy5 hb.size; have hrow5 := owns_below HROW.out hy5; have hrd := rd_lit w5 #[.int .i64 y.id, .int .i64 y.num, .string (str y.text), .string (str y.pair), .slice ca y.data.length cc] 43 5 1 rfl; have hO5 := owns_mono (base' := wo.heap.size) hown5 HYE.out.size; clear hown5 hb5)
          | (at_builtin; go_must (refine wpList_app (by rfl) (.tmp 18) (.tmp 21) 25 (by rfl) w.heap.size 43 (.agg #[Value.int .i64 0, Value.int .i64 0, Value.string ⟨#[]⟩, Value.string ⟨#[]⟩, Value.slice none 0 0]) 5 72 Tryd.underlying25 Tryd.info43 rfl (by decide) _ _ _ _ rfl (World.ownsRow.alloc hrow5 _) _ _ _ _ rfl hrd (pc_oneCell _ _ _) (by simp) (by unfold maxLen; omega) (by omega) (Nat.le_trans hx5.size (by simp)) ?_)))
        intro ad6 c6 w6 hown6 hg6
        have hk6 : Keeps 5 w5 w6 := (Keeps.below ((Below.refl _ _).alloc (Nat.le_refl _) _)).trans (Keeps.grown5 (hrow5.alloc _) hg6 (by decide))
        have hbN : Below w.heap.size w w6 := below_app (hx5.alloc hx5.size _) hg6 (Nat.le_trans hx5.size (by simp)) (hrow5.alloc _)
        have hnew : ∀ v ∈ ds, Unlike v (.slice ca y.data.length cc) := by
          intro v hv k hk hc
          obtain ⟨i, hi, rfl⟩ := List.getElem_of_mem hv
          have h1 := ((HEACH.out i (by rw [← HDS.out]; exact hi)).lt k hk).2
          have h2 := (hO5.lt k hc).1
          omega
        have hPS6 : PsO w6 w.heap.size (.slice ad6 (o.length + 1) c6) (o ++ [y]) := PsO.push HDS.out (fun i hi => owns_below (HEACH.out i hi) hy5) hk6 hown6 (owns_mono hO5 hb.size) HAP.out hnew
        have HPS6 : Hid (PsO w6 w.heap.size (.slice ad6 (o ++ [y]).length c6) (o ++ [y])) := Lib.hid (by rw [List.length_append]; exact hPS6)
        clear hPS6 hnew hk6 hown6 hg6 hrow5 hrd hx5 hy5 hO5
        go_wp2
        go_roundg (l.length - (k + 1))
        case measure => omega
        case rel => exact ⟨k + 1, o ++ [y], ad6, c6, by omega, rfl, by go_num, by rw [List.length_append]; rfl, Lib.hid (by rw [HO1.out]; simp), by rw [List.length_append]; simp; omega, HPS6, hbN⟩
    · have hkk : ¬ (k : Int) < (l.length : Int) := by omega
      have hfull : onlyL l ids = o := by rw [HO.out, List.take_of_length_le (by omega)]
      have HF := Lib.hid hfull
      clear hfull
      go_wp2
      have h9 := HR.out oa oc _ (by rw [HF.out]; exact HPS.out) hb
      rw [HF.out] at h9
      exact h9

set_option maxRecDepth 100000 in
set_option maxHeartbeats 2000000 in
theorem ronly_any (v : Value) (l : List Pr) (ids : List Int) (hm : ids.length ≤ 1000) (ia : Option Addr) (n c : Nat) (hn : n = ids.length) (w : World) (cs : List Value) (hr : Rd w 1 ia n cs) (hcs : cs = ids.map (Value.int .i64)) (hv : Ps w v l) (hll : l.length ≤ 1000000) (R : Ending → World → Prop)
    (hR : ∀ ad cc w', Pt w w' (.slice ad (onlyL l ids).length cc) (onlyL l ids) → Below w.heap.size w w' → R (.returned (.slice ad (onlyL l ids).length cc)) w') :
    Calls Tryd.prog 33 #[v, .slice ia n c] w R := by
  have HR := Lib.hid hR
  have HV := Lib.hid hv
  have HRD := Lib.hid hr
  have HCS := Lib.hid hcs
  have HN := Lib.hid hn
  obtain ⟨va, vc, rfl, _⟩ := _root_.id hv
  clear hR hv hr hcs hn
  go_enter Tryd.func33, Tryd.ntmps33
  go_wp2
  go_loopg [5, 6] l.length (fun gn L i wr => ∃ (k : Nat) (o : List Pr) (oa : Option Addr) (oc : Nat), k ≤ l.length ∧ gn = l.length - k ∧ i = .int .i64 k ∧ L = .slice oa o.length oc ∧ Hid (o = onlyL (l.take k) ids) ∧ o.length ≤ k ∧ Hid (PsR w wr w.heap.size (.slice oa o.length oc) o) ∧ Below w.heap.size w wr)
  case atStart => exact ⟨0, [], none, 0, Nat.zero_le _, by omega, rfl, rfl, Lib.hid rfl, Nat.le_refl _, Lib.hid (PsR.nil _ _ _), Below.refl _ _⟩
  case round =>
    obtain ⟨k, o, oa, oc, hk, rfl, rfl, rfl, HO, hok, HPS, hb⟩ := hrel
    obtain ⟨wo, rfl⟩ : ∃ y, y = wr := ⟨_, rfl⟩
    by_cases hlt : k < l.length
    · have hkk : (k : Int) < (l.length : Int) := by omega
      obtain ⟨va', vc', ee, _, _, _, v4⟩ := HV.out
      simp only [Value.slice.injEq] at ee
      obtain ⟨rfl, -, rfl⟩ := ee
      obtain ⟨vb, vo, rfl, v5⟩ := v4 (by omega)
      obtain ⟨d0, hp5, hec⟩ := v5 k hlt
      have HT1 : Hid (l.take (k + 1) = l.take k ++ [l[k]]) := Lib.hid (List.take_succ_eq_append_getElem hlt)
      obtain ⟨y, hy⟩ : ∃ y, l[k] = y := ⟨_, rfl⟩
      rw [hy] at hp5 hec HT1
      obtain ⟨p0, p1, p2, p3, p4⟩ := hp5.below hb
      obtain ⟨d1, d3, rfl, _⟩ := _root_.id hec.hd
      have HEC := Lib.hid hec
      obtain ⟨z, hz⟩ : ∃ z, ids.contains y.id = z := ⟨_, rfl⟩
      have hO1 : onlyL (l.take (k + 1)) ids = o ++ (if z = true then [y] else []) := by rw [HT1.out, onlyL_snoc, ← HO.out, hz]
      have HO1 := Lib.hid hO1
      have HZ := Lib.hid hz
      clear v4 v5 hy hec hp5 hz hO1
      cases z with
      | false =>
        go_wp2_with (go_at_call 40; go_must (refine among_any y.id ids false HZ.out ia n c HN.out hm _ cs (HRD.out.below hb) HCS.out _ ?_))
        go_roundg (l.length - (k + 1))
        case measure => omega
        case rel => exact ⟨k + 1, o, oa, oc, by omega, rfl, by go_num, rfl, Lib.hid (by rw [HO1.out]; simp), by omega, HPS, hb⟩
      | true =>
        obtain ⟨ds, hds, hrow, heach⟩ := HPS.out
        have HDS := Lib.hid hds
        have HEACH := Lib.hid heach
        have HROW := Lib.hid hrow
        clear heach hrow
        have hrow5 := HROW.out
        have hrd := rd_lit wo #[.int .i64 y.id, .int .i64 y.num, .string (str y.text), .string (str y.pair), .slice d1 y.data.length d3] 43 5 1 rfl
        go_wp2_with (first
          | (go_at_call 40; go_must (refine among_any y.id ids true HZ.out ia n c HN.out hm _ cs (HRD.out.below hb) HCS.out _ ?_))
          | (at_builtin; go_must (refine wpList_app (by rfl) (.tmp 20) (.tmp 25) 25 (by rfl) w.heap.size 43 (.agg #[Value.int .i64 0, Value.int .i64 0, Value.string ⟨#[]⟩, Value.string ⟨#[]⟩, Value.slice none 0 0]) 5 72 Tryd.underlying25 Tryd.info43 rfl (by decide) _ _ _ _ rfl (World.ownsRow.alloc hrow5 _) _ _ _ _ rfl hrd (pc_oneCell _ _ _) (by simp) (by unfold maxLen; omega) (by omega) (Nat.le_trans hb.size (by simp)) ?_)))
        intro ad6 c6 w6 hown6 hg6
        have hbN : Below w.heap.size w w6 := below_app (hb.alloc hb.size _) hg6 (Nat.le_trans hb.size (by simp)) (hrow5.alloc _)
        have hPS6 : PsR w w6 w.heap.size (.slice ad6 (o.length + 1) c6) (o ++ [y]) := PsR.push HDS.out HEACH.out hown6 HEC.out
        have HPS6 : Hid (PsR w w6 w.heap.size (.slice ad6 (o ++ [y]).length c6) (o ++ [y])) := Lib.hid (by rw [List.length_append]; exact hPS6)
        clear hPS6 hown6 hg6 hrow5 hrd
        go_wp2
        go_roundg (l.length - (k + 1))
        case measure => omega
        case rel => exact ⟨k + 1, o ++ [y], ad6, c6, by omega, rfl, by go_num, by rw [List.length_append]; rfl, Lib.hid (by rw [HO1.out]; simp), by rw [List.length_append]; simp; omega, HPS6, hbN⟩
    · have hkk : ¬ (k : Int) < (l.length : Int) := by omega
      have hfull : onlyL l ids = o := by rw [HO.out, List.take_of_length_le (by omega)]
      have HF := Lib.hid hfull
      clear hfull
      go_wp2
      have h9 := HR.out oa oc _ (by rw [HF.out]; exact HPS.out.pt) hb
      rw [HF.out] at h9
      exact h9
end Go.Proofs.YtpodhidabhnnnaaDoor

/- tidingsref11.laid, walked. (Printed by genrd.py.) -/
namespace Go.Proofs.YtpodhidabhnnnaaDoor
open Go.RowKit

set_option maxRecDepth 100000 in
set_option maxHeartbeats 1600000 in
theorem rlaid_1 (d : Value) (p : Pr) (hk : kindL p.id = 1) (J : List UInt8) (ok : Bool) (hJ : rlaidL p = (J, ok)) (w : World) (h : PC w d p) (R : Ending → World → Prop)
    (hR : ∀ ad c w', w'.ownsRow w.heap.size 5 1 (.slice ad J.length c) J.length (bv J) → Below w.heap.size w w' → R (.returned (.tuple #[.slice ad J.length c, .bool ok])) w') :
    Calls Tryd.prog 65 #[.agg #[.int .i64 p.id, .int .i64 p.num, .string (str p.text), .string (str p.pair), d]] w R := by
  have HR := Lib.hid hR
  have HK := Lib.hid hk
  have HP := Lib.hid h
  have N0 : Hid ((w.alloc (Obj.cells #[.int .i64 p.id, .int .i64 p.num, .string (str p.text), .string (str p.pair), d] 43)).heap[w.heap.size]? = some (Obj.cells #[.int .i64 p.id, .int .i64 p.num, .string (str p.text), .string (str p.pair), d] 43)) := Lib.hid (heap_alloc_new w _)
  have HBA : Hid (Below w.heap.size w (w.alloc (Obj.cells #[.int .i64 p.id, .int .i64 p.num, .string (str p.text), .string (str p.pair), d] 43))) := Lib.hid ((Below.refl _ _).alloc (Nat.le_refl _) _)
  clear hR h
  obtain ⟨X, hX⟩ : ∃ X, u64 p.num = X := ⟨_, rfl⟩
  have hwx : IntKind.u64.wrap p.num = (X : Int) := by rw [← hX, IntKind.wrap_u64]; unfold u64; omega
  have hX64 : X < 18446744073709551616 := by rw [← hX]; unfold u64; omega
  have HX64 := Lib.hid hX64
  have e0 : rlaidL p = (putW X 1, decide (0 ≤ p.num ∧ p.num < 256)) := by unfold rlaidL; simp only [hk, hX, Nat.reduceEqDiff, if_true, if_false]
  rw [e0] at hJ
  simp only [Prod.mk.injEq] at hJ
  obtain ⟨hP, hok⟩ := hJ
  have HPW := Lib.hid hP
  have HOK := Lib.hid hok
  clear hX64 hP hX e0 hk hok
  have c1 : (w.alloc (Obj.cells #[.int .i64 p.id, .int .i64 p.num, .string (str p.text), .string (str p.pair), d] 43)).drew.cell? ⟨w.heap.size, 1, none⟩ = some (.int .i64 p.num) := cell_of_row _ w.heap.size 1 _ _ _ N0.out
  by_cases h0 : 0 ≤ p.num
  · by_cases h1 : p.num < 256
    · obtain rfl : ok = true := by rw [← HOK.out]; exact decide_eq_true ⟨h0, h1⟩
      have hd1 : decide (p.num < 256) = true := decide_eq_true h1
      go_enter Tryd.func65, Tryd.ntmps65
      go_wp2_with (go_at_call 15; go_must (refine rkind_at p.id 1 HK.out _ _ ?_))
      go_region_held3 (fun x => x.cell? ⟨w.heap.size, 1, none⟩ = some (.int .i64 p.num)) (first | exact c1 | exact cell_later hb4 c1 | go_keep) (first | (go_at_call 74; refine rput_any X HX64.out 1 J HPW.out _ _ ?_; intro pa pc w4 hown4 hb4))
      all_goals
        go_wp2
        try go_ret2
        exact HR.out _ _ _ (owns_mono hown4 (by simp)) (below_tr HBA.out (below_tr (Below.refl _ _).drew hb4))
    · obtain rfl : ok = false := by rw [← HOK.out]; exact decide_eq_false fun h => h1 h.2
      have hd1 : decide (p.num < 256) = false := decide_eq_false h1
      go_enter Tryd.func65, Tryd.ntmps65
      go_wp2_with (go_at_call 15; go_must (refine rkind_at p.id 1 HK.out _ _ ?_))
      go_region_held3 (fun x => x.cell? ⟨w.heap.size, 1, none⟩ = some (.int .i64 p.num)) (first | exact c1 | exact cell_later hb4 c1 | go_keep) (first | (go_at_call 74; refine rput_any X HX64.out 1 J HPW.out _ _ ?_; intro pa pc w4 hown4 hb4))
      all_goals
        go_wp2
        try go_ret2
        exact HR.out _ _ _ (owns_mono hown4 (by simp)) (below_tr HBA.out (below_tr (Below.refl _ _).drew hb4))
  · obtain rfl : ok = false := by rw [← HOK.out]; exact decide_eq_false fun h => h0 h.1
    have hd0 : decide (0 ≤ p.num) = false := decide_eq_false h0
    go_enter Tryd.func65, Tryd.ntmps65
    go_wp2_with (go_at_call 15; go_must (refine rkind_at p.id 1 HK.out _ _ ?_))
    first | (go_region_with (first | (go_at_call 74; refine rput_any X HX64.out 1 J HPW.out _ _ ?_; intro pa pc w4 hown4 hb4; have c4 := cell_later hb4 c1))) | fail
    all_goals
      go_wp2
      try go_ret2
      exact HR.out _ _ _ (owns_mono hown4 (by simp)) (below_tr HBA.out (below_tr (Below.refl _ _).drew hb4))

set_option maxRecDepth 100000 in
set_option maxHeartbeats 1600000 in
theorem rlaid_2 (d : Value) (p : Pr) (hk : kindL p.id = 2) (J : List UInt8) (ok : Bool) (hJ : rlaidL p = (J, ok)) (w : World) (h : PC w d p) (R : Ending → World → Prop)
    (hR : ∀ ad c w', w'.ownsRow w.heap.size 5 1 (.slice ad J.length c) J.length (bv J) → Below w.heap.size w w' → R (.returned (.tuple #[.slice ad J.length c, .bool ok])) w') :
    Calls Tryd.prog 65 #[.agg #[.int .i64 p.id, .int .i64 p.num, .string (str p.text), .string (str p.pair), d]] w R := by
  have HR := Lib.hid hR
  have HK := Lib.hid hk
  have HP := Lib.hid h
  have N0 : Hid ((w.alloc (Obj.cells #[.int .i64 p.id, .int .i64 p.num, .string (str p.text), .string (str p.pair), d] 43)).heap[w.heap.size]? = some (Obj.cells #[.int .i64 p.id, .int .i64 p.num, .string (str p.text), .string (str p.pair), d] 43)) := Lib.hid (heap_alloc_new w _)
  have HBA : Hid (Below w.heap.size w (w.alloc (Obj.cells #[.int .i64 p.id, .int .i64 p.num, .string (str p.text), .string (str p.pair), d] 43))) := Lib.hid ((Below.refl _ _).alloc (Nat.le_refl _) _)
  clear hR h
  obtain ⟨X, hX⟩ : ∃ X, u64 p.num = X := ⟨_, rfl⟩
  have hwx : IntKind.u64.wrap p.num = (X : Int) := by rw [← hX, IntKind.wrap_u64]; unfold u64; omega
  have hX64 : X < 18446744073709551616 := by rw [← hX]; unfold u64; omega
  have HX64 := Lib.hid hX64
  have e0 : rlaidL p = (putW X 2, decide (0 ≤ p.num ∧ p.num < 65536)) := by unfold rlaidL; simp only [hk, hX, Nat.reduceEqDiff, if_true, if_false]
  rw [e0] at hJ
  simp only [Prod.mk.injEq] at hJ
  obtain ⟨hP, hok⟩ := hJ
  have HPW := Lib.hid hP
  have HOK := Lib.hid hok
  clear hX64 hP hX e0 hk hok
  have c1 : (w.alloc (Obj.cells #[.int .i64 p.id, .int .i64 p.num, .string (str p.text), .string (str p.pair), d] 43)).drew.cell? ⟨w.heap.size, 1, none⟩ = some (.int .i64 p.num) := cell_of_row _ w.heap.size 1 _ _ _ N0.out
  by_cases h0 : 0 ≤ p.num
  · by_cases h1 : p.num < 65536
    · obtain rfl : ok = true := by rw [← HOK.out]; exact decide_eq_true ⟨h0, h1⟩
      have hd1 : decide (p.num < 65536) = true := decide_eq_true h1
      go_enter Tryd.func65, Tryd.ntmps65
      go_wp2_with (go_at_call 15; go_must (refine rkind_at p.id 2 HK.out _ _ ?_))
      go_region_held3 (fun x => x.cell? ⟨w.heap.size, 1, none⟩ = some (.int .i64 p.num)) (first | exact c1 | exact cell_later hb4 c1 | go_keep) (first | (go_at_call 74; refine rput_any X HX64.out 2 J HPW.out _ _ ?_; intro pa pc w4 hown4 hb4))
      all_goals
        go_wp2
        try go_ret2
        exact HR.out _ _ _ (owns_mono hown4 (by simp)) (below_tr HBA.out (below_tr (Below.refl _ _).drew hb4))
    · obtain rfl : ok = false := by rw [← HOK.out]; exact decide_eq_false fun h => h1 h.2
      have hd1 : decide (p.num < 65536) = false := decide_eq_false h1
      go_enter Tryd.func65, Tryd.ntmps65
      go_wp2_with (go_at_call 15; go_must (refine rkind_at p.id 2 HK.out _ _ ?_))
      go_region_held3 (fun x => x.cell? ⟨w.heap.size, 1, none⟩ = some (.int .i64 p.num)) (first | exact c1 | exact cell_later hb4 c1 | go_keep) (first | (go_at_call 74; refine rput_any X HX64.out 2 J HPW.out _ _ ?_; intro pa pc w4 hown4 hb4))
      all_goals
        go_wp2
        try go_ret2
        exact HR.out _ _ _ (owns_mono hown4 (by simp)) (below_tr HBA.out (below_tr (Below.refl _ _).drew hb4))
  · obtain rfl : ok = false := by rw [← HOK.out]; exact decide_eq_false fun h => h0 h.1
    have hd0 : decide (0 ≤ p.num) = false := decide_eq_false h0
    go_enter Tryd.func65, Tryd.ntmps65
    go_wp2_with (go_at_call 15; go_must (refine rkind_at p.id 2 HK.out _ _ ?_))
    first | (go_region_with (first | (go_at_call 74; refine rput_any X HX64.out 2 J HPW.out _ _ ?_; intro pa pc w4 hown4 hb4; have c4 := cell_later hb4 c1))) | fail
    all_goals
      go_wp2
      try go_ret2
      exact HR.out _ _ _ (owns_mono hown4 (by simp)) (below_tr HBA.out (below_tr (Below.refl _ _).drew hb4))

set_option maxRecDepth 100000 in
set_option maxHeartbeats 1600000 in
theorem rlaid_3 (d : Value) (p : Pr) (hk : kindL p.id = 3) (J : List UInt8) (ok : Bool) (hJ : rlaidL p = (J, ok)) (w : World) (h : PC w d p) (R : Ending → World → Prop)
    (hR : ∀ ad c w', w'.ownsRow w.heap.size 5 1 (.slice ad J.length c) J.length (bv J) → Below w.heap.size w w' → R (.returned (.tuple #[.slice ad J.length c, .bool ok])) w') :
    Calls Tryd.prog 65 #[.agg #[.int .i64 p.id, .int .i64 p.num, .string (str p.text), .string (str p.pair), d]] w R := by
  have HR := Lib.hid hR
  have HK := Lib.hid hk
  have HP := Lib.hid h
  have N0 : Hid ((w.alloc (Obj.cells #[.int .i64 p.id, .int .i64 p.num, .string (str p.text), .string (str p.pair), d] 43)).heap[w.heap.size]? = some (Obj.cells #[.int .i64 p.id, .int .i64 p.num, .string (str p.text), .string (str p.pair), d] 43)) := Lib.hid (heap_alloc_new w _)
  have HBA : Hid (Below w.heap.size w (w.alloc (Obj.cells #[.int .i64 p.id, .int .i64 p.num, .string (str p.text), .string (str p.pair), d] 43))) := Lib.hid ((Below.refl _ _).alloc (Nat.le_refl _) _)
  clear hR h
  obtain ⟨X, hX⟩ : ∃ X, u64 p.num = X := ⟨_, rfl⟩
  have hwx : IntKind.u64.wrap p.num = (X : Int) := by rw [← hX, IntKind.wrap_u64]; unfold u64; omega
  have hX64 : X < 18446744073709551616 := by rw [← hX]; unfold u64; omega
  have HX64 := Lib.hid hX64
  have e0 : rlaidL p = (putW X 4, decide (0 ≤ p.num ∧ p.num < 4294967296)) := by unfold rlaidL; simp only [hk, hX, Nat.reduceEqDiff, if_true, if_false]
  rw [e0] at hJ
  simp only [Prod.mk.injEq] at hJ
  obtain ⟨hP, hok⟩ := hJ
  have HPW := Lib.hid hP
  have HOK := Lib.hid hok
  clear hX64 hP hX e0 hk hok
  have c1 : (w.alloc (Obj.cells #[.int .i64 p.id, .int .i64 p.num, .string (str p.text), .string (str p.pair), d] 43)).drew.cell? ⟨w.heap.size, 1, none⟩ = some (.int .i64 p.num) := cell_of_row _ w.heap.size 1 _ _ _ N0.out
  by_cases h0 : 0 ≤ p.num
  · by_cases h1 : p.num < 4294967296
    · obtain rfl : ok = true := by rw [← HOK.out]; exact decide_eq_true ⟨h0, h1⟩
      have hd1 : decide (p.num < 4294967296) = true := decide_eq_true h1
      go_enter Tryd.func65, Tryd.ntmps65
      go_wp2_with (go_at_call 15; go_must (refine rkind_at p.id 3 HK.out _ _ ?_))
      go_region_held3 (fun x => x.cell? ⟨w.heap.size, 1, none⟩ = some (.int .i64 p.num)) (first | exact c1 | exact cell_later hb4 c1 | go_keep) (first | (go_at_call 74; refine rput_any X HX64.out 4 J HPW.out _ _ ?_; intro pa pc w4 hown4 hb4))
      all_goals
        go_wp2
        try go_ret2
        exact HR.out _ _ _ (owns_mono hown4 (by simp)) (below_tr HBA.out (below_tr (Below.refl _ _).drew hb4))
    · obtain rfl : ok = false := by rw [← HOK.out]; exact decide_eq_false fun h => h1 h.2
      have hd1 : decide (p.num < 4294967296) = false := decide_eq_false h1
      go_enter Tryd.func65, Tryd.ntmps65
      go_wp2_with (go_at_call 15; go_must (refine rkind_at p.id 3 HK.out _ _ ?_))
      go_region_held3 (fun x => x.cell? ⟨w.heap.size, 1, none⟩ = some (.int .i64 p.num)) (first | exact c1 | exact cell_later hb4 c1 | go_keep) (first | (go_at_call 74; refine rput_any X HX64.out 4 J HPW.out _ _ ?_; intro pa pc w4 hown4 hb4))
      all_goals
        go_wp2
        try go_ret2
        exact HR.out _ _ _ (owns_mono hown4 (by simp)) (below_tr HBA.out (below_tr (Below.refl _ _).drew hb4))
  · obtain rfl : ok = false := by rw [← HOK.out]; exact decide_eq_false fun h => h0 h.1
    have hd0 : decide (0 ≤ p.num) = false := decide_eq_false h0
    go_enter Tryd.func65, Tryd.ntmps65
    go_wp2_with (go_at_call 15; go_must (refine rkind_at p.id 3 HK.out _ _ ?_))
    first | (go_region_with (first | (go_at_call 74; refine rput_any X HX64.out 4 J HPW.out _ _ ?_; intro pa pc w4 hown4 hb4; have c4 := cell_later hb4 c1))) | fail
    all_goals
      go_wp2
      try go_ret2
      exact HR.out _ _ _ (owns_mono hown4 (by simp)) (below_tr HBA.out (below_tr (Below.refl _ _).drew hb4))

set_option maxRecDepth 100000 in
set_option maxHeartbeats 1600000 in
theorem rlaid_4 (d : Value) (p : Pr) (hk : kindL p.id = 4) (J : List UInt8) (ok : Bool) (hJ : rlaidL p = (J, ok)) (w : World) (h : PC w d p) (R : Ending → World → Prop)
    (hR : ∀ ad c w', w'.ownsRow w.heap.size 5 1 (.slice ad J.length c) J.length (bv J) → Below w.heap.size w w' → R (.returned (.tuple #[.slice ad J.length c, .bool ok])) w') :
    Calls Tryd.prog 65 #[.agg #[.int .i64 p.id, .int .i64 p.num, .string (str p.text), .string (str p.pair), d]] w R := by
  have HR := Lib.hid hR
  have HK := Lib.hid hk
  have HP := Lib.hid h
  have N0 : Hid ((w.alloc (Obj.cells #[.int .i64 p.id, .int .i64 p.num, .string (str p.text), .string (str p.pair), d] 43)).heap[w.heap.size]? = some (Obj.cells #[.int .i64 p.id, .int .i64 p.num, .string (str p.text), .string (str p.pair), d] 43)) := Lib.hid (heap_alloc_new w _)
  have HBA : Hid (Below w.heap.size w (w.alloc (Obj.cells #[.int .i64 p.id, .int .i64 p.num, .string (str p.text), .string (str p.pair), d] 43))) := Lib.hid ((Below.refl _ _).alloc (Nat.le_refl _) _)
  clear hR h
  obtain ⟨P, er, hP⟩ : ∃ P er, varR p.num = (P, er) := ⟨_, _, rfl⟩
  have e0 : rlaidL p = (P, decide (er = 0)) := by unfold rlaidL; simp only [hk, hP, Nat.reduceEqDiff, if_true, if_false]
  rw [e0] at hJ
  simp only [Prod.mk.injEq] at hJ
  obtain ⟨rfl, hok⟩ := hJ
  obtain rfl : ok = (er == 0) := by rw [← hok]; by_cases h : er = 0 <;> simp [h]
  have HPW : Hid (varR p.num = (P, er)) := Lib.hid hP
  clear hP e0 hk hok
  go_enter Tryd.func65, Tryd.ntmps65
  go_wp2_with (first
    | (go_at_call 15; go_must (refine rkind_at p.id 4 HK.out _ _ ?_))
    | (go_at_call 66; go_must (refine rvar_any p.num P er HPW.out _ _ ?_); intro pa pc w4 hown4 hb4))
  go_wp2
  try go_ret2
  exact HR.out _ _ _ (owns_mono hown4 (by simp)) (below_tr HBA.out hb4)

set_option maxRecDepth 100000 in
set_option maxHeartbeats 1600000 in
theorem rlaid_5 (d : Value) (p : Pr) (hk : kindL p.id = 5) (J : List UInt8) (ok : Bool) (hJ : rlaidL p = (J, ok)) (w : World) (h : PC w d p) (R : Ending → World → Prop)
    (hR : ∀ ad c w', w'.ownsRow w.heap.size 5 1 (.slice ad J.length c) J.length (bv J) → Below w.heap.size w w' → R (.returned (.tuple #[.slice ad J.length c, .bool ok])) w') :
    Calls Tryd.prog 65 #[.agg #[.int .i64 p.id, .int .i64 p.num, .string (str p.text), .string (str p.pair), d]] w R := by
  have HR := Lib.hid hR
  have HK := Lib.hid hk
  have HP := Lib.hid h
  have N0 : Hid ((w.alloc (Obj.cells #[.int .i64 p.id, .int .i64 p.num, .string (str p.text), .string (str p.pair), d] 43)).heap[w.heap.size]? = some (Obj.cells #[.int .i64 p.id, .int .i64 p.num, .string (str p.text), .string (str p.pair), d] 43)) := Lib.hid (heap_alloc_new w _)
  have HBA : Hid (Below w.heap.size w (w.alloc (Obj.cells #[.int .i64 p.id, .int .i64 p.num, .string (str p.text), .string (str p.pair), d] 43))) := Lib.hid ((Below.refl _ _).alloc (Nat.le_refl _) _)
  clear hR h
  obtain ⟨P, er, hP⟩ : ∃ P er, textL p.text = (P, er) := ⟨_, _, rfl⟩
  have e0 : rlaidL p = (P, decide (er = 0)) := by unfold rlaidL; simp only [hk, hP, Nat.reduceEqDiff, if_true, if_false]
  rw [e0] at hJ
  simp only [Prod.mk.injEq] at hJ
  obtain ⟨rfl, hok⟩ := hJ
  obtain rfl : ok = (er == 0) := by rw [← hok]; by_cases h : er = 0 <;> simp [h]
  have HPW : Hid (textL p.text = (P, er)) := Lib.hid hP
  clear hP e0 hk hok
  go_enter Tryd.func65, Tryd.ntmps65
  go_wp2_with (first
    | (go_at_call 15; go_must (refine rkind_at p.id 5 HK.out _ _ ?_))
    | (go_at_call 75; go_must (refine rtext_any p.text P er HPW.out _ (by have := HP.out.lt; omega) _ ?_); intro pa pc w4 hown4 hb4))
  go_wp2
  try go_ret2
  exact HR.out _ _ _ (owns_mono hown4 (by simp)) (below_tr HBA.out hb4)

set_option maxRecDepth 100000 in
set_option maxHeartbeats 1600000 in
theorem rlaid_6 (d : Value) (p : Pr) (hk : kindL p.id = 6) (J : List UInt8) (ok : Bool) (hJ : rlaidL p = (J, ok)) (w : World) (h : PC w d p) (R : Ending → World → Prop)
    (hR : ∀ ad c w', w'.ownsRow w.heap.size 5 1 (.slice ad J.length c) J.length (bv J) → Below w.heap.size w w' → R (.returned (.tuple #[.slice ad J.length c, .bool ok])) w') :
    Calls Tryd.prog 65 #[.agg #[.int .i64 p.id, .int .i64 p.num, .string (str p.text), .string (str p.pair), d]] w R := by
  have HR := Lib.hid hR
  have HK := Lib.hid hk
  have HP := Lib.hid h
  have N0 : Hid ((w.alloc (Obj.cells #[.int .i64 p.id, .int .i64 p.num, .string (str p.text), .string (str p.pair), d] 43)).heap[w.heap.size]? = some (Obj.cells #[.int .i64 p.id, .int .i64 p.num, .string (str p.text), .string (str p.pair), d] 43)) := Lib.hid (heap_alloc_new w _)
  have HBA : Hid (Below w.heap.size w (w.alloc (Obj.cells #[.int .i64 p.id, .int .i64 p.num, .string (str p.text), .string (str p.pair), d] 43))) := Lib.hid ((Below.refl _ _).alloc (Nat.le_refl _) _)
  clear hR h
  obtain ⟨P, er, hP⟩ : ∃ P er, dataL p.data = (P, er) := ⟨_, _, rfl⟩
  have e0 : rlaidL p = (P, decide (er = 0)) := by unfold rlaidL; simp only [hk, hP, Nat.reduceEqDiff, if_true, if_false]
  rw [e0] at hJ
  simp only [Prod.mk.injEq] at hJ
  obtain ⟨rfl, hok⟩ := hJ
  obtain rfl : ok = (er == 0) := by rw [← hok]; by_cases h : er = 0 <;> simp [h]
  have HPW : Hid (dataL p.data = (P, er)) := Lib.hid hP
  clear hP e0 hk hok
  go_enter Tryd.func65, Tryd.ntmps65
  go_wp2_with (first
    | (go_at_call 15; go_must (refine rkind_at p.id 6 HK.out _ _ ?_))
    | (go_at_call 76; go_must (refine rdata_any _ p.data P er HPW.out _ (HP.out.hd.below HBA.out) _ ?_); intro pa pc w4 hown4 hb4))
  go_wp2
  try go_ret2
  exact HR.out _ _ _ (owns_mono hown4 (by simp)) (below_tr HBA.out hb4)

set_option maxRecDepth 100000 in
set_option maxHeartbeats 1600000 in
theorem rlaid_7 (d : Value) (p : Pr) (hk : kindL p.id = 7) (J : List UInt8) (ok : Bool) (hJ : rlaidL p = (J, ok)) (w : World) (h : PC w d p) (R : Ending → World → Prop)
    (hR : ∀ ad c w', w'.ownsRow w.heap.size 5 1 (.slice ad J.length c) J.length (bv J) → Below w.heap.size w w' → R (.returned (.tuple #[.slice ad J.length c, .bool ok])) w') :
    Calls Tryd.prog 65 #[.agg #[.int .i64 p.id, .int .i64 p.num, .string (str p.text), .string (str p.pair), d]] w R := by
  have HR := Lib.hid hR
  have HK := Lib.hid hk
  have HP := Lib.hid h
  have N0 : Hid ((w.alloc (Obj.cells #[.int .i64 p.id, .int .i64 p.num, .string (str p.text), .string (str p.pair), d] 43)).heap[w.heap.size]? = some (Obj.cells #[.int .i64 p.id, .int .i64 p.num, .string (str p.text), .string (str p.pair), d] 43)) := Lib.hid (heap_alloc_new w _)
  have HBA : Hid (Below w.heap.size w (w.alloc (Obj.cells #[.int .i64 p.id, .int .i64 p.num, .string (str p.text), .string (str p.pair), d] 43))) := Lib.hid ((Below.refl _ _).alloc (Nat.le_refl _) _)
  clear hR h
  obtain ⟨P, er, hP⟩ : ∃ P er, textL p.text = (P, er) := ⟨_, _, rfl⟩
  obtain ⟨Q, es, hQ⟩ : ∃ Q es, textL p.pair = (Q, es) := ⟨_, _, rfl⟩
  have hPl := textL_len p.text
  have hQl := textL_len p.pair
  rw [hP] at hPl
  rw [hQ] at hQl
  simp only at hPl hQl
  have e0 : rlaidL p = (P ++ Q, decide (er = 0 ∧ es = 0)) := by unfold rlaidL; simp only [hk, hP, hQ, Nat.reduceEqDiff, if_true, if_false]
  rw [e0] at hJ
  simp only [Prod.mk.injEq] at hJ
  obtain ⟨hJ1, hok⟩ := hJ
  have HJ1 := Lib.hid hJ1
  have HPW := Lib.hid hP
  have HQW := Lib.hid hQ
  clear hP hQ e0 hk hJ1
  by_cases her : er = 0
  · subst her
    obtain rfl : ok = (es == 0) := by rw [← hok]; by_cases h : es = 0 <;> simp [h]
    clear hok
    go_enter Tryd.func65, Tryd.ntmps65
    go_wp2_with (first
      | (go_at_call 15; go_must (refine rkind_at p.id 7 HK.out _ _ ?_))
      | (have n0 := N0; go_at_call 75; go_must (refine rtext_any p.text P 0 HPW.out _ (by have := HP.out.lt; omega) _ ?_); intro pa pc w4 hown4 hb4; have hx4 := below_tr HBA.out hb4; have nr := row_later2 n0.out hb4; have ae0 := cell_of_row _ w.heap.size 0 _ _ _ nr; have ae1 := cell_of_row _ w.heap.size 1 _ _ _ nr; have ae2 := cell_of_row _ w.heap.size 2 _ _ _ nr; have ae3 := cell_of_row _ w.heap.size 3 _ _ _ nr; have ae4 := cell_of_row _ w.heap.size 4 _ _ _ nr; have af0 := frozen_block nr 0; have af1 := frozen_block nr 1; have af2 := frozen_block nr 2; have af3 := frozen_block nr 3; have af4 := frozen_block nr 4; have HO4 := Lib.hid (owns_mono (base' := w.heap.size) hown4 (by simp)); clear hown4 hb4 N0 n0 nr)
      | (go_at_call 75; go_must (refine rtext_any p.pair Q es HQW.out _ (by have := HP.out.lp; omega) _ ?_); intro qa qc w6 hown6 hb6; have hx6 := below_tr hx4 hb6; have hO6 := owns_below HO4.out hb6; obtain ⟨s1, s2, se, hrd1, _, _, hnil1⟩ := (bs_of_owns hown6).2; simp only [Value.slice.injEq] at se; obtain ⟨rfl, -, rfl⟩ := se)
      | (at_builtin; go_must (refine wpList_app (by rfl) (.tmp 106) (.tmp 107) 22 (by rfl) w.heap.size 5 (.int .u8 0) 1 1 Tryd.underlying22 Tryd.info5 rfl (by decide) _ _ _ _ rfl hO6 _ _ _ _ rfl hrd1 (bv_oneCell _) hnil1 (by unfold maxLen; omega) (by omega) hx6.size ?_); intro ad7 c7 w7 hown7 hg7; have hx7 := below_app hx6 hg7 hx6.size hO6; have hl7 : P.length + Q.length = J.length := (by rw [← HJ1.out, List.length_append]); have hO7 : w7.ownsRow w.heap.size 5 1 (.slice ad7 J.length c7) J.length (bv J) := (by rw [← bv_append, hl7, HJ1.out] at hown7; exact hown7); have HL7 := Lib.hid hl7; clear hown7 hg7 hl7))
    try go_ret2
    have h9 := HR.out _ _ _ hO7 hx7
    rw [← HL7.out] at h9
    exact h9
  · obtain rfl : ok = false := by rw [← hok]; exact decide_eq_false fun h => her h.1
    have herb : (er == 0) = false := by simp [her]
    clear hok
    go_enter Tryd.func65, Tryd.ntmps65
    go_wp2_with (first
      | (go_at_call 15; go_must (refine rkind_at p.id 7 HK.out _ _ ?_))
      | (have n0 := N0; go_at_call 75; go_must (refine rtext_any p.text P er HPW.out _ (by have := HP.out.lt; omega) _ ?_); intro pa pc w4 hown4 hb4; have hx4 := below_tr HBA.out hb4; have nr := row_later2 n0.out hb4; have ae0 := cell_of_row _ w.heap.size 0 _ _ _ nr; have ae1 := cell_of_row _ w.heap.size 1 _ _ _ nr; have ae2 := cell_of_row _ w.heap.size 2 _ _ _ nr; have ae3 := cell_of_row _ w.heap.size 3 _ _ _ nr; have ae4 := cell_of_row _ w.heap.size 4 _ _ _ nr; have af0 := frozen_block nr 0; have af1 := frozen_block nr 1; have af2 := frozen_block nr 2; have af3 := frozen_block nr 3; have af4 := frozen_block nr 4; have HO4 := Lib.hid (owns_mono (base' := w.heap.size) hown4 (by simp)); clear hown4 hb4 N0 n0 nr)
      | (go_at_call 75; go_must (refine rtext_any p.pair Q es HQW.out _ (by have := HP.out.lp; omega) _ ?_); intro qa qc w6 hown6 hb6; have hx6 := below_tr hx4 hb6; have hO6 := owns_below HO4.out hb6; obtain ⟨s1, s2, se, hrd1, _, _, hnil1⟩ := (bs_of_owns hown6).2; simp only [Value.slice.injEq] at se; obtain ⟨rfl, -, rfl⟩ := se)
      | (at_builtin; go_must (refine wpList_app (by rfl) (.tmp 106) (.tmp 107) 22 (by rfl) w.heap.size 5 (.int .u8 0) 1 1 Tryd.underlying22 Tryd.info5 rfl (by decide) _ _ _ _ rfl hO6 _ _ _ _ rfl hrd1 (bv_oneCell _) hnil1 (by unfold maxLen; omega) (by omega) hx6.size ?_); intro ad7 c7 w7 hown7 hg7; have hx7 := below_app hx6 hg7 hx6.size hO6; have hl7 : P.length + Q.length = J.length := (by rw [← HJ1.out, List.length_append]); have hO7 : w7.ownsRow w.heap.size 5 1 (.slice ad7 J.length c7) J.length (bv J) := (by rw [← bv_append, hl7, HJ1.out] at hown7; exact hown7); have HL7 := Lib.hid hl7; clear hown7 hg7 hl7))
    try go_ret2
    have h9 := HR.out _ _ _ hO7 hx7
    rw [← HL7.out] at h9
    exact h9

set_option maxRecDepth 100000 in
set_option maxHeartbeats 1600000 in
theorem rlaid_0 (d : Value) (p : Pr) (hk : kindL p.id = 0) (J : List UInt8) (ok : Bool) (hJ : rlaidL p = (J, ok)) (w : World) (h : PC w d p) (R : Ending → World → Prop)
    (hR : ∀ ad c w', w'.ownsRow w.heap.size 5 1 (.slice ad J.length c) J.length (bv J) → Below w.heap.size w w' → R (.returned (.tuple #[.slice ad J.length c, .bool ok])) w') :
    Calls Tryd.prog 65 #[.agg #[.int .i64 p.id, .int .i64 p.num, .string (str p.text), .string (str p.pair), d]] w R := by
  have HR := Lib.hid hR
  have HK := Lib.hid hk
  have HP := Lib.hid h
  have N0 : Hid ((w.alloc (Obj.cells #[.int .i64 p.id, .int .i64 p.num, .string (str p.text), .string (str p.pair), d] 43)).heap[w.heap.size]? = some (Obj.cells #[.int .i64 p.id, .int .i64 p.num, .string (str p.text), .string (str p.pair), d] 43)) := Lib.hid (heap_alloc_new w _)
  have HBA : Hid (Below w.heap.size w (w.alloc (Obj.cells #[.int .i64 p.id, .int .i64 p.num, .string (str p.text), .string (str p.pair), d] 43))) := Lib.hid ((Below.refl _ _).alloc (Nat.le_refl _) _)
  clear hR h
  have e0 : rlaidL p = ([], false) := by unfold rlaidL; simp only [hk, Nat.reduceEqDiff, if_false]
  rw [e0] at hJ
  simp only [Prod.mk.injEq] at hJ
  obtain ⟨rfl, rfl⟩ := hJ
  clear e0 hk
  go_enter Tryd.func65, Tryd.ntmps65
  go_wp2_with (go_at_call 15; go_must (refine rkind_at p.id 0 HK.out _ _ ?_))
  try go_ret2
  exact HR.out none 0 _ (World.ownsRow_nil _ _ _ _) HBA.out

theorem rlaid_any (d : Value) (p : Pr) (J : List UInt8) (ok : Bool) (hJ : rlaidL p = (J, ok)) (w : World) (h : PC w d p) (R : Ending → World → Prop)
    (hR : ∀ ad c w', w'.ownsRow w.heap.size 5 1 (.slice ad J.length c) J.length (bv J) → Below w.heap.size w w' → R (.returned (.tuple #[.slice ad J.length c, .bool ok])) w') :
    Calls Tryd.prog 65 #[.agg #[.int .i64 p.id, .int .i64 p.num, .string (str p.text), .string (str p.pair), d]] w R := by
  rcases kind_cases p.id with hk | hk | hk | hk | hk | hk | hk | hk
  · exact rlaid_0 d p hk J ok hJ w h R hR
  · exact rlaid_1 d p hk J ok hJ w h R hR
  · exact rlaid_2 d p hk J ok hJ w h R hR
  · exact rlaid_3 d p hk J ok hJ w h R hR
  · exact rlaid_4 d p hk J ok hJ w h R hR
  · exact rlaid_5 d p hk J ok hJ w h R hR
  · exact rlaid_6 d p hk J ok hJ w h R hR
  · exact rlaid_7 d p hk J ok hJ w h R hR
end Go.Proofs.YtpodhidabhnnnaaDoor

/- The document's Bytes, walked. -/
namespace Go.Proofs.YtpodhidabhnnnaaDoor
open Go.RowKit

theorem okP_false {p : Pr} (h : okP p = false) : p.id < 1 ∨ 127 < p.id ∨ (1 ≤ p.id ∧ p.id ≤ 127 ∧ (rlaidL p).2 = false) := by
  unfold okP at h
  by_cases h1 : 1 ≤ p.id ∧ p.id ≤ 127
  · rw [decide_eq_true h1, Bool.true_and] at h
    exact .inr (.inr ⟨h1.1, h1.2, h⟩)
  · omega
theorem okP_true {p : Pr} (h : okP p = true) : 1 ≤ p.id ∧ p.id ≤ 127 ∧ rlaidL p = (valB p, true) := by
  unfold okP at h
  rw [Bool.and_eq_true, decide_eq_true_eq] at h
  refine ⟨h.1.1, h.1.2, ?_⟩
  rw [← rlaid_val p, ← h.2]
theorem own_none3 {B e K : Nat} (X : World) (hK : K = X.heap.size) (hB : B ≤ K) : (X.alloc (.cells #[] e)).ownsRow B e 1 (.slice (some ⟨K, 0, none⟩) 0 0) 0 (bv []) := by
  subst hK
  exact World.ownsRow_made X #[] 0 hB (by unfold maxLen; omega) (by simp)

theorem own_three {w : World} {B n c : Nat} {ad : Option Addr} {a p : List UInt8} {x : UInt8} (h : w.ownsRow B 5 1 (.slice ad n c) n (bv a ++ bv [x] ++ bv p)) : w.ownsRow B 5 1 (.slice ad (a ++ [x] ++ p).length c) (a ++ [x] ++ p).length (bv (a ++ [x] ++ p)) := by
  have e1 : bv a ++ bv [x] ++ bv p = bv (a ++ [x] ++ p) := by simp [bv]
  rw [e1] at h
  have h2 := (bs_of_owns h).1
  rw [h2] at h
  exact h
theorem rd_byte {w : World} {e K : Nat} (x : UInt8) (i : Int) (hi : (x.toNat : Int) = i) (hK : K = w.heap.size) : Rd (w.alloc (.cells #[.int .u8 i] e)) 1 (some ⟨K, 0, none⟩) 1 (bv [x]) := by
  subst hK
  subst hi
  exact rd_lit w #[.int .u8 (x.toNat : Int)] e 1 1 rfl

set_option maxRecDepth 100000 in
set_option maxHeartbeats 2000000 in
theorem rbytes_any (v : Value) (l : List Pr) (J : List UInt8) (ok : Bool) (h : rbytesL l = (J, ok)) (hbl : (l.flatMap laidL).length ≤ 90000000) (w : World) (hv : Ps w v l) (R : Ending → World → Prop)
    (hR : ∀ ad cc w', w'.ownsRow w.heap.size 5 1 (.slice ad J.length cc) J.length (bv J) → Below w.heap.size w w' → R (.returned (.tuple #[.slice ad J.length cc, .bool ok])) w') :
    Calls Tryd.prog 50 #[v] w R := by
  have HR := Lib.hid hR
  have HV := Lib.hid hv
  have HH := Lib.hid h
  have HBL := Lib.hid hbl
  obtain ⟨va, vc, rfl, _, hvm, _⟩ := _root_.id hv
  have hbad : l.all okP = false → (J = [] ∧ ok = false) := by
    intro ha
    unfold rbytesL at h
    rw [if_neg (by rw [ha]; simp)] at h
    simp only [Prod.mk.injEq] at h
    exact ⟨h.1.symm, h.2.symm⟩
  have HBAD := Lib.hid hbad
  clear hR hv h hbl hbad
  go_enter Tryd.func50, Tryd.ntmps50
  go_wp2
  go_loopg [4, 5, 6] l.length (fun gn L i _ wr => ∃ (k : Nat) (B : List UInt8) (ba : Option Addr) (bc : Nat), k ≤ l.length ∧ gn = l.length - k ∧ i = .int .i64 k ∧ L = .slice ba B.length bc ∧ Hid ((l.take k).flatMap laidL = B) ∧ Hid ((l.take k).all okP = true) ∧ B.length ≤ 90000000 ∧ Hid (wr.ownsRow w.heap.size 5 1 (.slice ba B.length bc) B.length (bv B)) ∧ Below w.heap.size w wr)
  case atStart => exact ⟨0, [], none, 0, Nat.zero_le _, by omega, rfl, rfl, Lib.hid rfl, Lib.hid rfl, by simp, Lib.hid (World.ownsRow_nil _ _ _ _), Below.refl _ _⟩
  case round =>
    obtain ⟨k, B, ba, bc, hk, rfl, rfl, rfl, HB, HALL, hB9, HOWN, hb⟩ := hrel
    obtain ⟨wo, rfl⟩ : ∃ y, y = wr := ⟨_, rfl⟩
    by_cases hlt : k < l.length
    · have hkk : (k : Int) < (l.length : Int) := by omega
      obtain ⟨va', vc', ee, _, _, _, v4⟩ := HV.out
      simp only [Value.slice.injEq] at ee
      obtain ⟨rfl, -, rfl⟩ := ee
      obtain ⟨vb, vo, rfl, v5⟩ := v4 (by omega)
      obtain ⟨d0, hp5, hec⟩ := v5 k hlt
      have HT1 : Hid (l.take (k + 1) = l.take k ++ [l[k]]) := Lib.hid (List.take_succ_eq_append_getElem hlt)
      have HMEM : Hid (l[k] ∈ l) := Lib.hid (List.getElem_mem hlt)
      obtain ⟨y, hy⟩ : ∃ y, l[k] = y := ⟨_, rfl⟩
      rw [hy] at hp5 hec HT1 HMEM
      obtain ⟨p0, p1, p2, p3, p4⟩ := hp5.below hb
      obtain ⟨d1, d3, rfl, _⟩ := _root_.id hec.hd
      have HEC := Lib.hid hec
      have N0 : Hid ((wo.alloc (Obj.cells #[.int .i64 y.id, .int .i64 y.num, .string (str y.text), .string (str y.pair), .slice d1 y.data.length d3] 43)).heap[wo.heap.size]? = some (Obj.cells #[.int .i64 y.id, .int .i64 y.num, .string (str y.text), .string (str y.pair), .slice d1 y.data.length d3] 43)) := Lib.hid (heap_alloc_new wo _)
      have hxA := hb.alloc hb.size (Obj.cells #[.int .i64 y.id, .int .i64 y.num, .string (str y.text), .string (str y.pair), .slice d1 y.data.length d3] 43)
      have HOA := Lib.hid (World.ownsRow.alloc HOWN.out (Obj.cells #[.int .i64 y.id, .int .i64 y.num, .string (str y.text), .string (str y.pair), .slice d1 y.data.length d3] 43))
      clear v4 v5 hy hec hp5
      obtain ⟨q, hq⟩ : ∃ q, okP y = q := ⟨_, rfl⟩
      cases q with
      | false =>
        have hall : l.all okP = false := by
          cases ha : l.all okP with
          | false => rfl
          | true => rw [List.all_eq_true] at ha; have := ha y HMEM.out; rw [hq] at this; cases this
        obtain ⟨rfl, rfl⟩ := HBAD.out hall
        clear hall
        rcases okP_false hq with h1 | h1 | ⟨h1, h2, h3⟩
        · clear hq
          go_wp2
          try go_ret2
          exact HR.out none 0 _ (World.ownsRow_nil _ _ _ _) hxA
        · have h2 : ¬ y.id < 1 := by omega
          clear hq
          go_wp2
          try go_ret2
          exact HR.out none 0 _ (World.ownsRow_nil _ _ _ _) hxA
        · have g1 : ¬ y.id < 1 := by omega
          have g2 : ¬ 127 < y.id := by omega
          obtain ⟨⟨P, z⟩, hP⟩ : ∃ r, rlaidL y = r := ⟨_, rfl⟩
          rw [hP] at h3
          simp only at h3
          subst h3
          have HP := Lib.hid hP
          clear hq hP
          go_wp2_with (first
            | (at_builtin; have n0 := N0; have hrdb := rd_byte (w := wo.alloc (Obj.cells #[.int .i64 y.id, .int .i64 y.num, .string (str y.text), .string (str y.pair), .slice d1 y.data.length d3] 43)) (e := 5) (K := wo.heap.size + 1) (b8 y.id) y.id (by rw [b8_toNat]; omega) (by simp); have hoB := World.ownsRow.alloc HOA.out (Obj.cells #[.int .u8 y.id] 5); go_must (refine wpList_app (by rfl) (.tmp 29) (.tmp 33) 22 (by rfl) w.heap.size 5 (.int .u8 0) 1 1 Tryd.underlying22 Tryd.info5 rfl (by decide) _ _ _ _ rfl hoB _ _ _ _ rfl hrdb (bv_oneCell _) (fun h => by cases h) (by unfold maxLen; omega) (by omega) (Nat.le_trans hxA.size (by simp)) ?_); intro ad6 c6 w6 hown6 hg6; have n6 := block_grown hg6 (block_alloc (o' := Obj.cells #[.int .u8 y.id] 5) n0.out) (own_block_ne (block_alloc (o' := Obj.cells #[.int .u8 y.id] 5) n0.out) hoB (by decide)); have ae0 := cell_of_row _ wo.heap.size 0 _ _ _ n6; have ae1 := cell_of_row _ wo.heap.size 1 _ _ _ n6; have ae2 := cell_of_row _ wo.heap.size 2 _ _ _ n6; have ae3 := cell_of_row _ wo.heap.size 3 _ _ _ n6; have ae4 := cell_of_row _ wo.heap.size 4 _ _ _ n6; have af0 := frozen_block n6 0; have af1 := frozen_block n6 1; have af2 := frozen_block n6 2; have af3 := frozen_block n6 3; have af4 := frozen_block n6 4; have hx6 := below_app (hxA.alloc hxA.size (Obj.cells #[.int .u8 y.id] 5)) hg6 (Nat.le_trans hxA.size (by simp)) hoB; have HO6 := Lib.hid hown6; clear hown6 hg6 hoB hrdb n6 n0 N0)
            | (go_at_call 65; go_must (refine rlaid_any _ y P false HP.out _ (HEC.out.below hx6) _ ?_); intro pa pc w7 hown7 hb7; have hx7 := below_then hx6 hb7 hx6.size))
          try go_ret2
          exact HR.out none 0 _ (World.ownsRow_nil _ _ _ _) hx7
      | true =>
        obtain ⟨h1, h2, hP⟩ := okP_true hq
        have g1 : ¬ y.id < 1 := by omega
        have g2 : ¬ 127 < y.id := by omega
        obtain ⟨P, hPP⟩ : ∃ P, valB y = P := ⟨_, rfl⟩
        rw [hPP] at hP
        have HP := Lib.hid hP
        have hly : laidL y = b8 y.id :: P := by rw [okP_laid hq, hPP]
        have hB1 : (l.take (k + 1)).flatMap laidL = B ++ [b8 y.id] ++ P := by rw [HT1.out, List.flatMap_append, HB.out, List.flatMap_singleton, hly]; simp
        have hall1 : (l.take (k + 1)).all okP = true := by rw [HT1.out, List.all_append, HALL.out]; simp [hq]
        have hlen1 : (B ++ [b8 y.id] ++ P).length ≤ 90000000 := by
          rw [← hB1]
          refine Nat.le_trans ?_ HBL.out
          conv => rhs; rw [← List.take_append_drop (k + 1) l, List.flatMap_append, List.length_append]
          omega
        have HLEN := Lib.hid hlen1
        simp only [List.length_append, List.length_singleton] at hlen1
        have HB1 := Lib.hid hB1
        have HALL1 := Lib.hid hall1
        clear hq hPP hP hly hB1 hall1
        go_wp2_with (first
          | (at_builtin; have n0 := N0; have hrdb := rd_byte (w := wo.alloc (Obj.cells #[.int .i64 y.id, .int .i64 y.num, .string (str y.text), .string (str y.pair), .slice d1 y.data.length d3] 43)) (e := 5) (K := wo.heap.size + 1) (b8 y.id) y.id (by rw [b8_toNat]; omega) (by simp); have hoB := World.ownsRow.alloc HOA.out (Obj.cells #[.int .u8 y.id] 5); go_must (refine wpList_app (by rfl) (.tmp 29) (.tmp 33) 22 (by rfl) w.heap.size 5 (.int .u8 0) 1 1 Tryd.underlying22 Tryd.info5 rfl (by decide) _ _ _ _ rfl hoB _ _ _ _ rfl hrdb (bv_oneCell _) (fun h => by cases h) (by unfold maxLen; omega) (by omega) (Nat.le_trans hxA.size (by simp)) ?_); intro ad6 c6 w6 hown6 hg6; have n6 := block_grown hg6 (block_alloc (o' := Obj.cells #[.int .u8 y.id] 5) n0.out) (own_block_ne (block_alloc (o' := Obj.cells #[.int .u8 y.id] 5) n0.out) hoB (by decide)); have ae0 := cell_of_row _ wo.heap.size 0 _ _ _ n6; have ae1 := cell_of_row _ wo.heap.size 1 _ _ _ n6; have ae2 := cell_of_row _ wo.heap.size 2 _ _ _ n6; have ae3 := cell_of_row _ wo.heap.size 3 _ _ _ n6; have ae4 := cell_of_row _ wo.heap.size 4 _ _ _ n6; have af0 := frozen_block n6 0; have af1 := frozen_block n6 1; have af2 := frozen_block n6 2; have af3 := frozen_block n6 3; have af4 := frozen_block n6 4; have hx6 := below_app (hxA.alloc hxA.size (Obj.cells #[.int .u8 y.id] 5)) hg6 (Nat.le_trans hxA.size (by simp)) hoB; have HO6 := Lib.hid hown6; clear hown6 hg6 hoB hrdb n6 n0 N0)
          | (go_at_call 65; go_must (refine rlaid_any _ y P true HP.out _ (HEC.out.below hx6) _ ?_); intro pa pc w7 hown7 hb7; have hx7 := below_then hx6 hb7 hx6.size; have hO7 := owns_below HO6.out hb7; obtain ⟨s3, s4, se, hrd7, _, _, hnil7⟩ := (bs_of_owns hown7).2; simp only [Value.slice.injEq] at se; obtain ⟨rfl, -, rfl⟩ := se; clear HO6 hown7 hb7)
          | (at_builtin; have ho7 := hO7; go_must (refine wpList_app (by rfl) (.tmp 42) (.tmp 43) 22 (by rfl) w.heap.size 5 (.int .u8 0) 1 1 Tryd.underlying22 Tryd.info5 rfl (by decide) _ _ _ _ rfl ho7 _ _ _ _ rfl hrd7 (bv_oneCell _) hnil7 (by unfold maxLen; omega) (by omega) hx7.size ?_); intro ad8 c8 w8 hown8 hg8; have hx8 := below_app hx7 hg8 hx7.size hO7; have hO8 : w8.ownsRow w.heap.size 5 1 (.slice ad8 (B ++ [b8 y.id] ++ P).length c8) (B ++ [b8 y.id] ++ P).length (bv (B ++ [b8 y.id] ++ P)) := own_three hown8; have HO8 := Lib.hid hO8; clear hown8 hg8 hO8 hO7 ho7 hrd7 hnil7 hx7))
        go_roundg (l.length - (k + 1))
        case measure => omega
        case rel => exact ⟨k + 1, B ++ [b8 y.id] ++ P, ad8, c8, by omega, rfl, by go_num, by (simp; omega), HB1, HALL1, HLEN.out, HO8, hx8⟩
    · have hkk : ¬ (k : Int) < (l.length : Int) := by omega
      have hfull : l.flatMap laidL = B := by have := HB.out; rwa [List.take_of_length_le (by omega)] at this
      have hall : l.all okP = true := by have := HALL.out; rwa [List.take_of_length_le (by omega)] at this
      have hh := HH.out
      unfold rbytesL at hh
      rw [if_pos hall, hfull] at hh
      obtain ⟨V, er, hV⟩ : ∃ V er, varR (B.length : Int) = (V, er) := ⟨_, _, rfl⟩
      rw [hV] at hh
      simp only [Prod.mk.injEq] at hh
      obtain ⟨hJ, hok⟩ := hh
      obtain rfl : ok = (er == 0) := by rw [← hok]; by_cases h : er = 0 <;> simp [h]
      have HVV := Lib.hid hV
      have hvl : V.length ≤ 4 := by have := varR_len (B.length : Int); rw [hV] at this; exact this
      have HJ := Lib.hid hJ
      clear HH HBAD hfull hall hV hok hJ
      go_wp2_with (first
        | (go_at_call 66; go_must (refine rvar_any _ V er HVV.out _ _ ?_); intro va1 vc1 w5 hown5 hb5; have hx5 := below_then hb hb5 hb.size; have HO5 := Lib.hid (owns_below HOWN.out hb5); have hlit := own_none3 (B := w5.heap.size) (e := 5) w5 rfl (Nat.le_refl _); have hyA : Below w5.heap.size w5 (w5.alloc (Obj.cells #[] 5)) := (Below.refl w5.heap.size w5).alloc (Nat.le_refl _) _; obtain ⟨s1, s2, se, hrd1, _, _, hnil1⟩ := (bs_of_owns hown5).2.below hyA; simp only [Value.slice.injEq] at se; obtain ⟨rfl, -, rfl⟩ := se; clear hown5 hb5)
        | (at_builtin; have hlit' := hlit; go_must (refine wpList_app (by rfl) (.tmp 51) (.tmp 52) 22 (by rfl) w5.heap.size 5 (.int .u8 0) 1 1 Tryd.underlying22 Tryd.info5 rfl (by decide) _ _ _ _ rfl hlit' _ _ _ _ rfl hrd1 (bv_oneCell _) hnil1 (by unfold maxLen; omega) (by omega) (by simp) ?_); intro ad7 c7 w7 hown7 hg7; rw [Nat.zero_add] at hown7; have hy7 := below_app hyA hg7 (by simp) hlit; obtain ⟨s3, s4, se, hrd2, _, _, hnil2⟩ := (bs_of_owns HO5.out).2.below hy7; simp only [Value.slice.injEq] at se; obtain ⟨rfl, -, rfl⟩ := se; clear hlit hlit' hrd1 hnil1 hg7)
        | (at_builtin; have hown7' := hown7; go_must (refine wpList_app (by rfl) (.tmp 53) (.tmp 54) 22 (by rfl) w5.heap.size 5 (.int .u8 0) 1 1 Tryd.underlying22 Tryd.info5 rfl (by decide) _ _ _ _ rfl hown7' _ _ _ _ rfl hrd2 (bv_oneCell _) hnil2 (by unfold maxLen; omega) (by omega) hy7.size ?_); intro ad8 c8 w8 hown8 hg8; have hy8 := below_app hy7 hg8 hy7.size hown7; have hx8 := below_then hx5 hy8 hx5.size; have hl8 : V.length + B.length = J.length := (by rw [← HJ.out, List.length_append]); have hO8 : w8.ownsRow w.heap.size 5 1 (.slice ad8 J.length c8) J.length (bv J) := (by have e1 : bv [] ++ bv V ++ bv B = bv J := (by rw [← HJ.out]; simp [bv]); rw [e1, hl8] at hown8; exact owns_mono hown8 hx5.size); have HL8 := Lib.hid hl8; clear hown8 hg8 hl8))
      try go_ret2
      have h9 := HR.out _ _ _ hO8 hx8
      rw [← HL8.out] at h9
      exact h9
end Go.Proofs.YtpodhidabhnnnaaDoor

/- The document's Lay, walked. -/
namespace Go.Proofs.YtpodhidabhnnnaaDoor
open Go.RowKit

theorem ref_pbs {wh : Int} {b : List UInt8} {m : List Pr} {used : Int} {d : Nat} (h : readL wh b = (m, used, d)) : ∀ p ∈ m, PB p := by
  by_cases hd : d = 0
  · subst hd
    obtain ⟨_, _, _, _, _, _, _, _, _, h8, _⟩ := readL_ok h
    exact fun p hp => by
      obtain ⟨g1, _, _, g4, g5⟩ := h8 p hp
      exact g1.pb g4 g5
  · have hm : m = [] := by
      unfold readL at h
      split at h
      · simp only [Prod.mk.injEq] at h
        exact h.1.symm
      · split at h
        · simp only [Prod.mk.injEq] at h
          exact h.1.symm
        · simp only [Prod.mk.injEq] at h
          omega
    subst hm
    exact fun p hp => by cases hp

theorem rbytes_len {l : List Pr} {J : List UInt8} {ok : Bool} (h : rbytesL l = (J, ok)) : J.length ≤ (l.flatMap laidL).length + 4 := by
  unfold rbytesL at h
  split at h
  · simp only [Prod.mk.injEq] at h
    rw [← h.1, List.length_append]
    have := varR_len ((l.flatMap laidL).length : Int)
    omega
  · simp only [Prod.mk.injEq] at h
    rw [← h.1]
    simp

set_option maxRecDepth 100000 in
set_option maxHeartbeats 2000000 in
theorem rlay_any (wh : Int) (v : Value) (l : List Pr) (x : List UInt8) (c : Nat) (h : layL wh l = (x, c)) (hbl : (l.flatMap laidL).length ≤ 90000000) (w : World) (hv : Ps w v l) (hT : Tabs w) (R : Ending → World → Prop)
    (hR : ∀ ad cc w', w'.ownsRow w.heap.size 5 1 (.slice ad x.length cc) x.length (bv x) → Below w.heap.size w w' → R (.returned (.tuple #[.slice ad x.length cc, .int .i64 c])) w') :
    Calls Tryd.prog 27 #[.int .i64 wh, v] w R := by
  have HR := Lib.hid hR
  have HV := Lib.hid hv
  have HT := Lib.hid hT
  have HBL := Lib.hid hbl
  obtain ⟨va, vc, rfl, _, hvm, _⟩ := _root_.id hv
  rw [← rlay_eq] at h
  unfold rlayL at h
  obtain ⟨⟨J, ok⟩, hJ⟩ : ∃ r, rbytesL l = r := ⟨_, rfl⟩
  have hJl := rbytes_len hJ
  rw [hJ] at h
  simp only at h
  have HJ := Lib.hid hJ
  have hJl2 : J.length ≤ 90000004 := by omega
  clear hR hv hT hbl hJ hJl
  cases ok with
  | false =>
    rw [if_pos rfl] at h
    simp only [Prod.mk.injEq] at h
    obtain ⟨rfl, rfl⟩ := h
    go_enter Tryd.func27, Tryd.ntmps27
    go_wp2_with (go_at_call 50; go_must (refine rbytes_any _ l J false HJ.out HBL.out _ HV.out _ ?_); intro ja jc w1 hown1 hx1)
    try go_ret2
    exact HR.out none 0 _ (World.ownsRow_nil _ _ _ _) hx1
  | true =>
    rw [if_neg (by simp)] at h
    obtain ⟨⟨m, used, rc⟩, hrd⟩ : ∃ r, readL wh J = r := ⟨_, rfl⟩
    rw [hrd] at h
    have HRD := Lib.hid hrd
    have HPB := Lib.hid (ref_pbs hrd)
    clear hrd
    by_cases hrc : rc = 0
    · subst hrc
      by_cases hus : used = (J.length : Int)
      · subst hus
        obtain ⟨sr, hsr⟩ : ∃ sr, sameR l m = sr := ⟨_, rfl⟩
        have HSR := Lib.hid hsr
        cases sr with
        | true =>
          have hml : l = m := of_decide_eq_true hsr
          rw [if_pos (by rw [hml])] at h
          simp only [Prod.mk.injEq] at h
          obtain ⟨rfl, rfl⟩ := h
          clear hsr hml
          go_enter Tryd.func27, Tryd.ntmps27
          go_wp2_with (first
            | (go_at_call 50; go_must (refine rbytes_any _ l J true HJ.out HBL.out _ HV.out _ ?_); intro ja jc w1 hown1 hx1; have HO1 := Lib.hid hown1; clear hown1)
            | (go_at_call 11; go_must (refine rread_any wh _ J m _ 0 HRD.out (by omega) _ (bs_of_owns HO1.out).2 (HT.out.below hx1) _ ?_); intro ma mc w2 hps2 hb2; have hx2 := below_then hx1 hb2 hx1.size; have HO2 := Lib.hid (owns_below HO1.out hb2); have HPS2 := Lib.hid (hps2.ps HPB.out); clear hps2 hb2)
            | (go_at_call 12; go_must (refine rsame_any _ _ l m true HSR.out _ (HV.out.below hx2) HPS2.out _ ?_); intro w3 hb3; have hx3 := below_then hx2 hb3 hx2.size; have HO3 := Lib.hid (owns_below HO2.out hb3)))
          try go_ret2
          exact HR.out _ _ _ HO3.out hx3
        | false =>
          have hml : l ≠ m := of_decide_eq_false hsr
          rw [if_neg (by simp [Ne.symm hml])] at h
          simp only [Prod.mk.injEq] at h
          obtain ⟨rfl, rfl⟩ := h
          clear hsr hml
          go_enter Tryd.func27, Tryd.ntmps27
          go_wp2_with (first
            | (go_at_call 50; go_must (refine rbytes_any _ l J true HJ.out HBL.out _ HV.out _ ?_); intro ja jc w1 hown1 hx1; have HO1 := Lib.hid hown1; clear hown1)
            | (go_at_call 11; go_must (refine rread_any wh _ J m _ 0 HRD.out (by omega) _ (bs_of_owns HO1.out).2 (HT.out.below hx1) _ ?_); intro ma mc w2 hps2 hb2; have hx2 := below_then hx1 hb2 hx1.size; have HPS2 := Lib.hid (hps2.ps HPB.out); clear hps2 hb2)
            | (go_at_call 12; go_must (refine rsame_any _ _ l m false HSR.out _ (HV.out.below hx2) HPS2.out _ ?_); intro w3 hb3; have hx3 := below_then hx2 hb3 hx2.size))
          try go_ret2
          exact HR.out none 0 _ (World.ownsRow_nil _ _ _ _) hx3
      · have hne : (used != (J.length : Int)) = true := by simp [hus]
        rw [if_neg (by simp [hus])] at h
        simp only [Prod.mk.injEq] at h
        obtain ⟨rfl, rfl⟩ := h
        go_enter Tryd.func27, Tryd.ntmps27
        go_wp2_with (first
          | (go_at_call 50; go_must (refine rbytes_any _ l J true HJ.out HBL.out _ HV.out _ ?_); intro ja jc w1 hown1 hx1; have HO1 := Lib.hid hown1; clear hown1)
          | (go_at_call 11; go_must (refine rread_any wh _ J m used 0 HRD.out (by omega) _ (bs_of_owns HO1.out).2 (HT.out.below hx1) _ ?_); intro ma mc w2 hps2 hb2; have hx2 := below_then hx1 hb2 hx1.size; clear hps2 hb2))
        try go_ret2
        exact HR.out none 0 _ (World.ownsRow_nil _ _ _ _) hx2
    · have hrci : ¬ (rc : Int) = 0 := by omega
      rw [if_neg (by simp [hrc])] at h
      simp only [Prod.mk.injEq] at h
      obtain ⟨rfl, rfl⟩ := h
      go_enter Tryd.func27, Tryd.ntmps27
      go_wp2_with (first
        | (go_at_call 50; go_must (refine rbytes_any _ l J true HJ.out HBL.out _ HV.out _ ?_); intro ja jc w1 hown1 hx1; have HO1 := Lib.hid hown1; clear hown1)
        | (go_at_call 11; go_must (refine rread_any wh _ J m used rc HRD.out (by omega) _ (bs_of_owns HO1.out).2 (HT.out.below hx1) _ ?_); intro ma mc w2 hps2 hb2; have hx2 := below_then hx1 hb2 hx1.size; clear hps2 hb2))
      try go_ret2
      exact HR.out none 0 _ (World.ownsRow_nil _ _ _ _) hx2
end Go.Proofs.YtpodhidabhnnnaaDoor

namespace Go.Proofs.YtpodhidabhnnnaaDoor
open Go.RowKit

theorem lays_len {wh : Int} {l : List Pr} {x : List UInt8} {c : Nat} (h : layL wh l = (x, c)) : x.length ≤ (l.flatMap laidL).length + 4 := by
  by_cases hc : c = 0
  · subst hc
    obtain ⟨n, hn, h2, h3, _⟩ := layL_ok h
    rw [h3, List.length_append]
    have : (varL n).length ≤ 4 := (varF_length 3 n).2
    omega
  · obtain ⟨rfl, _⟩ := layL_bad h hc
    simp
theorem zeroP_pb : PB zeroP := ⟨by decide, by decide, by decide, by decide, by decide, by decide, by decide⟩
theorem findL_pb {id : Int} {l : List Pr} (h : ∀ p ∈ l, PB p) : PB ((findL id l).getD zeroP) := by
  unfold findL
  cases hf : l.find? fun p => decide (p.id = id) with
  | none => exact zeroP_pb
  | some p => exact h p (List.mem_of_find?_eq_some hf)
theorem PB.pc {p : Pr} (h : PB p) {w : World} {d : Value} (hd : Bs w d p.data) : PC w d p := ⟨hd, h.1, h.2.1, h.2.2.1, h.2.2.2.1, h.2.2.2.2.1, h.2.2.2.2.2.1, h.2.2.2.2.2.2⟩
theorem set1_size (x : World) (a : Addr) (v : Value) : (x.setCell a v).heap.size = x.heap.size := by
  simp [World.setCell]
theorem samePr_refl (p : Pr) : samePr p p = true := by unfold samePr; simp
theorem same_refl (l : List Pr) : sameR l l = true := decide_eq_true rfl

set_option maxRecDepth 100000 in
set_option maxHeartbeats 2000000 in
theorem plays_law (wh id : Int) (v u : Value) (a b : List Pr) (w : World) (hv : Ps w v a) (hu : Ps w u b) (hT : Tabs w) (R : Ending → World → Prop) (hR : ∀ w', Below w.heap.size w w' → R (.returned (.bool true)) w') :
    Calls Tryd.prog 7 #[.int .i64 wh, v, u, .int .i64 id] w R := by
  have HR := Lib.hid hR
  have HT := Lib.hid hT
  have HV := Lib.hid hv
  have HU := Lib.hid hu
  obtain ⟨l, hl⟩ : ∃ l, cutL a = l := ⟨_, rfl⟩
  obtain ⟨m, hm⟩ : ∃ m, cutL b = m := ⟨_, rfl⟩
  have hll : l.length ≤ 20 := by rw [← hl]; exact cutL_len a
  have HL := Lib.hid hl
  have HM := Lib.hid hm
  clear hR hT hv hu hl hm
  go_enter Tryd.func7, Tryd.ntmps7
  go_wp2_with (go_at_call_of 22 v; go_must (refine pcut_any _ a l HL.out w _ HV.out.pt _ ?_); intro la lc w1 hps1 hx1; have HPS1 := Lib.hid (hps1.ps hx1); clear hps1)
  go_wp2_with (go_at_call_of 22 u; go_must (refine pcut_any _ b m HM.out w1 _ (HU.out.below hx1).pt _ ?_); intro ma mc w2 hps2 hy2; have HM2 := Lib.hid (hps2.ps hy2); have HL2 := Lib.hid (HPS1.out.below hy2); have hx2 := below_then hx1 hy2 hx1.size; clear hps2 HPS1 hy2)
  clear hx1
  go_loopg [9, 10, 11] l.length (fun gn L i _ wr => ∃ (k : Nat) (o : List Pr) (oa : Option Addr) (oc : Nat), k ≤ l.length ∧ gn = l.length - k ∧ i = .int .i64 k ∧ L = .slice oa k oc ∧ Hid (o = l.take k) ∧ Hid (o.length = k) ∧ Hid (PsO wr w2.heap.size (.slice oa k oc) o) ∧ Below w2.heap.size w2 wr)
  case atStart => exact ⟨0, [], none, 0, Nat.zero_le _, by omega, rfl, rfl, Lib.hid rfl, Lib.hid rfl, Lib.hid (PsO.nil _ _), Below.refl _ _⟩
  case round =>
    obtain ⟨k, o, oa, oc, hk, rfl, rfl, rfl, HO, HOL, HPS, hb⟩ := hrel
    obtain ⟨wo, rfl⟩ : ∃ y, y = wr := ⟨_, rfl⟩
    by_cases hlt : k < l.length
    · have hkk : (k : Int) < (l.length : Int) := by omega
      obtain ⟨va', vc', ee, _, _, _, v4⟩ := HL2.out.below hb
      simp only [Value.slice.injEq] at ee
      obtain ⟨rfl, -, rfl⟩ := ee
      obtain ⟨vb, vo, rfl, v5⟩ := v4 (by omega)
      obtain ⟨d0, ⟨p0, p1, p2, p3, p4⟩, hec⟩ := v5 k hlt
      have HT1 : Hid (l.take (k + 1) = l.take k ++ [l[k]]) := Lib.hid (List.take_succ_eq_append_getElem hlt)
      obtain ⟨y, hy⟩ : ∃ y, l[k] = y := ⟨_, rfl⟩
      rw [hy] at p0 p1 p2 p3 hec HT1
      obtain ⟨d1, d3, rfl, _⟩ := _root_.id hec.hd
      have hld := hec.ld
      have hyE : Below wo.heap.size wo (wo.alloc (Obj.cells #[.int .i64 y.id, .int .i64 y.num, .string (str y.text), .string (str y.pair), .slice d1 y.data.length d3] 43)) := (Below.refl _ _).alloc (Nat.le_refl _) _
      have HD0 := Lib.hid (hec.hd.below hyE)
      have hO1 : o ++ [y] = l.take (k + 1) := by rw [HT1.out, HO.out]
      have HO1 := Lib.hid hO1
      have N0 : Hid ((wo.alloc (Obj.cells #[.int .i64 y.id, .int .i64 y.num, .string (str y.text), .string (str y.pair), .slice d1 y.data.length d3] 43)).heap[wo.heap.size]? = some (Obj.cells #[.int .i64 y.id, .int .i64 y.num, .string (str y.text), .string (str y.pair), .slice d1 y.data.length d3] 43)) := Lib.hid (heap_alloc_new _ _)
      have HYE := Lib.hid hyE
      obtain ⟨ds, hds, hrow, heach, hap⟩ := HPS.out
      rw [HOL.out] at hrow
      have HDS := Lib.hid hds
      have HEACH := Lib.hid heach
      have HROW := Lib.hid hrow
      have HAP := Lib.hid hap
      clear v4 v5 hy hec hyE HT1 hO1 heach hrow hap
      go_wp2_with (first
        | (go_at_call 26; go_must (refine twin_any _ y.data _ HD0.out (by omega) _ ?_); intro da dc w5 hown5 hb5; have hy5 := below_tr HYE.out hb5; have n5 := row_later2 N0.out hb5; have ae0 := cell_of_row _ wo.heap.size 0 _ _ _ n5; have ae1 := cell_of_row _ wo.heap.size 1 _ _ _ n5; have ae2 := cell_of_row _ wo.heap.size 2 _ _ _ n5; have ae3 := cell_of_row _ wo.heap.size 3 _ _ _ n5; have ae4 := cell_of_row _ wo.heap.size 4 _ _ _ n5; have af0 := frozen_block n5 0; have af1 := frozen_block n5 1; have af2 := frozen_block n5 2; have af3 := frozen_block n5 3; have af4 := frozen_block n5 4; have hy6 : Below wo.heap.size wo (w5.setCell ⟨wo.heap.size, 4, none⟩ (.slice da y.data.length dc)) := hy5.setCell (Nat.le_refl _) _; have hO5 := owns_mono (base' := wo.heap.size) hown5 HYE.out.size; have hO6 : (w5.setCell ⟨wo.heap.size, 4, none⟩ (.slice da y.data.length dc)).ownsRow wo.heap.size 5 1 (.slice da y.data.length dc) y.data.length (bv y.data) := Keeps.setK n5 (by decide) _ _ _ _ hO5; have hrow6 := owns_below HROW.out hy6; have hx6 := below_tr hb hy6; have hrd := rd_lit (w5.setCell ⟨wo.heap.size, 4, none⟩ (.slice da y.data.length dc)) #[.int .i64 y.id, .int .i64 y.num, .string (str y.text), .string (str y.pair), .slice da y.data.length dc] 43 5 1 rfl; rw [set1_size] at hrd; have hz6 : w2.heap.size ≤ w5.heap.size := (below_tr hb hy5).size; clear hown5 hb5 hy5 hO5)
        | (at_builtin; go_must (refine wpList_app (by rfl) (.tmp 40) (.tmp 42) 25 (by rfl) w2.heap.size 43 (.agg #[Value.int .i64 0, Value.int .i64 0, Value.string ⟨#[]⟩, Value.string ⟨#[]⟩, Value.slice none 0 0]) 5 72 Tryd.underlying25 Tryd.info43 rfl (by decide) _ _ _ _ rfl (World.ownsRow.alloc hrow6 _) _ _ _ _ rfl hrd (pc_oneCell _ _ _) (by simp) (by unfold maxLen; omega) (by omega) (by simp; omega) ?_)))
      intro ad7 c7 w7 hown7 hg7
      have hk7 : Keeps 5 (w5.setCell ⟨wo.heap.size, 4, none⟩ (.slice da y.data.length dc)) w7 := (Keeps.below ((Below.refl _ _).alloc (Nat.le_refl _) _)).trans (Keeps.grown5 (hrow6.alloc _) hg7 (by decide))
      have hbN : Below w2.heap.size w2 w7 := below_app (hx6.alloc (by rw [set1_size]; exact hz6) _) hg7 (by simp; omega) (hrow6.alloc _)
      have hnew : ∀ v ∈ ds, Unlike v (.slice da y.data.length dc) := by
        intro v hv k hk hc
        obtain ⟨i, hi, rfl⟩ := List.getElem_of_mem hv
        have h1 := ((HEACH.out i (by rw [← HDS.out]; exact hi)).lt k hk).2
        have h2 := (hO6.lt k hc).1
        omega
      have hPS7 : PsO w7 w2.heap.size (.slice ad7 (k + 1) c7) (o ++ [y]) := by
        refine PsO.push HDS.out (fun i hi => owns_below (HEACH.out i hi) hy6) hk7 ?_ (owns_mono hO6 hb.size) HAP.out hnew
        rw [HOL.out]
        exact hown7
      have HPS7 := Lib.hid hPS7
      clear hPS7 hnew hk7 hown7 hg7 hrow6 hrd hx6 hy6 hO6
      go_wp2
      go_roundg (l.length - (k + 1))
      case measure => omega
      case rel => exact ⟨k + 1, o ++ [y], ad7, c7, by omega, rfl, by go_num, rfl, HO1, Lib.hid (by rw [List.length_append, HOL.out]; rfl), HPS7, hbN⟩
    · have hkk : ¬ (k : Int) < (l.length : Int) := by omega
      have hol : o = l := by rw [HO.out, List.take_of_length_le (by omega)]
      obtain rfl : k = l.length := by omega
      have hpo : PsO wo w2.heap.size (.slice oa l.length oc) l := by
        have := HPS.out
        rwa [hol] at this
      have hlpb : ∀ p ∈ l, PB p := HL2.out.pb
      have hN3 := hpo.ps hlpb
      have HN3 := Lib.hid hN3
      have HL3 := Lib.hid (HL2.out.below hb)
      have HM3 := Lib.hid (HM2.out.below hb)
      have hx3 := below_then hx2 hb hx2.size
      have HT3 := Lib.hid (HT.out.below hx3)
      have HX3 := Lib.hid hx3
      obtain ⟨⟨x, c⟩, hx⟩ : ∃ r, layL wh l = r := ⟨_, rfl⟩
      have hbl : (l.flatMap laidL).length ≤ 90000000 := by
        have := laid_total l 20 hll
        omega
      have hxl : x.length ≤ 90000004 := by have := lays_len hx; omega
      obtain ⟨p, hp⟩ : ∃ p, (findL id l).getD zeroP = p := ⟨_, rfl⟩
      obtain ⟨q, hq⟩ : ∃ q, (findL id l).isSome = q := ⟨_, rfl⟩
      have hpb : PB p := by rw [← hp]; exact findL_pb hlpb
      obtain ⟨sm, hsm⟩ : ∃ r, sameR l m = r := ⟨_, rfl⟩
      obtain ⟨O, hO⟩ : ∃ O, onlyL l [id, 38] = O := ⟨_, rfl⟩
      have hopb : ∀ p ∈ O, PB p := by
        intro p hp
        rw [← hO] at hp
        exact hlpb p (List.mem_filter.1 hp).1
      have HXL := Lib.hid hx
      have HBL := Lib.hid hbl
      have HXN := Lib.hid hxl
      have HP := Lib.hid hp
      have HQ := Lib.hid hq
      have HPB := Lib.hid hpb
      have HSM := Lib.hid hsm
      have HO := Lib.hid hO
      have HOPB := Lib.hid hopb
      clear hlt HOL HPS hol hpo hlpb hN3 hx3 hx hbl hxl hp hq hpb hsm hO hopb HL2 HM2 hx2 hb HL HM HV HU HT hk hkk
      go_wp2_with (first
        | (go_at_call 23; go_must (refine lay_any wh _ l x c HXL.out HBL.out _ HN3.out HT3.out _ ?_); intro xa xc w4 hown4 z4; have HO4 := Lib.hid hown4; clear hown4)
        | (go_at_call 27; go_must (refine rlay_any wh _ l x c HXL.out HBL.out _ (HL3.out.below z4) (HT3.out.below z4) _ ?_); intro ya yc w5 hown5 y5; have z5 := below_tr z4 y5; have HB5 := Lib.hid (bs_of_owns hown5).2; have HO5 := Lib.hid (owns_below HO4.out y5); clear hown5 y5)
        | (go_at_call 28; go_must (refine pfind_any id _ l p q HP.out HQ.out _ (HN3.out.below z5) _ ?_); intro fa fc w6 hown6 y6; have y7 := y6.alloc y6.size (Obj.cells #[.int .i64 p.id, .int .i64 p.num, .string (str p.text), .string (str p.pair), .slice fa p.data.length fc] 43); have z7 := below_tr z5 y7; have HB7 := Lib.hid (HB5.out.below y7); have HO7 := Lib.hid (owns_below HO5.out y7); have HF7 := Lib.hid (HPB.out.pc ((bs_of_owns hown6).2.below ((Below.refl w6.heap.size w6).alloc (Nat.le_refl _) (Obj.cells #[.int .i64 p.id, .int .i64 p.num, .string (str p.text), .string (str p.pair), .slice fa p.data.length fc] 43)))); have N7 := Lib.hid (heap_alloc_new w6 (Obj.cells #[.int .i64 p.id, .int .i64 p.num, .string (str p.text), .string (str p.pair), .slice fa p.data.length fc] 43)); clear hown6 y6 y7 HB5 HO5)
        | (go_at_call 29; go_must (refine rfind_any id _ l p q HP.out HQ.out _ (HL3.out.below z7) _ ?_); intro ga gc w8 hpc8 y8; have yE : Below w8.heap.size w8 (w8.alloc (Obj.cells #[.int .i64 p.id, .int .i64 p.num, .string (str p.text), .string (str p.pair), .slice ga p.data.length gc] 43)) := (Below.refl w8.heap.size w8).alloc (Nat.le_refl _) _; have yF : Below w8.heap.size w8 ((w8.alloc (Obj.cells #[.int .i64 p.id, .int .i64 p.num, .string (str p.text), .string (str p.pair), .slice ga p.data.length gc] 43)).alloc (Obj.cells #[.int .i64 id, .int .i64 38] 3)) := yE.alloc yE.size _; have z8 := below_tr z7 y8; have zF := below_tr z8 yF; have n8 := row_later2 N7.out y8; have HB8 := Lib.hid ((HB7.out.below y8).below yF); have HO8 := Lib.hid (owns_below (owns_below HO7.out y8) yF); have HF8 := Lib.hid ((HF7.out.below y8).below yF); have HG8 := Lib.hid (hpc8.below yF); have N8 : Hid (((w8.alloc (Obj.cells #[.int .i64 p.id, .int .i64 p.num, .string (str p.text), .string (str p.pair), .slice ga p.data.length gc] 43)).alloc (Obj.cells #[.int .i64 id, .int .i64 38] 3)).heap[w6.heap.size]? = some (Obj.cells #[.int .i64 p.id, .int .i64 p.num, .string (str p.text), .string (str p.pair), .slice fa p.data.length fc] 43)) := Lib.hid (row_later2 n8 yF); have M8 : Hid (((w8.alloc (Obj.cells #[.int .i64 p.id, .int .i64 p.num, .string (str p.text), .string (str p.pair), .slice ga p.data.length gc] 43)).alloc (Obj.cells #[.int .i64 id, .int .i64 38] 3)).heap[w8.heap.size]? = some (Obj.cells #[.int .i64 p.id, .int .i64 p.num, .string (str p.text), .string (str p.pair), .slice ga p.data.length gc] 43)) := Lib.hid (block_alloc (heap_alloc_new w8 (Obj.cells #[.int .i64 p.id, .int .i64 p.num, .string (str p.text), .string (str p.pair), .slice ga p.data.length gc] 43))); have hrd := rd_lit (w8.alloc (Obj.cells #[.int .i64 p.id, .int .i64 p.num, .string (str p.text), .string (str p.pair), .slice ga p.data.length gc] 43)) #[.int .i64 id, .int .i64 38] 3 1 2 rfl; rw [show (w8.alloc (Obj.cells #[.int .i64 p.id, .int .i64 p.num, .string (str p.text), .string (str p.pair), .slice ga p.data.length gc] 43)).heap.size = w8.heap.size + 1 by simp] at hrd; clear hpc8 y8 yE yF n8 N7 HB7 HO7 HF7 z8)
        | (go_at_call 30; go_must (refine ponly_any _ l [id, 38] (by simp) _ 2 2 rfl _ _ hrd rfl (HN3.out.below zF) (by omega) _ ?_); rw [HO.out]; intro pa pcc w11 hps11 y11; have z11 := below_tr zF y11; have n11 := row_later2 N8.out y11; have m11 := row_later2 M8.out y11; have ae0 := cell_of_row _ w6.heap.size 0 _ _ _ n11; have ae1 := cell_of_row _ w6.heap.size 1 _ _ _ n11; have ae2 := cell_of_row _ w6.heap.size 2 _ _ _ n11; have ae3 := cell_of_row _ w6.heap.size 3 _ _ _ n11; have ae4 := cell_of_row _ w6.heap.size 4 _ _ _ n11; have af0 := frozen_block n11 0; have af1 := frozen_block n11 1; have af2 := frozen_block n11 2; have af3 := frozen_block n11 3; have af4 := frozen_block n11 4; have be0 := cell_of_row _ w8.heap.size 0 _ _ _ m11; have be1 := cell_of_row _ w8.heap.size 1 _ _ _ m11; have be2 := cell_of_row _ w8.heap.size 2 _ _ _ m11; have be3 := cell_of_row _ w8.heap.size 3 _ _ _ m11; have be4 := cell_of_row _ w8.heap.size 4 _ _ _ m11; have bf0 := frozen_block m11 0; have bf1 := frozen_block m11 1; have bf2 := frozen_block m11 2; have bf3 := frozen_block m11 3; have bf4 := frozen_block m11 4; have HB11 := Lib.hid (HB8.out.below y11); have HO11 := Lib.hid (owns_below HO8.out y11); have HF11 := Lib.hid (HF8.out.below y11); have HG11 := Lib.hid (HG8.out.below y11); have HQ11 := Lib.hid (hps11.ps HOPB.out); clear hps11 y11 n11 m11 N8 M8 HB8 HO8 HF8 HG8 hrd)
        | (go_at_call 31; go_must (refine same_any _ _ x x _ (bs_of_owns HO11.out).2 HB11.out _ ?_); rw [show (x == x) = true from beq_self_eq_true x])
        | (go_at_call 13; go_in)
        | (go_at_call 32; go_must (refine ralike_any _ _ p p true (samePr_refl p) _ HF11.out HG11.out _ ?_); intro w12 y12; have yL : Below w12.heap.size w12 (w12.alloc (Obj.cells #[.int .i64 id, .int .i64 38] 3)) := (Below.refl w12.heap.size w12).alloc (Nat.le_refl _) _; have zL := below_tr (below_tr z11 y12) yL; have HOL := Lib.hid (owns_below (owns_below HO11.out y12) yL); have HQL := Lib.hid ((HQ11.out.below y12).below yL); have hrd := rd_lit w12 #[.int .i64 id, .int .i64 38] 3 1 2 rfl; clear y12 yL HO11 HQ11 HB11)
        | (go_at_call 33; go_must (refine ronly_any _ l [id, 38] (by simp) _ 2 2 rfl _ _ hrd rfl (HL3.out.below zL) (by omega) _ ?_); rw [HO.out]; intro ra rcc w14 hps14 y14; have z14 := below_tr zL y14; have HO14 := Lib.hid (owns_below HOL.out y14); have HQ14 := Lib.hid (HQL.out.below y14); have HR14 := Lib.hid (hps14.ps y14); clear hps14 y14 HOL HQL hrd)
        | (go_at_call_of 12 (Value.slice ra O.length rcc); go_must (refine rsame_any _ _ O O true (same_refl O) _ HQ14.out HR14.out _ ?_); intro w15 y15; have z15 := below_tr z14 y15; have HO15 := Lib.hid (owns_below HO14.out y15); clear y15 HO14 HQ14 HR14)
        | (go_at_call_of 12 (Value.slice oa l.length oc); go_must (refine rsame_any _ _ l l true (same_refl l) _ (HN3.out.below z15) (HL3.out.below z15) _ ?_); intro w16 y16; have z16 := below_tr z15 y16; have z17 := z16.alloc z16.size (Obj.cells (BkCells (.slice none 0 0) (.slice none 0 0)) 40); have HO17 := Lib.hid (owns_below HO15.out (y16.alloc y16.size (Obj.cells (BkCells (.slice none 0 0) (.slice none 0 0)) 40))); have hbk := Bk.start (tb := 40) (ts := 22) (te := 5) (B := wo.heap.size) w16 z16.size; have HBK := Lib.hid hbk; clear y16 HO15 hbk)
        | (go_at_call 18; go_must (refine book_bytes2 wo.heap.size w16.heap.size [] [] [] xa xc x _ HBK.out (by simp) HO17.out (by simp) (by simp) (by have := HXN.out; omega) _ ?_); intro w18 us' hbk18 y18 _ _ _; have z18 := z17.trans y18; have HBK18 := Lib.hid hbk18; clear hbk18 y18 HBK HO17)
        | (go_at_call_of 24 (Value.slice ma m.length mc); go_must (refine psame_any _ _ l m sm HSM.out _ (HN3.out.below z18) (HM3.out.below z18) _ ?_); intro w19 y19; have z19 := below_tr z18 y19; have HBK19 := Lib.hid (HBK18.out.below y19); clear y19 HBK18)
        | (go_at_call_of 12 (Value.slice ma m.length mc); go_must (refine rsame_any _ _ l m sm HSM.out _ (HL3.out.below z19) (HM3.out.below z19) _ ?_); intro w20 y20; have z20 := below_tr z19 y20; have HBK20 := Lib.hid (HBK19.out.below y20); clear y20 HBK19)
        | (go_at_call 24; go_must (refine psame_any _ _ l l true (same_refl l) _ (HN3.out.below z20) (HL3.out.below z20) _ ?_); intro w21 y21; have z21 := below_tr z20 y21; have HBK21 := Lib.hid (HBK20.out.below y21); clear y21 HBK20)
        | (go_at_call 20; go_must (refine close_any wo.heap.size w16.heap.size _ us' _ _ HBK21.out (by have := HXN.out; simp; omega) (by simp) _ ?_); intro w22 y22; have z22 := z21.trans y22; have hx22 := below_then HX3.out z22 HX3.out.size)
        | (go_at_call 21; go_must (refine wakes_any _ (HT3.out.below z22) _ ?_); intro w23 y23; have hx23 := below_then hx22 y23 hx22.size))
      exact HR.out _ hx23
end Go.Proofs.YtpodhidabhnnnaaDoor
