/- edit.Check: whether a version may be: walked; the set of numbers is a ghost of the proof. -/
import Derived.Test.YtpodgocmcnkfdaaPlcT
import Derived.Maps.OwnSet
import Derived.Maps.AppendAt
import Derived.WalkArith
import Derived.Deep.LoopGhost
import Derived.BigQuiet
namespace Go.Proofs.Ytpodgocmcnkfdaa
open Go.RowKit

/-- The table p may stand behind those ahead of it. -/
def behindP (f : Pl → Pl → Bool) (d : List Pl) (p : Pl) : Bool := match d.getLast? with
  | none => true
  | some q => f q p
/-- The tables may be, one behind the other (d: those ahead). -/
def tabsK (f : Pl → Pl → Bool) (next : Int) : List Pl → List Pl → Bool
  | _, [] => true
  | d, p :: r => (!(d.any fun q => decide (q.num = p.num))) && (tableL p next && (behindP f d p && tabsK f next (d ++ [p]) r))
def headL (log next seq : Int) : Bool := numberL log && (numberL next && (numberL seq && !(decide (next ≤ log) && decide (log ≠ 0))))
def checkL (f : Pl → Pl → Bool) (log next seq : Int) (l : List Pl) : Bool := headL log next seq && tabsK f next [] l
def errI (t : Bool) (n : Int) : Value := .int .i64 (if t then 0 else n)

theorem tabsK_at (f : Pl → Pl → Bool) (next : Int) (l : List Pl) (k : Nat) (hk : k < l.length) :
    tabsK f next (l.take k) (l.drop k) = ((!((l.take k).any fun q => decide (q.num = l[k].num))) && (tableL l[k] next && (behindP f (l.take k) l[k] && tabsK f next (l.take (k + 1)) (l.drop (k + 1))))) := by
  rw [List.drop_eq_getElem_cons hk, tabsK, List.take_succ_eq_append_getElem hk]
theorem tabsK_end (f : Pl → Pl → Bool) (next : Int) (l : List Pl) (k : Nat) (hk : l.length ≤ k) : tabsK f next (l.take k) (l.drop k) = true := by
  rw [List.drop_of_length_le hk, tabsK]
theorem behindP_zero (f : Pl → Pl → Bool) (l : List Pl) (p : Pl) : behindP f (l.take 0) p = true := rfl
theorem behindP_succ (f : Pl → Pl → Bool) (l : List Pl) (k : Nat) (hk : k < l.length) (p : Pl) : behindP f (l.take (k + 1)) p = f l[k] p := by
  unfold behindP
  rw [List.take_succ_eq_append_getElem hk, List.getLast?_append]
  rfl

/-- The numbers as keys of the set. -/
def keysP (l : List Pl) : List Lit := l.map fun p => .int .i64 p.num
theorem keysP_snoc (l : List Pl) (p : Pl) : Maps.setOf (H := Unit) (.agg []) (keysP (l ++ [p])) = (Maps.setOf (H := Unit) (.agg []) (keysP l)).put (.int .i64 p.num) (.agg []) := by
  unfold keysP
  rw [List.map_append, List.map_cons, List.map_nil, Maps.setOf_snoc]
theorem keysP_has (l : List Pl) (n : Int) : Maps.has (Maps.setOf (H := Unit) (.agg []) (keysP l)) (.int .i64 n) = l.any fun q => decide (q.num = n) := by
  rw [Maps.has_setOf _ _ _ (fun x hx => by
    obtain ⟨p, _, rfl⟩ := List.mem_map.1 hx
    trivial)]
  unfold keysP
  rw [List.any_map]
  congr 1
  funext q
  simp only [Function.comp, Lit.sameKey]
  simp

theorem Try.keyed3 : Maps.Keyed Try.prog 3 := Maps.int_keyed Try.underlying3
theorem Try.zero80 (w : World) : (zeroValue 80).run Try.prog w = .ok (.agg #[]) w := by kernel_rfl

theorem pl5_later {w w' : World} {b o : Nat} {x y : Value} {n l c : Int} (hb : Below w.heap.size w w') (h : (w.cell? ⟨b, o, none⟩ = some (Value.int .i64 n) ∧ w.cell? ⟨b, o + 1, none⟩ = some (Value.int .i64 l) ∧ w.cell? ⟨b, o + 2, none⟩ = some (Value.int .i64 c) ∧ w.cell? ⟨b, o + 3, none⟩ = some x ∧ w.cell? ⟨b, o + 4, none⟩ = some y)) : (w'.cell? ⟨b, o, none⟩ = some (Value.int .i64 n) ∧ w'.cell? ⟨b, o + 1, none⟩ = some (Value.int .i64 l) ∧ w'.cell? ⟨b, o + 2, none⟩ = some (Value.int .i64 c) ∧ w'.cell? ⟨b, o + 3, none⟩ = some x ∧ w'.cell? ⟨b, o + 4, none⟩ = some y) :=
  ⟨cell_later hb h.1, cell_later hb h.2.1, cell_later hb h.2.2.1, cell_later hb h.2.2.2.1, cell_later hb h.2.2.2.2⟩

/-- The version's box. -/
def vnO (log next seq : Int) (v : Value) : Obj := .cells #[.int .i64 log, .int .i64 next, .int .i64 seq, v] 24

set_option maxRecDepth 100000 in
set_option maxHeartbeats 3200000 in
theorem echeck_any (log next seq : Int) (v : Value) (l : List Pl) (t : Bool) (ht : checkL apartL log next seq l = t) (hl : l.length ≤ 1000000) (w : World) (hv : Pls w v l) (R : Ending → World → Prop)
    (hR : ∀ w', Below w.heap.size w w' → R (.returned (errI t 80)) w') :
    Calls Try.prog 13 #[.agg #[.int .i64 log, .int .i64 next, .int .i64 seq, v]] w R := by
  have HR := Lib.hid hR
  have HV := Lib.hid hv
  have hmm := @run_makeMap Try.prog
  obtain ⟨va, vc, rfl, v1, v2, v3, _⟩ := hv
  have hb0 : Below w.heap.size w (w.alloc (vnO log next seq (.slice va l.length vc))) := (Below.refl w.heap.size w).alloc (Nat.le_refl _) _
  have HB := Lib.hid hb0
  have N0 := Lib.hid (heap_alloc_new w (vnO log next seq (.slice va l.length vc)))
  unfold vnO at HB N0
  clear hR hb0
  unfold checkL headL at ht
  obtain ⟨b1, h1⟩ : ∃ b, numberL log = b := ⟨_, rfl⟩
  obtain ⟨b2, h2⟩ : ∃ b, numberL next = b := ⟨_, rfl⟩
  obtain ⟨b3, h3⟩ : ∃ b, numberL seq = b := ⟨_, rfl⟩
  rw [h1, h2, h3] at ht
  have H1 := Lib.hid h1
  have H2 := Lib.hid h2
  have H3 := Lib.hid h3
  clear h1 h2 h3
  cases b1 with
  | false =>
    obtain rfl : t = false := by rw [← ht]; rfl
    clear ht
    go_enter Try.func13, Try.ntmps13
    go_wp2_with (go_at_call 39; go_must (refine number_any log false H1.out _ _ ?_))
    exact HR.out _ HB.out
  | true =>
  cases b2 with
  | false =>
    obtain rfl : t = false := by rw [← ht]; rfl
    clear ht
    go_enter Try.func13, Try.ntmps13
    go_wp2_with (first
      | (go_at_call_of 39 (Value.int .i64 log); go_must (refine number_any log true H1.out _ _ ?_))
      | (go_at_call 39; go_must (refine number_any next false H2.out _ _ ?_)))
    all_goals exact HR.out _ HB.out
  | true =>
  cases b3 with
  | false =>
    obtain rfl : t = false := by rw [← ht]; rfl
    clear ht
    go_enter Try.func13, Try.ntmps13
    go_wp2_with (first | (go_at_call_of 39 (Value.int .i64 log); go_must (refine number_any log true H1.out _ _ ?_)) | (go_at_call_of 39 (Value.int .i64 next); go_must (refine number_any next true H2.out _ _ ?_)) | (go_at_call_of 39 (Value.int .i64 seq); go_must (refine number_any seq false H3.out _ _ ?_)))
    all_goals exact HR.out _ HB.out
  | true =>
  by_cases h4 : next ≤ log ∧ log ≠ 0
  · obtain rfl : t = false := by rw [← ht]; simp [h4]
    obtain ⟨h5, h6⟩ := h4
    have hd : (log != 0) = true := by simpa using h6
    clear ht
    go_enter Try.func13, Try.ntmps13
    go_wp2_with (first | (go_at_call_of 39 (Value.int .i64 log); go_must (refine number_any log true H1.out _ _ ?_)) | (go_at_call_of 39 (Value.int .i64 next); go_must (refine number_any next true H2.out _ _ ?_)) | (go_at_call_of 39 (Value.int .i64 seq); go_must (refine number_any seq true H3.out _ _ ?_)))
    all_goals exact HR.out _ HB.out
  have HT : Hid (tabsK apartL next (l.take 0) (l.drop 0) = t) := by
    show _ = _
    rw [← ht, List.drop_zero, List.take_zero]
    by_cases h5 : next ≤ log
    · have h6 : log = 0 := by
        by_cases h : log = 0
        · exact h
        · exact absurd ⟨h5, h⟩ h4
      simp [h6]
    · simp [h5]
  clear ht
  have hmid : ∀ w', Hid (w' = (w.alloc (Obj.cells #[.int .i64 log, .int .i64 next, .int .i64 seq, .slice va l.length vc] 24)).alloc (.map #[] 0)) → w'.ownsMap Try.prog 3 (unitElem (H := Unit)) (w.heap.size + 1) 0 (Maps.setOf (.agg []) (keysP (l.take 0))) ∧ w'.heap[w.heap.size]? = some (Obj.cells #[.int .i64 log, .int .i64 next, .int .i64 seq, .slice va l.length vc] 24) ∧ Below w.heap.size w w' ∧ w.heap.size + 2 ≤ w'.heap.size := by
    intro w' h
    rw [h.out]
    refine ⟨?_, block_alloc N0.out, HB.out.alloc (by simp) _, by simp⟩
    have := World.ownsMap_made (H := Unit) (w.alloc (Obj.cells #[.int .i64 log, .int .i64 next, .int .i64 seq, .slice va l.length vc] 24)) Try.prog 3 unitElem
    rw [show (w.alloc (Obj.cells #[.int .i64 log, .int .i64 next, .int .i64 seq, .slice va l.length vc] 24)).heap.size = w.heap.size + 1 by simp] at this
    exact this
  have HM := Lib.hid hmid
  clear hmid
  by_cases h5 : next ≤ log
  · obtain rfl : log = 0 := by
      by_cases h : log = 0
      · exact h
      · exact absurd ⟨h5, h⟩ h4
    clear h4
    go_enter Try.func13, Try.ntmps13
    go_wp2_with (first | (go_at_call_of 39 (Value.int .i64 0); go_must (refine number_any 0 true H1.out _ _ ?_)) | (go_at_call_of 39 (Value.int .i64 next); go_must (refine number_any next true H2.out _ _ ?_)) | (go_at_call_of 39 (Value.int .i64 seq); go_must (refine number_any seq true H3.out _ _ ?_)))
    have hM := HM.out _ (Lib.hid rfl)
    clear HM hmm
    generalize (w.alloc (Obj.cells #[.int .i64 0, .int .i64 next, .int .i64 seq, .slice va l.length vc] 24)).alloc (Obj.map #[] 0) = w1 at hM ⊢
    obtain ⟨hM0, hN0, hB0, hZ0⟩ := hM
    clear N0 HB H1 H2 H3
    go_loopg [40] l.length (fun gn i wr => ∃ k : Nat, k ≤ l.length ∧ gn = l.length - k ∧ i = .int .i64 k ∧ wr.ownsMap Try.prog 3 (unitElem (H := Unit)) (w.heap.size + 1) k (Maps.setOf (.agg []) (keysP (l.take k))) ∧ Hid (wr.heap[w.heap.size]? = some (Obj.cells #[.int .i64 0, .int .i64 next, .int .i64 seq, .slice va l.length vc] 24)) ∧ Below w.heap.size w wr ∧ w.heap.size + 2 ≤ wr.heap.size ∧ Hid (tabsK apartL next (l.take k) (l.drop k) = t))
    case atStart => exact ⟨0, Nat.zero_le _, by omega, rfl, hM0, hN0, hB0, hZ0, HT⟩
    case round =>
      obtain ⟨k, hk, rfl, rfl, hown, HN, hbw, hz, HS⟩ := hrel
      clear hM0 hN0 hB0 hZ0 HT
      by_cases hlt : k < l.length
      · have hkk : (k : Int) < (l.length : Int) := by omega
        obtain ⟨va', vc', ee, _, _, _, v4⟩ := HV.out.below hbw
        simp only [Value.slice.injEq] at ee
        obtain ⟨rfl, -, rfl⟩ := ee
        obtain ⟨vb, vo, rfl, v5⟩ := v4 (by omega)
        obtain ⟨x, y, ⟨p0, p1, p2, p3, p4⟩, hpc⟩ := v5 k hlt
        have hat := tabsK_at apartL next l k hlt
        rw [HS.out] at hat
        obtain ⟨p, hp⟩ : ∃ p, l[k] = p := ⟨_, rfl⟩
        rw [hp] at p0 p1 p2 hpc hat
        have hkey : keyOf Try.prog 3 (.int .i64 p.num) = some (.int .i64 p.num) := Maps.keyOf_int_mk Try.underlying3 (WalkArith.wf_i64 ⟨hpc.hb.n0, hpc.hb.n1⟩)
        have hhas := keysP_has (l.take k) p.num
        obtain ⟨tw, htw⟩ : ∃ tw, ((l.take k).any fun q => decide (q.num = p.num)) = tw := ⟨_, rfl⟩
        rw [htw] at hhas hat
        have HHAS := Lib.hid hhas
        have HAT := Lib.hid hat
        have HKEY := Lib.hid hkey
        have HPC := Lib.hid hpc
        have HTW := Lib.hid htw
        have s1 := hpc.shape
        have HP := Lib.hid hp
        have HV5 := Lib.hid v5
        clear v4 v5 hp hat hhas hkey hpc HS htw
        obtain ⟨pn, pl, pc, pa, pb⟩ := p
        simp only at *
        obtain ⟨⟨a1, a2, rfl⟩, b1, b2, rfl⟩ := s1
        go_wp2_with (at_lookup; refine wpList_lookup_own_unit _ rfl _ _ 79 rfl 3 80 Try.keyed3 Try.underlying79 (Try.zero80 _) (w.heap.size + 1) k _ rfl (hown.alloc _) _ _ rfl HKEY.out ?_; rw [HHAS.out])
        have hyA : Below wr.heap.size wr ((wr.alloc (Obj.cells #[.int .i64 pn, .int .i64 pl, .int .i64 pc, .slice a1 pa.length a2, .slice b1 pb.length b2] 41)).alloc (Obj.cells #[] 80)) := ((Below.refl _ _).alloc (Nat.le_refl _) _).alloc (by simp) _
        have nP : ((wr.alloc (Obj.cells #[.int .i64 pn, .int .i64 pl, .int .i64 pc, .slice a1 pa.length a2, .slice b1 pb.length b2] 41)).alloc (Obj.cells #[] 80)).heap[wr.heap.size]? = some (Obj.cells #[.int .i64 pn, .int .i64 pl, .int .i64 pc, .slice a1 pa.length a2, .slice b1 pb.length b2] 41) := block_alloc (heap_alloc_new wr _)
        have HO := Lib.hid ((hown.alloc (Obj.cells #[.int .i64 pn, .int .i64 pl, .int .i64 pc, .slice a1 pa.length a2, .slice b1 pb.length b2] 41)).alloc (Obj.cells #[] 80))
        have hzP : wr.heap.size + 2 ≤ ((wr.alloc (Obj.cells #[.int .i64 pn, .int .i64 pl, .int .i64 pc, .slice a1 pa.length a2, .slice b1 pb.length b2] 41)).alloc (Obj.cells #[] 80)).heap.size := by simp
        clear hown p0 p1 p2 p3 p4
        generalize (wr.alloc (Obj.cells #[.int .i64 pn, .int .i64 pl, .int .i64 pc, .slice a1 pa.length a2, .slice b1 pb.length b2] 41)).alloc (Obj.cells #[] 80) = w2 at hyA nP HO hzP ⊢
        have NP := Lib.hid nP
        have NV := Lib.hid (row_on HN.out hyA)
        have HB2 := Lib.hid (below_then hbw hyA (by omega))
        have HY := Lib.hid hyA
        clear nP hyA HN
        cases tw with
        | true =>
          obtain rfl : t = false := by rw [HAT.out]; rfl
          clear HAT
          (refine wp_region_quiet_grown (by kernel_rfl) (by kernel_rfl) ?_; (repeat (go_big_quiet_step (fail))); refine wpQuiet_nil ?_; intro _ hw'; obtain ⟨⟨nq, osq⟩, hw''⟩ := hw'; subst hw'')
          go_wp2
          all_goals exact HR.out _ (below_then HB2.out ((Grn.refl w2).grow nq osq).below (by omega))
        | false =>
        obtain ⟨tb, htb⟩ : ∃ tb, tableL ⟨pn, pl, pc, pa, pb⟩ next = tb := ⟨_, rfl⟩
        rw [htb] at HAT
        have HTB := Lib.hid htb
        have hcg : ∀ (A : Addr) (u : Value), w2.cell? A = some u → A.block < w2.heap.size → ∀ n os, (Sort.grow (w2.drewN n) os).cell? A = some u := fun A u h hA n os => cell_grown hA h n os
        have g0 := hcg _ _ (cell_of_row _ w.heap.size 1 _ _ _ NV.out) (by show w.heap.size < _; omega)
        have g1 := hcg _ _ (cell_of_row _ w.heap.size 3 _ _ _ NV.out) (by show w.heap.size < _; omega)
        have f0 := hcg _ _ (cell_of_row _ wr.heap.size 0 _ _ _ NP.out) (by show wr.heap.size < _; omega)
        have f1 := hcg _ _ (cell_of_row _ wr.heap.size 1 _ _ _ NP.out) (by show wr.heap.size < _; omega)
        have f2 := hcg _ _ (cell_of_row _ wr.heap.size 2 _ _ _ NP.out) (by show wr.heap.size < _; omega)
        have f3 := hcg _ _ (cell_of_row _ wr.heap.size 3 _ _ _ NP.out) (by show wr.heap.size < _; omega)
        have f4 := hcg _ _ (cell_of_row _ wr.heap.size 4 _ _ _ NP.out) (by show wr.heap.size < _; omega)
        clear htb
        change ∀ n os, _ = some (Value.int .i64 next) at g0
        change ∀ n os, _ = some (Value.slice (some ⟨vb, vo, none⟩) l.length vc) at g1
        change ∀ n os, _ = some (Value.int .i64 pn) at f0
        change ∀ n os, _ = some (Value.int .i64 pl) at f1
        change ∀ n os, _ = some (Value.int .i64 pc) at f2
        change ∀ n os, _ = some (Value.slice a1 pa.length a2) at f3
        change ∀ n os, _ = some (Value.slice b1 pb.length b2) at f4
        have hpg : ∀ n os, PlC (Sort.grow (w2.drewN n) os) (.slice a1 pa.length a2) (.slice b1 pb.length b2) ⟨pn, pl, pc, pa, pb⟩ := fun n os => (HPC.out.below HY.out).below ((Grn.refl w2).grow n os).below
        have HPG := Lib.hid hpg
        have HCG := Lib.hid hcg
        clear hpg hcg
        cases tb with
        | false =>
          obtain rfl : t = false := by rw [HAT.out]; rfl
          clear HAT
          (refine wp_region_quiet_grown (by kernel_rfl) (by kernel_rfl) ?_; (repeat (go_big_quiet_step (first | (go_at_call 40; refine grn_calls (v := Value.bool false) ?_; refine table_any _ _ ⟨pn, pl, pc, pa, pb⟩ next false HTB.out _ (HPG.out _ _) _ ?_; intro w' hw'; exact ⟨rfl, hw'⟩)))); refine wpQuiet_nil ?_; intro _ hw'; obtain ⟨⟨nq, osq⟩, hw''⟩ := hw'; subst hw'')
          go_wp2
          all_goals exact HR.out _ (below_then HB2.out ((Grn.refl w2).grow nq osq).below (by omega))
        | true =>
        by_cases hk0 : k = 0
        · subst hk0
          have hnx : Hid (tabsK apartL next (l.take (0 + 1)) (l.drop (0 + 1)) = t) := by
            have := HAT.out
            rw [behindP_zero] at this
            exact this.symm
          have hd : decide ((0 : Int) < ((0 : Nat) : Int)) = false := by simp
          clear HAT
          (refine wp_region_quiet_grown (by kernel_rfl) (by kernel_rfl) ?_; (repeat (go_big_quiet_step (first | (go_at_call 40; refine grn_calls (v := Value.bool true) ?_; refine table_any _ _ ⟨pn, pl, pc, pa, pb⟩ next true HTB.out _ (HPG.out _ _) _ ?_; intro w' hw'; exact ⟨rfl, hw'⟩)))); refine wpQuiet_nil ?_; intro _ hw'; obtain ⟨⟨nq, osq⟩, hw''⟩ := hw'; subst hw'')
          have hg8 := ((Grn.refl w2).grow nq osq).below
          have HG8 := Lib.hid hg8
          have ho8 := Lib.hid (HO.out.kept (grown_bel hg8 (row := none)) (by simp))
          have NV8 := Lib.hid (row_on NV.out hg8)
          clear hg8
          go_wp2_with (at_mapUpdate; refine wpList_mapUpdate_own _ rfl _ _ _ 79 rfl 3 80 Try.keyed3 Try.underlying79 (unitElem (H := Unit)) (w.heap.size + 1) 0 _ rfl ho8.out (by unfold maxLen; omega) _ _ _ rfl rfl HKEY.out _ [] unitElem_mk ?_; intro w5 hown5 hgrow5)
          have hb8 := below_then HB2.out HG8.out (by omega)
          have hz8 : w.heap.size + 2 ≤ w5.heap.size := by have := HG8.out.size; have := hgrow5.size; omega
          have hb5 := below_grown hb8 hgrow5 (by have := HG8.out.size; omega) (fun k hk => by cases hk; omega)
          have hN5 : Hid (w5.heap[w.heap.size]? = w2.heap[w.heap.size]?) := by
            show _ = _
            rw [hgrow5.block w.heap.size (by have := HG8.out.size; omega) (by simp)]
            rw [NV8.out, NV.out]
          have hN6 : Hid (w5.heap[w.heap.size]? = some (Obj.cells #[.int .i64 0, .int .i64 next, .int .i64 seq, .slice (some ⟨vb, vo, none⟩) l.length vc] 24)) := by
            show _ = _
            rw [hN5.out]
            exact NV.out
          have ho5 : w5.ownsMap Try.prog 3 (unitElem (H := Unit)) (w.heap.size + 1) (0 + 1) (Maps.setOf (.agg []) (keysP (l.take (0 + 1)))) := by
            rw [List.take_succ_eq_append_getElem (by omega), keysP_snoc, HP.out]
            exact hown5
          go_roundg (l.length - (0 + 1))
          case measure => omega
          case rel => exact ⟨0 + 1, by omega, rfl, by go_num, ho5, hN6, hb5, hz8, hnx⟩
        · obtain ⟨j, rfl⟩ : ∃ j, k = j + 1 := ⟨k - 1, by omega⟩
          obtain ⟨x', y', ⟨q0, q1, q2, q3, q4⟩, hqc⟩ := HV5.out j (by omega)
          have hbe := behindP_succ apartL l j (by omega) ⟨pn, pl, pc, pa, pb⟩
          obtain ⟨q, hq⟩ : ∃ q, l[j] = q := ⟨_, rfl⟩
          rw [hq] at q0 q1 q2 hqc hbe
          obtain ⟨ap, hap⟩ : ∃ ap, apartL q ⟨pn, pl, pc, pa, pb⟩ = ap := ⟨_, rfl⟩
          rw [hap] at hbe
          have HAT2 : Hid (t = (ap && tabsK apartL next (l.take (j + 1 + 1)) (l.drop (j + 1 + 1)))) := by
            have := HAT.out
            rw [hbe] at this
            exact this
          have HAP := Lib.hid hap
          have s2 := hqc.shape
          have HQC := Lib.hid hqc
          clear HAT hbe hq hap hqc hk0
          obtain ⟨qn, ql, qc, qa, qb⟩ := q
          simp only at *
          obtain ⟨⟨c1, c2, rfl⟩, d1, d2, rfl⟩ := s2
          have hvb0 : vb < wr.heap.size := World.block_lt_of_cell? wr _ q0
          have hvb : vb < w2.heap.size := Nat.lt_of_lt_of_le hvb0 HY.out.size
          have e0 := HCG.out _ _ (cell_later HY.out q0) hvb
          have e1 := HCG.out _ _ (cell_later HY.out q1) hvb
          have e2 := HCG.out _ _ (cell_later HY.out q2) hvb
          have e3 := HCG.out _ _ (cell_later HY.out q3) hvb
          have e4 := HCG.out _ _ (cell_later HY.out q4) hvb
          have hqg : ∀ n os, PlC (Sort.grow (w2.drewN n) os) (.slice c1 qa.length c2) (.slice d1 qb.length d2) ⟨qn, ql, qc, qa, qb⟩ := fun n os => (HQC.out.below HY.out).below ((Grn.refl w2).grow n os).below
          have HQG := Lib.hid hqg
          clear q0 q1 q2 q3 q4 hqg
          have hd : decide ((0 : Int) < ((j + 1 : Nat) : Int)) = true := decide_eq_true (by omega)
          have n0 : (0 : Int) < (j : Int) + 1 := by omega
          have n1 : IntKind.i64.wrap ((j : Int) + 1 - 1) = (j : Int) := by rw [show (j : Int) + 1 - 1 = j by omega, IntKind.wrap_i64]; omega
          have n5 : IntKind.i64.wrap (j : Int) = (j : Int) := by rw [IntKind.wrap_i64]; omega
          have n2 : (j : Int) < (l.length : Int) := by omega
          have n3 : (0 : Int) ≤ (j : Int) := by omega
          cases ap with
          | false =>
            obtain rfl : t = false := by rw [HAT2.out]; rfl
            clear HAT2
            (refine wp_region_quiet_grown (by kernel_rfl) (by kernel_rfl) ?_; (repeat (go_big_quiet_step (first | (go_at_call 40; refine grn_calls (v := Value.bool true) ?_; refine table_any _ _ ⟨pn, pl, pc, pa, pb⟩ next true HTB.out _ (HPG.out _ _) _ ?_; intro w' hw'; exact ⟨rfl, hw'⟩) | (go_at_call 41; refine grn_calls (v := Value.bool false) ?_; refine apart_any _ _ _ _ ⟨qn, ql, qc, qa, qb⟩ ⟨pn, pl, pc, pa, pb⟩ false HAP.out _ (HQG.out _ _) (HPG.out _ _) _ ?_; intro w' hw'; exact ⟨rfl, hw'⟩)))); refine wpQuiet_nil ?_; intro _ hw'; obtain ⟨⟨nq, osq⟩, hw''⟩ := hw'; subst hw'')
            go_wp2
            all_goals exact HR.out _ (below_then HB2.out ((Grn.refl w2).grow nq osq).below (by omega))
          | true =>
            have hnx : Hid (tabsK apartL next (l.take (j + 1 + 1)) (l.drop (j + 1 + 1)) = t) := Lib.hid HAT2.out.symm
            clear HAT2
            (refine wp_region_quiet_grown (by kernel_rfl) (by kernel_rfl) ?_; (repeat (go_big_quiet_step (first | (go_at_call 40; refine grn_calls (v := Value.bool true) ?_; refine table_any _ _ ⟨pn, pl, pc, pa, pb⟩ next true HTB.out _ (HPG.out _ _) _ ?_; intro w' hw'; exact ⟨rfl, hw'⟩) | (go_at_call 41; refine grn_calls (v := Value.bool true) ?_; refine apart_any _ _ _ _ ⟨qn, ql, qc, qa, qb⟩ ⟨pn, pl, pc, pa, pb⟩ true HAP.out _ (HQG.out _ _) (HPG.out _ _) _ ?_; intro w' hw'; exact ⟨rfl, hw'⟩)))); refine wpQuiet_nil ?_; intro _ hw'; obtain ⟨⟨nq, osq⟩, hw''⟩ := hw'; subst hw'')
            have hg8 := ((Grn.refl w2).grow nq osq).below
            have HG8 := Lib.hid hg8
            have ho8 := Lib.hid (HO.out.kept (grown_bel hg8 (row := none)) (by simp))
            have NV8 := Lib.hid (row_on NV.out hg8)
            clear hg8
            go_wp2_with (at_mapUpdate; refine wpList_mapUpdate_own _ rfl _ _ _ 79 rfl 3 80 Try.keyed3 Try.underlying79 (unitElem (H := Unit)) (w.heap.size + 1) (j + 1) _ rfl ho8.out (by unfold maxLen; omega) _ _ _ rfl rfl HKEY.out _ [] unitElem_mk ?_; intro w5 hown5 hgrow5)
            have hb8 := below_then HB2.out HG8.out (by omega)
            have hz8 : w.heap.size + 2 ≤ w5.heap.size := by have := HG8.out.size; have := hgrow5.size; omega
            have hb5 := below_grown hb8 hgrow5 (by have := HG8.out.size; omega) (fun k hk => by cases hk; omega)
            have hN5 : Hid (w5.heap[w.heap.size]? = w2.heap[w.heap.size]?) := by
              show _ = _
              rw [hgrow5.block w.heap.size (by have := HG8.out.size; omega) (by simp)]
              rw [NV8.out, NV.out]
            have hN6 : Hid (w5.heap[w.heap.size]? = some (Obj.cells #[.int .i64 0, .int .i64 next, .int .i64 seq, .slice (some ⟨vb, vo, none⟩) l.length vc] 24)) := by
              show _ = _
              rw [hN5.out]
              exact NV.out
            have ho5 : w5.ownsMap Try.prog 3 (unitElem (H := Unit)) (w.heap.size + 1) ((j + 1) + 1) (Maps.setOf (.agg []) (keysP (l.take ((j + 1) + 1)))) := by
              rw [List.take_succ_eq_append_getElem (by omega), keysP_snoc, HP.out]
              exact hown5
            go_roundg (l.length - ((j + 1) + 1))
            case measure => omega
            case rel => exact ⟨(j + 1) + 1, by omega, rfl, by go_num, ho5, hN6, hb5, hz8, hnx⟩
      · have hkk : ¬ (k : Int) < (l.length : Int) := by omega
        obtain rfl : t = true := by rw [← HS.out, tabsK_end _ _ _ _ (by omega)]
        clear HS
        go_wp2
        exact HR.out _ hbw
  · clear h4
    go_enter Try.func13, Try.ntmps13
    go_wp2_with (first | (go_at_call_of 39 (Value.int .i64 log); go_must (refine number_any log true H1.out _ _ ?_)) | (go_at_call_of 39 (Value.int .i64 next); go_must (refine number_any next true H2.out _ _ ?_)) | (go_at_call_of 39 (Value.int .i64 seq); go_must (refine number_any seq true H3.out _ _ ?_)))
    have hM := HM.out _ (Lib.hid rfl)
    clear HM hmm
    generalize (w.alloc (Obj.cells #[.int .i64 log, .int .i64 next, .int .i64 seq, .slice va l.length vc] 24)).alloc (Obj.map #[] 0) = w1 at hM ⊢
    obtain ⟨hM0, hN0, hB0, hZ0⟩ := hM
    clear N0 HB H1 H2 H3
    go_loopg [40] l.length (fun gn i wr => ∃ k : Nat, k ≤ l.length ∧ gn = l.length - k ∧ i = .int .i64 k ∧ wr.ownsMap Try.prog 3 (unitElem (H := Unit)) (w.heap.size + 1) k (Maps.setOf (.agg []) (keysP (l.take k))) ∧ Hid (wr.heap[w.heap.size]? = some (Obj.cells #[.int .i64 log, .int .i64 next, .int .i64 seq, .slice va l.length vc] 24)) ∧ Below w.heap.size w wr ∧ w.heap.size + 2 ≤ wr.heap.size ∧ Hid (tabsK apartL next (l.take k) (l.drop k) = t))
    case atStart => exact ⟨0, Nat.zero_le _, by omega, rfl, hM0, hN0, hB0, hZ0, HT⟩
    case round =>
      obtain ⟨k, hk, rfl, rfl, hown, HN, hbw, hz, HS⟩ := hrel
      clear hM0 hN0 hB0 hZ0 HT
      by_cases hlt : k < l.length
      · have hkk : (k : Int) < (l.length : Int) := by omega
        obtain ⟨va', vc', ee, _, _, _, v4⟩ := HV.out.below hbw
        simp only [Value.slice.injEq] at ee
        obtain ⟨rfl, -, rfl⟩ := ee
        obtain ⟨vb, vo, rfl, v5⟩ := v4 (by omega)
        obtain ⟨x, y, ⟨p0, p1, p2, p3, p4⟩, hpc⟩ := v5 k hlt
        have hat := tabsK_at apartL next l k hlt
        rw [HS.out] at hat
        obtain ⟨p, hp⟩ : ∃ p, l[k] = p := ⟨_, rfl⟩
        rw [hp] at p0 p1 p2 hpc hat
        have hkey : keyOf Try.prog 3 (.int .i64 p.num) = some (.int .i64 p.num) := Maps.keyOf_int_mk Try.underlying3 (WalkArith.wf_i64 ⟨hpc.hb.n0, hpc.hb.n1⟩)
        have hhas := keysP_has (l.take k) p.num
        obtain ⟨tw, htw⟩ : ∃ tw, ((l.take k).any fun q => decide (q.num = p.num)) = tw := ⟨_, rfl⟩
        rw [htw] at hhas hat
        have HHAS := Lib.hid hhas
        have HAT := Lib.hid hat
        have HKEY := Lib.hid hkey
        have HPC := Lib.hid hpc
        have HTW := Lib.hid htw
        have s1 := hpc.shape
        have HP := Lib.hid hp
        have HV5 := Lib.hid v5
        clear v4 v5 hp hat hhas hkey hpc HS htw
        obtain ⟨pn, pl, pc, pa, pb⟩ := p
        simp only at *
        obtain ⟨⟨a1, a2, rfl⟩, b1, b2, rfl⟩ := s1
        go_wp2_with (at_lookup; refine wpList_lookup_own_unit _ rfl _ _ 79 rfl 3 80 Try.keyed3 Try.underlying79 (Try.zero80 _) (w.heap.size + 1) k _ rfl (hown.alloc _) _ _ rfl HKEY.out ?_; rw [HHAS.out])
        have hyA : Below wr.heap.size wr ((wr.alloc (Obj.cells #[.int .i64 pn, .int .i64 pl, .int .i64 pc, .slice a1 pa.length a2, .slice b1 pb.length b2] 41)).alloc (Obj.cells #[] 80)) := ((Below.refl _ _).alloc (Nat.le_refl _) _).alloc (by simp) _
        have nP : ((wr.alloc (Obj.cells #[.int .i64 pn, .int .i64 pl, .int .i64 pc, .slice a1 pa.length a2, .slice b1 pb.length b2] 41)).alloc (Obj.cells #[] 80)).heap[wr.heap.size]? = some (Obj.cells #[.int .i64 pn, .int .i64 pl, .int .i64 pc, .slice a1 pa.length a2, .slice b1 pb.length b2] 41) := block_alloc (heap_alloc_new wr _)
        have HO := Lib.hid ((hown.alloc (Obj.cells #[.int .i64 pn, .int .i64 pl, .int .i64 pc, .slice a1 pa.length a2, .slice b1 pb.length b2] 41)).alloc (Obj.cells #[] 80))
        have hzP : wr.heap.size + 2 ≤ ((wr.alloc (Obj.cells #[.int .i64 pn, .int .i64 pl, .int .i64 pc, .slice a1 pa.length a2, .slice b1 pb.length b2] 41)).alloc (Obj.cells #[] 80)).heap.size := by simp
        clear hown p0 p1 p2 p3 p4
        generalize (wr.alloc (Obj.cells #[.int .i64 pn, .int .i64 pl, .int .i64 pc, .slice a1 pa.length a2, .slice b1 pb.length b2] 41)).alloc (Obj.cells #[] 80) = w2 at hyA nP HO hzP ⊢
        have NP := Lib.hid nP
        have NV := Lib.hid (row_on HN.out hyA)
        have HB2 := Lib.hid (below_then hbw hyA (by omega))
        have HY := Lib.hid hyA
        clear nP hyA HN
        cases tw with
        | true =>
          obtain rfl : t = false := by rw [HAT.out]; rfl
          clear HAT
          (refine wp_region_quiet_grown (by kernel_rfl) (by kernel_rfl) ?_; (repeat (go_big_quiet_step (fail))); refine wpQuiet_nil ?_; intro _ hw'; obtain ⟨⟨nq, osq⟩, hw''⟩ := hw'; subst hw'')
          go_wp2
          all_goals exact HR.out _ (below_then HB2.out ((Grn.refl w2).grow nq osq).below (by omega))
        | false =>
        obtain ⟨tb, htb⟩ : ∃ tb, tableL ⟨pn, pl, pc, pa, pb⟩ next = tb := ⟨_, rfl⟩
        rw [htb] at HAT
        have HTB := Lib.hid htb
        have hcg : ∀ (A : Addr) (u : Value), w2.cell? A = some u → A.block < w2.heap.size → ∀ n os, (Sort.grow (w2.drewN n) os).cell? A = some u := fun A u h hA n os => cell_grown hA h n os
        have g0 := hcg _ _ (cell_of_row _ w.heap.size 1 _ _ _ NV.out) (by show w.heap.size < _; omega)
        have g1 := hcg _ _ (cell_of_row _ w.heap.size 3 _ _ _ NV.out) (by show w.heap.size < _; omega)
        have f0 := hcg _ _ (cell_of_row _ wr.heap.size 0 _ _ _ NP.out) (by show wr.heap.size < _; omega)
        have f1 := hcg _ _ (cell_of_row _ wr.heap.size 1 _ _ _ NP.out) (by show wr.heap.size < _; omega)
        have f2 := hcg _ _ (cell_of_row _ wr.heap.size 2 _ _ _ NP.out) (by show wr.heap.size < _; omega)
        have f3 := hcg _ _ (cell_of_row _ wr.heap.size 3 _ _ _ NP.out) (by show wr.heap.size < _; omega)
        have f4 := hcg _ _ (cell_of_row _ wr.heap.size 4 _ _ _ NP.out) (by show wr.heap.size < _; omega)
        clear htb
        change ∀ n os, _ = some (Value.int .i64 next) at g0
        change ∀ n os, _ = some (Value.slice (some ⟨vb, vo, none⟩) l.length vc) at g1
        change ∀ n os, _ = some (Value.int .i64 pn) at f0
        change ∀ n os, _ = some (Value.int .i64 pl) at f1
        change ∀ n os, _ = some (Value.int .i64 pc) at f2
        change ∀ n os, _ = some (Value.slice a1 pa.length a2) at f3
        change ∀ n os, _ = some (Value.slice b1 pb.length b2) at f4
        have hpg : ∀ n os, PlC (Sort.grow (w2.drewN n) os) (.slice a1 pa.length a2) (.slice b1 pb.length b2) ⟨pn, pl, pc, pa, pb⟩ := fun n os => (HPC.out.below HY.out).below ((Grn.refl w2).grow n os).below
        have HPG := Lib.hid hpg
        have HCG := Lib.hid hcg
        clear hpg hcg
        cases tb with
        | false =>
          obtain rfl : t = false := by rw [HAT.out]; rfl
          clear HAT
          (refine wp_region_quiet_grown (by kernel_rfl) (by kernel_rfl) ?_; (repeat (go_big_quiet_step (first | (go_at_call 40; refine grn_calls (v := Value.bool false) ?_; refine table_any _ _ ⟨pn, pl, pc, pa, pb⟩ next false HTB.out _ (HPG.out _ _) _ ?_; intro w' hw'; exact ⟨rfl, hw'⟩)))); refine wpQuiet_nil ?_; intro _ hw'; obtain ⟨⟨nq, osq⟩, hw''⟩ := hw'; subst hw'')
          go_wp2
          all_goals exact HR.out _ (below_then HB2.out ((Grn.refl w2).grow nq osq).below (by omega))
        | true =>
        by_cases hk0 : k = 0
        · subst hk0
          have hnx : Hid (tabsK apartL next (l.take (0 + 1)) (l.drop (0 + 1)) = t) := by
            have := HAT.out
            rw [behindP_zero] at this
            exact this.symm
          have hd : decide ((0 : Int) < ((0 : Nat) : Int)) = false := by simp
          clear HAT
          (refine wp_region_quiet_grown (by kernel_rfl) (by kernel_rfl) ?_; (repeat (go_big_quiet_step (first | (go_at_call 40; refine grn_calls (v := Value.bool true) ?_; refine table_any _ _ ⟨pn, pl, pc, pa, pb⟩ next true HTB.out _ (HPG.out _ _) _ ?_; intro w' hw'; exact ⟨rfl, hw'⟩)))); refine wpQuiet_nil ?_; intro _ hw'; obtain ⟨⟨nq, osq⟩, hw''⟩ := hw'; subst hw'')
          have hg8 := ((Grn.refl w2).grow nq osq).below
          have HG8 := Lib.hid hg8
          have ho8 := Lib.hid (HO.out.kept (grown_bel hg8 (row := none)) (by simp))
          have NV8 := Lib.hid (row_on NV.out hg8)
          clear hg8
          go_wp2_with (at_mapUpdate; refine wpList_mapUpdate_own _ rfl _ _ _ 79 rfl 3 80 Try.keyed3 Try.underlying79 (unitElem (H := Unit)) (w.heap.size + 1) 0 _ rfl ho8.out (by unfold maxLen; omega) _ _ _ rfl rfl HKEY.out _ [] unitElem_mk ?_; intro w5 hown5 hgrow5)
          have hb8 := below_then HB2.out HG8.out (by omega)
          have hz8 : w.heap.size + 2 ≤ w5.heap.size := by have := HG8.out.size; have := hgrow5.size; omega
          have hb5 := below_grown hb8 hgrow5 (by have := HG8.out.size; omega) (fun k hk => by cases hk; omega)
          have hN5 : Hid (w5.heap[w.heap.size]? = w2.heap[w.heap.size]?) := by
            show _ = _
            rw [hgrow5.block w.heap.size (by have := HG8.out.size; omega) (by simp)]
            rw [NV8.out, NV.out]
          have hN6 : Hid (w5.heap[w.heap.size]? = some (Obj.cells #[.int .i64 log, .int .i64 next, .int .i64 seq, .slice (some ⟨vb, vo, none⟩) l.length vc] 24)) := by
            show _ = _
            rw [hN5.out]
            exact NV.out
          have ho5 : w5.ownsMap Try.prog 3 (unitElem (H := Unit)) (w.heap.size + 1) (0 + 1) (Maps.setOf (.agg []) (keysP (l.take (0 + 1)))) := by
            rw [List.take_succ_eq_append_getElem (by omega), keysP_snoc, HP.out]
            exact hown5
          go_roundg (l.length - (0 + 1))
          case measure => omega
          case rel => exact ⟨0 + 1, by omega, rfl, by go_num, ho5, hN6, hb5, hz8, hnx⟩
        · obtain ⟨j, rfl⟩ : ∃ j, k = j + 1 := ⟨k - 1, by omega⟩
          obtain ⟨x', y', ⟨q0, q1, q2, q3, q4⟩, hqc⟩ := HV5.out j (by omega)
          have hbe := behindP_succ apartL l j (by omega) ⟨pn, pl, pc, pa, pb⟩
          obtain ⟨q, hq⟩ : ∃ q, l[j] = q := ⟨_, rfl⟩
          rw [hq] at q0 q1 q2 hqc hbe
          obtain ⟨ap, hap⟩ : ∃ ap, apartL q ⟨pn, pl, pc, pa, pb⟩ = ap := ⟨_, rfl⟩
          rw [hap] at hbe
          have HAT2 : Hid (t = (ap && tabsK apartL next (l.take (j + 1 + 1)) (l.drop (j + 1 + 1)))) := by
            have := HAT.out
            rw [hbe] at this
            exact this
          have HAP := Lib.hid hap
          have s2 := hqc.shape
          have HQC := Lib.hid hqc
          clear HAT hbe hq hap hqc hk0
          obtain ⟨qn, ql, qc, qa, qb⟩ := q
          simp only at *
          obtain ⟨⟨c1, c2, rfl⟩, d1, d2, rfl⟩ := s2
          have hvb0 : vb < wr.heap.size := World.block_lt_of_cell? wr _ q0
          have hvb : vb < w2.heap.size := Nat.lt_of_lt_of_le hvb0 HY.out.size
          have e0 := HCG.out _ _ (cell_later HY.out q0) hvb
          have e1 := HCG.out _ _ (cell_later HY.out q1) hvb
          have e2 := HCG.out _ _ (cell_later HY.out q2) hvb
          have e3 := HCG.out _ _ (cell_later HY.out q3) hvb
          have e4 := HCG.out _ _ (cell_later HY.out q4) hvb
          have hqg : ∀ n os, PlC (Sort.grow (w2.drewN n) os) (.slice c1 qa.length c2) (.slice d1 qb.length d2) ⟨qn, ql, qc, qa, qb⟩ := fun n os => (HQC.out.below HY.out).below ((Grn.refl w2).grow n os).below
          have HQG := Lib.hid hqg
          clear q0 q1 q2 q3 q4 hqg
          have hd : decide ((0 : Int) < ((j + 1 : Nat) : Int)) = true := decide_eq_true (by omega)
          have n0 : (0 : Int) < (j : Int) + 1 := by omega
          have n1 : IntKind.i64.wrap ((j : Int) + 1 - 1) = (j : Int) := by rw [show (j : Int) + 1 - 1 = j by omega, IntKind.wrap_i64]; omega
          have n5 : IntKind.i64.wrap (j : Int) = (j : Int) := by rw [IntKind.wrap_i64]; omega
          have n2 : (j : Int) < (l.length : Int) := by omega
          have n3 : (0 : Int) ≤ (j : Int) := by omega
          cases ap with
          | false =>
            obtain rfl : t = false := by rw [HAT2.out]; rfl
            clear HAT2
            (refine wp_region_quiet_grown (by kernel_rfl) (by kernel_rfl) ?_; (repeat (go_big_quiet_step (first | (go_at_call 40; refine grn_calls (v := Value.bool true) ?_; refine table_any _ _ ⟨pn, pl, pc, pa, pb⟩ next true HTB.out _ (HPG.out _ _) _ ?_; intro w' hw'; exact ⟨rfl, hw'⟩) | (go_at_call 41; refine grn_calls (v := Value.bool false) ?_; refine apart_any _ _ _ _ ⟨qn, ql, qc, qa, qb⟩ ⟨pn, pl, pc, pa, pb⟩ false HAP.out _ (HQG.out _ _) (HPG.out _ _) _ ?_; intro w' hw'; exact ⟨rfl, hw'⟩)))); refine wpQuiet_nil ?_; intro _ hw'; obtain ⟨⟨nq, osq⟩, hw''⟩ := hw'; subst hw'')
            go_wp2
            all_goals exact HR.out _ (below_then HB2.out ((Grn.refl w2).grow nq osq).below (by omega))
          | true =>
            have hnx : Hid (tabsK apartL next (l.take (j + 1 + 1)) (l.drop (j + 1 + 1)) = t) := Lib.hid HAT2.out.symm
            clear HAT2
            (refine wp_region_quiet_grown (by kernel_rfl) (by kernel_rfl) ?_; (repeat (go_big_quiet_step (first | (go_at_call 40; refine grn_calls (v := Value.bool true) ?_; refine table_any _ _ ⟨pn, pl, pc, pa, pb⟩ next true HTB.out _ (HPG.out _ _) _ ?_; intro w' hw'; exact ⟨rfl, hw'⟩) | (go_at_call 41; refine grn_calls (v := Value.bool true) ?_; refine apart_any _ _ _ _ ⟨qn, ql, qc, qa, qb⟩ ⟨pn, pl, pc, pa, pb⟩ true HAP.out _ (HQG.out _ _) (HPG.out _ _) _ ?_; intro w' hw'; exact ⟨rfl, hw'⟩)))); refine wpQuiet_nil ?_; intro _ hw'; obtain ⟨⟨nq, osq⟩, hw''⟩ := hw'; subst hw'')
            have hg8 := ((Grn.refl w2).grow nq osq).below
            have HG8 := Lib.hid hg8
            have ho8 := Lib.hid (HO.out.kept (grown_bel hg8 (row := none)) (by simp))
            have NV8 := Lib.hid (row_on NV.out hg8)
            clear hg8
            go_wp2_with (at_mapUpdate; refine wpList_mapUpdate_own _ rfl _ _ _ 79 rfl 3 80 Try.keyed3 Try.underlying79 (unitElem (H := Unit)) (w.heap.size + 1) (j + 1) _ rfl ho8.out (by unfold maxLen; omega) _ _ _ rfl rfl HKEY.out _ [] unitElem_mk ?_; intro w5 hown5 hgrow5)
            have hb8 := below_then HB2.out HG8.out (by omega)
            have hz8 : w.heap.size + 2 ≤ w5.heap.size := by have := HG8.out.size; have := hgrow5.size; omega
            have hb5 := below_grown hb8 hgrow5 (by have := HG8.out.size; omega) (fun k hk => by cases hk; omega)
            have hN5 : Hid (w5.heap[w.heap.size]? = w2.heap[w.heap.size]?) := by
              show _ = _
              rw [hgrow5.block w.heap.size (by have := HG8.out.size; omega) (by simp)]
              rw [NV8.out, NV.out]
            have hN6 : Hid (w5.heap[w.heap.size]? = some (Obj.cells #[.int .i64 log, .int .i64 next, .int .i64 seq, .slice (some ⟨vb, vo, none⟩) l.length vc] 24)) := by
              show _ = _
              rw [hN5.out]
              exact NV.out
            have ho5 : w5.ownsMap Try.prog 3 (unitElem (H := Unit)) (w.heap.size + 1) ((j + 1) + 1) (Maps.setOf (.agg []) (keysP (l.take ((j + 1) + 1)))) := by
              rw [List.take_succ_eq_append_getElem (by omega), keysP_snoc, HP.out]
              exact hown5
            go_roundg (l.length - ((j + 1) + 1))
            case measure => omega
            case rel => exact ⟨(j + 1) + 1, by omega, rfl, by go_num, ho5, hN6, hb5, hz8, hnx⟩
      · have hkk : ¬ (k : Int) < (l.length : Int) := by omega
        obtain rfl : t = true := by rw [← HS.out, tabsK_end _ _ _ _ (by omega)]
        clear HS
        go_wp2
        exact HR.out _ hbw
end Go.Proofs.Ytpodgocmcnkfdaa
