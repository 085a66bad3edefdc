/- The statements' helpers on versions and edits: num, cut, cutEdit: walked. -/
import Derived.Test.YtpodgocmcnkfdaaAppB
import Derived.Test.YtpodgocmcnkfdaaPlsT
namespace Go.Proofs.Ytpodgocmcnkfdaa
open Go.RowKit

theorem num8_any (n : Int) (w : World) (R : Ending → World → Prop) (hR : R (.returned (.int .i64 n)) w) : Calls Try.prog 12 #[.int .i64 n] w R := by
  go_enter Try.func12, Try.ntmps12
  go_wp2
  exact hR

theorem Pls.len_le {w : World} {v : Value} {l : List Pl} (h : Pls w v l) : l.length ≤ 9223372036854775807 := by
  obtain ⟨ad, c, _, h1, h2, _⟩ := h
  omega

set_option maxRecDepth 100000 in
set_option maxHeartbeats 1600000 in
theorem cutv8_any (log next seq : Int) (v : Value) (l : List Pl) (wK w : World) (hv : Pls wK v l) (R : Ending → World → Prop)
    (hR : ∀ v' w', Pls wK v' (l.take 30) → Below w.heap.size w w' → R (.returned (.agg #[.int .i64 log, .int .i64 next, .int .i64 seq, v'])) w') :
    Calls Try.prog 7 #[.agg #[.int .i64 log, .int .i64 next, .int .i64 seq, v]] w R := by
  have HR := Lib.hid hR
  have HV := Lib.hid hv
  obtain ⟨va, vc, rfl, v1, v2, v3, _⟩ := hv
  have hb0 : Below w.heap.size w ((w.alloc (vnO log next seq (.slice va l.length vc))).alloc zvO) := ((Below.refl w.heap.size w).alloc (Nat.le_refl _) _).alloc (by simp) _
  have n0 : ((w.alloc (vnO log next seq (.slice va l.length vc))).alloc zvO).heap[w.heap.size]? = some (vnO log next seq (.slice va l.length vc)) := block_alloc (heap_alloc_new w _)
  have n1 : ((w.alloc (vnO log next seq (.slice va l.length vc))).alloc zvO).heap[w.heap.size + 1]? = some zvO := by
    have h := heap_alloc_new (w.alloc (vnO log next seq (.slice va l.length vc))) zvO
    rw [show (w.alloc (vnO log next seq (.slice va l.length vc))).heap.size = w.heap.size + 1 by simp] at h
    exact h
  unfold vnO zvO at hb0 n0 n1
  have HB0 := Lib.hid hb0
  have N0 := Lib.hid n0
  have N1 := Lib.hid n1
  clear hR hb0 n0 n1
  by_cases h30 : 30 < l.length
  · have h30z : (30 : Int) < (l.length : Int) := by omega
    have hcz : (30 : Int) ≤ (vc : Int) := by omega
    have hvt := HV.out.take (j := 30) (by omega)
    obtain ⟨vb, vo, rfl⟩ := HV.out.head (by omega)
    have HVT := Lib.hid hvt
    clear hvt
    go_enter Try.func7, Try.ntmps7
    go_wp2
    have hb2 : Below w.heap.size w ((w.alloc (Obj.cells #[Value.int .i64 log, .int .i64 next, .int .i64 seq, .slice (some ⟨vb, vo, none⟩) 30 vc] 24)).alloc (Obj.cells #[Value.int .i64 log, .int .i64 next, .int .i64 seq, .slice (some ⟨vb, vo, none⟩) 30 vc] 24)) := ((Below.refl w.heap.size w).alloc (Nat.le_refl _) _).alloc (by simp) _
    have hn2 := heap_alloc_new (w.alloc (Obj.cells #[Value.int .i64 log, .int .i64 next, .int .i64 seq, .slice (some ⟨vb, vo, none⟩) 30 vc] 24)) (Obj.cells #[Value.int .i64 log, .int .i64 next, .int .i64 seq, .slice (some ⟨vb, vo, none⟩) 30 vc] 24)
    rw [show (w.alloc (Obj.cells #[Value.int .i64 log, .int .i64 next, .int .i64 seq, .slice (some ⟨vb, vo, none⟩) 30 vc] 24)).heap.size = w.heap.size + 1 by simp] at hn2
    refine bodyPost_ret (results_cell_row rfl _ _ (w.heap.size + 1) 24 #[Value.int .i64 log, .int .i64 next, .int .i64 seq, .slice (some ⟨vb, vo, none⟩) 30 vc] (0, 0) _ rfl hn2 Try.underlying24 rfl (by kernel_rfl)) rfl ?_
    exact HR.out _ _ HVT.out hb2
  · have h30z : ¬ (30 : Int) < (l.length : Int) := by omega
    have hlt : l.take 30 = l := List.take_of_length_le (by omega)
    have HLT := Lib.hid hlt
    clear hlt
    go_enter Try.func7, Try.ntmps7
    go_wp2_with (refine wpList_store_row (o := ⟨none, .store 24 (.tmp 2) (.tmp 11), _, _, _, _⟩) (by rfl) 24 (.tmp 2) (.tmp 11) (by rfl) (w.heap.size + 1) _ (by rfl) (by rfl) 24 _ N1.out (by kernel_rfl) (by rfl) (by simp [Value.oneCell']) ?_)
    refine bodyPost_ret (results_cell_row rfl _ _ (w.heap.size + 1) 24 #[Value.int .i64 log, .int .i64 next, .int .i64 seq, .slice va l.length vc] (0, 0) _ rfl (setRow_heap _ (w.heap.size + 1) _ _ _ _ N1.out) Try.underlying24 rfl (by kernel_rfl)) rfl ?_
    have hb2 := below_setRow (cs := #[Value.int .i64 log, .int .i64 next, .int .i64 seq, .slice va l.length vc]) HB0.out (Nat.le_succ _)
    exact HR.out _ _ (by rw [HLT.out]; exact HV.out) hb2

set_option maxRecDepth 100000 in
set_option maxHeartbeats 3200000 in
theorem cute8_any (log next seq : Int) (av dv : Value) (add : List Pl) (dr : List Int) (wK w : World) (hav : Pls wK av add) (hdv : Is wK dv dr) (R : Ending → World → Prop)
    (hR : ∀ av' dv' w', Pls wK av' (add.take 20) → Is wK dv' (dr.take 20) → Below w.heap.size w w' → R (.returned (.agg #[.int .i64 log, .int .i64 next, .int .i64 seq, av', dv'])) w') :
    Calls Try.prog 8 #[.agg #[.int .i64 log, .int .i64 next, .int .i64 seq, av, dv]] w R := by
  have HR := Lib.hid hR
  have HA := Lib.hid hav
  have HD := Lib.hid hdv
  have hal := hav.len_le
  have hdl := hdv.len
  obtain ⟨aa, ac, rfl, a1, a2, a3, _⟩ := hav
  obtain ⟨da, dc, rfl, _, d1, d2, d3⟩ := hdv
  clear hR
  by_cases h1 : 20 < add.length
  · have h1z : (20 : Int) < (add.length : Int) := by omega
    have hcz : (20 : Int) ≤ (ac : Int) := by omega
    have hvt := HA.out.take (j := 20) (by omega)
    obtain ⟨vb, vo, rfl⟩ := HA.out.head (by omega)
    have HVT := Lib.hid hvt
    clear hvt
    by_cases h2 : 20 < dr.length
    · have h2z : (20 : Int) < (dr.length : Int) := by omega
      have hdz : (20 : Int) ≤ (dc : Int) := by omega
      have hdt := HD.out.take (j := 20) (by omega)
      obtain ⟨db, do', rfl, _⟩ := HD.out.at 0 (by omega)
      have HDT := Lib.hid hdt
      clear hdt
      go_enter Try.func8, Try.ntmps8
      go_wp2
      have hb2 : Below w.heap.size w ((w.alloc (Obj.cells #[Value.int .i64 log, .int .i64 next, .int .i64 seq, (.slice (some ⟨vb, vo, none⟩) 20 ac), (.slice (some ⟨db, do', none⟩) 20 dc)] 27)).alloc (Obj.cells #[Value.int .i64 log, .int .i64 next, .int .i64 seq, (.slice (some ⟨vb, vo, none⟩) 20 ac), (.slice (some ⟨db, do', none⟩) 20 dc)] 27)) := ((Below.refl w.heap.size w).alloc (Nat.le_refl _) _).alloc (by simp) _
      have hn2 := heap_alloc_new (w.alloc (Obj.cells #[Value.int .i64 log, .int .i64 next, .int .i64 seq, (.slice (some ⟨vb, vo, none⟩) 20 ac), (.slice (some ⟨db, do', none⟩) 20 dc)] 27)) (Obj.cells #[Value.int .i64 log, .int .i64 next, .int .i64 seq, (.slice (some ⟨vb, vo, none⟩) 20 ac), (.slice (some ⟨db, do', none⟩) 20 dc)] 27)
      rw [show (w.alloc (Obj.cells #[Value.int .i64 log, .int .i64 next, .int .i64 seq, (.slice (some ⟨vb, vo, none⟩) 20 ac), (.slice (some ⟨db, do', none⟩) 20 dc)] 27)).heap.size = w.heap.size + 1 by simp] at hn2
      refine bodyPost_ret (results_cell_row rfl _ _ (w.heap.size + 1) 27 #[Value.int .i64 log, .int .i64 next, .int .i64 seq, (.slice (some ⟨vb, vo, none⟩) 20 ac), (.slice (some ⟨db, do', none⟩) 20 dc)] (0, 0) _ rfl hn2 Try.underlying27 rfl (by kernel_rfl)) rfl ?_
      exact HR.out _ _ _ (HVT.out) (HDT.out) hb2
    · have h2z : ¬ (20 : Int) < (dr.length : Int) := by omega
      have HDT : Hid (Is wK (.slice da dr.length dc) (dr.take 20)) := by rw [List.take_of_length_le (by omega)]; exact HD
      go_enter Try.func8, Try.ntmps8
      go_wp2
      have hb2 : Below w.heap.size w ((w.alloc (Obj.cells #[Value.int .i64 log, .int .i64 next, .int .i64 seq, (.slice (some ⟨vb, vo, none⟩) 20 ac), (.slice da dr.length dc)] 27)).alloc (Obj.cells #[Value.int .i64 log, .int .i64 next, .int .i64 seq, (.slice (some ⟨vb, vo, none⟩) 20 ac), (.slice da dr.length dc)] 27)) := ((Below.refl w.heap.size w).alloc (Nat.le_refl _) _).alloc (by simp) _
      have hn2 := heap_alloc_new (w.alloc (Obj.cells #[Value.int .i64 log, .int .i64 next, .int .i64 seq, (.slice (some ⟨vb, vo, none⟩) 20 ac), (.slice da dr.length dc)] 27)) (Obj.cells #[Value.int .i64 log, .int .i64 next, .int .i64 seq, (.slice (some ⟨vb, vo, none⟩) 20 ac), (.slice da dr.length dc)] 27)
      rw [show (w.alloc (Obj.cells #[Value.int .i64 log, .int .i64 next, .int .i64 seq, (.slice (some ⟨vb, vo, none⟩) 20 ac), (.slice da dr.length dc)] 27)).heap.size = w.heap.size + 1 by simp] at hn2
      refine bodyPost_ret (results_cell_row rfl _ _ (w.heap.size + 1) 27 #[Value.int .i64 log, .int .i64 next, .int .i64 seq, (.slice (some ⟨vb, vo, none⟩) 20 ac), (.slice da dr.length dc)] (0, 0) _ rfl hn2 Try.underlying27 rfl (by kernel_rfl)) rfl ?_
      exact HR.out _ _ _ (HVT.out) (HDT.out) hb2
  · have h1z : ¬ (20 : Int) < (add.length : Int) := by omega
    have HVT : Hid (Pls wK (.slice aa add.length ac) (add.take 20)) := by rw [List.take_of_length_le (by omega)]; exact HA
    by_cases h2 : 20 < dr.length
    · have h2z : (20 : Int) < (dr.length : Int) := by omega
      have hdz : (20 : Int) ≤ (dc : Int) := by omega
      have hdt := HD.out.take (j := 20) (by omega)
      obtain ⟨db, do', rfl, _⟩ := HD.out.at 0 (by omega)
      have HDT := Lib.hid hdt
      clear hdt
      go_enter Try.func8, Try.ntmps8
      go_wp2
      have hb2 : Below w.heap.size w ((w.alloc (Obj.cells #[Value.int .i64 log, .int .i64 next, .int .i64 seq, (.slice aa add.length ac), (.slice (some ⟨db, do', none⟩) 20 dc)] 27)).alloc (Obj.cells #[Value.int .i64 log, .int .i64 next, .int .i64 seq, (.slice aa add.length ac), (.slice (some ⟨db, do', none⟩) 20 dc)] 27)) := ((Below.refl w.heap.size w).alloc (Nat.le_refl _) _).alloc (by simp) _
      have hn2 := heap_alloc_new (w.alloc (Obj.cells #[Value.int .i64 log, .int .i64 next, .int .i64 seq, (.slice aa add.length ac), (.slice (some ⟨db, do', none⟩) 20 dc)] 27)) (Obj.cells #[Value.int .i64 log, .int .i64 next, .int .i64 seq, (.slice aa add.length ac), (.slice (some ⟨db, do', none⟩) 20 dc)] 27)
      rw [show (w.alloc (Obj.cells #[Value.int .i64 log, .int .i64 next, .int .i64 seq, (.slice aa add.length ac), (.slice (some ⟨db, do', none⟩) 20 dc)] 27)).heap.size = w.heap.size + 1 by simp] at hn2
      refine bodyPost_ret (results_cell_row rfl _ _ (w.heap.size + 1) 27 #[Value.int .i64 log, .int .i64 next, .int .i64 seq, (.slice aa add.length ac), (.slice (some ⟨db, do', none⟩) 20 dc)] (0, 0) _ rfl hn2 Try.underlying27 rfl (by kernel_rfl)) rfl ?_
      exact HR.out _ _ _ (HVT.out) (HDT.out) hb2
    · have h2z : ¬ (20 : Int) < (dr.length : Int) := by omega
      have HDT : Hid (Is wK (.slice da dr.length dc) (dr.take 20)) := by rw [List.take_of_length_le (by omega)]; exact HD
      go_enter Try.func8, Try.ntmps8
      go_wp2
      have hb2 : Below w.heap.size w ((w.alloc (Obj.cells #[Value.int .i64 log, .int .i64 next, .int .i64 seq, (.slice aa add.length ac), (.slice da dr.length dc)] 27)).alloc (Obj.cells #[Value.int .i64 log, .int .i64 next, .int .i64 seq, (.slice aa add.length ac), (.slice da dr.length dc)] 27)) := ((Below.refl w.heap.size w).alloc (Nat.le_refl _) _).alloc (by simp) _
      have hn2 := heap_alloc_new (w.alloc (Obj.cells #[Value.int .i64 log, .int .i64 next, .int .i64 seq, (.slice aa add.length ac), (.slice da dr.length dc)] 27)) (Obj.cells #[Value.int .i64 log, .int .i64 next, .int .i64 seq, (.slice aa add.length ac), (.slice da dr.length dc)] 27)
      rw [show (w.alloc (Obj.cells #[Value.int .i64 log, .int .i64 next, .int .i64 seq, (.slice aa add.length ac), (.slice da dr.length dc)] 27)).heap.size = w.heap.size + 1 by simp] at hn2
      refine bodyPost_ret (results_cell_row rfl _ _ (w.heap.size + 1) 27 #[Value.int .i64 log, .int .i64 next, .int .i64 seq, (.slice aa add.length ac), (.slice da dr.length dc)] (0, 0) _ rfl hn2 Try.underlying27 rfl (by kernel_rfl)) rfl ?_
      exact HR.out _ _ _ (HVT.out) (HDT.out) hb2
end Go.Proofs.Ytpodgocmcnkfdaa
