/- The law EditApplies, walked. -/
import Derived.Test.YtpodgocmcnkfdaaRApp
import Derived.Test.YtpodgocmcnkfdaaWakes8
import Derived.Test.YtpodgocmcnkfdaaTwin8
import Derived.Test.YtpodgocmcnkfdaaLent8
import Derived.Test.YtpodgocmcnkfdaaVerS
namespace Go.Proofs.Ytpodgocmcnkfdaa
open Go.RowKit

theorem put9_rows {x : World} {N t t' : Nat} {c d : Array Value} (h0 : x.heap[N]? = some (.cells c t (0, 0))) (h1 : x.heap[N + 1]? = some (.cells d t' (0, 0))) (hc : c.size = 4) (hd : d.size = 5) (a0 a1 a2 a3 b0 b1 b2 b3 b4 : Value) :
    (((((((((x.setCell ⟨N, 0, none⟩ a0).setCell ⟨N, 1, none⟩ a1).setCell ⟨N, 2, none⟩ a2).setCell ⟨N, 3, none⟩ a3).setCell ⟨N + 1, 0, none⟩ b0).setCell ⟨N + 1, 1, none⟩ b1).setCell ⟨N + 1, 2, none⟩ b2).setCell ⟨N + 1, 3, none⟩ b3).setCell ⟨N + 1, 4, none⟩ b4).heap[N]? = some (.cells #[a0, a1, a2, a3] t (0, 0)) ∧ (((((((((x.setCell ⟨N, 0, none⟩ a0).setCell ⟨N, 1, none⟩ a1).setCell ⟨N, 2, none⟩ a2).setCell ⟨N, 3, none⟩ a3).setCell ⟨N + 1, 0, none⟩ b0).setCell ⟨N + 1, 1, none⟩ b1).setCell ⟨N + 1, 2, none⟩ b2).setCell ⟨N + 1, 3, none⟩ b3).setCell ⟨N + 1, 4, none⟩ b4).heap[N + 1]? = some (.cells #[b0, b1, b2, b3, b4] t' (0, 0)) := by
  have k1 := heap_setCell_same _ _ 3 _ _ a3 (heap_setCell_same _ _ 2 _ _ a2 (heap_setCell_same _ _ 1 _ _ a1 (heap_setCell_same _ _ 0 _ _ a0 h0)))
  have k2 : ((((x.setCell ⟨N, 0, none⟩ a0).setCell ⟨N, 1, none⟩ a1).setCell ⟨N, 2, none⟩ a2).setCell ⟨N, 3, none⟩ a3).heap[N + 1]? = some (.cells d t' (0, 0)) := by
    rw [heap_setCell_other _ _ _ _ (by show N + 1 ≠ N; omega), heap_setCell_other _ _ _ _ (by show N + 1 ≠ N; omega), heap_setCell_other _ _ _ _ (by show N + 1 ≠ N; omega), heap_setCell_other _ _ _ _ (by show N + 1 ≠ N; omega)]
    exact h1
  constructor
  · rw [heap_setCell_other _ _ _ _ (by show N ≠ N + 1; omega), heap_setCell_other _ _ _ _ (by show N ≠ N + 1; omega), heap_setCell_other _ _ _ _ (by show N ≠ N + 1; omega), heap_setCell_other _ _ _ _ (by show N ≠ N + 1; omega), heap_setCell_other _ _ _ _ (by show N ≠ N + 1; omega), k1]
    match c, hc with
    | ⟨[_, _, _, _]⟩, _ => rfl
  · exact put5_row k2 hd b0 b1 b2 b3 b4
theorem below_put4 {B N : Nat} {w x : World} (h : Below B w x) (hN : B ≤ N) (a b c d : Value) : Below B w ((((x.setCell ⟨N, 0, none⟩ a).setCell ⟨N, 1, none⟩ b).setCell ⟨N, 2, none⟩ c).setCell ⟨N, 3, none⟩ d) := (((h.setCell hN a).setCell hN b).setCell hN c).setCell hN d
theorem v4_of_row {w : World} {M t : Nat} {a b c x : Value} (h : w.heap[M]? = some (.cells #[a, b, c, x] t (0, 0))) : w.cell? ⟨M, 0, none⟩ = some a ∧ w.cell? ⟨M, 1, none⟩ = some b ∧ w.cell? ⟨M, 2, none⟩ = some c ∧ w.cell? ⟨M, 3, none⟩ = some x :=
  ⟨cell_of_row w M 0 _ _ _ h, cell_of_row w M 1 _ _ _ h, cell_of_row w M 2 _ _ _ h, cell_of_row w M 3 _ _ _ h⟩
theorem v4_later {w w' : World} {M : Nat} {a b c x : Value} (hb : Below w.heap.size w w') (h : w.cell? ⟨M, 0, none⟩ = some a ∧ w.cell? ⟨M, 1, none⟩ = some b ∧ w.cell? ⟨M, 2, none⟩ = some c ∧ w.cell? ⟨M, 3, none⟩ = some x) :
    w'.cell? ⟨M, 0, none⟩ = some a ∧ w'.cell? ⟨M, 1, none⟩ = some b ∧ w'.cell? ⟨M, 2, none⟩ = some c ∧ w'.cell? ⟨M, 3, none⟩ = some x :=
  ⟨cell_later hb h.1, cell_later hb h.2.1, cell_later hb h.2.2.1, cell_later hb h.2.2.2⟩
theorem sameV_self (v : Vn) : sameV v v = true := by simp [sameV]
theorem via7 {α β γ δ ε ζ ω : Type} {H G : α → β → γ → δ → ε → ζ → ω → Prop} {goal : Prop} (m : (∀ a b c d e f w, H a b c d e f w → G a b c d e f w) → goal) (t : ∀ a b c d e f w, H a b c d e f w → G a b c d e f w) : goal := m t

set_option maxRecDepth 1000000 in
set_option maxHeartbeats 12800000 in
theorem applies_law (log next seq elog enext eseq : Int) (v av dv : Value) (l add : List Pl) (dr : List Int) (hwf : ∀ n ∈ dr, (Lit.int .i64 n).wf = true) (w : World) (hv : Pls w v l) (hav : Pls w av add) (hdv : Is w dv dr) (R : Ending → World → Prop)
    (hR : ∀ w', Below w.heap.size w w' → R (.returned (.bool true)) w') :
    Calls Try.prog 3 #[.agg #[.int .i64 log, .int .i64 next, .int .i64 seq, v], .agg #[.int .i64 elog, .int .i64 enext, .int .i64 eseq, av, dv]] w R := by
  have HR := Lib.hid hR
  have HV := Lib.hid hv
  have HA := Lib.hid hav
  have HD := Lib.hid hdv
  have HWF := Lib.hid hwf
  obtain ⟨va, vc, rfl, _⟩ := hv
  obtain ⟨aa, ac, rfl, _⟩ := hav
  obtain ⟨da, dc, rfl, _⟩ := hdv
  have hb0 : Below w.heap.size w ((w.alloc (vnO log next seq (.slice va l.length vc))).alloc (edO elog enext eseq (.slice aa add.length ac) (.slice da dr.length dc))) := ((Below.refl w.heap.size w).alloc (Nat.le_refl _) _).alloc (by simp) _
  have n0 : ((w.alloc (vnO log next seq (.slice va l.length vc))).alloc (edO elog enext eseq (.slice aa add.length ac) (.slice da dr.length dc))).heap[w.heap.size]? = some (vnO log next seq (.slice va l.length vc)) := block_alloc (heap_alloc_new w _)
  have n1 : ((w.alloc (vnO log next seq (.slice va l.length vc))).alloc (edO elog enext eseq (.slice aa add.length ac) (.slice da dr.length dc))).heap[w.heap.size + 1]? = some (edO elog enext eseq (.slice aa add.length ac) (.slice da dr.length dc)) := by
    have h := heap_alloc_new (w.alloc (vnO log next seq (.slice va l.length vc))) (edO elog enext eseq (.slice aa add.length ac) (.slice da dr.length dc))
    rw [show (w.alloc (vnO log next seq (.slice va l.length vc))).heap.size = w.heap.size + 1 by simp] at h
    exact h
  have hz0 : w.heap.size + 2 ≤ ((w.alloc (vnO log next seq (.slice va l.length vc))).alloc (edO elog enext eseq (.slice aa add.length ac) (.slice da dr.length dc))).heap.size := by simp
  unfold vnO edO at hb0 n0 n1 hz0
  clear hR hwf
  go_enter Try.func3, Try.ntmps3
  go_wp2_with fail
  generalize ((w.alloc (Obj.cells #[Value.int .i64 log, .int .i64 next, .int .i64 seq, .slice va l.length vc] 24)).alloc (Obj.cells #[Value.int .i64 elog, .int .i64 enext, .int .i64 eseq, .slice aa add.length ac, .slice da dr.length dc] 27)) = w1 at hb0 n0 n1 hz0 ⊢
  obtain ⟨L, hL⟩ : ∃ L, l.take 30 = L := ⟨_, rfl⟩
  obtain ⟨A, hA⟩ : ∃ A, add.take 20 = A := ⟨_, rfl⟩
  obtain ⟨D, hD⟩ : ∃ D, dr.take 20 = D := ⟨_, rfl⟩
  have hll : L.length ≤ 30 := by rw [← hL, List.length_take]; omega
  have hal : A.length ≤ 20 := by rw [← hA, List.length_take]; omega
  have hdl : D.length ≤ 20 := by rw [← hD, List.length_take]; omega
  have HWD : Hid (∀ n ∈ D, (Lit.int .i64 n).wf = true) := fun n hn => HWF.out n (by rw [← hD] at hn; exact List.mem_of_mem_take hn)
  have HL := Lib.hid hL
  have HAA := Lib.hid hA
  have HDD := Lib.hid hD
  have HB0 := Lib.hid hb0
  have HN0 : Hid (w1.drew.heap[w.heap.size]? = _) := n0
  have HN1 : Hid (w1.drew.heap[w.heap.size + 1]? = _) := n1
  have g0 := cell_of_row w1.drew w.heap.size 0 _ _ _ HN0.out
  have g1 := cell_of_row w1.drew w.heap.size 1 _ _ _ HN0.out
  have g2 := cell_of_row w1.drew w.heap.size 2 _ _ _ HN0.out
  have g3 := cell_of_row w1.drew w.heap.size 3 _ _ _ HN0.out
  obtain ⟨e0, e1, e2, e3, e4⟩ := pb_of_row HN1.out
  clear hL hA hD hb0 n0 n1
  apply via7 (H := fun (xa : Option Addr) (xc : Nat) (ya : Option Addr) (yc : Nat) (za : Option Addr) (zc : Nat) (w7 : World) => Hid (w7.heap[w.heap.size]? = some (Obj.cells #[Value.int .i64 log, .int .i64 next, .int .i64 seq, .slice xa L.length xc] 24)) ∧ Hid (w7.heap[w.heap.size + 1]? = some (Obj.cells #[Value.int .i64 elog, .int .i64 enext, .int .i64 eseq, .slice ya A.length yc, .slice za D.length zc] 27)) ∧ Hid (Pls w (.slice xa L.length xc) L) ∧ Hid (Pls w (.slice ya A.length yc) A) ∧ Hid (Is w (.slice za D.length zc) D) ∧ Hid (Below w.heap.size w w7) ∧ w.heap.size + 2 ≤ w7.heap.size)
  · intro TAIL
    have HTAIL := Lib.hid TAIL
    clear TAIL
    go_region_with (first
      | (go_at_call 7; refine cutv8_any log next seq _ l w _ HV.out _ ?_; intro v' w5 hv5 hb5; rw [HL.out] at hv5; have HV5 := Lib.hid hv5; obtain ⟨xa, xc, rfl, _⟩ := hv5; have hm1 := row_on HN1.out hb5; obtain ⟨f0, f1, f2, f3, f4⟩ := pb_of_row hm1; have HM0 := Lib.hid (row_on HN0.out hb5); have HM1 := Lib.hid hm1; have HB5 := Lib.hid hb5; clear hm1 hb5)
      | (go_at_call 8; refine cute8_any elog enext eseq _ _ add dr w _ HA.out HD.out _ ?_; intro av' dv' w6 ha6 hd6 hb6; rw [HAA.out] at ha6; rw [HDD.out] at hd6; have HA6 := Lib.hid ha6; have HD6 := Lib.hid hd6; obtain ⟨ya, yc, rfl, _⟩ := ha6; obtain ⟨za, zc, rfl, _⟩ := hd6; have hp0 := row_on HM0.out hb6; have hp1 := row_on HM1.out hb6; obtain ⟨i0, i1, i2, i3, i4⟩ := pb_of_row hp1; have j0 := cell_of_row w6 w.heap.size 0 _ _ _ hp0; have j1 := cell_of_row w6 w.heap.size 1 _ _ _ hp0; have j2 := cell_of_row w6 w.heap.size 2 _ _ _ hp0; have j3 := cell_of_row w6 w.heap.size 3 _ _ _ hp0; have fz0 := fun i => frozen_block hp0 i; have fz1 := fun i => frozen_block hp1 i; have HP0 := Lib.hid hp0; have HP1 := Lib.hid hp1; have HB6 := Lib.hid (below_tra HB5.out hb6); clear hp0 hp1 hb6))
    all_goals
      have hrows := put9_rows HP0.out HP1.out rfl rfl (Value.int .i64 log) (Value.int .i64 next) (Value.int .i64 seq) (Value.slice xa L.length xc) (Value.int .i64 elog) (Value.int .i64 enext) (Value.int .i64 eseq) (Value.slice ya A.length yc) (Value.slice za D.length zc)
      have hbz : Below w.heap.size w w6 := below_then HB0.out.drew HB6.out (by show w.heap.size ≤ w1.heap.size; omega)
      have hb7 : Below w.heap.size w (((((((((w6.setCell ⟨w.heap.size, 0, none⟩ (Value.int .i64 log)).setCell ⟨w.heap.size, 1, none⟩ (Value.int .i64 next)).setCell ⟨w.heap.size, 2, none⟩ (Value.int .i64 seq)).setCell ⟨w.heap.size, 3, none⟩ (Value.slice xa L.length xc)).setCell ⟨w.heap.size + 1, 0, none⟩ (Value.int .i64 elog)).setCell ⟨w.heap.size + 1, 1, none⟩ (Value.int .i64 enext)).setCell ⟨w.heap.size + 1, 2, none⟩ (Value.int .i64 eseq)).setCell ⟨w.heap.size + 1, 3, none⟩ (Value.slice ya A.length yc)).setCell ⟨w.heap.size + 1, 4, none⟩ (Value.slice za D.length zc)) := put5_below (below_put4 hbz (Nat.le_refl _) _ _ _ _) (Nat.le_succ _) _ _ _ _ _
      have hz7 : w.heap.size + 2 ≤ (((((((((w6.setCell ⟨w.heap.size, 0, none⟩ (Value.int .i64 log)).setCell ⟨w.heap.size, 1, none⟩ (Value.int .i64 next)).setCell ⟨w.heap.size, 2, none⟩ (Value.int .i64 seq)).setCell ⟨w.heap.size, 3, none⟩ (Value.slice xa L.length xc)).setCell ⟨w.heap.size + 1, 0, none⟩ (Value.int .i64 elog)).setCell ⟨w.heap.size + 1, 1, none⟩ (Value.int .i64 enext)).setCell ⟨w.heap.size + 1, 2, none⟩ (Value.int .i64 eseq)).setCell ⟨w.heap.size + 1, 3, none⟩ (Value.slice ya A.length yc)).setCell ⟨w.heap.size + 1, 4, none⟩ (Value.slice za D.length zc)).heap.size := by
        have h6 := HB6.out.size
        have h7 : w1.heap.size ≤ w6.heap.size := h6
        simp [World.setCell]
        omega
      generalize (((((((((w6.setCell ⟨w.heap.size, 0, none⟩ (Value.int .i64 log)).setCell ⟨w.heap.size, 1, none⟩ (Value.int .i64 next)).setCell ⟨w.heap.size, 2, none⟩ (Value.int .i64 seq)).setCell ⟨w.heap.size, 3, none⟩ (Value.slice xa L.length xc)).setCell ⟨w.heap.size + 1, 0, none⟩ (Value.int .i64 elog)).setCell ⟨w.heap.size + 1, 1, none⟩ (Value.int .i64 enext)).setCell ⟨w.heap.size + 1, 2, none⟩ (Value.int .i64 eseq)).setCell ⟨w.heap.size + 1, 3, none⟩ (Value.slice ya A.length yc)).setCell ⟨w.heap.size + 1, 4, none⟩ (Value.slice za D.length zc)) = w7 at hrows hb7 hz7 ⊢
      exact HTAIL.out xa xc ya yc za zc w7 ⟨hrows.1, hrows.2, HV5, HA6, HD6, hb7, hz7⟩
  intro xa xc ya yc za zc w7 hh
  have HW7 := hh.2.2.2.2.2.1
  obtain ⟨HR0, HR1, HV5, HA6, HD6, HB7, hz7⟩ := hh
  obtain ⟨⟨X, z⟩, hx⟩ : ∃ q, applyL ⟨log, next, seq, L⟩ ⟨elog, enext, eseq, A, D⟩ = q := ⟨_, rfl⟩
  have HX := Lib.hid hx
  have g0 := cell_of_row w7 w.heap.size 0 _ _ _ HR0.out
  have g1 := cell_of_row w7 w.heap.size 1 _ _ _ HR0.out
  have g2 := cell_of_row w7 w.heap.size 2 _ _ _ HR0.out
  have g3 := cell_of_row w7 w.heap.size 3 _ _ _ HR0.out
  clear hx HV HA HD HWF HL HAA HDD HB0 HN0 HN1 e0 e1 e2 e3 e4 hz0
  go_wp2_with (first
    | (go_at_call 9; go_must (refine twin8_any log next seq _ L (by omega) _ (HV5.out.below HB7.out) _ ?_); intro lv w8 hp8 hb8; obtain ⟨la, lc, rfl⟩ := hp8.shape; have hx9 := below_tra hb8 ((Below.refl w8.heap.size w8).alloc (Nat.le_refl _) (Obj.cells #[Value.int .i64 log, .int .i64 next, .int .i64 seq, .slice la L.length lc] 24)); have HW9 := Lib.hid (below_then HB7.out hx9 HB7.out.size); have r0 := row_on HR0.out hx9; have r1 := row_on HR1.out hx9; have r5 := heap_alloc_new w8 (Obj.cells #[Value.int .i64 log, .int .i64 next, .int .i64 seq, .slice la L.length lc] 24); have k0 := cell_of_row _ w.heap.size 0 _ _ _ r0; have k1 := cell_of_row _ w.heap.size 1 _ _ _ r0; have k2 := cell_of_row _ w.heap.size 2 _ _ _ r0; have k3 := cell_of_row _ w.heap.size 3 _ _ _ r0; obtain ⟨e0, e1, e2, e3, e4⟩ := pb_of_row r1; have u0 := cell_of_row _ w8.heap.size 0 _ _ _ r5; have u1 := cell_of_row _ w8.heap.size 1 _ _ _ r5; have u2 := cell_of_row _ w8.heap.size 2 _ _ _ r5; have u3 := cell_of_row _ w8.heap.size 3 _ _ _ r5; have HQ0 := Lib.hid r0; have HQ1 := Lib.hid r1; have HQ5 := Lib.hid r5; have HP8 := Lib.hid hp8; have HB8 := Lib.hid hb8; have HPL := Lib.hid (hp8.pls.below ((Below.refl w8.heap.size w8).alloc (Nat.le_refl _) (Obj.cells #[Value.int .i64 log, .int .i64 next, .int .i64 seq, .slice la L.length lc] 24))); have hz9 : w8.heap.size + 1 ≤ (w8.alloc (Obj.cells #[Value.int .i64 log, .int .i64 next, .int .i64 seq, .slice la L.length lc] 24)).heap.size := (by simp); clear r0 r1 r5 hp8 hb8 hx9 g0 g1 g2 g3)
    | (go_at_call 10; go_must (refine eapply_any log next seq elog enext eseq _ _ _ L A D X z HX.out (by omega) (by omega) (by omega) HWD.out _ HPL.out (HA6.out.below HW9.out) (HD6.out.below HW9.out) _ ?_); intro xv w10 hp10 hb10; obtain ⟨xb, xd, rfl⟩ := hp10.shape; have hx11 := below_tra hb10 ((Below.refl w10.heap.size w10).alloc (Nat.le_refl _) (Obj.cells #[Value.int .i64 X.log, .int .i64 X.next, .int .i64 X.seq, .slice xb X.tabs.length xd] 24)); have HW11 := Lib.hid (below_then HW9.out hx11 HW9.out.size); have r0 := row_on HQ0.out hx11; have r1 := row_on HQ1.out hx11; have r5 := row_on HQ5.out hx11; have r6 := heap_alloc_new w10 (Obj.cells #[Value.int .i64 X.log, .int .i64 X.next, .int .i64 X.seq, .slice xb X.tabs.length xd] 24); have l0 := cell_of_row _ w.heap.size 0 _ _ _ r0; have l1 := cell_of_row _ w.heap.size 1 _ _ _ r0; have l2 := cell_of_row _ w.heap.size 2 _ _ _ r0; have l3 := cell_of_row _ w.heap.size 3 _ _ _ r0; obtain ⟨i0, i1, i2, i3, i4⟩ := pb_of_row r1; have HS0 := Lib.hid r0; have HS1 := Lib.hid r1; have HS5 := Lib.hid r5; have HS6 := Lib.hid r6; have HP10 := Lib.hid hp10; have HX11 := Lib.hid hx11; have hz10 := hb10.size; have hz11 : w10.heap.size + 1 ≤ (w10.alloc (Obj.cells #[Value.int .i64 X.log, .int .i64 X.next, .int .i64 X.seq, .slice xb X.tabs.length xd] 24)).heap.size := (by simp); have HP11 := Lib.hid (hp10.below ((Below.refl w10.heap.size w10).alloc (Nat.le_refl _) (Obj.cells #[Value.int .i64 X.log, .int .i64 X.next, .int .i64 X.seq, .slice xb X.tabs.length xd] 24))); have HP9 := Lib.hid ((HP8.out.below ((Below.refl w8.heap.size w8).alloc (Nat.le_refl _) (Obj.cells #[Value.int .i64 log, .int .i64 next, .int .i64 seq, .slice la L.length lc] 24))).below hx11); clear r0 r1 r5 r6 hp10 hb10 hx11 k0 k1 k2 k3 e0 e1 e2 e3 e4 u0 u1 u2 u3 HQ0 HQ1 HQ5)
    | (go_at_call 11; go_must (refine rapply_any log next seq elog enext eseq _ _ _ L A D X z HX.out (by omega) (by omega) (by omega) w _ HW11.out (plsK_of HV5.out HW11.out) (plsK_of HA6.out HW11.out) (HD6.out.below HW11.out) _ ?_); intro yv w12 hp12 hb12; obtain ⟨yb, yd, rfl⟩ := hp12.shape; have hx13 := below_tra hb12 ((Below.refl w12.heap.size w12).alloc (Nat.le_refl _) (Obj.cells #[Value.int .i64 X.log, .int .i64 X.next, .int .i64 X.seq, .slice yb X.tabs.length yd] 24)); have HW13 := Lib.hid (below_then HW11.out hx13 HW11.out.size); have r0 := row_on HS0.out hx13; have r5 := row_on HS5.out hx13; have r6 := row_on HS6.out hx13; have r8 := heap_alloc_new w12 (Obj.cells #[Value.int .i64 X.log, .int .i64 X.next, .int .i64 X.seq, .slice yb X.tabs.length yd] 24); have HT0 := Lib.hid r0; have HT5 := Lib.hid r5; have HT6 := Lib.hid r6; have HT8 := Lib.hid r8; have HX13 := Lib.hid hx13; have hz12 := hb12.size; have HP12 := Lib.hid (hp12.below ((Below.refl w12.heap.size w12).alloc (Nat.le_refl _) (Obj.cells #[Value.int .i64 X.log, .int .i64 X.next, .int .i64 X.seq, .slice yb X.tabs.length yd] 24))); have HP13 := Lib.hid (HP11.out.below hx13); have HP14 := Lib.hid (HP9.out.below hx13); clear r0 r5 r6 r8 hp12 hb12 hx13 l0 l1 l2 l3 i0 i1 i2 i3 i4 HS0 HS1 HS5 HS6))
  have hmu : ML w w7 w8.heap.size w8.heap.size w10.heap.size w12.heap.size (Obj.cells #[Value.int .i64 log, .int .i64 next, .int .i64 seq, .slice la L.length lc] 24) (Obj.cells #[Value.int .i64 X.log, .int .i64 X.next, .int .i64 X.seq, .slice xb X.tabs.length xd] 24) (Obj.cells #[Value.int .i64 X.log, .int .i64 X.next, .int .i64 X.seq, .slice yb X.tabs.length yd] 24) (.slice la L.length lc) (.slice xb X.tabs.length xd) (.slice yb X.tabs.length yd) L X.tabs (w12.alloc (Obj.cells #[Value.int .i64 X.log, .int .i64 X.next, .int .i64 X.seq, .slice yb X.tabs.length yd] 24)) := by
    have hq8 : Below w8.heap.size w8 (w12.alloc (Obj.cells #[Value.int .i64 X.log, .int .i64 X.next, .int .i64 X.seq, .slice yb X.tabs.length yd] 24)) := below_tra (below_tra ((Below.refl w8.heap.size w8).alloc (Nat.le_refl _) (Obj.cells #[Value.int .i64 log, .int .i64 next, .int .i64 seq, .slice la L.length lc] 24)) HX11.out) HX13.out
    have hz8 := hz9
    exact { hb := below_tra HB8.out hq8, hm := PlsM.of HP8.out hq8, hx := HP13.out.mono (by omega), hy := HP12.out.mono (by omega), h5 := HT5.out, h6 := HT6.out, h8 := HT8.out, c5 := Nat.le_refl _, c6 := (by omega), c8 := (by omega), hc := hq8.size }
  have HMU := Lib.hid hmu
  obtain ⟨ok, hok⟩ : ∃ ok, checkL apartL log next seq L = ok := ⟨_, rfl⟩
  obtain ⟨zz, hzz⟩ : ∃ q, errI ok 80 = .int .i64 q := ⟨_, rfl⟩
  have HOK := Lib.hid hok
  have HZZ := Lib.hid hzz
  have HC := Lib.hid (And.intro HB8.out.size (And.intro hz9 (And.intro hz10 (And.intro hz11 hz12))))
  clear hmu hok hzz HP8 HB8 HX11 HX13 HR0 HR1 HP11 HP10 HP9 hz9 hz10 hz11 hz12
  generalize w12.alloc (Obj.cells #[Value.int .i64 X.log, .int .i64 X.next, .int .i64 X.seq, .slice yb X.tabs.length yd] 24) = w13 at HMU HT0 HT5 HT6 HT8 HW13 HP12 HP13 HP14 ⊢
  have hd0 : Below w13.heap.size w13 w13.drew := (Below.refl _ _).drew
  have s5 : (w13.drew.cell? ⟨w8.heap.size, 0, none⟩ = some (Value.int .i64 log) ∧ w13.drew.cell? ⟨w8.heap.size, 1, none⟩ = some (Value.int .i64 next) ∧ w13.drew.cell? ⟨w8.heap.size, 2, none⟩ = some (Value.int .i64 seq) ∧ w13.drew.cell? ⟨w8.heap.size, 3, none⟩ = some (Value.slice la L.length lc)) := v4_of_row (w := w13.drew) HT5.out
  have s2 : (w13.drew.cell? ⟨w.heap.size, 0, none⟩ = some (Value.int .i64 log) ∧ w13.drew.cell? ⟨w.heap.size, 1, none⟩ = some (Value.int .i64 next) ∧ w13.drew.cell? ⟨w.heap.size, 2, none⟩ = some (Value.int .i64 seq) ∧ w13.drew.cell? ⟨w.heap.size, 3, none⟩ = some (Value.slice xa L.length xc)) := v4_of_row (w := w13.drew) HT0.out
  have s6 : (w13.drew.cell? ⟨w10.heap.size, 0, none⟩ = some (Value.int .i64 X.log) ∧ w13.drew.cell? ⟨w10.heap.size, 1, none⟩ = some (Value.int .i64 X.next) ∧ w13.drew.cell? ⟨w10.heap.size, 2, none⟩ = some (Value.int .i64 X.seq) ∧ w13.drew.cell? ⟨w10.heap.size, 3, none⟩ = some (Value.slice xb X.tabs.length xd)) := v4_of_row (w := w13.drew) HT6.out
  have s8 : (w13.drew.cell? ⟨w12.heap.size, 0, none⟩ = some (Value.int .i64 X.log) ∧ w13.drew.cell? ⟨w12.heap.size, 1, none⟩ = some (Value.int .i64 X.next) ∧ w13.drew.cell? ⟨w12.heap.size, 2, none⟩ = some (Value.int .i64 X.seq) ∧ w13.drew.cell? ⟨w12.heap.size, 3, none⟩ = some (Value.slice yb X.tabs.length yd)) := v4_of_row (w := w13.drew) HT8.out
  have P5 := Lib.hid (HP14.out.pls.below hd0)
  have P2 := Lib.hid ((HV5.out.below HW13.out).below hd0)
  have P6 := Lib.hid (HP13.out.pls.below hd0)
  have P8 := Lib.hid ((HP12.out.pls HW13.out).below hd0)
  have SX := Lib.hid (sameV_self X)
  have SL := Lib.hid (sameV_self ⟨log, next, seq, L⟩)
  clear hd0
  go_region_held3 (fun x => ((x.cell? ⟨w8.heap.size, 0, none⟩ = some (Value.int .i64 log) ∧ x.cell? ⟨w8.heap.size, 1, none⟩ = some (Value.int .i64 next) ∧ x.cell? ⟨w8.heap.size, 2, none⟩ = some (Value.int .i64 seq) ∧ x.cell? ⟨w8.heap.size, 3, none⟩ = some (Value.slice la L.length lc)) ∧ (x.cell? ⟨w.heap.size, 0, none⟩ = some (Value.int .i64 log) ∧ x.cell? ⟨w.heap.size, 1, none⟩ = some (Value.int .i64 next) ∧ x.cell? ⟨w.heap.size, 2, none⟩ = some (Value.int .i64 seq) ∧ x.cell? ⟨w.heap.size, 3, none⟩ = some (Value.slice xa L.length xc)) ∧ (x.cell? ⟨w10.heap.size, 0, none⟩ = some (Value.int .i64 X.log) ∧ x.cell? ⟨w10.heap.size, 1, none⟩ = some (Value.int .i64 X.next) ∧ x.cell? ⟨w10.heap.size, 2, none⟩ = some (Value.int .i64 X.seq) ∧ x.cell? ⟨w10.heap.size, 3, none⟩ = some (Value.slice xb X.tabs.length xd)) ∧ (x.cell? ⟨w12.heap.size, 0, none⟩ = some (Value.int .i64 X.log) ∧ x.cell? ⟨w12.heap.size, 1, none⟩ = some (Value.int .i64 X.next) ∧ x.cell? ⟨w12.heap.size, 2, none⟩ = some (Value.int .i64 X.seq) ∧ x.cell? ⟨w12.heap.size, 3, none⟩ = some (Value.slice yb X.tabs.length yd))))
    (first | exact ⟨s5, s2, s6, s8⟩ | exact ⟨v4_later hk1 s5, v4_later hk1 s2, v4_later hk1 s6, v4_later hk1 s8⟩ | exact ⟨v4_later hk2 s5, v4_later hk2 s2, v4_later hk2 s6, v4_later hk2 s8⟩ | exact ⟨v4_later hk3 s5, v4_later hk3 s2, v4_later hk3 s6, v4_later hk3 s8⟩ | exact ⟨v4_later hk4 s5, v4_later hk4 s2, v4_later hk4 s6, v4_later hk4 s8⟩ | go_keep)
    (first
      | (go_at_call 13; refine echeck_any log next seq _ L ok HOK.out (by omega) _ P5.out _ ?_; intro wa hk1; rw [HZZ.out])
      | (go_at_call_of 12 (Value.int .i64 zz); refine num8_any zz _ _ ?_)
      | (go_at_call 14; refine rcheck_any log next seq _ L ok HOK.out (by omega) _ (P2.out.below hk1) _ ?_; intro wb hkb; have hk2 := below_tra hk1 hkb; rw [HZZ.out])
      | (go_at_call_of 12 (Value.int .i64 z); refine num8_any z _ _ ?_)
      | (go_at_call_of 15 (Value.slice xb X.tabs.length xd); refine rsamev_any _ _ X X true SX.out _ (P6.out.below hk2) (P8.out.below hk2) _ ?_; intro wc hkc; have hk3 := below_tra hk2 hkc)
      | (go_at_call_of 15 (Value.slice la L.length lc); refine rsamev_any _ _ ⟨log, next, seq, L⟩ ⟨log, next, seq, L⟩ true SL.out _ (P5.out.below hk3) (P2.out.below hk3) _ ?_; intro wd hkd; have hk4 := below_tra hk3 hkd))
  have hk5 : Below w13.heap.size w13 wd := ((Below.refl w13.heap.size w13).drew).trans hk4
  have HM0 := Lib.hid (HMU.out.below hk5)
  have HWD := Lib.hid (below_then HW13.out hk5 HW13.out.size)
  rename_i hHeld
  clear hHeld s5 s2 s6 s8 hk1 hk2 hk3 hk4 hkb hkc hkd hk5 P5 P2 P6 P8 HMU HT0 HT5 HT6 HT8 HP12 HP13 HP14 HZZ HOK HWD
  go_wp2_with fail
  go_loopg [10] L.length (fun gn i wr => ∃ i' : Nat, i' ≤ L.length ∧ gn = L.length - i' ∧ i = .int .i64 i' ∧ Hid (ML w w7 w8.heap.size w8.heap.size w10.heap.size w12.heap.size (Obj.cells #[Value.int .i64 log, .int .i64 next, .int .i64 seq, .slice la L.length lc] 24) (Obj.cells #[Value.int .i64 X.log, .int .i64 X.next, .int .i64 X.seq, .slice xb X.tabs.length xd] 24) (Obj.cells #[Value.int .i64 X.log, .int .i64 X.next, .int .i64 X.seq, .slice yb X.tabs.length yd] 24) (.slice la L.length lc) (.slice xb X.tabs.length xd) (.slice yb X.tabs.length yd) L X.tabs wr))
  case atStart => exact ⟨0, Nat.zero_le _, by omega, rfl, HM0⟩
  case round =>
    obtain ⟨i, hi, rfl, rfl, HS⟩ := hrel
    clear HM0
    obtain ⟨we, rfl⟩ : ∃ x, x = wr := ⟨_, rfl⟩
    have c5 : we.cell? ⟨w8.heap.size, 3, none⟩ = some (Value.slice la L.length lc) := cell_of_row we w8.heap.size 3 _ _ _ HS.out.h5
    by_cases hlt : i < L.length
    · have hii : (i : Int) < (L.length : Int) := by omega
      obtain ⟨n, hn⟩ : ∃ n, L[i].least.length = n := ⟨_, rfl⟩
      have HNQ := Lib.hid hn
      clear hn
      go_wp2_with fail
      clear c5
      go_loopg [11] n (fun gn i' wr => ∃ k : Nat, k ≤ n ∧ gn = n - k ∧ i' = .int .i64 k ∧ Hid (ML w w7 w8.heap.size w8.heap.size w10.heap.size w12.heap.size (Obj.cells #[Value.int .i64 log, .int .i64 next, .int .i64 seq, .slice la L.length lc] 24) (Obj.cells #[Value.int .i64 X.log, .int .i64 X.next, .int .i64 X.seq, .slice xb X.tabs.length xd] 24) (Obj.cells #[Value.int .i64 X.log, .int .i64 X.next, .int .i64 X.seq, .slice yb X.tabs.length yd] 24) (.slice la L.length lc) (.slice xb X.tabs.length xd) (.slice yb X.tabs.length yd) L X.tabs wr))
      case atStart => exact ⟨0, by omega, by omega, rfl, HS⟩
      case round =>
        obtain ⟨k, hk, rfl, rfl, HT⟩ := hrel
        obtain ⟨wf, rfl⟩ : ∃ x, x = wr := ⟨_, rfl⟩
        have hat := HT.out.at i hlt
        obtain ⟨gr, c, a, c', hla, hcell, hnm, hby⟩ := hat
        simp only [Value.slice.injEq, true_and] at hla
        obtain ⟨rfl, rfl⟩ := hla
        rw [HNQ.out] at hcell hby hnm
        have c5 : wf.cell? ⟨w8.heap.size, 3, none⟩ = some (Value.slice (some ⟨gr, 0, none⟩) L.length lc) := cell_of_row wf w8.heap.size 3 _ _ _ HT.out.h5
        have c0 : wf.cell? ⟨gr, 0 + i * 5 + 3, none⟩ = some (Value.slice a n c') := by rw [Nat.zero_add]; exact hcell
        by_cases hkl : k < n
        · have hkk : (k : Int) < (n : Int) := by omega
          obtain ⟨g, rfl, hlo, hhi, ⟨cs, hgc⟩, hbb⟩ := hby (by omega)
          obtain ⟨b, hbc, hfz⟩ := hbb k hkl
          have hbn : (((b.toNat : Int) + 1) % 256) = ((b + 1).toNat : Int) := by rw [UInt8.toNat_add]; simp
          have hst := HT.out.store (i := k) hgc hlo hhi (b + 1)
          rw [← hbn] at hst
          have HST := Lib.hid hst
          have hbc0 : wf.cell? ⟨g, 0 + k, none⟩ = some (Value.int .u8 (b.toNat : Int)) := by rw [Nat.zero_add]; exact hbc
          clear hbb hst hbn hgc
          go_wp2_with fail
          go_roundg (n - (k + 1))
          case measure => omega
          case rel => exact ⟨k + 1, by omega, rfl, by go_num, HST⟩
        · have hkk : ¬ (k : Int) < (n : Int) := by omega
          clear hby
          go_wp2_with fail
          go_roundg (L.length - (i + 1))
          case measure => omega
          case rel => exact ⟨i + 1, by omega, rfl, by go_num, HT⟩
    · have hii : ¬ (i : Int) < (L.length : Int) := by omega
      have hxp := Lib.hid HS.out.hx.pls
      have hbe := below_then HW7.out HS.out.hb HW7.out.size
      have hyp := Lib.hid (HS.out.hy.pls hbe)
      have q6 := cell_of_row we w10.heap.size 0 _ _ _ HS.out.h6
      have q7 := cell_of_row we w10.heap.size 1 _ _ _ HS.out.h6
      have q8 := cell_of_row we w10.heap.size 2 _ _ _ HS.out.h6
      have q9 := cell_of_row we w10.heap.size 3 _ _ _ HS.out.h6
      have y6 := cell_of_row we w12.heap.size 0 _ _ _ HS.out.h8
      have y7 := cell_of_row we w12.heap.size 1 _ _ _ HS.out.h8
      have y8 := cell_of_row we w12.heap.size 2 _ _ _ HS.out.h8
      have y9 := cell_of_row we w12.heap.size 3 _ _ _ HS.out.h8
      have HBE := Lib.hid hbe
      clear hbe
      go_wp2_with (first
        | (go_at_call 15; go_must (refine rsamev_any _ _ X X true SX.out _ hxp.out hyp.out _ ?_); intro wg hbg; have HBG := Lib.hid (below_then HBE.out hbg HBE.out.size); clear hbg)
        | (go_at_call 16; go_must (refine wakes8_any _ _ ?_); intro wh hbh; have HBH := Lib.hid (below_then HBG.out hbh HBG.out.size); clear hbh))
      all_goals exact HR.out _ HBH.out
end Go.Proofs.Ytpodgocmcnkfdaa
