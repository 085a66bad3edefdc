/- The law EditRows, walked. -/
import Derived.Test.YtpodgocmcnkfdaaFew
import Derived.Test.YtpodgocmcnkfdaaRAll
import Derived.Test.YtpodgocmcnkfdaaEAll
import Derived.Test.YtpodgocmcnkfdaaWakes8
import Derived.Test.YtpodgocmcnkfdaaVerS
namespace Go.Proofs.Ytpodgocmcnkfdaa
open Go.RowKit

set_option maxRecDepth 1000000 in
set_option maxHeartbeats 6400000 in
theorem rows_law (v : Value) (l : List Ed) (w : World) (hv : Eds w v l) (R : Ending → World → Prop) (hR : ∀ w', Below w.heap.size w w' → R (.returned (.bool true)) w') :
    Calls Try.prog 4 #[v] w R := by
  have HR := Lib.hid hR
  have HV := Lib.hid hv
  obtain ⟨L, hL⟩ : ∃ L, (l.take 12).map cutE = L := ⟨_, rfl⟩
  have hsm : SmallE L := by rw [← hL]; exact smallE_cut _
  have hll : L.length ≤ 1000 := by rw [← hL, List.length_map, List.length_take]; omega
  obtain ⟨⟨X, z⟩, hx⟩ : ∃ q, allL vn0 L = q := ⟨_, rfl⟩
  have hck : checkV X = true := by
    have := allL_check L vn0 checkV0
    rw [hx] at this
    exact this
  have HL := Lib.hid hL
  have HX := Lib.hid hx
  have HCK : Hid (checkL apartL X.log X.next X.seq X.tabs = true) := hck
  have HXL : Hid (X.tabs.length ≤ 1000000) := by
    have h1 := allL_len L hsm vn0
    rw [hx] at h1
    have h2 : vn0.tabs.length = 0 := rfl
    show X.tabs.length ≤ _
    have h3 : X.tabs.length ≤ vn0.tabs.length + 20 * L.length := h1
    omega
  have SX : Hid (sameV X X = true) := by show _ = _; simp [sameV]
  clear hR hL hx hck hv
  obtain ⟨va, vc, rfl, _⟩ := HV.out
  by_cases hz : z = 0
  · subst hz
    go_enter Try.func4, Try.ntmps4
    go_wp2_with (first
      | (go_at_call 17; go_must (refine few_any _ l 12 (by omega) _ HV.out _ ?_); intro v1 w1 he1 hb1; rw [HL.out] at he1; have HE1 := Lib.hid he1; have HB1 := Lib.hid hb1; obtain ⟨xa, xc, rfl, _⟩ := he1; clear hb1) | (go_at_call 18; go_must (refine eall_any _ L X _ HX.out hsm hll _ HE1.out _ ?_); intro v2 w2 hp2 hb2; obtain ⟨ya, yc, rfl⟩ := hp2.shape; have hx3 := below_tra hb2 ((Below.refl w2.heap.size w2).alloc (Nat.le_refl _) (Obj.cells #[Value.int .i64 X.log, .int .i64 X.next, .int .i64 X.seq, .slice ya X.tabs.length yc] 24)); have HB3 := Lib.hid (below_then HB1.out hx3 HB1.out.size); have HE3 := Lib.hid (HE1.out.below hx3); have HN3 := Lib.hid (heap_alloc_new w2 (Obj.cells #[Value.int .i64 X.log, .int .i64 X.next, .int .i64 X.seq, .slice ya X.tabs.length yc] 24)); have HP3 := Lib.hid (hp2.pls.below ((Below.refl w2.heap.size w2).alloc (Nat.le_refl _) (Obj.cells #[Value.int .i64 X.log, .int .i64 X.next, .int .i64 X.seq, .slice ya X.tabs.length yc] 24))); clear hp2 hb2 hx3) | (go_at_call 19; go_must (refine rall_any _ L X _ HX.out hsm hll _ HE3.out _ ?_); intro v4 w4 hp4 hb4; obtain ⟨za, zc, rfl⟩ := hp4.shape; have hx5 := below_tra hb4 ((Below.refl w4.heap.size w4).alloc (Nat.le_refl _) (Obj.cells #[Value.int .i64 X.log, .int .i64 X.next, .int .i64 X.seq, .slice za X.tabs.length zc] 24)); have HB5 := Lib.hid (below_then HB3.out hx5 HB3.out.size); have hn3 := row_on HN3.out hx5; have hn5 := heap_alloc_new w4 (Obj.cells #[Value.int .i64 X.log, .int .i64 X.next, .int .i64 X.seq, .slice za X.tabs.length zc] 24); obtain ⟨s0, s1, s2, s3⟩ := v4_of_row hn3; obtain ⟨t0, t1, t2, t3⟩ := v4_of_row hn5; have HN5 := Lib.hid hn3; have HP5 := Lib.hid (HP3.out.below hx5); have HQ5 := Lib.hid (hp4.pls.below ((Below.refl w4.heap.size w4).alloc (Nat.le_refl _) (Obj.cells #[Value.int .i64 X.log, .int .i64 X.next, .int .i64 X.seq, .slice za X.tabs.length zc] 24))); clear hp4 hb4 hx5 hn3 hn5) | (go_at_call_of 15 (Value.slice ya X.tabs.length yc); go_must (refine rsamev_any _ _ X X true SX.out _ HP5.out HQ5.out _ ?_); intro w6 hb6; have HB6 := Lib.hid (below_then HB5.out hb6 HB5.out.size); obtain ⟨u0, u1, u2, u3⟩ := v4_of_row (row_on HN5.out hb6); have HP6 := Lib.hid (HP5.out.below hb6); clear hb6) | (go_at_call 13; go_must (refine echeck_any X.log X.next X.seq _ X.tabs true HCK.out HXL.out _ HP6.out _ ?_); intro w7 hb7; unfold errI; have HB7 := Lib.hid (below_then HB6.out hb7 HB6.out.size); clear hb7) | (go_at_call 16; go_must (refine wakes8_any _ _ ?_); intro w9 hb9; have HB9 := Lib.hid (below_then HB7.out hb9 (HB7.out).size); clear hb9) | (go_at_call 12; go_must (refine num8_any _ _ _ ?_)))
    all_goals exact HR.out _ HB9.out
  · have hd : (z != 0) = true := by simpa using hz
    go_enter Try.func4, Try.ntmps4
    go_wp2_with (first
      | (go_at_call 17; go_must (refine few_any _ l 12 (by omega) _ HV.out _ ?_); intro v1 w1 he1 hb1; rw [HL.out] at he1; have HE1 := Lib.hid he1; have HB1 := Lib.hid hb1; obtain ⟨xa, xc, rfl, _⟩ := he1; clear hb1) | (go_at_call 18; go_must (refine eall_any _ L X _ HX.out hsm hll _ HE1.out _ ?_); intro v2 w2 hp2 hb2; obtain ⟨ya, yc, rfl⟩ := hp2.shape; have hx3 := below_tra hb2 ((Below.refl w2.heap.size w2).alloc (Nat.le_refl _) (Obj.cells #[Value.int .i64 X.log, .int .i64 X.next, .int .i64 X.seq, .slice ya X.tabs.length yc] 24)); have HB3 := Lib.hid (below_then HB1.out hx3 HB1.out.size); have HE3 := Lib.hid (HE1.out.below hx3); have HN3 := Lib.hid (heap_alloc_new w2 (Obj.cells #[Value.int .i64 X.log, .int .i64 X.next, .int .i64 X.seq, .slice ya X.tabs.length yc] 24)); have HP3 := Lib.hid (hp2.pls.below ((Below.refl w2.heap.size w2).alloc (Nat.le_refl _) (Obj.cells #[Value.int .i64 X.log, .int .i64 X.next, .int .i64 X.seq, .slice ya X.tabs.length yc] 24))); clear hp2 hb2 hx3) | (go_at_call 19; go_must (refine rall_any _ L X _ HX.out hsm hll _ HE3.out _ ?_); intro v4 w4 hp4 hb4; obtain ⟨za, zc, rfl⟩ := hp4.shape; have hx5 := below_tra hb4 ((Below.refl w4.heap.size w4).alloc (Nat.le_refl _) (Obj.cells #[Value.int .i64 X.log, .int .i64 X.next, .int .i64 X.seq, .slice za X.tabs.length zc] 24)); have HB5 := Lib.hid (below_then HB3.out hx5 HB3.out.size); have hn3 := row_on HN3.out hx5; have hn5 := heap_alloc_new w4 (Obj.cells #[Value.int .i64 X.log, .int .i64 X.next, .int .i64 X.seq, .slice za X.tabs.length zc] 24); obtain ⟨s0, s1, s2, s3⟩ := v4_of_row hn3; obtain ⟨t0, t1, t2, t3⟩ := v4_of_row hn5; have HN5 := Lib.hid hn3; have HP5 := Lib.hid (HP3.out.below hx5); have HQ5 := Lib.hid (hp4.pls.below ((Below.refl w4.heap.size w4).alloc (Nat.le_refl _) (Obj.cells #[Value.int .i64 X.log, .int .i64 X.next, .int .i64 X.seq, .slice za X.tabs.length zc] 24))); clear hp4 hb4 hx5 hn3 hn5) | (go_at_call_of 15 (Value.slice ya X.tabs.length yc); go_must (refine rsamev_any _ _ X X true SX.out _ HP5.out HQ5.out _ ?_); intro w6 hb6; have HB6 := Lib.hid (below_then HB5.out hb6 HB5.out.size); obtain ⟨u0, u1, u2, u3⟩ := v4_of_row (row_on HN5.out hb6); have HP6 := Lib.hid (HP5.out.below hb6); clear hb6) | (go_at_call 13; go_must (refine echeck_any X.log X.next X.seq _ X.tabs true HCK.out HXL.out _ HP6.out _ ?_); intro w7 hb7; unfold errI; have HB7 := Lib.hid (below_then HB6.out hb7 HB6.out.size); clear hb7) | (go_at_call 16; go_must (refine wakes8_any _ _ ?_); intro w9 hb9; have HB9 := Lib.hid (below_then HB6.out hb9 (HB6.out).size); clear hb9) | (go_at_call 12; go_must (refine num8_any _ _ _ ?_)))
    all_goals exact HR.out _ HB9.out
end Go.Proofs.Ytpodgocmcnkfdaa
