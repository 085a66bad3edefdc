/- prop.laid, walked. -/
import Derived.Test.YtgimbocoamnkjaaGreatDoorM13
import Derived.Deep.RegionHeld3
namespace Go.Proofs.YtgimbocoamnkjaaGreatDoor
open Go.RowKit

theorem varR_len (n : Int) : (varR n).1.length ≤ 4 := by
  unfold varR
  split
  · simp
  · exact (varF_length 3 _).2
theorem textL_len (l : List UInt8) : (textL l).1.length ≤ 65537 := by
  unfold textL dataL
  split
  · split
    · simp
    · simp only [List.length_append, putL_length]; omega
  · simp
theorem dataL_len (l : List UInt8) : (dataL l).1.length ≤ 65537 := by
  unfold dataL
  split
  · simp
  · simp only [List.length_append, putL_length]; omega
theorem putW_len (x : Nat) (n : Int) (h : n ≤ 8) : (putW x n).length ≤ 8 := by
  unfold putW
  split
  · simp
  · rw [putL_length]; omega
theorem laidL_len (p : Pr) : (laidL p).length ≤ 140000 := by
  unfold laidL
  rw [List.length_append]
  have h0 := varR_len p.id
  have h1 := varR_len p.num
  have h2 := textL_len p.text
  have h3 := textL_len p.pair
  have h4 := dataL_len p.data
  have h5 := putW_len (u64 p.num) 1 (by omega)
  have h6 := putW_len (u64 p.num) 2 (by omega)
  have h7 := putW_len (u64 p.num) 4 (by omega)
  repeat' split
  all_goals first | omega | (rw [List.length_append]; omega) | (simp only [List.length_nil]; omega)
theorem bss3 {w : World} {e : Nat} {v1 v2 v3 : Value} {a b c : List UInt8} (h1 : Bs w v1 a) (h2 : Bs w v2 b) (h3 : Bs w v3 c) : Bss (w.alloc (.cells #[v1, v2, v3] e)) (.slice (some ⟨w.heap.size, 0, none⟩) 3 3) [a, b, c] :=
  bss_lit [v1, v2, v3] [a, b, c] rfl (by simp) fun i hi => by
    match i, hi with
    | 0, _ => exact ⟨v1, rfl, h1⟩
    | 1, _ => exact ⟨v2, rfl, h2⟩
    | 2, _ => exact ⟨v3, rfl, h3⟩
theorem flat3 (a b c : List UInt8) : [a, b, c].flatten = a ++ (b ++ c) := by simp

set_option maxRecDepth 100000 in
set_option maxHeartbeats 1600000 in
theorem laid_1 (d : Value) (p : Pr) (hk : kindL p.id = 1) (J : List UInt8) (hJ : laidL p = J) (w : World) (h : PC w d p) (hT : Tabs w) (R : Ending → World → Prop)
    (hR : ∀ ad c w', w'.ownsRow w.heap.size 5 1 (.slice ad J.length c) J.length (bv J) → Below w.heap.size w w' → R (.returned (.slice ad J.length c)) w') :
    Calls Tryz.prog 171 #[.agg #[.int .i64 p.id, .int .i64 p.num, .string (str p.text), .string (str p.pair), d]] w R := by
  have HR := Lib.hid hR
  have HK := Lib.hid hk
  have HP := Lib.hid h
  have HT := Lib.hid hT
  obtain ⟨V, er, hV⟩ : ∃ V er, varR p.id = (V, er) := ⟨_, _, rfl⟩
  have HV := Lib.hid hV
  have hjl := laidL_len p
  rw [laidL_eq, hV] at hJ
  rw [laidL_eq, hV] at hjl
  rw [hJ] at hjl
  simp only at hJ
  have HJL := Lib.hid hjl
  have N0 : Hid ((w.alloc (Obj.cells #[.int .i64 p.id, .int .i64 p.num, .string (str p.text), .string (str p.pair), d] 147)).heap[w.heap.size]? = some (Obj.cells #[.int .i64 p.id, .int .i64 p.num, .string (str p.text), .string (str p.pair), d] 147)) := Lib.hid (heap_alloc_new w _)
  have hbA := (Below.refl w.heap.size w).alloc (Nat.le_refl _) (Obj.cells #[.int .i64 p.id, .int .i64 p.num, .string (str p.text), .string (str p.pair), d] 147)
  clear hR h hV hjl hT
  obtain ⟨X, hX⟩ : ∃ X, u64 p.num = X := ⟨_, rfl⟩
  have hwx : IntKind.u64.wrap p.num = (X : Int) := by rw [← hX, IntKind.wrap_u64]; unfold u64; omega
  have hX64 : X < 18446744073709551616 := by rw [← hX]; unfold u64; omega
  have HX64 := Lib.hid hX64
  obtain ⟨P, hP⟩ : ∃ P, putW X 1 = P := ⟨_, rfl⟩
  obtain ⟨Q, hQ⟩ : ∃ Q : List UInt8, Q = [] := ⟨_, rfl⟩
  have hval : valB p = P := by unfold valB; rw [hk, hX]; exact hP
  rw [hval] at hJ
  have HJF : Hid ([V, P, Q].flatten = J) := Lib.hid (by rw [flat3, hQ, List.append_nil]; exact hJ)
  have HPW := Lib.hid hP
  have HQ := Lib.hid hQ
  have hsh : ∀ w, (Op.shift .shl .i64 1 .i64 (IntKind.i64.wrap 0)).run Tryz.prog w = .ok (.int .i64 1) w := fun _ => by kernel_rfl
  clear hX64 hP hX hval hJ hk hQ
  go_enter Tryz.func171, Tryz.ntmps171
  go_wp2_with (first
    | (go_at_call_of 172 (Value.int .i64 p.id); go_must (refine var_any p.id V er HV.out _ _ ?_); intro va vc w1 hown1 hb1; have nr := row_later2 N0.out hb1; have ae0 := cell_of_row _ w.heap.size 0 _ _ _ nr; have ae1 := cell_of_row _ w.heap.size 1 _ _ _ nr; have ae2 := cell_of_row _ w.heap.size 2 _ _ _ nr; have ae3 := cell_of_row _ w.heap.size 3 _ _ _ nr; have ae4 := cell_of_row _ w.heap.size 4 _ _ _ nr; have af0 := frozen_block nr 0; have af1 := frozen_block nr 1; have af2 := frozen_block nr 2; have af3 := frozen_block nr 3; have af4 := frozen_block nr 4; have N1 := Lib.hid nr; have hx1 := below_tr hbA hb1; have hO1 := owns_mono (base' := w.heap.size) hown1 (by simp); clear nr N0 hb1 hown1)
    | (go_at_call 189; go_must (refine kind_any p.id 1 HK.out _ _ ?_); intro w2 hb2; have nr := row_later2 N1.out hb2; clear ae0 ae1 ae2 ae3 ae4 af0 af1 af2 af3 af4; have be0 := cell_of_row _ w.heap.size 0 _ _ _ nr; have be1 := cell_of_row _ w.heap.size 1 _ _ _ nr; have be2 := cell_of_row _ w.heap.size 2 _ _ _ nr; have be3 := cell_of_row _ w.heap.size 3 _ _ _ nr; have be4 := cell_of_row _ w.heap.size 4 _ _ _ nr; have bf0 := frozen_block nr 0; have bf1 := frozen_block nr 1; have bf2 := frozen_block nr 2; have bf3 := frozen_block nr 3; have bf4 := frozen_block nr 4; have N2 := Lib.hid nr; have hx2 := below_tr hx1 hb2; have hO2 := owns_below hO1 hb2; clear nr N1 hb2 hO1))
  have c0 : w2.drew.cell? ⟨w.heap.size, 0, none⟩ = some (.int .i64 p.id) := be0
  have c1 : w2.drew.cell? ⟨w.heap.size, 1, none⟩ = some (.int .i64 p.num) := be1
  go_region_held3 (fun x => x.cell? ⟨w.heap.size, 0, none⟩ = some (.int .i64 p.id) ∧ x.cell? ⟨w.heap.size, 1, none⟩ = some (.int .i64 p.num))
    (first | exact ⟨c0, c1⟩ | exact ⟨cell_later hb3 c0, cell_later hb3 c1⟩ | exact ⟨cell_later hb4 (cell_later hb3 c0), cell_later hb4 (cell_later hb3 c1)⟩ | go_keep)
    (first
      | (go_at_call 189; refine kind_any p.id 1 HK.out _ _ ?_; intro w3 hb3)
      | (go_at_call 56; refine put_any X HX64.out 1 P HPW.out _ _ ?_; intro pa pc w4 hown4 hb4))
  all_goals
    have hy3 : Below w2.heap.size w2 w3 := below_tr (Below.refl _ _).drew hb3
    have hy4 := below_tr hy3 hb4
    have hx4 := below_tr hx2 hy4
    have hO4 := owns_below hO2 hy4
    have hN4 : Bs w4 (.slice none 0 0) Q := by rw [HQ.out]; exact bs_nil _
    clear c0 c1 be0 be1 be2 be3 be4 bf0 bf1 bf2 bf3 bf4 hy3 hy4 hb3 hb4 hsh hwx
    have hB := bss3 (e := 22) (bs_of_owns hO4).2 (bs_of_owns hown4).2 hN4
    go_wp2_with (go_at_call 55; go_must (refine join_any _ [V, P, Q] J HJF.out _ hB (by have := HJL.out; omega) _ ?_))
    intro ad9 c9 w9 hown9 hb9
    go_wp2
    exact HR.out _ _ _ (owns_mono hown9 (by have := (hx4).size; simp; omega)) (below_then ((hx4).alloc (hx4).size _) hb9 (by have := (hx4).size; simp; omega))

set_option maxRecDepth 100000 in
set_option maxHeartbeats 1600000 in
theorem laid_2 (d : Value) (p : Pr) (hk : kindL p.id = 2) (J : List UInt8) (hJ : laidL p = J) (w : World) (h : PC w d p) (hT : Tabs w) (R : Ending → World → Prop)
    (hR : ∀ ad c w', w'.ownsRow w.heap.size 5 1 (.slice ad J.length c) J.length (bv J) → Below w.heap.size w w' → R (.returned (.slice ad J.length c)) w') :
    Calls Tryz.prog 171 #[.agg #[.int .i64 p.id, .int .i64 p.num, .string (str p.text), .string (str p.pair), d]] w R := by
  have HR := Lib.hid hR
  have HK := Lib.hid hk
  have HP := Lib.hid h
  have HT := Lib.hid hT
  obtain ⟨V, er, hV⟩ : ∃ V er, varR p.id = (V, er) := ⟨_, _, rfl⟩
  have HV := Lib.hid hV
  have hjl := laidL_len p
  rw [laidL_eq, hV] at hJ
  rw [laidL_eq, hV] at hjl
  rw [hJ] at hjl
  simp only at hJ
  have HJL := Lib.hid hjl
  have N0 : Hid ((w.alloc (Obj.cells #[.int .i64 p.id, .int .i64 p.num, .string (str p.text), .string (str p.pair), d] 147)).heap[w.heap.size]? = some (Obj.cells #[.int .i64 p.id, .int .i64 p.num, .string (str p.text), .string (str p.pair), d] 147)) := Lib.hid (heap_alloc_new w _)
  have hbA := (Below.refl w.heap.size w).alloc (Nat.le_refl _) (Obj.cells #[.int .i64 p.id, .int .i64 p.num, .string (str p.text), .string (str p.pair), d] 147)
  clear hR h hV hjl hT
  obtain ⟨X, hX⟩ : ∃ X, u64 p.num = X := ⟨_, rfl⟩
  have hwx : IntKind.u64.wrap p.num = (X : Int) := by rw [← hX, IntKind.wrap_u64]; unfold u64; omega
  have hX64 : X < 18446744073709551616 := by rw [← hX]; unfold u64; omega
  have HX64 := Lib.hid hX64
  obtain ⟨P, hP⟩ : ∃ P, putW X 2 = P := ⟨_, rfl⟩
  obtain ⟨Q, hQ⟩ : ∃ Q : List UInt8, Q = [] := ⟨_, rfl⟩
  have hval : valB p = P := by unfold valB; rw [hk, hX]; exact hP
  rw [hval] at hJ
  have HJF : Hid ([V, P, Q].flatten = J) := Lib.hid (by rw [flat3, hQ, List.append_nil]; exact hJ)
  have HPW := Lib.hid hP
  have HQ := Lib.hid hQ
  have hsh : ∀ w, (Op.shift .shl .i64 1 .i64 (IntKind.i64.wrap 1)).run Tryz.prog w = .ok (.int .i64 2) w := fun _ => by kernel_rfl
  clear hX64 hP hX hval hJ hk hQ
  go_enter Tryz.func171, Tryz.ntmps171
  go_wp2_with (first
    | (go_at_call_of 172 (Value.int .i64 p.id); go_must (refine var_any p.id V er HV.out _ _ ?_); intro va vc w1 hown1 hb1; have nr := row_later2 N0.out hb1; have ae0 := cell_of_row _ w.heap.size 0 _ _ _ nr; have ae1 := cell_of_row _ w.heap.size 1 _ _ _ nr; have ae2 := cell_of_row _ w.heap.size 2 _ _ _ nr; have ae3 := cell_of_row _ w.heap.size 3 _ _ _ nr; have ae4 := cell_of_row _ w.heap.size 4 _ _ _ nr; have af0 := frozen_block nr 0; have af1 := frozen_block nr 1; have af2 := frozen_block nr 2; have af3 := frozen_block nr 3; have af4 := frozen_block nr 4; have N1 := Lib.hid nr; have hx1 := below_tr hbA hb1; have hO1 := owns_mono (base' := w.heap.size) hown1 (by simp); clear nr N0 hb1 hown1)
    | (go_at_call 189; go_must (refine kind_any p.id 2 HK.out _ _ ?_); intro w2 hb2; have nr := row_later2 N1.out hb2; clear ae0 ae1 ae2 ae3 ae4 af0 af1 af2 af3 af4; have be0 := cell_of_row _ w.heap.size 0 _ _ _ nr; have be1 := cell_of_row _ w.heap.size 1 _ _ _ nr; have be2 := cell_of_row _ w.heap.size 2 _ _ _ nr; have be3 := cell_of_row _ w.heap.size 3 _ _ _ nr; have be4 := cell_of_row _ w.heap.size 4 _ _ _ nr; have bf0 := frozen_block nr 0; have bf1 := frozen_block nr 1; have bf2 := frozen_block nr 2; have bf3 := frozen_block nr 3; have bf4 := frozen_block nr 4; have N2 := Lib.hid nr; have hx2 := below_tr hx1 hb2; have hO2 := owns_below hO1 hb2; clear nr N1 hb2 hO1))
  have c0 : w2.drew.cell? ⟨w.heap.size, 0, none⟩ = some (.int .i64 p.id) := be0
  have c1 : w2.drew.cell? ⟨w.heap.size, 1, none⟩ = some (.int .i64 p.num) := be1
  go_region_held3 (fun x => x.cell? ⟨w.heap.size, 0, none⟩ = some (.int .i64 p.id) ∧ x.cell? ⟨w.heap.size, 1, none⟩ = some (.int .i64 p.num))
    (first | exact ⟨c0, c1⟩ | exact ⟨cell_later hb3 c0, cell_later hb3 c1⟩ | exact ⟨cell_later hb4 (cell_later hb3 c0), cell_later hb4 (cell_later hb3 c1)⟩ | go_keep)
    (first
      | (go_at_call 189; refine kind_any p.id 2 HK.out _ _ ?_; intro w3 hb3)
      | (go_at_call 56; refine put_any X HX64.out 2 P HPW.out _ _ ?_; intro pa pc w4 hown4 hb4))
  all_goals
    have hy3 : Below w2.heap.size w2 w3 := below_tr (Below.refl _ _).drew hb3
    have hy4 := below_tr hy3 hb4
    have hx4 := below_tr hx2 hy4
    have hO4 := owns_below hO2 hy4
    have hN4 : Bs w4 (.slice none 0 0) Q := by rw [HQ.out]; exact bs_nil _
    clear c0 c1 be0 be1 be2 be3 be4 bf0 bf1 bf2 bf3 bf4 hy3 hy4 hb3 hb4 hsh hwx
    have hB := bss3 (e := 22) (bs_of_owns hO4).2 (bs_of_owns hown4).2 hN4
    go_wp2_with (go_at_call 55; go_must (refine join_any _ [V, P, Q] J HJF.out _ hB (by have := HJL.out; omega) _ ?_))
    intro ad9 c9 w9 hown9 hb9
    go_wp2
    exact HR.out _ _ _ (owns_mono hown9 (by have := (hx4).size; simp; omega)) (below_then ((hx4).alloc (hx4).size _) hb9 (by have := (hx4).size; simp; omega))

set_option maxRecDepth 100000 in
set_option maxHeartbeats 1600000 in
theorem laid_3 (d : Value) (p : Pr) (hk : kindL p.id = 3) (J : List UInt8) (hJ : laidL p = J) (w : World) (h : PC w d p) (hT : Tabs w) (R : Ending → World → Prop)
    (hR : ∀ ad c w', w'.ownsRow w.heap.size 5 1 (.slice ad J.length c) J.length (bv J) → Below w.heap.size w w' → R (.returned (.slice ad J.length c)) w') :
    Calls Tryz.prog 171 #[.agg #[.int .i64 p.id, .int .i64 p.num, .string (str p.text), .string (str p.pair), d]] w R := by
  have HR := Lib.hid hR
  have HK := Lib.hid hk
  have HP := Lib.hid h
  have HT := Lib.hid hT
  obtain ⟨V, er, hV⟩ : ∃ V er, varR p.id = (V, er) := ⟨_, _, rfl⟩
  have HV := Lib.hid hV
  have hjl := laidL_len p
  rw [laidL_eq, hV] at hJ
  rw [laidL_eq, hV] at hjl
  rw [hJ] at hjl
  simp only at hJ
  have HJL := Lib.hid hjl
  have N0 : Hid ((w.alloc (Obj.cells #[.int .i64 p.id, .int .i64 p.num, .string (str p.text), .string (str p.pair), d] 147)).heap[w.heap.size]? = some (Obj.cells #[.int .i64 p.id, .int .i64 p.num, .string (str p.text), .string (str p.pair), d] 147)) := Lib.hid (heap_alloc_new w _)
  have hbA := (Below.refl w.heap.size w).alloc (Nat.le_refl _) (Obj.cells #[.int .i64 p.id, .int .i64 p.num, .string (str p.text), .string (str p.pair), d] 147)
  clear hR h hV hjl hT
  obtain ⟨X, hX⟩ : ∃ X, u64 p.num = X := ⟨_, rfl⟩
  have hwx : IntKind.u64.wrap p.num = (X : Int) := by rw [← hX, IntKind.wrap_u64]; unfold u64; omega
  have hX64 : X < 18446744073709551616 := by rw [← hX]; unfold u64; omega
  have HX64 := Lib.hid hX64
  obtain ⟨P, hP⟩ : ∃ P, putW X 4 = P := ⟨_, rfl⟩
  obtain ⟨Q, hQ⟩ : ∃ Q : List UInt8, Q = [] := ⟨_, rfl⟩
  have hval : valB p = P := by unfold valB; rw [hk, hX]; exact hP
  rw [hval] at hJ
  have HJF : Hid ([V, P, Q].flatten = J) := Lib.hid (by rw [flat3, hQ, List.append_nil]; exact hJ)
  have HPW := Lib.hid hP
  have HQ := Lib.hid hQ
  have hsh : ∀ w, (Op.shift .shl .i64 1 .i64 (IntKind.i64.wrap 2)).run Tryz.prog w = .ok (.int .i64 4) w := fun _ => by kernel_rfl
  clear hX64 hP hX hval hJ hk hQ
  go_enter Tryz.func171, Tryz.ntmps171
  go_wp2_with (first
    | (go_at_call_of 172 (Value.int .i64 p.id); go_must (refine var_any p.id V er HV.out _ _ ?_); intro va vc w1 hown1 hb1; have nr := row_later2 N0.out hb1; have ae0 := cell_of_row _ w.heap.size 0 _ _ _ nr; have ae1 := cell_of_row _ w.heap.size 1 _ _ _ nr; have ae2 := cell_of_row _ w.heap.size 2 _ _ _ nr; have ae3 := cell_of_row _ w.heap.size 3 _ _ _ nr; have ae4 := cell_of_row _ w.heap.size 4 _ _ _ nr; have af0 := frozen_block nr 0; have af1 := frozen_block nr 1; have af2 := frozen_block nr 2; have af3 := frozen_block nr 3; have af4 := frozen_block nr 4; have N1 := Lib.hid nr; have hx1 := below_tr hbA hb1; have hO1 := owns_mono (base' := w.heap.size) hown1 (by simp); clear nr N0 hb1 hown1)
    | (go_at_call 189; go_must (refine kind_any p.id 3 HK.out _ _ ?_); intro w2 hb2; have nr := row_later2 N1.out hb2; clear ae0 ae1 ae2 ae3 ae4 af0 af1 af2 af3 af4; have be0 := cell_of_row _ w.heap.size 0 _ _ _ nr; have be1 := cell_of_row _ w.heap.size 1 _ _ _ nr; have be2 := cell_of_row _ w.heap.size 2 _ _ _ nr; have be3 := cell_of_row _ w.heap.size 3 _ _ _ nr; have be4 := cell_of_row _ w.heap.size 4 _ _ _ nr; have bf0 := frozen_block nr 0; have bf1 := frozen_block nr 1; have bf2 := frozen_block nr 2; have bf3 := frozen_block nr 3; have bf4 := frozen_block nr 4; have N2 := Lib.hid nr; have hx2 := below_tr hx1 hb2; have hO2 := owns_below hO1 hb2; clear nr N1 hb2 hO1))
  have c0 : w2.drew.cell? ⟨w.heap.size, 0, none⟩ = some (.int .i64 p.id) := be0
  have c1 : w2.drew.cell? ⟨w.heap.size, 1, none⟩ = some (.int .i64 p.num) := be1
  go_region_held3 (fun x => x.cell? ⟨w.heap.size, 0, none⟩ = some (.int .i64 p.id) ∧ x.cell? ⟨w.heap.size, 1, none⟩ = some (.int .i64 p.num))
    (first | exact ⟨c0, c1⟩ | exact ⟨cell_later hb3 c0, cell_later hb3 c1⟩ | exact ⟨cell_later hb4 (cell_later hb3 c0), cell_later hb4 (cell_later hb3 c1)⟩ | go_keep)
    (first
      | (go_at_call 189; refine kind_any p.id 3 HK.out _ _ ?_; intro w3 hb3)
      | (go_at_call 56; refine put_any X HX64.out 4 P HPW.out _ _ ?_; intro pa pc w4 hown4 hb4))
  all_goals
    have hy3 : Below w2.heap.size w2 w3 := below_tr (Below.refl _ _).drew hb3
    have hy4 := below_tr hy3 hb4
    have hx4 := below_tr hx2 hy4
    have hO4 := owns_below hO2 hy4
    have hN4 : Bs w4 (.slice none 0 0) Q := by rw [HQ.out]; exact bs_nil _
    clear c0 c1 be0 be1 be2 be3 be4 bf0 bf1 bf2 bf3 bf4 hy3 hy4 hb3 hb4 hsh hwx
    have hB := bss3 (e := 22) (bs_of_owns hO4).2 (bs_of_owns hown4).2 hN4
    go_wp2_with (go_at_call 55; go_must (refine join_any _ [V, P, Q] J HJF.out _ hB (by have := HJL.out; omega) _ ?_))
    intro ad9 c9 w9 hown9 hb9
    go_wp2
    exact HR.out _ _ _ (owns_mono hown9 (by have := (hx4).size; simp; omega)) (below_then ((hx4).alloc (hx4).size _) hb9 (by have := (hx4).size; simp; omega))

set_option maxRecDepth 100000 in
set_option maxHeartbeats 1600000 in
theorem laid_4 (d : Value) (p : Pr) (hk : kindL p.id = 4) (J : List UInt8) (hJ : laidL p = J) (w : World) (h : PC w d p) (hT : Tabs w) (R : Ending → World → Prop)
    (hR : ∀ ad c w', w'.ownsRow w.heap.size 5 1 (.slice ad J.length c) J.length (bv J) → Below w.heap.size w w' → R (.returned (.slice ad J.length c)) w') :
    Calls Tryz.prog 171 #[.agg #[.int .i64 p.id, .int .i64 p.num, .string (str p.text), .string (str p.pair), d]] w R := by
  have HR := Lib.hid hR
  have HK := Lib.hid hk
  have HP := Lib.hid h
  have HT := Lib.hid hT
  obtain ⟨V, er, hV⟩ : ∃ V er, varR p.id = (V, er) := ⟨_, _, rfl⟩
  have HV := Lib.hid hV
  have hjl := laidL_len p
  rw [laidL_eq, hV] at hJ
  rw [laidL_eq, hV] at hjl
  rw [hJ] at hjl
  simp only at hJ
  have HJL := Lib.hid hjl
  have N0 : Hid ((w.alloc (Obj.cells #[.int .i64 p.id, .int .i64 p.num, .string (str p.text), .string (str p.pair), d] 147)).heap[w.heap.size]? = some (Obj.cells #[.int .i64 p.id, .int .i64 p.num, .string (str p.text), .string (str p.pair), d] 147)) := Lib.hid (heap_alloc_new w _)
  have hbA := (Below.refl w.heap.size w).alloc (Nat.le_refl _) (Obj.cells #[.int .i64 p.id, .int .i64 p.num, .string (str p.text), .string (str p.pair), d] 147)
  clear hR h hV hjl hT
  obtain ⟨P, e2, hP⟩ : ∃ P e2, varR p.num = (P, e2) := ⟨_, _, rfl⟩
  obtain ⟨Q, hQ⟩ : ∃ Q : List UInt8, Q = [] := ⟨_, rfl⟩
  have hval : valB p = P := by unfold valB; rw [hk, hP]; rfl
  rw [hval] at hJ
  have HJF : Hid ([V, P, Q].flatten = J) := Lib.hid (by rw [flat3, hQ, List.append_nil]; exact hJ)
  have HPW := Lib.hid hP
  have HQ := Lib.hid hQ
  clear hP hval hJ hk hQ
  go_enter Tryz.func171, Tryz.ntmps171
  go_wp2_with (first
    | (go_at_call 189; go_must (refine kind_any p.id 4 HK.out _ _ ?_); intro w2 hb2; have nr := row_later2 N1.out hb2; clear ae0 ae1 ae2 ae3 ae4 af0 af1 af2 af3 af4; have be0 := cell_of_row _ w.heap.size 0 _ _ _ nr; have be1 := cell_of_row _ w.heap.size 1 _ _ _ nr; have be2 := cell_of_row _ w.heap.size 2 _ _ _ nr; have be3 := cell_of_row _ w.heap.size 3 _ _ _ nr; have be4 := cell_of_row _ w.heap.size 4 _ _ _ nr; have bf0 := frozen_block nr 0; have bf1 := frozen_block nr 1; have bf2 := frozen_block nr 2; have bf3 := frozen_block nr 3; have bf4 := frozen_block nr 4; have N2 := Lib.hid nr; have hx2 := below_tr hx1 hb2; have hO2 := owns_below hO1 hb2; clear nr N1 hb2 hO1)
    | (have _ := N2.out; go_at_call 172; go_must (refine var_any p.num P e2 HPW.out _ _ ?_); intro pa pc w4 hown4 hb4; have hx4 := below_tr hx2 hb4; have hO4 := owns_below hO2 hb4; have hN4 : Bs w4 (.slice none 0 0) Q := (by rw [HQ.out]; exact bs_nil _); have hB := bss3 (e := 22) (bs_of_owns hO4).2 (bs_of_owns hown4).2 hN4; clear be0 be1 be2 be3 be4 bf0 bf1 bf2 bf3 bf4 hb4 N2)
    | (go_at_call_of 172 (Value.int .i64 p.id); go_must (refine var_any p.id V er HV.out _ _ ?_); intro va vc w1 hown1 hb1; have nr := row_later2 N0.out hb1; have ae0 := cell_of_row _ w.heap.size 0 _ _ _ nr; have ae1 := cell_of_row _ w.heap.size 1 _ _ _ nr; have ae2 := cell_of_row _ w.heap.size 2 _ _ _ nr; have ae3 := cell_of_row _ w.heap.size 3 _ _ _ nr; have ae4 := cell_of_row _ w.heap.size 4 _ _ _ nr; have af0 := frozen_block nr 0; have af1 := frozen_block nr 1; have af2 := frozen_block nr 2; have af3 := frozen_block nr 3; have af4 := frozen_block nr 4; have N1 := Lib.hid nr; have hx1 := below_tr hbA hb1; have hO1 := owns_mono (base' := w.heap.size) hown1 (by simp); clear nr N0 hb1 hown1)
    | (go_at_call 55; go_must (refine join_any _ [V, P, Q] J HJF.out _ hB (by have := HJL.out; omega) _ ?_)))
  intro ad9 c9 w9 hown9 hb9
  go_wp2
  exact HR.out _ _ _ (owns_mono hown9 (by have := hx4.size; simp; omega)) (below_then (hx4.alloc hx4.size _) hb9 (by have := hx4.size; simp; omega))

set_option maxRecDepth 100000 in
set_option maxHeartbeats 1600000 in
theorem laid_5 (d : Value) (p : Pr) (hk : kindL p.id = 5) (J : List UInt8) (hJ : laidL p = J) (w : World) (h : PC w d p) (hT : Tabs w) (R : Ending → World → Prop)
    (hR : ∀ ad c w', w'.ownsRow w.heap.size 5 1 (.slice ad J.length c) J.length (bv J) → Below w.heap.size w w' → R (.returned (.slice ad J.length c)) w') :
    Calls Tryz.prog 171 #[.agg #[.int .i64 p.id, .int .i64 p.num, .string (str p.text), .string (str p.pair), d]] w R := by
  have HR := Lib.hid hR
  have HK := Lib.hid hk
  have HP := Lib.hid h
  have HT := Lib.hid hT
  obtain ⟨V, er, hV⟩ : ∃ V er, varR p.id = (V, er) := ⟨_, _, rfl⟩
  have HV := Lib.hid hV
  have hjl := laidL_len p
  rw [laidL_eq, hV] at hJ
  rw [laidL_eq, hV] at hjl
  rw [hJ] at hjl
  simp only at hJ
  have HJL := Lib.hid hjl
  have N0 : Hid ((w.alloc (Obj.cells #[.int .i64 p.id, .int .i64 p.num, .string (str p.text), .string (str p.pair), d] 147)).heap[w.heap.size]? = some (Obj.cells #[.int .i64 p.id, .int .i64 p.num, .string (str p.text), .string (str p.pair), d] 147)) := Lib.hid (heap_alloc_new w _)
  have hbA := (Below.refl w.heap.size w).alloc (Nat.le_refl _) (Obj.cells #[.int .i64 p.id, .int .i64 p.num, .string (str p.text), .string (str p.pair), d] 147)
  clear hR h hV hjl hT
  obtain ⟨P, e2, hP⟩ : ∃ P e2, textL p.text = (P, e2) := ⟨_, _, rfl⟩
  obtain ⟨Q, hQ⟩ : ∃ Q : List UInt8, Q = [] := ⟨_, rfl⟩
  have hval : valB p = P := by unfold valB; rw [hk, hP]; rfl
  rw [hval] at hJ
  have HJF : Hid ([V, P, Q].flatten = J) := Lib.hid (by rw [flat3, hQ, List.append_nil]; exact hJ)
  have HPW := Lib.hid hP
  have HQ := Lib.hid hQ
  clear hP hval hJ hk hQ
  go_enter Tryz.func171, Tryz.ntmps171
  go_wp2_with (first
    | (go_at_call_of 172 (Value.int .i64 p.id); go_must (refine var_any p.id V er HV.out _ _ ?_); intro va vc w1 hown1 hb1; have nr := row_later2 N0.out hb1; have ae0 := cell_of_row _ w.heap.size 0 _ _ _ nr; have ae1 := cell_of_row _ w.heap.size 1 _ _ _ nr; have ae2 := cell_of_row _ w.heap.size 2 _ _ _ nr; have ae3 := cell_of_row _ w.heap.size 3 _ _ _ nr; have ae4 := cell_of_row _ w.heap.size 4 _ _ _ nr; have af0 := frozen_block nr 0; have af1 := frozen_block nr 1; have af2 := frozen_block nr 2; have af3 := frozen_block nr 3; have af4 := frozen_block nr 4; have N1 := Lib.hid nr; have hx1 := below_tr hbA hb1; have hO1 := owns_mono (base' := w.heap.size) hown1 (by simp); clear nr N0 hb1 hown1)
    | (go_at_call 189; go_must (refine kind_any p.id 5 HK.out _ _ ?_); intro w2 hb2; have nr := row_later2 N1.out hb2; clear ae0 ae1 ae2 ae3 ae4 af0 af1 af2 af3 af4; have be0 := cell_of_row _ w.heap.size 0 _ _ _ nr; have be1 := cell_of_row _ w.heap.size 1 _ _ _ nr; have be2 := cell_of_row _ w.heap.size 2 _ _ _ nr; have be3 := cell_of_row _ w.heap.size 3 _ _ _ nr; have be4 := cell_of_row _ w.heap.size 4 _ _ _ nr; have bf0 := frozen_block nr 0; have bf1 := frozen_block nr 1; have bf2 := frozen_block nr 2; have bf3 := frozen_block nr 3; have bf4 := frozen_block nr 4; have N2 := Lib.hid nr; have hx2 := below_tr hx1 hb2; have hO2 := owns_below hO1 hb2; clear nr N1 hb2 hO1)
    | (go_at_call 54; go_must (refine text_any p.text P e2 HPW.out _ (by have := HP.out.lt; omega) (HT.out.below hx2) _ ?_); intro pa pc w4 hown4 hb4; have hx4 := below_tr hx2 hb4; have hO4 := owns_below hO2 hb4; have hN4 : Bs w4 (.slice none 0 0) Q := (by rw [HQ.out]; exact bs_nil _); have hB := bss3 (e := 22) (bs_of_owns hO4).2 (bs_of_owns hown4).2 hN4; clear be0 be1 be2 be3 be4 bf0 bf1 bf2 bf3 bf4 hb4 N2)
    | (go_at_call 55; go_must (refine join_any _ [V, P, Q] J HJF.out _ hB (by have := HJL.out; omega) _ ?_)))
  intro ad9 c9 w9 hown9 hb9
  go_wp2
  exact HR.out _ _ _ (owns_mono hown9 (by have := hx4.size; simp; omega)) (below_then (hx4.alloc hx4.size _) hb9 (by have := hx4.size; simp; omega))

set_option maxRecDepth 100000 in
set_option maxHeartbeats 1600000 in
theorem laid_6 (d : Value) (p : Pr) (hk : kindL p.id = 6) (J : List UInt8) (hJ : laidL p = J) (w : World) (h : PC w d p) (hT : Tabs w) (R : Ending → World → Prop)
    (hR : ∀ ad c w', w'.ownsRow w.heap.size 5 1 (.slice ad J.length c) J.length (bv J) → Below w.heap.size w w' → R (.returned (.slice ad J.length c)) w') :
    Calls Tryz.prog 171 #[.agg #[.int .i64 p.id, .int .i64 p.num, .string (str p.text), .string (str p.pair), d]] w R := by
  have HR := Lib.hid hR
  have HK := Lib.hid hk
  have HP := Lib.hid h
  have HT := Lib.hid hT
  obtain ⟨V, er, hV⟩ : ∃ V er, varR p.id = (V, er) := ⟨_, _, rfl⟩
  have HV := Lib.hid hV
  have hjl := laidL_len p
  rw [laidL_eq, hV] at hJ
  rw [laidL_eq, hV] at hjl
  rw [hJ] at hjl
  simp only at hJ
  have HJL := Lib.hid hjl
  have N0 : Hid ((w.alloc (Obj.cells #[.int .i64 p.id, .int .i64 p.num, .string (str p.text), .string (str p.pair), d] 147)).heap[w.heap.size]? = some (Obj.cells #[.int .i64 p.id, .int .i64 p.num, .string (str p.text), .string (str p.pair), d] 147)) := Lib.hid (heap_alloc_new w _)
  have hbA := (Below.refl w.heap.size w).alloc (Nat.le_refl _) (Obj.cells #[.int .i64 p.id, .int .i64 p.num, .string (str p.text), .string (str p.pair), d] 147)
  clear hR h hV hjl hT
  obtain ⟨P, e2, hP⟩ : ∃ P e2, dataL p.data = (P, e2) := ⟨_, _, rfl⟩
  obtain ⟨Q, hQ⟩ : ∃ Q : List UInt8, Q = [] := ⟨_, rfl⟩
  have hval : valB p = P := by unfold valB; rw [hk, hP]; rfl
  rw [hval] at hJ
  have HJF : Hid ([V, P, Q].flatten = J) := Lib.hid (by rw [flat3, hQ, List.append_nil]; exact hJ)
  have HPW := Lib.hid hP
  have HQ := Lib.hid hQ
  clear hP hval hJ hk hQ
  go_enter Tryz.func171, Tryz.ntmps171
  go_wp2_with (first
    | (go_at_call_of 172 (Value.int .i64 p.id); go_must (refine var_any p.id V er HV.out _ _ ?_); intro va vc w1 hown1 hb1; have nr := row_later2 N0.out hb1; have ae0 := cell_of_row _ w.heap.size 0 _ _ _ nr; have ae1 := cell_of_row _ w.heap.size 1 _ _ _ nr; have ae2 := cell_of_row _ w.heap.size 2 _ _ _ nr; have ae3 := cell_of_row _ w.heap.size 3 _ _ _ nr; have ae4 := cell_of_row _ w.heap.size 4 _ _ _ nr; have af0 := frozen_block nr 0; have af1 := frozen_block nr 1; have af2 := frozen_block nr 2; have af3 := frozen_block nr 3; have af4 := frozen_block nr 4; have N1 := Lib.hid nr; have hx1 := below_tr hbA hb1; have hO1 := owns_mono (base' := w.heap.size) hown1 (by simp); clear nr N0 hb1 hown1)
    | (go_at_call 189; go_must (refine kind_any p.id 6 HK.out _ _ ?_); intro w2 hb2; have nr := row_later2 N1.out hb2; clear ae0 ae1 ae2 ae3 ae4 af0 af1 af2 af3 af4; have be0 := cell_of_row _ w.heap.size 0 _ _ _ nr; have be1 := cell_of_row _ w.heap.size 1 _ _ _ nr; have be2 := cell_of_row _ w.heap.size 2 _ _ _ nr; have be3 := cell_of_row _ w.heap.size 3 _ _ _ nr; have be4 := cell_of_row _ w.heap.size 4 _ _ _ nr; have bf0 := frozen_block nr 0; have bf1 := frozen_block nr 1; have bf2 := frozen_block nr 2; have bf3 := frozen_block nr 3; have bf4 := frozen_block nr 4; have N2 := Lib.hid nr; have hx2 := below_tr hx1 hb2; have hO2 := owns_below hO1 hb2; clear nr N1 hb2 hO1)
    | (go_at_call 118; go_must (refine data_any _ p.data P e2 HPW.out _ (HP.out.hd.below hx2) _ ?_); intro pa pc w4 hown4 hb4; have hx4 := below_tr hx2 hb4; have hO4 := owns_below hO2 hb4; have hN4 : Bs w4 (.slice none 0 0) Q := (by rw [HQ.out]; exact bs_nil _); have hB := bss3 (e := 22) (bs_of_owns hO4).2 (bs_of_owns hown4).2 hN4; clear be0 be1 be2 be3 be4 bf0 bf1 bf2 bf3 bf4 hb4 N2)
    | (go_at_call 55; go_must (refine join_any _ [V, P, Q] J HJF.out _ hB (by have := HJL.out; omega) _ ?_)))
  intro ad9 c9 w9 hown9 hb9
  go_wp2
  exact HR.out _ _ _ (owns_mono hown9 (by have := hx4.size; simp; omega)) (below_then (hx4.alloc hx4.size _) hb9 (by have := hx4.size; simp; omega))

set_option maxRecDepth 100000 in
set_option maxHeartbeats 1600000 in
theorem laid_7 (d : Value) (p : Pr) (hk : kindL p.id = 7) (J : List UInt8) (hJ : laidL p = J) (w : World) (h : PC w d p) (hT : Tabs w) (R : Ending → World → Prop)
    (hR : ∀ ad c w', w'.ownsRow w.heap.size 5 1 (.slice ad J.length c) J.length (bv J) → Below w.heap.size w w' → R (.returned (.slice ad J.length c)) w') :
    Calls Tryz.prog 171 #[.agg #[.int .i64 p.id, .int .i64 p.num, .string (str p.text), .string (str p.pair), d]] w R := by
  have HR := Lib.hid hR
  have HK := Lib.hid hk
  have HP := Lib.hid h
  have HT := Lib.hid hT
  obtain ⟨V, er, hV⟩ : ∃ V er, varR p.id = (V, er) := ⟨_, _, rfl⟩
  have HV := Lib.hid hV
  have hjl := laidL_len p
  rw [laidL_eq, hV] at hJ
  rw [laidL_eq, hV] at hjl
  rw [hJ] at hjl
  simp only at hJ
  have HJL := Lib.hid hjl
  have N0 : Hid ((w.alloc (Obj.cells #[.int .i64 p.id, .int .i64 p.num, .string (str p.text), .string (str p.pair), d] 147)).heap[w.heap.size]? = some (Obj.cells #[.int .i64 p.id, .int .i64 p.num, .string (str p.text), .string (str p.pair), d] 147)) := Lib.hid (heap_alloc_new w _)
  have hbA := (Below.refl w.heap.size w).alloc (Nat.le_refl _) (Obj.cells #[.int .i64 p.id, .int .i64 p.num, .string (str p.text), .string (str p.pair), d] 147)
  clear hR h hV hjl hT
  obtain ⟨P, e2, hP⟩ : ∃ P e2, textL p.text = (P, e2) := ⟨_, _, rfl⟩
  obtain ⟨Q, e3, hQ⟩ : ∃ Q e3, textL p.pair = (Q, e3) := ⟨_, _, rfl⟩
  have hval : valB p = P ++ Q := by unfold valB; rw [hk, hP, hQ]; rfl
  rw [hval] at hJ
  have HJF : Hid ([V, P, Q].flatten = J) := Lib.hid (by rw [flat3]; exact hJ)
  have HPW := Lib.hid hP
  have HQ := Lib.hid hQ
  clear hP hval hJ hk hQ
  go_enter Tryz.func171, Tryz.ntmps171
  go_wp2_with (first
    | (go_at_call_of 172 (Value.int .i64 p.id); go_must (refine var_any p.id V er HV.out _ _ ?_); intro va vc w1 hown1 hb1; have nr := row_later2 N0.out hb1; have ae0 := cell_of_row _ w.heap.size 0 _ _ _ nr; have ae1 := cell_of_row _ w.heap.size 1 _ _ _ nr; have ae2 := cell_of_row _ w.heap.size 2 _ _ _ nr; have ae3 := cell_of_row _ w.heap.size 3 _ _ _ nr; have ae4 := cell_of_row _ w.heap.size 4 _ _ _ nr; have af0 := frozen_block nr 0; have af1 := frozen_block nr 1; have af2 := frozen_block nr 2; have af3 := frozen_block nr 3; have af4 := frozen_block nr 4; have N1 := Lib.hid nr; have hx1 := below_tr hbA hb1; have hO1 := owns_mono (base' := w.heap.size) hown1 (by simp); clear nr N0 hb1 hown1)
    | (go_at_call 189; go_must (refine kind_any p.id 7 HK.out _ _ ?_); intro w2 hb2; have nr := row_later2 N1.out hb2; clear ae0 ae1 ae2 ae3 ae4 af0 af1 af2 af3 af4; have be0 := cell_of_row _ w.heap.size 0 _ _ _ nr; have be1 := cell_of_row _ w.heap.size 1 _ _ _ nr; have be2 := cell_of_row _ w.heap.size 2 _ _ _ nr; have be3 := cell_of_row _ w.heap.size 3 _ _ _ nr; have be4 := cell_of_row _ w.heap.size 4 _ _ _ nr; have bf0 := frozen_block nr 0; have bf1 := frozen_block nr 1; have bf2 := frozen_block nr 2; have bf3 := frozen_block nr 3; have bf4 := frozen_block nr 4; have N2 := Lib.hid nr; have hx2 := below_tr hx1 hb2; have hO2 := owns_below hO1 hb2; clear nr N1 hb2 hO1)
    | (have n2 := N2.out; go_at_call 54; go_must (refine text_any p.text P e2 HPW.out _ (by have := HP.out.lt; omega) (HT.out.below hx2) _ ?_); intro pa pc w4 hown4 hb4; have hx4 := below_tr hx2 hb4; have hO4 := owns_below hO2 hb4; have nr := row_later2 n2 hb4; clear be0 be1 be2 be3 be4 bf0 bf1 bf2 bf3 bf4 n2; have ge0 := cell_of_row _ w.heap.size 0 _ _ _ nr; have ge1 := cell_of_row _ w.heap.size 1 _ _ _ nr; have ge2 := cell_of_row _ w.heap.size 2 _ _ _ nr; have ge3 := cell_of_row _ w.heap.size 3 _ _ _ nr; have ge4 := cell_of_row _ w.heap.size 4 _ _ _ nr; have gf0 := frozen_block nr 0; have gf1 := frozen_block nr 1; have gf2 := frozen_block nr 2; have gf3 := frozen_block nr 3; have gf4 := frozen_block nr 4; clear hb4 N2 nr)
    | (go_at_call 54; go_must (refine text_any p.pair Q e3 HQ.out _ (by have := HP.out.lp; omega) (HT.out.below hx4) _ ?_); intro qa qc w6 hown6 hb6; have hx6 := below_tr hx4 hb6; have hO6 := owns_below hO4 hb6; have hP6 := owns_below hown4 hb6; have hB := bss3 (e := 22) (bs_of_owns hO6).2 (bs_of_owns hP6).2 (bs_of_owns hown6).2; clear ge0 ge1 ge2 ge3 ge4 gf0 gf1 gf2 gf3 gf4 hb6)
    | (go_at_call 55; go_must (refine join_any _ [V, P, Q] J HJF.out _ hB (by have := HJL.out; omega) _ ?_)))
  intro ad9 c9 w9 hown9 hb9
  go_wp2
  exact HR.out _ _ _ (owns_mono hown9 (by have := hx6.size; simp; omega)) (below_then (hx6.alloc hx6.size _) hb9 (by have := hx6.size; simp; omega))

set_option maxRecDepth 100000 in
set_option maxHeartbeats 1600000 in
theorem laid_0 (d : Value) (p : Pr) (hk : kindL p.id = 0) (J : List UInt8) (hJ : laidL p = J) (w : World) (h : PC w d p) (hT : Tabs w) (R : Ending → World → Prop)
    (hR : ∀ ad c w', w'.ownsRow w.heap.size 5 1 (.slice ad J.length c) J.length (bv J) → Below w.heap.size w w' → R (.returned (.slice ad J.length c)) w') :
    Calls Tryz.prog 171 #[.agg #[.int .i64 p.id, .int .i64 p.num, .string (str p.text), .string (str p.pair), d]] w R := by
  have HR := Lib.hid hR
  have HK := Lib.hid hk
  have HP := Lib.hid h
  have HT := Lib.hid hT
  obtain ⟨V, er, hV⟩ : ∃ V er, varR p.id = (V, er) := ⟨_, _, rfl⟩
  have HV := Lib.hid hV
  have hjl := laidL_len p
  rw [laidL_eq, hV] at hJ
  rw [laidL_eq, hV] at hjl
  rw [hJ] at hjl
  simp only at hJ
  have HJL := Lib.hid hjl
  have N0 : Hid ((w.alloc (Obj.cells #[.int .i64 p.id, .int .i64 p.num, .string (str p.text), .string (str p.pair), d] 147)).heap[w.heap.size]? = some (Obj.cells #[.int .i64 p.id, .int .i64 p.num, .string (str p.text), .string (str p.pair), d] 147)) := Lib.hid (heap_alloc_new w _)
  have hbA := (Below.refl w.heap.size w).alloc (Nat.le_refl _) (Obj.cells #[.int .i64 p.id, .int .i64 p.num, .string (str p.text), .string (str p.pair), d] 147)
  clear hR h hV hjl hT
  obtain ⟨P, hP⟩ : ∃ P : List UInt8, P = [] := ⟨_, rfl⟩
  obtain ⟨Q, hQ⟩ : ∃ Q : List UInt8, Q = [] := ⟨_, rfl⟩
  have hval : valB p = P := by unfold valB; rw [hk, hP]; rfl
  rw [hval] at hJ
  have HJF : Hid ([V, P, Q].flatten = J) := Lib.hid (by rw [flat3, hQ, List.append_nil]; exact hJ)
  have HPW := Lib.hid hP
  have HQ := Lib.hid hQ
  clear hP hval hJ hk hQ
  go_enter Tryz.func171, Tryz.ntmps171
  go_wp2_with (first
    | (go_at_call_of 172 (Value.int .i64 p.id); go_must (refine var_any p.id V er HV.out _ _ ?_); intro va vc w1 hown1 hb1; have nr := row_later2 N0.out hb1; have ae0 := cell_of_row _ w.heap.size 0 _ _ _ nr; have ae1 := cell_of_row _ w.heap.size 1 _ _ _ nr; have ae2 := cell_of_row _ w.heap.size 2 _ _ _ nr; have ae3 := cell_of_row _ w.heap.size 3 _ _ _ nr; have ae4 := cell_of_row _ w.heap.size 4 _ _ _ nr; have af0 := frozen_block nr 0; have af1 := frozen_block nr 1; have af2 := frozen_block nr 2; have af3 := frozen_block nr 3; have af4 := frozen_block nr 4; have N1 := Lib.hid nr; have hx1 := below_tr hbA hb1; have hO1 := owns_mono (base' := w.heap.size) hown1 (by simp); clear nr N0 hb1 hown1)
    | (go_at_call 189; go_must (refine kind_any p.id 0 HK.out _ _ ?_); intro w2 hb2; have hx2 := below_tr hx1 hb2; have hO2 := owns_below hO1 hb2; have hN4 : Bs w2 (.slice none 0 0) Q := (by rw [HQ.out]; exact bs_nil _); have hN5 : Bs w2 (.slice none 0 0) P := (by rw [HPW.out]; exact bs_nil _); have hB := bss3 (e := 22) (bs_of_owns hO2).2 hN5 hN4; clear ae0 ae1 ae2 ae3 ae4 af0 af1 af2 af3 af4 N1 hb2 hO1)
    | (go_at_call 55; go_must (refine join_any _ [V, P, Q] J HJF.out _ hB (by have := HJL.out; omega) _ ?_)))
  intro ad9 c9 w9 hown9 hb9
  go_wp2
  exact HR.out _ _ _ (owns_mono hown9 (by have := hx2.size; simp; omega)) (below_then (hx2.alloc hx2.size _) hb9 (by have := hx2.size; simp; omega))

theorem laid_any (d : Value) (p : Pr) (J : List UInt8) (hJ : laidL p = J) (w : World) (h : PC w d p) (hT : Tabs w) (R : Ending → World → Prop)
    (hR : ∀ ad c w', w'.ownsRow w.heap.size 5 1 (.slice ad J.length c) J.length (bv J) → Below w.heap.size w w' → R (.returned (.slice ad J.length c)) w') :
    Calls Tryz.prog 171 #[.agg #[.int .i64 p.id, .int .i64 p.num, .string (str p.text), .string (str p.pair), d]] w R := by
  rcases kind_cases p.id with hk | hk | hk | hk | hk | hk | hk | hk
  · exact laid_0 d p hk J hJ w h hT R hR
  · exact laid_1 d p hk J hJ w h hT R hR
  · exact laid_2 d p hk J hJ w h hT R hR
  · exact laid_3 d p hk J hJ w h hT R hR
  · exact laid_4 d p hk J hJ w h hT R hR
  · exact laid_5 d p hk J hJ w h hT R hR
  · exact laid_6 d p hk J hJ w h hT R hR
  · exact laid_7 d p hk J hJ w h hT R hR
end Go.Proofs.YtgimbocoamnkjaaGreatDoor
