
import Derived.Test.YtbfelcgjocpgaaaDoorCut22
import Derived.Test.YtbfelcgjocpgaaaDoorBookUse
import Derived.Test.YtbfelcgjocpgaaaDoorWide
import Derived.Test.YtbfelcgjocpgaaaDoorWakes22
import Derived.Deep.WholeRow
import Derived.Laws.CopyOwn
import Derived.Deep.MidRow
namespace Go.Proofs.YtbfelcgjocpgaaaDoor
open Go.RowKit

/-- What is looked up, and whether it is there. -/
structure Looks (us : List (List UInt8 × List UInt8)) (n S : List UInt8) (b : Bool) : Prop where
  at_ : lookU us n = if b then some S else none
  none_ : b = false → S = []

theorem secret_at (og : Value) (op : Value) (uv : Value) (us : List (List UInt8 × List UInt8)) (n S : List UInt8) (b : Bool) (hLk : Looks us n S b) (hl : ∀ u ∈ us, u.2.length ≤ 140737488355328) (w : World) (hu : Us w uv us) (R : Ending → World → Prop)
    (hR : ∀ ad c w', w'.ownsRow w.heap.size 5 1 (.slice ad S.length c) S.length (bv S) → Below w.heap.size w w' → R (.returned (.tuple #[.slice ad S.length c, .bool b])) w') :
    Calls Tryd.prog 8 #[.agg #[og, op, uv], .string (str n)] w R := by
  obtain ⟨hS, hb⟩ := hLk
  cases b with
  | true => exact secret_some og op uv us n S (by simpa using hS) hl w hu R hR
  | false =>
    obtain rfl := hb rfl
    exact secret_none og op uv us n (by simpa using hS) hl w hu R hR
theorem rsecret_at (og : Value) (op : Value) (uv : Value) (us : List (List UInt8 × List UInt8)) (n S : List UInt8) (b : Bool) (hLk : Looks us n S b) (w0 w : World) (hu : Us w0 uv us) (h0 : Below w0.heap.size w0 w) (R : Ending → World → Prop)
    (hR : ∀ ad c w', Bs w0 (.slice ad S.length c) S → Below w.heap.size w w' → R (.returned (.tuple #[.slice ad S.length c, .bool b])) w') :
    Calls Tryd.prog 9 #[.agg #[og, op, uv], .string (str n)] w R :=
  rsecret_from og op uv us n w0 w hu h0 R fun v w' S' b' h1 h2 h3 h4 => by
    obtain ⟨hS, hb⟩ := hLk
    rw [hS] at h1
    have hbb : b' = b ∧ S' = S := by
      cases b <;> cases b' <;> simp at h1
      · exact ⟨rfl, by rw [hb rfl, h2 rfl]⟩
      · exact ⟨rfl, h1.symm⟩
    obtain ⟨rfl, rfl⟩ := hbb
    have h3' := h3
    obtain ⟨ad, c, rfl, _⟩ := h3'
    exact hR ad c w' h3 h4

theorem book_bytes_n (B K : Nat) (vs us : List Value) (ps : List (List UInt8)) (ad : Option Addr) (c n : Nat) (p : List UInt8) (hpn : p.length = n) (w : World) (hB : Bk 50 25 5 w B K vs us ps) (hn : ps.length < 400)
    (hv : w.ownsRow B 5 1 (.slice ad n c) n (bv p)) (hd : ∀ v' ∈ vs, Unlike v' (.slice ad n c)) (hd2 : ∀ u ∈ us, Unlike (.slice ad n c) u) (hp : p.length ≤ 140737488351232) (R : Ending → World → Prop)
    (hR : ∀ w' us', Bk 50 25 5 w' B K (vs ++ [.slice ad n c]) us' (ps ++ [p]) → Below B w w' → Keeps 5 w w' → (∀ u ∈ us', u ∈ us ∨ ∀ k, u.ownBlock = some k → w.heap.size ≤ k) → R (.returned (.tuple #[])) w') :
    Calls Tryd.prog 19 #[.pointer (some ⟨K, 0, none⟩), .slice ad n c] w R := by
  subst hpn
  exact book_bytes B K vs us ps ad c p w hB hn hv hd hd2 hp R hR

/-- A block that was made lies there later. -/
theorem row_later {w w' : World} {g : Nat} {o : Obj} (h : w.heap[g]? = some o) (hb : Below w.heap.size w w') : w'.heap[g]? = some o := by
  rw [hb.block g (Array.getElem?_eq_some_iff.1 h).1]
  exact h

/-- The law's own two variables, and all that was there before. -/
structure EnS (w : World) (cf pk : Array Value) (wi : World) : Prop where
  hb : Below w.heap.size w wi
  c : wi.heap[w.heap.size]? = some (.cells cf 24 (0, 0))
  p : wi.heap[w.heap.size + 1]? = some (.cells pk 34 (0, 0))
theorem EnS.step {w wi wj : World} {cf pk : Array Value} (h : EnS w cf pk wi) (hy : Below wi.heap.size wi wj) : EnS w cf pk wj :=
  ⟨below_then h.hb hy h.hb.size, row_later h.c hy, row_later h.p hy⟩
theorem EnS.far {w wi wj : World} {cf pk : Array Value} {B : Nat} (h : EnS w cf pk wi) (hy : Below B wi wj) (hB : w.heap.size + 2 ≤ B) : EnS w cf pk wj :=
  ⟨below_then h.hb hy (by omega), by rw [hy.block _ (by omega)]; exact h.c, by rw [hy.block _ (by omega)]; exact h.p⟩
theorem EnS.size {w wi : World} {cf pk : Array Value} (h : EnS w cf pk wi) : w.heap.size + 2 ≤ wi.heap.size := by
  have := (Array.getElem?_eq_some_iff.1 h.p).1
  omega
theorem cells_cfg {w : World} {g t : Nat} {fr : Nat × Nat} {og op uv : Value} (h : w.heap[g]? = some (.cells #[og, op, uv] t fr)) : w.cell? ⟨g, 0, none⟩ = some og ∧ w.cell? ⟨g, 1, none⟩ = some op ∧ w.cell? ⟨g, 2, none⟩ = some uv :=
  ⟨cell_of_row _ g 0 _ _ _ h, cell_of_row _ g 1 _ _ _ h, cell_of_row _ g 2 _ _ _ h⟩
set_option maxRecDepth 100000 in
set_option maxHeartbeats 16000000 in
theorem enters_law (og : Int) (op : Bool) (uv : Value) (us : List (List UInt8 × List UInt8)) (hl0 : ∀ u ∈ us, u.2.length ≤ 140737488351232) (x0 x1 x2 x3 x4 x5 x6 x7 x8 x9 x10 x11 x12 x13 x14 x15 x16 x17 x18 x19 x20 : Value) (hu hp : Bool) (N W : List UInt8) (pv : Value) (pr : Bool) (M : List UInt8) (qv av : Value) (q0 a0 : List UInt8) (w : World) (hU : Us w uv us) (hW : Bs w pv W) (hq : Bs w qv q0) (ha : Bs w av a0) (hT : Tabs w) (R : Ending → World → Prop)
    (hR : ∀ w', Below w.heap.size w w' → R (.returned (.bool true)) w') :
    Calls Tryd.prog 3 #[.agg #[.int .i64 og, .bool op, uv], .agg #[x0, x1, x2, x3, x4, x5, x6, x7, x8, x9, x10, x11, x12, x13, x14, x15, x16, x17, x18, x19, x20, .bool hu, .string (str N), .bool hp, pv, .bool pr], .string (str M), qv, av] w R := by
  obtain ⟨Q, hQ⟩ : ∃ Q, q0.take (100 : Int).toNat = Q := ⟨_, rfl⟩
  have hQl : Q.length ≤ 100 := by rw [← hQ, List.length_take]; show min 100 _ ≤ 100; omega
  obtain ⟨A, hA⟩ : ∃ A, a0.take (100 : Int).toNat = A := ⟨_, rfl⟩
  have hAl : A.length ≤ 100 := by rw [← hA, List.length_take]; show min 100 _ ≤ 100; omega
  obtain ⟨ut, hut⟩ : ∃ ut, us.take 12 = ut := ⟨_, rfl⟩
  have hl : ∀ u ∈ ut, u.2.length ≤ 140737488351232 := by rw [← hut]; exact fun u h => hl0 u (List.mem_of_mem_take h)
  have hl' : ∀ u ∈ ut, u.2.length ≤ 140737488355328 := fun u h => by have := hl u h; omega
  have HQ := Lib.hid hQ
  have HA := Lib.hid hA
  have HUT := Lib.hid hut
  clear hQ hA hut hl0
  have hU' := hU
  obtain ⟨ua0, uc0, rfl, _, _, _, r9⟩ := hU'
  clear r9
  have hbA := ((Below.refl w.heap.size w).alloc (Nat.le_refl _) (Obj.cells #[Value.int .i64 og, Value.bool op, Value.slice ua0 us.length uc0] 24)).alloc (by simp) (Obj.cells #[x0, x1, x2, x3, x4, x5, x6, x7, x8, x9, x10, x11, x12, x13, x14, x15, x16, x17, x18, x19, x20, Value.bool hu, Value.string (str N), Value.bool hp, pv, Value.bool pr] 34)
  have hn0 : ((w.alloc (Obj.cells #[Value.int .i64 og, Value.bool op, Value.slice ua0 us.length uc0] 24)).alloc (Obj.cells #[x0, x1, x2, x3, x4, x5, x6, x7, x8, x9, x10, x11, x12, x13, x14, x15, x16, x17, x18, x19, x20, Value.bool hu, Value.string (str N), Value.bool hp, pv, Value.bool pr] 34)).heap[w.heap.size]? = some (Obj.cells #[Value.int .i64 og, Value.bool op, Value.slice ua0 us.length uc0] 24) := block_alloc (heap_alloc_new w _)
  have hn1 := heap_alloc_new (w.alloc (Obj.cells #[Value.int .i64 og, Value.bool op, Value.slice ua0 us.length uc0] 24)) (Obj.cells #[x0, x1, x2, x3, x4, x5, x6, x7, x8, x9, x10, x11, x12, x13, x14, x15, x16, x17, x18, x19, x20, Value.bool hu, Value.string (str N), Value.bool hp, pv, Value.bool pr] 34)
  rw [show (w.alloc (Obj.cells #[Value.int .i64 og, Value.bool op, Value.slice ua0 us.length uc0] 24)).heap.size = w.heap.size + 1 by simp] at hn1
  have HN0 := Lib.hid hn0
  have HN1 := Lib.hid hn1
  have HBA := Lib.hid hbA
  have HUA := Lib.hid (hU.below hbA)
  clear hn0 hn1 hbA
  go_enter Tryd.func3, Tryd.ntmps3
  have hUt : Us w (.slice ua0 ut.length uc0) ut := by
    have h1 := HUT.out
    by_cases h12 : 12 ≤ us.length
    · have hl12 : ut.length = 12 := by rw [← h1, List.length_take]; omega
      rw [hl12, ← h1]
      exact hU.cut h12
    · rw [List.take_of_length_le (by omega)] at h1
      rw [← h1]
      exact hU
  go_wp2_with (go_at_call 6; go_must (refine cut22_any _ _ _ _ _ us ut HUT.out _ HUA.out _ ?_))
  intro w1 hb1s
  have hb1 := below_at hb1s (by simp)
  have n0 := row_later HN0.out hb1
  have n1 := row_later HN1.out hb1
  have hb1w := below_then HBA.out hb1 (by simp; omega)
  have m1 := setRow_other w1 w.heap.size (w.heap.size + 1) #[Value.int .i64 og, Value.bool op, Value.slice ua0 ut.length uc0] (by omega)
  rw [n1] at m1
  have hs2 : Hid (EnS w #[Value.int .i64 og, Value.bool op, Value.slice ua0 ut.length uc0] #[x0, x1, x2, x3, x4, x5, x6, x7, x8, x9, x10, x11, x12, x13, x14, x15, x16, x17, x18, x19, x20, Value.bool hu, Value.string (str N), Value.bool hp, pv, Value.bool pr] (w1.setRow w.heap.size #[Value.int .i64 og, Value.bool op, Value.slice ua0 ut.length uc0])) := ⟨below_setRow hb1w (Nat.le_refl _) _, setRow_heap w1 w.heap.size _ _ _ _ n0, m1⟩
  clear hb1s hb1 hb1w n1 m1
  have N0 := Lib.hid n0
  clear n0 HN0 HN1 HBA HUA hU HUT
  go_wp2_with (first
    | (refine wpList_store_row (o := ⟨none, .store 24 (.tmp 5) (.tmp 20), _, _, _, _⟩) (by rfl) 24 (.tmp 5) (.tmp 20) (by rfl) w.heap.size _ (by rfl) (by rfl) 24 _ N0.out (by kernel_rfl) (by rfl) (by simp [Value.oneCell']) ?_)
    | (go_at_call 7; fail))
  clear N0
  generalize w1.setRow w.heap.size #[Value.int .i64 og, Value.bool op, Value.slice ua0 ut.length uc0] = w2 at hs2 ⊢
  obtain ⟨pk, hpk⟩ : ∃ pk : Array Value, pk = #[x0, x1, x2, x3, x4, x5, x6, x7, x8, x9, x10, x11, x12, x13, x14, x15, x16, x17, x18, x19, x20, Value.bool hu, Value.string (str N), Value.bool hp, pv, Value.bool pr] := ⟨_, rfl⟩
  have hx2 := hs2.out.hb
  refine cut_any _ q0 Q 100 HQ.out _ (hq.below hx2) (by omega) _ ?_
  intro ad3 c3 hq3
  go_wp2_with (go_at_call 7; go_must (refine cut_any _ a0 A 100 HA.out _ (ha.below hx2) (by omega) _ ?_))
  intro ad4 c4 ha4
  clear hq ha HQ HA
  obtain ⟨S, b, hS, hSb⟩ : ∃ S b, lookU ut M = (if b then some S else none) ∧ (b = false → S = []) := by
    cases h : lookU ut M with
    | none => exact ⟨[], false, by simp, fun _ => rfl⟩
    | some S => exact ⟨S, true, by simp, by simp⟩
  have hSl : S.length ≤ 140737488351232 := by
    cases b with
    | false => rw [hSb rfl]; simp
    | true => exact lookU_len hl (by simpa using hS)
  have HLK : Looks ut M S b := ⟨hS, hSb⟩
  clear hS hSb
  obtain ⟨d2, e2, f2⟩ := cells_cfg hs2.out.c
  go_wp2_with (go_at_call 8; go_must (refine secret_at _ _ _ ut M S b HLK hl' _ (hUt.below hx2) _ ?_))
  intro ad5 c5 w5 hown5 hy5
  have hs5 : Hid (EnS w _ _ w5) := hs2.out.step hy5
  have hx5 := hs5.out.hb
  have hz5 : w2.heap.size ≤ w5.heap.size := hy5.size
  have hq5 := hq3.below hy5
  have ha5 := ha4.below hy5
  obtain ⟨d5, e5, f5⟩ := cells_cfg hs5.out.c
  clear d2 e2 f2 hy5 hq3 ha4
  go_wp2_with (go_at_call 9; go_must (refine rsecret_at _ _ _ ut M S b HLK w _ hUt hx5 _ ?_))
  intro ad6 c6 w6 ht6 hy6
  have hs6 : Hid (EnS w _ _ w6) := hs5.out.step hy6
  have hx6 := hs6.out.hb
  have hz6 : w2.heap.size ≤ w6.heap.size := by have := hy6.size; omega
  have hq6 := hq5.below hy6
  have ha6 := ha5.below hy6
  have hown6 := owns_mono (base' := w2.heap.size) (owns_below hown5 hy6) (by omega)
  clear hy6 hq5 ha5 hown5 hx5 d5 e5 f5 hs5 hz5
  obtain ⟨ck, hck⟩ : ∃ x, checkL og ut = x := ⟨_, rfl⟩
  obtain ⟨en, hen⟩ : ∃ x, enterL op ut hu N hp W = x := ⟨_, rfl⟩
  have HCK := Lib.hid hck
  have HEN := Lib.hid hen
  clear hck hen
  go_wp2
  have hsd : Hid (EnS w _ _ w6.drew) := ⟨hs6.out.hb.drew, hs6.out.c, hs6.out.p⟩
  clear hs6
  have hs6 := hsd
  clear hsd
  replace hx6 := hs6.out.hb
  replace hown6 : w6.drew.ownsRow _ _ _ _ _ _ := owns_below hown6 (Below.refl _ _).drew
  replace hq6 : Bs w6.drew _ _ := hq6.drew
  replace ha6 : Bs w6.drew _ _ := ha6.drew
  replace hz6 : w2.heap.size ≤ w6.drew.heap.size := hz6
  obtain ⟨Y24, hY24⟩ : ∃ Y, Go.sizeOf 24 = Y := ⟨_, rfl⟩
  have hR24 : ∀ w', EnS w #[Value.int .i64 og, Value.bool op, Value.slice ua0 ut.length uc0] #[x0, x1, x2, x3, x4, x5, x6, x7, x8, x9, x10, x11, x12, x13, x14, x15, x16, x17, x18, x19, x20, Value.bool hu, Value.string (str N), Value.bool hp, pv, Value.bool pr] w' → ((Sem.run Tryd.prog Y24 w').andThen fun a w' => (Sem.run Tryd.prog (loadCellsFrom ⟨w.heap.size, 0, none⟩ 0 a #[]) w').andThen fun a w' => Result.ok (Value.agg a) w') = Result.ok (Value.agg #[Value.int .i64 og, Value.bool op, Value.slice ua0 ut.length uc0]) w' := fun w' h => wide_load hY24 h.c (by kernel_rfl)
  obtain ⟨Y34, hY34⟩ : ∃ Y, Go.sizeOf 34 = Y := ⟨_, rfl⟩
  have hR34 : ∀ w', EnS w #[Value.int .i64 og, Value.bool op, Value.slice ua0 ut.length uc0] #[x0, x1, x2, x3, x4, x5, x6, x7, x8, x9, x10, x11, x12, x13, x14, x15, x16, x17, x18, x19, x20, Value.bool hu, Value.string (str N), Value.bool hp, pv, Value.bool pr] w' → ((Sem.run Tryd.prog Y34 w').andThen fun a w' => (Sem.run Tryd.prog (loadCellsFrom ⟨w.heap.size + 1, 0, none⟩ 0 a #[]) w').andThen fun a w' => Result.ok (Value.agg a) w') = Result.ok (Value.agg #[x0, x1, x2, x3, x4, x5, x6, x7, x8, x9, x10, x11, x12, x13, x14, x15, x16, x17, x18, x19, x20, Value.bool hu, Value.string (str N), Value.bool hp, pv, Value.bool pr]) w' := fun w' h => wide_load hY34 h.p (by kernel_rfl)
  have hS6 : EnS w #[Value.int .i64 og, Value.bool op, Value.slice ua0 ut.length uc0] #[x0, x1, x2, x3, x4, x5, x6, x7, x8, x9, x10, x11, x12, x13, x14, x15, x16, x17, x18, x19, x20, Value.bool hu, Value.string (str N), Value.bool hp, pv, Value.bool pr] w6.drew := hs6.out
  go_region_held (fun w' => EnS w #[Value.int .i64 og, Value.bool op, Value.slice ua0 ut.length uc0] #[x0, x1, x2, x3, x4, x5, x6, x7, x8, x9, x10, x11, x12, x13, x14, x15, x16, x17, x18, x19, x20, Value.bool hu, Value.string (str N), Value.bool hp, pv, Value.bool pr] w')
    (first | exact hS6 | exact hS7 | exact hS8 | exact hS10 | exact hS11 | go_keep)
    (first
      | (go_at_call 10; refine check_any og op _ ut ck HCK.out _ (hUt.below hx6) (hT.below hx6) _ ?_; intro w7 hy7; have hs7 : Hid (EnS w _ _ w7) := hs6.out.step hy7; have hx7 := hs7.out.hb; have hz7 : w2.heap.size ≤ w7.heap.size := Nat.le_trans hz6 hy7.size; have hS7 := hs7.out; have hown7 := owns_below hown6 hy7; clear hown6;have hq7 := hq6.below hy7; have ha7 := ha6.below hy7; clear hq6 ha6; clear hS6 hy7)
      | (go_at_call 11; refine rcheck_any og op _ ut ck HCK.out _ (hUt.below hx7) _ ?_; intro w8 hy8; have hs8 : Hid (EnS w _ _ w8) := hs7.out.step hy8; have hx8 := hs8.out.hb; have hz8 : w2.heap.size ≤ w8.heap.size := Nat.le_trans hz7 hy8.size; have hS8 := hs8.out; have hown8 := owns_below hown7 hy8; clear hown7;have hq8 := hq7.below hy8; have ha8 := ha7.below hy8; clear hq7 ha7; clear hS7 hy8)
      | (go_at_call 12; refine same_any _ _ S S _ (bs_of_owns hown8).2 (ht6.below hx8) _ ?_)
      | (go_at_call 13; refine enter_any .i64 og op _ ut hl' _ _ _ _ _ _ _ _ _ _ _ _ _ _ _ _ _ _ _ _ _ hu hp N W pv pr en HEN.out _ (hUt.below hx8) (hW.below hx8) _ ?_; intro w10 hy10; have hs10 : Hid (EnS w _ _ w10) := hs8.out.step hy10; have hx10 := hs10.out.hb; have hz10 : w2.heap.size ≤ w10.heap.size := Nat.le_trans hz8 hy10.size; have hS10 := hs10.out; have hown10 := owns_below hown8 hy10; clear hown8;have hq10 := hq8.below hy10; have ha10 := ha8.below hy10; clear hq8 ha8; clear hS8 hy10)
      | (go_at_call 14; refine renter_any .i64 og op _ ut _ _ _ _ _ _ _ _ _ _ _ _ _ _ _ _ _ _ _ _ _ hu hp N W pv pr en HEN.out _ (hUt.below hx10) (hW.below hx10) _ ?_; intro w11 hy11; have hs11 : Hid (EnS w _ _ w11) := hs10.out.step hy11; have hx11 := hs11.out.hb; have hz11 : w2.heap.size ≤ w11.heap.size := Nat.le_trans hz10 hy11.size; have hS11 := hs11.out; have hown11 := owns_below hown10 hy11; clear hown10;have hq11 := hq10.below hy11; have ha11 := ha10.below hy11; clear hq10 ha10; clear hS10 hy11))
  have hXl : (ansL A Q).length = 4 := ansL_length _ _
  obtain ⟨X, hX⟩ : ∃ X, ansL A Q = X := ⟨_, rfl⟩
  rw [hX] at hXl
  have HX := Lib.hid hX
  obtain ⟨rt, hrt⟩ : ∃ x, rightL ut M Q A = x := ⟨_, rfl⟩
  have HRT := Lib.hid hrt
  have hXX : (X == X) = true := by simp
  have hSlt := Lib.hid hown11.lt
  have hz22 : w2.heap.size ≤ w11.heap.size := hz11
  clear hX hrt HCK HEN
  go_wp2_with (go_at_call 15; go_must (refine answer_any _ _ A Q X HX.out _ ha11 hq11 _ ?_))
  intro ad12 c12 w12 hxo12 hy12
  have hXlt := Lib.hid hxo12.lt
  have hs12 : Hid (EnS w _ _ w12) := hs11.out.step hy12
  have hx12 := hs12.out.hb
  have hz12 : w2.heap.size ≤ w12.heap.size := Nat.le_trans hz11 hy12.size
  have hS12 := hs12.out
  have hown12 := owns_below hown11 hy12
  have hq12 := hq11.below hy12
  have ha12 := ha11.below hy12
  clear hown11 hq11 ha11 hs11 hS11 hx11 hz11 hy12
  go_wp2
  have hsd : Hid (EnS w _ _ w12.drew) := ⟨hs12.out.hb.drew, hs12.out.c, hs12.out.p⟩
  clear hs12
  have hs12 := hsd
  clear hsd
  replace hx12 := hs12.out.hb
  replace hown12 : w12.drew.ownsRow _ _ _ _ _ _ := owns_below hown12 (Below.refl _ _).drew
  replace hxo12 : w12.drew.ownsRow _ _ _ _ _ _ := owns_below hxo12 (Below.refl _ _).drew
  replace hq12 : Bs w12.drew _ _ := hq12.drew
  replace ha12 : Bs w12.drew _ _ := ha12.drew
  replace hz12 : w2.heap.size ≤ w12.drew.heap.size := hz12
  replace hS12 : EnS w #[Value.int .i64 og, Value.bool op, Value.slice ua0 ut.length uc0] #[x0, x1, x2, x3, x4, x5, x6, x7, x8, x9, x10, x11, x12, x13, x14, x15, x16, x17, x18, x19, x20, Value.bool hu, Value.string (str N), Value.bool hp, pv, Value.bool pr] w12.drew := hs12.out
  go_region_held (fun w' => EnS w #[Value.int .i64 og, Value.bool op, Value.slice ua0 ut.length uc0] #[x0, x1, x2, x3, x4, x5, x6, x7, x8, x9, x10, x11, x12, x13, x14, x15, x16, x17, x18, x19, x20, Value.bool hu, Value.string (str N), Value.bool hp, pv, Value.bool pr] w')
    (first | exact hS12 | exact hS13 | exact hS14 | exact hS15 | go_keep)
    (first
      | (go_at_call 16; refine ranswer_any _ _ A Q X HX.out (by omega) _ ha12 hq12 _ ?_; intro ad13 c13 w13 hro13 hy13; have hs13 : Hid (EnS w _ _ w13) := hs12.out.step hy13; have hx13 := hs13.out.hb; have hz13 : w2.heap.size ≤ w13.heap.size := Nat.le_trans hz12 hy13.size; have hS13 := hs13.out; have hown13 := owns_below hown12 hy13; have hxo13 := owns_below hxo12 hy13; have hq13 := hq12.below hy13; have ha13 := ha12.below hy13; clear hown12 hxo12 hq12 ha12 hs12 hS12 hx12 hz12 hy13)
      | (go_at_call 12; refine same_any _ _ X X _ (by have h := (bs_of_owns hxo13).2; rw [hXl] at h; exact h) (by have h := (bs_of_owns hro13).2; rw [hXl] at h; exact h) _ ?_; clear hro13)
      | (go_at_call 17; refine right_any (.int .i64 og) (.bool op) _ ut M hl' _ _ Q A rt HRT.out _ ⟨_, _, rfl⟩ ⟨_, rfl⟩ (hUt.below hx13) hq13 ha13 _ ?_; intro w14 hy14; have hs14 : Hid (EnS w _ _ w14) := hs13.out.step hy14; have hx14 := hs14.out.hb; have hz14 : w2.heap.size ≤ w14.heap.size := Nat.le_trans hz13 hy14.size; have hS14 := hs14.out; have hown14 := owns_below hown13 hy14; have hxo14 := owns_below hxo13 hy14; have hq14 := hq13.below hy14; have ha14 := ha13.below hy14; clear hown13 hxo13 hq13 ha13 hs13 hS13 hx13 hz13 hy14)
      | (go_at_call 18; refine rright_any (.int .i64 og) (.bool op) _ ut M hl _ _ Q A (by omega) rt HRT.out _ ⟨_, _, rfl⟩ ⟨_, rfl⟩ (hUt.below hx14) hq14 ha14 _ ?_; intro w15 hy15; have hs15 : Hid (EnS w _ _ w15) := hs14.out.step hy15; have hx15 := hs15.out.hb; have hz15 : w2.heap.size ≤ w15.heap.size := Nat.le_trans hz14 hy15.size; have hS15 := hs15.out; have hown15 := owns_below hown14 hy15; have hxo15 := owns_below hxo14 hy15; have hq15 := hq14.below hy15; have ha15 := ha14.below hy15; clear hown14 hxo14 hq14 ha14 hs14 hS14 hx14 hz14 hy15))
  have hz2 : w.heap.size + 2 ≤ w2.heap.size := hs2.out.size
  cases b with
  | false => as_aux_lemma =>
    go_wp2
    go_quiet (fail)
    have hbq := below_drewN (n := nq) (Below.refl w15.heap.size w15)
    have hs20 : Hid (EnS w _ _ (w15.drewN nq)) := hs15.out.step hbq
    have hx20 := hs20.out.hb
    have hz20 : w2.heap.size ≤ (w15.drewN nq).heap.size := Nat.le_trans hz15 hbq.size
    have hS20 := hs20.out
    have hown20 := owns_below hown15 hbq
    have hxo20 := owns_below hxo15 hbq
    have hq20 := hq15.below hbq
    have ha20 := ha15.below hbq
    clear hs15 hx15 hz15 hS15 hown15 hxo15 hq15 ha15 hbq
    generalize w15.drewN nq = w20 at hs20 hx20 hz20 hS20 hown20 hxo20 hq20 ha20 ⊢
    go_wp2_with (go_at_call 19; fail)
    have hB := Bk.start (tb := 50) (ts := 25) (te := 5) w20 (B := w2.heap.size) hz20
    have hsB : Hid (EnS w _ _ (w20.alloc (Obj.cells #[Value.slice none 0 0, Value.slice none 0 0, Value.slice none 0 0, Value.slice none 0 0, Value.slice none 0 0, Value.slice none 0 0] 50))) := hs20.out.step ((Below.refl _ _).alloc (Nat.le_refl _) (Obj.cells #[Value.slice none 0 0, Value.slice none 0 0, Value.slice none 0 0, Value.slice none 0 0, Value.slice none 0 0, Value.slice none 0 0] 50))
    have hoB := hown20.alloc (Obj.cells #[Value.slice none 0 0, Value.slice none 0 0, Value.slice none 0 0, Value.slice none 0 0, Value.slice none 0 0, Value.slice none 0 0] 50)
    have hxB := hxo20.alloc (Obj.cells #[Value.slice none 0 0, Value.slice none 0 0, Value.slice none 0 0, Value.slice none 0 0, Value.slice none 0 0, Value.slice none 0 0] 50)
    obtain ⟨K, hK⟩ : ∃ K, w20.heap.size = K := ⟨_, rfl⟩
    rw [hK] at hB
    rw [hK]
    change Bk _ _ _ (w20.alloc (Obj.cells #[Value.slice none 0 0, Value.slice none 0 0, Value.slice none 0 0, Value.slice none 0 0, Value.slice none 0 0, Value.slice none 0 0] 50)) _ _ _ _ _ at hB
    generalize w20.alloc (Obj.cells #[Value.slice none 0 0, Value.slice none 0 0, Value.slice none 0 0, Value.slice none 0 0, Value.slice none 0 0, Value.slice none 0 0] 50) = w21 at hB hsB hoB hxB ⊢
    clear hs20 hx20 hz20 hS20 hown20 hxo20 hq20 ha20
    refine book_bytes w2.heap.size K [] [] [] ad5 c5 S w21 hB (by simp) hoB (by simp) (by simp) hSl _ ?_
    intro w22 us22 hB22 hy22 hk22 hu22
    have hs22 : Hid (EnS w _ _ w22) := hsB.out.far hy22 hz2
    have hxo22 := owns_mono (base' := w2.heap.size) (hk22 _ _ _ _ hxB) hz22
    have hd22 : Hid (∀ v' ∈ [Value.slice ad5 S.length c5], Unlike v' (.slice ad12 4 c12)) := by
      intro v' hv' k hk hc
      obtain rfl := List.mem_singleton.1 hv'
      have := hSlt.out k hk
      have := hXlt.out k hc
      omega
    have hd22' : Hid (∀ u ∈ us22, Unlike (.slice ad12 4 c12) u) := by
      intro u hu k hk hc
      rcases hu22 u hu with h | h
      · simp at h
      · have := h k hc
        have := (hxB.lt k hk).2
        omega
    clear hB hsB hoB hxB hy22 hk22 hu22
    go_wp2_with (go_at_call 19; go_must (refine book_bytes_n w2.heap.size K _ us22 _ ad12 c12 4 X hXl w22 hB22 (by simp) hxo22 hd22.out hd22'.out (by omega) _ ?_))
    intro w23 us23 hB23 hy23 hk23 hu23
    have hs23 : Hid (EnS w _ _ w23) := hs22.out.far hy23 hz2
    have hx23 := hs23.out.hb
    have hS23 : EnS w #[Value.int .i64 og, Value.bool op, Value.slice ua0 ut.length uc0] #[x0, x1, x2, x3, x4, x5, x6, x7, x8, x9, x10, x11, x12, x13, x14, x15, x16, x17, x18, x19, x20, Value.bool hu, Value.string (str N), Value.bool hp, pv, Value.bool pr] w23 := hs23.out
    clear hB22 hs22 hxo22 hd22 hd22' hy23 hk23 hu23
    go_wp2_with (go_at_call 9; go_must (refine rsecret_at _ _ _ ut M S _ HLK w _ hUt hx23 _ ?_))
    intro ad24 c24 w24 ht24 hy24
    have hx24 := below_then hx23 hy24 hx23.size
    have hB24 := hB23.below hy24
    clear hB23 hx23 hy24 hs23 hS23
    go_wp2_with (go_at_call 20; go_must (refine close_any w2.heap.size K _ us23 _ w24 hB24 (by intro p hp; simp at hp; rcases hp with rfl | rfl <;> omega) (by simp) _ ?_))
    intro w25 hy25
    have hx25 := below_then hx24 hy25 hx2.size
    have hz25 := hx25.size
    have hT25 := hT.below hx25
    have hu25 := ht24.below hx25
    have ht25 := ht6.below hx25
    clear hB24 hx24 hy25 ht24
    go_wp2_with (go_at_call 12; go_must (refine same_any _ _ S S _ hu25 ht25 _ ?_))
    clear hu25 ht25
    have hSS : (S == S) = true := by simp
    go_wp2_with (go_at_call 21; go_must (refine wakes_any _ hT25 _ ?_))
    intro w26 hy26
    have hx26 := below_then hx25 hy26 hz25
    clear hx25 hy26 hT25
    go_wp2
    all_goals first | exact hx26 | exact hR _ hx26
  | true => as_aux_lemma =>
    obtain ⟨Z, hZ⟩ : ∃ Z, ansL S Q = Z := ⟨_, rfl⟩
    have HZ := Lib.hid hZ
    have hrz : rightL ut M Q Z = true := by
      unfold rightL
      rw [HLK.at_]
      simp [hZ]
    have HRZ := Lib.hid hrz
    have hZl : Z.length = 4 := by rw [← hZ]; exact ansL_length _ _
    clear hZ hrz
    go_wp2
    have hsd : Hid (EnS w _ _ w15.drew) := ⟨hs15.out.hb.drew, hs15.out.c, hs15.out.p⟩
    clear hs15
    have hs15 := hsd
    clear hsd
    replace hx15 := hs15.out.hb
    replace hown15 : w15.drew.ownsRow _ _ _ _ _ _ := owns_below hown15 (Below.refl _ _).drew
    replace hxo15 : w15.drew.ownsRow _ _ _ _ _ _ := owns_below hxo15 (Below.refl _ _).drew
    replace hq15 : Bs w15.drew _ _ := hq15.drew
    replace ha15 : Bs w15.drew _ _ := ha15.drew
    replace hz15 : w2.heap.size ≤ w15.drew.heap.size := hz15
    replace hS15 : EnS w #[Value.int .i64 og, Value.bool op, Value.slice ua0 ut.length uc0] #[x0, x1, x2, x3, x4, x5, x6, x7, x8, x9, x10, x11, x12, x13, x14, x15, x16, x17, x18, x19, x20, Value.bool hu, Value.string (str N), Value.bool hp, pv, Value.bool pr] w15.drew := hs15.out
    go_region_held (fun w' => EnS w #[Value.int .i64 og, Value.bool op, Value.slice ua0 ut.length uc0] #[x0, x1, x2, x3, x4, x5, x6, x7, x8, x9, x10, x11, x12, x13, x14, x15, x16, x17, x18, x19, x20, Value.bool hu, Value.string (str N), Value.bool hp, pv, Value.bool pr] w')
      (first | exact hS15 | exact hS16 | exact hS20 | go_keep)
      (first
        | (go_at_call 15; refine answer_any _ _ S Q Z HZ.out _ (bs_of_owns hown15).2 hq15 _ ?_; intro ad16 c16 w16 hzo16 hy16; have hs16 : Hid (EnS w _ _ w16) := hs15.out.step hy16; have hx16 := hs16.out.hb; have hz16 : w2.heap.size ≤ w16.heap.size := Nat.le_trans hz15 hy16.size; have hS16 := hs16.out; have hown16 := owns_below hown15 hy16; have hxo16 := owns_below hxo15 hy16; have hq16 := hq15.below hy16; have ha16 := ha15.below hy16; clear hown15 hxo15 hq15 ha15 hs15 hS15 hx15 hz15 hy16)
        | (go_at_call 17; refine right_any (.int .i64 og) (.bool op) _ ut M hl' _ _ Q Z true HRZ.out _ ⟨_, _, rfl⟩ ⟨_, rfl⟩ (hUt.below hx16) hq16 (by have h := (bs_of_owns hzo16).2; rw [hZl] at h; exact h) _ ?_; intro w20 hy20; have hs20 : Hid (EnS w _ _ w20) := hs16.out.step hy20; have hx20 := hs20.out.hb; have hz20 : w2.heap.size ≤ w20.heap.size := Nat.le_trans hz16 hy20.size; have hS20 := hs20.out; have hown20 := owns_below hown16 hy20; have hxo20 := owns_below hxo16 hy20; have hq20 := hq16.below hy20; have ha20 := ha16.below hy20; clear hown16 hxo16 hq16 ha16 hs16 hS16 hx16 hz16 hy20; clear hzo16))
    go_wp2_with (go_at_call 19; fail)
    have hB := Bk.start (tb := 50) (ts := 25) (te := 5) w20 (B := w2.heap.size) hz20
    have hsB : Hid (EnS w _ _ (w20.alloc (Obj.cells #[Value.slice none 0 0, Value.slice none 0 0, Value.slice none 0 0, Value.slice none 0 0, Value.slice none 0 0, Value.slice none 0 0] 50))) := hs20.out.step ((Below.refl _ _).alloc (Nat.le_refl _) (Obj.cells #[Value.slice none 0 0, Value.slice none 0 0, Value.slice none 0 0, Value.slice none 0 0, Value.slice none 0 0, Value.slice none 0 0] 50))
    have hoB := hown20.alloc (Obj.cells #[Value.slice none 0 0, Value.slice none 0 0, Value.slice none 0 0, Value.slice none 0 0, Value.slice none 0 0, Value.slice none 0 0] 50)
    have hxB := hxo20.alloc (Obj.cells #[Value.slice none 0 0, Value.slice none 0 0, Value.slice none 0 0, Value.slice none 0 0, Value.slice none 0 0, Value.slice none 0 0] 50)
    obtain ⟨K, hK⟩ : ∃ K, w20.heap.size = K := ⟨_, rfl⟩
    rw [hK] at hB
    rw [hK]
    change Bk _ _ _ (w20.alloc (Obj.cells #[Value.slice none 0 0, Value.slice none 0 0, Value.slice none 0 0, Value.slice none 0 0, Value.slice none 0 0, Value.slice none 0 0] 50)) _ _ _ _ _ at hB
    generalize w20.alloc (Obj.cells #[Value.slice none 0 0, Value.slice none 0 0, Value.slice none 0 0, Value.slice none 0 0, Value.slice none 0 0, Value.slice none 0 0] 50) = w21 at hB hsB hoB hxB ⊢
    clear hs20 hx20 hz20 hS20 hown20 hxo20 hq20 ha20
    refine book_bytes w2.heap.size K [] [] [] ad5 c5 S w21 hB (by simp) hoB (by simp) (by simp) hSl _ ?_
    intro w22 us22 hB22 hy22 hk22 hu22
    have hs22 : Hid (EnS w _ _ w22) := hsB.out.far hy22 hz2
    have hxo22 := owns_mono (base' := w2.heap.size) (hk22 _ _ _ _ hxB) hz22
    have hd22 : Hid (∀ v' ∈ [Value.slice ad5 S.length c5], Unlike v' (.slice ad12 4 c12)) := by
      intro v' hv' k hk hc
      obtain rfl := List.mem_singleton.1 hv'
      have := hSlt.out k hk
      have := hXlt.out k hc
      omega
    have hd22' : Hid (∀ u ∈ us22, Unlike (.slice ad12 4 c12) u) := by
      intro u hu k hk hc
      rcases hu22 u hu with h | h
      · simp at h
      · have := h k hc
        have := (hxB.lt k hk).2
        omega
    clear hB hsB hoB hxB hy22 hk22 hu22
    go_wp2_with (go_at_call 19; go_must (refine book_bytes_n w2.heap.size K _ us22 _ ad12 c12 4 X hXl w22 hB22 (by simp) hxo22 hd22.out hd22'.out (by omega) _ ?_))
    intro w23 us23 hB23 hy23 hk23 hu23
    have hs23 : Hid (EnS w _ _ w23) := hs22.out.far hy23 hz2
    have hx23 := hs23.out.hb
    have hS23 : EnS w #[Value.int .i64 og, Value.bool op, Value.slice ua0 ut.length uc0] #[x0, x1, x2, x3, x4, x5, x6, x7, x8, x9, x10, x11, x12, x13, x14, x15, x16, x17, x18, x19, x20, Value.bool hu, Value.string (str N), Value.bool hp, pv, Value.bool pr] w23 := hs23.out
    clear hB22 hs22 hxo22 hd22 hd22' hy23 hk23 hu23
    go_wp2_with (go_at_call 9; go_must (refine rsecret_at _ _ _ ut M S _ HLK w _ hUt hx23 _ ?_))
    intro ad24 c24 w24 ht24 hy24
    have hx24 := below_then hx23 hy24 hx23.size
    have hB24 := hB23.below hy24
    clear hB23 hx23 hy24 hs23 hS23
    go_wp2_with (go_at_call 20; go_must (refine close_any w2.heap.size K _ us23 _ w24 hB24 (by intro p hp; simp at hp; rcases hp with rfl | rfl <;> omega) (by simp) _ ?_))
    intro w25 hy25
    have hx25 := below_then hx24 hy25 hx2.size
    have hz25 := hx25.size
    have hT25 := hT.below hx25
    have hu25 := ht24.below hx25
    have ht25 := ht6.below hx25
    clear hB24 hx24 hy25 ht24
    go_wp2_with (go_at_call 12; go_must (refine same_any _ _ S S _ hu25 ht25 _ ?_))
    clear hu25 ht25
    have hSS : (S == S) = true := by simp
    go_wp2_with (go_at_call 21; go_must (refine wakes_any _ hT25 _ ?_))
    intro w26 hy26
    have hx26 := below_then hx25 hy26 hz25
    clear hx25 hy26 hT25
    go_wp2
    all_goals first | exact hx26 | exact hR _ hx26
end Go.Proofs.YtbfelcgjocpgaaaDoor
