
import Derived.Test.YtbfelcgjocpgaaaDoorOne
import Derived.Test.YtbfelcgjocpgaaaDoorRIsText
import Derived.Deep.QuietTactic
import Derived.BigQuiet
import Derived.Deep.RegionHeld
namespace Go.Proofs.YtbfelcgjocpgaaaDoor
open Go.RowKit

set_option maxRecDepth 100000 in
set_option maxHeartbeats 1600000 in
theorem rsecret_from (og : Value) (op : Value) (uv : Value) (us : List (List UInt8 × List UInt8)) (n : List UInt8) (w0 w : World) (hu0 : Us w0 uv us) (h0 : Below w0.heap.size w0 w) (R : Ending → World → Prop)
    (hR : ∀ v w', ∀ S b, lookU us n = (if b then some S else none) → (b = false → S = []) → Bs w0 v S → Below w.heap.size w w' → R (.returned (.tuple #[v, .bool b])) w') :
    Calls Tryd.prog 9 #[.agg #[og, op, uv], .string (str n)] w R := by
  have hu' := hu0
  obtain ⟨ad, c, rfl, h1, h2, h3, h4⟩ := hu'
  have hb0 := (Below.refl w.heap.size w).alloc (Nat.le_refl _) (.cells #[og, op, Value.slice ad us.length c] 24)
  have HU := Lib.hid hu0
  have HW0 := Lib.hid (below_then h0 hb0 h0.size)
  clear hu0 h0 h4
  go_enter Tryd.func9, Tryd.ntmps9
  go_wp2
  go_loop [6] (fun i => ∃ k : Nat, k ≤ us.length ∧ i = .int .i64 k ∧ Hid (lookU us n = lookU (us.drop k) n)) (fun i => us.length - (intOf i).toNat)
  case atStart => exact ⟨0, Nat.zero_le _, rfl, by rw [List.drop_zero]; exact Lib.hid rfl⟩
  case round =>
    obtain ⟨k, hk, rfl, hlk⟩ := hrel
    by_cases hlt : k < us.length
    · obtain ⟨ad', c', e, _, _, _, h4⟩ := HU.out
      simp only [Value.slice.injEq] at e
      obtain ⟨rfl, -, rfl⟩ := e
      obtain ⟨b, o, rfl, h5⟩ := h4 (by omega)
      obtain ⟨q0, q1, s, q2, q3⟩ := h5 k hlt
      replace q1 := cell_later HW0.out q1
      replace q2 := cell_later HW0.out q2
      have hkk : (k : Int) < (us.length : Int) := by omega
      clear h4 h5
      have q3' := q3
      obtain ⟨sa, sc, rfl, _, _, _, _⟩ := q3'
      obtain ⟨N, hN⟩ : ∃ N, us[k].1 = N := ⟨_, rfl⟩
      obtain ⟨S, hS⟩ : ∃ S, us[k].2 = S := ⟨_, rfl⟩
      have hst := lookU_step us n k hlt
      rw [hN, hS, ← hlk.out] at hst
      rw [hN] at q0 q1
      rw [hS] at q2 q3
      clear hN hS hlk
      obtain ⟨t, ht⟩ : ∃ t, (N == n) = t := ⟨_, rfl⟩
      rw [ht] at hst
      have Q3 := Lib.hid q3
      clear q3
      cases t with
      | true =>
        have hf : lookU us n = some S := by simpa using hst
        have HF := Lib.hid hf
        clear hst hf
        go_wp2
        exact hR _ _ S true HF.out (by simp) Q3.out hb0
      | false =>
        have hf : lookU us n = lookU (us.drop (k + 1)) n := by simpa using hst
        have HF := Lib.hid hf
        clear hst hf
        go_wp2
        go_round
        case rel => exact ⟨k + 1, by omega, by go_num, HF⟩
        case measure => simp [intOf]; omega
    · have hkk : ¬ ((k : Int) < (us.length : Int)) := by omega
      have hf : lookU us n = none := by rw [hlk.out, List.drop_of_length_le (by omega)]; rfl
      have HF := Lib.hid hf
      clear hf hlk
      go_wp2
      exact hR _ _ [] false HF.out (fun _ => rfl) ⟨none, 0, rfl, Rd.nil _ _ _, Nat.le_refl _, by omega, fun _ => rfl⟩ hb0

theorem rsecret_any (og : Value) (op : Value) (uv : Value) (us : List (List UInt8 × List UInt8)) (n : List UInt8) (w : World) (hu : Us w uv us) (R : Ending → World → Prop)
    (hR : ∀ v w', ∀ S b, lookU us n = (if b then some S else none) → (b = false → S = []) → Bs w' v S → Below w.heap.size w w' → R (.returned (.tuple #[v, .bool b])) w') :
    Calls Tryd.prog 9 #[.agg #[og, op, uv], .string (str n)] w R :=
  rsecret_from og op uv us n w w hu (Below.refl _ _) R fun v w' S b h1 h2 h3 h4 => hR v w' S b h1 h2 (h3.below h4) h4
theorem rsecret_some (og : Value) (op : Value) (uv : Value) (us : List (List UInt8 × List UInt8)) (n S : List UInt8) (hS : lookU us n = some S) (w : World) (hu : Us w uv us) (R : Ending → World → Prop)
    (hR : ∀ ad c w', Bs w' (.slice ad S.length c) S → Below w.heap.size w w' → R (.returned (.tuple #[.slice ad S.length c, .bool true])) w') :
    Calls Tryd.prog 9 #[.agg #[og, op, uv], .string (str n)] w R :=
  rsecret_any og op uv us n w hu R fun v w' S' b h hb ho hbel => by
    rw [hS] at h
    cases b with
    | false => simp at h
    | true =>
      simp only [if_true, Option.some.injEq] at h
      subst h
      have ho' := ho
      obtain ⟨ad, c, rfl, _⟩ := ho'
      exact hR ad c w' ho hbel
theorem rsecret_none (og : Value) (op : Value) (uv : Value) (us : List (List UInt8 × List UInt8)) (n : List UInt8) (hS : lookU us n = none) (w : World) (hu : Us w uv us) (R : Ending → World → Prop)
    (hR : ∀ ad c w', Bs w' (.slice ad 0 c) [] → Below w.heap.size w w' → R (.returned (.tuple #[.slice ad 0 c, .bool false])) w') :
    Calls Tryd.prog 9 #[.agg #[og, op, uv], .string (str n)] w R :=
  rsecret_any og op uv us n w hu R fun v w' S' b h hb ho hbel => by
    rw [hS] at h
    cases b with
    | true => simp at h
    | false =>
      obtain rfl := hb rfl
      have ho' := ho
      obtain ⟨ad, c, rfl, _⟩ := ho'
      exact hR ad c w' ho hbel
theorem lookU_len {us : List (List UInt8 × List UInt8)} {n S : List UInt8} {B : Nat} (hl : ∀ u ∈ us, u.2.length ≤ B) (h : lookU us n = some S) : S.length ≤ B := by
  unfold lookU at h
  cases hfd : us.find? (fun u => u.1 == n) with
  | none => rw [hfd] at h; simp at h
  | some u =>
    rw [hfd] at h
    simp only [Option.map_some, Option.some.injEq] at h
    rw [← h]
    exact hl u (List.mem_of_find?_eq_some hfd)

theorem below_drewN {B n : Nat} {a w : World} (h : Below B a w) : Below B a (w.drewN n) := ⟨h.os, h.tape, h.output, h.size, h.block⟩
theorem wrapAns (S Q : List UInt8) (X : Nat) (hX : sumL (Q ++ S) = X) : ansL S Q = putW X 4 := by
  rw [← hX]; unfold ansL putW; rw [if_neg (by omega)]; simp

set_option maxHeartbeats 800000 in
theorem ranswer_any (v u : Value) (S Q A : List UInt8) (hA : ansL S Q = A) (hl : Q.length + S.length ≤ 140737488355328) (w : World) (hv : Bs w v S) (hu : Bs w u Q) (R : Ending → World → Prop)
    (hR : ∀ ad c w', w'.ownsRow w.heap.size 5 1 (.slice ad 4 c) 4 (bv A) → Below w.heap.size w w' → R (.returned (.slice ad 4 c)) w') :
    Calls Tryd.prog 16 #[v, u] w R := by
  obtain ⟨X, hX⟩ : ∃ X, sumL (Q ++ S) = X := ⟨_, rfl⟩
  have hX2 : X < 4294967296 := by rw [← hX]; exact sumL_lt _
  have HX := Lib.hid hX
  have HP : Hid (putW X 4 = A) := by rw [← hA, wrapAns S Q X hX]; exact Lib.hid rfl
  have hAl : A.length = 4 := by rw [← hA]; exact ansL_length _ _
  clear hX hA
  have hv' := hv
  have hu' := hu
  obtain ⟨ad, c, rfl, r1, _, _, n1⟩ := hv'
  obtain ⟨ad2, c2, rfl, r2, _, _, n2⟩ := hu'
  have hown := (World.ownsRow_made (base := w.heap.size) (e := 5) (size := 1) w #[] 0 (Nat.le_refl _) (by unfold maxLen; omega) rfl)
  have hr2 := rd_alloc r2 (.cells #[] 5)
  have HV := Lib.hid hv
  clear hv hu r1 r2
  go_enter Tryd.func16, Tryd.ntmps16
  go_wp2_with (at_builtin; go_must (refine wpList_app (by rfl) (.tmp 5) (.tmp 6) 25 (by rfl) w.heap.size 5 (.int .u8 0) 1 1 Tryd.underlying25 Tryd.info5 rfl (by decide) _ _ _ _ rfl hown _ _ _ _ rfl hr2 (bv_oneCell _) n2 (by unfold maxLen; omega) (by omega) (by simp) ?_))
  intro ad3 c3 w3 hown3 hg3
  have hb3 := below_app ((Below.refl w.heap.size w).alloc (Nat.le_refl _) _) hg3 (by simp) hown
  have hv3 : Bs w3 (.slice ad S.length c) S  := HV.out.below hb3
  obtain ⟨_, r1, _, _, _⟩ := hv3.parts
  have e3 : w.heap.size ≤ w3.heap.size := hb3.size
  clear hg3 hown hr2 hv3
  go_wp2_with (at_builtin; go_must (refine wpList_app (by rfl) (.tmp 7) (.tmp 8) 25 (by rfl) w.heap.size 5 (.int .u8 0) 1 1 Tryd.underlying25 Tryd.info5 rfl (by decide) _ _ _ _ rfl hown3 _ _ _ _ rfl r1 (bv_oneCell _) n1 (by unfold maxLen; simp; omega) (by simp; omega) (by omega) ?_))
  intro ad4 c4 w4 hown4 hg4
  have hb4 := below_app hb3 hg4 e3 hown3
  rw [← bv_append, show Q.length + S.length = (Q ++ S).length by simp] at hown4
  have hbs := (bs_of_owns hown4).2
  rw [show (Q ++ S).length = Q.length + S.length by simp] at hbs
  have e4 : w.heap.size ≤ w4.heap.size := hb4.size
  clear hg4 hown4 hown3 hb3 r1
  have hsum : ∀ R', R' (.returned (.int .u32 (X : Int))) w4 → Calls Tryd.prog 32 #[.slice ad4 (Q.length + S.length) c4] w4 R' := fun R' h => rsum_any _ (Q ++ S) w4 hbs R' (by rw [HX.out]; exact h)
  go_wp2_with (go_at_call 32; go_must (refine hsum _ ?_))
  clear hsum hbs
  go_wp2_with (go_at_call 31; go_must (refine rput_any X (by omega) 4 A HP.out _ _ ?_))
  intro ad5 c5 w5 hown5 hb5
  have hb6 := below_then hb4 hb5 e4
  have hown6 := owns_mono (base' := w.heap.size) hown5 e4
  clear hb5 hown5 hb4
  go_wp2
  all_goals first | exact hb6 | (rw [hAl]; exact hR _ _ _ hown6 hb6) | exact hR _ _ _ hown6 hb6

set_option maxRecDepth 100000 in
set_option maxHeartbeats 1600000 in
theorem rright_any (og : Value) (op : Value) (uv : Value) (us : List (List UInt8 × List UInt8)) (n : List UInt8) (hl : ∀ u ∈ us, u.2.length ≤ 140737488351232) (q x : Value) (Q X : List UInt8) (hQ : Q.length ≤ 4096) (t : Bool) (ht : rightL us n Q X = t) (w : World) (hog : ∃ k m, og = .int k m) (hop : ∃ b, op = .bool b) (hu : Us w uv us) (hq : Bs w q Q) (hx : Bs w x X) (R : Ending → World → Prop)
    (hR : ∀ w', Below w.heap.size w w' → R (.returned (.bool t)) w') :
    Calls Tryd.prog 18 #[.agg #[og, op, uv], .string (str n), q, x] w R := by
  obtain ⟨k, m, rfl⟩ := hog
  obtain ⟨bo, rfl⟩ := hop
  have hu' := hu
  obtain ⟨ad, c, rfl, h1, h2, h3, h4⟩ := hu'
  have hb0 := (Below.refl w.heap.size w).alloc (Nat.le_refl _) (Obj.cells #[Value.int k m, Value.bool bo, Value.slice ad us.length c] 24)
  have hu1 := hu.below hb0
  have HQ := Lib.hid hq
  have HX := Lib.hid hx
  clear h4 hu hq hx
  obtain ⟨r, hr⟩ : ∃ r, lookU us n = r := ⟨_, rfl⟩
  cases r with
  | none =>
    have hf : t = false := by rw [← ht]; unfold rightL; rw [hr]
    subst hf
    have HRR := Lib.hid hr
    clear ht hr
    go_enter Tryd.func18, Tryd.ntmps18
    go_wp2_with (go_at_call 9; go_must (refine rsecret_none _ _ _ us n HRR.out _ hu1 _ ?_))
    intro ad1 c1 w1 hbs hb1
    have hb2 := below_then hb0 hb1 (by omega)
    clear hb1 hb0 hu1 hbs
    go_wp2
    go_quiet (fail)
    go_wp2
    all_goals exact below_drewN hb2
  | some S =>
    have hf : (ansL S Q == X) = t := by rw [← ht]; unfold rightL; rw [hr]
    have hSl : S.length ≤ 140737488351232 := lookU_len hl hr
    obtain ⟨A, hA⟩ : ∃ A, ansL S Q = A := ⟨_, rfl⟩
    rw [hA] at hf
    have hf2 : (X == A) = t := by rw [← hf]; exact Bool.beq_comm
    have hAl : A.length = 4 := by rw [← hA]; exact ansL_length _ _
    have HA := Lib.hid hA
    have HRR := Lib.hid hr
    clear ht hr hA hf
    go_enter Tryd.func18, Tryd.ntmps18
    go_wp2_with (go_at_call 9; go_must (refine rsecret_some _ _ _ us n S HRR.out _ hu1 _ ?_))
    intro ad1 c1 w1 hbs hb1
    have hb2 := below_then hb0 hb1 (by omega)
    have hz2 := hb2.size
    have hq1 := HQ.out.below hb2
    have hx1 := HX.out.below hb2
    have hcX : ∀ w', Below w1.heap.size w1 w' → (convert 25 9 x).run Tryd.prog w' = .ok (.string (str X)) w' := fun w' h => run_conv_bs Tryd.underlying25 Tryd.underlying5 Tryd.underlying9 (hx1.below h)
    have HCX := Lib.hid hcX
    clear hcX hb1 hb0 hu1 hx1
    go_wp2
    replace hb2 : Below w.heap.size w w1.drew := hb2.drew
    have c0 : (convert 25 9 x).run Tryd.prog w1.drew = .ok (.string (str X)) w1.drew := HCX.out _ (Below.refl _ _).drew
    have hbs' : Bs w1.drew (.slice ad1 S.length c1) S := hbs.drew
    have hq' : Bs w1.drew q Q := hq1.drew
    go_region_held (fun w' => (convert 25 9 x).run Tryd.prog w' = .ok (.string (str X)) w') (first | exact c0 | exact c2)
      (first | (go_at_call 16; refine ranswer_any _ _ S Q A HA.out (by omega) _ hbs' hq' _ ?_; intro ad2 c2' w2 hown2 hy2; have c2 := HCX.out w2 ((Below.refl _ _).drew.trans hy2); have hA2 := run_conv_bs (P := Tryd.prog) Tryd.underlying25 Tryd.underlying5 Tryd.underlying9 (bs_of_owns hown2).2; rw [hAl] at hA2; have hb4 := below_then hb2 hy2 hz2))
    go_wp2
    all_goals exact hb4

set_option maxRecDepth 100000 in
set_option maxHeartbeats 4000000 in
theorem renter_any (k : IntKind) (m : Int) (op : Bool) (uv : Value) (us : List (List UInt8 × List UInt8)) (x0 x1 x2 x3 x4 x5 x6 x7 x8 x9 x10 x11 x12 x13 x14 x15 x16 x17 x18 x19 x20 : Value) (hu hp : Bool) (N W : List UInt8) (pv : Value) (pr : Bool) (t : Int) (ht : enterL op us hu N hp W = t) (w : World) (hU : Us w uv us) (hW : Bs w pv W) (R : Ending → World → Prop)
    (hR : ∀ w', Below w.heap.size w w' → R (.returned (.int .i64 t)) w') :
    Calls Tryd.prog 14 #[.agg #[.int k m, .bool op, uv], .agg #[x0, x1, x2, x3, x4, x5, x6, x7, x8, x9, x10, x11, x12, x13, x14, x15, x16, x17, x18, x19, x20, .bool hu, .string (str N), .bool hp, pv, .bool pr]] w R := by
  have hU' := hU
  obtain ⟨ad, c, rfl, h1, h2, h3, h4⟩ := hU'
  clear h4
  have hb0 := ((Below.refl w.heap.size w).alloc (Nat.le_refl _) (Obj.cells #[Value.int k m, Value.bool op, Value.slice ad us.length c] 24)).alloc (by simp) (Obj.cells #[x0, x1, x2, x3, x4, x5, x6, x7, x8, x9, x10, x11, x12, x13, x14, x15, x16, x17, x18, x19, x20, Value.bool hu, Value.string (str N), Value.bool hp, pv, Value.bool pr] 34)
  have hU1 := hU.below hb0
  have hW1 := hW.below hb0
  have hz0 := hb0.size
  cases hu with
  | false =>
    have HT : Hid ((if hp then 134 else if op then 0 else 135 : Int) = t) := by rw [← ht]; exact Lib.hid rfl
    clear ht hU hW hU1 hW1
    cases hp with
    | true =>
      obtain rfl : t = 134 := HT.out.symm
      go_enter Tryd.func14, Tryd.ntmps14
      go_wp2
      all_goals first | exact hb0 | exact hR _ hb0
    | false =>
      cases op with
      | true =>
        obtain rfl : t = 0 := HT.out.symm
        go_enter Tryd.func14, Tryd.ntmps14
        go_wp2
        all_goals first | exact hb0 | exact hR _ hb0
      | false =>
        obtain rfl : t = 135 := HT.out.symm
        go_enter Tryd.func14, Tryd.ntmps14
        go_wp2
        all_goals first | exact hb0 | exact hR _ hb0
  | true =>
    obtain ⟨r, hr⟩ : ∃ r, lookU us N = r := ⟨_, rfl⟩
    have HR := Lib.hid hr
    cases r with
    | none =>
      obtain rfl : t = 134 := by rw [← ht]; unfold enterL; rw [hr]; rfl
      clear ht hr hU hW hW1
      go_enter Tryd.func14, Tryd.ntmps14
      go_wp2_with (go_at_call 9; go_must (refine rsecret_none _ _ _ us N HR.out _ hU1 _ ?_))
      intro ad1 c1 w1 hbs1 hb1
      have hb2 := below_then hb0 hb1 (by omega)
      clear hbs1 hb1 hU1 hb0
      go_wp2
      all_goals first | exact hb2 | exact hR _ hb2
    | some S =>
      obtain ⟨w0, hw0⟩ : ∃ w0, (w.alloc (Obj.cells #[Value.int k m, Value.bool op, Value.slice ad us.length c] 24)).alloc (Obj.cells #[x0, x1, x2, x3, x4, x5, x6, x7, x8, x9, x10, x11, x12, x13, x14, x15, x16, x17, x18, x19, x20, Value.bool true, Value.string (str N), Value.bool hp, pv, Value.bool pr] 34) = w0 := ⟨_, rfl⟩
      have hn := heap_alloc_new (w.alloc (Obj.cells #[Value.int k m, Value.bool op, Value.slice ad us.length c] 24)) (Obj.cells #[x0, x1, x2, x3, x4, x5, x6, x7, x8, x9, x10, x11, x12, x13, x14, x15, x16, x17, x18, x19, x20, Value.bool true, Value.string (str N), Value.bool hp, pv, Value.bool pr] 34)
      rw [show (w.alloc (Obj.cells #[Value.int k m, Value.bool op, Value.slice ad us.length c] 24)).heap.size = w.heap.size + 1 by simp, hw0] at hn
      have C19 := Lib.hid (cell_of_row w0 (w.heap.size + 1) 23 _ _ _ hn)
      have C20 := Lib.hid (cell_of_row w0 (w.heap.size + 1) 24 _ _ _ hn)
      have W0 : Hid (Bs w0 pv W) := by rw [← hw0]; exact Lib.hid hW1
      have HW0 := Lib.hid hw0
      clear hn hw0
      have ht2 : (if hp && S == W then (0 : Int) else 134) = t := by rw [← ht]; unfold enterL; rw [hr]; rfl
      clear ht hr hU hW
      obtain ⟨q, hq⟩ : ∃ q, (S == W) = q := ⟨_, rfl⟩
      rw [hq] at ht2
      have HQ := Lib.hid hq
      have HT := Lib.hid ht2
      clear hq ht2
      go_enter Tryd.func14, Tryd.ntmps14
      go_wp2_with (go_at_call 9; go_must (refine rsecret_some _ _ _ us N S HR.out _ hU1 _ ?_))
      intro ad1 c1 w1 hbs hb1
      have hb2 := below_then hb0 hb1 (by omega)
      have hb1' : Below w0.heap.size w0 w1 := by rw [← HW0.out]; simpa using hb1
      have hc19 : w1.cell? ⟨w.heap.size + 1, 23, none⟩ = some (.bool hp) := cell_later hb1' C19.out
      have hc20 : w1.cell? ⟨w.heap.size + 1, 24, none⟩ = some pv := cell_later hb1' C20.out
      have hW2 : Bs w1 pv W := W0.out.below hb1'
      have k1 := run_conv_bs (P := Tryd.prog) Tryd.underlying25 Tryd.underlying5 Tryd.underlying9 hbs
      have k2 := run_conv_bs (P := Tryd.prog) Tryd.underlying25 Tryd.underlying5 Tryd.underlying9 hW2
      clear hbs hb1 hU1 hb0 hW1 hW2
      cases hp with
      | false =>
        obtain rfl : t = 134 := HT.out.symm
        go_wp2
        all_goals first | exact hb2 | exact hR _ hb2
      | true =>
        cases q with
        | true =>
          obtain rfl : t = 0 := HT.out.symm
          have hq := HQ.out
          go_wp2
          all_goals first | exact hb2 | exact hR _ hb2
        | false =>
          obtain rfl : t = 134 := HT.out.symm
          have hq := HQ.out
          go_wp2
          all_goals first | exact hb2 | exact hR _ hb2
end Go.Proofs.YtbfelcgjocpgaaaDoor
