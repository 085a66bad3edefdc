
import Derived.Test.YtbfelcgjocpgaaaDoorBookUse
import Derived.Test.YtbfelcgjocpgaaaDoorPut
import Derived.Test.YtbfelcgjocpgaaaDoorSum
import Derived.Test.YtbfelcgjocpgaaaDoorText
namespace Go.Proofs.YtbfelcgjocpgaaaDoor
open Go.RowKit

/-- The slice value v reads as users: of each its name and its secret. -/
def Us (w : World) (v : Value) (us : List (List UInt8 × List UInt8)) : Prop :=
  ∃ ad c, v = .slice ad us.length c ∧ us.length ≤ c ∧ c ≤ 9223372036854775807 ∧ (ad = none → c = 0) ∧
    (0 < us.length → ∃ b o, ad = some ⟨b, o, none⟩ ∧ ∀ (i : Nat) (h : i < us.length), us[i].1.length ≤ 9223372036854775807 ∧ w.cell? ⟨b, o + i * 2, none⟩ = some (.string (str us[i].1)) ∧ ∃ s, w.cell? ⟨b, o + i * 2 + 1, none⟩ = some s ∧ Bs w s us[i].2)
theorem Us.below {w w' : World} {v : Value} {us : List (List UInt8 × List UInt8)} (h : Us w v us) (hb : Below w.heap.size w w') : Us w' v us := by
  obtain ⟨ad, c, rfl, h1, h2, h3, h4⟩ := h
  refine ⟨ad, c, rfl, h1, h2, h3, fun h0 => ?_⟩
  obtain ⟨b, o, rfl, h5⟩ := h4 h0
  refine ⟨b, o, rfl, fun i hi => ?_⟩
  obtain ⟨q0, q1, s, q2, q3⟩ := h5 i hi
  exact ⟨q0, cell_later hb q1, s, cell_later hb q2, q3.below hb⟩

/-- Whose secret it is. -/
def lookU (us : List (List UInt8 × List UInt8)) (n : List UInt8) : Option (List UInt8) := (us.find? fun u => u.1 == n).map fun u => u.2

set_option maxHeartbeats 400000 in
theorem equal_any (v u : Value) (l m : List UInt8) (w : World) (hv : Bs w v l) (hu : Bs w u m) (R : Ending → World → Prop)
    (hR : R (.returned (.bool (l == m))) w) :
    Calls Tryd.prog 28 #[v, u] w R := by
  have h1 := run_conv_bs (P := Tryd.prog) Tryd.underlying25 Tryd.underlying5 Tryd.underlying9 hv
  have h2 := run_conv_bs (P := Tryd.prog) Tryd.underlying25 Tryd.underlying5 Tryd.underlying9 hu
  clear hv hu
  go_enter Tryd.func28, Tryd.ntmps28
  go_wp2
  exact hR

set_option maxHeartbeats 800000 in
theorem clone_any (v : Value) (l : List UInt8) (w : World) (hv : Bs w v l) (hl : l.length ≤ 140737488355328) (R : Ending → World → Prop)
    (hR : ∀ ad c w', w'.ownsRow w.heap.size 5 1 (.slice ad l.length c) l.length (bv l) → Below w.heap.size w w' → R (.returned (.slice ad l.length c)) w') :
    Calls Tryd.prog 23 #[v] w R := by
  obtain ⟨ad, c, rfl, hr, h1, h2, h3⟩ := hv
  cases ad with
  | none =>
    have hc : c = 0 := h3 rfl
    subst hc
    have hl0 : l = [] := List.eq_nil_of_length_eq_zero (by omega)
    subst hl0
    have he : ∀ w : World, (binOp .eql 25 (.slice none 0 0) (.slice none 0 0)).run Tryd.prog w = .ok (.bool true) w := fun _ => rfl
    go_enter Tryd.func23, Tryd.ntmps23
    go_wp2
    exact hR _ _ _ (World.ownsRow_nil _ _ _ _) (Below.refl _ _)
  | some a =>
    have he : ∀ w : World, (binOp .eql 25 (.slice (some a) l.length c) (.slice none 0 0)).run Tryd.prog w = .ok (.bool false) w := fun _ => rfl
    have hown := (World.ownsRow_made (base := w.heap.size) (e := 5) (size := 1) w #[] 0 (Nat.le_refl _) (by unfold maxLen; omega) rfl)
    have hr1 := rd_alloc hr (.cells #[] 5)
    go_enter Tryd.func23, Tryd.ntmps23
    go_wp2_with (at_builtin; go_must (refine wpList_app (by rfl) (.tmp 5) (.tmp 6) 25 (by rfl) w.heap.size 5 (.int .u8 0) 1 1 Tryd.underlying25 Tryd.info5 rfl (by decide) _ _ _ _ rfl hown _ _ _ _ rfl hr1 (bv_oneCell _) h3 (by unfold maxLen; omega) (by omega) (by simp) ?_))
    intro ad2 c2 w2 hown2 hg2
    have hb2 := below_app ((Below.refl w.heap.size w).alloc (Nat.le_refl _) _) hg2 (by simp) hown
    clear hg2 hown hr1 hr
    go_wp2
    exact hR _ _ _ hown2 hb2

theorem lookU_step (us : List (List UInt8 × List UInt8)) (n : List UInt8) (k : Nat) (h : k < us.length) : lookU (us.drop k) n = if us[k].1 == n then some us[k].2 else lookU (us.drop (k + 1)) n := by
  rw [List.drop_eq_getElem_cons h]
  unfold lookU
  rw [List.find?_cons]
  split <;> simp_all

set_option maxRecDepth 100000 in
set_option maxHeartbeats 1600000 in
theorem secret_any (og : Value) (op : Value) (uv : Value) (us : List (List UInt8 × List UInt8)) (n : List UInt8) (hl : ∀ u ∈ us, u.2.length ≤ 140737488355328) (w : World) (hu : Us w uv us) (R : Ending → World → Prop)
    (hR : ∀ ad c w', ∀ S b, lookU us n = (if b then some S else none) → (b = false → S = []) → w'.ownsRow w.heap.size 5 1 (.slice ad S.length c) S.length (bv S) → Below w.heap.size w w' → R (.returned (.tuple #[.slice ad S.length c, .bool b])) w') :
    Calls Tryd.prog 8 #[.agg #[og, op, uv], .string (str n)] w R := by
  have HL := Lib.hid hl
  have HU := Lib.hid hu
  obtain ⟨ad, c, rfl, h1, h2, h3, h4⟩ := hu
  clear hl h4
  go_enter Tryd.func8, Tryd.ntmps8
  go_wp2
  go_loopw [7, 11] (fun _ i wr => ∃ k : Nat, k ≤ us.length ∧ i = .int .i64 k ∧ Below w.heap.size w wr ∧ Hid (lookU us n = lookU (us.drop k) n)) (fun _ i _ => us.length - (intOf i).toNat)
  case atStart => exact ⟨0, Nat.zero_le _, rfl, (Below.refl _ _).alloc (Nat.le_refl _) _, by rw [List.drop_zero]; exact Lib.hid rfl⟩
  case round =>
    obtain ⟨k, hk, rfl, hb, hlk⟩ := hrel
    by_cases hlt : k < us.length
    · obtain ⟨ad', c', e, _, _, _, h4⟩ := HU.out.below hb
      simp only [Value.slice.injEq] at e
      obtain ⟨rfl, -, rfl⟩ := e
      obtain ⟨b, o, rfl, h5⟩ := h4 (by omega)
      obtain ⟨q0, q1, s, q2, q3⟩ := h5 k hlt
      have hkk : (k : Int) < (us.length : Int) := by omega
      clear h4 h5
      have q3' := q3
      obtain ⟨sa, sc, rfl, _, _, _, _⟩ := q3'
      obtain ⟨N, hN⟩ : ∃ N, us[k].1 = N := ⟨_, rfl⟩
      obtain ⟨S, hS⟩ : ∃ S, us[k].2 = S := ⟨_, rfl⟩
      have hst := lookU_step us n k hlt
      rw [hN, hS, ← hlk.out] at hst
      have hSl : S.length ≤ 140737488355328 := by rw [← hS]; exact HL.out _ (List.getElem_mem hlt)
      rw [hN] at q0 q1
      rw [hS] at q2 q3
      clear hN hS hlk
      obtain ⟨t, ht⟩ : ∃ t, (N == n) = t := ⟨_, rfl⟩
      rw [ht] at hst
      cases t with
      | true =>
        have hf : lookU us n = some S := by simpa using hst
        have HF := Lib.hid hf
        clear hst hf
        have hbs := q3.alloc (.cells #[Value.string (str N), Value.slice sa S.length sc] 58)
        have hb2 := hb.alloc hb.size (.cells #[Value.string (str N), Value.slice sa S.length sc] 58)
        have hz := hb.size
        clear q3 hb
        go_wp2_with (go_at_call 23; go_must (refine clone_any _ S _ hbs hSl _ ?_))
        intro ad2 c2 w2 hown2 hb3
        have hz2 := hb2.size
        have hz3 : (wr.alloc (.cells #[Value.string (str N), Value.slice sa S.length sc] 58)).heap.size = wr.heap.size + 1 := by simp
        have hb4 := below_then hb2 hb3 (by omega)
        have hown4 := owns_mono (base' := w.heap.size) hown2 (by omega)
        clear hb2 hb3 hown2 q1 q2 hbs
        go_wp2
        exact hR _ _ _ S true HF.out (by simp) hown4 hb4
      | false =>
        have hf : lookU us n = lookU (us.drop (k + 1)) n := by simpa using hst
        have HF := Lib.hid hf
        clear hst hf
        go_wp2
        go_roundw
        case rel => exact ⟨k + 1, by omega, by go_num, hb.alloc hb.size _, HF⟩
        case measure => simp [intOf]; omega
    · have hkk : ¬ ((k : Int) < (us.length : Int)) := by omega
      have hf : lookU us n = none := by rw [hlk.out, List.drop_of_length_le (by omega)]; rfl
      have HF := Lib.hid hf
      clear hf hlk
      go_wp2
      exact hR _ _ _ [] false HF.out (fun _ => rfl) (World.ownsRow_nil _ _ _ _) hb
theorem secret_some (og : Value) (op : Value) (uv : Value) (us : List (List UInt8 × List UInt8)) (n S : List UInt8) (hS : lookU us n = some S) (hl : ∀ u ∈ us, u.2.length ≤ 140737488355328) (w : World) (hu : Us w uv us) (R : Ending → World → Prop)
    (hR : ∀ ad c w', w'.ownsRow w.heap.size 5 1 (.slice ad S.length c) S.length (bv S) → Below w.heap.size w w' → R (.returned (.tuple #[.slice ad S.length c, .bool true])) w') :
    Calls Tryd.prog 8 #[.agg #[og, op, uv], .string (str n)] w R :=
  secret_any og op uv us n hl w hu R fun ad c w' S' b h hb ho hbel => by
    rw [hS] at h
    cases b with
    | false => simp at h
    | true =>
      simp only [if_true, Option.some.injEq] at h
      subst h
      exact hR ad c w' ho hbel
theorem secret_none (og : Value) (op : Value) (uv : Value) (us : List (List UInt8 × List UInt8)) (n : List UInt8) (hS : lookU us n = none) (hl : ∀ u ∈ us, u.2.length ≤ 140737488355328) (w : World) (hu : Us w uv us) (R : Ending → World → Prop)
    (hR : ∀ ad c w', w'.ownsRow w.heap.size 5 1 (.slice ad 0 c) 0 (bv []) → Below w.heap.size w w' → R (.returned (.tuple #[.slice ad 0 c, .bool false])) w') :
    Calls Tryd.prog 8 #[.agg #[og, op, uv], .string (str n)] w R :=
  secret_any og op uv us n hl w hu R fun ad c w' S' b h hb ho hbel => by
    rw [hS] at h
    cases b with
    | true => simp at h
    | false =>
      obtain rfl := hb rfl
      exact hR ad c w' ho hbel

/-- What answers a question. -/
def ansL (S Q : List UInt8) : List UInt8 := putL (sumL (Q ++ S)) 4
theorem sumL_lt (l : List UInt8) : sumL l < 4294967296 := Nat.xor_lt_two_pow (n := 32) (crcL_lt l _ (by decide)) (by decide)
theorem sum_at (v : Value) (ls : List (List UInt8)) (X : Nat) (hX : sumL ls.flatten = X) (w : World) (hv : Bss w v ls) (R : Ending → World → Prop)
    (hR : R (.returned (.int .u32 X)) w) : Calls Tryd.prog 30 #[v] w R := by
  subst hX
  exact sum_any v ls w hv R hR
theorem ansL_length (S Q : List UInt8) : (ansL S Q).length = 4 := putL_length _ _

set_option maxHeartbeats 800000 in
theorem answer_any (v u : Value) (S Q A : List UInt8) (hA : ansL S Q = A) (w : World) (hv : Bs w v S) (hu : Bs w u Q) (R : Ending → World → Prop)
    (hR : ∀ ad c w', w'.ownsRow w.heap.size 5 1 (.slice ad 4 c) 4 (bv A) → Below w.heap.size w w' → R (.returned (.slice ad 4 c)) w') :
    Calls Tryd.prog 15 #[v, u] w R := by
  obtain ⟨X, hX⟩ : ∃ X, sumL [Q, S].flatten = X := ⟨_, rfl⟩
  have hX2 : X < 4294967296 := by rw [← hX]; exact sumL_lt _
  have HX := Lib.hid hX
  have HP : Hid (putW X 4 = A) := by
    rw [← hA, ← hX]
    unfold ansL putW
    rw [if_neg (by omega)]
    simp [Hid]
  have hAl : A.length = 4 := by rw [← hA]; exact ansL_length _ _
  have hL := bss_lit2 (e := 25) hu hv
  have hv' := hv
  have hu' := hu
  obtain ⟨ad, c, rfl, _, _, _, _⟩ := hv'
  obtain ⟨ad2, c2, rfl, _, _, _, _⟩ := hu'
  clear hX hA hv hu
  go_enter Tryd.func15, Tryd.ntmps15
  go_wp2_with (go_at_call 30; go_must (refine sum_at _ [Q, S] X HX.out _ hL _ ?_))
  go_wp2_with (go_at_call 29; go_must (refine put_any X (by omega) 4 A HP.out _ _ ?_))
  intro ad3 c3 w3 hown3 hb3
  have hb4 := below_then ((Below.refl w.heap.size w).alloc (Nat.le_refl _) (Obj.cells #[Value.slice ad2 Q.length c2, Value.slice ad S.length c] 25)) hb3 (by omega)
  have hown4 := owns_mono (base' := w.heap.size) hown3 (by omega)
  clear hb3 hown3 hL
  go_wp2
  exact hR _ _ _ hown4 hb4

/-- Is the answer right? -/
def rightL (us : List (List UInt8 × List UInt8)) (n Q A : List UInt8) : Bool := match lookU us n with | some S => ansL S Q == A | none => false

set_option maxRecDepth 100000 in
set_option maxHeartbeats 1600000 in
theorem right_any (og : Value) (op : Value) (uv : Value) (us : List (List UInt8 × List UInt8)) (n : List UInt8) (hl : ∀ u ∈ us, u.2.length ≤ 140737488355328) (q x : Value) (Q X : List UInt8) (t : Bool) (ht : rightL us n Q X = t) (w : World) (hog : ∃ k m, og = .int k m) (hop : ∃ b, op = .bool b) (hu : Us w uv us) (hq : Bs w q Q) (hx : Bs w x X) (R : Ending → World → Prop)
    (hR : ∀ w', Below w.heap.size w w' → R (.returned (.bool t)) w') :
    Calls Tryd.prog 17 #[.agg #[og, op, uv], .string (str n), q, x] w R := by
  obtain ⟨k, m, rfl⟩ := hog
  obtain ⟨bo, rfl⟩ := hop
  have hu' := hu
  obtain ⟨ad, c, rfl, h1, h2, h3, h4⟩ := hu'
  have hq' := hq
  obtain ⟨qa, qc, rfl, _, _, _, _⟩ := hq'
  have hx' := hx
  obtain ⟨xa, xc, rfl, _, _, _, _⟩ := hx'
  have hb0 := (Below.refl w.heap.size w).alloc (Nat.le_refl _) (Obj.cells #[Value.int k m, Value.bool bo, Value.slice ad us.length c] 24)
  have hu1 := hu.below hb0
  clear h4 hu
  have HB0 : Below w.heap.size w (w.alloc (Obj.cells #[Value.int k m, Value.bool bo, Value.slice ad us.length c] 24)) := hb0
  obtain ⟨r, hr⟩ : ∃ r, lookU us n = r := ⟨_, rfl⟩
  cases r with
  | none =>
    have hf : t = false := by rw [← ht]; unfold rightL; rw [hr]
    subst hf
    have HRR := Lib.hid hr
    clear ht hr hq hx
    go_enter Tryd.func17, Tryd.ntmps17
    go_wp2_with (go_at_call 8; go_must (refine secret_none _ _ _ us n HRR.out hl _ hu1 _ ?_))
    intro ad1 c1 w1 hown1 hb1
    have hb2 := below_then hb0 hb1 (by omega)
    clear hown1 hb1 hb0 hu1 HB0
    go_wp2
    exact hb2
  | some S =>
    have hf : (ansL S Q == X) = t := by rw [← ht]; unfold rightL; rw [hr]
    obtain ⟨A, hA⟩ : ∃ A, ansL S Q = A := ⟨_, rfl⟩
    rw [hA] at hf
    have hAl : A.length = 4 := by rw [← hA]; exact ansL_length _ _
    have HA := Lib.hid hA
    have HRR := Lib.hid hr
    clear ht hr hA
    go_enter Tryd.func17, Tryd.ntmps17
    go_wp2_with (go_at_call 8; go_must (refine secret_some _ _ _ us n S HRR.out hl _ hu1 _ ?_))
    intro ad1 c1 w1 hown1 hb1
    have hb2 := below_then hb0 hb1 (by omega)
    have hz2 := hb2.size
    have hq1 := hq.below hb2
    have hx1 := hx.below hb2
    have hbs := (bs_of_owns hown1).2
    clear hown1 hb1 hb0 hu1 hq hx HB0
    go_wp2_with (go_at_call 15; go_must (refine answer_any _ _ S Q A HA.out _ hbs hq1 _ ?_))
    intro ad2 c2 w2 hown2 hb3
    have hb4 := below_then hb2 hb3 hz2
    have hx2 := hx1.below hb3
    have hbA := (bs_of_owns hown2).2
    rw [hAl] at hbA
    clear hown2 hb3 hq1 hx1 hbs hb2
    go_wp2_with (go_at_call 28; go_must (refine equal_any _ _ A X _ hbA hx2 _ ?_))
    exact hb4
end Go.Proofs.YtbfelcgjocpgaaaDoor
