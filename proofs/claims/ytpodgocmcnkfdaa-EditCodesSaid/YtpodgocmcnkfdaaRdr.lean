/- Readers of bytes (take, number), the program's and the document's: walked. -/
import Derived.Test.YtpodgocmcnkfdaaEncP
import Derived.Test.YtpodgocmcnkfdaaRApB
import Derived.Test.YtpodgocmcnkfdaaPk
namespace Go.Proofs.Ytpodgocmcnkfdaa
open Go.RowKit

theorem takeL_bad {g : Bool} {n : Nat} {s : Rs} (h : ((g && s.bad) || decide (s.b.length < n)) = true) : takeL g n s = ([], ⟨s.b, true⟩) := by
  unfold takeL
  rw [if_pos h]
theorem takeL_good {g : Bool} {n : Nat} {s : Rs} (h : ((g && s.bad) || decide (s.b.length < n)) = false) : takeL g n s = (s.b.take n, ⟨s.b.drop n, s.bad⟩) := by
  unfold takeL
  rw [h]
  rfl
theorem own_apart {w : World} {B e size n N : Nat} {v : Value} {xs : List Value} (h : w.ownsRow B e size v n xs) (hN : N < B) : ∀ k, v.ownBlock = some k → some k ≠ some N := fun k hk e => by
  have := (h.lt k hk).1
  cases e
  omega
theorem bs_of_rd {w : World} {ad : Option Addr} {n c : Nat} {l : List UInt8} (h : Rd w 1 ad n (bv l)) (hc : n ≤ c) (hm : c ≤ 9223372036854775807) (hn : ad = none → c = 0) : n = l.length ∧ Bs w (.slice ad n c) l := by
  have e := h.len
  subst e
  exact ⟨rfl, ad, c, rfl, h, hc, hm, hn⟩

set_option maxRecDepth 100000 in
set_option maxHeartbeats 3200000 in
theorem etake_any (N n : Nat) (s : Rs) (ad : Option Addr) (c : Nat) (T : List UInt8) (S : Rs) (hT : takeL true n s = (T, S)) (w0 w : World) (hb : Below w0.heap.size w0 w) (hN : N < w.heap.size)
    (hrow : w.heap[N]? = some (.cells #[.slice ad s.b.length c, .bool s.bad] 93)) (hbs : Bs w0 (.slice ad s.b.length c) s.b) (hlen : s.b.length ≤ 140737488355328) (R : Ending → World → Prop)
    (hR : ∀ xa xc ad' c' w', w'.ownsRow w.heap.size 5 1 (.slice xa T.length xc) T.length (bv T) → w'.heap[N]? = some (.cells #[.slice ad' S.b.length c', .bool S.bad] 93) → Bs w0 (.slice ad' S.b.length c') S.b → w.grownBy w' (some N) → R (.returned (.slice xa T.length xc)) w') :
    Calls Try.prog 53 #[.pointer (some ⟨N, 0, none⟩), .int .i64 n] w R := by
  obtain ⟨sb, bad⟩ := s
  simp only at hrow hbs hlen
  have HR := Lib.hid hR
  have HROW := Lib.hid hrow
  have c0 := cell_of_row w N 0 _ _ _ hrow
  have c1 := cell_of_row w N 1 _ _ _ hrow
  have f1 := frozen_block hrow 1
  have hp := hbs.parts
  have HBS := Lib.hid hbs
  have HB := Lib.hid hb
  clear hR hrow hbs hb
  cases bad with
  | true =>
    rw [takeL_bad (by simp)] at hT
    cases hT
    go_enter Try.func53, Try.ntmps53
    go_wp2
    exact HR.out none 0 ad c _ (World.ownsRow_nil _ _ _ _) (by rw [heap_setCell_same w N 1 _ _ (Value.bool true) HROW.out]; rfl) HBS.out (grownBy_setCell w ⟨N, 1, none⟩ _)
  | false =>
  by_cases hl : sb.length < n
  · have hlz : (sb.length : Int) < (n : Int) := by omega
    rw [takeL_bad (by simp [hl])] at hT
    cases hT
    go_enter Try.func53, Try.ntmps53
    go_wp2
    exact HR.out none 0 ad c _ (World.ownsRow_nil _ _ _ _) (by rw [heap_setCell_same w N 1 _ _ (Value.bool true) HROW.out]; rfl) HBS.out (grownBy_setCell w ⟨N, 1, none⟩ _)
  · have hlz : ¬ (sb.length : Int) < (n : Int) := by omega
    have hlc : (n : Int) ≤ (c : Int) := by have := hp.2.2.1; omega
    rw [takeL_good (by simp; omega)] at hT
    obtain ⟨Lx, hsl, hnx, hLx⟩ := slice_fromP (P := Try.prog) (j := n) Try.underlying39 Try.info5 (show n ≤ sb.length by omega) hp.2.2.1 hp.2.2.2.2
    have htl : (sb.take n).length = n := by rw [List.length_take]; omega
    have hrd : Rd w0 1 Lx (sb.length - n) (bv (sb.drop n)) := by
      have := hLx w0 _ hp.2.1
      rw [Nat.mul_one] at this
      have e : (bv sb).drop n = bv (sb.drop n) := by unfold bv; rw [List.map_drop]
      rwa [e] at this
    obtain ⟨hdl, hdb⟩ := bs_of_rd (c := c - n) hrd (by have := hp.2.2.1; omega) (by have := hp.2.2.2.1; omega) hnx
    have hbw : Bs w (.slice ad n c) (sb.take n) := Bs.cut (HBS.out.below HB.out) (by omega)
    have hb1 : Below w.heap.size w (w.alloc (Obj.cells #[Value.slice ad n c] 39)) := (Below.refl _ _).alloc (Nat.le_refl _) _
    have HB1 := Lib.hid hb1
    have HBSS := Lib.hid (bss_lit1 (e := 39) hbw)
    have HDB := Lib.hid hdb
    obtain ⟨X, hX⟩ : ∃ X, sb.take n = X := ⟨_, rfl⟩
    obtain ⟨Y, hY⟩ : ∃ Y, sb.drop n = Y := ⟨_, rfl⟩
    rw [hX, hY] at hT
    rw [hX] at HBSS htl
    rw [hY] at HDB hdl
    cases hT
    have HTL := Lib.hid htl
    have HDL := Lib.hid hdl
    have hXl : T.length ≤ 140737488355328 := by omega
    clear hp hLx hrd hdb hbw hX hY hdl htl f1
    go_enter Try.func53, Try.ntmps53
    go_wp2_with (go_at_call 47; go_must (refine join_any _ [T] T (by simp) _ HBSS.out hXl _ ?_); intro ja jc w3 ho3 hb3; have hx3 := below_tra HB1.out hb3; have hr3 := row_on HROW.out hx3; have d0 := cell_of_row w3 N 0 _ _ _ hr3; have f0 := frozen_block hr3 0; have HX3 := Lib.hid hx3; have HR3 := Lib.hid hr3; have HO3 := Lib.hid (owns_mono ho3 HB1.out.size); clear hx3 hr3 ho3 hb3)
    refine HR.out ja jc Lx (c - n) _ (owns_grown HO3.out (grownBy_setCell w3 ⟨N, 0, none⟩ _) (own_apart HO3.out hN)) ?_ ?_ (grownBy_trans (grown_bel HX3.out) (grownBy_setCell w3 ⟨N, 0, none⟩ _))
    · rw [heap_setCell_same w3 N 0 _ _ _ HR3.out]
      rw [← HDL.out]
      rfl
    · rw [← HDL.out]
      exact HDB.out

set_option maxRecDepth 100000 in
set_option maxHeartbeats 3200000 in
theorem rtake_any (N n : Nat) (s : Rs) (ad : Option Addr) (c : Nat) (T : List UInt8) (S : Rs) (hT : takeL false n s = (T, S)) (w0 w : World) (hb : Below w0.heap.size w0 w) (hN : N < w.heap.size) (hN0 : w0.heap.size ≤ N)
    (hrow : w.heap[N]? = some (.cells #[.slice ad s.b.length c, .bool s.bad] 97)) (hbs : Bs w0 (.slice ad s.b.length c) s.b) (hlen : s.b.length ≤ 140737488355328) (R : Ending → World → Prop)
    (hR : ∀ xa xc ad' c' w', w'.ownsRow w.heap.size 5 1 (.slice xa T.length xc) T.length (bv T) → w'.heap[N]? = some (.cells #[.slice ad' S.b.length c', .bool S.bad] 97) → Bs w0 (.slice ad' S.b.length c') S.b → w.grownBy w' (some N) → R (.returned (.slice xa T.length xc)) w') :
    Calls Try.prog 56 #[.pointer (some ⟨N, 0, none⟩), .int .i64 n] w R := by
  obtain ⟨sb, bad⟩ := s
  simp only at hrow hbs hlen
  have HR := Lib.hid hR
  have HROW := Lib.hid hrow
  have c0 := cell_of_row w N 0 _ _ _ hrow
  have c1 : w.cell? ⟨N, 1, none⟩ = some (.bool bad) := cell_of_row w N 1 _ _ _ hrow
  have f1 := frozen_block hrow 1
  have f0 := frozen_block hrow 0
  have hp := hbs.parts
  have HBS := Lib.hid hbs
  have HB := Lib.hid hb
  clear hR hrow hbs hb
  by_cases hl : sb.length < n
  · have hlz : (sb.length : Int) < (n : Int) := by omega
    rw [takeL_bad (by simp [hl])] at hT
    cases hT
    go_enter Try.func56, Try.ntmps56
    go_wp2
    exact HR.out none 0 ad c _ (World.ownsRow_nil _ _ _ _) (by rw [heap_setCell_same w N 1 _ _ (Value.bool true) HROW.out]; rfl) HBS.out (grownBy_setCell w ⟨N, 1, none⟩ _)
  · have hlz : ¬ (sb.length : Int) < (n : Int) := by omega
    have hlc : (n : Int) ≤ (c : Int) := by have := hp.2.2.1; omega
    rw [takeL_good (by simp; omega)] at hT
    obtain ⟨Lx, hsl, hnx, hLx⟩ := slice_fromP (P := Try.prog) (j := n) Try.underlying39 Try.info5 (show n ≤ sb.length by omega) hp.2.2.1 hp.2.2.2.2
    have htl : (sb.take n).length = n := by rw [List.length_take]; omega
    have hrd : Rd w0 1 Lx (sb.length - n) (bv (sb.drop n)) := by
      have := hLx w0 _ hp.2.1
      rw [Nat.mul_one] at this
      have e : (bv sb).drop n = bv (sb.drop n) := by unfold bv; rw [List.map_drop]
      rwa [e] at this
    obtain ⟨hdl, hdb⟩ := bs_of_rd (c := c - n) hrd (by have := hp.2.2.1; omega) (by have := hp.2.2.2.1; omega) hnx
    have hb3 : Below w0.heap.size w0 (w.setCell ⟨N, 0, none⟩ (.slice Lx (sb.length - n) (c - n))) := HB.out.setCell hN0 _
    have hgr := grownBy_setCell w ⟨N, 0, none⟩ (.slice Lx (sb.length - n) (c - n))
    have hz3 : (w.setCell ⟨N, 0, none⟩ (.slice Lx (sb.length - n) (c - n))).heap.size = w.heap.size := by simp [World.setCell]
    have hr3 : (w.setCell ⟨N, 0, none⟩ (.slice Lx (sb.length - n) (c - n))).heap[N]? = some (.cells #[.slice Lx (sb.length - n) (c - n), .bool bad] 97) := by
      rw [heap_setCell_same w N 0 _ _ _ HROW.out]
      rfl
    have hbw : Bs w0 (.slice ad n c) (sb.take n) := Bs.cut HBS.out (by omega)
    have hown := World.ownsRow_made (base := w.heap.size) (e := 5) (size := 1) (w.setCell ⟨N, 0, none⟩ (.slice Lx (sb.length - n) (c - n))) #[] 0 (by rw [hz3]; exact Nat.le_refl _) (by unfold maxLen; omega) rfl
    have hb4 : Below w.heap.size (w.setCell ⟨N, 0, none⟩ (.slice Lx (sb.length - n) (c - n))) ((w.setCell ⟨N, 0, none⟩ (.slice Lx (sb.length - n) (c - n))).alloc (Obj.cells #[] 5)) := (Below.refl _ _).alloc (by rw [hz3]; exact Nat.le_refl _) _
    have hrt := (Bs.parts (hbw.below (below_then hb3 hb4 HB.out.size))).2.1
    have HDB := Lib.hid hdb
    obtain ⟨X, hX⟩ : ∃ X, sb.take n = X := ⟨_, rfl⟩
    obtain ⟨Y, hY⟩ : ∃ Y, sb.drop n = Y := ⟨_, rfl⟩
    rw [hX, hY] at hT
    rw [hX] at hrt htl
    rw [hY] at HDB hdl
    cases hT
    have HTL := Lib.hid htl
    have HDL := Lib.hid hdl
    have HB4 := Lib.hid hb4
    have HGR := Lib.hid hgr
    have HR3 := Lib.hid hr3
    have HZ3 := Lib.hid hz3
    have hrt2 : Rd ((w.setCell ⟨N, 0, none⟩ (.slice Lx (sb.length - n) (c - n))).alloc (Obj.cells #[] 5)) 1 ad n (bv T) := by
      have h := hrt
      rw [HTL.out] at h
      exact h
    have HRT := Lib.hid hrt2
    have hown2 : ((w.setCell ⟨N, 0, none⟩ (.slice Lx (sb.length - n) (c - n))).alloc (Obj.cells #[] 5)).ownsRow w.heap.size 5 1 (.slice (some ⟨w.heap.size, 0, none⟩) 0 0) 0 [] := by
      have h := hown
      rw [HZ3.out] at h
      exact h
    have HOWN := Lib.hid hown2
    have hnil := hp.2.2.2.2
    have HNIL := Lib.hid hnil
    have hXl : n ≤ 140737488355328 := by omega
    clear hp hLx hrd hdb hbw hX hY hdl htl f1 hrt hrt2 hb3 hgr hr3 hz3 hb4 hown hown2 hnil
    go_enter Try.func56, Try.ntmps56
    go_wp2_with (at_builtin; refine wpList_app (by rfl) (.tmp 31) (.tmp 32) 39 (by rfl) w.heap.size 5 (.int .u8 0) 1 1 Try.underlying39 Try.info5 rfl (by decide) (some ⟨w.heap.size, 0, none⟩) 0 0 [] rfl HOWN.out ad n c (bv T) rfl HRT.out (bv_oneCell _) HNIL.out (by unfold maxLen; omega) (by omega) (Nat.le_trans (Nat.le_of_eq HZ3.out.symm) HB4.out.size) ?_; intro ad5 c5 w5 hown5 hg5; have HO5 := Lib.hid hown5; have HG5 := Lib.hid hg5; clear hown5 hg5)
    have hb5 : Below w.heap.size (w.setCell ⟨N, 0, none⟩ (.slice Lx (sb.length - n) (c - n))) w5 := below_app HB4.out HG5.out (Nat.le_trans (Nat.le_of_eq HZ3.out.symm) HB4.out.size) HOWN.out
    have hr5 : w5.heap[N]? = some (.cells #[.slice Lx (sb.length - n) (c - n), .bool bad] 97) := by
      rw [hb5.block N hN]
      exact HR3.out
    have hO : w5.ownsRow w.heap.size 5 1 (.slice ad5 T.length c5) T.length (bv T) := by
      have := HO5.out
      rw [Nat.zero_add] at this
      rw [HTL.out]
      simpa using this
    have hfin := HR.out ad5 c5 Lx (c - n) w5 hO (by rw [hr5, ← HDL.out]) (by rw [← HDL.out]; exact HDB.out) (grownBy_trans HGR.out ⟨hb5.os, hb5.tape, hb5.output, by have := hb5.size; exact this, fun k hk _ => hb5.block k (by have := HZ3.out; omega)⟩)
    rw [HTL.out] at hfin
    have e : (0 : Nat) + n = n := Nat.zero_add n
    first | exact hfin | (rw [e]; exact hfin)

/-! ### numbers -/
theorem getU_small : ∀ (l : List UInt8), getU l < 256 ^ l.length := by
  intro l
  have key : ∀ (l : List UInt8) (x : Nat), l.foldl (fun x c => (x * 256 + c.toNat) % 18446744073709551616) x < (x + 1) * 256 ^ l.length := by
    intro l
    induction l with
    | nil => intro x; simp
    | cons c l ih =>
      intro x
      rw [List.foldl_cons, List.length_cons, Nat.pow_succ]
      have h1 := ih ((x * 256 + c.toNat) % 18446744073709551616)
      have h2 := Nat.mod_le (x * 256 + c.toNat) 18446744073709551616
      have hc := c.toNat_lt
      have h3 : ((x * 256 + c.toNat) % 18446744073709551616 + 1) * 256 ^ l.length ≤ ((x + 1) * 256) * 256 ^ l.length := Nat.mul_le_mul_right _ (by omega)
      have e : (x + 1) * (256 ^ l.length * 256) = ((x + 1) * 256) * 256 ^ l.length := by rw [Nat.mul_comm (256 ^ l.length) 256, ← Nat.mul_assoc]
      omega
  have := key l 0
  simpa [getU] using this
theorem takeL_len (g : Bool) (n : Nat) (s : Rs) : (takeL g n s).1.length ≤ n ∧ (takeL g n s).2.b.length ≤ s.b.length := by
  unfold takeL
  split
  · simp
  · simp only [List.length_take, List.length_drop]
    omega
theorem numR_range (g : Bool) (n : Nat) (s : Rs) : -9223372036854775808 ≤ (numR g n s).1 ∧ (numR g n s).1 ≤ 9223372036854775807 := by
  unfold numR
  simp only
  rw [IntKind.wrap_i64]
  omega
theorem numR_len (g : Bool) (n : Nat) (s : Rs) : (numR g n s).2.b.length ≤ s.b.length := (takeL_len g n s).2
theorem numR_two (g : Bool) (n : Nat) (hn : n ≤ 2) (s : Rs) : 0 ≤ (numR g n s).1 ∧ (numR g n s).1 < ((256 ^ n : Nat) : Int) := by
  unfold numR
  simp only
  have h1 := getU_small (takeL g n s).1
  have h2 := (takeL_len g n s).1
  have h3 : 256 ^ (takeL g n s).1.length ≤ 256 ^ n := Nat.pow_le_pow_right (by omega) h2
  have h4 : 256 ^ n ≤ 256 ^ 2 := Nat.pow_le_pow_right (by omega) hn
  have h5 : (256 : Nat) ^ 2 = 65536 := by decide
  rw [IntKind.wrap_i64]
  omega

theorem geta_any (v : Value) (l : List UInt8) (n : Nat) (hn : getU l = n) (w : World) (hv : Bs w v l) (R : Ending → World → Prop)
    (hR : R (.returned (.int .u64 n)) w) : Calls Try.prog 69 #[v] w R := by
  subst hn
  exact get_any v l w hv R hR
theorem rgeta_any (v : Value) (l : List UInt8) (n : Nat) (hn : getU l = n) (w : World) (hv : Bs w v l) (R : Ending → World → Prop)
    (hR : R (.returned (.int .u64 n)) w) : Calls Try.prog 70 #[v] w R := by
  subst hn
  exact rget_any v l w hv R hR

set_option maxRecDepth 100000 in
set_option maxHeartbeats 3200000 in
theorem enum_any (N n : Nat) (s : Rs) (ad : Option Addr) (c : Nat) (x : Int) (S : Rs) (hx : numR true n s = (x, S)) (w0 w : World) (hb : Below w0.heap.size w0 w) (hN : N < w.heap.size)
    (hrow : w.heap[N]? = some (.cells #[.slice ad s.b.length c, .bool s.bad] 93)) (hbs : Bs w0 (.slice ad s.b.length c) s.b) (hlen : s.b.length ≤ 140737488355328) (R : Ending → World → Prop)
    (hR : ∀ ad' c' w', w'.heap[N]? = some (.cells #[.slice ad' S.b.length c', .bool S.bad] 93) → Bs w0 (.slice ad' S.b.length c') S.b → w.grownBy w' (some N) → R (.returned (.int .i64 x)) w') :
    Calls Try.prog 52 #[.pointer (some ⟨N, 0, none⟩), .int .i64 n] w R := by
  have HR := Lib.hid hR
  have HB := Lib.hid hb
  have HROW := Lib.hid hrow
  have HBS := Lib.hid hbs
  obtain ⟨⟨T, S'⟩, hT⟩ : ∃ q, takeL true n s = q := ⟨_, rfl⟩
  unfold numR at hx
  rw [hT] at hx
  simp only [Prod.mk.injEq] at hx
  obtain ⟨hx1, rfl⟩ := hx
  obtain ⟨u, hu⟩ : ∃ u, getU T = u := ⟨_, rfl⟩
  rw [hu] at hx1
  have HT := Lib.hid hT
  have HU := Lib.hid hu
  clear hR hb hrow hbs hT hu
  go_enter Try.func52, Try.ntmps52
  go_wp2_with (first
    | (go_at_call 53; go_must (refine (etake_any N n s ad c T S' HT.out w0 _ HB.out hN HROW.out HBS.out hlen _ ?_)); intro xa xc ad' c' w1 ho1 hr1 hb1 hg1; have HO1 := Lib.hid (bs_of_owns ho1).2; have HR1 := Lib.hid hr1; have HB1 := Lib.hid hb1; have HG1 := Lib.hid hg1; clear ho1 hr1 hb1 hg1)
    | (go_at_call 69; go_must (refine geta_any _ T u HU.out _ HO1.out _ ?_)))
  all_goals exact HR.out _ _ _ HR1.out HB1.out HG1.out

set_option maxRecDepth 100000 in
set_option maxHeartbeats 3200000 in
theorem rnumr_any (N n : Nat) (s : Rs) (ad : Option Addr) (c : Nat) (x : Int) (S : Rs) (hx : numR false n s = (x, S)) (w0 w : World) (hb : Below w0.heap.size w0 w) (hN : N < w.heap.size) (hN0 : w0.heap.size ≤ N)
    (hrow : w.heap[N]? = some (.cells #[.slice ad s.b.length c, .bool s.bad] 97)) (hbs : Bs w0 (.slice ad s.b.length c) s.b) (hlen : s.b.length ≤ 140737488355328) (R : Ending → World → Prop)
    (hR : ∀ ad' c' w', w'.heap[N]? = some (.cells #[.slice ad' S.b.length c', .bool S.bad] 97) → Bs w0 (.slice ad' S.b.length c') S.b → w.grownBy w' (some N) → R (.returned (.int .i64 x)) w') :
    Calls Try.prog 55 #[.pointer (some ⟨N, 0, none⟩), .int .i64 n] w R := by
  have HR := Lib.hid hR
  have HB := Lib.hid hb
  have HROW := Lib.hid hrow
  have HBS := Lib.hid hbs
  obtain ⟨⟨T, S'⟩, hT⟩ : ∃ q, takeL false n s = q := ⟨_, rfl⟩
  unfold numR at hx
  rw [hT] at hx
  simp only [Prod.mk.injEq] at hx
  obtain ⟨hx1, rfl⟩ := hx
  obtain ⟨u, hu⟩ : ∃ u, getU T = u := ⟨_, rfl⟩
  rw [hu] at hx1
  have HT := Lib.hid hT
  have HU := Lib.hid hu
  clear hR hb hrow hbs hT hu
  go_enter Try.func55, Try.ntmps55
  go_wp2_with (first
    | (go_at_call 56; go_must (refine (rtake_any N n s ad c T S' HT.out w0 _ HB.out hN hN0 HROW.out HBS.out hlen _ ?_)); intro xa xc ad' c' w1 ho1 hr1 hb1 hg1; have HO1 := Lib.hid (bs_of_owns ho1).2; have HR1 := Lib.hid hr1; have HB1 := Lib.hid hb1; have HG1 := Lib.hid hg1; clear ho1 hr1 hb1 hg1)
    | (go_at_call 70; go_must (refine rgeta_any _ T u HU.out _ HO1.out _ ?_)))
  all_goals exact HR.out _ _ _ HR1.out HB1.out HG1.out
end Go.Proofs.Ytpodgocmcnkfdaa
