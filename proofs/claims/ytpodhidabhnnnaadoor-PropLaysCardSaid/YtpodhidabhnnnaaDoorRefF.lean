/- The document's number, Find, Alike and Same, walked. -/
import Derived.Test.YtpodhidabhnnnaaDoorRefV
import Derived.Deep.RegionHeld3
namespace Go.Proofs.YtpodhidabhnnnaaDoor
open Go.RowKit

set_option maxRecDepth 100000 in
theorem rnum_1 (n : Int) (c : Nat) (hc : numL ⟨1, n, [], [], []⟩ = c) (w : World) (R : Ending → World → Prop) (hR : R (.returned (.int .i64 c)) w) :
    Calls Tryd.prog 38 #[.int .i64 1, .int .i64 n] w R := by
  by_cases h : 1 < n
  · obtain rfl : c = 130 := by rw [← hc]; unfold numL; rw [if_pos ⟨by show kindL 1 = 1; decide, h⟩]
    clear hc
    go_enter Tryd.func38, Tryd.ntmps38
    go_wp2
    exact hR
  · obtain rfl : c = 0 := by rw [← hc]; unfold numL; rw [if_neg (fun hh => h hh.2)]; simp
    have hn : ¬ (1 : Int) < n := h
    clear hc
    go_enter Tryd.func38, Tryd.ntmps38
    go_wp2
    exact hR

set_option maxRecDepth 100000 in
theorem rnum_23 (n : Int) (c : Nat) (hc : numL ⟨23, n, [], [], []⟩ = c) (w : World) (R : Ending → World → Prop) (hR : R (.returned (.int .i64 c)) w) :
    Calls Tryd.prog 38 #[.int .i64 23, .int .i64 n] w R := by
  by_cases h : 1 < n
  · obtain rfl : c = 130 := by rw [← hc]; unfold numL; rw [if_pos ⟨by show kindL 23 = 1; decide, h⟩]
    clear hc
    go_enter Tryd.func38, Tryd.ntmps38
    go_wp2
    exact hR
  · obtain rfl : c = 0 := by rw [← hc]; unfold numL; rw [if_neg (fun hh => h hh.2)]; simp
    have hn : ¬ (1 : Int) < n := h
    clear hc
    go_enter Tryd.func38, Tryd.ntmps38
    go_wp2
    exact hR

set_option maxRecDepth 100000 in
theorem rnum_25 (n : Int) (c : Nat) (hc : numL ⟨25, n, [], [], []⟩ = c) (w : World) (R : Ending → World → Prop) (hR : R (.returned (.int .i64 c)) w) :
    Calls Tryd.prog 38 #[.int .i64 25, .int .i64 n] w R := by
  by_cases h : 1 < n
  · obtain rfl : c = 130 := by rw [← hc]; unfold numL; rw [if_pos ⟨by show kindL 25 = 1; decide, h⟩]
    clear hc
    go_enter Tryd.func38, Tryd.ntmps38
    go_wp2
    exact hR
  · obtain rfl : c = 0 := by rw [← hc]; unfold numL; rw [if_neg (fun hh => h hh.2)]; simp
    have hn : ¬ (1 : Int) < n := h
    clear hc
    go_enter Tryd.func38, Tryd.ntmps38
    go_wp2
    exact hR

set_option maxRecDepth 100000 in
theorem rnum_36 (n : Int) (c : Nat) (hc : numL ⟨36, n, [], [], []⟩ = c) (w : World) (R : Ending → World → Prop) (hR : R (.returned (.int .i64 c)) w) :
    Calls Tryd.prog 38 #[.int .i64 36, .int .i64 n] w R := by
  by_cases h : 1 < n
  · obtain rfl : c = 130 := by rw [← hc]; unfold numL; rw [if_pos ⟨by show kindL 36 = 1; decide, h⟩]
    clear hc
    go_enter Tryd.func38, Tryd.ntmps38
    go_wp2
    exact hR
  · obtain rfl : c = 0 := by rw [← hc]; unfold numL; rw [if_neg (fun hh => h hh.2)]; simp
    have hn : ¬ (1 : Int) < n := h
    clear hc
    go_enter Tryd.func38, Tryd.ntmps38
    go_wp2
    exact hR

set_option maxRecDepth 100000 in
theorem rnum_37 (n : Int) (c : Nat) (hc : numL ⟨37, n, [], [], []⟩ = c) (w : World) (R : Ending → World → Prop) (hR : R (.returned (.int .i64 c)) w) :
    Calls Tryd.prog 38 #[.int .i64 37, .int .i64 n] w R := by
  by_cases h : 1 < n
  · obtain rfl : c = 130 := by rw [← hc]; unfold numL; rw [if_pos ⟨by show kindL 37 = 1; decide, h⟩]
    clear hc
    go_enter Tryd.func38, Tryd.ntmps38
    go_wp2
    exact hR
  · obtain rfl : c = 0 := by rw [← hc]; unfold numL; rw [if_neg (fun hh => h hh.2)]; simp
    have hn : ¬ (1 : Int) < n := h
    clear hc
    go_enter Tryd.func38, Tryd.ntmps38
    go_wp2
    exact hR

set_option maxRecDepth 100000 in
theorem rnum_40 (n : Int) (c : Nat) (hc : numL ⟨40, n, [], [], []⟩ = c) (w : World) (R : Ending → World → Prop) (hR : R (.returned (.int .i64 c)) w) :
    Calls Tryd.prog 38 #[.int .i64 40, .int .i64 n] w R := by
  by_cases h : 1 < n
  · obtain rfl : c = 130 := by rw [← hc]; unfold numL; rw [if_pos ⟨by show kindL 40 = 1; decide, h⟩]
    clear hc
    go_enter Tryd.func38, Tryd.ntmps38
    go_wp2
    exact hR
  · obtain rfl : c = 0 := by rw [← hc]; unfold numL; rw [if_neg (fun hh => h hh.2)]; simp
    have hn : ¬ (1 : Int) < n := h
    clear hc
    go_enter Tryd.func38, Tryd.ntmps38
    go_wp2
    exact hR

set_option maxRecDepth 100000 in
theorem rnum_41 (n : Int) (c : Nat) (hc : numL ⟨41, n, [], [], []⟩ = c) (w : World) (R : Ending → World → Prop) (hR : R (.returned (.int .i64 c)) w) :
    Calls Tryd.prog 38 #[.int .i64 41, .int .i64 n] w R := by
  by_cases h : 1 < n
  · obtain rfl : c = 130 := by rw [← hc]; unfold numL; rw [if_pos ⟨by show kindL 41 = 1; decide, h⟩]
    clear hc
    go_enter Tryd.func38, Tryd.ntmps38
    go_wp2
    exact hR
  · obtain rfl : c = 0 := by rw [← hc]; unfold numL; rw [if_neg (fun hh => h hh.2)]; simp
    have hn : ¬ (1 : Int) < n := h
    clear hc
    go_enter Tryd.func38, Tryd.ntmps38
    go_wp2
    exact hR

set_option maxRecDepth 100000 in
theorem rnum_42 (n : Int) (c : Nat) (hc : numL ⟨42, n, [], [], []⟩ = c) (w : World) (R : Ending → World → Prop) (hR : R (.returned (.int .i64 c)) w) :
    Calls Tryd.prog 38 #[.int .i64 42, .int .i64 n] w R := by
  by_cases h : 1 < n
  · obtain rfl : c = 130 := by rw [← hc]; unfold numL; rw [if_pos ⟨by show kindL 42 = 1; decide, h⟩]
    clear hc
    go_enter Tryd.func38, Tryd.ntmps38
    go_wp2
    exact hR
  · obtain rfl : c = 0 := by rw [← hc]; unfold numL; rw [if_neg (fun hh => h hh.2)]; simp
    have hn : ¬ (1 : Int) < n := h
    clear hc
    go_enter Tryd.func38, Tryd.ntmps38
    go_wp2
    exact hR

set_option maxRecDepth 100000 in
theorem rnum_11 (n : Int) (c : Nat) (hc : numL ⟨11, n, [], [], []⟩ = c) (w : World) (R : Ending → World → Prop) (hR : R (.returned (.int .i64 c)) w) :
    Calls Tryd.prog 38 #[.int .i64 11, .int .i64 n] w R := by
  by_cases h : n = 0
  · subst h
    obtain rfl : c = 130 := by rw [← hc]; decide
    clear hc
    go_enter Tryd.func38, Tryd.ntmps38
    go_wp2
    exact hR
  · obtain rfl : c = 0 := by
      rw [← hc]
      unfold numL
      have hk : kindL 11 ≠ 1 := by decide
      simp [hk, h]
    clear hc
    go_enter Tryd.func38, Tryd.ntmps38
    go_wp2
    exact hR

set_option maxRecDepth 100000 in
theorem rnum_33 (n : Int) (c : Nat) (hc : numL ⟨33, n, [], [], []⟩ = c) (w : World) (R : Ending → World → Prop) (hR : R (.returned (.int .i64 c)) w) :
    Calls Tryd.prog 38 #[.int .i64 33, .int .i64 n] w R := by
  by_cases h : n = 0
  · subst h
    obtain rfl : c = 130 := by rw [← hc]; decide
    clear hc
    go_enter Tryd.func38, Tryd.ntmps38
    go_wp2
    exact hR
  · obtain rfl : c = 0 := by
      rw [← hc]
      unfold numL
      have hk : kindL 33 ≠ 1 := by decide
      simp [hk, h]
    clear hc
    go_enter Tryd.func38, Tryd.ntmps38
    go_wp2
    exact hR

set_option maxRecDepth 100000 in
theorem rnum_39 (n : Int) (c : Nat) (hc : numL ⟨39, n, [], [], []⟩ = c) (w : World) (R : Ending → World → Prop) (hR : R (.returned (.int .i64 c)) w) :
    Calls Tryd.prog 38 #[.int .i64 39, .int .i64 n] w R := by
  by_cases h : n = 0
  · subst h
    obtain rfl : c = 130 := by rw [← hc]; decide
    clear hc
    go_enter Tryd.func38, Tryd.ntmps38
    go_wp2
    exact hR
  · obtain rfl : c = 0 := by
      rw [← hc]
      unfold numL
      have hk : kindL 39 ≠ 1 := by decide
      simp [hk, h]
    clear hc
    go_enter Tryd.func38, Tryd.ntmps38
    go_wp2
    exact hR

set_option maxRecDepth 100000 in
theorem rnum_35 (n : Int) (c : Nat) (hc : numL ⟨35, n, [], [], []⟩ = c) (w : World) (R : Ending → World → Prop) (hR : R (.returned (.int .i64 c)) w) :
    Calls Tryd.prog 38 #[.int .i64 35, .int .i64 n] w R := by
  by_cases h : n = 0
  · subst h
    obtain rfl : c = 148 := by rw [← hc]; decide
    clear hc
    go_enter Tryd.func38, Tryd.ntmps38
    go_wp2
    exact hR
  · obtain rfl : c = 0 := by
      rw [← hc]
      unfold numL
      have hk : kindL 35 ≠ 1 := by decide
      simp [hk, h]
    clear hc
    go_enter Tryd.func38, Tryd.ntmps38
    go_wp2
    exact hR

theorem numL_eq (p : Pr) : numL p = numL ⟨p.id, p.num, [], [], []⟩ := rfl
set_option maxRecDepth 100000 in
theorem rnum_any (id n : Int) (c : Nat) (hc : numL ⟨id, n, [], [], []⟩ = c) (w : World) (R : Ending → World → Prop) (hR : R (.returned (.int .i64 c)) w) :
    Calls Tryd.prog 38 #[.int .i64 id, .int .i64 n] w R := by
  by_cases h1 : id = 1
  · subst h1
    exact rnum_1 n c hc w R hR
  by_cases h11 : id = 11
  · subst h11
    exact rnum_11 n c hc w R hR
  by_cases h23 : id = 23
  · subst h23
    exact rnum_23 n c hc w R hR
  by_cases h25 : id = 25
  · subst h25
    exact rnum_25 n c hc w R hR
  by_cases h33 : id = 33
  · subst h33
    exact rnum_33 n c hc w R hR
  by_cases h35 : id = 35
  · subst h35
    exact rnum_35 n c hc w R hR
  by_cases h36 : id = 36
  · subst h36
    exact rnum_36 n c hc w R hR
  by_cases h37 : id = 37
  · subst h37
    exact rnum_37 n c hc w R hR
  by_cases h39 : id = 39
  · subst h39
    exact rnum_39 n c hc w R hR
  by_cases h40 : id = 40
  · subst h40
    exact rnum_40 n c hc w R hR
  by_cases h41 : id = 41
  · subst h41
    exact rnum_41 n c hc w R hR
  by_cases h42 : id = 42
  · subst h42
    exact rnum_42 n c hc w R hR
  obtain rfl : c = 0 := by
    rw [← hc]
    have hk : kindL id ≠ 1 := by
      unfold kindL
      simp only [h1, h23, h25, h36, h37, h40, h41, h42, or_self, if_false]
      repeat' split
      all_goals omega
    unfold numL
    simp [hk, h11, h33, h39, h35]
  clear hc
  go_enter Tryd.func38, Tryd.ntmps38
  go_wp2
  exact hR

set_option maxRecDepth 100000 in
set_option maxHeartbeats 1600000 in
theorem rfind_any (id : Int) (v : Value) (l : List Pr) (p : Pr) (q : Bool) (hp : (findL id l).getD zeroP = p) (hq : (findL id l).isSome = q) (w : World) (hv : Ps w v l) (R : Ending → World → Prop)
    (hR : ∀ a c w', PC w' (.slice a p.data.length c) p → Below w.heap.size w w' → R (.returned (.tuple #[.agg #[.int .i64 p.id, .int .i64 p.num, .string (str p.text), .string (str p.pair), .slice a p.data.length c], .bool q])) w') :
    Calls Tryd.prog 29 #[.int .i64 id, v] w R := by
  have HR := Lib.hid hR
  have HV := Lib.hid hv
  have hst : Hid ((findL id (l.drop 0)).getD zeroP = p ∧ (findL id (l.drop 0)).isSome = q) := by rw [List.drop_zero]; exact Lib.hid ⟨hp, hq⟩
  clear hR hp hq
  obtain ⟨va, vc, rfl, _⟩ := hv
  have hb : Below w.heap.size w (w.alloc (Obj.cells #[Value.int .i64 0, Value.int .i64 0, Value.string ⟨#[]⟩, Value.string ⟨#[]⟩, Value.slice none 0 0] 43)) := (Below.refl _ _).alloc (Nat.le_refl _) _
  have HB := Lib.hid hb
  clear hb
  go_enter Tryd.func29, Tryd.ntmps29
  go_wp2
  go_loop [6] (fun i => ∃ k : Nat, k ≤ l.length ∧ i = .int .i64 k ∧ Hid ((findL id (l.drop k)).getD zeroP = p ∧ (findL id (l.drop k)).isSome = q)) (fun i => l.length - (intOf i).toNat)
  case atStart => exact ⟨0, Nat.zero_le _, rfl, hst⟩
  case round =>
    obtain ⟨k, hk, rfl, HS⟩ := hrel
    by_cases hlt : k < l.length
    · have hkk : (k : Int) < (l.length : Int) := by omega
      obtain ⟨va', vc', ee, _, _, _, v4⟩ := HV.out.below HB.out
      simp only [Value.slice.injEq] at ee
      obtain ⟨rfl, -, rfl⟩ := ee
      obtain ⟨vb, vo, rfl, v5⟩ := v4 (by omega)
      obtain ⟨d0, ⟨p0, p1, p2, p3, p4⟩, hec⟩ := v5 k hlt
      obtain ⟨y, hy⟩ : ∃ y, l[k] = y := ⟨_, rfl⟩
      rw [hy] at p0 p1 p2 p3 hec
      have hss := HS.out
      rw [List.drop_eq_getElem_cons hlt, hy, findL, List.find?_cons] at hss
      obtain ⟨d1, d3, rfl⟩ : ∃ a c, d0 = .slice a y.data.length c := by obtain ⟨a, c, h, _⟩ := hec.hd; exact ⟨_, _, h⟩
      have HSS := Lib.hid hss
      have HEC0 : Hid (PC w (.slice d1 y.data.length d3) y) := by
        obtain ⟨wa, wc, we, _, _, _, w4⟩ := HV.out
        simp only [Value.slice.injEq] at we
        obtain ⟨rfl, -, rfl⟩ := we
        obtain ⟨wb, wo, wbo, w5⟩ := w4 (by omega)
        simp only [Option.some.injEq, Addr.mk.injEq] at wbo
        obtain ⟨rfl, rfl, -⟩ := wbo
        obtain ⟨e0, ⟨_, _, _, _, r4⟩, hed⟩ := w5 k hlt
        rw [hy] at hed
        have h9 := cell_later HB.out r4
        rw [p4] at h9
        obtain rfl := Option.some.inj h9
        exact Lib.hid hed
      clear v4 v5 hy hss hec HS
      by_cases hid : y.id = id
      · have hpq : y = p ∧ true = q := by
          have := HSS.out
          rw [decide_eq_true hid] at this
          exact this
        obtain ⟨rfl, rfl⟩ := hpq
        clear HSS
        subst hid
        go_wp2
        refine bodyPost_ret (results_cell_one rfl _ _ w.heap.size 43 #[.int .i64 y.id, .int .i64 y.num, .string (str y.text), .string (str y.pair), .slice d1 y.data.length d3] (0, 0) _ (Value.bool true) rfl rfl (heap_alloc_new w _) Tryd.underlying43 rfl (by kernel_rfl)) rfl ?_
        exact HR.out _ _ _ (HEC0.out.below ((Below.refl _ _).alloc (Nat.le_refl _) _)) ((Below.refl _ _).alloc (Nat.le_refl _) _)
      · have hnx : Hid ((findL id (l.drop (k + 1))).getD zeroP = p ∧ (findL id (l.drop (k + 1))).isSome = q) := by
          have := HSS.out
          rw [decide_eq_false hid] at this
          exact this
        clear HSS
        go_wp2
        go_round
        case rel => exact ⟨k + 1, by omega, by go_num, hnx⟩
        case measure => simp [intOf]; omega
    · have hkk : ¬ (k : Int) < (l.length : Int) := by omega
      have hpq : zeroP = p ∧ false = q := by
        have := HS.out
        rw [List.drop_of_length_le (by omega)] at this
        exact this
      obtain ⟨rfl, rfl⟩ := hpq
      clear HS
      go_wp2
      refine bodyPost_ret (results_cell_one rfl _ _ w.heap.size 43 #[Value.int .i64 0, Value.int .i64 0, Value.string ⟨#[]⟩, Value.string ⟨#[]⟩, Value.slice none 0 0] (0, 0) _ (Value.bool false) rfl rfl (heap_alloc_new w _) Tryd.underlying43 rfl (by kernel_rfl)) rfl ?_
      exact HR.out _ _ _ ⟨bs_nil _, by simp [zeroP], by simp [zeroP], by simp [zeroP], by simp [zeroP], by simp [zeroP], by simp [zeroP], by simp [zeroP]⟩ HB.out
end Go.Proofs.YtpodhidabhnnnaaDoor
