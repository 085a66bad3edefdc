/- Kinds and places of properties: the document's answers. (Printed by genrk.py.) -/
import Derived.Test.YtpodhidabhnnnaaDoorKindA
namespace Go.Proofs.YtpodhidabhnnnaaDoor
open Go.RowKit

set_option maxRecDepth 100000 in
set_option maxHeartbeats 400000 in
theorem among_any (x : Int) (ps : List Int) (z : Bool) (hz : ps.contains x = z) (ad : Option Addr) (n c : Nat) (hn : n = ps.length) (hm : ps.length ≤ 1000) (w : World) (cs : List Value) (hr : Rd w 1 ad n cs) (hcs : cs = ps.map (Value.int .i64)) (R : Ending → World → Prop)
    (hR : R (.returned (.bool z)) w) :
    Calls Tryd.prog 40 #[.int .i64 x, .slice ad n c] w R := by
  subst hn
  subst hcs
  have HZ := Lib.hid hz
  clear hz
  go_enter Tryd.func40, Tryd.ntmps40
  go_wp2
  go_loop [5] (fun i => ∃ k : Nat, k ≤ ps.length ∧ i = .int .i64 k ∧ Hid ((ps.take k).contains x = false)) (fun i => ps.length - (intOf i).toNat)
  case atStart => exact ⟨0, Nat.zero_le _, rfl, Lib.hid (by simp)⟩
  case round =>
    obtain ⟨k, hk, rfl, hno⟩ := hrel
    by_cases hlt : k < ps.length
    · have hkk : (k : Int) < (ps.length : Int) := by omega
      obtain ⟨b, o, rfl, hcell⟩ := hr.2 (by omega)
      have hck := hcell k (by omega)
      rw [List.getElem?_map, List.getElem?_eq_getElem hlt, Option.map_some] at hck
      have HS : Hid (ps.take (k + 1) = ps.take k ++ [ps[k]]) := Lib.hid (List.take_succ_eq_append_getElem hlt)
      have HM : Hid (ps[k] ∈ ps) := Lib.hid (List.getElem_mem hlt)
      obtain ⟨p, hpp⟩ : ∃ p, ps[k] = p := ⟨_, rfl⟩
      rw [hpp] at HS HM hck
      clear hcell hr hpp
      by_cases he : p = x
      · subst he
        obtain rfl : z = true := by rw [← HZ.out]; simpa using HM.out
        go_wp2
        exact hR
      · have hp : Hid ((ps.take (k + 1)).contains x = false) := by
          refine Lib.hid ?_
          rw [HS.out]
          have := hno.out
          simp only [List.contains_eq_mem, List.mem_append, List.mem_singleton, decide_eq_false_iff_not] at this ⊢
          rintro (h | h)
          · exact this h
          · exact he h.symm
        clear HS HM hno
        go_wp2
        go_round
        case rel => exact ⟨k + 1, by omega, by go_num, hp⟩
        case measure => simp [intOf]; omega
    · have hkk : ¬ (k : Int) < (ps.length : Int) := by omega
      obtain rfl : z = false := by
        rw [← HZ.out]
        have := hno.out
        rwa [List.take_of_length_le (by omega)] at this
      go_wp2
      exact hR
theorem among_lit (ps : List Int) (n : Nat) (hn : n = ps.length) (hm : ps.length ≤ 1000) (vs : Array Value) (hs : vs.toList = ps.map (Value.int .i64)) (t : Nat) (x : Int) (z : Bool) (hz : ps.contains x = z) (K : Nat) (w : World) (hK : K = w.heap.size) (R : Ending → World → Prop)
    (hR : R (.returned (.bool z)) (w.alloc (.cells vs t))) :
    Calls Tryd.prog 40 #[.int .i64 x, .slice (some ⟨K, 0, none⟩) n n] (w.alloc (.cells vs t)) R := by
  subst hK
  refine among_any x ps z hz _ n n hn hm _ vs.toList (rd_lit w vs t 1 n ?_) hs R hR
  have := congrArg List.length hs
  simp only [List.length_map] at this
  rw [Nat.mul_one, hn, ← this]
  simp

set_option maxRecDepth 100000 in
set_option maxHeartbeats 2000000 in
theorem rkind_any (id : Int) (w : World) (R : Ending → World → Prop) (hR : R (.returned (.int .i64 (kindL id))) w) :
    Calls Tryd.prog 15 #[.int .i64 id] w R := by
  by_cases h1 : id = 1
  · subst h1
    have e : kindL 1 = 1 := by decide
    rw [e] at hR
    skip
    go_enter Tryd.func15, Tryd.ntmps15
    go_wp2
    exact hR
  by_cases h2 : id = 2
  · subst h2
    have e : kindL 2 = 3 := by decide
    rw [e] at hR
    clear h1
    go_enter Tryd.func15, Tryd.ntmps15
    go_wp2
    exact hR
  by_cases h3 : id = 3
  · subst h3
    have e : kindL 3 = 5 := by decide
    rw [e] at hR
    clear h1 h2
    go_enter Tryd.func15, Tryd.ntmps15
    go_wp2
    exact hR
  by_cases h8 : id = 8
  · subst h8
    have e : kindL 8 = 5 := by decide
    rw [e] at hR
    clear h1 h2 h3
    go_enter Tryd.func15, Tryd.ntmps15
    go_wp2
    exact hR
  by_cases h9 : id = 9
  · subst h9
    have e : kindL 9 = 6 := by decide
    rw [e] at hR
    clear h1 h2 h3 h8
    go_enter Tryd.func15, Tryd.ntmps15
    go_wp2
    exact hR
  by_cases h11 : id = 11
  · subst h11
    have e : kindL 11 = 4 := by decide
    rw [e] at hR
    clear h1 h2 h3 h8 h9
    go_enter Tryd.func15, Tryd.ntmps15
    go_wp2
    exact hR
  by_cases h17 : id = 17
  · subst h17
    have e : kindL 17 = 3 := by decide
    rw [e] at hR
    clear h1 h2 h3 h8 h9 h11
    go_enter Tryd.func15, Tryd.ntmps15
    go_wp2
    exact hR
  by_cases h18 : id = 18
  · subst h18
    have e : kindL 18 = 5 := by decide
    rw [e] at hR
    clear h1 h2 h3 h8 h9 h11 h17
    go_enter Tryd.func15, Tryd.ntmps15
    go_wp2
    exact hR
  by_cases h19 : id = 19
  · subst h19
    have e : kindL 19 = 2 := by decide
    rw [e] at hR
    clear h1 h2 h3 h8 h9 h11 h17 h18
    go_enter Tryd.func15, Tryd.ntmps15
    go_wp2
    exact hR
  by_cases h21 : id = 21
  · subst h21
    have e : kindL 21 = 5 := by decide
    rw [e] at hR
    clear h1 h2 h3 h8 h9 h11 h17 h18 h19
    go_enter Tryd.func15, Tryd.ntmps15
    go_wp2
    exact hR
  by_cases h22 : id = 22
  · subst h22
    have e : kindL 22 = 6 := by decide
    rw [e] at hR
    clear h1 h2 h3 h8 h9 h11 h17 h18 h19 h21
    go_enter Tryd.func15, Tryd.ntmps15
    go_wp2
    exact hR
  by_cases h23 : id = 23
  · subst h23
    have e : kindL 23 = 1 := by decide
    rw [e] at hR
    clear h1 h2 h3 h8 h9 h11 h17 h18 h19 h21 h22
    go_enter Tryd.func15, Tryd.ntmps15
    go_wp2
    exact hR
  by_cases h24 : id = 24
  · subst h24
    have e : kindL 24 = 3 := by decide
    rw [e] at hR
    clear h1 h2 h3 h8 h9 h11 h17 h18 h19 h21 h22 h23
    go_enter Tryd.func15, Tryd.ntmps15
    go_wp2
    exact hR
  by_cases h25 : id = 25
  · subst h25
    have e : kindL 25 = 1 := by decide
    rw [e] at hR
    clear h1 h2 h3 h8 h9 h11 h17 h18 h19 h21 h22 h23 h24
    go_enter Tryd.func15, Tryd.ntmps15
    go_wp2
    exact hR
  by_cases h26 : id = 26
  · subst h26
    have e : kindL 26 = 5 := by decide
    rw [e] at hR
    clear h1 h2 h3 h8 h9 h11 h17 h18 h19 h21 h22 h23 h24 h25
    go_enter Tryd.func15, Tryd.ntmps15
    go_wp2
    exact hR
  by_cases h28 : id = 28
  · subst h28
    have e : kindL 28 = 5 := by decide
    rw [e] at hR
    clear h1 h2 h3 h8 h9 h11 h17 h18 h19 h21 h22 h23 h24 h25 h26
    go_enter Tryd.func15, Tryd.ntmps15
    go_wp2
    exact hR
  by_cases h31 : id = 31
  · subst h31
    have e : kindL 31 = 5 := by decide
    rw [e] at hR
    clear h1 h2 h3 h8 h9 h11 h17 h18 h19 h21 h22 h23 h24 h25 h26 h28
    go_enter Tryd.func15, Tryd.ntmps15
    go_wp2
    exact hR
  by_cases h33 : id = 33
  · subst h33
    have e : kindL 33 = 2 := by decide
    rw [e] at hR
    clear h1 h2 h3 h8 h9 h11 h17 h18 h19 h21 h22 h23 h24 h25 h26 h28 h31
    go_enter Tryd.func15, Tryd.ntmps15
    go_wp2
    exact hR
  by_cases h34 : id = 34
  · subst h34
    have e : kindL 34 = 2 := by decide
    rw [e] at hR
    clear h1 h2 h3 h8 h9 h11 h17 h18 h19 h21 h22 h23 h24 h25 h26 h28 h31 h33
    go_enter Tryd.func15, Tryd.ntmps15
    go_wp2
    exact hR
  by_cases h35 : id = 35
  · subst h35
    have e : kindL 35 = 2 := by decide
    rw [e] at hR
    clear h1 h2 h3 h8 h9 h11 h17 h18 h19 h21 h22 h23 h24 h25 h26 h28 h31 h33 h34
    go_enter Tryd.func15, Tryd.ntmps15
    go_wp2
    exact hR
  by_cases h36 : id = 36
  · subst h36
    have e : kindL 36 = 1 := by decide
    rw [e] at hR
    clear h1 h2 h3 h8 h9 h11 h17 h18 h19 h21 h22 h23 h24 h25 h26 h28 h31 h33 h34 h35
    go_enter Tryd.func15, Tryd.ntmps15
    go_wp2
    exact hR
  by_cases h37 : id = 37
  · subst h37
    have e : kindL 37 = 1 := by decide
    rw [e] at hR
    clear h1 h2 h3 h8 h9 h11 h17 h18 h19 h21 h22 h23 h24 h25 h26 h28 h31 h33 h34 h35 h36
    go_enter Tryd.func15, Tryd.ntmps15
    go_wp2
    exact hR
  by_cases h38 : id = 38
  · subst h38
    have e : kindL 38 = 7 := by decide
    rw [e] at hR
    clear h1 h2 h3 h8 h9 h11 h17 h18 h19 h21 h22 h23 h24 h25 h26 h28 h31 h33 h34 h35 h36 h37
    go_enter Tryd.func15, Tryd.ntmps15
    go_wp2
    exact hR
  by_cases h39 : id = 39
  · subst h39
    have e : kindL 39 = 3 := by decide
    rw [e] at hR
    clear h1 h2 h3 h8 h9 h11 h17 h18 h19 h21 h22 h23 h24 h25 h26 h28 h31 h33 h34 h35 h36 h37 h38
    go_enter Tryd.func15, Tryd.ntmps15
    go_wp2
    exact hR
  by_cases h40 : id = 40
  · subst h40
    have e : kindL 40 = 1 := by decide
    rw [e] at hR
    clear h1 h2 h3 h8 h9 h11 h17 h18 h19 h21 h22 h23 h24 h25 h26 h28 h31 h33 h34 h35 h36 h37 h38 h39
    go_enter Tryd.func15, Tryd.ntmps15
    go_wp2
    exact hR
  by_cases h41 : id = 41
  · subst h41
    have e : kindL 41 = 1 := by decide
    rw [e] at hR
    clear h1 h2 h3 h8 h9 h11 h17 h18 h19 h21 h22 h23 h24 h25 h26 h28 h31 h33 h34 h35 h36 h37 h38 h39 h40
    go_enter Tryd.func15, Tryd.ntmps15
    go_wp2
    exact hR
  by_cases h42 : id = 42
  · subst h42
    have e : kindL 42 = 1 := by decide
    rw [e] at hR
    clear h1 h2 h3 h8 h9 h11 h17 h18 h19 h21 h22 h23 h24 h25 h26 h28 h31 h33 h34 h35 h36 h37 h38 h39 h40 h41
    go_enter Tryd.func15, Tryd.ntmps15
    go_wp2
    exact hR
  have e1 : kindL id = 0 := by unfold kindL; simp only [h1, h2, h3, h8, h9, h11, h17, h18, h19, h21, h22, h23, h24, h25, h26, h28, h31, h33, h34, h35, h36, h37, h38, h39, h40, h41, h42, or_self, if_false]
  rw [e1] at hR
  go_enter Tryd.func15, Tryd.ntmps15
  go_wp2
  exact hR

set_option maxRecDepth 100000 in
theorem rmay_1 (wh : Int) (w : World) (R : Ending → World → Prop) (hR : ∀ w', Below w.heap.size w w' → R (.returned (.bool (mayL 1 wh))) w') :
    Calls Tryd.prog 17 #[.int .i64 1, .int .i64 wh] w R := by
  obtain ⟨z, hz⟩ : ∃ z, mayL 1 wh = z := ⟨_, rfl⟩
  rw [hz] at hR
  have HZ : Hid ([(3 : Int), (16 : Int)].contains wh = z) := Lib.hid hz
  clear hz
  have cat := among_lit [(3 : Int), (16 : Int)] 2 rfl (by decide) #[Value.int .i64 3, Value.int .i64 16] rfl 3
  have HR := Lib.hid hR
  clear hR
  go_enter Tryd.func17, Tryd.ntmps17
  go_wp2_with (go_at_call 40; refine cat _ z HZ.out _ _ ?_ _ ?_; · simp)
  exact HR.out _ ((Below.refl _ _).alloc (Nat.le_refl _) _)

set_option maxRecDepth 100000 in
theorem rmay_2 (wh : Int) (w : World) (R : Ending → World → Prop) (hR : ∀ w', Below w.heap.size w w' → R (.returned (.bool (mayL 2 wh))) w') :
    Calls Tryd.prog 17 #[.int .i64 2, .int .i64 wh] w R := by
  obtain ⟨z, hz⟩ : ∃ z, mayL 2 wh = z := ⟨_, rfl⟩
  rw [hz] at hR
  have HZ : Hid ([(3 : Int), (16 : Int)].contains wh = z) := Lib.hid hz
  clear hz
  have cat := among_lit [(3 : Int), (16 : Int)] 2 rfl (by decide) #[Value.int .i64 3, Value.int .i64 16] rfl 3
  have HR := Lib.hid hR
  clear hR
  go_enter Tryd.func17, Tryd.ntmps17
  go_wp2_with (go_at_call 40; refine cat _ z HZ.out _ _ ?_ _ ?_; · simp)
  exact HR.out _ ((Below.refl _ _).alloc (Nat.le_refl _) _)

set_option maxRecDepth 100000 in
theorem rmay_3 (wh : Int) (w : World) (R : Ending → World → Prop) (hR : ∀ w', Below w.heap.size w w' → R (.returned (.bool (mayL 3 wh))) w') :
    Calls Tryd.prog 17 #[.int .i64 3, .int .i64 wh] w R := by
  obtain ⟨z, hz⟩ : ∃ z, mayL 3 wh = z := ⟨_, rfl⟩
  rw [hz] at hR
  have HZ : Hid ([(3 : Int), (16 : Int)].contains wh = z) := Lib.hid hz
  clear hz
  have cat := among_lit [(3 : Int), (16 : Int)] 2 rfl (by decide) #[Value.int .i64 3, Value.int .i64 16] rfl 3
  have HR := Lib.hid hR
  clear hR
  go_enter Tryd.func17, Tryd.ntmps17
  go_wp2_with (go_at_call 40; refine cat _ z HZ.out _ _ ?_ _ ?_; · simp)
  exact HR.out _ ((Below.refl _ _).alloc (Nat.le_refl _) _)

set_option maxRecDepth 100000 in
theorem rmay_8 (wh : Int) (w : World) (R : Ending → World → Prop) (hR : ∀ w', Below w.heap.size w w' → R (.returned (.bool (mayL 8 wh))) w') :
    Calls Tryd.prog 17 #[.int .i64 8, .int .i64 wh] w R := by
  obtain ⟨z, hz⟩ : ∃ z, mayL 8 wh = z := ⟨_, rfl⟩
  rw [hz] at hR
  have HZ : Hid ([(3 : Int), (16 : Int)].contains wh = z) := Lib.hid hz
  clear hz
  have cat := among_lit [(3 : Int), (16 : Int)] 2 rfl (by decide) #[Value.int .i64 3, Value.int .i64 16] rfl 3
  have HR := Lib.hid hR
  clear hR
  go_enter Tryd.func17, Tryd.ntmps17
  go_wp2_with (go_at_call 40; refine cat _ z HZ.out _ _ ?_ _ ?_; · simp)
  exact HR.out _ ((Below.refl _ _).alloc (Nat.le_refl _) _)

set_option maxRecDepth 100000 in
theorem rmay_9 (wh : Int) (w : World) (R : Ending → World → Prop) (hR : ∀ w', Below w.heap.size w w' → R (.returned (.bool (mayL 9 wh))) w') :
    Calls Tryd.prog 17 #[.int .i64 9, .int .i64 wh] w R := by
  obtain ⟨z, hz⟩ : ∃ z, mayL 9 wh = z := ⟨_, rfl⟩
  rw [hz] at hR
  have HZ : Hid ([(3 : Int), (16 : Int)].contains wh = z) := Lib.hid hz
  clear hz
  have cat := among_lit [(3 : Int), (16 : Int)] 2 rfl (by decide) #[Value.int .i64 3, Value.int .i64 16] rfl 3
  have HR := Lib.hid hR
  clear hR
  go_enter Tryd.func17, Tryd.ntmps17
  go_wp2_with (go_at_call 40; refine cat _ z HZ.out _ _ ?_ _ ?_; · simp)
  exact HR.out _ ((Below.refl _ _).alloc (Nat.le_refl _) _)

set_option maxRecDepth 100000 in
theorem rmay_11 (wh : Int) (w : World) (R : Ending → World → Prop) (hR : ∀ w', Below w.heap.size w w' → R (.returned (.bool (mayL 11 wh))) w') :
    Calls Tryd.prog 17 #[.int .i64 11, .int .i64 wh] w R := by
  obtain ⟨z, hz⟩ : ∃ z, mayL 11 wh = z := ⟨_, rfl⟩
  rw [hz] at hR
  have HZ : Hid ([(3 : Int), (8 : Int)].contains wh = z) := Lib.hid hz
  clear hz
  have cat := among_lit [(3 : Int), (8 : Int)] 2 rfl (by decide) #[Value.int .i64 3, Value.int .i64 8] rfl 3
  have HR := Lib.hid hR
  clear hR
  go_enter Tryd.func17, Tryd.ntmps17
  go_wp2_with (go_at_call 40; refine cat _ z HZ.out _ _ ?_ _ ?_; · simp)
  exact HR.out _ ((Below.refl _ _).alloc (Nat.le_refl _) _)

set_option maxRecDepth 100000 in
theorem rmay_17 (wh : Int) (w : World) (R : Ending → World → Prop) (hR : ∀ w', Below w.heap.size w w' → R (.returned (.bool (mayL 17 wh))) w') :
    Calls Tryd.prog 17 #[.int .i64 17, .int .i64 wh] w R := by
  obtain ⟨z, hz⟩ : ∃ z, mayL 17 wh = z := ⟨_, rfl⟩
  rw [hz] at hR
  have HZ : Hid ([(1 : Int), (2 : Int), (14 : Int)].contains wh = z) := Lib.hid hz
  clear hz
  have cat := among_lit [(1 : Int), (2 : Int), (14 : Int)] 3 rfl (by decide) #[Value.int .i64 1, Value.int .i64 2, Value.int .i64 14] rfl 3
  have HR := Lib.hid hR
  clear hR
  go_enter Tryd.func17, Tryd.ntmps17
  go_wp2_with (go_at_call 40; refine cat _ z HZ.out _ _ ?_ _ ?_; · simp)
  exact HR.out _ ((Below.refl _ _).alloc (Nat.le_refl _) _)

set_option maxRecDepth 100000 in
theorem rmay_18 (wh : Int) (w : World) (R : Ending → World → Prop) (hR : ∀ w', Below w.heap.size w w' → R (.returned (.bool (mayL 18 wh))) w') :
    Calls Tryd.prog 17 #[.int .i64 18, .int .i64 wh] w R := by
  have e : mayL 18 wh = (wh == 2) := by
    show [(2 : Int)].contains wh = _
    rw [List.contains_cons, List.contains_nil, Bool.or_false]
  rw [e] at hR
  have HR := Lib.hid hR
  clear hR
  go_enter Tryd.func17, Tryd.ntmps17
  go_wp2
  exact HR.out _ (Below.refl _ _)

set_option maxRecDepth 100000 in
theorem rmay_19 (wh : Int) (w : World) (R : Ending → World → Prop) (hR : ∀ w', Below w.heap.size w w' → R (.returned (.bool (mayL 19 wh))) w') :
    Calls Tryd.prog 17 #[.int .i64 19, .int .i64 wh] w R := by
  have e : mayL 19 wh = (wh == 2) := by
    show [(2 : Int)].contains wh = _
    rw [List.contains_cons, List.contains_nil, Bool.or_false]
  rw [e] at hR
  have HR := Lib.hid hR
  clear hR
  go_enter Tryd.func17, Tryd.ntmps17
  go_wp2
  exact HR.out _ (Below.refl _ _)

set_option maxRecDepth 100000 in
theorem rmay_21 (wh : Int) (w : World) (R : Ending → World → Prop) (hR : ∀ w', Below w.heap.size w w' → R (.returned (.bool (mayL 21 wh))) w') :
    Calls Tryd.prog 17 #[.int .i64 21, .int .i64 wh] w R := by
  obtain ⟨z, hz⟩ : ∃ z, mayL 21 wh = z := ⟨_, rfl⟩
  rw [hz] at hR
  have HZ : Hid ([(1 : Int), (2 : Int), (15 : Int)].contains wh = z) := Lib.hid hz
  clear hz
  have cat := among_lit [(1 : Int), (2 : Int), (15 : Int)] 3 rfl (by decide) #[Value.int .i64 1, Value.int .i64 2, Value.int .i64 15] rfl 3
  have HR := Lib.hid hR
  clear hR
  go_enter Tryd.func17, Tryd.ntmps17
  go_wp2_with (go_at_call 40; refine cat _ z HZ.out _ _ ?_ _ ?_; · simp)
  exact HR.out _ ((Below.refl _ _).alloc (Nat.le_refl _) _)

set_option maxRecDepth 100000 in
theorem rmay_22 (wh : Int) (w : World) (R : Ending → World → Prop) (hR : ∀ w', Below w.heap.size w w' → R (.returned (.bool (mayL 22 wh))) w') :
    Calls Tryd.prog 17 #[.int .i64 22, .int .i64 wh] w R := by
  obtain ⟨z, hz⟩ : ∃ z, mayL 22 wh = z := ⟨_, rfl⟩
  rw [hz] at hR
  have HZ : Hid ([(1 : Int), (2 : Int), (15 : Int)].contains wh = z) := Lib.hid hz
  clear hz
  have cat := among_lit [(1 : Int), (2 : Int), (15 : Int)] 3 rfl (by decide) #[Value.int .i64 1, Value.int .i64 2, Value.int .i64 15] rfl 3
  have HR := Lib.hid hR
  clear hR
  go_enter Tryd.func17, Tryd.ntmps17
  go_wp2_with (go_at_call 40; refine cat _ z HZ.out _ _ ?_ _ ?_; · simp)
  exact HR.out _ ((Below.refl _ _).alloc (Nat.le_refl _) _)

set_option maxRecDepth 100000 in
theorem rmay_23 (wh : Int) (w : World) (R : Ending → World → Prop) (hR : ∀ w', Below w.heap.size w w' → R (.returned (.bool (mayL 23 wh))) w') :
    Calls Tryd.prog 17 #[.int .i64 23, .int .i64 wh] w R := by
  have e : mayL 23 wh = (wh == 1) := by
    show [(1 : Int)].contains wh = _
    rw [List.contains_cons, List.contains_nil, Bool.or_false]
  rw [e] at hR
  have HR := Lib.hid hR
  clear hR
  go_enter Tryd.func17, Tryd.ntmps17
  go_wp2
  exact HR.out _ (Below.refl _ _)

set_option maxRecDepth 100000 in
theorem rmay_24 (wh : Int) (w : World) (R : Ending → World → Prop) (hR : ∀ w', Below w.heap.size w w' → R (.returned (.bool (mayL 24 wh))) w') :
    Calls Tryd.prog 17 #[.int .i64 24, .int .i64 wh] w R := by
  have e : mayL 24 wh = (wh == 16) := by
    show [(16 : Int)].contains wh = _
    rw [List.contains_cons, List.contains_nil, Bool.or_false]
  rw [e] at hR
  have HR := Lib.hid hR
  clear hR
  go_enter Tryd.func17, Tryd.ntmps17
  go_wp2
  exact HR.out _ (Below.refl _ _)

set_option maxRecDepth 100000 in
theorem rmay_25 (wh : Int) (w : World) (R : Ending → World → Prop) (hR : ∀ w', Below w.heap.size w w' → R (.returned (.bool (mayL 25 wh))) w') :
    Calls Tryd.prog 17 #[.int .i64 25, .int .i64 wh] w R := by
  have e : mayL 25 wh = (wh == 1) := by
    show [(1 : Int)].contains wh = _
    rw [List.contains_cons, List.contains_nil, Bool.or_false]
  rw [e] at hR
  have HR := Lib.hid hR
  clear hR
  go_enter Tryd.func17, Tryd.ntmps17
  go_wp2
  exact HR.out _ (Below.refl _ _)

set_option maxRecDepth 100000 in
theorem rmay_26 (wh : Int) (w : World) (R : Ending → World → Prop) (hR : ∀ w', Below w.heap.size w w' → R (.returned (.bool (mayL 26 wh))) w') :
    Calls Tryd.prog 17 #[.int .i64 26, .int .i64 wh] w R := by
  have e : mayL 26 wh = (wh == 2) := by
    show [(2 : Int)].contains wh = _
    rw [List.contains_cons, List.contains_nil, Bool.or_false]
  rw [e] at hR
  have HR := Lib.hid hR
  clear hR
  go_enter Tryd.func17, Tryd.ntmps17
  go_wp2
  exact HR.out _ (Below.refl _ _)

set_option maxRecDepth 100000 in
theorem rmay_28 (wh : Int) (w : World) (R : Ending → World → Prop) (hR : ∀ w', Below w.heap.size w w' → R (.returned (.bool (mayL 28 wh))) w') :
    Calls Tryd.prog 17 #[.int .i64 28, .int .i64 wh] w R := by
  obtain ⟨z, hz⟩ : ∃ z, mayL 28 wh = z := ⟨_, rfl⟩
  rw [hz] at hR
  have HZ : Hid ([(2 : Int), (14 : Int)].contains wh = z) := Lib.hid hz
  clear hz
  have cat := among_lit [(2 : Int), (14 : Int)] 2 rfl (by decide) #[Value.int .i64 2, Value.int .i64 14] rfl 3
  have HR := Lib.hid hR
  clear hR
  go_enter Tryd.func17, Tryd.ntmps17
  go_wp2_with (go_at_call 40; refine cat _ z HZ.out _ _ ?_ _ ?_; · simp)
  exact HR.out _ ((Below.refl _ _).alloc (Nat.le_refl _) _)

set_option maxRecDepth 100000 in
theorem rmay_31 (wh : Int) (w : World) (R : Ending → World → Prop) (hR : ∀ w', Below w.heap.size w w' → R (.returned (.bool (mayL 31 wh))) w') :
    Calls Tryd.prog 17 #[.int .i64 31, .int .i64 wh] w R := by
  obtain ⟨z, hz⟩ : ∃ z, mayL 31 wh = z := ⟨_, rfl⟩
  rw [hz] at hR
  have HZ : Hid ([(2 : Int), (4 : Int), (5 : Int), (6 : Int), (7 : Int), (9 : Int), (11 : Int), (14 : Int), (15 : Int)].contains wh = z) := Lib.hid hz
  clear hz
  have cat := among_lit [(2 : Int), (4 : Int), (5 : Int), (6 : Int), (7 : Int), (9 : Int), (11 : Int), (14 : Int), (15 : Int)] 9 rfl (by decide) #[Value.int .i64 2, Value.int .i64 4, Value.int .i64 5, Value.int .i64 6, Value.int .i64 7, Value.int .i64 9, Value.int .i64 11, Value.int .i64 14, Value.int .i64 15] rfl 3
  have HR := Lib.hid hR
  clear hR
  go_enter Tryd.func17, Tryd.ntmps17
  go_wp2_with (go_at_call 40; refine cat _ z HZ.out _ _ ?_ _ ?_; · simp)
  exact HR.out _ ((Below.refl _ _).alloc (Nat.le_refl _) _)

set_option maxRecDepth 100000 in
theorem rmay_33 (wh : Int) (w : World) (R : Ending → World → Prop) (hR : ∀ w', Below w.heap.size w w' → R (.returned (.bool (mayL 33 wh))) w') :
    Calls Tryd.prog 17 #[.int .i64 33, .int .i64 wh] w R := by
  obtain ⟨z, hz⟩ : ∃ z, mayL 33 wh = z := ⟨_, rfl⟩
  rw [hz] at hR
  have HZ : Hid ([(1 : Int), (2 : Int)].contains wh = z) := Lib.hid hz
  clear hz
  have cat := among_lit [(1 : Int), (2 : Int)] 2 rfl (by decide) #[Value.int .i64 1, Value.int .i64 2] rfl 3
  have HR := Lib.hid hR
  clear hR
  go_enter Tryd.func17, Tryd.ntmps17
  go_wp2_with (go_at_call 40; refine cat _ z HZ.out _ _ ?_ _ ?_; · simp)
  exact HR.out _ ((Below.refl _ _).alloc (Nat.le_refl _) _)

set_option maxRecDepth 100000 in
theorem rmay_34 (wh : Int) (w : World) (R : Ending → World → Prop) (hR : ∀ w', Below w.heap.size w w' → R (.returned (.bool (mayL 34 wh))) w') :
    Calls Tryd.prog 17 #[.int .i64 34, .int .i64 wh] w R := by
  obtain ⟨z, hz⟩ : ∃ z, mayL 34 wh = z := ⟨_, rfl⟩
  rw [hz] at hR
  have HZ : Hid ([(1 : Int), (2 : Int)].contains wh = z) := Lib.hid hz
  clear hz
  have cat := among_lit [(1 : Int), (2 : Int)] 2 rfl (by decide) #[Value.int .i64 1, Value.int .i64 2] rfl 3
  have HR := Lib.hid hR
  clear hR
  go_enter Tryd.func17, Tryd.ntmps17
  go_wp2_with (go_at_call 40; refine cat _ z HZ.out _ _ ?_ _ ?_; · simp)
  exact HR.out _ ((Below.refl _ _).alloc (Nat.le_refl _) _)

set_option maxRecDepth 100000 in
theorem rmay_35 (wh : Int) (w : World) (R : Ending → World → Prop) (hR : ∀ w', Below w.heap.size w w' → R (.returned (.bool (mayL 35 wh))) w') :
    Calls Tryd.prog 17 #[.int .i64 35, .int .i64 wh] w R := by
  have e : mayL 35 wh = (wh == 3) := by
    show [(3 : Int)].contains wh = _
    rw [List.contains_cons, List.contains_nil, Bool.or_false]
  rw [e] at hR
  have HR := Lib.hid hR
  clear hR
  go_enter Tryd.func17, Tryd.ntmps17
  go_wp2
  exact HR.out _ (Below.refl _ _)

set_option maxRecDepth 100000 in
theorem rmay_36 (wh : Int) (w : World) (R : Ending → World → Prop) (hR : ∀ w', Below w.heap.size w w' → R (.returned (.bool (mayL 36 wh))) w') :
    Calls Tryd.prog 17 #[.int .i64 36, .int .i64 wh] w R := by
  have e : mayL 36 wh = (wh == 2) := by
    show [(2 : Int)].contains wh = _
    rw [List.contains_cons, List.contains_nil, Bool.or_false]
  rw [e] at hR
  have HR := Lib.hid hR
  clear hR
  go_enter Tryd.func17, Tryd.ntmps17
  go_wp2
  exact HR.out _ (Below.refl _ _)

set_option maxRecDepth 100000 in
theorem rmay_37 (wh : Int) (w : World) (R : Ending → World → Prop) (hR : ∀ w', Below w.heap.size w w' → R (.returned (.bool (mayL 37 wh))) w') :
    Calls Tryd.prog 17 #[.int .i64 37, .int .i64 wh] w R := by
  have e : mayL 37 wh = (wh == 2) := by
    show [(2 : Int)].contains wh = _
    rw [List.contains_cons, List.contains_nil, Bool.or_false]
  rw [e] at hR
  have HR := Lib.hid hR
  clear hR
  go_enter Tryd.func17, Tryd.ntmps17
  go_wp2
  exact HR.out _ (Below.refl _ _)

set_option maxRecDepth 100000 in
theorem rmay_38 (wh : Int) (w : World) (R : Ending → World → Prop) (hR : ∀ w', Below w.heap.size w w' → R (.returned (.bool (mayL 38 wh))) w') :
    Calls Tryd.prog 17 #[.int .i64 38, .int .i64 wh] w R := by
  have e : mayL 38 wh = decide (1 ≤ wh ∧ wh ≤ 16 ∧ wh ≠ 12 ∧ wh ≠ 13) := by
    have : mayL 38 wh = true ↔ (1 ≤ wh ∧ wh ≤ 16 ∧ wh ≠ 12 ∧ wh ≠ 13) := by
      show [(1 : Int), 2, 3, 4, 5, 6, 7, 8, 9, 10, 11, 14, 15, 16].contains wh = true ↔ _
      simp only [List.contains_cons, List.contains_nil, Bool.or_false, Bool.or_eq_true, beq_iff_eq]
      omega
    cases h : mayL 38 wh with
    | true => exact (decide_eq_true (this.1 h)).symm
    | false => exact (decide_eq_false fun hc => by rw [this.2 hc] at h; cases h).symm
  rw [e] at hR
  clear e
  by_cases h1 : 1 ≤ wh
  · by_cases h2 : wh ≤ 16
    · by_cases h3 : wh = 12
      · subst h3
        have HR := Lib.hid hR
        clear hR
        go_enter Tryd.func17, Tryd.ntmps17
        go_wp2
        exact HR.out _ (Below.refl _ _)
      · by_cases h4 : wh = 13
        · subst h4
          clear h3
          have HR := Lib.hid hR
          clear hR
          go_enter Tryd.func17, Tryd.ntmps17
          go_wp2
          exact HR.out _ (Below.refl _ _)
        · have e : decide (1 ≤ wh ∧ wh ≤ 16 ∧ wh ≠ 12 ∧ wh ≠ 13) = true := decide_eq_true ⟨h1, h2, h3, h4⟩
          rw [e] at hR
          have b4 := Lib.hid (show (wh != 13) = true by simp [h4])
          have b3 := Lib.hid (show (wh != 12) = true by simp [h3])
          clear e
          have HR := Lib.hid hR
          clear hR
          go_enter Tryd.func17, Tryd.ntmps17
          go_wp2
          have h9 := HR.out _ (Below.refl _ _)
          rw [show true = (wh != 12 && wh != 13) by simp [h3, h4]] at h9
          exact h9
    · have e : decide (1 ≤ wh ∧ wh ≤ 16 ∧ wh ≠ 12 ∧ wh ≠ 13) = false := decide_eq_false fun hc => h2 hc.2.1
      rw [e] at hR
      clear e
      have HR := Lib.hid hR
      clear hR
      go_enter Tryd.func17, Tryd.ntmps17
      go_wp2
      exact HR.out _ (Below.refl _ _)
  · have e : decide (1 ≤ wh ∧ wh ≤ 16 ∧ wh ≠ 12 ∧ wh ≠ 13) = false := decide_eq_false fun hc => h1 hc.1
    rw [e] at hR
    clear e
    have HR := Lib.hid hR
    clear hR
    go_enter Tryd.func17, Tryd.ntmps17
    go_wp2
    exact HR.out _ (Below.refl _ _)

set_option maxRecDepth 100000 in
theorem rmay_39 (wh : Int) (w : World) (R : Ending → World → Prop) (hR : ∀ w', Below w.heap.size w w' → R (.returned (.bool (mayL 39 wh))) w') :
    Calls Tryd.prog 17 #[.int .i64 39, .int .i64 wh] w R := by
  obtain ⟨z, hz⟩ : ∃ z, mayL 39 wh = z := ⟨_, rfl⟩
  rw [hz] at hR
  have HZ : Hid ([(1 : Int), (2 : Int)].contains wh = z) := Lib.hid hz
  clear hz
  have cat := among_lit [(1 : Int), (2 : Int)] 2 rfl (by decide) #[Value.int .i64 1, Value.int .i64 2] rfl 3
  have HR := Lib.hid hR
  clear hR
  go_enter Tryd.func17, Tryd.ntmps17
  go_wp2_with (go_at_call 40; refine cat _ z HZ.out _ _ ?_ _ ?_; · simp)
  exact HR.out _ ((Below.refl _ _).alloc (Nat.le_refl _) _)

set_option maxRecDepth 100000 in
theorem rmay_40 (wh : Int) (w : World) (R : Ending → World → Prop) (hR : ∀ w', Below w.heap.size w w' → R (.returned (.bool (mayL 40 wh))) w') :
    Calls Tryd.prog 17 #[.int .i64 40, .int .i64 wh] w R := by
  have e : mayL 40 wh = (wh == 2) := by
    show [(2 : Int)].contains wh = _
    rw [List.contains_cons, List.contains_nil, Bool.or_false]
  rw [e] at hR
  have HR := Lib.hid hR
  clear hR
  go_enter Tryd.func17, Tryd.ntmps17
  go_wp2
  exact HR.out _ (Below.refl _ _)

set_option maxRecDepth 100000 in
theorem rmay_41 (wh : Int) (w : World) (R : Ending → World → Prop) (hR : ∀ w', Below w.heap.size w w' → R (.returned (.bool (mayL 41 wh))) w') :
    Calls Tryd.prog 17 #[.int .i64 41, .int .i64 wh] w R := by
  have e : mayL 41 wh = (wh == 2) := by
    show [(2 : Int)].contains wh = _
    rw [List.contains_cons, List.contains_nil, Bool.or_false]
  rw [e] at hR
  have HR := Lib.hid hR
  clear hR
  go_enter Tryd.func17, Tryd.ntmps17
  go_wp2
  exact HR.out _ (Below.refl _ _)

set_option maxRecDepth 100000 in
theorem rmay_42 (wh : Int) (w : World) (R : Ending → World → Prop) (hR : ∀ w', Below w.heap.size w w' → R (.returned (.bool (mayL 42 wh))) w') :
    Calls Tryd.prog 17 #[.int .i64 42, .int .i64 wh] w R := by
  have e : mayL 42 wh = (wh == 2) := by
    show [(2 : Int)].contains wh = _
    rw [List.contains_cons, List.contains_nil, Bool.or_false]
  rw [e] at hR
  have HR := Lib.hid hR
  clear hR
  go_enter Tryd.func17, Tryd.ntmps17
  go_wp2
  exact HR.out _ (Below.refl _ _)

set_option maxRecDepth 100000 in
theorem rmay_any (id wh : Int) (w : World) (R : Ending → World → Prop) (hR : ∀ w', Below w.heap.size w w' → R (.returned (.bool (mayL id wh))) w') :
    Calls Tryd.prog 17 #[.int .i64 id, .int .i64 wh] w R := by
  by_cases h1 : id = 1
  · subst h1
    exact rmay_1 wh w R hR
  by_cases h2 : id = 2
  · subst h2
    exact rmay_2 wh w R hR
  by_cases h3 : id = 3
  · subst h3
    exact rmay_3 wh w R hR
  by_cases h8 : id = 8
  · subst h8
    exact rmay_8 wh w R hR
  by_cases h9 : id = 9
  · subst h9
    exact rmay_9 wh w R hR
  by_cases h11 : id = 11
  · subst h11
    exact rmay_11 wh w R hR
  by_cases h17 : id = 17
  · subst h17
    exact rmay_17 wh w R hR
  by_cases h18 : id = 18
  · subst h18
    exact rmay_18 wh w R hR
  by_cases h19 : id = 19
  · subst h19
    exact rmay_19 wh w R hR
  by_cases h21 : id = 21
  · subst h21
    exact rmay_21 wh w R hR
  by_cases h22 : id = 22
  · subst h22
    exact rmay_22 wh w R hR
  by_cases h23 : id = 23
  · subst h23
    exact rmay_23 wh w R hR
  by_cases h24 : id = 24
  · subst h24
    exact rmay_24 wh w R hR
  by_cases h25 : id = 25
  · subst h25
    exact rmay_25 wh w R hR
  by_cases h26 : id = 26
  · subst h26
    exact rmay_26 wh w R hR
  by_cases h28 : id = 28
  · subst h28
    exact rmay_28 wh w R hR
  by_cases h31 : id = 31
  · subst h31
    exact rmay_31 wh w R hR
  by_cases h33 : id = 33
  · subst h33
    exact rmay_33 wh w R hR
  by_cases h34 : id = 34
  · subst h34
    exact rmay_34 wh w R hR
  by_cases h35 : id = 35
  · subst h35
    exact rmay_35 wh w R hR
  by_cases h36 : id = 36
  · subst h36
    exact rmay_36 wh w R hR
  by_cases h37 : id = 37
  · subst h37
    exact rmay_37 wh w R hR
  by_cases h38 : id = 38
  · subst h38
    exact rmay_38 wh w R hR
  by_cases h39 : id = 39
  · subst h39
    exact rmay_39 wh w R hR
  by_cases h40 : id = 40
  · subst h40
    exact rmay_40 wh w R hR
  by_cases h41 : id = 41
  · subst h41
    exact rmay_41 wh w R hR
  by_cases h42 : id = 42
  · subst h42
    exact rmay_42 wh w R hR
  have e1 : clsL id = 0 := by unfold clsL; simp only [h1, h2, h3, h8, h9, h11, h17, h18, h19, h21, h22, h23, h24, h25, h26, h28, h31, h33, h34, h35, h36, h37, h38, h39, h40, h41, h42, or_self, if_false]
  have e : mayL id wh = false := by unfold mayL; rw [e1]; rfl
  rw [e] at hR
  clear e e1
  have HR := Lib.hid hR
  clear hR
  go_enter Tryd.func17, Tryd.ntmps17
  go_wp2
  exact HR.out _ (Below.refl _ _)
end Go.Proofs.YtpodhidabhnnnaaDoor
