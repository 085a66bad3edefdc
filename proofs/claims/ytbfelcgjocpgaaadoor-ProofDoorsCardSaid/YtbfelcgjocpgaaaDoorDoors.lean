
import Derived.Test.YtbfelcgjocpgaaaDoorProofOne
import Derived.Deep.WholeRow
namespace Go.Proofs.YtbfelcgjocpgaaaDoor
open Go.RowKit

theorem enterL_name (op : Bool) (S N : List UInt8) (hp : Bool) (W : List UInt8) : enterL op [([117], S)] true N hp W = if ([117] == N) && (hp && (S == W)) then 0 else 134 := by
  unfold enterL lookU
  simp only [List.find?_cons, List.find?_nil, if_true]
  cases h : (([117] : List UInt8) == N) <;> simp
theorem enterL_none (op : Bool) (us : List (List UInt8 × List UInt8)) : enterL op us false [] false [] = if op then 0 else 135 := rfl
theorem enterL_pass (op : Bool) (us : List (List UInt8 × List UInt8)) (W : List UInt8) : enterL op us false [] true W = 134 := rfl

theorem wpList_built {P : Program} {ops : Array Oper} {rest : List Oper} {o : Oper} {a : Act} {w : World} {Q : Exit → Act → World → Prop} (hg : o.guard = none) (t : TypeId) (parts : List (Nat × Operand)) (ho : o.op = .build t parts.toArray)
    (vals : List (Nat × Value)) (hv : (parts.map fun x => (x.1, a.eval x.2)) = vals) (cells : Array Value) (hc : P.built t vals = some cells)
    (h : wpList P ops Q rest (a.put o.dst (.agg cells)) w) : wpList P ops Q (o :: rest) a w := by
  subst hv
  have hp : (parts.toArray.map fun (i, x) => (i, a.eval x)).toList = parts.map fun x => (x.1, a.eval x.2) := by simp
  exact wpList_build hg t parts.toArray ho (by rw [hp, hc]; rfl) (by rw [hp, hc]; exact h)
theorem built_pkt (u : ByteArray) (h : Bool) (ad : Option Addr) (n c : Nat) : Tryd.prog.built 34 [(17, .bool true), (18, .string u), (19, .bool h), (20, .slice ad n c)] = some #[Value.int .i64 0, Value.bool false, Value.int .i64 0, Value.bool false, Value.int .i64 0, Value.string ⟨#[]⟩, Value.slice none 0 0, Value.int .i64 0, Value.slice none 0 0, Value.slice none 0 0, Value.slice none 0 0, Value.slice none 0 0, Value.bool false, Value.int .i64 0, Value.string ⟨#[]⟩, Value.bool false, Value.string ⟨#[]⟩, Value.slice none 0 0, Value.int .i64 0, Value.bool false, Value.slice none 0 0, Value.bool true, Value.string u, Value.bool h, (.slice ad n c), Value.bool false] := by kernel_rfl
theorem built_pkt0 : Tryd.prog.built 34 [] = some #[Value.int .i64 0, Value.bool false, Value.int .i64 0, Value.bool false, Value.int .i64 0, Value.string ⟨#[]⟩, Value.slice none 0 0, Value.int .i64 0, Value.slice none 0 0, Value.slice none 0 0, Value.slice none 0 0, Value.slice none 0 0, Value.bool false, Value.int .i64 0, Value.string ⟨#[]⟩, Value.bool false, Value.string ⟨#[]⟩, Value.slice none 0 0, Value.int .i64 0, Value.bool false, Value.slice none 0 0, Value.bool false, Value.string ⟨#[]⟩, Value.bool false, (.slice none 0 0), Value.bool false] := by kernel_rfl
theorem built_pkt1 (ad : Option Addr) (n c : Nat) : Tryd.prog.built 34 [(19, .bool true), (20, .slice ad n c)] = some #[Value.int .i64 0, Value.bool false, Value.int .i64 0, Value.bool false, Value.int .i64 0, Value.string ⟨#[]⟩, Value.slice none 0 0, Value.int .i64 0, Value.slice none 0 0, Value.slice none 0 0, Value.slice none 0 0, Value.slice none 0 0, Value.bool false, Value.int .i64 0, Value.string ⟨#[]⟩, Value.bool false, Value.string ⟨#[]⟩, Value.slice none 0 0, Value.int .i64 0, Value.bool false, Value.slice none 0 0, Value.bool false, Value.string ⟨#[]⟩, Value.bool true, (.slice ad n c), Value.bool false] := by kernel_rfl
theorem below_at {n : Nat} {w w' : World} (h : Below n w w') (e : n = w.heap.size) : Below w.heap.size w w' := e ▸ h
theorem bs_nil (w : World) : Bs w (.slice none 0 0) [] := ⟨none, 0, rfl, Rd.nil _ _ _, Nat.le_refl _, by omega, fun _ => rfl⟩

set_option maxRecDepth 100000 in
set_option maxHeartbeats 8000000 in
theorem doors_law (v u : Value) (op hp : Bool) (s P N : List UInt8) (w : World) (hv : Bs w v s) (hu : Bs w u P) (hT : Tabs w) (R : Ending → World → Prop)
    (hR : ∀ w', Below w.heap.size w w' → R (.returned (.bool true)) w') :
    Calls Tryd.prog 5 #[v, u, .bool op, .bool hp, .string (str N)] w R := by
  obtain ⟨S0, hS0⟩ : ∃ S, s.take (32 : Int).toNat = S := ⟨_, rfl⟩
  have hS0l : S0.length ≤ 32 := by rw [← hS0, List.length_take]; show min 32 _ ≤ 32; omega
  have HS0 := Lib.hid hS0
  clear hS0
  obtain ⟨nb, hnb⟩ : ∃ t, (N == [117]) = t := ⟨_, rfl⟩
  have hnb2 : ([117] == N) = nb := by rw [← hnb]; exact Bool.beq_comm
  have HNB2 := Lib.hid hnb2
  clear hnb2
  have hu' := hu
  obtain ⟨pa, pc, rfl, _, _, _, _⟩ := hu'
  go_enter Tryd.func5, Tryd.ntmps5
  go_wp2_with (go_at_call 7; fail)
  refine cut_any _ s S0 32 HS0.out _ hv (by omega) _ ?_
  intro ad0 c0 hb0
  clear hv
  obtain ⟨S, hS, hSl⟩ : ∃ S : List UInt8, S = (if S0.length = 0 then [1] else S0) ∧ S.length ≤ 32 := ⟨_, rfl, by split <;> first | simp | omega⟩
  by_cases h0 : S0.length = 0
  all_goals
    first | (rw [if_pos h0] at hS) | (rw [if_neg h0] at hS)
    have h00 : ((S0.length : Int) == 0) = decide (S0.length = 0) := by rw [Bool.eq_iff_iff]; simp; try omega
    try rw [decide_eq_true h0] at h00
    try rw [decide_eq_false h0] at h00
    go_wp2_with (go_at_call 22; fail)
    first
      | (have hxw := (Below.refl w.heap.size w).alloc (Nat.le_refl _) (Obj.cells #[Value.int .u8 1] 5)
         have hzs : Bs (w.alloc (Obj.cells #[Value.int .u8 1] 5)) (.slice (some ⟨w.heap.size, 0, none⟩) 1 1) S := by rw [hS]; exact bs_lit #[.int .u8 1] [1] rfl (by simp)
         clear hS
         refine config_any _ S _ hzs _ ?_
         intro cu w1 hU1 hy1
         have hx1 := below_then hxw hy1 (by simp)
         have hs1 := hzs.below hy1
         have hq1 := hu.below hx1
         clear hxw hy1 hzs)
      | (subst hS
         refine config_any _ S _ hb0 _ ?_
         intro cu w1 hU1 hx1
         have hs1 := hb0.below hx1
         have hq1 := hu.below hx1)
    clear hb0 hu
    have hz1 := hx1.size
    have hU1' := hU1
    obtain ⟨ua, uc, rfl, _, _, _, r9⟩ := hU1'
    clear r9
    obtain ⟨us, hus⟩ : ∃ us : List (List UInt8 × List UInt8), us = [([117], S)] := ⟨_, rfl⟩
    have hl : ∀ u ∈ us, u.2.length ≤ 140737488355328 := by rw [hus]; intro u hu; simp at hu; rw [hu]; show S.length ≤ _; omega
    obtain ⟨t, ht⟩ : ∃ t, (S == P) = t := ⟨_, rfl⟩
    obtain ⟨vd, hvd⟩ : ∃ x, (nb && (hp && t)) = x := ⟨_, rfl⟩
    obtain ⟨e1, he1⟩ : ∃ x, enterL op us true N hp P = x := ⟨_, rfl⟩
    have ka : Hid ((e1 == 0) = vd) := by
      rw [← he1, hus, enterL_name, HNB2.out, ht, hvd]
      cases vd <;> simp [Hid]
    obtain ⟨e2, he2⟩ : ∃ x, enterL op us false [] false [] = x := ⟨_, rfl⟩
    have kb : Hid ((e2 == 0) = op ∧ (op = false → (e2 == 135) = true)) := by
      rw [← he2, enterL_none]
      cases op <;> simp [Hid]
    have hU1b : Us w1 (.slice ua 1 uc) us := by rw [hus]; exact hU1
    have HE1 := Lib.hid he1
    have HE2 := Lib.hid he2
    have HVD := Lib.hid hvd
    have HT' := Lib.hid ht
    clear hus he1 he2 hvd ht hU1
    have hyc := ((Below.refl w1.heap.size w1).alloc (Nat.le_refl _) (Obj.cells #[Value.int .i64 1, Value.bool op, Value.slice ua 1 uc] 24)).alloc (by simp) (Obj.cells #[Value.int .i64 0, Value.bool false, Value.int .i64 0, Value.bool false, Value.int .i64 0, Value.string ⟨#[]⟩, Value.slice none 0 0, Value.int .i64 0, Value.slice none 0 0, Value.slice none 0 0, Value.slice none 0 0, Value.slice none 0 0, Value.bool false, Value.int .i64 0, Value.string ⟨#[]⟩, Value.bool false, Value.string ⟨#[]⟩, Value.slice none 0 0, Value.int .i64 0, Value.bool false, Value.slice none 0 0, Value.bool true, Value.string (str N), Value.bool hp, (.slice pa P.length pc), Value.bool false] 34)
    have hn : ((w1.alloc (Obj.cells #[Value.int .i64 1, Value.bool op, Value.slice ua 1 uc] 24)).alloc (Obj.cells #[Value.int .i64 0, Value.bool false, Value.int .i64 0, Value.bool false, Value.int .i64 0, Value.string ⟨#[]⟩, Value.slice none 0 0, Value.int .i64 0, Value.slice none 0 0, Value.slice none 0 0, Value.slice none 0 0, Value.slice none 0 0, Value.bool false, Value.int .i64 0, Value.string ⟨#[]⟩, Value.bool false, Value.string ⟨#[]⟩, Value.slice none 0 0, Value.int .i64 0, Value.bool false, Value.slice none 0 0, Value.bool true, Value.string (str N), Value.bool hp, (.slice pa P.length pc), Value.bool false] 34)).heap[w1.heap.size]? = some (Obj.cells #[Value.int .i64 1, Value.bool op, Value.slice ua 1 uc] 24) := block_alloc (heap_alloc_new w1 _)
    have d2 := cell_of_row _ w1.heap.size 0 _ _ _ hn
    have e2' := cell_of_row _ w1.heap.size 1 _ _ _ hn
    have f2 := cell_of_row _ w1.heap.size 2 _ _ _ hn
    change _ = some (Value.int .i64 1) at d2
    change _ = some (Value.bool op) at e2'
    change _ = some (Value.slice ua 1 uc) at f2
    have hpk := heap_alloc_new (w1.alloc (Obj.cells #[Value.int .i64 1, Value.bool op, Value.slice ua 1 uc] 24)) (Obj.cells #[Value.int .i64 0, Value.bool false, Value.int .i64 0, Value.bool false, Value.int .i64 0, Value.string ⟨#[]⟩, Value.slice none 0 0, Value.int .i64 0, Value.slice none 0 0, Value.slice none 0 0, Value.slice none 0 0, Value.slice none 0 0, Value.bool false, Value.int .i64 0, Value.string ⟨#[]⟩, Value.bool false, Value.string ⟨#[]⟩, Value.slice none 0 0, Value.int .i64 0, Value.bool false, Value.slice none 0 0, Value.bool true, Value.string (str N), Value.bool hp, (.slice pa P.length pc), Value.bool false] 34)
    rw [show (w1.alloc (Obj.cells #[Value.int .i64 1, Value.bool op, Value.slice ua 1 uc] 24)).heap.size = w1.heap.size + 1 by simp] at hpk
    have HPK := Lib.hid hpk
    have hzr := heap_alloc_new (w1.alloc (Obj.cells #[Value.int .i64 1, Value.bool op, Value.slice ua 1 uc] 24)) (Obj.cells #[Value.int .i64 0, Value.bool false, Value.int .i64 0, Value.bool false, Value.int .i64 0, Value.string ⟨#[]⟩, Value.slice none 0 0, Value.int .i64 0, Value.slice none 0 0, Value.slice none 0 0, Value.slice none 0 0, Value.slice none 0 0, Value.bool false, Value.int .i64 0, Value.string ⟨#[]⟩, Value.bool false, Value.string ⟨#[]⟩, Value.slice none 0 0, Value.int .i64 0, Value.bool false, Value.slice none 0 0, Value.bool false, Value.string ⟨#[]⟩, Value.bool false, (.slice none 0 0), Value.bool false] 34)
    have hsr := World.setRow_alloc_new (w1.alloc (Obj.cells #[Value.int .i64 1, Value.bool op, Value.slice ua 1 uc] 24)) #[Value.int .i64 0, Value.bool false, Value.int .i64 0, Value.bool false, Value.int .i64 0, Value.string ⟨#[]⟩, Value.slice none 0 0, Value.int .i64 0, Value.slice none 0 0, Value.slice none 0 0, Value.slice none 0 0, Value.slice none 0 0, Value.bool false, Value.int .i64 0, Value.string ⟨#[]⟩, Value.bool false, Value.string ⟨#[]⟩, Value.slice none 0 0, Value.int .i64 0, Value.bool false, Value.slice none 0 0, Value.bool false, Value.string ⟨#[]⟩, Value.bool false, (.slice none 0 0), Value.bool false] #[Value.int .i64 0, Value.bool false, Value.int .i64 0, Value.bool false, Value.int .i64 0, Value.string ⟨#[]⟩, Value.slice none 0 0, Value.int .i64 0, Value.slice none 0 0, Value.slice none 0 0, Value.slice none 0 0, Value.slice none 0 0, Value.bool false, Value.int .i64 0, Value.string ⟨#[]⟩, Value.bool false, Value.string ⟨#[]⟩, Value.slice none 0 0, Value.int .i64 0, Value.bool false, Value.slice none 0 0, Value.bool true, Value.string (str N), Value.bool hp, (.slice pa P.length pc), Value.bool false] 34
    rw [show (w1.alloc (Obj.cells #[Value.int .i64 1, Value.bool op, Value.slice ua 1 uc] 24)).heap.size = w1.heap.size + 1 by simp] at hzr hsr
    have HZ := Lib.hid hzr
    have HSR := Lib.hid hsr
    clear hzr hsr
    clear hpk
    have D2 := Lib.hid d2
    have E2 := Lib.hid e2'
    have F2 := Lib.hid f2
    have hs2 := hs1.below hyc
    have hq2 := hq1.below hyc
    have hU2 := hU1b.below hyc
    have hx2 := below_then hx1 hyc hz1
    have hz2 := hyc.size
    clear hn d2 e2' f2
    cases nb
    case' true => cases hp
    all_goals
      have HV := HVD.out
      simp only [Bool.false_and, Bool.true_and] at HV
      obtain rfl := HV
      go_wp2_with (first
        | (refine wpList_built (by rfl) 34 [(17, .const (.bool true)), (18, .tmp 26), (19, .tmp 27), (20, .tmp 28)] (by rfl) _ (by rfl) _ (built_pkt (str N) _ pa P.length pc) ?_)
        | (refine wpList_store_row (o := ⟨none, .store 34 (.tmp 12) (.tmp 29), _, _, _, _⟩) (by rfl) 34 (.tmp 12) (.tmp 29) (by rfl) (w1.heap.size + 1) _ (by rfl) (by rfl) 34 #[Value.int .i64 0, Value.bool false, Value.int .i64 0, Value.bool false, Value.int .i64 0, Value.string ⟨#[]⟩, Value.slice none 0 0, Value.int .i64 0, Value.slice none 0 0, Value.slice none 0 0, Value.slice none 0 0, Value.slice none 0 0, Value.bool false, Value.int .i64 0, Value.string ⟨#[]⟩, Value.bool false, Value.string ⟨#[]⟩, Value.slice none 0 0, Value.int .i64 0, Value.bool false, Value.slice none 0 0, Value.bool false, Value.string ⟨#[]⟩, Value.bool false, (.slice none 0 0), Value.bool false] (HZ.out) (by kernel_rfl) (by rfl) (by simp [Value.oneCell']) ?_; rw [HSR.out])
        | (refine wpList_load_row (by rfl) 34 (.tmp 12) (by rfl) _ (by rfl) _ _ _ _ HPK.out Tryd.underlying34 rfl (by kernel_rfl) ?_)
        | (go_at_call 12; go_must (refine same_any _ _ S P _ hs2 hq2 _ ?_); rw [HT'.out])
        | (go_at_call 13; go_must (refine enter_any .i64 1 op (.slice ua 1 uc) us hl _ _ _ _ _ _ _ _ _ _ _ _ _ _ _ _ _ _ _ _ _ true _ N P _ false e1 HE1.out _ hU2 hq2 _ ?_)))
      intro w3 hy3s
      have hy3 := below_at hy3s (by simp)
      have d3 := cell_later hy3 D2.out
      have e3 := cell_later hy3 E2.out
      have f3 := cell_later hy3 F2.out
      have hU3 := hU2.below hy3
      have hs3 := hs2.below hy3
      have hx3 := below_then hx2 hy3 (by simp; omega)
      have hz3 := hx3.size
      clear hU2 hs2 hq2 hy3 hy3s hx2 hyc D2 E2 F2 hU1b hs1 hq1 hz2
      have K1 := ka.out
      go_wp2_with (first | (refine wpList_built (o := ⟨some 47, .build 34 _, _, _, _, _⟩) (by rfl) 34 [] (by rfl) _ (by rfl) _ built_pkt0 ?_) | (go_at_call 13; go_must (refine enter_any .i64 1 op (.slice ua 1 uc) us hl _ _ _ _ _ _ _ _ _ _ _ _ _ _ _ _ _ _ _ _ _ false false [] [] _ false e2 HE2.out _ hU3 (bs_nil _) _ ?_)))
      intro w4 hy4
      have d4 := cell_later hy4 d3
      have e4 := cell_later hy4 e3
      have f4 := cell_later hy4 f3
      have hU4 := hU3.below hy4
      have hs4 := hs3.below hy4
      have hx4 := below_then hx3 hy4 hz3
      have hz4 := hx4.size
      clear hU3 hs3 hx3 hy4 d3 e3 f3 K1
      go_wp2_with (first | (refine wpList_built (o := ⟨some 51, .build 34 _, _, _, _, _⟩) (by rfl) 34 [(19, .const (.bool true)), (20, .tmp 50)] (by rfl) _ (by rfl) _ (built_pkt1 _ _ _) ?_) | (go_at_call 13; go_must (refine enter_any .i64 1 op (.slice ua 1 uc) us hl _ _ _ _ _ _ _ _ _ _ _ _ _ _ _ _ _ _ _ _ _ false true [] S _ false 134 rfl _ hU4 hs4 _ ?_)))
      intro w5 hy5
      have hx5 := below_then hx4 hy5 hz4
      have hT5 := hT.below hx5
      have hz5 := hx5.size
      obtain ⟨K2, K3⟩ := kb.out
      clear hU4 hs4 hx4 hy5 d4 e4 f4
      cases op with
      | true =>
        clear K3
        go_wp2_with (go_at_call 21; go_must (refine wakes_any _ hT5 _ ?_))
        intro w6 hy6
        have hx6 := below_then hx5 hy6 hz5
        clear hx5 hy6 hT5
        go_wp2
        all_goals first | exact hx6 | exact hR _ hx6
      | false =>
        have K4 := K3 rfl
        clear K3
        go_wp2_with (go_at_call 21; go_must (refine wakes_any _ hT5 _ ?_))
        intro w6 hy6
        have hx6 := below_then hx5 hy6 hz5
        clear hx5 hy6 hT5
        go_wp2
        all_goals first | exact hx6 | exact hR _ hx6
end Go.Proofs.YtbfelcgjocpgaaaDoor
