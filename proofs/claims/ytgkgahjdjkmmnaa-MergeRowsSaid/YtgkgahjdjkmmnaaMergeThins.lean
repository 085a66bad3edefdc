/- The law MergeThins, walked. -/
import Derived.Test.YtgkgahjdjkmmnaaRThin
namespace Go.Proofs.Ytgkgahjdjkmmnaa
open Go.RowKit

theorem sameE_refl (a : Ent) : sameE a a = true := by simp [sameE]
theorem alikeL_refl : ∀ l : List Ent, alikeL l l = true
  | [] => rfl
  | a :: l => by rw [alikeL, sameE_refl, alikeL_refl l]; rfl
theorem keptG_mem {g : List Ent} {b : Bool} {ss : List Int} {e : Ent} (h : e ∈ keptG g b ss) : e ∈ g := by
  unfold keptG at h
  split at h
  · unfold dropDead at h
    rw [List.mem_reverse] at h
    have := (List.dropWhile_sublist _).mem h
    rw [List.mem_reverse] at this
    exact pickK_mem this
  · exact pickK_mem h
theorem thinF_mem {b : Bool} {ss : List Int} {e : Ent} : ∀ (n : Nat) (l out : List Ent), e ∈ thinF b ss n l out → e ∈ out ∨ e ∈ l
  | 0, l, out, h => .inl h
  | n + 1, l, out, h => by
    unfold thinF at h
    split at h
    · exact .inl h
    · rcases thinF_mem n _ _ h with h | h
      · rcases List.mem_append.1 h with h | h
        · exact .inl h
        · exact .inr (List.mem_of_mem_take (keptG_mem h))
      · exact .inr (List.mem_of_mem_drop h)
theorem thinL_eb {l out : List Ent} {b : Bool} {ss : List Int} {z : Int} (hl : ∀ e ∈ l, EB e) (h : thinL l b ss = (out, z)) : ∀ e ∈ out, EB e := by
  intro e he
  unfold thinL at h
  split at h
  · simp only [Prod.mk.injEq] at h
    rw [← h.1] at he
    rcases thinF_mem _ _ _ he with h | h
    · cases h
    · exact hl e h
  · simp only [Prod.mk.injEq] at h
    rw [← h.1] at he
    cases he
theorem rowL_eb {l : List Ent} (h : ∀ e ∈ l, EB e) : ∀ x ∈ rowL l, EB x := by
  intro x hx
  have : rowL l = rowK l 60 := rfl
  rw [this] at hx
  exact rowK_eb h 60 x hx
theorem rowL_len (l : List Ent) : (rowL l).length ≤ 60 := rowK_len l 60
theorem Is.take {w : World} {a : Option Addr} {n c j : Nat} {l : List Int} (h : Is w (.slice a n c) l) (hj : j ≤ l.length) : Is w (.slice a j c) (l.take j) := by
  obtain ⟨ad, c', e, h1, h2, h3, h4⟩ := h
  simp only [Value.slice.injEq] at e
  obtain ⟨rfl, rfl, rfl⟩ := e
  have hl : (l.take j).length = j := by rw [List.length_take]; omega
  refine ⟨a, c, by rw [hl], ?_, by omega, h3, h4⟩
  rw [hl]
  have := rd_take h1 hj
  rwa [← List.map_take] at this

set_option maxRecDepth 100000 in
set_option maxHeartbeats 8000000 in
theorem thins_law (v u : Value) (l : List Ent) (order bt : Bool) (ss : List Int) (w : World) (hv : Es w v l) (hu : Is w u ss) (R : Ending → World → Prop)
    (hR : ∀ w', Below w.heap.size w w' → R (.returned (.bool true)) w') :
    Calls Try.prog 4 #[v, .bool order, .bool bt, u] w R := by
  have HR := Lib.hid hR
  clear hR
  have hv' := hv
  have hu' := hu
  obtain ⟨va, vc, rfl, hv1, _⟩ := hv'
  obtain ⟨ua, uc, rfl, _, hu1, _⟩ := hu'
  have hb0 := Below.refl w.heap.size w
  cases order with
  | true =>
    go_enter Try.func4, Try.ntmps4
    go_wp2_with (go_at_call 16; go_must (refine row_any _ l _ rfl _ hv _ ?_))
    intro L1 w1 ho1 hb1
    obtain ⟨l1, hl1⟩ : ∃ l1, rowL l = l1 := ⟨_, rfl⟩
    have he1 := ho1.es (rowL_eb hv.eb)
    have hlen1 := rowL_len l
    rw [hl1] at he1 hlen1
    obtain ⟨la, lc, hLs⟩ := EsO.shape ho1
    rw [hl1] at hLs
    subst hLs
    have hu1' := hu.below hb1
    clear ho1 hl1
    have hno : ¬ (60 : Int) < (l1.length : Int) := by omega
    by_cases hs : 10 < ss.length
    · have hsi : (10 : Int) < (ss.length : Int) := by omega
      have hu2 := hu1'.take (j := 10) (by omega)
      have hsc : 10 ≤ uc := by omega
      obtain ⟨out, z, hout⟩ : ∃ out z, thinL (l1) bt ((ss.take 10)) = (out, z) := ⟨_, _, rfl⟩
      have HOUT := Lib.hid hout
      have hlen : (l1).length ≤ 100000 := (by omega)
      clear hout
      go_wp2_with (go_at_call 17; go_must (refine thin_any _ _ (l1) bt ((ss.take 10)) out z HOUT.out _ he1 hu2 hlen _ ?_))
      intro L2 w2 ho2 hb2
      have hv2 := (he1).below hb2
      have hu2 := (hu2).below hb2
      have hx2 := below_then hb1 hb2 (hb1).size
      have heb2 := thinL_eb (he1).eb HOUT.out
      have HE2 := Lib.hid (ho2.es heb2)
      clear ho2 heb2
      go_wp2_with (go_at_call 18; go_must (refine rthin_any _ _ (l1) bt ((ss.take 10)) out z HOUT.out _ hv2 hu2 hlen _ ?_))
      intro L3 w3 he3 hb3
      have HE4 := Lib.hid (HE2.out.below hb3)
      have hx3 := below_then hx2 hb3 hx2.size
      have HE3 := Lib.hid he3
      clear he3 hv2 hu2
      obtain ⟨l2a, l2c, rfl, _⟩ := HE2.out
      obtain ⟨l3a, l3c, rfl, _⟩ := HE3.out
      have hzz : (z == z) = true := by simp
      go_wp2_with (first
        | (go_at_call 13; go_in)
        | (go_at_call 14; refine alike_any _ _ out out true (alikeL_refl out) _ HE4.out HE3.out _ ?_; intro w4 hb4; have hx4 := below_then hx3 hb4 hx3.size)
        | (go_at_call 15; refine wakes_any _ _ ?_; intro w5 hb5; have hx5 := below_then hx4 hb5 hx4.size))
      all_goals first | exact hx5 | exact HR.out _ hx5
    · have hsi : ¬ (10 : Int) < (ss.length : Int) := by omega
      obtain ⟨out, z, hout⟩ : ∃ out z, thinL (l1) bt (ss) = (out, z) := ⟨_, _, rfl⟩
      have HOUT := Lib.hid hout
      have hlen : (l1).length ≤ 100000 := (by omega)
      clear hout
      go_wp2_with (go_at_call 17; go_must (refine thin_any _ _ (l1) bt (ss) out z HOUT.out _ he1 hu1' hlen _ ?_))
      intro L2 w2 ho2 hb2
      have hv2 := (he1).below hb2
      have hu2 := (hu1').below hb2
      have hx2 := below_then hb1 hb2 (hb1).size
      have heb2 := thinL_eb (he1).eb HOUT.out
      have HE2 := Lib.hid (ho2.es heb2)
      clear ho2 heb2
      go_wp2_with (go_at_call 18; go_must (refine rthin_any _ _ (l1) bt (ss) out z HOUT.out _ hv2 hu2 hlen _ ?_))
      intro L3 w3 he3 hb3
      have HE4 := Lib.hid (HE2.out.below hb3)
      have hx3 := below_then hx2 hb3 hx2.size
      have HE3 := Lib.hid he3
      clear he3 hv2 hu2
      obtain ⟨l2a, l2c, rfl, _⟩ := HE2.out
      obtain ⟨l3a, l3c, rfl, _⟩ := HE3.out
      have hzz : (z == z) = true := by simp
      go_wp2_with (first
        | (go_at_call 13; go_in)
        | (go_at_call 14; refine alike_any _ _ out out true (alikeL_refl out) _ HE4.out HE3.out _ ?_; intro w4 hb4; have hx4 := below_then hx3 hb4 hx3.size)
        | (go_at_call 15; refine wakes_any _ _ ?_; intro w5 hb5; have hx5 := below_then hx4 hb5 hx4.size))
      all_goals first | exact hx5 | exact HR.out _ hx5
  | false =>
    by_cases hlt : 60 < l.length
    · have hli : (60 : Int) < (l.length : Int) := by omega
      have hv2 := hv.take (j := 60) (by omega)
      have hvc : 60 ≤ vc := by omega
      by_cases hs : 10 < ss.length
      · have hsi : (10 : Int) < (ss.length : Int) := by omega
        have hu2 := hu.take (j := 10) (by omega)
        have hsc : 10 ≤ uc := by omega
        go_enter Try.func4, Try.ntmps4
        obtain ⟨out, z, hout⟩ : ∃ out z, thinL ((l.take 60)) bt ((ss.take 10)) = (out, z) := ⟨_, _, rfl⟩
        have HOUT := Lib.hid hout
        have hlen : ((l.take 60)).length ≤ 100000 := (by rw [List.length_take]; omega)
        clear hout
        go_wp2_with (go_at_call 17; go_must (refine thin_any _ _ ((l.take 60)) bt ((ss.take 10)) out z HOUT.out _ hv2 hu2 hlen _ ?_))
        intro L2 w2 ho2 hb2
        have hv2 := (hv2).below hb2
        have hu2 := (hu2).below hb2
        have hx2 := below_then hb0 hb2 (hb0).size
        have heb2 := thinL_eb (hv2).eb HOUT.out
        have HE2 := Lib.hid (ho2.es heb2)
        clear ho2 heb2
        go_wp2_with (go_at_call 18; go_must (refine rthin_any _ _ ((l.take 60)) bt ((ss.take 10)) out z HOUT.out _ hv2 hu2 hlen _ ?_))
        intro L3 w3 he3 hb3
        have HE4 := Lib.hid (HE2.out.below hb3)
        have hx3 := below_then hx2 hb3 hx2.size
        have HE3 := Lib.hid he3
        clear he3 hv2 hu2
        obtain ⟨l2a, l2c, rfl, _⟩ := HE2.out
        obtain ⟨l3a, l3c, rfl, _⟩ := HE3.out
        have hzz : (z == z) = true := by simp
        go_wp2_with (first
          | (go_at_call 13; go_in)
          | (go_at_call 14; refine alike_any _ _ out out true (alikeL_refl out) _ HE4.out HE3.out _ ?_; intro w4 hb4; have hx4 := below_then hx3 hb4 hx3.size)
          | (go_at_call 15; refine wakes_any _ _ ?_; intro w5 hb5; have hx5 := below_then hx4 hb5 hx4.size))
        all_goals first | exact hx5 | exact HR.out _ hx5
      · have hsi : ¬ (10 : Int) < (ss.length : Int) := by omega
        go_enter Try.func4, Try.ntmps4
        obtain ⟨out, z, hout⟩ : ∃ out z, thinL ((l.take 60)) bt (ss) = (out, z) := ⟨_, _, rfl⟩
        have HOUT := Lib.hid hout
        have hlen : ((l.take 60)).length ≤ 100000 := (by rw [List.length_take]; omega)
        clear hout
        go_wp2_with (go_at_call 17; go_must (refine thin_any _ _ ((l.take 60)) bt (ss) out z HOUT.out _ hv2 hu hlen _ ?_))
        intro L2 w2 ho2 hb2
        have hv2 := (hv2).below hb2
        have hu2 := (hu).below hb2
        have hx2 := below_then hb0 hb2 (hb0).size
        have heb2 := thinL_eb (hv2).eb HOUT.out
        have HE2 := Lib.hid (ho2.es heb2)
        clear ho2 heb2
        go_wp2_with (go_at_call 18; go_must (refine rthin_any _ _ ((l.take 60)) bt (ss) out z HOUT.out _ hv2 hu2 hlen _ ?_))
        intro L3 w3 he3 hb3
        have HE4 := Lib.hid (HE2.out.below hb3)
        have hx3 := below_then hx2 hb3 hx2.size
        have HE3 := Lib.hid he3
        clear he3 hv2 hu2
        obtain ⟨l2a, l2c, rfl, _⟩ := HE2.out
        obtain ⟨l3a, l3c, rfl, _⟩ := HE3.out
        have hzz : (z == z) = true := by simp
        go_wp2_with (first
          | (go_at_call 13; go_in)
          | (go_at_call 14; refine alike_any _ _ out out true (alikeL_refl out) _ HE4.out HE3.out _ ?_; intro w4 hb4; have hx4 := below_then hx3 hb4 hx3.size)
          | (go_at_call 15; refine wakes_any _ _ ?_; intro w5 hb5; have hx5 := below_then hx4 hb5 hx4.size))
        all_goals first | exact hx5 | exact HR.out _ hx5
    · have hli : ¬ (60 : Int) < (l.length : Int) := by omega
      by_cases hs : 10 < ss.length
      · have hsi : (10 : Int) < (ss.length : Int) := by omega
        have hu2 := hu.take (j := 10) (by omega)
        have hsc : 10 ≤ uc := by omega
        go_enter Try.func4, Try.ntmps4
        obtain ⟨out, z, hout⟩ : ∃ out z, thinL (l) bt ((ss.take 10)) = (out, z) := ⟨_, _, rfl⟩
        have HOUT := Lib.hid hout
        have hlen : (l).length ≤ 100000 := (by omega)
        clear hout
        go_wp2_with (go_at_call 17; go_must (refine thin_any _ _ (l) bt ((ss.take 10)) out z HOUT.out _ hv hu2 hlen _ ?_))
        intro L2 w2 ho2 hb2
        have hv2 := (hv).below hb2
        have hu2 := (hu2).below hb2
        have hx2 := below_then hb0 hb2 (hb0).size
        have heb2 := thinL_eb (hv).eb HOUT.out
        have HE2 := Lib.hid (ho2.es heb2)
        clear ho2 heb2
        go_wp2_with (go_at_call 18; go_must (refine rthin_any _ _ (l) bt ((ss.take 10)) out z HOUT.out _ hv2 hu2 hlen _ ?_))
        intro L3 w3 he3 hb3
        have HE4 := Lib.hid (HE2.out.below hb3)
        have hx3 := below_then hx2 hb3 hx2.size
        have HE3 := Lib.hid he3
        clear he3 hv2 hu2
        obtain ⟨l2a, l2c, rfl, _⟩ := HE2.out
        obtain ⟨l3a, l3c, rfl, _⟩ := HE3.out
        have hzz : (z == z) = true := by simp
        go_wp2_with (first
          | (go_at_call 13; go_in)
          | (go_at_call 14; refine alike_any _ _ out out true (alikeL_refl out) _ HE4.out HE3.out _ ?_; intro w4 hb4; have hx4 := below_then hx3 hb4 hx3.size)
          | (go_at_call 15; refine wakes_any _ _ ?_; intro w5 hb5; have hx5 := below_then hx4 hb5 hx4.size))
        all_goals first | exact hx5 | exact HR.out _ hx5
      · have hsi : ¬ (10 : Int) < (ss.length : Int) := by omega
        go_enter Try.func4, Try.ntmps4
        obtain ⟨out, z, hout⟩ : ∃ out z, thinL (l) bt (ss) = (out, z) := ⟨_, _, rfl⟩
        have HOUT := Lib.hid hout
        have hlen : (l).length ≤ 100000 := (by omega)
        clear hout
        go_wp2_with (go_at_call 17; go_must (refine thin_any _ _ (l) bt (ss) out z HOUT.out _ hv hu hlen _ ?_))
        intro L2 w2 ho2 hb2
        have hv2 := (hv).below hb2
        have hu2 := (hu).below hb2
        have hx2 := below_then hb0 hb2 (hb0).size
        have heb2 := thinL_eb (hv).eb HOUT.out
        have HE2 := Lib.hid (ho2.es heb2)
        clear ho2 heb2
        go_wp2_with (go_at_call 18; go_must (refine rthin_any _ _ (l) bt (ss) out z HOUT.out _ hv2 hu2 hlen _ ?_))
        intro L3 w3 he3 hb3
        have HE4 := Lib.hid (HE2.out.below hb3)
        have hx3 := below_then hx2 hb3 hx2.size
        have HE3 := Lib.hid he3
        clear he3 hv2 hu2
        obtain ⟨l2a, l2c, rfl, _⟩ := HE2.out
        obtain ⟨l3a, l3c, rfl, _⟩ := HE3.out
        have hzz : (z == z) = true := by simp
        go_wp2_with (first
          | (go_at_call 13; go_in)
          | (go_at_call 14; refine alike_any _ _ out out true (alikeL_refl out) _ HE4.out HE3.out _ ?_; intro w4 hb4; have hx4 := below_then hx3 hb4 hx3.size)
          | (go_at_call 15; refine wakes_any _ _ ?_; intro w5 hb5; have hx5 := below_then hx4 hb5 hx4.size))
        all_goals first | exact hx5 | exact HR.out _ hx5
end Go.Proofs.Ytgkgahjdjkmmnaa
