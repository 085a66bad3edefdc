/- The law MergeSpread, walked. -/
import Derived.Test.YtgkgahjdjkmmnaaSpread
namespace Go.Proofs.Ytgkgahjdjkmmnaa
open Go.RowKit

theorem Is.len {w : World} {v : Value} {l : List Int} (h : Is w v l) : l.length ≤ 9223372036854775807 := by
  obtain ⟨ad, c, _, _, h1, h2, _⟩ := h
  omega

set_option maxRecDepth 100000 in
set_option maxHeartbeats 8000000 in
theorem spread_law (v u1 u2 : Value) (l : List Ent) (s1 s2 : List Int) (w : World) (hv : Es w v l) (hu1 : Is w u1 s1) (hu2 : Is w u2 s2) (R : Ending → World → Prop)
    (hR : ∀ w', Below w.heap.size w w' → R (.returned (.bool true)) w') :
    Calls Try.prog 5 #[v, u1, u2] w R := by
  have HR := Lib.hid hR
  have hl1 := hu1.len
  have hl2 := hu2.len
  clear hR
  have hv' := hv
  have hu1' := hu1
  have hu2' := hu2
  obtain ⟨va, vc, rfl, _⟩ := hv'
  obtain ⟨ua1, uc1, rfl, _⟩ := hu1'
  obtain ⟨ua2, uc2, rfl, _⟩ := hu2'
  go_enter Try.func5, Try.ntmps5
  go_wp2_with (go_at_call 16; go_must (refine row_any _ l _ rfl _ hv _ ?_))
  intro L1 w1 ho1 hb1
  obtain ⟨r, hr⟩ : ∃ r, rowL l = r := ⟨_, rfl⟩
  have he1 := ho1.es (rowL_eb hv.eb)
  have hlen1 := rowL_len l
  have hsr := rowL_srt l
  have hebr := rowL_eb hv.eb
  rw [hr] at he1 hlen1 hsr hebr
  obtain ⟨la, lc, hLs⟩ := EsO.shape ho1
  rw [hr] at hLs
  subst hLs
  have hu1b := hu1.below hb1
  have HE1 := Lib.hid he1
  have HSP1 := Lib.hid (spread_merge hsr s1)
  have HSP2 := Lib.hid (spread_merge hsr s2)
  have HEBR := Lib.hid hebr
  have HT1 := Lib.hid (spreadK_total r s1 r.length)
  have HT2 := Lib.hid (spreadK_total r s2 r.length)
  have HK1 := Lib.hid (spreadK_len r s1 r.length)
  have HK2 := Lib.hid (spreadK_len r s2 r.length)
  have HU2 := Lib.hid hu2
  have HB1 := Lib.hid hb1
  clear ho1 hr hsr hebr hv hu1 hu2
  obtain ⟨ls1, hls1⟩ : ∃ ls, spreadK r s1 r.length = ls := ⟨_, rfl⟩
  obtain ⟨ls2, hls2⟩ : ∃ ls, spreadK r s2 r.length = ls := ⟨_, rfl⟩
  rw [hls1] at HSP1 HT1 HK1
  rw [hls2] at HSP2 HT2 HK2
  have HLS1 := Lib.hid hls1
  have HLS2 := Lib.hid hls2
  clear hls1 hls2
  go_wp2_with (first
    | (go_at_call 19; go_must (refine spread_any _ _ r s1 _ he1 hu1b (by omega) hl1 _ ?_)))
  intro L2 w2 hss2 hb2
  rw [HLS1.out] at hss2
  have hx2 := below_then hb1 hb2 hb1.size
  clear he1 hu1b hb1
  obtain ⟨l2a, l2c, rfl, _⟩ := id hss2
  go_wp2_with (first
    | (go_at_call 11; go_must (refine merge_any _ ls1 r 0 HSP1.out _ hss2 (by have := HK1.out; omega) (by have := HT1.out; omega) _ ?_)))
  intro L3 w3 ho3 hb3
  have hx3 := below_then hx2 hb3 hx2.size
  have he3 := (HE1.out.below hb2).below hb3
  have hu3 := HU2.out.below hx3
  obtain ⟨l3a, l3c, rfl⟩ := EsO.shape ho3
  have HM3 := Lib.hid (ho3.es HEBR.out)
  clear hss2 ho3 hx2
  go_wp2_with (first
    | (go_at_call 19; go_must (refine spread_any _ _ r s2 _ he3 hu3 (by omega) hl2 _ ?_)))
  intro L4 w4 hss4 hb4
  rw [HLS2.out] at hss4
  have hx4 := below_then hx3 hb4 hx3.size
  obtain ⟨l4a, l4c, rfl, _⟩ := id hss4
  have HE4 := Lib.hid (he3.below hb4)
  have HM4 := Lib.hid (HM3.out.below hb4)
  clear he3 hu3 hx3
  go_wp2_with (first
    | (go_at_call 11; go_must (refine merge_any _ ls2 r 0 HSP2.out _ hss4 (by have := HK2.out; omega) (by have := HT2.out; omega) _ ?_)))
  intro L5 w5 ho5 hb5
  have hx5 := below_then hx4 hb5 hx4.size
  have HE5 := Lib.hid (HE4.out.below hb5)
  have HM5 := Lib.hid (HM4.out.below hb5)
  obtain ⟨l5a, l5c, rfl⟩ := EsO.shape ho5
  have HN5 := Lib.hid (ho5.es HEBR.out)
  clear hss4 ho5 hx4
  go_wp2_with (first
    | (go_at_call 13; go_in)
    | (go_at_call_of 14 (Value.slice l3a r.length l3c); refine alike_any _ _ r r true (alikeL_refl r) _ HM5.out HE5.out _ ?_; intro w6 hb6; have hx6 := below_then hx5 hb6 hx5.size)
    | (go_at_call_of 14 (Value.slice l5a r.length l5c); refine alike_any _ _ r r true (alikeL_refl r) _ (HN5.out.below hb6) (HE5.out.below hb6) _ ?_; intro w7 hb7; have hx7 := below_then hx6 hb7 hx6.size)
    | (go_at_call 15; refine wakes_any _ _ ?_; intro w8 hb8; have hx8 := below_then hx7 hb8 hx7.size))
  all_goals first | exact hx8 | exact HR.out _ hx8
end Go.Proofs.Ytgkgahjdjkmmnaa
