/- prop.Read, walked. -/
import Derived.Test.YtpodhidabhnnnaaDoorPropO
namespace Go.Proofs.YtpodhidabhnnnaaDoor
open Go.RowKit

theorem Tryd.info43 : (Tryd.prog.info? 43).map (fun i => (i.zero, i.size, i.bytes)) = some (some (.agg #[Value.int .i64 0, Value.int .i64 0, Value.string ⟨#[]⟩, Value.string ⟨#[]⟩, Value.slice none 0 0]), 5, 72) := by kernel_rfl
theorem pc_oneCell (a : Option Addr) (n c : Nat) {i j : Int} {s t : ByteArray} : ∀ u ∈ [Value.int .i64 i, Value.int .i64 j, Value.string s, Value.string t, Value.slice a n c], u.oneCell' = true := by
  intro u hu
  simp at hu
  rcases hu with rfl | rfl | rfl | rfl | rfl <;> rfl
theorem one_ok (wh : Int) (v u : Value) (b : List UInt8) (l : List Pr) (p : Pr) (m : Int) (hs : stepL wh l b = (0, p, m)) (w : World) (hv : Bs w v b) (hu : Ps w u l) (hT : Tabs w) (R : Ending → World → Prop)
    (hR : ∀ d w', w'.ownsRow w.heap.size 5 1 d p.data.length (bv p.data) → Below w.heap.size w w' → R (.returned (.tuple #[.agg #[.int .i64 p.id, .int .i64 p.num, .string (str p.text), .string (str p.pair), d], .int .i64 m, .int .i64 0])) w') :
    Calls Tryd.prog 35 #[.int .i64 wh, v, u] w R :=
  one_any wh v u b l 0 p m hs w hv hu hT R (fun _ => hR) (fun h => absurd rfl h)
theorem one_bad (wh : Int) (v u : Value) (b : List UInt8) (l : List Pr) (c : Nat) (p : Pr) (m : Int) (hc : c ≠ 0) (hs : stepL wh l b = (c, p, m)) (w : World) (hv : Bs w v b) (hu : Ps w u l) (hT : Tabs w) (R : Ending → World → Prop)
    (hR : ∀ x y s t a k q w', Below w.heap.size w w' → R (.returned (.tuple #[.agg #[.int .i64 x, .int .i64 y, .string s, .string t, .slice a k q], .int .i64 0, .int .i64 c])) w') :
    Calls Tryd.prog 35 #[.int .i64 wh, v, u] w R :=
  one_any wh v u b l c p m hs w hv hu hT R (fun h => absurd h hc) (fun _ => hR)

theorem GoodP.pb {p : Pr} (h : GoodP p) (h0 : 0 ≤ p.id) (h1 : p.id < 268435456) : PB p := by
  have := h.ld; have := h.lt; have := h.lp; have := h.n0; have := h.n1
  exact ⟨by omega, by omega, by omega, by omega, by omega, by omega, by omega⟩
theorem readF_nil (f : Nat) (wh : Int) (l : List Pr) : readF f wh l [] = (l, 0) := by cases f <;> rfl

set_option maxRecDepth 100000 in
set_option maxHeartbeats 4000000 in
theorem read_any (wh : Int) (v : Value) (b : List UInt8) (out : List Pr) (used : Int) (c : Nat) (h : readL wh b = (out, used, c)) (hbl : b.length ≤ 100000000) (w : World) (hv : Bs w v b) (hT : Tabs w) (R : Ending → World → Prop)
    (hR : ∀ ad cc w', PsO w' w.heap.size (.slice ad out.length cc) out → Below w.heap.size w w' → R (.returned (.tuple #[.slice ad out.length cc, .int .i64 used, .int .i64 c])) w') :
    Calls Tryd.prog 10 #[.int .i64 wh, v] w R := by
  have HR := Lib.hid hR
  have HV := Lib.hid hv
  have HT := Lib.hid hT
  obtain ⟨va, vc, rfl, _, hvl, hvm, _⟩ := _root_.id hv
  obtain ⟨⟨n, y, z⟩, hg⟩ : ∃ g, gvL b = g := ⟨_, rfl⟩
  unfold readL at h
  rw [hg] at h
  simp only at h
  have HG := Lib.hid hg
  clear hR hv hT
  by_cases hz : z ≠ 0
  · rw [if_pos (.inl hz)] at h
    simp only [Prod.mk.injEq] at h
    obtain ⟨rfl, rfl, rfl⟩ := h
    have hzi : ¬ (z : Int) = 0 := by omega
    clear hg
    go_enter Tryd.func10, Tryd.ntmps10
    go_wp2_with (go_at_call 34; go_must (refine getvar_any _ b n y z HG.out _ HV.out _ ?_))
    go_ret3
    exact HR.out none 0 _ (PsO.nil _ _) (Below.refl _ _)
  · have hz0 : z = 0 := by omega
    subst hz0
    obtain ⟨hn28, hyl, _⟩ := gvL_ok b n y hg
    clear hg
    by_cases hbig : b.length < n + y
    · rw [if_pos (.inr hbig)] at h
      simp only [Prod.mk.injEq] at h
      obtain ⟨rfl, rfl, rfl⟩ := h
      have hbi : (b.length : Int) - (y : Int) < (n : Int) := by omega
      go_enter Tryd.func10, Tryd.ntmps10
      go_wp2_with (go_at_call 34; go_must (refine getvar_any _ b n y 0 HG.out _ HV.out _ ?_))
      go_ret3
      exact HR.out none 0 _ (PsO.nil _ _) (Below.refl _ _)
    · rw [if_neg (by simpa using hbig)] at h
      have hbi : ¬ ((b.length : Int) - (y : Int) < (n : Int)) := by omega
      obtain ⟨⟨o2, c2⟩, hF⟩ : ∃ o, readF n wh [] ((b.drop y).take n) = o := ⟨_, rfl⟩
      rw [hF] at h
      simp only at h
      have HF := Lib.hid hF
      have HH := Lib.hid h
      obtain ⟨La, hsl, hbs⟩ := bs_mid (lo := y) (hi := y + n) HV.out (by omega) (by omega)
      rw [Nat.add_sub_cancel_left] at hbs
      have hsl2 : ∀ w', (Instr.slice 22 (.slice va b.length vc) (some (.int .i64 (y : Int))) (some (.int .i64 ((y : Int) + (n : Int)))) none).run Tryd.prog w' = .ok (.slice La n (vc - y)) w' := by
        intro w'
        have := hsl w'
        rw [Nat.add_sub_cancel_left] at this
        rw [show (y : Int) + (n : Int) = ((y + n : Nat) : Int) by omega]
        exact this
      have hb0 : (b.take (y + n)).drop y = (b.drop y).take n := by rw [List.drop_take, Nat.add_sub_cancel_left]
      rw [hb0] at hbs
      have hlen0 : ((b.drop y).take n).length = n := by rw [List.length_take, List.length_drop]; omega
      have HBS := Lib.hid hbs
      have HL0 := Lib.hid hlen0
      clear h hF hsl hbs hb0 hlen0
      go_enter Tryd.func10, Tryd.ntmps10
      go_wp2_with (go_at_call 34; go_must (refine getvar_any _ b n y 0 HG.out _ HV.out _ ?_))
      clear hsl2
      go_loopg [4, 10] n (fun gn L rest wr => ∃ (f : Nat) (l' : List Pr) (b' : List UInt8) (ra : Option Addr) (rc : Nat), b'.length ≤ f ∧ gn = b'.length ∧ rest = .slice ra b'.length rc ∧ Hid (l'.length + b'.length ≤ b.length) ∧ Hid (PsO wr w.heap.size L l') ∧ Hid (∀ p ∈ l', PB p) ∧ Hid (Bs w (.slice ra b'.length rc) b') ∧ Below w.heap.size w wr ∧ Hid (readF f wh l' b' = (o2, c2)))
      case atStart =>
        refine ⟨n, [], (b.drop y).take n, La, vc - y, by rw [HL0.out]; omega, HL0.out.symm, by rw [HL0.out], Lib.hid (by rw [HL0.out]; simp; omega), Lib.hid (PsO.nil _ _), Lib.hid (fun p hp => by cases hp), by rw [HL0.out]; exact HBS, Below.refl _ _, HF⟩
      case round =>
        obtain ⟨f, l', b', ra, rc, hf, rfl, rfl, HLN, HPS, HPB, HBB, hb, HRF⟩ := hrel
        obtain ⟨wo, rfl⟩ : ∃ x, x = wr := ⟨_, rfl⟩
        obtain ⟨La', Lc, rfl⟩ := PsO.shape HPS.out
        have hbz := hb.size
        by_cases hpos : 0 < b'.length
        · have hposi : (0 : Int) < (b'.length : Int) := by omega
          obtain ⟨f', rfl⟩ : ∃ f', f = f' + 1 := ⟨f - 1, by omega⟩
          have hne : b' ≠ [] := fun hc => by rw [hc] at hpos; simp at hpos
          have hrf := HRF.out
          unfold readF at hrf
          rw [if_neg hne] at hrf
          obtain ⟨⟨sc, p, m⟩, hs⟩ : ∃ s, stepL wh l' b' = s := ⟨_, rfl⟩
          rw [hs] at hrf
          simp only at hrf
          have HS := Lib.hid hs
          by_cases hsc : sc ≠ 0
          · rw [if_pos hsc] at hrf
            simp only [Prod.mk.injEq] at hrf
            obtain ⟨rfl, rfl⟩ := hrf
            have hsci : ¬ (sc : Int) = 0 := by omega
            have hh := HH.out
            rw [if_pos hsc] at hh
            simp only [Prod.mk.injEq] at hh
            obtain ⟨rfl, rfl, rfl⟩ := hh
            have HSC := Lib.hid hsc
            clear hs HH hne hsc HRF HF
            go_wp2_with (go_at_call 35; go_must (refine one_bad wh _ _ b' l' sc p m HSC.out HS.out _ (HBB.out.below hb) (HPS.out.ps HPB.out) (HT.out.below hb) _ ?_); intro x1 x2 x3 x4 x5 x6 x7 w5 hb5)
            have hbx := below_then hb hb5 hb.size
            go_ret3
            exact HR.out none 0 _ (PsO.nil _ _) (hbx.alloc hbx.size _)
          · have hs0 : sc = 0 := by omega
            subst hs0
            rw [if_neg hsc] at hrf
            obtain ⟨um, rfl, hu1, hu2, _, hgp, _, _, hi0, hi1, _, _⟩ := stepL_ok hs
            rw [Int.toNat_natCast] at hrf
            have HRF2 := Lib.hid hrf
            obtain ⟨Lb, hsl, hbs⟩ := bs_from HBB.out hu2
            have hbs2 := Lib.hid hbs
            have HPBP := Lib.hid (hgp.pb hi0 hi1)
            have hll : l'.length + 1 ≤ 100000000 := by have := HLN.out; omega
            have HRF3 := HRF2
            clear hs hrf hgp hsc HRF hbs hne
            obtain ⟨ds, hds, hrow, heach, hap⟩ := HPS.out
            have HDS := Lib.hid hds
            have HEACH := Lib.hid heach
            have HROW := Lib.hid hrow
            have HAP := Lib.hid hap
            clear heach hrow hap
            go_wp2_with (first
              | (go_at_call 35; go_must (refine one_ok wh _ _ b' l' p um HS.out _ (HBB.out.below hb) (HPS.out.ps HPB.out) (HT.out.below hb) _ ?_); intro d5 w5 hown5 hb5; obtain ⟨da, dc, rfl⟩ := owns_shape hown5; have hrow5 := World.ownsRow.alloc (owns_below HROW.out hb5) (Obj.cells #[Value.int .i64 p.id, Value.int .i64 p.num, Value.string (str p.text), Value.string (str p.pair), Value.slice da p.data.length dc] 43); have hbx := below_then hb hb5 hb.size; have hx5 := hbx.alloc hbx.size (Obj.cells #[Value.int .i64 p.id, Value.int .i64 p.num, Value.string (str p.text), Value.string (str p.pair), Value.slice da p.data.length dc] 43); have hrd := rd_lit (w5.alloc (Obj.cells #[Value.int .i64 p.id, Value.int .i64 p.num, Value.string (str p.text), Value.string (str p.pair), Value.slice da p.data.length dc] 43)) #[Value.int .i64 p.id, Value.int .i64 p.num, Value.string (str p.text), Value.string (str p.pair), Value.slice da p.data.length dc] 43 5 1 rfl; rw [show (w5.alloc (Obj.cells #[Value.int .i64 p.id, Value.int .i64 p.num, Value.string (str p.text), Value.string (str p.pair), Value.slice da p.data.length dc] 43)).heap.size = w5.heap.size + 1 by simp] at hrd)
              | (at_builtin; go_must (refine wpList_app (by rfl) (.tmp 50) (.tmp 52) 25 (by rfl) w.heap.size 43 (.agg #[Value.int .i64 0, Value.int .i64 0, Value.string ⟨#[]⟩, Value.string ⟨#[]⟩, Value.slice none 0 0]) 5 72 Tryd.underlying25 Tryd.info43 rfl (by decide) _ _ _ _ rfl (World.ownsRow.alloc hrow5 _) _ _ _ _ rfl hrd (pc_oneCell _ _ _) (by simp) (by unfold maxLen; omega) (by omega) (by have := hbx.size; simp; omega) ?_)))
            intro ad6 c6 w6 hown6 hg6
            have hk6 : Keeps 5 w5 w6 := (Keeps.below (((Below.refl w5.heap.size w5).alloc (Nat.le_refl _) _).alloc (by simp) _)).trans (Keeps.grown5 (hrow5.alloc _) hg6 (by decide))
            have hbN : Below w.heap.size w w6 := below_app (hx5.alloc hx5.size _) hg6 (by have := hbx.size; simp; omega) (hrow5.alloc _)
            have hnew : ∀ v ∈ ds, Unlike v (.slice da p.data.length dc) := by
              intro v hv k hk hc
              obtain ⟨i, hi, rfl⟩ := List.getElem_of_mem hv
              have h1 := ((HEACH.out i (by rw [← HDS.out]; exact hi)).lt k hk).2
              have h2 := (hown5.lt k hc).1
              omega
            have hPS6 : PsO w6 w.heap.size (.slice ad6 (l'.length + 1) c6) (l' ++ [p]) := PsO.push HDS.out (fun i hi => owns_below (HEACH.out i hi) hb5) hk6 hown6 (owns_mono hown5 hb.size) HAP.out hnew
            have HPS6 := Lib.hid hPS6
            have HPB6 : Hid (∀ q ∈ l' ++ [p], PB q) := Lib.hid fun q hq => by
              rcases List.mem_append.1 hq with h | h
              · exact HPB.out q h
              · obtain rfl := List.mem_singleton.1 h
                exact HPBP.out
            clear hPS6 hnew hk6 hown6 hg6 hrow5 hown5 hrd hx5 hb5 hbx
            go_wp2
            go_roundg (b'.drop um).length
            case measure => rw [List.length_drop]; omega
            case rel => exact ⟨f', l' ++ [p], b'.drop um, Lb, rc - um, by rw [List.length_drop]; omega, rfl, by rw [List.length_drop], Lib.hid (by have := HLN.out; rw [List.length_append, List.length_drop]; simp; omega), HPS6, HPB6, by rw [List.length_drop]; exact hbs2, hbN, HRF3⟩
        · have hb0 : b' = [] := List.eq_nil_of_length_eq_zero (by omega)
          subst hb0
          have hrf := HRF.out
          rw [readF_nil] at hrf
          simp only [Prod.mk.injEq] at hrf
          obtain ⟨rfl, rfl⟩ := hrf
          have hh := HH.out
          rw [if_neg (by simp)] at hh
          simp only [Prod.mk.injEq] at hh
          obtain ⟨rfl, rfl, rfl⟩ := hh
          clear HH HRF HF
          go_wp2
          go_ret3
          exact HR.out _ _ _ HPS.out hb
end Go.Proofs.YtpodhidabhnnnaaDoor
