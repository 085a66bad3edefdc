/- prop.Read, walked. -/
import Derived.Test.YtgimbocoamnkjaaGreatDoorM12
namespace Go.Proofs.YtgimbocoamnkjaaGreatDoor
open Go.RowKit

theorem one_ok (wh : Int) (v u : Value) (b : List UInt8) (l : List Pr) (p : Pr) (m : Int) (hs : stepL wh l b = (0, p, m)) (w : World) (hv : Bs w v b) (hu : Ps w u l) (hT : Tabs w) (R : Ending → World → Prop)
    (hR : ∀ d w', w'.ownsRow w.heap.size 5 1 d p.data.length (bv p.data) → Below w.heap.size w w' → R (.returned (.tuple #[.agg #[.int .i64 p.id, .int .i64 p.num, .string (str p.text), .string (str p.pair), d], .int .i64 m, .int .i64 0])) w') :
    Calls Tryz.prog 191 #[.int .i64 wh, v, u] w R :=
  one_any wh v u b l 0 p m hs w hv hu hT R (fun _ => hR) (fun h => absurd rfl h)
theorem one_bad (wh : Int) (v u : Value) (b : List UInt8) (l : List Pr) (c : Nat) (p : Pr) (m : Int) (hc : c ≠ 0) (hs : stepL wh l b = (c, p, m)) (w : World) (hv : Bs w v b) (hu : Ps w u l) (hT : Tabs w) (R : Ending → World → Prop)
    (hR : ∀ x y s t a k q w', Below w.heap.size w w' → R (.returned (.tuple #[.agg #[.int .i64 x, .int .i64 y, .string s, .string t, .slice a k q], .int .i64 0, .int .i64 c])) w') :
    Calls Tryz.prog 191 #[.int .i64 wh, v, u] w R :=
  one_any wh v u b l c p m hs w hv hu hT R (fun h => absurd h hc) (fun _ => hR)

theorem GoodP.pb {p : Pr} (h : GoodP p) (h0 : 0 ≤ p.id) (h1 : p.id < 268435456) : PB p := by
  have := h.ld; have := h.lt; have := h.lp; have := h.n0; have := h.n1
  exact ⟨by omega, by omega, by omega, by omega, by omega, by omega, by omega⟩
theorem readF_nil (f : Nat) (wh : Int) (l : List Pr) : readF f wh l [] = (l, 0) := by cases f <;> rfl

set_option maxRecDepth 100000 in
set_option maxHeartbeats 4000000 in
theorem read_any (wh : Int) (v : Value) (b : List UInt8) (out : List Pr) (used : Int) (c : Nat) (h : readL wh b = (out, used, c)) (hbl : b.length ≤ 100000000) (w : World) (hv : Bs w v b) (hT : Tabs w) (R : Ending → World → Prop)
    (hR : ∀ ad cc w', PsO w' w.heap.size (.slice ad out.length cc) out → Below w.heap.size w w' → R (.returned (.tuple #[.slice ad out.length cc, .int .i64 used, .int .i64 c])) w') :
    Calls Tryz.prog 173 #[.int .i64 wh, v] w R := by
  have HR := Lib.hid hR
  have HV := Lib.hid hv
  have HT := Lib.hid hT
  obtain ⟨va, vc, rfl, _, hvl, hvm, _⟩ := _root_.id hv
  obtain ⟨⟨n, y, z⟩, hg⟩ : ∃ g, gvL b = g := ⟨_, rfl⟩
  unfold readL at h
  rw [hg] at h
  simp only at h
  have HG := Lib.hid hg
  clear hR hv hT
  by_cases hz : z ≠ 0
  · rw [if_pos (.inl hz)] at h
    simp only [Prod.mk.injEq] at h
    obtain ⟨rfl, rfl, rfl⟩ := h
    have hzi : ¬ (z : Int) = 0 := by omega
    clear hg
    go_enter Tryz.func173, Tryz.ntmps173
    go_wp2_with (go_at_call 190; go_must (refine getvar_any _ b n y z HG.out _ HV.out _ ?_))
    go_ret3
    exact HR.out none 0 _ (PsO.nil _ _) (Below.refl _ _)
  · have hz0 : z = 0 := by omega
    subst hz0
    obtain ⟨hn28, hyl, _⟩ := gvL_ok b n y hg
    clear hg
    by_cases hbig : b.length < n + y
    · rw [if_pos (.inr hbig)] at h
      simp only [Prod.mk.injEq] at h
      obtain ⟨rfl, rfl, rfl⟩ := h
      have hbi : (b.length : Int) - (y : Int) < (n : Int) := by omega
      go_enter Tryz.func173, Tryz.ntmps173
      go_wp2_with (go_at_call 190; go_must (refine getvar_any _ b n y 0 HG.out _ HV.out _ ?_))
      go_ret3
      exact HR.out none 0 _ (PsO.nil _ _) (Below.refl _ _)
    · rw [if_neg (by simpa using hbig)] at h
      have hbi : ¬ ((b.length : Int) - (y : Int) < (n : Int)) := by omega
      obtain ⟨⟨o2, c2⟩, hF⟩ : ∃ o, readF n wh [] ((b.drop y).take n) = o := ⟨_, rfl⟩
      rw [hF] at h
      simp only at h
      have HF := Lib.hid hF
      have HH := Lib.hid h
      obtain ⟨La, hsl, hbs⟩ := bs_mid (lo := y) (hi := y + n) HV.out (by omega) (by omega)
      rw [Nat.add_sub_cancel_left] at hbs
      have hsl2 : ∀ w', (Instr.slice 22 (.slice va b.length vc) (some (.int .i64 (y : Int))) (some (.int .i64 ((y : Int) + (n : Int)))) none).run Tryz.prog w' = .ok (.slice La n (vc - y)) w' := by
        intro w'
        have := hsl w'
        rw [Nat.add_sub_cancel_left] at this
        rw [show (y : Int) + (n : Int) = ((y + n : Nat) : Int) by omega]
        exact this
      have hb0 : (b.take (y + n)).drop y = (b.drop y).take n := by rw [List.drop_take, Nat.add_sub_cancel_left]
      rw [hb0] at hbs
      have hlen0 : ((b.drop y).take n).length = n := by rw [List.length_take, List.length_drop]; omega
      have HBS := Lib.hid hbs
      have HL0 := Lib.hid hlen0
      clear h hF hsl hbs hb0 hlen0
      go_enter Tryz.func173, Tryz.ntmps173
      go_wp2_with (go_at_call 190; go_must (refine getvar_any _ b n y 0 HG.out _ HV.out _ ?_))
      clear hsl2
      go_loopg [4, 10] n (fun gn L rest wr => ∃ (f : Nat) (l' : List Pr) (b' : List UInt8) (ra : Option Addr) (rc : Nat), b'.length ≤ f ∧ gn = b'.length ∧ rest = .slice ra b'.length rc ∧ Hid (l'.length + b'.length ≤ b.length) ∧ Hid (PsO wr w.heap.size L l') ∧ Hid (∀ p ∈ l', PB p) ∧ Hid (Bs w (.slice ra b'.length rc) b') ∧ Below w.heap.size w wr ∧ Hid (readF f wh l' b' = (o2, c2)))
      case atStart =>
        refine ⟨n, [], (b.drop y).take n, La, vc - y, by rw [HL0.out]; omega, HL0.out.symm, by rw [HL0.out], Lib.hid (by rw [HL0.out]; simp; omega), Lib.hid (PsO.nil _ _), Lib.hid (fun p hp => by cases hp), by rw [HL0.out]; exact HBS, Below.refl _ _, HF⟩
      case round =>
        obtain ⟨f, l', b', ra, rc, hf, rfl, rfl, HLN, HPS, HPB, HBB, hb, HRF⟩ := hrel
        obtain ⟨wo, rfl⟩ : ∃ x, x = wr := ⟨_, rfl⟩
        obtain ⟨La', Lc, rfl⟩ := PsO.shape HPS.out
        have hbz := hb.size
        by_cases hpos : 0 < b'.length
        · have hposi : (0 : Int) < (b'.length : Int) := by omega
          obtain ⟨f', rfl⟩ : ∃ f', f = f' + 1 := ⟨f - 1, by omega⟩
          have hne : b' ≠ [] := fun hc => by rw [hc] at hpos; simp at hpos
          have hrf := HRF.out
          unfold readF at hrf
          rw [if_neg hne] at hrf
          obtain ⟨⟨sc, p, m⟩, hs⟩ : ∃ s, stepL wh l' b' = s := ⟨_, rfl⟩
          rw [hs] at hrf
          simp only at hrf
          have HS := Lib.hid hs
          by_cases hsc : sc ≠ 0
          · rw [if_pos hsc] at hrf
            simp only [Prod.mk.injEq] at hrf
            obtain ⟨rfl, rfl⟩ := hrf
            have hsci : ¬ (sc : Int) = 0 := by omega
            have hh := HH.out
            rw [if_pos hsc] at hh
            simp only [Prod.mk.injEq] at hh
            obtain ⟨rfl, rfl, rfl⟩ := hh
            have HSC := Lib.hid hsc
            clear hs HH hne hsc HRF HF
            go_wp2_with (go_at_call 191; go_must (refine one_bad wh _ _ b' l' sc p m HSC.out HS.out _ (HBB.out.below hb) (HPS.out.ps HPB.out) (HT.out.below hb) _ ?_); intro x1 x2 x3 x4 x5 x6 x7 w5 hb5)
            have hbx := below_then hb hb5 hb.size
            go_ret3
            exact HR.out none 0 _ (PsO.nil _ _) (hbx.alloc hbx.size _)
          · have hs0 : sc = 0 := by omega
            subst hs0
            rw [if_neg hsc] at hrf
            obtain ⟨um, rfl, hu1, hu2, _, hgp, _, _, hi0, hi1, _, _⟩ := stepL_ok hs
            rw [Int.toNat_natCast] at hrf
            have HRF2 := Lib.hid hrf
            obtain ⟨Lb, hsl, hbs⟩ := bs_from HBB.out hu2
            have hbs2 := Lib.hid hbs
            have HPBP := Lib.hid (hgp.pb hi0 hi1)
            have hll : l'.length + 1 ≤ 100000000 := by have := HLN.out; omega
            have HRF3 := HRF2
            clear hs hrf hgp hsc HRF hbs hne
            obtain ⟨ds, hds, hrow, heach, hap⟩ := HPS.out
            have HDS := Lib.hid hds
            have HEACH := Lib.hid heach
            have HROW := Lib.hid hrow
            have HAP := Lib.hid hap
            clear heach hrow hap
            go_wp2_with (first
              | (go_at_call 191; go_must (refine one_ok wh _ _ b' l' p um HS.out _ (HBB.out.below hb) (HPS.out.ps HPB.out) (HT.out.below hb) _ ?_); intro d5 w5 hown5 hb5; obtain ⟨da, dc, rfl⟩ := owns_shape hown5; have hrow5 := World.ownsRow.alloc (owns_below HROW.out hb5) (Obj.cells #[Value.int .i64 p.id, Value.int .i64 p.num, Value.string (str p.text), Value.string (str p.pair), Value.slice da p.data.length dc] 147); have hbx := below_then hb hb5 hb.size; have hx5 := hbx.alloc hbx.size (Obj.cells #[Value.int .i64 p.id, Value.int .i64 p.num, Value.string (str p.text), Value.string (str p.pair), Value.slice da p.data.length dc] 147); have hrd := rd_lit (w5.alloc (Obj.cells #[Value.int .i64 p.id, Value.int .i64 p.num, Value.string (str p.text), Value.string (str p.pair), Value.slice da p.data.length dc] 147)) #[Value.int .i64 p.id, Value.int .i64 p.num, Value.string (str p.text), Value.string (str p.pair), Value.slice da p.data.length dc] 147 5 1 rfl; rw [show (w5.alloc (Obj.cells #[Value.int .i64 p.id, Value.int .i64 p.num, Value.string (str p.text), Value.string (str p.pair), Value.slice da p.data.length dc] 147)).heap.size = w5.heap.size + 1 by simp] at hrd)
              | (at_builtin; go_must (refine wpList_app (by rfl) (.tmp 50) (.tmp 52) 32 (by rfl) w.heap.size 147 (.agg #[Value.int .i64 0, Value.int .i64 0, Value.string ⟨#[]⟩, Value.string ⟨#[]⟩, Value.slice none 0 0]) 5 72 Tryz.underlying32 Tryz.info147 rfl (by decide) _ _ _ _ rfl (World.ownsRow.alloc hrow5 _) _ _ _ _ rfl hrd (pc_oneCell _ _ _) (by simp) (by unfold maxLen; omega) (by omega) (by have := hbx.size; simp; omega) ?_)))
            intro ad6 c6 w6 hown6 hg6
            have hk6 : Keeps 5 w5 w6 := (Keeps.below (((Below.refl w5.heap.size w5).alloc (Nat.le_refl _) _).alloc (by simp) _)).trans (Keeps.grown5 (hrow5.alloc _) hg6 (by decide))
            have hbN : Below w.heap.size w w6 := below_app (hx5.alloc hx5.size _) hg6 (by have := hbx.size; simp; omega) (hrow5.alloc _)
            have hnew : ∀ v ∈ ds, Unlike v (.slice da p.data.length dc) := by
              intro v hv k hk hc
              obtain ⟨i, hi, rfl⟩ := List.getElem_of_mem hv
              have h1 := ((HEACH.out i (by rw [← HDS.out]; exact hi)).lt k hk).2
              have h2 := (hown5.lt k hc).1
              omega
            have hPS6 : PsO w6 w.heap.size (.slice ad6 (l'.length + 1) c6) (l' ++ [p]) := PsO.push HDS.out (fun i hi => owns_below (HEACH.out i hi) hb5) hk6 hown6 (owns_mono hown5 hb.size) HAP.out hnew
            have HPS6 := Lib.hid hPS6
            have HPB6 : Hid (∀ q ∈ l' ++ [p], PB q) := Lib.hid fun q hq => by
              rcases List.mem_append.1 hq with h | h
              · exact HPB.out q h
              · obtain rfl := List.mem_singleton.1 h
                exact HPBP.out
            clear hPS6 hnew hk6 hown6 hg6 hrow5 hown5 hrd hx5 hb5 hbx
            go_wp2
            go_roundg (b'.drop um).length
            case measure => rw [List.length_drop]; omega
            case rel => exact ⟨f', l' ++ [p], b'.drop um, Lb, rc - um, by rw [List.length_drop]; omega, rfl, by rw [List.length_drop], Lib.hid (by have := HLN.out; rw [List.length_append, List.length_drop]; simp; omega), HPS6, HPB6, by rw [List.length_drop]; exact hbs2, hbN, HRF3⟩
        · have hb0 : b' = [] := List.eq_nil_of_length_eq_zero (by omega)
          subst hb0
          have hrf := HRF.out
          rw [readF_nil] at hrf
          simp only [Prod.mk.injEq] at hrf
          obtain ⟨rfl, rfl⟩ := hrf
          have hh := HH.out
          rw [if_neg (by simp)] at hh
          simp only [Prod.mk.injEq] at hh
          obtain ⟨rfl, rfl, rfl⟩ := hh
          clear HH HRF HF
          go_wp2
          go_ret3
          exact HR.out _ _ _ HPS.out hb
end Go.Proofs.YtgimbocoamnkjaaGreatDoor

/- prop.Same, walked. -/
namespace Go.Proofs.YtgimbocoamnkjaaGreatDoor
open Go.RowKit

set_option maxRecDepth 100000 in
set_option maxHeartbeats 1600000 in
theorem samep_any (d e : Value) (p q : Pr) (r : Bool) (hr : samePr p q = r) (w : World) (hp : PC w d p) (hq : PC w e q) (R : Ending → World → Prop)
    (hR : ∀ w', Below w.heap.size w w' → R (.returned (.bool r)) w') :
    Calls Tryz.prog 188 #[.agg #[.int .i64 p.id, .int .i64 p.num, .string (str p.text), .string (str p.pair), d], .agg #[.int .i64 q.id, .int .i64 q.num, .string (str q.text), .string (str q.pair), e]] w R := by
  obtain ⟨i, n, t, u, x⟩ := p
  obtain ⟨i', n', t', u', x'⟩ := q
  have hb0 := ((Below.refl w.heap.size w).alloc (Nat.le_refl _) (Obj.cells #[Value.int .i64 i, Value.int .i64 n, .string (str t), .string (str u), d] 147)).alloc (by simp) (Obj.cells #[Value.int .i64 i', Value.int .i64 n', .string (str t'), .string (str u'), e] 147)
  have k1 := run_conv_bs (P := Tryz.prog) Tryz.underlying22 Tryz.underlying5 Tryz.underlying9 (hp.hd.below hb0)
  have k2 := run_conv_bs (P := Tryz.prog) Tryz.underlying22 Tryz.underlying5 Tryz.underlying9 (hq.hd.below hb0)
  unfold samePr at hr
  simp only at *
  obtain ⟨r1, h1⟩ : ∃ x, (i == i') = x := ⟨_, rfl⟩
  obtain ⟨r2, h2⟩ : ∃ x, (n == n') = x := ⟨_, rfl⟩
  obtain ⟨r3, h3⟩ : ∃ x, (t == t') = x := ⟨_, rfl⟩
  obtain ⟨r4, h4⟩ : ∃ x, (u == u') = x := ⟨_, rfl⟩
  obtain ⟨r5, h5⟩ : ∃ y, (x == x') = y := ⟨_, rfl⟩
  rw [h1, h2, h3, h4, h5] at hr
  have HR := Lib.hid hr
  clear hp hq hr
  cases r1 with
  | false =>
    obtain rfl : r = false := HR.out.symm
    clear HR
    go_enter Tryz.func188, Tryz.ntmps188
    go_wp2
    all_goals first | exact hb0 | exact hR _ hb0
  | true =>
    cases r2 with
    | false =>
      obtain rfl : r = false := HR.out.symm
      clear HR
      go_enter Tryz.func188, Tryz.ntmps188
      go_wp2
      all_goals first | exact hb0 | exact hR _ hb0
    | true =>
      cases r3 with
      | false =>
        obtain rfl : r = false := HR.out.symm
        clear HR
        go_enter Tryz.func188, Tryz.ntmps188
        go_wp2
        all_goals first | exact hb0 | exact hR _ hb0
      | true =>
        cases r4 with
        | false =>
          obtain rfl : r = false := HR.out.symm
          clear HR
          go_enter Tryz.func188, Tryz.ntmps188
          go_wp2
          all_goals first | exact hb0 | exact hR _ hb0
        | true =>
          obtain rfl : r = r5 := by have := HR.out; simpa using this.symm
          clear HR
          go_enter Tryz.func188, Tryz.ntmps188
          go_wp2
          all_goals first | exact hb0 | exact hR _ hb0

set_option maxRecDepth 100000 in
set_option maxHeartbeats 1000000 in
theorem eqfunc_any (v u : Value) (l m : List Pr) (r : Bool) (hr : sameR l m = r) (w : World) (hv : Ps w v l) (hu : Ps w u m) (R : Ending → World → Prop)
    (hR : ∀ w', Below w.heap.size w w' → R (.returned (.bool r)) w') :
    Calls Tryz.prog 187 #[v, u, .func (.func 188) #[] #[]] w R := by
  have HR := Lib.hid hR
  have HV := Lib.hid hv
  have HU := Lib.hid hu
  have HRR := Lib.hid hr
  clear hR hr
  obtain ⟨va, vc, rfl, _⟩ := hv
  obtain ⟨ua, uc, rfl, _⟩ := hu
  by_cases hlen : l.length = m.length
  · have hln : (l.length : Int) = (m.length : Int) := by omega
    have HLEN := Lib.hid hlen
    have hne : ((l.length : Int) != (m.length : Int)) = false := by simp [hlen]
    clear hlen hln
    go_enter Tryz.func187, Tryz.ntmps187
    go_wp2
    go_loopg [7, 8, 9, 17] l.length (fun gn _ _ _ i wr => ∃ k : Nat, k ≤ l.length ∧ gn = l.length - k ∧ i = .int .i64 k ∧ Below w.heap.size w wr ∧ Hid (l.take k = m.take k))
    case atStart => exact ⟨0, Nat.zero_le _, by omega, rfl, Below.refl _ _, Lib.hid rfl⟩
    case round =>
      obtain ⟨k, hk, rfl, rfl, hb, HS⟩ := hrel
      obtain ⟨wo, rfl⟩ : ∃ x, x = wr := ⟨_, rfl⟩
      by_cases hlt : k < l.length
      · have hkk : (k : Int) < (l.length : Int) := by omega
        have hlt2 : k < m.length := by have := HLEN.out; omega
        have hkk2 : (k : Int) < (m.length : Int) := by omega
        obtain ⟨va', vc', ee, _, _, _, v4⟩ := HV.out.below hb
        simp only [Value.slice.injEq] at ee
        obtain ⟨rfl, -, rfl⟩ := ee
        obtain ⟨vb, vo, rfl, v5⟩ := v4 (by omega)
        obtain ⟨d0, ⟨p0, p1, p2, p3, p4⟩, hec⟩ := v5 k hlt
        obtain ⟨ua', uc', ee, _, _, _, u4⟩ := HU.out.below hb
        simp only [Value.slice.injEq] at ee
        obtain ⟨rfl, -, rfl⟩ := ee
        obtain ⟨ub, uo, rfl, u5⟩ := u4 (by omega)
        obtain ⟨e0, ⟨q0, q1, q2, q3, q4⟩, hed⟩ := u5 k hlt2
        have HT1 : Hid (l.take (k + 1) = l.take k ++ [l[k]]) := Lib.hid (List.take_succ_eq_append_getElem hlt)
        have HT2 : Hid (m.take (k + 1) = m.take k ++ [m[k]]) := Lib.hid (List.take_succ_eq_append_getElem hlt2)
        have HG1 : Hid (l[k]? = some l[k]) := Lib.hid (List.getElem?_eq_getElem hlt)
        have HG2 : Hid (m[k]? = some m[k]) := Lib.hid (List.getElem?_eq_getElem hlt2)
        obtain ⟨y, hy⟩ : ∃ y, l[k] = y := ⟨_, rfl⟩
        obtain ⟨y', hy'⟩ : ∃ y, m[k] = y := ⟨_, rfl⟩
        rw [hy] at p0 p1 p2 p3 hec HT1 HG1
        rw [hy'] at q0 q1 q2 q3 hed HT2 HG2
        obtain ⟨d1, d2, d3, rfl⟩ : ∃ a n c, d0 = .slice a n c := by obtain ⟨a, c, h, _⟩ := hec.hd; exact ⟨_, _, _, h⟩
        obtain ⟨e1, e2, e3, rfl⟩ : ∃ a n c, e0 = .slice a n c := by obtain ⟨a, c, h, _⟩ := hed.hd; exact ⟨_, _, _, h⟩
        have hyA : Below wo.heap.size wo (wo.alloc (Obj.cells #[.int .i64 y.id, .int .i64 y.num, .string (str y.text), .string (str y.pair), .slice d1 d2 d3] 147)) := (Below.refl _ _).alloc (Nat.le_refl _) _
        have qq0 := cell_later hyA q0
        have qq1 := cell_later hyA q1
        have qq2 := cell_later hyA q2
        have qq3 := cell_later hyA q3
        have qq4 := cell_later hyA q4
        have hyE : Below wo.heap.size wo ((wo.alloc (Obj.cells #[.int .i64 y.id, .int .i64 y.num, .string (str y.text), .string (str y.pair), .slice d1 d2 d3] 147)).alloc (Obj.cells #[.int .i64 y'.id, .int .i64 y'.num, .string (str y'.text), .string (str y'.pair), .slice e1 e2 e3] 147)) := hyA.alloc (by simp) _
        have HEC := Lib.hid (hec.below hyE)
        have HED := Lib.hid (hed.below hyE)
        have HBE := Lib.hid (below_tr hb hyE)
        obtain ⟨g, hg⟩ : ∃ g, samePr y y' = g := ⟨_, rfl⟩
        have HGG := Lib.hid hg
        clear v4 v5 u4 u5 hy hy' hec hed hg hyA hyE
        cases g with
        | true =>
          have hyy : y = y' := (samePr_iff y y').1 HGG.out
          have HN : Hid (l.take (k + 1) = m.take (k + 1)) := by
            refine Lib.hid ?_
            rw [HT1.out, HT2.out, HS.out, hyy]
          clear hyy
          go_wp2_with (go_at_call 188; go_must (refine samep_any _ _ y y' true HGG.out _ HEC.out HED.out _ ?_); intro w5 hb5; have hx5 := below_tr HBE.out hb5)
          go_roundg (l.length - (k + 1))
          case measure => omega
          case rel => exact ⟨k + 1, by omega, rfl, by go_num, hx5, HN⟩
        | false =>
          have hne' : y ≠ y' := fun h => by have := (samePr_iff y y').2 h; rw [HGG.out] at this; cases this
          obtain rfl : r = false := by
            rw [← HRR.out]
            refine decide_eq_false fun h => hne' ?_
            have h1 := HG1.out
            rw [h, HG2.out] at h1
            exact (Option.some.inj h1).symm
          clear hne'
          go_wp2_with (go_at_call 188; go_must (refine samep_any _ _ y y' false HGG.out _ HEC.out HED.out _ ?_); intro w5 hb5; have hx5 := below_tr HBE.out hb5)
          exact HR.out _ hx5
      · have hkk : ¬ (k : Int) < (l.length : Int) := by omega
        obtain rfl : r = true := by
          rw [← HRR.out]
          refine decide_eq_true ?_
          have := HS.out
          rwa [List.take_of_length_le (by omega), List.take_of_length_le (by have := HLEN.out; omega)] at this
        go_wp2
        exact HR.out _ hb
  · have hne : ((l.length : Int) != (m.length : Int)) = true := by simp; omega
    obtain rfl : r = false := by
      rw [← HRR.out]
      exact decide_eq_false fun h => hlen (by rw [h])
    have hln : ¬ (l.length : Int) = (m.length : Int) := by omega
    clear hlen
    go_enter Tryz.func187, Tryz.ntmps187
    go_wp2
    exact HR.out _ (Below.refl _ _)

set_option maxRecDepth 100000 in
theorem psame_any (v u : Value) (l m : List Pr) (r : Bool) (hr : sameR l m = r) (w : World) (hv : Ps w v l) (hu : Ps w u m) (R : Ending → World → Prop)
    (hR : ∀ w', Below w.heap.size w w' → R (.returned (.bool r)) w') :
    Calls Tryz.prog 169 #[v, u] w R := by
  have HR := Lib.hid hR
  clear hR
  have HRR := Lib.hid hr
  have HV := Lib.hid hv
  have HU := Lib.hid hu
  obtain ⟨va, vc, rfl, _⟩ := hv
  obtain ⟨ua, uc, rfl, _⟩ := hu
  clear hr
  go_enter Tryz.func169, Tryz.ntmps169
  go_wp2_with (go_at_call 187; go_must (refine eqfunc_any _ _ l m r HRR.out _ HV.out HU.out _ ?_); intro w1 hb1)
  exact HR.out _ hb1
end Go.Proofs.YtgimbocoamnkjaaGreatDoor
