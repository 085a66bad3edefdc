/- tidingslaw09.spread; what comes of it, in plain lists. -/
import Derived.Test.YtgkgahjdjkmmnaaMergeThins
import Derived.Laws.BitsLemmas
import Derived.Deep.RegionLaw
namespace Go.Proofs.Ytgkgahjdjkmmnaa
open Go.RowKit

theorem bits3 (x : Int) : ∃ n : Nat, n < 4 ∧ bits .and .i64 x 3 = (n : Int) := by
  have h : (BitVec.ofInt 64 x &&& BitVec.ofInt 64 3).toNat ≤ 3 := by
    rw [BitVec.toNat_and]
    exact Nat.le_trans Nat.and_le_right (by decide)
  refine ⟨(BitVec.ofInt 64 x &&& BitVec.ofInt 64 3).toNat, by omega, ?_⟩
  show IntKind.i64.wrap (((BitVec.ofInt 64 x &&& BitVec.ofInt 64 3).toNat : Nat) : Int) = _
  rw [IntKind.wrap_i64]
  omega
/-- Where the i-th entry goes. -/
def kofI (b : List Int) (i : Nat) : Nat := if b.length = 0 then 0 else (bits .and .i64 (b.getD (i % b.length) 0) 3).toNat
theorem kofI_lt (b : List Int) (i : Nat) : kofI b i < 4 := by
  unfold kofI
  split
  · omega
  · obtain ⟨n, h1, h2⟩ := bits3 (b.getD (i % b.length) 0)
    omega
def spreadK (l : List Ent) (b : List Int) : Nat → List (List Ent)
  | 0 => [[], [], [], []]
  | i + 1 => (spreadK l b i).set (kofI b i) ((spreadK l b i).getD (kofI b i) [] ++ (l.drop i).take 1)
theorem spreadK_len (l : List Ent) (b : List Int) : ∀ i, (spreadK l b i).length = 4
  | 0 => rfl
  | i + 1 => by rw [spreadK, List.length_set]; exact spreadK_len l b i
theorem spreadK_sub (l : List Ent) (b : List Int) : ∀ i, i ≤ l.length → ∀ r ∈ spreadK l b i, r.Sublist (l.take i)
  | 0, _, r, hr => by
    simp [spreadK] at hr
    rw [hr]
    exact List.nil_sublist _
  | i + 1, hi, r, hr => by
    rw [spreadK] at hr
    have e : l.take (i + 1) = l.take i ++ (l.drop i).take 1 := by
      rw [List.take_succ_eq_append_getElem (by omega), List.drop_eq_getElem_cons (by omega)]
      rfl
    rw [e]
    rcases List.mem_or_eq_of_mem_set hr with h | rfl
    · exact (spreadK_sub l b i (by omega) r h).trans (List.sublist_append_left _ _)
    · refine List.Sublist.append ?_ (List.Sublist.refl _)
      have hk := kofI_lt b i
      have hl := spreadK_len l b i
      rw [getD_mem (by omega)]
      exact spreadK_sub l b i (by omega) _ (List.getElem_mem _)
theorem spreadK_mem (l : List Ent) (b : List Int) : ∀ i, i ≤ l.length → ∀ x ∈ l.take i, ∃ r ∈ spreadK l b i, x ∈ r
  | 0, _, x, hx => by simp at hx
  | i + 1, hi, x, hx => by
    have e : l.take (i + 1) = l.take i ++ (l.drop i).take 1 := by
      rw [List.take_succ_eq_append_getElem (by omega), List.drop_eq_getElem_cons (by omega)]
      rfl
    rw [e] at hx
    have hk := kofI_lt b i
    have hl := spreadK_len l b i
    rw [spreadK]
    rcases List.mem_append.1 hx with hx | hx
    · obtain ⟨r, hr, hxr⟩ := spreadK_mem l b i (by omega) x hx
      obtain ⟨j, hj, rfl⟩ := List.getElem_of_mem hr
      by_cases hjk : j = kofI b i
      · subst hjk
        refine ⟨_, List.mem_set (by omega) _, ?_⟩
        rw [getD_mem (by omega)]
        exact List.mem_append_left _ hxr
      · refine ⟨(spreadK l b i)[j], ?_, hxr⟩
        rw [List.mem_iff_getElem]
        exact ⟨j, by rw [List.length_set]; exact hj, by rw [List.getElem_set, if_neg (fun h => hjk h.symm)]⟩
    · exact ⟨_, List.mem_set (by omega) _, List.mem_append_right _ hx⟩
theorem spreadK_total (l : List Ent) (b : List Int) : ∀ i, totalL (spreadK l b i) ≤ i
  | 0 => by simp [spreadK, totalL]
  | i + 1 => by
    have ih := spreadK_total l b i
    have hk := kofI_lt b i
    have hl := spreadK_len l b i
    rw [spreadK]
    have key : ∀ (ls : List (List Ent)) (k : Nat) (y : List Ent), k < ls.length → totalL (ls.set k (ls.getD k [] ++ y)) = totalL ls + y.length := by
      intro ls
      induction ls with
      | nil => intro k y h; simp at h
      | cons a r ih2 =>
        intro k y h
        cases k with
        | zero => simp [totalL]; omega
        | succ k =>
          have := ih2 k y (by simpa using h)
          simp only [totalL, List.set_cons_succ, List.map_cons, List.sum_cons, List.getD_cons_succ] at this ⊢
          omega
    rw [key _ _ _ (by omega)]
    have := List.length_take_le 1 (l.drop i)
    omega

theorem foldl_has {α : Type} {lt : α → α → Bool} (h : SWO lt) : ∀ (f s : List α) (x : α), Srt lt s → x ∈ s ∨ x ∈ f → ∃ y ∈ f.foldl (putG lt) s, lt x y = false ∧ lt y x = false
  | [], s, x, _, hx => by
    rcases hx with hx | hx
    · exact ⟨x, hx, h.irr x, h.irr x⟩
    · cases hx
  | a :: f, s, x, hs, hx => by
    rw [List.foldl_cons]
    have hsub : ∀ y ∈ putG lt s a, ∃ z ∈ f.foldl (putG lt) (putG lt s a), lt y z = false ∧ lt z y = false := fun y hy => foldl_has h f _ y (srt_putG h s a hs) (.inl hy)
    rcases hx with hx | hx
    · exact hsub x ((mem_putG h s a hs x).2 (.inl hx))
    · rcases List.mem_cons.1 hx with rfl | hx
      · by_cases hf : Free lt s x
        · exact hsub x ((mem_putG h s x hs x).2 (.inr ⟨rfl, hf⟩))
        · have : ∃ y ∈ s, lt y x = false ∧ lt x y = false := by
            have hf' : ∃ y, ¬ (y ∈ s → (lt y x = true ∨ lt x y = true)) := Classical.not_forall.1 hf
            obtain ⟨y, hy⟩ := hf'
            obtain ⟨hy1, hy2⟩ := Classical.not_imp.1 hy
            refine ⟨y, hy1, ?_, ?_⟩
            · cases hc : lt y x with
              | false => rfl
              | true => exact absurd (.inl hc) hy2
            · cases hc : lt x y with
              | false => rfl
              | true => exact absurd (.inr hc) hy2
          obtain ⟨y, hy, h1, h2⟩ := this
          obtain ⟨z, hz, h3, h4⟩ := hsub y ((mem_putG h s x hs y).2 (.inl hy))
          refine ⟨z, hz, ?_, ?_⟩
          · cases hc : lt x z with
            | false => rfl
            | true => rcases h.ntr x y z hc with h5 | h5
                      · rw [h2] at h5; cases h5
                      · rw [h3] at h5; cases h5
          · cases hc : lt z x with
            | false => rfl
            | true => rcases h.ntr z y x hc with h5 | h5
                      · rw [h4] at h5; cases h5
                      · rw [h1] at h5; cases h5
      · exact foldl_has h f _ x (srt_putG h s a hs) (.inr hx)

/-- However a row is spread, it comes back. -/
theorem merge_back {l : List Ent} {ls : List (List Ent)} (hl : Srt lessE l) (hs : ∀ r ∈ ls, r.Sublist l) (hm : ∀ x ∈ l, ∃ r ∈ ls, x ∈ r) : mergeL ls = (l, 0) := by
  have hsr : ∀ r ∈ ls, Srt lessE r := fun r hr => hl.sublist (hs r hr)
  rw [mergeL, if_pos (List.all_eq_true.2 fun r hr => (sortedL_srt r).2 (hsr r hr)), merge_put ls hsr]
  have hres := srt_foldl swo ls.flatten [] List.Pairwise.nil
  have hsub : ∀ x, x ∈ ls.flatten.foldl putE [] → x ∈ l := by
    intro x hx
    rcases mem_puts_of _ _ x hx with h | h
    · cases h
    · obtain ⟨r, hr, hxr⟩ := List.mem_flatten.1 h
      exact (hs r hr).mem hxr
  congr 1
  refine srt_ext swo _ _ hres hl fun x => ⟨hsub x, fun hx => ?_⟩
  obtain ⟨r, hr, hxr⟩ := hm x hx
  obtain ⟨y, hy, h1, h2⟩ := foldl_has swo ls.flatten [] x List.Pairwise.nil (.inr (List.mem_flatten.2 ⟨r, hr, hxr⟩))
  have hyl := hsub y hy
  obtain ⟨i, hi, rfl⟩ := List.getElem_of_mem hx
  obtain ⟨j, hj, rfl⟩ := List.getElem_of_mem hyl
  have : i = j := by
    rcases Nat.lt_trichotomy i j with h | h | h
    · have := (List.pairwise_iff_getElem.1 hl) i j hi hj h
      rw [h1] at this; cases this
    · exact h
    · have := (List.pairwise_iff_getElem.1 hl) j i hj hi h
      rw [h2] at this; cases this
  subst this
  exact hy
theorem spread_merge {l : List Ent} (hl : Srt lessE l) (b : List Int) : mergeL (spreadK l b l.length) = (l, 0) := by
  refine merge_back hl (fun r hr => ?_) (fun x hx => ?_)
  · have := spreadK_sub l b l.length (Nat.le_refl _) r hr
    rwa [List.take_length] at this
  · exact spreadK_mem l b l.length (Nat.le_refl _) x (by rw [List.take_length]; exact hx)
theorem rowL_srt (l : List Ent) : Srt lessE (rowL l) := srt_foldl swo _ _ List.Pairwise.nil

theorem EsR.grownOf {w0 w w' : World} {B : Nat} {row : Option Nat} {v : Value} {l : List Ent} (h : EsR w0 w B v l) (hg : w.grownBy w' row) (hne : ∀ k, v.ownBlock = some k → some k ≠ row) : EsR w0 w' B v l := by
  obtain ⟨kv, h1, h2, h3⟩ := h
  exact ⟨kv, h1, owns_grown h2 hg hne, h3⟩
theorem EsR.setOwn {w0 w : World} {B B' n c g i : Nat} {v u : Value} {l : List Ent} {xs : List Value} (h : EsR w0 w B v l) (ho : w.ownsRow B' 24 1 (.slice (some ⟨g, 0, none⟩) n c) n xs) : EsR w0 (w.setCell ⟨g, i, none⟩ u) B v l := by
  refine h.grownOf (grownBy_setCell w ⟨g, i, none⟩ u) fun k hk hc => ?_
  obtain ⟨kv, h1, h2, h3⟩ := h
  have e := Option.some.inj hc
  subst e
  exact own_size_ne h2 ho (by decide) _ hk rfl
theorem below_le9 {B : Nat} {a wr : World} {o : Obj} (h : Below B a wr) (hB : B = a.heap.size := by rfl) : B ≤ (wr.alloc o).drew.heap.size := by
  have h1 := h.size
  have h2 : (wr.alloc o).drew.heap.size = wr.heap.size + 1 := by show (wr.heap.push o).size = _; simp
  omega

set_option maxRecDepth 100000 in
set_option maxHeartbeats 8000000 in
theorem spread_any (v u : Value) (l : List Ent) (b : List Int) (w : World) (hv : Es w v l) (hu : Is w u b) (hn : l.length ≤ 100000) (hbl : b.length ≤ 9223372036854775807) (R : Ending → World → Prop)
    (hR : ∀ L' w', Ess w' L' (spreadK l b l.length) → Below w.heap.size w w' → R (.returned L') w') :
    Calls Try.prog 19 #[v, u] w R := by
  have HV := Lib.hid hv
  have HU := Lib.hid hu
  have HR := Lib.hid hR
  obtain ⟨va, vc, rfl, _⟩ := hv
  obtain ⟨ua, uc, rfl, _⟩ := hu
  clear hR
  go_enter Try.func19, Try.ntmps19
  obtain ⟨i0, hi, hz, hi1, hi2⟩ := info_parts Try.info24
  go_wp2_with (at_make; go_must (refine wpList_make_full _ (by rfl) _ _ 22 (by rfl) w.heap.size 24 i0 (.slice none 0 0) 1 Try.underlying22 hi hz hi1 _ _ _ _ 4 rfl rfl rfl rfl (by rw [hi2]; omega) (by unfold maxLen; omega) (Nat.le_refl _) ?_))
  intro w1 hown1 hg1
  have hown1' : w1.ownsRow w.heap.size 24 1 (.slice (some ⟨w.heap.size, 0, none⟩) 4 4) 4 [.slice none 0 0, .slice none 0 0, .slice none 0 0, .slice none 0 0] := by
    rw [made1] at hown1
    exact hown1
  have hb1 : Below w.heap.size w w1 := (Below.refl _ _).grown hg1 (Nat.le_refl _) (fun k hk => by cases hk)
  have HOWN1 := Lib.hid hown1'
  have HB1 := Lib.hid hb1
  clear hown1 hown1' hg1 hb1
  go_wp2
  go_loopg [6] l.length (fun gn i wr => ∃ (k : Nat) (vs : List Value), k ≤ l.length ∧ gn = l.length - k ∧ i = .int .i64 k ∧ Below w.heap.size w wr ∧ vs.length = 4 ∧ Hid (wr.ownsRow w.heap.size 24 1 (.slice (some ⟨w.heap.size, 0, none⟩) 4 4) 4 vs) ∧ Hid (∀ (j : Nat) (h : j < 4), ∃ v, vs[j]? = some v ∧ EsR w wr w.heap.size v ((spreadK l b k).getD j [])) ∧ Hid (∀ (i j : Nat) (v u : Value), i < j → vs[i]? = some v → vs[j]? = some u → Unlike v u))
  case atStart =>
    refine ⟨0, _, Nat.zero_le _, rfl, rfl, HB1.out, rfl, HOWN1, fun j hj => ?_, fun i j v u hij hvi huj q hq => ?_⟩
    · match j, hj with
      | 0, _ => exact ⟨_, rfl, EsR.nil _ _ _⟩
      | 1, _ => exact ⟨_, rfl, EsR.nil _ _ _⟩
      | 2, _ => exact ⟨_, rfl, EsR.nil _ _ _⟩
      | 3, _ => exact ⟨_, rfl, EsR.nil _ _ _⟩
    · have hm := List.mem_of_getElem? hvi
      simp at hm
      rw [hm] at hq
      cases hq
  case round =>
    obtain ⟨k, vs, hk, rfl, rfl, hb, hvl, HOWN, HEACH, HUN⟩ := hrel
    by_cases hlt : k < l.length
    · have hkk : (k : Int) < (l.length : Int) := by omega
      have hk0 : (0 : Int) ≤ (k : Int) := by omega
      by_cases hbn : b.length = 0
      · have hbi : ¬ (0 : Int) < (b.length : Int) := by omega
        have hkz : kofI b k = 0 := by rw [kofI, if_pos hbn]
        have HKZ := Lib.hid hkz
        clear hkz hbn
        go_wp2
        have hkq : kofI b k = 0 := HKZ.out
        have hkq4 : 0 < 4 := by rw [← hkq]; exact kofI_lt b k
        have hsucc : spreadK l b (k + 1) = (spreadK l b k).set (0) ((spreadK l b k).getD (0) [] ++ (l.drop k).take 1) := by rw [spreadK, hkq]
        have HS := Lib.hid hsucc
        obtain ⟨va', vc', ee, _, _, _, v4⟩ := HV.out.below hb
        simp only [Value.slice.injEq] at ee
        obtain ⟨rfl, -, rfl⟩ := ee
        obtain ⟨vb, vo, rfl, v5⟩ := v4 (by omega)
        obtain ⟨k0, v0, ⟨p0, p1, p2, p3⟩, _⟩ := v5 k hlt
        obtain ⟨y, hy⟩ : ∃ y, l[k] = y := ⟨_, rfl⟩
        have hec0 : EC w k0 v0 y := by
          obtain ⟨ya', yc', ee, _, _, _, y4⟩ := HV.out
          simp only [Value.slice.injEq] at ee
          obtain ⟨rfl, -, rfl⟩ := ee
          obtain ⟨yb, yo, ee, y5⟩ := y4 (by omega)
          simp only [Option.some.injEq, Addr.mk.injEq, and_true] at ee
          obtain ⟨rfl, rfl⟩ := ee
          obtain ⟨k9, v9, p9, hec9⟩ := y5 k hlt
          have p9' := p9.below hb
          have e1 := p0.symm.trans p9'.1
          have e2 := p1.symm.trans p9'.2.1
          rw [Option.some.inj e1, Option.some.inj e2, ← hy]
          exact hec9
        rw [hy] at p2 p3
        have hd1 : (l.drop k).take 1 = [y] := by rw [List.drop_eq_getElem_cons hlt, hy]; rfl
        have HD1 := Lib.hid hd1
        have HEC0 := Lib.hid hec0
        obtain ⟨k1, k2, k3, rfl⟩ : ∃ a n c, k0 = .slice a n c := by obtain ⟨a, c, h, _⟩ := hec0.hk; exact ⟨_, _, _, h⟩
        obtain ⟨v1, v2, v3, rfl⟩ := EC.shape hec0
        obtain ⟨rv, hrv, hres⟩ := HEACH.out (0) hkq4
        obtain ⟨row, hrow⟩ : ∃ row, (spreadK l b k).getD (0) [] = row := ⟨_, rfl⟩
        rw [hrow] at hres
        have hrlen : row.length ≤ k := by
          have h0 := spreadK_len l b k
          have h1 : row ∈ spreadK l b k := by rw [← hrow, getD_mem (by omega)]; exact List.getElem_mem _
          have := (spreadK_sub l b k (by omega) row h1).length_le
          rw [List.length_take] at this
          omega
        have HROW := Lib.hid hrow
        obtain ⟨ra, rc, rfl⟩ := EsR.shape hres
        obtain ⟨kvr, hkvr, hrown, hreach⟩ := hres
        have c0 : wr.cell? ⟨w.heap.size, 0, none⟩ = some (Value.slice ra row.length rc) := by rw [HOWN.out.cellAt (0) (by omega)]; exact hrv
        have f0 := HOWN.out.frozenAt (0)
        obtain ⟨rl, hrl⟩ : ∃ rl, row.length = rl := ⟨_, rfl⟩
        have HRL := Lib.hid hrl
        rw [hrl] at c0 hrlen hrown
        have HRV : Hid (vs[0]? = some (Value.slice ra rl rc)) := by rw [← hrl]; exact hrv
        have HROWN := Lib.hid hrown
        clear v4 v5 hsucc hy hd1 hec0 hrv hrow hrl hrown
        replace c0 : wr.cell? ⟨w.heap.size, 0, none⟩ = some (Value.slice ra rl rc) := c0
        have c0d : wr.drew.cell? ⟨w.heap.size, 0, none⟩ = some (Value.slice ra rl rc) := c0
        have c0o := fun o => Lib.cell?_alloc_marked o c0
        have f0d : wr.drew.frozen? ⟨w.heap.size, 0, none⟩ = false := f0
        have hyE : Below wr.heap.size wr (wr.alloc (Obj.cells #[Value.slice k1 k2 k3, Value.slice v1 v2 v3, Value.int .i64 y.seq, Value.bool y.dead] 27)) := (Below.refl _ _).alloc (Nat.le_refl _) _
        have HYE := Lib.hid hyE
        have hrow9 : ((wr.alloc (Obj.cells #[Value.slice k1 k2 k3, Value.slice v1 v2 v3, Value.int .i64 y.seq, Value.bool y.dead] 27)).drew).ownsRow w.heap.size 27 4 (.slice ra rl rc) rl (ecs kvr row) := owns_below HROWN.out hyE.drew
        have HROW9 := Lib.hid hrow9
        have hrows9 := owns_below HOWN.out hyE.drew
        have HRS9 := Lib.hid hrows9
        clear hyE hrow9 hrows9
        go_region_law
          (first
            | (refine step_appAt (by rfl) (.tmp 31) (.tmp 36) 24 (by rfl) w.heap.size 27 (.agg #[.slice none 0 0, .slice none 0 0, .int .i64 0, .bool false]) 4 64 Try.underlying24 Try.info27 rfl (by decide) ra rl rc _ (by rfl) HROW9.out _ 1 1 [Value.slice k1 k2 k3, Value.slice v1 v2 v3, Value.int .i64 y.seq, Value.bool y.dead] (by rfl) ((rd_lit wr #[Value.slice k1 k2 k3, Value.slice v1 v2 v3, Value.int .i64 y.seq, Value.bool y.dead] 27 4 1 rfl).below (Below.refl _ _).drew) (ec_oneCell _ _ _ _ _ _) (fun h => by cases h) (by unfold maxLen; omega) (by omega) (below_le9 hb) ?_; intro ad6 c6 w6 hown6 hg6 hat6; have hrows6 := owns_grown HRS9.out hg6 (fun q hq hc => own_size_ne HRS9.out HROW9.out (by decide) q hq hc.symm); have c6c : w6.cell? ⟨w.heap.size, 0, none⟩ = some (Value.slice ra rl rc) := (by rw [hrows6.cellAt (0) (by omega)]; exact HRV.out); have f6c := hrows6.frozenAt (0)))
        all_goals
          have hst := hrows6.stored (0) (Value.slice ad6 (rl + 1) c6)
          have hb6 : Below w.heap.size w w6 := below_app (below_then hb HYE.out.drew hb.size) hg6 (below_le9 hb) HROW9.out
          have hb7 : Below w.heap.size w (w6.setCell ⟨w.heap.size, 0, none⟩ (Value.slice ad6 (rl + 1) c6)) := hb6.setCell (Nat.le_refl _) _
          have hnr : EsR w w6 w.heap.size (.slice ad6 (rl + 1) c6) (row ++ [y]) := EsR.push hkvr hreach HEC0.out (by rw [HRL.out]; exact hown6)
          have hsz6 : vs.length = 4 := hvl
          have hea : Hid (∀ (j : Nat) (h : j < 4), ∃ v, (vs.set (0) (Value.slice ad6 (rl + 1) c6))[j]? = some v ∧ EsR w (w6.setCell ⟨w.heap.size, 0, none⟩ (Value.slice ad6 (rl + 1) c6)) w.heap.size v ((spreadK l b (k + 1)).getD j [])) := by
            intro j hj
            have hlk := spreadK_len l b k
            by_cases hjk : j = 0
            · rw [hjk]
              refine ⟨_, List.getElem?_set_self (by omega), ?_⟩
              have e : (spreadK l b (k + 1)).getD (0) [] = row ++ [y] := by
                rw [HS.out, HROW.out, HD1.out, List.getD_eq_getElem?_getD, List.getElem?_set_self (by omega)]
                rfl
              rw [e]
              exact hnr.setOwn hrows6
            · obtain ⟨v, hv1, hv2⟩ := HEACH.out j hj
              refine ⟨v, by rw [List.getElem?_set_ne (fun h => hjk h.symm)]; exact hv1, ?_⟩
              have e : (spreadK l b (k + 1)).getD j [] = (spreadK l b k).getD j [] := by
                rw [HS.out, List.getD_eq_getElem?_getD, List.getElem?_set_ne (fun h => hjk h.symm), ← List.getD_eq_getElem?_getD]
              rw [e]
              have hv3 := (hv2.below (HYE.out.drew)).grownOf hg6 (fun q hq hc => by
                rcases Nat.lt_or_ge j (0) with hl | hl
                · exact HUN.out j (0) _ _ hl hv1 HRV.out q hq hc.symm
                · exact HUN.out (0) j _ _ (by omega) HRV.out hv1 q hc.symm hq)
              exact hv3.setOwn hrows6
          have hun : Hid (∀ (i j : Nat) (v u : Value), i < j → (vs.set (0) (Value.slice ad6 (rl + 1) c6))[i]? = some v → (vs.set (0) (Value.slice ad6 (rl + 1) c6))[j]? = some u → Unlike v u) := by
            have hnew : ∀ (j : Nat) (v : Value), j ≠ 0 → j < 4 → vs[j]? = some v → Unlike v (.slice ad6 (rl + 1) c6) := by
              intro j v hj hj4 hvj q hq hc
              obtain ⟨v', hv1, hv2⟩ := HEACH.out j hj4
              rw [hvj] at hv1
              obtain rfl := Option.some.inj hv1
              rcases hat6 with e | e
              · rw [e] at hc
                rcases Nat.lt_or_ge j (0) with hl | hl
                · exact HUN.out j (0) _ _ hl hvj HRV.out q hq hc
                · exact HUN.out (0) j _ _ (by omega) HRV.out hvj q hc hq
              · rw [e] at hc
                obtain ⟨kx, hkx, hox, _⟩ := hv2
                have h1 := (hox.lt q hq).2
                have h2 : (wr.alloc (Obj.cells #[Value.slice k1 k2 k3, Value.slice v1 v2 v3, Value.int .i64 y.seq, Value.bool y.dead] 27)).drew.heap.size = wr.heap.size + 1 := by show (wr.heap.push _).size = _; simp
                have h3 := Option.some.inj hc
                omega
            intro i j v u hij hvi huj
            have hi4 : i < 4 := by have := (List.getElem?_eq_some_iff.1 hvi).1; rw [List.length_set] at this; omega
            have hj4 : j < 4 := by have := (List.getElem?_eq_some_iff.1 huj).1; rw [List.length_set] at this; omega
            by_cases hik : i = 0
            · rw [hik, List.getElem?_set_self (by omega)] at hvi
              rw [List.getElem?_set_ne (by omega)] at huj
              obtain rfl := Option.some.inj hvi
              exact (hnew j u (by omega) hj4 huj).symm
            · rw [List.getElem?_set_ne (fun h => hik h.symm)] at hvi
              by_cases hjk : j = 0
              · rw [hjk, List.getElem?_set_self (by omega)] at huj
                obtain rfl := Option.some.inj huj
                exact hnew i v hik hi4 hvi
              · rw [List.getElem?_set_ne (fun h => hjk h.symm)] at huj
                exact HUN.out i j v u hij hvi huj
          have HST := Lib.hid hst.1
          clear hst hrows6 c6c f6c hown6 hg6 hnr c0 c0d c0o f0 f0d p0 p1 p2 p3
          go_wp2
          go_roundg (l.length - (k + 1))
          case measure => omega
          case rel => exact ⟨k + 1, _, by omega, rfl, by go_num, hb7, by rw [List.length_set]; exact hvl, HST, hea, hun⟩
      · have hbi : (0 : Int) < (b.length : Int) := by omega
        have hbnn : 0 < b.length := by omega
        have hmlt : k % b.length < b.length := Nat.mod_lt _ hbnn
        obtain ⟨ub, uo, rfl, cu⟩ := (HU.out.below hb).at (k % b.length) hmlt
        obtain ⟨x, hx⟩ : ∃ x, b[k % b.length] = x := ⟨_, rfl⟩
        rw [hx] at cu
        have m1 : (k : Int).tmod (b.length : Int) = ((k % b.length : Nat) : Int) := by rw [Int.tmod_eq_emod_of_nonneg hk0]; rfl
        have m3 : (k : Int) % (b.length : Int) = ((k % b.length : Nat) : Int) := rfl
        obtain ⟨n3, hn3, hbits⟩ := bits3 x
        have hkz : kofI b k = n3 := by
          rw [kofI, if_neg hbn]
          have : b.getD (k % b.length) 0 = x := by rw [← hx]; simp [List.getD, hmlt]
          rw [this, hbits]
          rfl
        obtain ⟨q, hq⟩ : ∃ q, k % b.length = q := ⟨_, rfl⟩
        rw [hq] at m1 m3 cu hmlt
        have hq1 : (q : Int) < (b.length : Int) := by omega
        have hq0 : (0 : Int) ≤ (q : Int) := by omega
        have hn31 : (n3 : Int) < 4 := by omega
        have hn30 : (0 : Int) ≤ (n3 : Int) := by omega
        have HKZ := Lib.hid hkz
        clear hx hq hkz
        go_wp2
        clear m1 m3 cu hbits
        have hkq : kofI b k = n3 := HKZ.out
        have hkq4 : n3 < 4 := by rw [← hkq]; exact kofI_lt b k
        have hsucc : spreadK l b (k + 1) = (spreadK l b k).set (n3) ((spreadK l b k).getD (n3) [] ++ (l.drop k).take 1) := by rw [spreadK, hkq]
        have HS := Lib.hid hsucc
        obtain ⟨va', vc', ee, _, _, _, v4⟩ := HV.out.below hb
        simp only [Value.slice.injEq] at ee
        obtain ⟨rfl, -, rfl⟩ := ee
        obtain ⟨vb, vo, rfl, v5⟩ := v4 (by omega)
        obtain ⟨k0, v0, ⟨p0, p1, p2, p3⟩, _⟩ := v5 k hlt
        obtain ⟨y, hy⟩ : ∃ y, l[k] = y := ⟨_, rfl⟩
        have hec0 : EC w k0 v0 y := by
          obtain ⟨ya', yc', ee, _, _, _, y4⟩ := HV.out
          simp only [Value.slice.injEq] at ee
          obtain ⟨rfl, -, rfl⟩ := ee
          obtain ⟨yb, yo, ee, y5⟩ := y4 (by omega)
          simp only [Option.some.injEq, Addr.mk.injEq, and_true] at ee
          obtain ⟨rfl, rfl⟩ := ee
          obtain ⟨k9, v9, p9, hec9⟩ := y5 k hlt
          have p9' := p9.below hb
          have e1 := p0.symm.trans p9'.1
          have e2 := p1.symm.trans p9'.2.1
          rw [Option.some.inj e1, Option.some.inj e2, ← hy]
          exact hec9
        rw [hy] at p2 p3
        have hd1 : (l.drop k).take 1 = [y] := by rw [List.drop_eq_getElem_cons hlt, hy]; rfl
        have HD1 := Lib.hid hd1
        have HEC0 := Lib.hid hec0
        obtain ⟨k1, k2, k3, rfl⟩ : ∃ a n c, k0 = .slice a n c := by obtain ⟨a, c, h, _⟩ := hec0.hk; exact ⟨_, _, _, h⟩
        obtain ⟨v1, v2, v3, rfl⟩ := EC.shape hec0
        obtain ⟨rv, hrv, hres⟩ := HEACH.out (n3) hkq4
        obtain ⟨row, hrow⟩ : ∃ row, (spreadK l b k).getD (n3) [] = row := ⟨_, rfl⟩
        rw [hrow] at hres
        have hrlen : row.length ≤ k := by
          have h0 := spreadK_len l b k
          have h1 : row ∈ spreadK l b k := by rw [← hrow, getD_mem (by omega)]; exact List.getElem_mem _
          have := (spreadK_sub l b k (by omega) row h1).length_le
          rw [List.length_take] at this
          omega
        have HROW := Lib.hid hrow
        obtain ⟨ra, rc, rfl⟩ := EsR.shape hres
        obtain ⟨kvr, hkvr, hrown, hreach⟩ := hres
        have c0 : wr.cell? ⟨w.heap.size, n3, none⟩ = some (Value.slice ra row.length rc) := by rw [HOWN.out.cellAt (n3) (by omega)]; exact hrv
        have f0 := HOWN.out.frozenAt (n3)
        obtain ⟨rl, hrl⟩ : ∃ rl, row.length = rl := ⟨_, rfl⟩
        have HRL := Lib.hid hrl
        rw [hrl] at c0 hrlen hrown
        have HRV : Hid (vs[n3]? = some (Value.slice ra rl rc)) := by rw [← hrl]; exact hrv
        have HROWN := Lib.hid hrown
        clear v4 v5 hsucc hy hd1 hec0 hrv hrow hrl hrown
        replace c0 : wr.cell? ⟨w.heap.size, n3, none⟩ = some (Value.slice ra rl rc) := c0
        have c0d : wr.drew.cell? ⟨w.heap.size, n3, none⟩ = some (Value.slice ra rl rc) := c0
        have c0o := fun o => Lib.cell?_alloc_marked o c0
        have f0d : wr.drew.frozen? ⟨w.heap.size, n3, none⟩ = false := f0
        have hyE : Below wr.heap.size wr (wr.alloc (Obj.cells #[Value.slice k1 k2 k3, Value.slice v1 v2 v3, Value.int .i64 y.seq, Value.bool y.dead] 27)) := (Below.refl _ _).alloc (Nat.le_refl _) _
        have HYE := Lib.hid hyE
        have hrow9 : ((wr.alloc (Obj.cells #[Value.slice k1 k2 k3, Value.slice v1 v2 v3, Value.int .i64 y.seq, Value.bool y.dead] 27)).drew).ownsRow w.heap.size 27 4 (.slice ra rl rc) rl (ecs kvr row) := owns_below HROWN.out hyE.drew
        have HROW9 := Lib.hid hrow9
        have hrows9 := owns_below HOWN.out hyE.drew
        have HRS9 := Lib.hid hrows9
        clear hyE hrow9 hrows9
        go_region_law
          (first
            | (refine step_appAt (by rfl) (.tmp 31) (.tmp 36) 24 (by rfl) w.heap.size 27 (.agg #[.slice none 0 0, .slice none 0 0, .int .i64 0, .bool false]) 4 64 Try.underlying24 Try.info27 rfl (by decide) ra rl rc _ (by rfl) HROW9.out _ 1 1 [Value.slice k1 k2 k3, Value.slice v1 v2 v3, Value.int .i64 y.seq, Value.bool y.dead] (by rfl) ((rd_lit wr #[Value.slice k1 k2 k3, Value.slice v1 v2 v3, Value.int .i64 y.seq, Value.bool y.dead] 27 4 1 rfl).below (Below.refl _ _).drew) (ec_oneCell _ _ _ _ _ _) (fun h => by cases h) (by unfold maxLen; omega) (by omega) (below_le9 hb) ?_; intro ad6 c6 w6 hown6 hg6 hat6; have hrows6 := owns_grown HRS9.out hg6 (fun q hq hc => own_size_ne HRS9.out HROW9.out (by decide) q hq hc.symm); have c6c : w6.cell? ⟨w.heap.size, n3, none⟩ = some (Value.slice ra rl rc) := (by rw [hrows6.cellAt (n3) (by omega)]; exact HRV.out); have f6c := hrows6.frozenAt (n3)))
        all_goals
          have hst := hrows6.stored (n3) (Value.slice ad6 (rl + 1) c6)
          have hb6 : Below w.heap.size w w6 := below_app (below_then hb HYE.out.drew hb.size) hg6 (below_le9 hb) HROW9.out
          have hb7 : Below w.heap.size w (w6.setCell ⟨w.heap.size, n3, none⟩ (Value.slice ad6 (rl + 1) c6)) := hb6.setCell (Nat.le_refl _) _
          have hnr : EsR w w6 w.heap.size (.slice ad6 (rl + 1) c6) (row ++ [y]) := EsR.push hkvr hreach HEC0.out (by rw [HRL.out]; exact hown6)
          have hsz6 : vs.length = 4 := hvl
          have hea : Hid (∀ (j : Nat) (h : j < 4), ∃ v, (vs.set (n3) (Value.slice ad6 (rl + 1) c6))[j]? = some v ∧ EsR w (w6.setCell ⟨w.heap.size, n3, none⟩ (Value.slice ad6 (rl + 1) c6)) w.heap.size v ((spreadK l b (k + 1)).getD j [])) := by
            intro j hj
            have hlk := spreadK_len l b k
            by_cases hjk : j = n3
            · rw [hjk]
              refine ⟨_, List.getElem?_set_self (by omega), ?_⟩
              have e : (spreadK l b (k + 1)).getD (n3) [] = row ++ [y] := by
                rw [HS.out, HROW.out, HD1.out, List.getD_eq_getElem?_getD, List.getElem?_set_self (by omega)]
                rfl
              rw [e]
              exact hnr.setOwn hrows6
            · obtain ⟨v, hv1, hv2⟩ := HEACH.out j hj
              refine ⟨v, by rw [List.getElem?_set_ne (fun h => hjk h.symm)]; exact hv1, ?_⟩
              have e : (spreadK l b (k + 1)).getD j [] = (spreadK l b k).getD j [] := by
                rw [HS.out, List.getD_eq_getElem?_getD, List.getElem?_set_ne (fun h => hjk h.symm), ← List.getD_eq_getElem?_getD]
              rw [e]
              have hv3 := (hv2.below (HYE.out.drew)).grownOf hg6 (fun q hq hc => by
                rcases Nat.lt_or_ge j (n3) with hl | hl
                · exact HUN.out j (n3) _ _ hl hv1 HRV.out q hq hc.symm
                · exact HUN.out (n3) j _ _ (by omega) HRV.out hv1 q hc.symm hq)
              exact hv3.setOwn hrows6
          have hun : Hid (∀ (i j : Nat) (v u : Value), i < j → (vs.set (n3) (Value.slice ad6 (rl + 1) c6))[i]? = some v → (vs.set (n3) (Value.slice ad6 (rl + 1) c6))[j]? = some u → Unlike v u) := by
            have hnew : ∀ (j : Nat) (v : Value), j ≠ n3 → j < 4 → vs[j]? = some v → Unlike v (.slice ad6 (rl + 1) c6) := by
              intro j v hj hj4 hvj q hq hc
              obtain ⟨v', hv1, hv2⟩ := HEACH.out j hj4
              rw [hvj] at hv1
              obtain rfl := Option.some.inj hv1
              rcases hat6 with e | e
              · rw [e] at hc
                rcases Nat.lt_or_ge j (n3) with hl | hl
                · exact HUN.out j (n3) _ _ hl hvj HRV.out q hq hc
                · exact HUN.out (n3) j _ _ (by omega) HRV.out hvj q hc hq
              · rw [e] at hc
                obtain ⟨kx, hkx, hox, _⟩ := hv2
                have h1 := (hox.lt q hq).2
                have h2 : (wr.alloc (Obj.cells #[Value.slice k1 k2 k3, Value.slice v1 v2 v3, Value.int .i64 y.seq, Value.bool y.dead] 27)).drew.heap.size = wr.heap.size + 1 := by show (wr.heap.push _).size = _; simp
                have h3 := Option.some.inj hc
                omega
            intro i j v u hij hvi huj
            have hi4 : i < 4 := by have := (List.getElem?_eq_some_iff.1 hvi).1; rw [List.length_set] at this; omega
            have hj4 : j < 4 := by have := (List.getElem?_eq_some_iff.1 huj).1; rw [List.length_set] at this; omega
            by_cases hik : i = n3
            · rw [hik, List.getElem?_set_self (by omega)] at hvi
              rw [List.getElem?_set_ne (by omega)] at huj
              obtain rfl := Option.some.inj hvi
              exact (hnew j u (by omega) hj4 huj).symm
            · rw [List.getElem?_set_ne (fun h => hik h.symm)] at hvi
              by_cases hjk : j = n3
              · rw [hjk, List.getElem?_set_self (by omega)] at huj
                obtain rfl := Option.some.inj huj
                exact hnew i v hik hi4 hvi
              · rw [List.getElem?_set_ne (fun h => hjk h.symm)] at huj
                exact HUN.out i j v u hij hvi huj
          have HST := Lib.hid hst.1
          clear hst hrows6 c6c f6c hown6 hg6 hnr c0 c0d c0o f0 f0d p0 p1 p2 p3
          go_wp2
          go_roundg (l.length - (k + 1))
          case measure => omega
          case rel => exact ⟨k + 1, _, by omega, rfl, by go_num, hb7, by rw [List.length_set]; exact hvl, HST, hea, hun⟩
    · have hkk : ¬ (k : Int) < (l.length : Int) := by omega
      obtain rfl : k = l.length := by omega
      go_wp2
      refine HR.out _ _ (ess_of_own HOWN.out (spreadK_len l b _).symm fun i hi => ?_) hb
      have hi4 : i < 4 := by have := spreadK_len l b l.length; omega
      obtain ⟨v, h1, h2⟩ := HEACH.out i hi4
      refine ⟨v, h1, ?_⟩
      rw [getD_mem hi] at h2
      exact h2.es hb
end Go.Proofs.Ytgkgahjdjkmmnaa
