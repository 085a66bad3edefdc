/- tidingslaw11.cut, walked. -/
import Derived.Test.YtpodhidabhnnnaaDoorWakes11
namespace Go.Proofs.YtpodhidabhnnnaaDoor
open Go.RowKit

theorem str_cut (l : List UInt8) (k : Nat) : (str l).extract 0 k = str (l.take k) := by
  apply ByteArray.ext
  simp [ByteArray.data_extract]

/-- A row of the call's own, from block B on; its data read so in an older world W. -/
def PsR (W w : World) (B : Nat) (v : Value) (l : List Pr) : Prop :=
  ∃ ds : List Value, ∃ _ : ds.length = l.length, w.ownsRow B 43 5 v l.length (pcs ds l) ∧ ∀ (i : Nat) (h : i < l.length), PC W (ds[i]'(by omega)) l[i]
theorem PsR.nil (W w : World) (B : Nat) : PsR W w B (.slice none 0 0) [] := ⟨[], rfl, World.ownsRow_nil _ _ _ _, fun i hi => by simp at hi⟩
theorem PsR.shape {W w : World} {B : Nat} {v : Value} {l : List Pr} (h : PsR W w B v l) : ∃ ad c, v = .slice ad l.length c := by
  obtain ⟨ds, _, h2, _⟩ := h
  exact owns_shape h2
/-- The slice value v reads as the properties l, their data in an older world W. -/
def Pt (W w : World) (v : Value) (l : List Pr) : Prop :=
  ∃ ad c, v = .slice ad l.length c ∧ l.length ≤ c ∧ c ≤ 9223372036854775807 ∧ (ad = none → c = 0) ∧
    (0 < l.length → ∃ b o, ad = some ⟨b, o, none⟩ ∧ ∀ (i : Nat) (h : i < l.length), ∃ d, P5 w b (o + i * 5) d l[i] ∧ PC W d l[i])
theorem Pt.ps {W w : World} {v : Value} {l : List Pr} (h : Pt W w v l) (hb : Below W.heap.size W w) : Ps w v l := by
  obtain ⟨ad, c, rfl, h1, h2, h3, h4⟩ := h
  refine ⟨ad, c, rfl, h1, h2, h3, fun h0 => ?_⟩
  obtain ⟨b, o, rfl, h5⟩ := h4 h0
  refine ⟨b, o, rfl, fun i hi => ?_⟩
  obtain ⟨d, h6, h7⟩ := h5 i hi
  exact ⟨d, h6, h7.below hb⟩
theorem Ps.pt {w : World} {v : Value} {l : List Pr} (h : Ps w v l) : Pt w w v l := h
theorem pt_lit1 {W w : World} {e : Nat} {d : Value} {p : Pr} (h : PC W d p) : Pt W (w.alloc (.cells #[.int .i64 p.id, .int .i64 p.num, .string (str p.text), .string (str p.pair), d] e)) (.slice (some ⟨w.heap.size, 0, none⟩) 1 1) [p] := by
  have n0 := heap_alloc_new w (Obj.cells #[.int .i64 p.id, .int .i64 p.num, .string (str p.text), .string (str p.pair), d] e)
  refine ⟨_, _, rfl, Nat.le_refl _, by simp, (fun h => by cases h), fun _ => ⟨_, _, rfl, fun i hi => ?_⟩⟩
  obtain rfl : i = 0 := by simpa using hi
  refine ⟨d, ⟨?_, ?_, ?_, ?_, ?_⟩, h⟩
  · exact cell_of_row _ w.heap.size 0 _ _ _ n0
  · exact cell_of_row _ w.heap.size 1 _ _ _ n0
  · exact cell_of_row _ w.heap.size 2 _ _ _ n0
  · exact cell_of_row _ w.heap.size 3 _ _ _ n0
  · exact cell_of_row _ w.heap.size 4 _ _ _ n0
theorem PsR.pt {W w : World} {B : Nat} {v : Value} {l : List Pr} (h : PsR W w B v l) : Pt W w v l := by
  obtain ⟨ds, h1, h2, h3⟩ := h
  obtain ⟨ad, c, rfl⟩ := owns_shape h2
  have hc := owns_cap h2
  unfold maxLen at hc
  refine ⟨ad, c, rfl, hc.1, by omega, owns_nil h2, fun h0 => ?_⟩
  obtain ⟨g, rfl⟩ := owns_head h2 h0
  refine ⟨g, 0, rfl, fun i hi => ?_⟩
  have hat : ∀ j, j < 5 → w.cell? ⟨g, 0 + i * 5 + j, none⟩ = (pc (ds[i]'(by omega), l[i]))[j]? := fun j hj => by
    rw [Nat.zero_add, ← pcs_at ds l h1 i hi j hj]
    exact h2.cellAt _ (by have : i * 5 + j < l.length * 5 := by omega
                          omega)
  exact ⟨_, ⟨hat 0 (by omega), hat 1 (by omega), hat 2 (by omega), hat 3 (by omega), hat 4 (by omega)⟩, h3 i hi⟩
theorem PsR.push {W w' : World} {B : Nat} {v' d : Value} {l : List Pr} {p : Pr} {ds : List Value} (hl : ds.length = l.length) (heach : ∀ (i : Nat) (h : i < l.length), PC W (ds[i]'(by omega)) l[i])
    (hown : w'.ownsRow B 43 5 v' (l.length + 1) (pcs ds l ++ [.int .i64 p.id, .int .i64 p.num, .string (str p.text), .string (str p.pair), d])) (he : PC W d p) : PsR W w' B v' (l ++ [p]) := by
  refine ⟨ds ++ [d], by simp [hl], ?_, fun i hi => ?_⟩
  · rw [pcs_snoc ds l hl]
    simpa using hown
  · simp only [List.length_append, List.length_cons, List.length_nil] at hi
    by_cases h : i < l.length
    · have h1 : (ds ++ [d])[i]'(by simp; omega) = ds[i]'(by omega) := List.getElem_append_left (by omega)
      have h2 : (l ++ [p])[i]'(by simp; omega) = l[i] := List.getElem_append_left h
      rw [h1, h2]
      exact heach i h
    · obtain rfl : i = l.length := by omega
      have h1 : (ds ++ [d])[l.length]'(by simp; omega) = d := by
        rw [List.getElem_append_right (by omega)]
        simp [hl]
      have h2 : (l ++ [p])[l.length]'(by simp) = p := by
        rw [List.getElem_append_right (by omega)]
        simp
      rw [h1, h2]
      exact he

def cutP (p : Pr) : Pr := ⟨p.id, p.num, p.text.take 300, p.pair.take 300, p.data.take 300⟩
def cutL (l : List Pr) : List Pr := (l.take 20).map cutP
theorem cutP_pc {w : World} {d : Value} {p : Pr} (h : PC w d p) {d' : Value} (hd : Bs w d' (p.data.take 300)) : PC w d' (cutP p) :=
  ⟨hd, by show (p.data.take 300).length ≤ _; rw [List.length_take]; omega, by show (p.text.take 300).length ≤ _; rw [List.length_take]; omega, by show (p.pair.take 300).length ≤ _; rw [List.length_take]; omega, h.i0, h.i1, h.n0, h.n1⟩
theorem cutP_laid (p : Pr) : (laidL (cutP p)).length ≤ 140000 := laidL_len _
theorem cutL_len (l : List Pr) : (cutL l).length ≤ 20 := by
  unfold cutL
  rw [List.length_map, List.length_take]
  omega
theorem laid_total (l : List Pr) (n : Nat) (h : l.length ≤ n) : (l.flatMap laidL).length ≤ n * 140000 := by
  induction l generalizing n with
  | nil => simp
  | cons a l ih =>
    rw [List.flatMap_cons, List.length_append]
    rw [List.length_cons] at h
    have h1 := laidL_len a
    have h2 := ih (n - 1) (by omega)
    omega

/-- A piece of bytes that an older world holds. -/
theorem cut_old (v : Value) (l C : List UInt8) (n : Int) (hC : l.take n.toNat = C) (W w : World) (hv : Bs W v l) (h0 : 0 ≤ n) (R : Ending → World → Prop)
    (hR : ∀ ad c, Bs W (.slice ad C.length c) C → R (.returned (.slice ad C.length c)) w) :
    Calls Tryd.prog 8 #[v, .int .i64 n] w R := by
  subst hC
  have hv' := hv
  obtain ⟨ad, c, rfl, hr, hc, hm, hnil⟩ := hv'
  clear hr
  go_enter Tryd.func8, Tryd.ntmps8
  by_cases hlt : n < l.length
  · have hB := hv.cut (k := n.toNat) (by omega)
    go_wp2
    have e : (l.take n.toNat).length = n.toNat := by rw [List.length_take]; omega
    have := hR ad c
    rw [e] at this
    exact this hB
  · have hB : l.take n.toNat = l := List.take_of_length_le (by omega)
    go_wp2
    have := hR ad c
    rw [hB] at this
    exact this hv

set_option maxRecDepth 100000 in
set_option maxHeartbeats 4000000 in
theorem pcut_any (v : Value) (l : List Pr) (C : List Pr) (hC : cutL l = C) (W w : World) (hv : Pt W w v l) (R : Ending → World → Prop)
    (hR : ∀ ad cc w', Pt W w' (.slice ad C.length cc) C → Below w.heap.size w w' → R (.returned (.slice ad C.length cc)) w') :
    Calls Tryd.prog 22 #[v] w R := by
  have HR := Lib.hid hR
  have HV := Lib.hid hv
  have HC := Lib.hid hC
  obtain ⟨va, vc, rfl, _, hvm, _⟩ := _root_.id hv
  clear hR hv hC
  go_enter Tryd.func22, Tryd.ntmps22
  go_wp2_with fail
  go_loopg [3, 4, 5] l.length (fun gn L i _ wr => ∃ (k : Nat) (o : List Pr) (oa : Option Addr) (oc : Nat), k ≤ l.length ∧ k ≤ 20 ∧ gn = l.length - k ∧ i = .int .i64 k ∧ L = .slice oa k oc ∧ Hid (o = (l.take k).map cutP) ∧ Hid (o.length = k) ∧ Hid (PsR W wr w.heap.size (.slice oa k oc) o) ∧ Below w.heap.size w wr)
  case atStart => exact ⟨0, [], none, 0, Nat.zero_le _, by omega, by omega, rfl, rfl, Lib.hid rfl, Lib.hid rfl, Lib.hid (PsR.nil _ _ _), Below.refl _ _⟩
  case round =>
    obtain ⟨k, o, oa, oc, hk, hk20, rfl, rfl, rfl, HO, HOL, HPS, hb⟩ := hrel
    obtain ⟨wo, rfl⟩ : ∃ y, y = wr := ⟨_, rfl⟩
    by_cases hlt : k < l.length ∧ k < 20
    · obtain ⟨hlt, h20⟩ := hlt
      have hkk : (k : Int) < (l.length : Int) := by omega
      have hk2 : (k : Int) < 20 := by omega
      obtain ⟨va', vc', ee, _, _, _, v4⟩ := HV.out
      simp only [Value.slice.injEq] at ee
      obtain ⟨rfl, -, rfl⟩ := ee
      obtain ⟨vb, vo, rfl, v5⟩ := v4 (by omega)
      obtain ⟨d0, hp5, hec⟩ := v5 k hlt
      have HT1 : Hid (l.take (k + 1) = l.take k ++ [l[k]]) := Lib.hid (List.take_succ_eq_append_getElem hlt)
      obtain ⟨y, hy⟩ : ∃ y, l[k] = y := ⟨_, rfl⟩
      rw [hy] at hp5 hec HT1
      obtain ⟨p0, p1, p2, p3, p4⟩ := hp5.below hb
      obtain ⟨d1, d3, rfl, _⟩ := _root_.id hec.hd
      have hyE : Below wo.heap.size wo (wo.alloc (Obj.cells #[.int .i64 y.id, .int .i64 y.num, .string (str y.text), .string (str y.pair), .slice d1 y.data.length d3] 43)) := (Below.refl _ _).alloc (Nat.le_refl _) _
      have HEC := Lib.hid hec
      have HD0 := Lib.hid hec.hd
      have hst := str_size y.text
      have hsp := str_size y.pair
      have hct := str_cut y.text 300
      have hcp := str_cut y.pair 300
      have hlt1 := hec.lt
      have hlp1 := hec.lp
      obtain ⟨D, hD⟩ : ∃ D, y.data.take 300 = D := ⟨_, rfl⟩
      have HDD := Lib.hid hD
      have hO1 : o ++ [cutP y] = (l.take (k + 1)).map cutP := by rw [HT1.out, List.map_append, HO.out]; rfl
      have HO1 := Lib.hid hO1
      obtain ⟨ds, hds, hrow, heach⟩ := HPS.out
      rw [HOL.out] at hrow
      have HDS := Lib.hid hds
      have HEACH := Lib.hid heach
      have HROW := Lib.hid hrow
      clear v4 v5 hy hec hyE hp5 HT1 hD hO1 heach hrow
      by_cases ht : 300 < y.text.length
      · have hti : (300 : Int) < (y.text.length : Int) := by omega
        obtain ⟨T, hT⟩ : ∃ T, y.text.take 300 = T := ⟨_, rfl⟩
        rw [hT] at hct
        have HTT := Lib.hid hT
        clear hT
        by_cases hp : 300 < y.pair.length
        · have hpi : (300 : Int) < (y.pair.length : Int) := by omega
          obtain ⟨P, hP⟩ : ∃ P, y.pair.take 300 = P := ⟨_, rfl⟩
          rw [hP] at hcp
          have HPP := Lib.hid hP
          clear hP
          go_wp2_with (first
            | (go_at_call 8; go_must (refine cut_old _ y.data D 300 HDD.out W _ HD0.out (by omega) _ ?_); intro da dc hbs; have hrow5 := World.ownsRow.alloc (owns_below HROW.out (Below.refl wo.heap.size wo)) (Obj.cells #[.int .i64 y.id, .int .i64 y.num, .string (str T), .string (str P), .slice da D.length dc] 43); have hx5 := hb.alloc hb.size (Obj.cells #[.int .i64 y.id, .int .i64 y.num, .string (str T), .string (str P), .slice da D.length dc] 43); have hrd := rd_lit (wo.alloc (Obj.cells #[.int .i64 y.id, .int .i64 y.num, .string (str T), .string (str P), .slice da D.length dc] 43)) #[.int .i64 y.id, .int .i64 y.num, .string (str T), .string (str P), .slice da D.length dc] 43 5 1 rfl; rw [show (wo.alloc (Obj.cells #[.int .i64 y.id, .int .i64 y.num, .string (str T), .string (str P), .slice da D.length dc] 43)).heap.size = wo.heap.size + 1 by simp] at hrd; have HBSD := Lib.hid hbs; clear hbs)
            | (at_builtin; go_must (refine wpList_app (by rfl) (.tmp 40) (.tmp 42) 25 (by rfl) w.heap.size 43 (.agg #[Value.int .i64 0, Value.int .i64 0, Value.string ⟨#[]⟩, Value.string ⟨#[]⟩, Value.slice none 0 0]) 5 72 Tryd.underlying25 Tryd.info43 rfl (by decide) _ _ _ _ rfl (World.ownsRow.alloc hrow5 _) _ _ _ _ rfl hrd (pc_oneCell _ _ _) (by simp) (by unfold maxLen; omega) (by omega) (by have := hb.size; simp; omega) ?_)))
          intro ad6 c6 w6 hown6 hg6
          have hbN : Below w.heap.size w w6 := below_app (hx5.alloc hx5.size _) hg6 (by have := hb.size; simp; omega) (hrow5.alloc _)
          have hz : cutP y = ⟨y.id, y.num, T, P, D⟩ := by
            have e1 : y.text.take 300 = T := HTT.out
            have e2 : y.pair.take 300 = P := HPP.out
            unfold cutP
            rw [e1, e2, HDD.out]
          have hP6 : PsR W w6 w.heap.size (.slice ad6 (k + 1) c6) (o ++ [cutP y]) := by
            have hpc := cutP_pc HEC.out (d' := .slice da D.length dc) (by rw [HDD.out]; exact HBSD.out)
            refine PsR.push HDS.out HEACH.out ?_ hpc
            rw [hz, HOL.out]
            exact hown6
          have HP6 := Lib.hid hP6
          clear hP6 hz hown6 hg6 hrow5 hrd hx5
          go_wp2
          go_roundg (l.length - (k + 1))
          case measure => omega
          case rel => exact ⟨k + 1, o ++ [cutP y], ad6, c6, by omega, by omega, rfl, by go_num, rfl, HO1, Lib.hid (by rw [List.length_append, HOL.out]; rfl), HP6, hbN⟩
        · have hpi : ¬ (300 : Int) < (y.pair.length : Int) := by omega
          clear hcp
          go_wp2_with (first
            | (go_at_call 8; go_must (refine cut_old _ y.data D 300 HDD.out W _ HD0.out (by omega) _ ?_); intro da dc hbs; have hrow5 := World.ownsRow.alloc (owns_below HROW.out (Below.refl wo.heap.size wo)) (Obj.cells #[.int .i64 y.id, .int .i64 y.num, .string (str T), .string (str y.pair), .slice da D.length dc] 43); have hx5 := hb.alloc hb.size (Obj.cells #[.int .i64 y.id, .int .i64 y.num, .string (str T), .string (str y.pair), .slice da D.length dc] 43); have hrd := rd_lit (wo.alloc (Obj.cells #[.int .i64 y.id, .int .i64 y.num, .string (str T), .string (str y.pair), .slice da D.length dc] 43)) #[.int .i64 y.id, .int .i64 y.num, .string (str T), .string (str y.pair), .slice da D.length dc] 43 5 1 rfl; rw [show (wo.alloc (Obj.cells #[.int .i64 y.id, .int .i64 y.num, .string (str T), .string (str y.pair), .slice da D.length dc] 43)).heap.size = wo.heap.size + 1 by simp] at hrd; have HBSD := Lib.hid hbs; clear hbs)
            | (at_builtin; go_must (refine wpList_app (by rfl) (.tmp 40) (.tmp 42) 25 (by rfl) w.heap.size 43 (.agg #[Value.int .i64 0, Value.int .i64 0, Value.string ⟨#[]⟩, Value.string ⟨#[]⟩, Value.slice none 0 0]) 5 72 Tryd.underlying25 Tryd.info43 rfl (by decide) _ _ _ _ rfl (World.ownsRow.alloc hrow5 _) _ _ _ _ rfl hrd (pc_oneCell _ _ _) (by simp) (by unfold maxLen; omega) (by omega) (by have := hb.size; simp; omega) ?_)))
          intro ad6 c6 w6 hown6 hg6
          have hbN : Below w.heap.size w w6 := below_app (hx5.alloc hx5.size _) hg6 (by have := hb.size; simp; omega) (hrow5.alloc _)
          have hz : cutP y = ⟨y.id, y.num, T, y.pair, D⟩ := by
            have e1 : y.text.take 300 = T := HTT.out
            have e2 : y.pair.take 300 = y.pair := (List.take_of_length_le (by omega))
            unfold cutP
            rw [e1, e2, HDD.out]
          have hP6 : PsR W w6 w.heap.size (.slice ad6 (k + 1) c6) (o ++ [cutP y]) := by
            have hpc := cutP_pc HEC.out (d' := .slice da D.length dc) (by rw [HDD.out]; exact HBSD.out)
            refine PsR.push HDS.out HEACH.out ?_ hpc
            rw [hz, HOL.out]
            exact hown6
          have HP6 := Lib.hid hP6
          clear hP6 hz hown6 hg6 hrow5 hrd hx5
          go_wp2
          go_roundg (l.length - (k + 1))
          case measure => omega
          case rel => exact ⟨k + 1, o ++ [cutP y], ad6, c6, by omega, by omega, rfl, by go_num, rfl, HO1, Lib.hid (by rw [List.length_append, HOL.out]; rfl), HP6, hbN⟩
      · have hti : ¬ (300 : Int) < (y.text.length : Int) := by omega
        clear hct
        by_cases hp : 300 < y.pair.length
        · have hpi : (300 : Int) < (y.pair.length : Int) := by omega
          obtain ⟨P, hP⟩ : ∃ P, y.pair.take 300 = P := ⟨_, rfl⟩
          rw [hP] at hcp
          have HPP := Lib.hid hP
          clear hP
          go_wp2_with (first
            | (go_at_call 8; go_must (refine cut_old _ y.data D 300 HDD.out W _ HD0.out (by omega) _ ?_); intro da dc hbs; have hrow5 := World.ownsRow.alloc (owns_below HROW.out (Below.refl wo.heap.size wo)) (Obj.cells #[.int .i64 y.id, .int .i64 y.num, .string (str y.text), .string (str P), .slice da D.length dc] 43); have hx5 := hb.alloc hb.size (Obj.cells #[.int .i64 y.id, .int .i64 y.num, .string (str y.text), .string (str P), .slice da D.length dc] 43); have hrd := rd_lit (wo.alloc (Obj.cells #[.int .i64 y.id, .int .i64 y.num, .string (str y.text), .string (str P), .slice da D.length dc] 43)) #[.int .i64 y.id, .int .i64 y.num, .string (str y.text), .string (str P), .slice da D.length dc] 43 5 1 rfl; rw [show (wo.alloc (Obj.cells #[.int .i64 y.id, .int .i64 y.num, .string (str y.text), .string (str P), .slice da D.length dc] 43)).heap.size = wo.heap.size + 1 by simp] at hrd; have HBSD := Lib.hid hbs; clear hbs)
            | (at_builtin; go_must (refine wpList_app (by rfl) (.tmp 40) (.tmp 42) 25 (by rfl) w.heap.size 43 (.agg #[Value.int .i64 0, Value.int .i64 0, Value.string ⟨#[]⟩, Value.string ⟨#[]⟩, Value.slice none 0 0]) 5 72 Tryd.underlying25 Tryd.info43 rfl (by decide) _ _ _ _ rfl (World.ownsRow.alloc hrow5 _) _ _ _ _ rfl hrd (pc_oneCell _ _ _) (by simp) (by unfold maxLen; omega) (by omega) (by have := hb.size; simp; omega) ?_)))
          intro ad6 c6 w6 hown6 hg6
          have hbN : Below w.heap.size w w6 := below_app (hx5.alloc hx5.size _) hg6 (by have := hb.size; simp; omega) (hrow5.alloc _)
          have hz : cutP y = ⟨y.id, y.num, y.text, P, D⟩ := by
            have e1 : y.text.take 300 = y.text := (List.take_of_length_le (by omega))
            have e2 : y.pair.take 300 = P := HPP.out
            unfold cutP
            rw [e1, e2, HDD.out]
          have hP6 : PsR W w6 w.heap.size (.slice ad6 (k + 1) c6) (o ++ [cutP y]) := by
            have hpc := cutP_pc HEC.out (d' := .slice da D.length dc) (by rw [HDD.out]; exact HBSD.out)
            refine PsR.push HDS.out HEACH.out ?_ hpc
            rw [hz, HOL.out]
            exact hown6
          have HP6 := Lib.hid hP6
          clear hP6 hz hown6 hg6 hrow5 hrd hx5
          go_wp2
          go_roundg (l.length - (k + 1))
          case measure => omega
          case rel => exact ⟨k + 1, o ++ [cutP y], ad6, c6, by omega, by omega, rfl, by go_num, rfl, HO1, Lib.hid (by rw [List.length_append, HOL.out]; rfl), HP6, hbN⟩
        · have hpi : ¬ (300 : Int) < (y.pair.length : Int) := by omega
          clear hcp
          go_wp2_with (first
            | (go_at_call 8; go_must (refine cut_old _ y.data D 300 HDD.out W _ HD0.out (by omega) _ ?_); intro da dc hbs; have hrow5 := World.ownsRow.alloc (owns_below HROW.out (Below.refl wo.heap.size wo)) (Obj.cells #[.int .i64 y.id, .int .i64 y.num, .string (str y.text), .string (str y.pair), .slice da D.length dc] 43); have hx5 := hb.alloc hb.size (Obj.cells #[.int .i64 y.id, .int .i64 y.num, .string (str y.text), .string (str y.pair), .slice da D.length dc] 43); have hrd := rd_lit (wo.alloc (Obj.cells #[.int .i64 y.id, .int .i64 y.num, .string (str y.text), .string (str y.pair), .slice da D.length dc] 43)) #[.int .i64 y.id, .int .i64 y.num, .string (str y.text), .string (str y.pair), .slice da D.length dc] 43 5 1 rfl; rw [show (wo.alloc (Obj.cells #[.int .i64 y.id, .int .i64 y.num, .string (str y.text), .string (str y.pair), .slice da D.length dc] 43)).heap.size = wo.heap.size + 1 by simp] at hrd; have HBSD := Lib.hid hbs; clear hbs)
            | (at_builtin; go_must (refine wpList_app (by rfl) (.tmp 40) (.tmp 42) 25 (by rfl) w.heap.size 43 (.agg #[Value.int .i64 0, Value.int .i64 0, Value.string ⟨#[]⟩, Value.string ⟨#[]⟩, Value.slice none 0 0]) 5 72 Tryd.underlying25 Tryd.info43 rfl (by decide) _ _ _ _ rfl (World.ownsRow.alloc hrow5 _) _ _ _ _ rfl hrd (pc_oneCell _ _ _) (by simp) (by unfold maxLen; omega) (by omega) (by have := hb.size; simp; omega) ?_)))
          intro ad6 c6 w6 hown6 hg6
          have hbN : Below w.heap.size w w6 := below_app (hx5.alloc hx5.size _) hg6 (by have := hb.size; simp; omega) (hrow5.alloc _)
          have hz : cutP y = ⟨y.id, y.num, y.text, y.pair, D⟩ := by
            have e1 : y.text.take 300 = y.text := (List.take_of_length_le (by omega))
            have e2 : y.pair.take 300 = y.pair := (List.take_of_length_le (by omega))
            unfold cutP
            rw [e1, e2, HDD.out]
          have hP6 : PsR W w6 w.heap.size (.slice ad6 (k + 1) c6) (o ++ [cutP y]) := by
            have hpc := cutP_pc HEC.out (d' := .slice da D.length dc) (by rw [HDD.out]; exact HBSD.out)
            refine PsR.push HDS.out HEACH.out ?_ hpc
            rw [hz, HOL.out]
            exact hown6
          have HP6 := Lib.hid hP6
          clear hP6 hz hown6 hg6 hrow5 hrd hx5
          go_wp2
          go_roundg (l.length - (k + 1))
          case measure => omega
          case rel => exact ⟨k + 1, o ++ [cutP y], ad6, c6, by omega, by omega, rfl, by go_num, rfl, HO1, Lib.hid (by rw [List.length_append, HOL.out]; rfl), HP6, hbN⟩
    · have hend : C = o := by
        rw [← HC.out, HO.out]
        unfold cutL
        congr 1
        by_cases h1 : k < l.length
        · obtain rfl : k = 20 := by omega
          rfl
        · rw [List.take_of_length_le (by omega), List.take_of_length_le (by omega)]
      have hps := HPS.out.pt
      rw [← hend] at hps
      have hcl : k = C.length := by rw [hend]; exact HOL.out.symm
      by_cases h1 : k < l.length
      · have hkk : (k : Int) < (l.length : Int) := by omega
        have hk2 : ¬ (k : Int) < 20 := by omega
        have HPS2 := Lib.hid hps
        have HCL := Lib.hid hcl
        clear hps hcl hend
        go_wp2
        have := HR.out oa oc _ (by rw [← HCL.out]; exact HPS2.out) hb
        rw [← HCL.out] at this
        exact this
      · have hkk : ¬ (k : Int) < (l.length : Int) := by omega
        have HPS2 := Lib.hid hps
        have HCL := Lib.hid hcl
        clear hps hcl hend
        go_wp2
        have := HR.out oa oc _ (by rw [← HCL.out]; exact HPS2.out) hb
        rw [← HCL.out] at this
        exact this
end Go.Proofs.YtpodhidabhnnnaaDoor
