/- prop.Lay, walked. -/
import Derived.Test.YtgimbocoamnkjaaGreatDoorM14
import Derived.Test.YtgimbocoamnkjaaGreatDoorM03
import Derived.Test.YtgimbocoamnkjaaGreatDoorM05
import Derived.Deep.RegionHeld3
import Derived.Deep.CutRange
namespace Go.Proofs.YtgimbocoamnkjaaGreatDoor
open Go.RowKit

theorem bss2 {w : World} {e : Nat} {v1 v2 : Value} {a b : List UInt8} (h1 : Bs w v1 a) (h2 : Bs w v2 b) : Bss (w.alloc (.cells #[v1, v2] e)) (.slice (some ⟨w.heap.size, 0, none⟩) 2 2) [a, b] :=
  bss_lit [v1, v2] [a, b] rfl (by simp) fun i hi => by
    match i, hi with
    | 0, _ => exact ⟨v1, rfl, h1⟩
    | 1, _ => exact ⟨v2, rfl, h2⟩
theorem flat2 (a b : List UInt8) : [a, b].flatten = a ++ b := by simp

set_option maxRecDepth 100000 in
set_option maxHeartbeats 4000000 in
theorem lay_any (wh : Int) (v : Value) (l : List Pr) (x : List UInt8) (c : Nat) (h : layL wh l = (x, c)) (hbl : (l.flatMap laidL).length ≤ 90000000) (w : World) (hv : Ps w v l) (hT : Tabs w) (R : Ending → World → Prop)
    (hR : ∀ ad cc w', w'.ownsRow w.heap.size 5 1 (.slice ad x.length cc) x.length (bv x) → Below w.heap.size w w' → R (.returned (.tuple #[.slice ad x.length cc, .int .i64 c])) w') :
    Calls Tryz.prog 155 #[.int .i64 wh, v] w R := by
  have HR := Lib.hid hR
  have HV := Lib.hid hv
  have HT := Lib.hid hT
  have HH := Lib.hid h
  have HBL := Lib.hid hbl
  obtain ⟨va, vc, rfl, _, hvm, _⟩ := _root_.id hv
  clear hR hv hT h hbl
  go_enter Tryz.func155, Tryz.ntmps155
  go_wp2
  go_loopg [6, 8, 16] l.length (fun gn L _ i wr => ∃ (k : Nat) (B : List UInt8) (ba : Option Addr) (bc : Nat), k ≤ l.length ∧ gn = l.length - k ∧ i = .int .i64 k ∧ L = .slice ba B.length bc ∧ Hid ((l.take k).flatMap laidL = B) ∧ B.length ≤ 90000000 ∧ Hid (wr.ownsRow w.heap.size 5 1 (.slice ba B.length bc) B.length (bv B)) ∧ Below w.heap.size w wr)
  case atStart => exact ⟨0, [], none, 0, Nat.zero_le _, by omega, rfl, rfl, Lib.hid rfl, by simp, Lib.hid (World.ownsRow_nil _ _ _ _), Below.refl _ _⟩
  case round =>
    obtain ⟨k, B, ba, bc, hk, rfl, rfl, rfl, HB, hB9, HOWN, hb⟩ := hrel
    obtain ⟨wo, rfl⟩ : ∃ y, y = wr := ⟨_, rfl⟩
    by_cases hlt : k < l.length
    · have hkk : (k : Int) < (l.length : Int) := by omega
      obtain ⟨va', vc', ee, _, _, _, v4⟩ := HV.out.below hb
      simp only [Value.slice.injEq] at ee
      obtain ⟨rfl, -, rfl⟩ := ee
      obtain ⟨vb, vo, rfl, v5⟩ := v4 (by omega)
      obtain ⟨d0, ⟨p0, p1, p2, p3, p4⟩, hec⟩ := v5 k hlt
      have HT1 : Hid (l.take (k + 1) = l.take k ++ [l[k]]) := Lib.hid (List.take_succ_eq_append_getElem hlt)
      obtain ⟨y, hy⟩ : ∃ y, l[k] = y := ⟨_, rfl⟩
      rw [hy] at p0 p1 p2 p3 hec HT1
      obtain ⟨d1, d2, d3, rfl⟩ : ∃ a n c, d0 = .slice a n c := by obtain ⟨a, c, h, _⟩ := hec.hd; exact ⟨_, _, _, h⟩
      have hyE : Below wo.heap.size wo (wo.alloc (Obj.cells #[.int .i64 y.id, .int .i64 y.num, .string (str y.text), .string (str y.pair), .slice d1 d2 d3] 147)) := (Below.refl _ _).alloc (Nat.le_refl _) _
      have HEC := Lib.hid (hec.below hyE)
      have HBE := Lib.hid (below_tr hb hyE)
      have HOE := Lib.hid (owns_below HOWN.out hyE)
      obtain ⟨J, hJ⟩ : ∃ J, laidL y = J := ⟨_, rfl⟩
      have HJ := Lib.hid hJ
      have hB1 : (l.take (k + 1)).flatMap laidL = B ++ J := by rw [HT1.out, List.flatMap_append, HB.out, List.flatMap_singleton, hJ]
      have hlen1 : (B ++ J).length ≤ 90000000 := by
        rw [← hB1]
        refine Nat.le_trans ?_ HBL.out
        conv => rhs; rw [← List.take_append_drop (k + 1) l, List.flatMap_append, List.length_append]
        omega
      rw [List.length_append] at hlen1
      have HB1 := Lib.hid hB1
      clear v4 v5 hy hec hyE hJ HT1 hB1
      go_wp2_with (first
        | (go_at_call 171; go_must (refine laid_any _ y J HJ.out _ HEC.out (HT.out.below HBE.out) _ ?_); intro ja jc w5 hown5 hb5; have hx5 := below_then HBE.out hb5 HBE.out.size; have hO5 := owns_below HOE.out hb5; obtain ⟨ja', jc', hje, hrd5, _, _, hnil5⟩ := (bs_of_owns hown5).2; simp only [Value.slice.injEq] at hje; obtain ⟨rfl, -, rfl⟩ := hje)
        | (at_builtin; go_must (refine wpList_app (by rfl) (.tmp 20) (.tmp 22) 22 (by rfl) w.heap.size 5 (.int .u8 0) 1 1 Tryz.underlying22 Tryz.info5 rfl (by decide) _ _ _ _ rfl hO5 _ _ _ _ rfl hrd5 (bv_oneCell _) hnil5 (by unfold maxLen; omega) (by omega) (by have := hx5.size; omega) ?_)))
      intro ad6 c6 w6 hown6 hg6
      have hb6 := below_app hx5 hg6 (by have := hx5.size; omega) hO5
      rw [← bv_append] at hown6
      have hO6 : w6.ownsRow w.heap.size 5 1 (.slice ad6 (B ++ J).length c6) (B ++ J).length (bv (B ++ J)) := by rw [List.length_append]; exact hown6
      have HO6 := Lib.hid hO6
      clear hO6 hown6 hg6 hO5 hrd5 hnil5 hown5 hb5 hx5
      go_wp2
      go_roundg (l.length - (k + 1))
      case measure => omega
      case rel => exact ⟨k + 1, B ++ J, ad6, c6, by omega, rfl, by go_num, by rw [List.length_append], HB1, by rw [List.length_append]; exact hlen1, HO6, hb6⟩
    · have hkk : ¬ (k : Int) < (l.length : Int) := by omega
      have hfull : l.flatMap laidL = B := by have := HB.out; rwa [List.take_of_length_le (by omega)] at this
      have hh := HH.out
      unfold layL at hh
      rw [hfull] at hh
      obtain ⟨V, er, hV⟩ : ∃ V er, varR (B.length : Int) = (V, er) := ⟨_, _, rfl⟩
      rw [hV] at hh
      simp only at hh
      have HVV := Lib.hid hV
      have hvl : V.length ≤ 4 := by have := varR_len (B.length : Int); rw [hV] at this; exact this
      clear HH hfull hV
      by_cases her : er ≠ 0
      · rw [if_pos her] at hh
        simp only [Prod.mk.injEq] at hh
        obtain ⟨rfl, rfl⟩ := hh
        go_wp2_with (go_at_call 172; go_must (refine var_any _ V er HVV.out _ _ ?_); intro va1 vc1 w5 hown5 hb5; have hx5 := below_then hb hb5 hb.size)
        try go_ret2
        exact HR.out none 0 _ (World.ownsRow_nil _ _ _ _) hx5
      · have her0 : er = 0 := by omega
        subst her0
        rw [if_neg her] at hh
        obtain ⟨Y, hY⟩ : ∃ Y, V ++ B = Y := ⟨_, rfl⟩
        have hyl : Y.length ≤ 90000004 := by rw [← hY, List.length_append]; omega
        have HJF : Hid ([V, B].flatten = Y) := Lib.hid (by rw [flat2]; exact hY)
        rw [hY] at hh
        obtain ⟨m, used, rc, hrd⟩ : ∃ m used rc, readL wh Y = (m, used, rc) := ⟨_, _, _, rfl⟩
        rw [hrd] at hh
        have HRD := Lib.hid hrd
        have HHH := Lib.hid hh
        clear hh hY her
        by_cases hrc : rc = 0
        · subst hrc
          have HPB : Hid (∀ p ∈ m, PB p) := Lib.hid (by
            obtain ⟨_, _, _, _, _, _, _, _, _, h8, _⟩ := readL_ok hrd
            exact fun p hp => by
              obtain ⟨g1, _, _, g4, g5⟩ := h8 p hp
              exact g1.pb g4 g5)
          clear hrd
          by_cases hus : used = (Y.length : Int)
          · subst hus
            obtain ⟨sr, hsr⟩ : ∃ sr, sameR m l = sr := ⟨_, rfl⟩
            have HSR := Lib.hid hsr
            cases sr with
            | true =>
              have hml : m = l := of_decide_eq_true hsr
              have hh := HHH.out
              rw [if_pos (by rw [hml])] at hh
              simp only [Prod.mk.injEq] at hh
              obtain ⟨rfl, rfl⟩ := hh
              clear hsr HHH hml
              go_wp2_with (first
                | (go_at_call 172; go_must (refine var_any _ V 0 HVV.out _ _ ?_); intro va1 vc1 w5 hown5 hb5; have hx5 := below_then hb hb5 hb.size; have hO5 := owns_below HOWN.out hb5; have hB := bss2 (e := 22) (bs_of_owns hown5).2 (bs_of_owns hO5).2)
                | (go_at_call 55; go_must (refine join_any _ [V, B] Y HJF.out _ hB (by omega) _ ?_); intro ya yc w6 hown6 hb6; have hx6 := below_then (hx5.alloc hx5.size _) hb6 (by have := hx5.size; simp; omega); have HO6 := Lib.hid (owns_mono (base' := w.heap.size) hown6 (by have := hx5.size; simp; omega)); clear hown6 hb6 hB hO5 hown5 hb5)
                | (go_at_call 173; go_must (refine read_any wh _ Y m _ 0 HRD.out (by omega) _ (bs_of_owns HO6.out).2 (HT.out.below hx6) _ ?_); intro ma mc w7 hps7 hb7; have hx7 := below_then hx6 hb7 hx6.size; have HO7 := Lib.hid (owns_below HO6.out hb7); have HPS7 := Lib.hid (hps7.ps HPB.out); clear hps7 hb7)
                | (go_at_call 169; go_must (refine psame_any _ _ m l true HSR.out _ HPS7.out (HV.out.below hx7) _ ?_); intro w8 hb8; have hx8 := below_then hx7 hb8 hx7.size; have HO8 := Lib.hid (owns_below HO7.out hb8)))
              try go_ret2
              exact HR.out _ _ _ HO8.out hx8
            | false =>
              have hml : m ≠ l := of_decide_eq_false hsr
              have hh := HHH.out
              rw [if_neg (by simp [hml])] at hh
              simp only [Prod.mk.injEq] at hh
              obtain ⟨rfl, rfl⟩ := hh
              clear hsr HHH hml
              go_wp2_with (first
                | (go_at_call 172; go_must (refine var_any _ V 0 HVV.out _ _ ?_); intro va1 vc1 w5 hown5 hb5; have hx5 := below_then hb hb5 hb.size; have hO5 := owns_below HOWN.out hb5; have hB := bss2 (e := 22) (bs_of_owns hown5).2 (bs_of_owns hO5).2)
                | (go_at_call 55; go_must (refine join_any _ [V, B] Y HJF.out _ hB (by omega) _ ?_); intro ya yc w6 hown6 hb6; have hx6 := below_then (hx5.alloc hx5.size _) hb6 (by have := hx5.size; simp; omega); have HO6 := Lib.hid (owns_mono (base' := w.heap.size) hown6 (by have := hx5.size; simp; omega)); clear hown6 hb6 hB hO5 hown5 hb5)
                | (go_at_call 173; go_must (refine read_any wh _ Y m _ 0 HRD.out (by omega) _ (bs_of_owns HO6.out).2 (HT.out.below hx6) _ ?_); intro ma mc w7 hps7 hb7; have hx7 := below_then hx6 hb7 hx6.size; have HPS7 := Lib.hid (hps7.ps HPB.out); clear hps7 hb7)
                | (go_at_call 169; go_must (refine psame_any _ _ m l false HSR.out _ HPS7.out (HV.out.below hx7) _ ?_); intro w8 hb8; have hx8 := below_then hx7 hb8 hx7.size))
              try go_ret2
              exact HR.out none 0 _ (World.ownsRow_nil _ _ _ _) hx8
          · have hne : (used != (Y.length : Int)) = true := by simp [hus]
            have hh := HHH.out
            rw [if_neg (by simp [hus])] at hh
            simp only [Prod.mk.injEq] at hh
            obtain ⟨rfl, rfl⟩ := hh
            clear HHH
            go_wp2_with (first
              | (go_at_call 172; go_must (refine var_any _ V 0 HVV.out _ _ ?_); intro va1 vc1 w5 hown5 hb5; have hx5 := below_then hb hb5 hb.size; have hO5 := owns_below HOWN.out hb5; have hB := bss2 (e := 22) (bs_of_owns hown5).2 (bs_of_owns hO5).2)
              | (go_at_call 55; go_must (refine join_any _ [V, B] Y HJF.out _ hB (by omega) _ ?_); intro ya yc w6 hown6 hb6; have hx6 := below_then (hx5.alloc hx5.size _) hb6 (by have := hx5.size; simp; omega); have HO6 := Lib.hid (owns_mono (base' := w.heap.size) hown6 (by have := hx5.size; simp; omega)); clear hown6 hb6 hB hO5 hown5 hb5)
              | (go_at_call 173; go_must (refine read_any wh _ Y m used 0 HRD.out (by omega) _ (bs_of_owns HO6.out).2 (HT.out.below hx6) _ ?_); intro ma mc w7 hps7 hb7; have hx7 := below_then hx6 hb7 hx6.size; clear hps7 hb7))
            try go_ret2
            exact HR.out none 0 _ (World.ownsRow_nil _ _ _ _) hx7
        · have hrci : ¬ (rc : Int) = 0 := by omega
          have hh := HHH.out
          rw [if_neg (by simp [hrc])] at hh
          simp only [Prod.mk.injEq] at hh
          obtain ⟨rfl, rfl⟩ := hh
          clear HHH hrd
          go_wp2_with (first
            | (go_at_call 172; go_must (refine var_any _ V 0 HVV.out _ _ ?_); intro va1 vc1 w5 hown5 hb5; have hx5 := below_then hb hb5 hb.size; have hO5 := owns_below HOWN.out hb5; have hB := bss2 (e := 22) (bs_of_owns hown5).2 (bs_of_owns hO5).2)
            | (go_at_call 55; go_must (refine join_any _ [V, B] Y HJF.out _ hB (by omega) _ ?_); intro ya yc w6 hown6 hb6; have hx6 := below_then (hx5.alloc hx5.size _) hb6 (by have := hx5.size; simp; omega); have HO6 := Lib.hid (owns_mono (base' := w.heap.size) hown6 (by have := hx5.size; simp; omega)); clear hown6 hb6 hB hO5 hown5 hb5)
            | (go_at_call 173; go_must (refine read_any wh _ Y m used rc HRD.out (by omega) _ (bs_of_owns HO6.out).2 (HT.out.below hx6) _ ?_); intro ma mc w7 hps7 hb7; have hx7 := below_then hx6 hb7 hx6.size; clear hps7 hb7))
          try go_ret2
          exact HR.out none 0 _ (World.ownsRow_nil _ _ _ _) hx7
end Go.Proofs.YtgimbocoamnkjaaGreatDoor

/- note.Lay, walked: the bytes of any message within reach. -/
namespace Go.Proofs.YtgimbocoamnkjaaGreatDoor
open Go.RowKit

/-- A message's bytes. -/
def ntBy (x : Nt) : List UInt8 := (textL x.topic).1 ++ (dataL x.payload).1 ++ [b8 (markN x.qos x.retain)] ++ (textL x.src).1 ++ putL (n64 x.expires) 8 ++ putL (n64 x.number) 8 ++ [b8 x.origin, b8 x.hops] ++ (layL 3 x.props).1
theorem bss_row8 {w : World} {e g : Nat} {v0 v1 v2 v3 v4 v5 v6 v7 : Value} {l0 l1 l2 l3 l4 l5 l6 l7 : List UInt8} (hg : g = w.heap.size) (h0 : Bs w v0 l0) (h1 : Bs w v1 l1) (h2 : Bs w v2 l2) (h3 : Bs w v3 l3) (h4 : Bs w v4 l4) (h5 : Bs w v5 l5) (h6 : Bs w v6 l6) (h7 : Bs w v7 l7) : Bss (w.alloc (.cells #[v0, v1, v2, v3, v4, v5, v6, v7] e)) (.slice (some ⟨g, 0, none⟩) 8 8) [l0, l1, l2, l3, l4, l5, l6, l7] := by
  subst hg
  exact bss_lit [v0, v1, v2, v3, v4, v5, v6, v7] [l0, l1, l2, l3, l4, l5, l6, l7] rfl (by simp) fun i hi => by
    match i, hi with
    | 0, _ => exact ⟨v0, rfl, h0⟩
    | 1, _ => exact ⟨v1, rfl, h1⟩
    | 2, _ => exact ⟨v2, rfl, h2⟩
    | 3, _ => exact ⟨v3, rfl, h3⟩
    | 4, _ => exact ⟨v4, rfl, h4⟩
    | 5, _ => exact ⟨v5, rfl, h5⟩
    | 6, _ => exact ⟨v6, rfl, h6⟩
    | 7, _ => exact ⟨v7, rfl, h7⟩
theorem bs_len {w : World} {B e n c : Nat} {ad : Option Addr} {l : List UInt8} (h : w.ownsRow B e 1 (.slice ad n c) n (bv l)) : Bs w (.slice ad n c) l := by
  obtain rfl : n = l.length := by
    have := h.1
    simpa using this.symm
  exact (bs_of_owns h).2
/-- The four rows that were made ahead. -/
structure NR (y : World) (t p f x : Value) (T P F X : List UInt8) : Prop where
  t : Bs y t T
  p : Bs y p P
  f : Bs y f F
  x : Bs y x X
theorem NR.below {y y' : World} {t p f x : Value} {T P F X : List UInt8} (h : NR y t p f x T P F X) (hb : Below y.heap.size y y') : NR y' t p f x T P F X := ⟨h.t.below hb, h.p.below hb, h.f.below hb, h.x.below hb⟩

theorem alloc_size (w : World) (o : Obj) : w.heap.size + 1 = (w.alloc o).heap.size := by simp
theorem nlS6 {x : World} {N t : Nat} {fr : Nat × Nat} {a b c d e f g h i j : Value} (k : x.heap[N]? = some (.cells #[a, b, c, d, e, f, g, h, i, j] t fr)) : x.cell? ⟨N, 2, none⟩ = some c ∧ x.cell? ⟨N, 3, none⟩ = some d ∧ x.cell? ⟨N, 5, none⟩ = some f ∧ x.cell? ⟨N, 7, none⟩ = some h ∧ x.cell? ⟨N, 8, none⟩ = some i ∧ x.cell? ⟨N, 9, none⟩ = some j :=
  ⟨cell_of_row x _ 2 _ _ _ k, cell_of_row x _ 3 _ _ _ k, cell_of_row x _ 5 _ _ _ k, cell_of_row x _ 7 _ _ _ k, cell_of_row x _ 8 _ _ _ k, cell_of_row x _ 9 _ _ _ k⟩

set_option maxRecDepth 100000 in
set_option maxHeartbeats 8000000 in
theorem nlay_any (x : Nt) (pv qv : Value) (w : World) (hp : Bs w pv x.payload) (hq : Ps w qv x.props) (hB : NtB x) (hlp : (x.props.flatMap laidL).length ≤ 90000000) (hT : Tabs w) (Y : List UInt8) (hY : ntBy x = Y) (hyl : Y.length ≤ 140737488355328) (R : Ending → World → Prop)
    (hR : ∀ ad c w', w'.ownsRow w.heap.size 5 1 (.slice ad Y.length c) Y.length (bv Y) → Below w.heap.size w w' → R (.returned (.slice ad Y.length c)) w') :
    Calls Tryz.prog 119 #[.agg #[.string (str x.topic), pv, .int .i64 x.qos, .bool x.retain, .string (str x.src), .int .i64 x.expires, qv, .int .i64 x.origin, .int .i64 x.number, .int .i64 x.hops]] w R := by
  obtain ⟨topic, payload, qos, retain, src, expires, props, origin, number, hops⟩ := x
  have hBt := hB.t
  have hBs := hB.s
  simp only at *
  have HR := Lib.hid hR
  have HLP := Lib.hid hlp
  obtain ⟨pa, pc, rfl⟩ : ∃ a c, pv = .slice a payload.length c := by obtain ⟨a, c, e, _⟩ := hp; exact ⟨a, c, e⟩
  obtain ⟨qa, qc, rfl⟩ : ∃ a c, qv = .slice a props.length c := by obtain ⟨a, c, e, _⟩ := hq; exact ⟨a, c, e⟩
  obtain ⟨⟨TT, te⟩, hTT⟩ : ∃ q, textL topic = q := ⟨_, rfl⟩
  obtain ⟨⟨PP, pe⟩, hPP⟩ : ∃ q, dataL payload = q := ⟨_, rfl⟩
  obtain ⟨⟨FF, fe⟩, hFF⟩ : ∃ q, textL src = q := ⟨_, rfl⟩
  obtain ⟨⟨XX, xe⟩, hXX⟩ : ∃ q, layL 3 props = q := ⟨_, rfl⟩
  obtain ⟨E1, hE1⟩ : ∃ q, putL (n64 expires) 8 = q := ⟨_, rfl⟩
  obtain ⟨E2, hE2⟩ : ∃ q, putL (n64 number) 8 = q := ⟨_, rfl⟩
  have HJ : Hid ([TT, PP, [b8 (markN qos retain)], FF, E1, E2, [b8 origin, b8 hops], XX].flatten = Y) := by
    show _ = _
    rw [← hY]
    unfold ntBy
    simp only [hTT, hPP, hFF, hXX, hE1, hE2]
    simp
  obtain ⟨O0, hO0⟩ : ∃ o, (Obj.cells #[Value.string (str topic), .slice pa payload.length pc, .int .i64 qos, .bool retain, .string (str src), .int .i64 expires, .slice qa props.length qc, .int .i64 origin, .int .i64 number, .int .i64 hops] 34) = o := ⟨_, rfl⟩
  have hb0 : Below w.heap.size w (w.alloc O0) := (Below.refl _ _).alloc (Nat.le_refl _) _
  have n0 := heap_alloc_new w O0
  have HT0 := Lib.hid (hT.below hb0)
  have HP0 := Lib.hid (hp.below hb0)
  have HQ0 := Lib.hid (hq.below hb0)
  have HB0 := Lib.hid hb0
  have N0 := Lib.hid n0
  rw [← hO0] at HT0 HP0 HQ0 HB0 N0
  have HTT := Lib.hid hTT
  have HPP := Lib.hid hPP
  have HFF := Lib.hid hFF
  have HXX := Lib.hid hXX
  have HE1 := Lib.hid hE1
  have HE2 := Lib.hid hE2
  have HYL := Lib.hid hyl
  have hm1 : Hid True := trivial
  clear hR hlp hp hq hT hY hyl hTT hPP hFF hXX hE1 hE2 hO0 hb0 n0 hB
  go_enter Tryz.func119, Tryz.ntmps119
  go_wp2_with (first
    | (have hq := hm1; go_at_call 54; go_must (refine text_any topic TT te HTT.out _ (by omega) HT0.out _ ?_); intro ta tc w2 ho2 hb2; have HO2 := Lib.hid (bs_len ho2); have HB2 := Lib.hid hb2; have N2 := Lib.hid (row_on N0.out hb2); have c1 := cell_of_row w2 _ 1 _ _ _ N2.out; clear hq hm1 ho2 hb2)
    | (go_at_call 118; go_must (refine data_any _ payload PP pe HPP.out _ (HP0.out.below HB2.out) _ ?_); intro da dc w3 ho3 hb3; have HO3 := Lib.hid (bs_len ho3); have HB3 := Lib.hid hb3; have N3 := Lib.hid (row_on N2.out hb3); have c4 := cell_of_row w3 _ 4 _ _ _ N3.out; clear ho3 hb3)
    | (go_at_call 54; go_must (refine text_any src FF fe HFF.out _ (by omega) ((HT0.out.below HB2.out).below HB3.out) _ ?_); intro fa fc w4 ho4 hb4; have HO4 := Lib.hid (bs_len ho4); have HB4 := Lib.hid hb4; have N4 := Lib.hid (row_on N3.out hb4); have c6 := cell_of_row w4 _ 6 _ _ _ N4.out; clear ho4 hb4)
    | (go_at_call 155; go_must (refine lay_any 3 _ props XX xe HXX.out HLP.out _ (((HQ0.out.below HB2.out).below HB3.out).below HB4.out) (((HT0.out.below HB2.out).below HB3.out).below HB4.out) _ ?_); intro xa xc w5 ho5 hb5; have HO5 := Lib.hid (bs_len ho5); have HB5 := Lib.hid hb5; have N5 := Lib.hid (row_on N4.out hb5); clear ho5 hb5))
  have HB05 : Hid (Below w.heap.size w w5) := by
    have h2 := below_then HB0.out HB2.out HB0.out.size
    have h3 := below_then h2 HB3.out h2.size
    have h4 := below_then h3 HB4.out h3.size
    exact below_then h4 HB5.out h4.size
  have hbd : Below w5.heap.size w5 w5.drew := (Below.refl _ _).drew
  have hr0 : NR w5.drew (.slice ta TT.length tc) (.slice da PP.length dc) (.slice fa FF.length fc) (.slice xa XX.length xc) TT PP FF XX := NR.below ⟨((HO2.out.below HB3.out).below HB4.out).below HB5.out, (HO3.out.below HB4.out).below HB5.out, HO4.out.below HB5.out, HO5.out⟩ hbd
  have hn0 := row_on N5.out hbd
  have hal0 : Below w5.drew.heap.size w5.drew (w5.alloc (Obj.cells #[Value.int .u8 (IntKind.u8.wrap origin), Value.int .u8 (IntKind.u8.wrap hops)] 5)).drew := (Below.refl w5.drew.heap.size w5.drew).alloc (Nat.le_refl _) _
  have hB0 := hbd
  have hl0 : True ∧ Bs (w5.alloc (Obj.cells #[Value.int .u8 (IntKind.u8.wrap origin), Value.int .u8 (IntKind.u8.wrap hops)] 5)).drew (.slice (some ⟨w5.heap.size, 0, none⟩) 2 2) [b8 origin, b8 hops] := And.intro trivial (bs_len (l := [b8 origin, b8 hops]) (own_bytes2 (B := 0) w5.drew origin hops (Nat.zero_le _)))
  have hm2 : Hid True := trivial
  clear c1 c4 c6
  go_region_held3 (fun x => x.cell? ⟨w.heap.size, 2, none⟩ = some (.int .i64 qos) ∧ x.cell? ⟨w.heap.size, 3, none⟩ = some (.bool retain) ∧ x.cell? ⟨w.heap.size, 5, none⟩ = some (.int .i64 expires) ∧ x.cell? ⟨w.heap.size, 7, none⟩ = some (.int .i64 origin) ∧ x.cell? ⟨w.heap.size, 8, none⟩ = some (.int .i64 number) ∧ x.cell? ⟨w.heap.size, 9, none⟩ = some (.int .i64 hops))
    (first | with_reducible exact nlS6 hn0 | with_reducible exact nlS6 (row_on hn0 hal0) | with_reducible exact nlS6 hn6 | with_reducible exact nlS6 (row_on hn6 hal6) | with_reducible exact nlS6 hn7 | with_reducible exact nlS6 (row_on hn7 hal7) | with_reducible exact nlS6 hn8 | with_reducible exact nlS6 (row_on hn8 hal8) | with_reducible exact nlS6 hn9 | go_keep)
    (first
      | (go_at_call 120; refine marks_any qos retain _ _ ?_; intro ma mc w6 ho6 hb6; have hmk := bs_len ho6; have hn6 := (by first | with_reducible exact row_on hn0 hb6 | with_reducible exact row_on (row_on hn0 hal0) hb6 : w6.heap[w.heap.size]? = some (Obj.cells #[Value.string (str topic), .slice pa payload.length pc, .int .i64 qos, .bool retain, .string (str src), .int .i64 expires, .slice qa props.length qc, .int .i64 origin, .int .i64 number, .int .i64 hops] 34)); have hr6 := (by first | with_reducible exact hr0.below hb6 | with_reducible exact (hr0.below hal0).below hb6 : NR w6 (.slice ta TT.length tc) (.slice da PP.length dc) (.slice fa FF.length fc) (.slice xa XX.length xc) TT PP FF XX); have hB6 := (by first | with_reducible exact below_tra hB0 hb6 | with_reducible exact below_tra (below_tra hB0 hal0) hb6 : Below w5.heap.size w5 w6); have hal6 : Below w6.heap.size w6 (w6.alloc (Obj.cells #[Value.int .u8 (IntKind.u8.wrap origin), Value.int .u8 (IntKind.u8.wrap hops)] 5)) := (Below.refl _ _).alloc (Nat.le_refl _) _; (first | (have hl6 := hl0.2.below hb6; have hlk6 := And.intro trivial hl6; clear hl6) | (have hlk6 := And.intro trivial (hlk0.2.below hb6)) | (have hl6 := And.intro trivial (bs_len (l := [b8 origin, b8 hops]) (own_bytes2 (B := 0) w6 origin hops (Nat.zero_le _))))))
      | (have hq := hm2; go_at_call 156; refine eight_any expires E1 HE1.out _ _ ?_; intro ea1 ec1 w7 ho7 hb7; replace hmk := (by first | with_reducible exact hmk.below hb7 | with_reducible exact (hmk.below hal6).below hb7 : Bs w7 (.slice ma 1 mc) [b8 (markN qos retain)]); have he1 := bs_len ho7; have hn7 := (by first | with_reducible exact row_on hn6 hb7 | with_reducible exact row_on (row_on hn6 hal6) hb7 : w7.heap[w.heap.size]? = some (Obj.cells #[Value.string (str topic), .slice pa payload.length pc, .int .i64 qos, .bool retain, .string (str src), .int .i64 expires, .slice qa props.length qc, .int .i64 origin, .int .i64 number, .int .i64 hops] 34)); have hr7 := (by first | with_reducible exact hr6.below hb7 | with_reducible exact (hr6.below hal6).below hb7 : NR w7 (.slice ta TT.length tc) (.slice da PP.length dc) (.slice fa FF.length fc) (.slice xa XX.length xc) TT PP FF XX); have hB7 := (by first | with_reducible exact below_tra hB6 hb7 | with_reducible exact below_tra (below_tra hB6 hal6) hb7 : Below w5.heap.size w5 w7); have hal7 : Below w7.heap.size w7 (w7.alloc (Obj.cells #[Value.int .u8 (IntKind.u8.wrap origin), Value.int .u8 (IntKind.u8.wrap hops)] 5)) := (Below.refl _ _).alloc (Nat.le_refl _) _; (first | (have hl7 := hl6.2.below hb7; have hlk7 := And.intro trivial hl7; clear hl7) | (have hlk7 := And.intro trivial (hlk6.2.below hb7)) | (have hl7 := And.intro trivial (bs_len (l := [b8 origin, b8 hops]) (own_bytes2 (B := 0) w7 origin hops (Nat.zero_le _))))); clear hq hm2)
      | (go_at_call 156; refine eight_any number E2 HE2.out _ _ ?_; intro ea2 ec2 w8 ho8 hb8; replace hmk := (by first | with_reducible exact hmk.below hb8 | with_reducible exact (hmk.below hal7).below hb8 : Bs w8 (.slice ma 1 mc) [b8 (markN qos retain)]); replace he1 := (by first | with_reducible exact he1.below hb8 | with_reducible exact (he1.below hal7).below hb8 : Bs w8 (.slice ea1 E1.length ec1) E1); have he2 := bs_len ho8; have hn8 := (by first | with_reducible exact row_on hn7 hb8 | with_reducible exact row_on (row_on hn7 hal7) hb8 : w8.heap[w.heap.size]? = some (Obj.cells #[Value.string (str topic), .slice pa payload.length pc, .int .i64 qos, .bool retain, .string (str src), .int .i64 expires, .slice qa props.length qc, .int .i64 origin, .int .i64 number, .int .i64 hops] 34)); have hr8 := (by first | with_reducible exact hr7.below hb8 | with_reducible exact (hr7.below hal7).below hb8 : NR w8 (.slice ta TT.length tc) (.slice da PP.length dc) (.slice fa FF.length fc) (.slice xa XX.length xc) TT PP FF XX); have hB8 := (by first | with_reducible exact below_tra hB7 hb8 | with_reducible exact below_tra (below_tra hB7 hal7) hb8 : Below w5.heap.size w5 w8); have hal8 : Below w8.heap.size w8 (w8.alloc (Obj.cells #[Value.int .u8 (IntKind.u8.wrap origin), Value.int .u8 (IntKind.u8.wrap hops)] 5)) := (Below.refl _ _).alloc (Nat.le_refl _) _; (first | (have hl8 := hl7.2.below hb8; have hlk8 := And.intro trivial hl8; clear hl8) | (have hlk8 := And.intro trivial (hlk7.2.below hb8)) | (have hl8 := And.intro trivial (bs_len (l := [b8 origin, b8 hops]) (own_bytes2 (B := 0) w8 origin hops (Nat.zero_le _))))); have HG8 := Lib.hid (alloc_size w8 (Obj.cells #[Value.int .u8 (IntKind.u8.wrap origin), Value.int .u8 (IntKind.u8.wrap hops)] 5)))
      | (have hq := hlk8; go_at_call 55; have HALX := Lib.hid (fun o => below_tra hB8 ((Below.refl w8.heap.size w8).alloc (Nat.le_refl _) o) : ∀ o : Obj, Below w5.heap.size w5 (w8.alloc o)); have hbss := bss_row8 (e := 22) (g := w8.heap.size) rfl hr8.t hr8.p hmk hr8.f he1 he2 hlk8.2 hr8.x; refine join_any _ _ Y HJ.out _ hbss HYL.out _ ?_; clear hbss; intro ja jc w9 ho9 hb9; have hB9 := below_tra (HALX.out _) hb9; have HZ9 := Lib.hid (fun o => Nat.le_trans HB05.out.size (HALX.out o).size); have HB9 := Lib.hid hB9; have HO9 := Lib.hid ho9; have hn9 := row_on N5.out hB9; clear hn6 hn7 hn8 hr6 hr7 hr8 hB6 hB7 hB8 hal6 hal7 hal8 hmk he1 he2 hB9 ho9 hb9 HG8 hq hlk8 HALX)
      | (have hq := hl8; go_at_call 55; have HALX := Lib.hid (fun o => below_tra (below_tra hB8 hal8) ((Below.refl (w8.alloc (Obj.cells #[Value.int .u8 (IntKind.u8.wrap origin), Value.int .u8 (IntKind.u8.wrap hops)] 5)).heap.size (w8.alloc (Obj.cells #[Value.int .u8 (IntKind.u8.wrap origin), Value.int .u8 (IntKind.u8.wrap hops)] 5))).alloc (Nat.le_refl _) o) : ∀ o : Obj, Below w5.heap.size w5 ((w8.alloc (Obj.cells #[Value.int .u8 (IntKind.u8.wrap origin), Value.int .u8 (IntKind.u8.wrap hops)] 5)).alloc o)); have hbss := bss_row8 (e := 22) HG8.out (hr8.t.below hal8) (hr8.p.below hal8) (hmk.below hal8) (hr8.f.below hal8) (he1.below hal8) (he2.below hal8) hl8.2 (hr8.x.below hal8); refine join_any _ _ Y HJ.out _ hbss HYL.out _ ?_; clear hbss; intro ja jc w9 ho9 hb9; have hB9 := below_tra (HALX.out _) hb9; have HZ9 := Lib.hid (fun o => Nat.le_trans HB05.out.size (HALX.out o).size); have HB9 := Lib.hid hB9; have HO9 := Lib.hid ho9; have hn9 := row_on N5.out hB9; clear hn6 hn7 hn8 hr6 hr7 hr8 hB6 hB7 hB8 hal6 hal7 hal8 hmk he1 he2 hB9 ho9 hb9 HG8 hq hl8 HALX))
  all_goals
    go_wp2_with fail
    exact HR.out _ _ _ (owns_mono HO9.out (HZ9.out _)) (below_then HB05.out HB9.out HB05.out.size)
end Go.Proofs.YtgimbocoamnkjaaGreatDoor

/- note.LayItem, walked: the bytes of any item within reach that has no numbers. -/
namespace Go.Proofs.YtgimbocoamnkjaaGreatDoor
open Go.RowKit

/-- The bytes of an item without numbers. -/
def imBy (x : Im) : List UInt8 := (dataL (ntBy x.note)).1 ++ [b8 (markN x.qos x.keep)] ++ [b8 (x.ids.length : Int)] ++ x.ids.flatMap (fun i => putL (n64 i) 4) ++ (textL x.share).1
theorem bss_row3 {w : World} {e g : Nat} {v0 v1 v2 : Value} {l0 l1 l2 : List UInt8} (hg : g = w.heap.size) (h0 : Bs w v0 l0) (h1 : Bs w v1 l1) (h2 : Bs w v2 l2) : Bss (w.alloc (.cells #[v0, v1, v2] e)) (.slice (some ⟨g, 0, none⟩) 3 3) [l0, l1, l2] := by
  subst hg
  exact bss_lit [v0, v1, v2] [l0, l1, l2] rfl (by simp) fun i hi => by
    match i, hi with
    | 0, _ => exact ⟨v0, rfl, h0⟩
    | 1, _ => exact ⟨v1, rfl, h1⟩
    | 2, _ => exact ⟨v2, rfl, h2⟩

theorem ilS {x : World} {N t : Nat} {fr : Nat × Nat} {a b c d e f g h i j k l m n : Value} (q : x.heap[N]? = some (.cells #[a, b, c, d, e, f, g, h, i, j, k, l, m, n] t fr)) : x.cell? ⟨N, 10, none⟩ = some k ∧ x.cell? ⟨N, 11, none⟩ = some l ∧ x.cell? ⟨N, 12, none⟩ = some m :=
  ⟨cell_of_row x _ 10 _ _ _ q, cell_of_row x _ 11 _ _ _ q, cell_of_row x _ 12 _ _ _ q⟩

set_option maxRecDepth 100000 in
set_option maxHeartbeats 8000000 in
theorem ilay_any (x : Im) (hids : x.ids = []) (pv qv ev : Value) (w : World) (hc : ImC w pv qv ev x) (hB : ImB x) (hlp : (x.note.props.flatMap laidL).length ≤ 90000000) (hT : Tabs w) (Y : List UInt8) (hY : imBy x = Y) (hnl : (ntBy x.note).length ≤ 140737488355328) (hyl : Y.length ≤ 140737488355328) (R : Ending → World → Prop)
    (hR : ∀ ad c w', w'.ownsRow w.heap.size 5 1 (.slice ad Y.length c) Y.length (bv Y) → Below w.heap.size w w' → R (.returned (.slice ad Y.length c)) w') :
    Calls Tryz.prog 60 #[(Value.agg #[.string (str x.note.topic), pv, .int .i64 x.note.qos, .bool x.note.retain, .string (str x.note.src), .int .i64 x.note.expires, qv, .int .i64 x.note.origin, .int .i64 x.note.number, .int .i64 x.note.hops, .int .i64 x.qos, .bool x.keep, ev, .string (str x.share)])] w R := by
  have HR := Lib.hid hR
  have HC := Lib.hid hc
  have HBD := Lib.hid hB
  obtain ⟨⟨pa, pc, rfl⟩, ⟨qa, qc, rfl⟩, ea, ec, rfl⟩ := hc.shape
  obtain ⟨⟨topic, payload, nqos, retain, src, expires, props, origin, number, hops⟩, qos, keep, ids, share⟩ := x
  simp only at *
  subst hids
  clear hR hB hc
  obtain ⟨NY, hNY⟩ : ∃ q, ntBy ⟨topic, payload, nqos, retain, src, expires, props, origin, number, hops⟩ = q := ⟨_, rfl⟩
  rw [hNY] at hnl
  obtain ⟨⟨DD, de⟩, hDD⟩ : ∃ q, dataL NY = q := ⟨_, rfl⟩
  obtain ⟨⟨SS, se⟩, hSS⟩ : ∃ q, textL share = q := ⟨_, rfl⟩
  obtain ⟨JJ, hJJ⟩ : ∃ q, DD ++ [b8 (markN qos keep)] ++ [b8 0] = q := ⟨_, rfl⟩
  have hYJ : JJ ++ SS = Y := by
    rw [← hY, ← hJJ]
    unfold imBy
    simp only [hNY, hDD, hSS]
    simp
  have hjl : JJ.length ≤ 140737488355328 := by
    have := congrArg List.length hYJ
    rw [List.length_append] at this
    omega
  have hsl : JJ.length + SS.length ≤ 140737488355328 := by
    have := congrArg List.length hYJ
    rw [List.length_append] at this
    omega
  have HJ : Hid ([DD, [b8 (markN qos keep)], [b8 0]].flatten = JJ) := by
    show _ = _
    rw [← hJJ]
    simp
  obtain ⟨O0, hO0⟩ : ∃ o, (Obj.cells #[Value.string (str topic), .slice pa payload.length pc, .int .i64 nqos, .bool retain, .string (str src), .int .i64 expires, .slice qa props.length qc, .int .i64 origin, .int .i64 number, .int .i64 hops, .int .i64 qos, .bool keep, .slice ea 0 ec, .string (str share)] 36) = o := ⟨_, rfl⟩
  have hb0 : Below w.heap.size w (w.alloc O0) := (Below.refl _ _).alloc (Nat.le_refl _) _
  have n0 := heap_alloc_new w O0
  have HT0 := Lib.hid (hT.below hb0)
  have HC0 := Lib.hid (HC.out.below hb0)
  have HB0 := Lib.hid hb0
  have N0 := Lib.hid n0
  rw [← hO0] at HT0 HC0 HB0 N0
  have HNY := Lib.hid hNY
  have HDD := Lib.hid hDD
  have HSS := Lib.hid hSS
  have HYJ := Lib.hid hYJ
  have HLP := Lib.hid hlp
  have HNL := Lib.hid hnl
  have HJL := Lib.hid hjl
  have HSL := Lib.hid hsl
  clear hT hY hnl hyl hNY hDD hSS hJJ hYJ hjl hsl hO0 hb0 n0 hlp
  go_enter Tryz.func60, Tryz.ntmps60
  go_wp2_with (first
    | (go_at_call 119; go_must (refine nlay_any ⟨topic, payload, nqos, retain, src, expires, props, origin, number, hops⟩ _ _ _ HC0.out.p HC0.out.q HBD.out.n HLP.out HT0.out NY HNY.out HNL.out _ ?_); intro na nc w2 ho2 hb2; have HO2 := Lib.hid (bs_len ho2); have HB2 := Lib.hid hb2; have N2 := Lib.hid (row_on N0.out hb2); clear ho2 hb2)
    | (go_at_call 118; go_must (refine data_any _ NY DD de HDD.out _ HO2.out _ ?_); intro da dc w3 ho3 hb3; have HO3 := Lib.hid (bs_len ho3); have HB3 := Lib.hid hb3; have N3 := Lib.hid (row_on N2.out hb3); have c13 := cell_of_row w3 _ 13 _ _ _ N3.out; clear ho3 hb3)
    | (go_at_call 54; go_must (refine text_any share SS se HSS.out _ (by have := HBD.out.s; simp only at this; omega) ((HT0.out.below HB2.out).below HB3.out) _ ?_); intro ta tc w4 ho4 hb4; have HO4 := Lib.hid (bs_len ho4); have HB4 := Lib.hid hb4; have N4 := Lib.hid (row_on N3.out hb4); clear ho4 hb4))
  have HB04 : Hid (Below w.heap.size w w4) := by
    have h2 := below_then HB0.out HB2.out HB0.out.size
    have h3 := below_then h2 HB3.out h2.size
    exact below_then h3 HB4.out h3.size
  have hk0 : Below w4.heap.size w4 w4.drew := (Below.refl _ _).drew
  have hn0 := row_on N4.out hk0
  have hd0 := (HO3.out.below HB4.out).below hk0
  have hal0 : Below w4.drew.heap.size w4.drew (w4.alloc (Obj.cells #[Value.int .u8 (IntKind.u8.wrap 0)] 5)).drew := (Below.refl w4.drew.heap.size w4.drew).alloc (Nat.le_refl _) _
  have hl0 : True ∧ Bs (w4.alloc (Obj.cells #[Value.int .u8 (IntKind.u8.wrap 0)] 5)).drew (.slice (some ⟨w4.heap.size, 0, none⟩) 1 1) [b8 0] := And.intro trivial (bs_len (l := [b8 0]) (own_byte (B := 0) w4.drew 0 (Nat.zero_le _)))
  clear c13
  go_upto_region 3 with fail
  go_cut [7] from 10 to 51 (fun sb wx => ∃ (ja : Option Addr) (jc : Nat), sb = .slice ja JJ.length jc ∧ Hid (wx.ownsRow w.heap.size 5 1 (.slice ja JJ.length jc) JJ.length (bv JJ)) ∧ Hid (Below w4.heap.size w4 wx))
  case first =>
    go_region_held3 (fun x => x.cell? ⟨w.heap.size, 10, none⟩ = some (.int .i64 qos) ∧ x.cell? ⟨w.heap.size, 11, none⟩ = some (.bool keep) ∧ x.cell? ⟨w.heap.size, 12, none⟩ = some (.slice ea 0 ec))
      (first | with_reducible exact ilS hn0 | with_reducible exact ilS (row_on hn0 hal0) | with_reducible exact ilS hn5 | with_reducible exact ilS (row_on hn5 hal5) | with_reducible exact ilS hn6 | go_keep)
      (first
        | (go_at_call 120; refine marks_any qos keep _ _ ?_; intro ma mc w5 ho5 hb5; have hmk := bs_len ho5; have hn5 := (by first | with_reducible exact row_on hn0 hb5 | with_reducible exact row_on (row_on hn0 hal0) hb5 : w5.heap[w.heap.size]? = some (Obj.cells #[Value.string (str topic), .slice pa payload.length pc, .int .i64 nqos, .bool retain, .string (str src), .int .i64 expires, .slice qa props.length qc, .int .i64 origin, .int .i64 number, .int .i64 hops, .int .i64 qos, .bool keep, .slice ea 0 ec, .string (str share)] 36)); have hd5 := (by first | with_reducible exact hd0.below hb5 | with_reducible exact (hd0.below hal0).below hb5 : Bs w5 (.slice da DD.length dc) DD); have hk5 := (by first | with_reducible exact below_tra hk0 hb5 | with_reducible exact below_tra (below_tra hk0 hal0) hb5 : Below w4.heap.size w4 w5); have hal5 : Below w5.heap.size w5 (w5.alloc (Obj.cells #[Value.int .u8 (IntKind.u8.wrap 0)] 5)) := (Below.refl _ _).alloc (Nat.le_refl _) _; have HG5 := Lib.hid (alloc_size w5 (Obj.cells #[Value.int .u8 (IntKind.u8.wrap 0)] 5)); (first | (have hlk5 := hl0.2.below hb5) | (have hl5 := And.intro trivial (bs_len (l := [b8 0]) (own_byte (B := 0) w5 0 (Nat.zero_le _))))))
        | (have hq := hlk5; go_at_call 55; have HALX := Lib.hid (fun o => below_tra hk5 ((Below.refl w5.heap.size w5).alloc (Nat.le_refl _) o) : ∀ o : Obj, Below w4.heap.size w4 (w5.alloc o)); have hbss := bss_row3 (e := 22) (g := w5.heap.size) rfl hd5 hmk hlk5; refine join_any _ _ JJ HJ.out _ hbss HJL.out _ ?_; clear hbss; intro ja jc w6 ho6 hb6; have HZ := Lib.hid (fun o => Nat.le_trans HB04.out.size (HALX.out o).size); have HB6 := Lib.hid (below_tra (HALX.out _) hb6); have hn6 := row_on N4.out HB6.out; have HO6 := Lib.hid ho6; clear hb6 ho6 hq hlk5 hd5 hmk hn5 hk5 hal5 HG5 HALX)
        | (have hq := hl5; go_at_call 55; have HALX := Lib.hid (fun o => below_tra (below_tra hk5 hal5) ((Below.refl (w5.alloc (Obj.cells #[Value.int .u8 (IntKind.u8.wrap 0)] 5)).heap.size (w5.alloc (Obj.cells #[Value.int .u8 (IntKind.u8.wrap 0)] 5))).alloc (Nat.le_refl _) o) : ∀ o : Obj, Below w4.heap.size w4 ((w5.alloc (Obj.cells #[Value.int .u8 (IntKind.u8.wrap 0)] 5)).alloc o)); have hbss := bss_row3 (e := 22) HG5.out (hd5.below hal5) (hmk.below hal5) hl5.2; refine join_any _ _ JJ HJ.out _ hbss HJL.out _ ?_; clear hbss; intro ja jc w6 ho6 hb6; have HZ := Lib.hid (fun o => Nat.le_trans HB04.out.size (HALX.out o).size); have HB6 := Lib.hid (below_tra (HALX.out _) hb6); have hn6 := row_on N4.out HB6.out; have HO6 := Lib.hid ho6; clear hb6 ho6 hq hl5 hd5 hmk hn5 hk5 hal5 HG5 HALX))
    all_goals
      go_wp2_with fail
      go_meet
      exact ⟨ja, jc, rfl, Lib.hid (owns_mono HO6.out (HZ.out _)), HB6⟩
  obtain ⟨ja, jc, rfl, HOJ, HBJ⟩ := hcut
  have c12 := cell_of_row wc _ 12 _ _ _ (row_on N4.out HBJ.out)
  clear hk0 hn0 hd0 hal0 hl0
  go_wp2_with fail
  refine wp_loop_rounds 1 ?_
  rw [rounds_succ]
  go_wp2_with (first
    | (at_builtin; go_must (refine wpList_appAt (by rfl) (.tmp 49) (.tmp 50) 22 (by rfl) w.heap.size 5 (.int .u8 0) 1 1 Tryz.underlying22 Tryz.info5 rfl (by decide) ja JJ.length jc _ (by rfl) HOJ.out ta SS.length tc (bv SS) (by rfl) (HO4.out.below HBJ.out).parts.2.1 (bv_oneCell _) (HO4.out.below HBJ.out).parts.2.2.2.2 (by have := HSL.out; unfold maxLen; omega) (by have := HSL.out; omega) (Nat.le_trans HB04.out.size HBJ.out.size) ?_); intro ad9 c9 w9 hown9 hg9 _; have hb9 := below_app (below_then HB04.out HBJ.out HB04.out.size) hg9 (Nat.le_trans HB04.out.size HBJ.out.size) HOJ.out; rw [← bv_append, HYJ.out] at hown9; have HO9 := Lib.hid hown9; have HB9 := Lib.hid hb9; clear hown9 hg9 hb9))
  have hlen : JJ.length + SS.length = Y.length := by rw [← HYJ.out, List.length_append]
  have hr := HR.out ad9 c9
  rw [← hlen] at hr
  exact hr _ HO9.out HB9.out
end Go.Proofs.YtgimbocoamnkjaaGreatDoor
