/- The document's Pick walked. -/
import Derived.Test.YtgkgahjdjkmmnaaPick
namespace Go.Proofs.Ytgkgahjdjkmmnaa
open Go.RowKit

/-- One table more in a row of the call's own. -/
theorem PlsR.push {w0 w w' : World} {B n : Nat} {v v' x y : Value} {l : List Pl} {p : Pl} (h : PlsR w0 w B v l) (hp : PlC w0 x y p) (hn : l.length = n)
    (ho : ∀ kv : List (Value × Value), kv.length = l.length → w.ownsRow B 59 5 v n (plcs kv l) → w'.ownsRow B 59 5 v' (n + 1) (plcs kv l ++ plc x y p)) : PlsR w0 w' B v' (l ++ [p]) := by
  obtain ⟨kv, hkv, hrow, heach⟩ := h
  refine ⟨kv ++ [(x, y)], by simp [hkv], ?_, fun i hi => ?_⟩
  · rw [plcs_snoc kv l hkv, List.length_append, List.length_singleton, hn]
    exact ho kv hkv (by rw [← hn]; exact hrow)
  · simp only [List.length_append, List.length_singleton] at hi
    by_cases h : i < l.length
    · rw [List.getElem_append_left h]
      have h1 : (kv ++ [(x, y)])[i]'(by simp; omega) = kv[i]'(by omega) := List.getElem_append_left (by omega)
      rw [h1]
      exact heach i h
    · obtain rfl : i = l.length := by omega
      have h1 : (kv ++ [(x, y)])[l.length]'(by simp; omega) = (x, y) := by
        rw [List.getElem_append_right (by omega)]
        simp [hkv]
      rw [h1, List.getElem_append_right (Nat.le_refl _)]
      simpa using hp

theorem own_lit1 (X : World) (x : Value) {B e : Nat} (hB : B ≤ X.heap.size) : (X.alloc (.cells #[x] e)).ownsRow B e 1 (.slice (some ⟨X.heap.size, 0, none⟩) 1 1) 1 [x] :=
  ⟨rfl, .inr ⟨X.heap.size, 1, #[x], rfl, hB, heap_alloc_new X _, Nat.le_refl _, by unfold maxLen; omega, rfl, rfl⟩⟩
theorem leastOf_one (p : Pl) : leastOf [p] = p.least := by
  show minP p.least p = p.least
  unfold minP
  split <;> rfl
theorem mostOf_one (p : Pl) : mostOf [p] = p.most := by
  show maxP p.most p = p.most
  unfold maxP
  split <;> rfl
/-- Where the first table of a level stands; -1: there is none. -/
def FirstAt (l : List Pl) (level : Int) (i nn : Nat) (f : Int) : Prop := (ofL (l.take i) level).length = nn ∧ ((nn = 0 ∧ f = -1) ∨ (0 < nn ∧ ∃ g : Nat, ∃ h : g < l.length, f = g ∧ (ofL (l.take i) level).head? = some l[g]))
theorem FirstAt.skip {l : List Pl} {level : Int} {i nn : Nat} {f : Int} (h : FirstAt l level i nn f) (hi : i < l.length) (hne : ¬ l[i].level = level) : FirstAt l level (i + 1) nn f := by
  unfold FirstAt
  rw [ofL_succ l level i hi, if_neg hne]
  exact h
theorem FirstAt.one {l : List Pl} {level : Int} {i : Nat} {f : Int} (h : FirstAt l level i 0 f) (hi : i < l.length) (he : l[i].level = level) : FirstAt l level (i + 1) 1 i := by
  have h0 : ofL (l.take i) level = [] := List.eq_nil_of_length_eq_zero h.1
  unfold FirstAt
  rw [ofL_succ l level i hi, if_pos he, h0]
  exact ⟨rfl, .inr ⟨by omega, i, hi, rfl, rfl⟩⟩
theorem FirstAt.more {l : List Pl} {level : Int} {i nn : Nat} {f : Int} (h : FirstAt l level i nn f) (h0 : 0 < nn) (hi : i < l.length) (he : l[i].level = level) : FirstAt l level (i + 1) (nn + 1) f := by
  obtain ⟨h1, h2⟩ := h
  rcases h2 with ⟨h3, _⟩ | ⟨_, g, hg, h4, h5⟩
  · omega
  · unfold FirstAt
    rw [ofL_succ l level i hi, if_pos he]
    refine ⟨by rw [List.length_append, h1]; rfl, .inr ⟨by omega, g, hg, h4, ?_⟩⟩
    rw [List.head?_append, h5]
    rfl
theorem cells7_later {w w' : World} {A B C D E F G : Addr} {a b c d e f g : Value} (hb : Below w.heap.size w w') (h : w.cell? A = some a ∧ w.cell? B = some b ∧ w.cell? C = some c ∧ w.cell? D = some d ∧ w.cell? E = some e ∧ w.cell? F = some f ∧ w.cell? G = some g) :
    w'.cell? A = some a ∧ w'.cell? B = some b ∧ w'.cell? C = some c ∧ w'.cell? D = some d ∧ w'.cell? E = some e ∧ w'.cell? F = some f ∧ w'.cell? G = some g :=
  ⟨cell_later hb h.1, cell_later hb h.2.1, cell_later hb h.2.2.1, cell_later hb h.2.2.2.1, cell_later hb h.2.2.2.2.1, cell_later hb h.2.2.2.2.2.1, cell_later hb h.2.2.2.2.2.2⟩
theorem minP_less (m : List UInt8) (p : Pl) : minP m p = if Op.bytesLess p.least m = true then p.least else m := by
  unfold minP
  rw [bytesLess_eq]
  simp only [decide_eq_true_eq]
theorem maxP_more (m : List UInt8) (p : Pl) : maxP m p = if (Op.bytesLess p.most m || p.most == m) = true then m else p.most := by
  unfold maxP
  rw [← compareBytes_le]
  by_cases h : 0 < Lib.compareBytes p.most m
  · rw [if_pos h, if_neg (by simp; omega)]
  · rw [if_neg h, if_pos (by simp; omega)]

set_option maxRecDepth 100000 in
set_option maxHeartbeats 12800000 in
theorem rpick_any (log next seq : Int) (v : Value) (l : List Pl) (ok : Bool) (hok : checkL apartL log next seq l = ok) (z : Int) (L : List Int) (t : Bool) (hz : pickL ok l = (z, L, t)) (hl : l.length ≤ 1000000) (w : World) (hv : Pls w v l) (R : Ending → World → Prop)
    (hR : ∀ ad c w', w'.ownsRow w.heap.size 3 1 (.slice ad L.length c) L.length (iv L) → Below w.heap.size w w' → R (.returned (.tuple #[.int .i64 z, .slice ad L.length c, .bool t])) w') :
    Calls Try.prog 23 #[.agg #[.int .i64 log, .int .i64 next, .int .i64 seq, v]] w R := by
  have HR := Lib.hid hR
  have HV := Lib.hid hv
  have HOK := Lib.hid hok
  obtain ⟨va, vc, rfl, _⟩ := hv
  have hw1 : Below w.heap.size w (w.alloc (vnO log next seq (.slice va l.length vc))) := (Below.refl w.heap.size w).alloc (Nat.le_refl _) _
  have N0 := Lib.hid (heap_alloc_new w (vnO log next seq (.slice va l.length vc)))
  have hz0 : w.heap.size + 1 ≤ (w.alloc (vnO log next seq (.slice va l.length vc))).heap.size := by simp
  unfold vnO at hw1 N0 hz0
  have hv1 := Lib.hid (HV.out.below hw1)
  clear hR hok
  unfold pickL at hz
  cases ok with
  | false =>
    rw [if_pos rfl] at hz
    obtain ⟨rfl, rfl, rfl⟩ : 0 = z ∧ [] = L ∧ false = t := by simpa using hz
    clear hz
    go_enter Try.func23, Try.ntmps23
    go_wp2_with (go_at_call 43; go_must (refine rcheck_any log next seq _ l false HOK.out hl _ hv1.out _ ?_); intro w2 hb2; unfold errI)
    go_ret3
    exact HR.out none 0 w2 (World.ownsRow_nil _ _ _ _) (hw1.trans (hb2.mono (by omega)))
  | true =>
    rw [if_neg (by simp)] at hz
    have HZ := Lib.hid hz
    clear hz
    go_enter Try.func23, Try.ntmps23
    go_wp2_with (go_at_call 43; go_must (refine rcheck_any log next seq _ l true HOK.out hl _ hv1.out _ ?_); intro w2 hb2; unfold errI)
    have HB2 := Lib.hid (hw1.trans (hb2.mono (by omega)))
    have hz2 := Nat.le_trans hz0 hb2.size
    have N2 := Lib.hid (row_on N0.out hb2)
    have hb2' : Below (w.heap.size + 1) w2 w2 := Below.refl _ _
    clear hb2 hv1 hz0 hw1 N0
    go_loopg [5, 6] l.length (fun gn s5 i wr => ∃ (k : Nat) (ad : Option Addr) (c n : Nat) (O : List Pl), k ≤ l.length ∧ gn = l.length - k ∧ i = .int .i64 k ∧ s5 = .slice ad n c ∧ n ≤ k ∧ Hid (ofL (l.take k) 0 = O) ∧ Hid (O.length = n) ∧ Hid (PlsR w wr (w.heap.size + 1) (.slice ad n c) O) ∧ Below (w.heap.size + 1) w2 wr ∧ w.heap.size + 1 ≤ wr.heap.size)
    case atStart => exact ⟨0, none, 0, 0, [], Nat.zero_le _, by omega, rfl, rfl, Nat.le_refl _, rfl, rfl, PlsR.nil _ _ _, hb2', hz2⟩
    case round =>
      obtain ⟨k, ad, c, n, O, hk, rfl, rfl, rfl, hnk, HO, hnO, HP, hb, hz⟩ := hrel
      have hbw : Below w.heap.size w wr := HB2.out.trans (hb.mono (Nat.le_succ _))
      have hNr : wr.heap[w.heap.size]? = some (Obj.cells #[.int .i64 log, .int .i64 next, .int .i64 seq, .slice va l.length vc] 52) := by rw [hb.block _ (Nat.lt_succ_self _)]; exact N2.out
      have va3 : wr.cell? ⟨w.heap.size, 3, none⟩ = some (Value.slice va l.length vc) := cell_of_row _ w.heap.size 3 _ _ _ hNr
      have NR := Lib.hid hNr
      clear hNr hb2'
      by_cases hlt : k < l.length
      · have hkk : (k : Int) < (l.length : Int) := by omega
        obtain ⟨va', vc', ee, _, _, _, v4⟩ := HV.out
        simp only [Value.slice.injEq] at ee
        obtain ⟨rfl, -, rfl⟩ := ee
        obtain ⟨vb, vo, rfl, v5⟩ := v4 (by omega)
        obtain ⟨px, py, q5, hpc⟩ := v5 k hlt
        obtain ⟨p0, p1, p2, p3, p4⟩ := q5.below hbw
        have hsu := ofL_succ l 0 k hlt
        rw [HO.out] at hsu
        obtain ⟨p, hp⟩ : ∃ p, l[k] = p := ⟨_, rfl⟩
        rw [hp] at p0 p1 p2 hpc hsu
        have s1 := hpc.shape
        have HPC := Lib.hid hpc
        have HSU := Lib.hid hsu
        clear v4 v5 hp hpc hsu HO q5
        obtain ⟨pn, pl, pc, pa, pb⟩ := p
        simp only at *
        obtain ⟨⟨a1, a2, rfl⟩, b1, b2, rfl⟩ := s1
        by_cases h1 : pl = 0
        · have hso : Hid (ofL (l.take (k + 1)) 0 = O ++ [⟨pn, pl, pc, pa, pb⟩]) := by
            have := HSU.out
            rw [if_pos h1] at this
            exact this
          have hd1 : (pl == 0) = true := by simpa using h1
          have H1 := Lib.hid h1
          clear HSU h1
          obtain ⟨kv0, hkv0, hrow0, heach0⟩ := HP.out
          rw [hnO.out] at hrow0
          have hown2 := Lib.hid hrow0
          have hrd1 : Rd (wr.alloc (Obj.cells #[.int .i64 pn, .int .i64 pl, .int .i64 pc, .slice a1 pa.length a2, .slice b1 pb.length b2] 59)) 5 (some ⟨wr.heap.size, 0, none⟩) 1 [.int .i64 pn, .int .i64 pl, .int .i64 pc, .slice a1 pa.length a2, .slice b1 pb.length b2] := rd_lit wr #[.int .i64 pn, .int .i64 pl, .int .i64 pc, .slice a1 pa.length a2, .slice b1 pb.length b2] 59 5 1 rfl
          clear hrow0
          go_wp2_with (at_builtin; go_must (refine wpList_appAt (by rfl) (.tmp 34) (.tmp 40) 50 (by rfl) (w.heap.size + 1) 59 (.agg #[.int .i64 0, .int .i64 0, .int .i64 0, .slice none 0 0, .slice none 0 0]) 5 72 Try.underlying50 infoPlace rfl (by decide) ad n c _ (by rfl) (hown2.out.alloc (Obj.cells #[.int .i64 pn, .int .i64 pl, .int .i64 pc, .slice a1 pa.length a2, .slice b1 pb.length b2] 59)) (some ⟨wr.heap.size, 0, none⟩) 1 1 [.int .i64 pn, .int .i64 pl, .int .i64 pc, .slice a1 pa.length a2, .slice b1 pb.length b2] (by rfl) hrd1 (plc_oneCell _ _ _ _ _ _ _ _ _) (fun h => by cases h) (by unfold maxLen; omega) (by omega) (by simp; omega) ?_); intro ad6 c6 w6 hown6 hg6 _)
          have hb6 := below_app (hb.alloc hz (Obj.cells #[.int .i64 pn, .int .i64 pl, .int .i64 pc, .slice a1 pa.length a2, .slice b1 pb.length b2] 59)) hg6 (by simp; omega) (hown2.out.alloc (Obj.cells #[.int .i64 pn, .int .i64 pl, .int .i64 pc, .slice a1 pa.length a2, .slice b1 pb.length b2] 59))
          have hz6 : w.heap.size + 1 ≤ w6.heap.size := by have := hg6.size; simp at this; omega
          have hp6 : Hid (PlsR w w6 (w.heap.size + 1) (.slice ad6 (n + 1) c6) (O ++ [⟨pn, pl, pc, pa, pb⟩])) := by
            refine ⟨kv0 ++ [(.slice a1 pa.length a2, .slice b1 pb.length b2)], by simp [hkv0], ?_, fun i hi => ?_⟩
            · rw [plcs_snoc kv0 O hkv0, List.length_append, List.length_singleton, hnO.out]
              exact hown6
            · simp only [List.length_append, List.length_singleton] at hi
              by_cases h : i < O.length
              · rw [List.getElem_append_left h]
                have h1 : (kv0 ++ [(Value.slice a1 pa.length a2, Value.slice b1 pb.length b2)])[i]'(by simp; omega) = kv0[i]'(by omega) := List.getElem_append_left (by omega)
                rw [h1]
                exact heach0 i h
              · obtain rfl : i = O.length := by omega
                have h1 : (kv0 ++ [(Value.slice a1 pa.length a2, Value.slice b1 pb.length b2)])[O.length]'(by simp; omega) = (Value.slice a1 pa.length a2, Value.slice b1 pb.length b2) := by
                  rw [List.getElem_append_right (by omega)]
                  simp [hkv0]
                rw [h1, List.getElem_append_right (Nat.le_refl _)]
                simpa using HPC.out
          go_roundg (l.length - (k + 1))
          case measure => omega
          case rel => exact ⟨k + 1, ad6, c6, n + 1, O ++ [⟨pn, pl, pc, pa, pb⟩], by omega, rfl, by go_num, rfl, by omega, hso, (Lib.hid (show (O ++ [(⟨pn, pl, pc, pa, pb⟩ : Pl)]).length = n + 1 by rw [← hnO.out]; simp)), hp6, hb6, hz6⟩
        · have hd1 : (pl == 0) = false := by simpa using h1
          have hso : Hid (ofL (l.take (k + 1)) 0 = O) := by
            have := HSU.out
            rw [if_neg h1] at this
            exact this
          clear HSU
          go_wp2
          go_roundg (l.length - (k + 1))
          case measure => omega
          case rel => exact ⟨k + 1, ad, c, n, O, by omega, rfl, by go_num, rfl, by omega, hso, hnO, HP, hb, hz⟩
      · have hkk : ¬ (k : Int) < (l.length : Int) := by omega
        have hO : ofL l 0 = O := by rw [← HO.out, List.take_of_length_le (by omega)]
        have hn1 : n ≤ 1000000 := by omega
        rw [hO, hnO.out] at HZ
        clear HO hO
        obtain ⟨wz, rfl⟩ : ∃ x, x = wr := ⟨_, rfl⟩
        by_cases h4 : 4 ≤ n
        · have h4z : (4 : Int) ≤ (n : Int) := by omega
          have hq := HZ.out
          rw [if_pos h4] at hq
          obtain ⟨rfl, hJ, rfl⟩ : 1 = z ∧ joinedL l O 1 = L ∧ true = t := by simpa using hq
          have HJ := Lib.hid hJ
          clear hq HZ hJ
          have hP := HP.out.pls hbw
          have HPZ := Lib.hid hP
          obtain ⟨ub, uo, rfl⟩ := hP.head (by have := hnO.out; omega)
          obtain ⟨ua', uc', ee, _, _, _, v4⟩ := hP
          simp only [Value.slice.injEq] at ee
          obtain ⟨ee, -, rfl⟩ := ee
          obtain ⟨ub', uo', e2, v5⟩ := v4 (by have := hnO.out; omega)
          obtain ⟨rfl, rfl⟩ : ub' = ub ∧ uo' = uo := by
            rw [e2] at ee
            simp only [Option.some.injEq, Addr.mk.injEq] at ee
            exact ⟨ee.1.symm, ee.2.1.symm⟩
          obtain ⟨x0, y0, ⟨q0, q1, q2, q3, q4⟩, hpc0⟩ := v5 0 (by have := hnO.out; omega)
          obtain ⟨p0, hp0⟩ : ∃ p, O[0]'(by have := hnO.out; omega) = p := ⟨_, rfl⟩
          rw [hp0] at q0 q1 q2 hpc0
          have hhead : O.headD default = p0 := by
            rw [← hp0]
            cases O with
            | nil => have := hnO.out; simp at this; omega
            | cons a r => rfl
          have HHD := Lib.hid hhead
          have HV5 := Lib.hid v5
          have s0 := hpc0.shape
          have HP0 := Lib.hid hpc0
          clear v4 v5 hhead hp0 hpc0 ee e2
          obtain ⟨n00, l00, c00, pa0, pb0⟩ := p0
          simp only at *
          obtain ⟨⟨a1, a2, rfl⟩, b1, b2, rfl⟩ := s0
          have h0z : (0 : Int) < (n : Int) := by omega
          have hx0 : Hid (Bs wz (.slice a1 pa0.length a2) pa0) := HP0.out.hx
          have hy0 : Hid (Bs wz (.slice b1 pb0.length b2) pb0) := HP0.out.hy
          go_wp2_with fail
          go_quiet (fail)
          go_wp2
          have hbd : Below wz.heap.size wz (wz.drewN nq) := below_drewN (Below.refl _ _)
          clear q0 q1 q2 q3 q4
          go_loopg [7, 8, 9, 10] n (fun gn s7 s8 s9 i wr => ∃ (k : Nat) (xa : Option Addr) (xc : Nat) (ya : Option Addr) (yc : Nat) (ad : Option Addr) (c : Nat) (lk mk : List UInt8) (Q : List Int), k ≤ n ∧ gn = n - k ∧ i = .int .i64 k ∧ s7 = .slice xa lk.length xc ∧ s8 = .slice ya mk.length yc ∧ s9 = .slice ad k c ∧ Hid ((O.take k).foldl minP pa0 = lk) ∧ Hid ((O.take k).foldl maxP pb0 = mk) ∧ Hid ((O.take k).map (·.num) = Q) ∧ Hid (Bs wz (.slice xa lk.length xc) lk) ∧ Hid (Bs wz (.slice ya mk.length yc) mk) ∧ Hid (wr.ownsRow wz.heap.size 3 1 (.slice ad k c) k (iv Q)) ∧ Below wz.heap.size wz wr)
          case atStart => exact ⟨0, a1, a2, b1, b2, none, 0, pa0, pb0, [], Nat.zero_le _, by omega, rfl, rfl, rfl, rfl, rfl, rfl, rfl, hx0, hy0, World.ownsRow_nil _ _ _ _, hbd⟩
          case round =>
            obtain ⟨k, xa, xc, ya, yc, ad, c, lk, mk, Q, hk, rfl, rfl, rfl, rfl, rfl, HLK, HMK, HQ, HX, HY, HOW, hbr⟩ := hrel
            clear hx0 hy0 hbd
            have hzr := hbr.size
            by_cases hlt2 : k < n
            · have hkk2 : (k : Int) < (n : Int) := by omega
              obtain ⟨px, py, q5, hpc⟩ := HV5.out k (by rw [hnO.out]; exact hlt2)
              obtain ⟨p0, p1, p2, p3, p4⟩ := q5.below hbr
              have e1 := foldl_at minP pa0 O k (by rw [hnO.out]; exact hlt2)
              have e3 := foldl_at maxP pb0 O k (by rw [hnO.out]; exact hlt2)
              have e4 : (O.take (k + 1)).map (·.num) = Q ++ [(O[k]'(by rw [hnO.out]; exact hlt2)).num] := by
                rw [List.take_succ_eq_append_getElem (by rw [hnO.out]; exact hlt2), List.map_append, HQ.out]
                rfl
              rw [HLK.out] at e1
              rw [HMK.out] at e3
              obtain ⟨p, hp⟩ : ∃ p, O[k]'(by rw [hnO.out]; exact hlt2) = p := ⟨_, rfl⟩
              rw [hp] at p0 p1 p2 hpc e1 e3 e4 q5
              rw [minP_less] at e1
              rw [maxP_more] at e3
              have s1 := hpc.shape
              have HPC := Lib.hid hpc
              have E1 := Lib.hid e1
              have E3 := Lib.hid e3
              have E4 := Lib.hid e4
              have HQ5 := Lib.hid q5
              clear hp hpc e1 e3 e4 HLK HMK HQ q5
              obtain ⟨pn, pl, pc, pa, pb⟩ := p
              simp only at *
              obtain ⟨⟨a1', a2', rfl⟩, b1', b2', rfl⟩ := s1
              have hrd1 : Rd (wr.alloc (Obj.cells #[Value.int .i64 pn] 3)) 1 (some ⟨wr.heap.size, 0, none⟩) 1 [Value.int .i64 pn] := rd_lit wr #[Value.int .i64 pn] 3 1 1 rfl
              go_wp2_with (at_builtin; go_must (refine wpList_appAt (by rfl) (.tmp 59) (.tmp 65) 38 (by rfl) wz.heap.size 3 (.int .i64 0) 1 8 Try.underlying38 infoInt rfl (by decide) ad k c _ (by rfl) (HOW.out.alloc (Obj.cells #[Value.int .i64 pn] 3)) (some ⟨wr.heap.size, 0, none⟩) 1 1 [Value.int .i64 pn] (by rfl) hrd1 (one_oneCell _ _) (fun h => by cases h) (by unfold maxLen; omega) (by omega) (by simp; omega) ?_); intro ad6 c6 w6 hown6 hg6 _)
              have hb6 := below_app (hbr.alloc hzr (Obj.cells #[Value.int .i64 pn] 3)) hg6 (by simp; omega) (HOW.out.alloc (Obj.cells #[Value.int .i64 pn] 3))
              have ho6 : Hid (w6.ownsRow wz.heap.size 3 1 (.slice ad6 (k + 1) c6) (k + 1) (iv (Q ++ [pn]))) := by show World.ownsRow _ _ _ _ _ _ _; rw [iv_append]; exact hown6
              have f3 : _ = some (Value.slice a1' pa.length a2') := (HQ5.out.below hb6).2.2.2.1
              have f4 : _ = some (Value.slice b1' pb.length b2') := (HQ5.out.below hb6).2.2.2.2
              have c1 : ∀ m, Sem.run Try.prog (convert 25 9 (.slice a1' pa.length a2')) (w6.drewN m) = .ok (.string (str pa)) (w6.drewN m) := fun m => run_conv_bs (P := Try.prog) Try.underlying25 Try.underlying5 Try.underlying9 (HPC.out.hx.below (below_drewN hb6))
              have c2 : ∀ m, Sem.run Try.prog (convert 25 9 (.slice xa lk.length xc)) (w6.drewN m) = .ok (.string (str lk)) (w6.drewN m) := fun m => run_conv_bs (P := Try.prog) Try.underlying25 Try.underlying5 Try.underlying9 (HX.out.below (below_drewN hb6))
              obtain ⟨lt1, hlt1⟩ : ∃ b, Op.bytesLess pa lk = b := ⟨_, rfl⟩
              try simp only at E1 E3 E4
              rw [hlt1] at E1
              have HB6 := Lib.hid hb6
              clear hrd1 hown6 hg6 p0 p1 p2 p3 p4 hb6
              cases lt1 with
              | true =>
                go_quiet (fail)
                go_wp2_with fail
                have E1' : Hid ((O.take (k + 1)).foldl minP pa0 = pa) := by
                  have := E1.out
                  show _ = _
                  first | exact this | (rw [if_pos (by trivial)] at this; exact this) | (rw [if_neg (by simp)] at this; exact this) | simpa using this
                have X' : Hid (Bs wz (.slice a1' pa.length a2') pa) := HPC.out.hx
                have HB7 := Lib.hid (below_drewN (n := nq) HB6.out)
                have ho7 : Hid ((w6.drewN nq).ownsRow wz.heap.size 3 1 (.slice ad6 (k + 1) c6) (k + 1) (iv (Q ++ [pn]))) := owns_below ho6.out (below_drewN (Below.refl _ _))
                clear c1 c2 f3 f4 E1 hlt1
                generalize w6.drewN nq = w7 at HB7 ho7 ⊢
                have f3 : _ = some (Value.slice a1' pa.length a2') := (HQ5.out.below HB7.out).2.2.2.1
                have f4 : _ = some (Value.slice b1' pb.length b2') := (HQ5.out.below HB7.out).2.2.2.2
                have c1 : ∀ m, Sem.run Try.prog (convert 25 9 (.slice b1' pb.length b2')) (w7.drewN m) = .ok (.string (str pb)) (w7.drewN m) := fun m => run_conv_bs (P := Try.prog) Try.underlying25 Try.underlying5 Try.underlying9 (HPC.out.hy.below (below_drewN HB7.out))
                have c2 : ∀ m, Sem.run Try.prog (convert 25 9 (.slice ya mk.length yc)) (w7.drewN m) = .ok (.string (str mk)) (w7.drewN m) := fun m => run_conv_bs (P := Try.prog) Try.underlying25 Try.underlying5 Try.underlying9 (HY.out.below (below_drewN HB7.out))
                obtain ⟨lt2, hlt3⟩ : ∃ b, Op.bytesLess pb mk = b := ⟨_, rfl⟩
                obtain ⟨eq2, heq2⟩ : ∃ b, (pb == mk) = b := ⟨_, rfl⟩
                rw [hlt3, heq2] at E3
                cases lt2 with
                | true =>
                  have E3' : Hid ((O.take (k + 1)).foldl maxP pb0 = mk) := by
                    have := E3.out
                    show _ = _
                    first | exact this | (rw [if_pos (by trivial)] at this; exact this) | (rw [if_neg (by simp)] at this; exact this) | simpa using this
                  have Y' := HY
                  go_quiet (fail)
                  go_wp2
                  go_roundg (n - (k + 1))
                  case measure => omega
                  case rel => exact ⟨k + 1, a1', a2', ya, yc, ad6, c6, pa, mk, Q ++ [pn], by omega, rfl, by go_num, rfl, rfl, rfl, E1', E3', E4, X', Y', owns_below ho7.out (below_drewN (Below.refl _ _)), below_drewN HB7.out⟩
                | false =>
                cases eq2 with
                | true =>
                  have E3' : Hid ((O.take (k + 1)).foldl maxP pb0 = mk) := by
                    have := E3.out
                    show _ = _
                    first | exact this | (rw [if_pos (by trivial)] at this; exact this) | (rw [if_neg (by simp)] at this; exact this) | simpa using this
                  have Y' := HY
                  go_quiet (fail)
                  go_wp2
                  go_roundg (n - (k + 1))
                  case measure => omega
                  case rel => exact ⟨k + 1, a1', a2', ya, yc, ad6, c6, pa, mk, Q ++ [pn], by omega, rfl, by go_num, rfl, rfl, rfl, E1', E3', E4, X', Y', owns_below ho7.out (below_drewN (Below.refl _ _)), below_drewN HB7.out⟩
                | false =>
                  have E3' : Hid ((O.take (k + 1)).foldl maxP pb0 = pb) := by
                    have := E3.out
                    show _ = _
                    first | exact this | (rw [if_pos (by trivial)] at this; exact this) | (rw [if_neg (by simp)] at this; exact this) | simpa using this
                  have Y' : Hid (Bs wz (.slice b1' pb.length b2') pb) := HPC.out.hy
                  go_quiet (fail)
                  go_wp2
                  go_roundg (n - (k + 1))
                  case measure => omega
                  case rel => exact ⟨k + 1, a1', a2', b1', b2', ad6, c6, pa, pb, Q ++ [pn], by omega, rfl, by go_num, rfl, rfl, rfl, E1', E3', E4, X', Y', owns_below ho7.out (below_drewN (Below.refl _ _)), below_drewN HB7.out⟩
              | false =>
                go_quiet (fail)
                go_wp2_with fail
                have E1' : Hid ((O.take (k + 1)).foldl minP pa0 = lk) := by
                  have := E1.out
                  show _ = _
                  first | exact this | (rw [if_pos (by trivial)] at this; exact this) | (rw [if_neg (by simp)] at this; exact this) | simpa using this
                have X' := HX
                have HB7 := Lib.hid (below_drewN (n := nq) HB6.out)
                have ho7 : Hid ((w6.drewN nq).ownsRow wz.heap.size 3 1 (.slice ad6 (k + 1) c6) (k + 1) (iv (Q ++ [pn]))) := owns_below ho6.out (below_drewN (Below.refl _ _))
                clear c1 c2 f3 f4 E1 hlt1
                generalize w6.drewN nq = w7 at HB7 ho7 ⊢
                have f3 : _ = some (Value.slice a1' pa.length a2') := (HQ5.out.below HB7.out).2.2.2.1
                have f4 : _ = some (Value.slice b1' pb.length b2') := (HQ5.out.below HB7.out).2.2.2.2
                have c1 : ∀ m, Sem.run Try.prog (convert 25 9 (.slice b1' pb.length b2')) (w7.drewN m) = .ok (.string (str pb)) (w7.drewN m) := fun m => run_conv_bs (P := Try.prog) Try.underlying25 Try.underlying5 Try.underlying9 (HPC.out.hy.below (below_drewN HB7.out))
                have c2 : ∀ m, Sem.run Try.prog (convert 25 9 (.slice ya mk.length yc)) (w7.drewN m) = .ok (.string (str mk)) (w7.drewN m) := fun m => run_conv_bs (P := Try.prog) Try.underlying25 Try.underlying5 Try.underlying9 (HY.out.below (below_drewN HB7.out))
                obtain ⟨lt2, hlt3⟩ : ∃ b, Op.bytesLess pb mk = b := ⟨_, rfl⟩
                obtain ⟨eq2, heq2⟩ : ∃ b, (pb == mk) = b := ⟨_, rfl⟩
                rw [hlt3, heq2] at E3
                cases lt2 with
                | true =>
                  have E3' : Hid ((O.take (k + 1)).foldl maxP pb0 = mk) := by
                    have := E3.out
                    show _ = _
                    first | exact this | (rw [if_pos (by trivial)] at this; exact this) | (rw [if_neg (by simp)] at this; exact this) | simpa using this
                  have Y' := HY
                  go_quiet (fail)
                  go_wp2
                  go_roundg (n - (k + 1))
                  case measure => omega
                  case rel => exact ⟨k + 1, xa, xc, ya, yc, ad6, c6, lk, mk, Q ++ [pn], by omega, rfl, by go_num, rfl, rfl, rfl, E1', E3', E4, X', Y', owns_below ho7.out (below_drewN (Below.refl _ _)), below_drewN HB7.out⟩
                | false =>
                cases eq2 with
                | true =>
                  have E3' : Hid ((O.take (k + 1)).foldl maxP pb0 = mk) := by
                    have := E3.out
                    show _ = _
                    first | exact this | (rw [if_pos (by trivial)] at this; exact this) | (rw [if_neg (by simp)] at this; exact this) | simpa using this
                  have Y' := HY
                  go_quiet (fail)
                  go_wp2
                  go_roundg (n - (k + 1))
                  case measure => omega
                  case rel => exact ⟨k + 1, xa, xc, ya, yc, ad6, c6, lk, mk, Q ++ [pn], by omega, rfl, by go_num, rfl, rfl, rfl, E1', E3', E4, X', Y', owns_below ho7.out (below_drewN (Below.refl _ _)), below_drewN HB7.out⟩
                | false =>
                  have E3' : Hid ((O.take (k + 1)).foldl maxP pb0 = pb) := by
                    have := E3.out
                    show _ = _
                    first | exact this | (rw [if_pos (by trivial)] at this; exact this) | (rw [if_neg (by simp)] at this; exact this) | simpa using this
                  have Y' : Hid (Bs wz (.slice b1' pb.length b2') pb) := HPC.out.hy
                  go_quiet (fail)
                  go_wp2
                  go_roundg (n - (k + 1))
                  case measure => omega
                  case rel => exact ⟨k + 1, xa, xc, b1', b2', ad6, c6, lk, pb, Q ++ [pn], by omega, rfl, by go_num, rfl, rfl, rfl, E1', E3', E4, X', Y', owns_below ho7.out (below_drewN (Below.refl _ _)), below_drewN HB7.out⟩
            · have hkk2 : ¬ (k : Int) < (n : Int) := by omega
              have hNr := row_on NR.out hbr
              have g0 : _ = some (Value.int .i64 log) := cell_of_row _ w.heap.size 0 _ _ _ hNr; have g1 : _ = some (Value.int .i64 next) := cell_of_row _ w.heap.size 1 _ _ _ hNr; have g2 : _ = some (Value.int .i64 seq) := cell_of_row _ w.heap.size 2 _ _ _ hNr; have g3 : _ = some (Value.slice va l.length vc) := cell_of_row _ w.heap.size 3 _ _ _ hNr
              have hlk : leastOf O = lk := by
                rw [← HLK.out, List.take_of_length_le (by have := hnO.out; omega)]
                unfold leastOf
                rw [HHD.out]
              have hmk : mostOf O = mk := by
                rw [← HMK.out, List.take_of_length_le (by have := hnO.out; omega)]
                unfold mostOf
                rw [HHD.out]
              have hO : O.map (·.num) = Q := by rw [← HQ.out, List.take_of_length_le (by have := hnO.out; omega)]
              obtain ⟨V, hV⟩ : ∃ V, overL l 1 lk mk = V := ⟨_, rfl⟩
              have hfin : insAll (Q ++ V) = L := by
                rw [insAll_sortI, ← HJ.out]
                unfold joinedL joinedU
                rw [hlk, hmk, hO, hV]
              have HFIN := Lib.hid hfin
              have HVV := Lib.hid hV
              have hkF : Q.length = k := by rw [← hO, List.length_map]; have := hnO.out; omega
              have HKF := Lib.hid hkF
              have hVl : V.length ≤ 1000000 := by
                have := overL_len l 1 lk mk l.length
                rw [List.take_length, hV] at this
                omega
              clear HLK HMK HQ hlk hmk hO hV hfin hkF HJ hNr
              obtain ⟨qn, hqn⟩ : ∃ qn, V.length = qn := ⟨_, rfl⟩
              rw [hqn] at hVl
              have HQN := Lib.hid hqn
              have hvz := Lib.hid (HV.out.below (HB2.out.trans (hb.mono (Nat.le_succ _))))
              clear hqn
              go_wp2_with (first
                | (go_at_call 45; go_must (refine rover_any log next seq 1 _ _ _ l lk mk V HVV.out hl _ (hvz.out.below hbr) (HX.out.below hbr) (HY.out.below hbr) _ ?_); intro ad5 c5 w5 hown5 hb5; rw [HQN.out] at hown5 ⊢; have hr5 := Lib.hid (owns_below HOW.out hb5); have ho5 := Lib.hid hown5; have hb6 := Lib.hid (hbr.trans (hb5.mono hzr)); have hz6 := Nat.le_trans hzr hb5.size; clear hown5 hb5)
                | (at_builtin; go_must (refine wpList_appAt (by rfl) (.tmp 95) (.tmp 99) 38 (by rfl) wz.heap.size 3 (.int .i64 0) 1 8 Try.underlying38 infoInt rfl (by decide) ad k c _ (by rfl) hr5.out ad5 qn c5 (iv V) (by rfl) (rd_of_owns ho5.out) (iv_oneCell _) (owns_nil ho5.out) (by unfold maxLen; omega) (by omega) hz6 ?_); intro ad7 c7 w7 hown7 hg7 _; rw [← iv_append] at hown7; have ho7 := Lib.hid hown7; have hb7 := Lib.hid (below_app hb6.out hg7 hz6 hr5.out); have hz7 := Nat.le_trans hz6 hg7.size; clear hown7 hg7)
                | (go_at_call 44; go_must (refine rsints_any _ (Q ++ V) L HFIN.out (by rw [List.length_append, HKF.out, HQN.out]; omega) _ (is_of_owns ho7.out (by rw [List.length_append, HKF.out, HQN.out])) _ ?_); intro ja jc w8 hown8 hb8; have ho8 := Lib.hid (owns_mono hown8 (show w.heap.size ≤ w7.heap.size by omega)); have hb9 := Lib.hid (hbw.trans ((hb7.out.trans (hb8.mono hz7)).mono (by omega))); clear hown8 hb8))
              go_ret3
              exact HR.out ja jc w8 ho8.out hb9.out
        · have h4z : ¬ (4 : Int) ≤ (n : Int) := by omega
          have hz1 : Hid (pickR l 0 = (z, L, t)) := by
            have := HZ.out
            rw [if_neg h4] at this
            exact this
          clear HZ
          go_wp2
          have NZ := NR
          have HBZ := Lib.hid hbw
          clear NR hbw va3 HP hb
          go_loopg [11, 12] 2 (fun gn s11 s12 wr => ∃ j : Nat, j ≤ 2 ∧ gn = 2 - j ∧ s11 = .int .i64 (if j = 0 then 4 else if j = 1 then 16 else 64) ∧ s12 = .int .i64 ((j : Int) + 1) ∧ Hid (wr.heap[w.heap.size]? = some (Obj.cells #[.int .i64 log, .int .i64 next, .int .i64 seq, .slice va l.length vc] 52)) ∧ Hid (Below w.heap.size w wr) ∧ w.heap.size + 1 ≤ wr.heap.size ∧ Hid (pickR l j = (z, L, t)))
          case atStart => exact ⟨0, by omega, rfl, rfl, rfl, NZ, HBZ, hz, hz1⟩
          case round =>
            obtain ⟨j, hj, rfl, rfl, rfl, NR, HBR, hzr, HS⟩ := hrel
            clear hz1 NZ HBZ
            have hvr := Lib.hid (HV.out.below HBR.out)
            obtain ⟨wo, rfl⟩ : ∃ x, x = wr := ⟨_, rfl⟩
            have g0 : _ = some (Value.int .i64 log) := cell_of_row _ w.heap.size 0 _ _ _ NR.out; have g1 : _ = some (Value.int .i64 next) := cell_of_row _ w.heap.size 1 _ _ _ NR.out; have g2 : _ = some (Value.int .i64 seq) := cell_of_row _ w.heap.size 2 _ _ _ NR.out; have g3 : _ = some (Value.slice va l.length vc) := cell_of_row _ w.heap.size 3 _ _ _ NR.out
            match j, hj with
            | 0, _ =>
              have HF0 : Hid (FirstAt l 1 0 0 (-1)) := ⟨rfl, .inl ⟨rfl, rfl⟩⟩
              go_wp2
              go_loopg [13, 14, 15] l.length (fun gn s13 s14 s15 wr => ∃ (i nn : Nat) (f : Int), i ≤ l.length ∧ gn = l.length - i ∧ s13 = .int .i64 nn ∧ s14 = .int .i64 f ∧ s15 = .int .i64 i ∧ nn ≤ i ∧ Hid (FirstAt l 1 i nn f) ∧ wr = wo)
              case atStart => exact ⟨0, 0, -1, Nat.zero_le _, by omega, rfl, rfl, rfl, Nat.le_refl _, HF0, rfl⟩
              case round =>
                obtain ⟨i, nn, f, hi, rfl, rfl, rfl, rfl, hni, HFA, rfl⟩ := hrel
                clear HF0
                by_cases hlt : i < l.length
                · have hii : (i : Int) < (l.length : Int) := by omega
                  obtain ⟨va', vc', ee, _, _, _, v4⟩ := hvr.out
                  simp only [Value.slice.injEq] at ee
                  obtain ⟨rfl, -, rfl⟩ := ee
                  obtain ⟨vb, vo, rfl, v5⟩ := v4 (by omega)
                  obtain ⟨px, py, ⟨p0, p1, p2, p3, p4⟩, hpc⟩ := v5 i hlt
                  clear v4 v5 hpc p0 p2 p3 p4
                  obtain ⟨pl, hpl⟩ : ∃ pl, l[i].level = pl := ⟨_, rfl⟩
                  rw [hpl] at p1
                  by_cases h1 : pl = 1
                  · have hd1 : (pl == 1) = true := by simpa using h1
                    have he : l[i].level = 1 := hpl.trans h1
                    have HE := Lib.hid he
                    clear h1 hpl he
                    by_cases hn0 : nn = 0
                    · subst hn0
                      have hf : f = -1 := by
                        rcases HFA.out.2 with ⟨_, h⟩ | ⟨h, _⟩
                        · exact h
                        · omega
                      subst hf
                      have HFB := Lib.hid (HFA.out.one hlt HE.out)
                      clear HFA HE
                      go_wp2
                      go_roundg (l.length - (i + 1))
                      case measure => omega
                      case rel => exact ⟨i + 1, 1, i, by omega, rfl, rfl, rfl, by go_num, by omega, HFB, rfl⟩
                    · have hf : 0 ≤ f := by
                        rcases HFA.out.2 with ⟨h, _⟩ | ⟨_, g, _, h, _⟩
                        · omega
                        · omega
                      have HFB := Lib.hid (HFA.out.more (by omega) hlt HE.out)
                      have hfn : ¬ f < 0 := by omega
                      clear HFA HE
                      go_wp2
                      go_roundg (l.length - (i + 1))
                      case measure => omega
                      case rel => exact ⟨i + 1, nn + 1, f, by omega, rfl, by go_num, rfl, by go_num, by omega, HFB, rfl⟩
                  · have hd1 : (pl == 1) = false := by simpa using h1
                    have HFB := Lib.hid (HFA.out.skip hlt (by rw [hpl]; exact h1))
                    clear HFA h1 hpl
                    go_wp2
                    go_roundg (l.length - (i + 1))
                    case measure => omega
                    case rel => exact ⟨i + 1, nn, f, by omega, rfl, rfl, rfl, by go_num, by omega, HFB, rfl⟩
                · have hii : ¬ (i : Int) < (l.length : Int) := by omega
                  obtain ⟨hfa1, hfa2⟩ := HFA.out
                  rw [List.take_of_length_le (by omega)] at hfa1 hfa2
                  have hs := HS.out
                  unfold pickR at hs
                  rw [hfa1] at hs
                  clear HS HFA
                  by_cases h5 : 4 < nn
                  · have h5z : (4 : Int) < (nn : Int) := by omega
                    rw [if_pos h5] at hs
                    obtain ⟨g, hg, rfl, hhead⟩ : ∃ g : Nat, ∃ h : g < l.length, f = g ∧ (ofL l 1).head? = some l[g] := by
                      rcases hfa2 with ⟨h, _⟩ | ⟨_, h⟩
                      · omega
                      · exact h
                    have htk : (ofL l 1).take 1 = [l[g]] := by
                      cases hh : ofL l 1 with
                      | nil => rw [hh] at hhead; simp at hhead
                      | cons a r => rw [hh] at hhead; simp at hhead; rw [hhead]; rfl
                    rw [htk] at hs
                    obtain ⟨rfl, hJ, rfl⟩ : 2 = z ∧ joinedL l [l[g]] 2 = L ∧ true = t := by simpa using hs
                    have hgz : (g : Int) < (l.length : Int) := by omega
                    have hgn : ((g : Int)).toNat = g := by omega
                    have hg0 : (0 : Int) ≤ (g : Int) := by omega
                    obtain ⟨va', vc', ee, _, _, _, v4⟩ := hvr.out
                    simp only [Value.slice.injEq] at ee
                    obtain ⟨rfl, -, rfl⟩ := ee
                    obtain ⟨vb, vo, rfl, v5⟩ := v4 (by omega)
                    obtain ⟨px, py, ⟨p0, p1, p2, p3, p4⟩, hpc⟩ := v5 g hg
                    obtain ⟨p, hp⟩ : ∃ p, l[g] = p := ⟨_, rfl⟩
                    rw [hp] at p0 p1 p2 hpc hJ
                    have s1 := hpc.shape
                    have HPC := Lib.hid hpc
                    have HJ := Lib.hid hJ
                    clear v4 v5 hp hpc hs htk hhead hfa1 hfa2 hJ
                    obtain ⟨pn, pl, pc, pa, pb⟩ := p
                    simp only at *
                    obtain ⟨⟨a1', a2', rfl⟩, b1', b2', rfl⟩ := s1
                    obtain ⟨V, hV⟩ : ∃ V, overL l 2 pa pb = V := ⟨_, rfl⟩
                    have hfin : insAll ([pn] ++ V) = L := by
                      rw [insAll_sortI, ← HJ.out]
                      unfold joinedL joinedU
                      rw [leastOf_one, mostOf_one]
                      show sortI ([pn] ++ V) = sortI ([pn] ++ overL l 2 pa pb)
                      rw [hV]
                    have HFIN := Lib.hid hfin
                    have HVV := Lib.hid hV
                    have hVl : V.length ≤ 1000000 := by
                      have := overL_len l 2 pa pb l.length
                      rw [List.take_length, hV] at this
                      omega
                    obtain ⟨qn, hqn⟩ : ∃ qn, V.length = qn := ⟨_, rfl⟩
                    rw [hqn] at hVl
                    have HQN := Lib.hid hqn
                    clear hqn hV hfin HJ
                    go_wp2_with fail
                    have hy8 : Below wr.heap.size wr (wr.alloc (Obj.cells #[.int .i64 pn, .int .i64 pl, .int .i64 pc, .slice a1' pa.length a2', .slice b1' pb.length b2'] 59)) := (Below.refl _ _).alloc (Nat.le_refl _) _
                    have NP8 := heap_alloc_new wr (Obj.cells #[.int .i64 pn, .int .i64 pl, .int .i64 pc, .slice a1' pa.length a2', .slice b1' pb.length b2'] 59)
                    have NV8 := row_on NR.out hy8
                    have hz8 : w.heap.size + 1 ≤ (wr.alloc (Obj.cells #[.int .i64 pn, .int .i64 pl, .int .i64 pc, .slice a1' pa.length a2', .slice b1' pb.length b2'] 59)).heap.size := by simp; omega
                    have HB8 := Lib.hid (HBR.out.trans (hy8.mono (by omega)))
                    have hv8 := Lib.hid (hvr.out.below hy8)
                    have hx8 := Lib.hid (HPC.out.hx.below hy8)
                    have hq8 := Lib.hid (HPC.out.hy.below hy8)
                    clear g0 g1 g2 g3 p0 p1 p2 p3 p4 hy8
                    generalize wr.alloc (Obj.cells #[.int .i64 pn, .int .i64 pl, .int .i64 pc, .slice a1' pa.length a2', .slice b1' pb.length b2'] 59) = w8 at NP8 NV8 hz8 HB8 hv8 hx8 hq8 ⊢
                    have s0 : (w8.cell? ⟨w.heap.size, 0, none⟩ = some (Value.int .i64 log) ∧ w8.cell? ⟨w.heap.size, 1, none⟩ = some (Value.int .i64 next) ∧ w8.cell? ⟨w.heap.size, 2, none⟩ = some (Value.int .i64 seq) ∧ w8.cell? ⟨w.heap.size, 3, none⟩ = some (Value.slice (some ⟨vb, vo, none⟩) l.length vc) ∧ w8.cell? ⟨wr.heap.size, 0, none⟩ = some (Value.int .i64 pn) ∧ w8.cell? ⟨wr.heap.size, 3, none⟩ = some (Value.slice a1' pa.length a2') ∧ w8.cell? ⟨wr.heap.size, 4, none⟩ = some (Value.slice b1' pb.length b2')) := ⟨cell_of_row _ w.heap.size 0 _ _ _ NV8, cell_of_row _ w.heap.size 1 _ _ _ NV8, cell_of_row _ w.heap.size 2 _ _ _ NV8, cell_of_row _ w.heap.size 3 _ _ _ NV8, cell_of_row _ wr.heap.size 0 _ _ _ NP8, cell_of_row _ wr.heap.size 3 _ _ _ NP8, cell_of_row _ wr.heap.size 4 _ _ _ NP8⟩
                    have s0d : (w8.drew.cell? ⟨w.heap.size, 0, none⟩ = some (Value.int .i64 log) ∧ w8.drew.cell? ⟨w.heap.size, 1, none⟩ = some (Value.int .i64 next) ∧ w8.drew.cell? ⟨w.heap.size, 2, none⟩ = some (Value.int .i64 seq) ∧ w8.drew.cell? ⟨w.heap.size, 3, none⟩ = some (Value.slice (some ⟨vb, vo, none⟩) l.length vc) ∧ w8.drew.cell? ⟨wr.heap.size, 0, none⟩ = some (Value.int .i64 pn) ∧ w8.drew.cell? ⟨wr.heap.size, 3, none⟩ = some (Value.slice a1' pa.length a2') ∧ w8.drew.cell? ⟨wr.heap.size, 4, none⟩ = some (Value.slice b1' pb.length b2')) := s0
                    have own1 : (w8.alloc (Obj.cells #[Value.int .i64 pn] 3)).drew.ownsRow w8.heap.size 3 1 (.slice (some ⟨w8.heap.size, 0, none⟩) 1 1) 1 [Value.int .i64 pn] := own_lit1 w8 (Value.int .i64 pn) (Nat.le_refl _)
                    clear NP8 NV8
                    go_region_held3 (fun w' => (w'.cell? ⟨w.heap.size, 0, none⟩ = some (Value.int .i64 log) ∧ w'.cell? ⟨w.heap.size, 1, none⟩ = some (Value.int .i64 next) ∧ w'.cell? ⟨w.heap.size, 2, none⟩ = some (Value.int .i64 seq) ∧ w'.cell? ⟨w.heap.size, 3, none⟩ = some (Value.slice (some ⟨vb, vo, none⟩) l.length vc) ∧ w'.cell? ⟨wr.heap.size, 0, none⟩ = some (Value.int .i64 pn) ∧ w'.cell? ⟨wr.heap.size, 3, none⟩ = some (Value.slice a1' pa.length a2') ∧ w'.cell? ⟨wr.heap.size, 4, none⟩ = some (Value.slice b1' pb.length b2')))
                      (first | exact s0d | exact cells7_later (by first | exact (Below.refl _ _).drew | exact ((Below.refl _ _).alloc (Nat.le_refl _) _).drew | exact hC | exact hB2 | exact hA | exact hA.alloc hA.size _) s0 | go_keep)
                      (first
                        | (go_at_call 45; refine rover_any log next seq 2 _ _ _ l pa pb V HVV.out hl _ (hv8.out.below (by first | exact (Below.refl _ _).drew | exact ((Below.refl _ _).alloc (Nat.le_refl _) _).drew | exact hC | exact hB2 | exact hA | exact hA.alloc hA.size _)) (hx8.out.below (by first | exact (Below.refl _ _).drew | exact ((Below.refl _ _).alloc (Nat.le_refl _) _).drew | exact hC | exact hB2 | exact hA | exact hA.alloc hA.size _)) (hq8.out.below (by first | exact (Below.refl _ _).drew | exact ((Below.refl _ _).alloc (Nat.le_refl _) _).drew | exact hC | exact hB2 | exact hA | exact hA.alloc hA.size _)) _ ?_; intro ad5 c5 w5 hown5 hb5; rw [HQN.out] at hown5 ⊢; have hA : Below w8.heap.size w8 w5 := below_tr (a := w8) (by first | exact (Below.refl _ _).drew | exact ((Below.refl _ _).alloc (Nat.le_refl _) _).drew | exact hC | exact hB2 | exact hA | exact hA.alloc hA.size _) hb5)
                        | ((refine step_appAt (by rfl) (.tmp 138) (.tmp 146) 38 (by rfl) w8.heap.size 3 (.int .i64 0) 1 8 Try.underlying38 infoInt rfl (by decide) (some ⟨w8.heap.size, 0, none⟩) 1 1 [Value.int .i64 pn] (by rfl) (owns_below own1 hb5) ad5 qn c5 (iv V) (by rfl) (rd_of_owns hown5) (iv_oneCell _) (owns_nil hown5) (by unfold maxLen; omega) (by omega) hA.size ?_; intro ad7 c7 w7 hown7 hg7 hat7; have hB2 : Below w8.heap.size w8 w7 := below_app hA hg7 hA.size (owns_below own1 hb5)))
                        | ((refine step_appAt (by rfl) (.tmp 138) (.tmp 146) 38 (by rfl) w8.heap.size 3 (.int .i64 0) 1 8 Try.underlying38 infoInt rfl (by decide) (some ⟨w5.heap.size, 0, none⟩) 1 1 [Value.int .i64 pn] (by rfl) (own_lit1 w5 (Value.int .i64 pn) hA.size) ad5 qn c5 (iv V) (by rfl) (rd_of_owns (hown5.alloc _)) (iv_oneCell _) (owns_nil hown5) (by unfold maxLen; omega) (by omega) (by have := hA.size; simp; omega) ?_; intro ad7 c7 w7 hown7 hg7 hat7; have hB2 : Below w8.heap.size w8 w7 := below_app (hA.alloc hA.size _) hg7 (by have := hA.size; simp; omega) (own_lit1 w5 (Value.int .i64 pn) hA.size)))
                        | (go_at_call 44; refine rsints_any _ ([pn] ++ V) L HFIN.out (by rw [List.length_append, HQN.out]; simp; omega) _ (is_of_owns (B := w8.heap.size) (by rw [iv_append]; exact hown7) (by rw [List.length_append, HQN.out]; rfl)) _ ?_; intro ja jc w9 hown9 hb9; have hC : Below w8.heap.size w8 w9 := below_tr hB2 hb9))
                    all_goals
                      have hf1 := owns_mono hown9 (show w.heap.size ≤ w7.heap.size by have := hB2.size; omega)
                      have hf2 := HB8.out.trans (hC.mono (show w.heap.size ≤ w8.heap.size by omega))
                      clear hA hB2 hown5 hown7 hown9 hb5 hb9 hC own1
                      go_wp2
                      go_ret3
                      exact HR.out ja jc w9 hf1 hf2
                  · have h5z : ¬ (4 : Int) < (nn : Int) := by omega
                    rw [if_neg h5] at hs
                    have HS2 : Hid (pickR l (0 + 1) = (z, L, t)) := hs
                    clear hs hfa1 hfa2
                    go_wp2
                    go_roundg (2 - (0 + 1))
                    case measure => omega
                    case rel => exact ⟨0 + 1, by omega, rfl, rfl, rfl, NR, HBR, hzr, HS2⟩
            | 1, _ =>
              have HF0 : Hid (FirstAt l 2 0 0 (-1)) := ⟨rfl, .inl ⟨rfl, rfl⟩⟩
              go_wp2
              go_loopg [13, 14, 15] l.length (fun gn s13 s14 s15 wr => ∃ (i nn : Nat) (f : Int), i ≤ l.length ∧ gn = l.length - i ∧ s13 = .int .i64 nn ∧ s14 = .int .i64 f ∧ s15 = .int .i64 i ∧ nn ≤ i ∧ Hid (FirstAt l 2 i nn f) ∧ wr = wo)
              case atStart => exact ⟨0, 0, -1, Nat.zero_le _, by omega, rfl, rfl, rfl, Nat.le_refl _, HF0, rfl⟩
              case round =>
                obtain ⟨i, nn, f, hi, rfl, rfl, rfl, rfl, hni, HFA, rfl⟩ := hrel
                clear HF0
                by_cases hlt : i < l.length
                · have hii : (i : Int) < (l.length : Int) := by omega
                  obtain ⟨va', vc', ee, _, _, _, v4⟩ := hvr.out
                  simp only [Value.slice.injEq] at ee
                  obtain ⟨rfl, -, rfl⟩ := ee
                  obtain ⟨vb, vo, rfl, v5⟩ := v4 (by omega)
                  obtain ⟨px, py, ⟨p0, p1, p2, p3, p4⟩, hpc⟩ := v5 i hlt
                  clear v4 v5 hpc p0 p2 p3 p4
                  obtain ⟨pl, hpl⟩ : ∃ pl, l[i].level = pl := ⟨_, rfl⟩
                  rw [hpl] at p1
                  by_cases h1 : pl = 2
                  · have hd1 : (pl == 2) = true := by simpa using h1
                    have he : l[i].level = 2 := hpl.trans h1
                    have HE := Lib.hid he
                    clear h1 hpl he
                    by_cases hn0 : nn = 0
                    · subst hn0
                      have hf : f = -1 := by
                        rcases HFA.out.2 with ⟨_, h⟩ | ⟨h, _⟩
                        · exact h
                        · omega
                      subst hf
                      have HFB := Lib.hid (HFA.out.one hlt HE.out)
                      clear HFA HE
                      go_wp2
                      go_roundg (l.length - (i + 1))
                      case measure => omega
                      case rel => exact ⟨i + 1, 1, i, by omega, rfl, rfl, rfl, by go_num, by omega, HFB, rfl⟩
                    · have hf : 0 ≤ f := by
                        rcases HFA.out.2 with ⟨h, _⟩ | ⟨_, g, _, h, _⟩
                        · omega
                        · omega
                      have HFB := Lib.hid (HFA.out.more (by omega) hlt HE.out)
                      have hfn : ¬ f < 0 := by omega
                      clear HFA HE
                      go_wp2
                      go_roundg (l.length - (i + 1))
                      case measure => omega
                      case rel => exact ⟨i + 1, nn + 1, f, by omega, rfl, by go_num, rfl, by go_num, by omega, HFB, rfl⟩
                  · have hd1 : (pl == 2) = false := by simpa using h1
                    have HFB := Lib.hid (HFA.out.skip hlt (by rw [hpl]; exact h1))
                    clear HFA h1 hpl
                    go_wp2
                    go_roundg (l.length - (i + 1))
                    case measure => omega
                    case rel => exact ⟨i + 1, nn, f, by omega, rfl, rfl, rfl, by go_num, by omega, HFB, rfl⟩
                · have hii : ¬ (i : Int) < (l.length : Int) := by omega
                  obtain ⟨hfa1, hfa2⟩ := HFA.out
                  rw [List.take_of_length_le (by omega)] at hfa1 hfa2
                  have hs := HS.out
                  unfold pickR at hs
                  rw [hfa1] at hs
                  clear HS HFA
                  by_cases h5 : 16 < nn
                  · have h5z : (16 : Int) < (nn : Int) := by omega
                    rw [if_pos h5] at hs
                    obtain ⟨g, hg, rfl, hhead⟩ : ∃ g : Nat, ∃ h : g < l.length, f = g ∧ (ofL l 2).head? = some l[g] := by
                      rcases hfa2 with ⟨h, _⟩ | ⟨_, h⟩
                      · omega
                      · exact h
                    have htk : (ofL l 2).take 1 = [l[g]] := by
                      cases hh : ofL l 2 with
                      | nil => rw [hh] at hhead; simp at hhead
                      | cons a r => rw [hh] at hhead; simp at hhead; rw [hhead]; rfl
                    rw [htk] at hs
                    obtain ⟨rfl, hJ, rfl⟩ : 3 = z ∧ joinedL l [l[g]] 3 = L ∧ true = t := by simpa using hs
                    have hgz : (g : Int) < (l.length : Int) := by omega
                    have hgn : ((g : Int)).toNat = g := by omega
                    have hg0 : (0 : Int) ≤ (g : Int) := by omega
                    obtain ⟨va', vc', ee, _, _, _, v4⟩ := hvr.out
                    simp only [Value.slice.injEq] at ee
                    obtain ⟨rfl, -, rfl⟩ := ee
                    obtain ⟨vb, vo, rfl, v5⟩ := v4 (by omega)
                    obtain ⟨px, py, ⟨p0, p1, p2, p3, p4⟩, hpc⟩ := v5 g hg
                    obtain ⟨p, hp⟩ : ∃ p, l[g] = p := ⟨_, rfl⟩
                    rw [hp] at p0 p1 p2 hpc hJ
                    have s1 := hpc.shape
                    have HPC := Lib.hid hpc
                    have HJ := Lib.hid hJ
                    clear v4 v5 hp hpc hs htk hhead hfa1 hfa2 hJ
                    obtain ⟨pn, pl, pc, pa, pb⟩ := p
                    simp only at *
                    obtain ⟨⟨a1', a2', rfl⟩, b1', b2', rfl⟩ := s1
                    obtain ⟨V, hV⟩ : ∃ V, overL l 3 pa pb = V := ⟨_, rfl⟩
                    have hfin : insAll ([pn] ++ V) = L := by
                      rw [insAll_sortI, ← HJ.out]
                      unfold joinedL joinedU
                      rw [leastOf_one, mostOf_one]
                      show sortI ([pn] ++ V) = sortI ([pn] ++ overL l 3 pa pb)
                      rw [hV]
                    have HFIN := Lib.hid hfin
                    have HVV := Lib.hid hV
                    have hVl : V.length ≤ 1000000 := by
                      have := overL_len l 3 pa pb l.length
                      rw [List.take_length, hV] at this
                      omega
                    obtain ⟨qn, hqn⟩ : ∃ qn, V.length = qn := ⟨_, rfl⟩
                    rw [hqn] at hVl
                    have HQN := Lib.hid hqn
                    clear hqn hV hfin HJ
                    go_wp2_with fail
                    have hy8 : Below wr.heap.size wr (wr.alloc (Obj.cells #[.int .i64 pn, .int .i64 pl, .int .i64 pc, .slice a1' pa.length a2', .slice b1' pb.length b2'] 59)) := (Below.refl _ _).alloc (Nat.le_refl _) _
                    have NP8 := heap_alloc_new wr (Obj.cells #[.int .i64 pn, .int .i64 pl, .int .i64 pc, .slice a1' pa.length a2', .slice b1' pb.length b2'] 59)
                    have NV8 := row_on NR.out hy8
                    have hz8 : w.heap.size + 1 ≤ (wr.alloc (Obj.cells #[.int .i64 pn, .int .i64 pl, .int .i64 pc, .slice a1' pa.length a2', .slice b1' pb.length b2'] 59)).heap.size := by simp; omega
                    have HB8 := Lib.hid (HBR.out.trans (hy8.mono (by omega)))
                    have hv8 := Lib.hid (hvr.out.below hy8)
                    have hx8 := Lib.hid (HPC.out.hx.below hy8)
                    have hq8 := Lib.hid (HPC.out.hy.below hy8)
                    clear g0 g1 g2 g3 p0 p1 p2 p3 p4 hy8
                    generalize wr.alloc (Obj.cells #[.int .i64 pn, .int .i64 pl, .int .i64 pc, .slice a1' pa.length a2', .slice b1' pb.length b2'] 59) = w8 at NP8 NV8 hz8 HB8 hv8 hx8 hq8 ⊢
                    have s0 : (w8.cell? ⟨w.heap.size, 0, none⟩ = some (Value.int .i64 log) ∧ w8.cell? ⟨w.heap.size, 1, none⟩ = some (Value.int .i64 next) ∧ w8.cell? ⟨w.heap.size, 2, none⟩ = some (Value.int .i64 seq) ∧ w8.cell? ⟨w.heap.size, 3, none⟩ = some (Value.slice (some ⟨vb, vo, none⟩) l.length vc) ∧ w8.cell? ⟨wr.heap.size, 0, none⟩ = some (Value.int .i64 pn) ∧ w8.cell? ⟨wr.heap.size, 3, none⟩ = some (Value.slice a1' pa.length a2') ∧ w8.cell? ⟨wr.heap.size, 4, none⟩ = some (Value.slice b1' pb.length b2')) := ⟨cell_of_row _ w.heap.size 0 _ _ _ NV8, cell_of_row _ w.heap.size 1 _ _ _ NV8, cell_of_row _ w.heap.size 2 _ _ _ NV8, cell_of_row _ w.heap.size 3 _ _ _ NV8, cell_of_row _ wr.heap.size 0 _ _ _ NP8, cell_of_row _ wr.heap.size 3 _ _ _ NP8, cell_of_row _ wr.heap.size 4 _ _ _ NP8⟩
                    have s0d : (w8.drew.cell? ⟨w.heap.size, 0, none⟩ = some (Value.int .i64 log) ∧ w8.drew.cell? ⟨w.heap.size, 1, none⟩ = some (Value.int .i64 next) ∧ w8.drew.cell? ⟨w.heap.size, 2, none⟩ = some (Value.int .i64 seq) ∧ w8.drew.cell? ⟨w.heap.size, 3, none⟩ = some (Value.slice (some ⟨vb, vo, none⟩) l.length vc) ∧ w8.drew.cell? ⟨wr.heap.size, 0, none⟩ = some (Value.int .i64 pn) ∧ w8.drew.cell? ⟨wr.heap.size, 3, none⟩ = some (Value.slice a1' pa.length a2') ∧ w8.drew.cell? ⟨wr.heap.size, 4, none⟩ = some (Value.slice b1' pb.length b2')) := s0
                    have own1 : (w8.alloc (Obj.cells #[Value.int .i64 pn] 3)).drew.ownsRow w8.heap.size 3 1 (.slice (some ⟨w8.heap.size, 0, none⟩) 1 1) 1 [Value.int .i64 pn] := own_lit1 w8 (Value.int .i64 pn) (Nat.le_refl _)
                    clear NP8 NV8
                    go_region_held3 (fun w' => (w'.cell? ⟨w.heap.size, 0, none⟩ = some (Value.int .i64 log) ∧ w'.cell? ⟨w.heap.size, 1, none⟩ = some (Value.int .i64 next) ∧ w'.cell? ⟨w.heap.size, 2, none⟩ = some (Value.int .i64 seq) ∧ w'.cell? ⟨w.heap.size, 3, none⟩ = some (Value.slice (some ⟨vb, vo, none⟩) l.length vc) ∧ w'.cell? ⟨wr.heap.size, 0, none⟩ = some (Value.int .i64 pn) ∧ w'.cell? ⟨wr.heap.size, 3, none⟩ = some (Value.slice a1' pa.length a2') ∧ w'.cell? ⟨wr.heap.size, 4, none⟩ = some (Value.slice b1' pb.length b2')))
                      (first | exact s0d | exact cells7_later (by first | exact (Below.refl _ _).drew | exact ((Below.refl _ _).alloc (Nat.le_refl _) _).drew | exact hC | exact hB2 | exact hA | exact hA.alloc hA.size _) s0 | go_keep)
                      (first
                        | (go_at_call 45; refine rover_any log next seq 3 _ _ _ l pa pb V HVV.out hl _ (hv8.out.below (by first | exact (Below.refl _ _).drew | exact ((Below.refl _ _).alloc (Nat.le_refl _) _).drew | exact hC | exact hB2 | exact hA | exact hA.alloc hA.size _)) (hx8.out.below (by first | exact (Below.refl _ _).drew | exact ((Below.refl _ _).alloc (Nat.le_refl _) _).drew | exact hC | exact hB2 | exact hA | exact hA.alloc hA.size _)) (hq8.out.below (by first | exact (Below.refl _ _).drew | exact ((Below.refl _ _).alloc (Nat.le_refl _) _).drew | exact hC | exact hB2 | exact hA | exact hA.alloc hA.size _)) _ ?_; intro ad5 c5 w5 hown5 hb5; rw [HQN.out] at hown5 ⊢; have hA : Below w8.heap.size w8 w5 := below_tr (a := w8) (by first | exact (Below.refl _ _).drew | exact ((Below.refl _ _).alloc (Nat.le_refl _) _).drew | exact hC | exact hB2 | exact hA | exact hA.alloc hA.size _) hb5)
                        | ((refine step_appAt (by rfl) (.tmp 138) (.tmp 146) 38 (by rfl) w8.heap.size 3 (.int .i64 0) 1 8 Try.underlying38 infoInt rfl (by decide) (some ⟨w8.heap.size, 0, none⟩) 1 1 [Value.int .i64 pn] (by rfl) (owns_below own1 hb5) ad5 qn c5 (iv V) (by rfl) (rd_of_owns hown5) (iv_oneCell _) (owns_nil hown5) (by unfold maxLen; omega) (by omega) hA.size ?_; intro ad7 c7 w7 hown7 hg7 hat7; have hB2 : Below w8.heap.size w8 w7 := below_app hA hg7 hA.size (owns_below own1 hb5)))
                        | ((refine step_appAt (by rfl) (.tmp 138) (.tmp 146) 38 (by rfl) w8.heap.size 3 (.int .i64 0) 1 8 Try.underlying38 infoInt rfl (by decide) (some ⟨w5.heap.size, 0, none⟩) 1 1 [Value.int .i64 pn] (by rfl) (own_lit1 w5 (Value.int .i64 pn) hA.size) ad5 qn c5 (iv V) (by rfl) (rd_of_owns (hown5.alloc _)) (iv_oneCell _) (owns_nil hown5) (by unfold maxLen; omega) (by omega) (by have := hA.size; simp; omega) ?_; intro ad7 c7 w7 hown7 hg7 hat7; have hB2 : Below w8.heap.size w8 w7 := below_app (hA.alloc hA.size _) hg7 (by have := hA.size; simp; omega) (own_lit1 w5 (Value.int .i64 pn) hA.size)))
                        | (go_at_call 44; refine rsints_any _ ([pn] ++ V) L HFIN.out (by rw [List.length_append, HQN.out]; simp; omega) _ (is_of_owns (B := w8.heap.size) (by rw [iv_append]; exact hown7) (by rw [List.length_append, HQN.out]; rfl)) _ ?_; intro ja jc w9 hown9 hb9; have hC : Below w8.heap.size w8 w9 := below_tr hB2 hb9))
                    all_goals
                      have hf1 := owns_mono hown9 (show w.heap.size ≤ w7.heap.size by have := hB2.size; omega)
                      have hf2 := HB8.out.trans (hC.mono (show w.heap.size ≤ w8.heap.size by omega))
                      clear hA hB2 hown5 hown7 hown9 hb5 hb9 hC own1
                      go_wp2
                      go_ret3
                      exact HR.out ja jc w9 hf1 hf2
                  · have h5z : ¬ (16 : Int) < (nn : Int) := by omega
                    rw [if_neg h5] at hs
                    have HS2 : Hid (pickR l (1 + 1) = (z, L, t)) := hs
                    clear hs hfa1 hfa2
                    go_wp2
                    go_roundg (2 - (1 + 1))
                    case measure => omega
                    case rel => exact ⟨1 + 1, by omega, rfl, rfl, rfl, NR, HBR, hzr, HS2⟩
            | 2, _ =>
              obtain ⟨rfl, rfl, rfl⟩ : 0 = z ∧ [] = L ∧ false = t := by
                have := HS.out
                simpa [pickR] using this
              clear HS
              go_wp2
              go_ret3
              exact HR.out none 0 wo (World.ownsRow_nil _ _ _ _) HBR.out
            | j + 3, h => exact absurd h (by omega)
end Go.Proofs.Ytgkgahjdjkmmnaa
