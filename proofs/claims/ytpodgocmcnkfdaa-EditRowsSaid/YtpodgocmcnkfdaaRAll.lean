/- The document's All, walked: edits, one behind the other. -/
import Derived.Test.YtpodgocmcnkfdaaEds
import Derived.Test.YtpodgocmcnkfdaaRApp
import Derived.Test.YtpodgocmcnkfdaaV4
namespace Go.Proofs.Ytpodgocmcnkfdaa
open Go.RowKit

/-- Bytes read as they did under a store into a version's box: no byte lies in it. -/
theorem Bs.setRow_ver {w : World} {v : Value} {l : List UInt8} {N t : Nat} {fr : Nat × Nat} {a b c : Int} {x : Option Addr} {n m : Nat} {cs : Array Value} (h : Bs w v l) (hN : w.heap[N]? = some (.cells #[.int .i64 a, .int .i64 b, .int .i64 c, .slice x n m] t fr)) : Bs (w.setRow N cs) v l := by
  obtain ⟨ad, cp, rfl, ⟨h1, h2⟩, h3, h4, h5⟩ := h
  refine ⟨ad, cp, rfl, ⟨h1, fun h0 => ?_⟩, h3, h4, h5⟩
  obtain ⟨g, o, e, hc⟩ := h2 h0
  refine ⟨g, o, e, fun j hj => ?_⟩
  have hcj := hc j hj
  have hne : g ≠ N := by
    rintro rfl
    rw [cell_of_row w g (o + j) _ _ _ hN] at hcj
    have hjl : j < l.length := by simpa using hj
    unfold bv at hcj
    rw [List.getElem?_map, List.getElem?_eq_getElem hjl, Option.map_some] at hcj
    generalize o + j = q at hcj
    match q with
    | 0 => simp at hcj
    | 1 => simp at hcj
    | 2 => simp at hcj
    | 3 => simp at hcj
    | q + 4 => simp at hcj
  rw [← hcj]
  exact World.cell?_of_block (setRow_other w N g cs hne)
theorem PlC.setRow_ver {w : World} {x y : Value} {p : Pl} {N t : Nat} {fr : Nat × Nat} {a b c : Int} {z : Option Addr} {n m : Nat} {cs : Array Value} (h : PlC w x y p) (hN : w.heap[N]? = some (.cells #[.int .i64 a, .int .i64 b, .int .i64 c, .slice z n m] t fr)) : PlC (w.setRow N cs) x y p := ⟨h.hx.setRow_ver hN, h.hy.setRow_ver hN, h.hb⟩
/-- A row of the call's own whose keys read as they do now. -/
def PlsW (w : World) (B : Nat) (v : Value) (l : List Pl) : Prop := PlsR w w B v l
theorem PlsW.below {w w' : World} {B : Nat} {v : Value} {l : List Pl} (h : PlsW w B v l) (hb : Below w.heap.size w w') : PlsW w' B v l := by
  obtain ⟨kv, h1, h2, h3⟩ := h
  exact ⟨kv, h1, owns_below h2 hb, fun i hi => (h3 i hi).below hb⟩
theorem PlsW.of {w0 w : World} {B : Nat} {v : Value} {l : List Pl} (h : PlsR w0 w B v l) (hb : Below w0.heap.size w0 w) : PlsW w B v l := by
  obtain ⟨kv, h1, h2, h3⟩ := h
  exact ⟨kv, h1, h2, fun i hi => (h3 i hi).below hb⟩
theorem PlsW.nil (w : World) (B : Nat) : PlsW w B (.slice none 0 0) [] := PlsR.nil _ _ _
theorem PlsW.mono {w : World} {B B' : Nat} {v : Value} {l : List Pl} (h : PlsW w B v l) (hB : B' ≤ B) : PlsW w B' v l := PlsR.mono h hB
theorem PlsW.pls {w : World} {B : Nat} {v : Value} {l : List Pl} (h : PlsW w B v l) : Pls w v l := PlsR.pls h (Below.refl _ _)
theorem PlsW.shape {w : World} {B : Nat} {v : Value} {l : List Pl} (h : PlsW w B v l) : ∃ ad c, v = .slice ad l.length c := PlsR.shape h
theorem PlsR.lowR {w0 w : World} {B : Nat} {v : Value} {l : List Pl} (h : PlsR w0 w B v l) {a : Addr} (ha : a.block < B) (u : Value) : PlsR w0 (w.setCell a u) B v l := by
  obtain ⟨kv, h1, h2, h3⟩ := h
  exact ⟨kv, h1, ownsRow_setCell_below h2 ha u, h3⟩
theorem PlsW.setRow_ver {w : World} {B : Nat} {v : Value} {l : List Pl} {N t : Nat} {fr : Nat × Nat} {a b c : Int} {z : Option Addr} {n m : Nat} {cs : Array Value} (h : PlsW w B v l) (hN : w.heap[N]? = some (.cells #[.int .i64 a, .int .i64 b, .int .i64 c, .slice z n m] t fr)) (hB : N < B) : PlsW (w.setRow N cs) B v l := by
  obtain ⟨kv, h1, h2, h3⟩ := h
  exact ⟨kv, h1, owns_setRow_low h2 hB, fun i hi => (h3 i hi).setRow_ver hN⟩

set_option maxRecDepth 1000000 in
set_option maxHeartbeats 6400000 in
theorem rall_any (v : Value) (l : List Ed) (X : Vn) (z : Int) (hX : allL vn0 l = (X, z)) (hs : SmallE l) (hl : l.length ≤ 1000) (w : World) (hv : Eds w v l) (R : Ending → World → Prop)
    (hR : ∀ xv w', PlsW w' w.heap.size xv X.tabs → Below w.heap.size w w' → R (.returned (.tuple #[.agg #[.int .i64 X.log, .int .i64 X.next, .int .i64 X.seq, xv], .int .i64 z])) w') :
    Calls Try.prog 19 #[v] w R := by
  have HR := Lib.hid hR
  have HX0 : Hid (allL vn0 (l.drop 0) = (X, z)) := hX
  have HV := Lib.hid hv
  obtain ⟨va, vc, rfl, v1, v2, v3, _⟩ := hv
  clear hR hX
  go_enter Try.func19, Try.ntmps19
  go_wp2
  have n0 : ((w.alloc (Obj.cells #[Value.int .i64 0, .int .i64 0, .int .i64 0, .slice none 0 0] 24)).alloc (Obj.cells #[Value.int .i64 0, .int .i64 0, .int .i64 0, .slice none 0 0] 24)).heap[w.heap.size]? = some (Obj.cells #[Value.int .i64 0, .int .i64 0, .int .i64 0, .slice none 0 0] 24) := block_alloc (heap_alloc_new w _)
  have n1 : ((w.alloc (Obj.cells #[Value.int .i64 0, .int .i64 0, .int .i64 0, .slice none 0 0] 24)).alloc (Obj.cells #[Value.int .i64 0, .int .i64 0, .int .i64 0, .slice none 0 0] 24)).heap[w.heap.size + 1]? = some (Obj.cells #[Value.int .i64 0, .int .i64 0, .int .i64 0, .slice none 0 0] 24) := by
    have h := heap_alloc_new (w.alloc (Obj.cells #[Value.int .i64 0, .int .i64 0, .int .i64 0, .slice none 0 0] 24)) (Obj.cells #[Value.int .i64 0, .int .i64 0, .int .i64 0, .slice none 0 0] 24)
    rw [show (w.alloc (Obj.cells #[Value.int .i64 0, .int .i64 0, .int .i64 0, .slice none 0 0] 24)).heap.size = w.heap.size + 1 by simp] at h
    exact h
  have hb1 : Below w.heap.size w ((w.alloc (Obj.cells #[Value.int .i64 0, .int .i64 0, .int .i64 0, .slice none 0 0] 24)).alloc (Obj.cells #[Value.int .i64 0, .int .i64 0, .int .i64 0, .slice none 0 0] 24)) := ((Below.refl w.heap.size w).alloc (Nat.le_refl _) _).alloc (by simp) _
  have hz1 : w.heap.size + 2 ≤ ((w.alloc (Obj.cells #[Value.int .i64 0, .int .i64 0, .int .i64 0, .slice none 0 0] 24)).alloc (Obj.cells #[Value.int .i64 0, .int .i64 0, .int .i64 0, .slice none 0 0] 24)).heap.size := by simp
  generalize (w.alloc (Obj.cells #[Value.int .i64 0, .int .i64 0, .int .i64 0, .slice none 0 0] 24)).alloc (Obj.cells #[Value.int .i64 0, .int .i64 0, .int .i64 0, .slice none 0 0] 24) = w1 at n0 n1 hb1 hz1 ⊢
  have HN0 := Lib.hid n0
  have HN1 := Lib.hid n1
  have HB1 := Lib.hid hb1
  clear n0 n1 hb1
  go_loopg [5] l.length (fun gn i wr => ∃ (k c : Nat) (ad : Option Addr) (V : Vn), k ≤ l.length ∧ gn = l.length - k ∧ i = .int .i64 k ∧ V.tabs.length ≤ 20 * k ∧ Hid (allL V (l.drop k) = (X, z)) ∧ Hid (PlsW wr (w.heap.size + 2) (.slice ad V.tabs.length c) V.tabs) ∧ Hid (wr.heap[w.heap.size + 1]? = some (Obj.cells #[.int .i64 V.log, .int .i64 V.next, .int .i64 V.seq, .slice ad V.tabs.length c] 24)) ∧ Bx (w.heap.size + 2) (w.heap.size + 1) w1 wr ∧ w.heap.size + 2 ≤ wr.heap.size)
  case atStart => exact ⟨0, 0, none, vn0, Nat.zero_le _, by omega, rfl, Nat.zero_le _, HX0, PlsW.nil _ _, HN1, Bx.refl _ _ _, hz1⟩
  case round =>
    obtain ⟨k, c, ad, V, hk, rfl, rfl, hvl, HA, HP, HN, hbx, hz⟩ := hrel
    clear HX0 HN1
    obtain ⟨wo, rfl⟩ : ∃ x, x = wr := ⟨_, rfl⟩
    have hbw : Below w.heap.size w wo := HB1.out.trans (hbx.low (by omega) (by omega))
    have hm0 := hbx.row HN0.out (by omega) (by omega)
    by_cases hlt : k < l.length
    · have hkk : (k : Int) < (l.length : Int) := by omega
      obtain ⟨va', vc', ee, _, _, _, v4⟩ := HV.out
      simp only [Value.slice.injEq] at ee
      obtain ⟨rfl, -, rfl⟩ := ee
      obtain ⟨vb, vo, rfl, v5⟩ := v4 (by omega)
      obtain ⟨px, py, q5, hpc⟩ := v5 k hlt
      have hbd : Below w.heap.size w wo.drew := hbw.drew
      obtain ⟨p0, p1, p2, p3, p4⟩ := q5.below hbd
      have hat := allL_at V l k hlt
      rw [HA.out] at hat
      have hsm := hs l[k] (List.getElem_mem _)
      have hln := applyL_len V l[k]
      obtain ⟨e, he⟩ : ∃ e, l[k] = e := ⟨_, rfl⟩
      rw [he] at p0 p1 p2 hpc hat hsm hln
      have s1 := hpc.shape
      have HPC := Lib.hid hpc
      obtain ⟨⟨U, y⟩, hu⟩ : ∃ q, applyL V e = q := ⟨_, rfl⟩
      rw [hu] at hat hln
      have HU := Lib.hid hu
      have HAT := Lib.hid hat
      obtain ⟨hsa, hsd⟩ := hsm
      clear v4 v5 he hpc hat hu q5 HA
      obtain ⟨el, en, es, ea, ed⟩ := e
      obtain ⟨vl, vn, vs, vt⟩ := V
      simp only at *
      obtain ⟨⟨a1, a2, rfl⟩, b1, b2, rfl⟩ := s1
      have HND : Hid (wo.drew.heap[w.heap.size + 1]? = some (Obj.cells #[.int .i64 vl, .int .i64 vn, .int .i64 vs, .slice ad vt.length c] 24)) := HN
      have HMD : Hid (wo.drew.heap[w.heap.size]? = some (Obj.cells #[Value.int .i64 0, .int .i64 0, .int .i64 0, .slice none 0 0] 24)) := hm0
      have g0 := cell_of_row _ (w.heap.size + 1) 0 _ _ _ HND.out
      have g1 := cell_of_row _ (w.heap.size + 1) 1 _ _ _ HND.out
      have g2 := cell_of_row _ (w.heap.size + 1) 2 _ _ _ HND.out
      have g3 := cell_of_row _ (w.heap.size + 1) 3 _ _ _ HND.out
      have HBD := Lib.hid hbd
      have HPD := Lib.hid (HP.out.below (Below.refl wo.heap.size wo).drew)
      have HXD := Lib.hid (hbx.below (Below.refl wo.heap.size wo).drew hz)
      clear hbd hbw hm0 hbx HP HN
      go_wp2_with fail
      have s0 := v4_of_row HND.out
      have s1 := And.intro p0 (And.intro p1 (And.intro p2 (And.intro p3 p4)))
      have HZZ : Hid (w.heap.size + 2 ≤ wo.drew.heap.size) := hz
      have HPV := Lib.hid HPD.out.pls
      have HPE := Lib.hid (HPC.out.ha.below HBD.out)
      have HPI := Lib.hid (HPC.out.hd.below HBD.out)
      clear g0 g1 g2 g3 p0 p1 p2 p3 p4
      obtain ⟨vv0, vv1, vv2, vv3⟩ := v4_later (w := wo) (w' := wo.alloc (Obj.cells #[Value.int .i64 0, .int .i64 0, .int .i64 0, .slice none 0 0] 24)) ((Below.refl wo.heap.size wo).alloc (Nat.le_refl _) (Obj.cells #[Value.int .i64 0, .int .i64 0, .int .i64 0, .slice none 0 0] 24)) s0
      obtain ⟨tt0, tt1, tt2, tt3, tt4⟩ := pbma_later (w := wo) (w' := wo.alloc (Obj.cells #[Value.int .i64 0, .int .i64 0, .int .i64 0, .slice none 0 0] 24)) ((Below.refl wo.heap.size wo).alloc (Nat.le_refl _) (Obj.cells #[Value.int .i64 0, .int .i64 0, .int .i64 0, .slice none 0 0] 24)) s1
      obtain ⟨v0, v1, v2, v3⟩ := s0
      obtain ⟨t0, t1, t2, t3, t4⟩ := s1
      go_region_law (first
        | (go_simp; go_at_call 11; refine rapply_any vl vn vs el en es _ _ _ vt ea ed U y HU.out (by omega) (by omega) (by omega) wo.drew _ ?_ (plsK_of HPV.out ?_) (plsK_of HPE.out ?_) (HPI.out.below ?_) _ ?_; (first | exact Below.refl _ _ | exact (Below.refl _ _).alloc (Nat.le_refl _) _ | exact ((Below.refl _ _).drew).alloc (Nat.le_refl _) _); (first | exact Below.refl _ _ | exact (Below.refl _ _).alloc (Nat.le_refl _) _ | exact ((Below.refl _ _).drew).alloc (Nat.le_refl _) _); (first | exact Below.refl _ _ | exact (Below.refl _ _).alloc (Nat.le_refl _) _ | exact ((Below.refl _ _).drew).alloc (Nat.le_refl _) _); (first | exact Below.refl _ _ | exact (Below.refl _ _).alloc (Nat.le_refl _) _ | exact ((Below.refl _ _).drew).alloc (Nat.le_refl _) _); intro xv w5 hps hb5; obtain ⟨xa, xc, rfl⟩ := hps.shape; have hk : Below wo.drew.heap.size wo.drew w5 := (by first | exact hb5 | exact below_tra ((Below.refl wo.drew.heap.size wo.drew).alloc (Nat.le_refl _) _) hb5); first | (have hfr : w5.heap[wo.heap.size]? = some (Obj.cells #[Value.int .i64 0, .int .i64 0, .int .i64 0, .slice none 0 0] 24) := row_on (heap_alloc_new wo.drew (Obj.cells #[Value.int .i64 0, .int .i64 0, .int .i64 0, .slice none 0 0] 24)) hb5; obtain ⟨z0, z1, z2, z3⟩ := v4_of_row hfr; have y0 := frozen_block hfr 0; have y1 := frozen_block hfr 1; have y2 := frozen_block hfr 2; have y3 := frozen_block hfr 3) | skip))
      all_goals
        first
          | (have hrow7 := put4_row hfr rfl (Value.int .i64 U.log) (Value.int .i64 U.next) (Value.int .i64 U.seq) (Value.slice xa U.tabs.length xc)
             have hk7 : Below wo.drew.heap.size wo.drew ((((w5.setCell ⟨wo.heap.size, 0, none⟩ (Value.int .i64 U.log)).setCell ⟨wo.heap.size, 1, none⟩ (Value.int .i64 U.next)).setCell ⟨wo.heap.size, 2, none⟩ (Value.int .i64 U.seq)).setCell ⟨wo.heap.size, 3, none⟩ (Value.slice xa U.tabs.length xc)) := below_put4 hk (Nat.le_refl _) _ _ _ _
             have hp7 : PlsR wo.drew ((((w5.setCell ⟨wo.heap.size, 0, none⟩ (Value.int .i64 U.log)).setCell ⟨wo.heap.size, 1, none⟩ (Value.int .i64 U.next)).setCell ⟨wo.heap.size, 2, none⟩ (Value.int .i64 U.seq)).setCell ⟨wo.heap.size, 3, none⟩ (Value.slice xa U.tabs.length xc)) (wo.heap.size + 1) (.slice xa U.tabs.length xc) U.tabs := (((((hps.mono (by simp)).lowR (by show wo.heap.size < wo.heap.size + 1; omega) _).lowR (by show wo.heap.size < wo.heap.size + 1; omega) _).lowR (by show wo.heap.size < wo.heap.size + 1; omega) _).lowR (by show wo.heap.size < wo.heap.size + 1; omega) _)
             replace hp7 := hp7.mono (Nat.le_succ _)
             generalize ((((w5.setCell ⟨wo.heap.size, 0, none⟩ (Value.int .i64 U.log)).setCell ⟨wo.heap.size, 1, none⟩ (Value.int .i64 U.next)).setCell ⟨wo.heap.size, 2, none⟩ (Value.int .i64 U.seq)).setCell ⟨wo.heap.size, 3, none⟩ (Value.slice xa U.tabs.length xc)) = w7 at hrow7 hk7 hp7 ⊢
             obtain ⟨NB, hNB⟩ : ∃ NB, wo.heap.size = NB := ⟨_, rfl⟩
             rw [hNB] at hrow7 ⊢
             have HNB : Hid (wo.heap.size = NB ∨ w5.heap.size = NB) := Or.inl hNB
             clear hNB)
          | (have hrow7 := heap_alloc_new w5 (Obj.cells #[Value.int .i64 U.log, .int .i64 U.next, .int .i64 U.seq, .slice xa U.tabs.length xc] 24)
             have hk7 : Below wo.drew.heap.size wo.drew (w5.alloc (Obj.cells #[Value.int .i64 U.log, .int .i64 U.next, .int .i64 U.seq, .slice xa U.tabs.length xc] 24)) := hk.alloc hk.size _
             have hp7 : PlsR wo.drew (w5.alloc (Obj.cells #[Value.int .i64 U.log, .int .i64 U.next, .int .i64 U.seq, .slice xa U.tabs.length xc] 24)) wo.heap.size (.slice xa U.tabs.length xc) U.tabs := hps.below ((Below.refl _ _).alloc (Nat.le_refl _) _)
             generalize w5.alloc (Obj.cells #[Value.int .i64 U.log, .int .i64 U.next, .int .i64 U.seq, .slice xa U.tabs.length xc] 24) = w7 at hrow7 hk7 hp7 ⊢
             obtain ⟨NB, hNB⟩ : ∃ NB, w5.heap.size = NB := ⟨_, rfl⟩
             rw [hNB] at hrow7 ⊢
             have HNB : Hid (wo.heap.size = NB ∨ w5.heap.size = NB) := Or.inr hNB
             clear hNB)
        have hn7 := row_on HND.out hk7
        have hm7 := row_on HMD.out hk7
        have HN7 := Lib.hid hn7
        have HM7 := Lib.hid hm7
        have HK7 := Lib.hid hk7
        have HP7 := Lib.hid hp7
        obtain ⟨i0, i1, i2, i3⟩ := v4_of_row hrow7
        clear hn7 hm7 hk7 hp7 hrow7 hps hk hb5 vv0 vv1 vv2 vv3 tt0 tt1 tt2 tt3 tt4 v0 v1 v2 v3 t0 t1 t2 t3 t4
        try clear hfr z0 z1 z2 z3 y0 y1 y2 y3
        by_cases hy0 : y = 0
        · subst hy0
          have HA2 : Hid (allL U (l.drop (k + 1)) = (X, z)) := by
            have := HAT.out
            rw [if_pos rfl] at this
            exact this.symm
          go_wp2_with (refine wpList_store_row (o := ⟨none, .store 24 (.tmp 4) (.tmp 27), _, _, _, _⟩) (by rfl) 24 (.tmp 4) (.tmp 27) (by rfl) (w.heap.size + 1) _ (by rfl) (by rfl) 24 _ (HN7).out (by kernel_rfl) (by rfl) (by simp [Value.oneCell']) ?_)
          have HR7 := Lib.hid (setRow_heap w7 (w.heap.size + 1) _ #[Value.int .i64 U.log, .int .i64 U.next, .int .i64 U.seq, .slice xa U.tabs.length xc] _ _ HN7.out)
          have HX7 := Lib.hid ((HXD.out.below HK7.out HZZ.out).setRow #[Value.int .i64 U.log, .int .i64 U.next, .int .i64 U.seq, .slice xa U.tabs.length xc])
          have HP8 := Lib.hid (((PlsW.of HP7.out HK7.out).mono (B' := w.heap.size + 2) HZZ.out).setRow_ver (cs := #[Value.int .i64 U.log, .int .i64 U.next, .int .i64 U.seq, .slice xa U.tabs.length xc]) HN7.out (by omega))
          have hz7 : w.heap.size + 2 ≤ (w7.setRow (w.heap.size + 1) #[Value.int .i64 U.log, .int .i64 U.next, .int .i64 U.seq, .slice xa U.tabs.length xc]).heap.size := by
            have h1 := HK7.out.size
            have h2 := HZZ.out
            simp
            simp at h1
            omega
          clear i0 i1 i2 i3
          go_wp2
          go_roundg (l.length - (k + 1))
          case measure => omega
          case rel => exact ⟨k + 1, xc, xa, U, by omega, rfl, by go_num, by omega, HA2, HP8, HR7, HX7.out, hz7⟩
        · have hd : (y != 0) = true := by simpa using hy0
          obtain ⟨rfl, rfl⟩ : X = vn0 ∧ z = y := by
            have := HAT.out
            rw [if_neg hy0] at this
            cases this
            exact ⟨rfl, rfl⟩
          go_wp2_with (refine wpList_store_row (o := ⟨none, .store 24 (.tmp 2) (.tmp 25), _, _, _, _⟩) (by rfl) 24 (.tmp 2) (.tmp 25) (by rfl) (w.heap.size) _ (by rfl) (by rfl) 24 _ (HM7).out (by kernel_rfl) (by rfl) (by simp [Value.oneCell']) ?_)
          refine bodyPost_ret (res_one rfl _ _ w.heap.size 24 #[Value.int .i64 0, Value.int .i64 0, Value.int .i64 0, .slice none 0 0] (0, 0) _ (.int .i64 z) rfl rfl (setRow_heap _ w.heap.size _ _ _ _ HM7.out) Try.underlying24 rfl (by kernel_rfl)) rfl ?_
          exact HR.out _ _ (PlsW.nil _ _) (below_setRow (below_then HBD.out HK7.out HBD.out.size) (Nat.le_refl _) _)
    · have hkk : ¬ (k : Int) < (l.length : Int) := by omega
      obtain ⟨rfl, rfl⟩ : X = V ∧ z = 0 := by
        have := HA.out
        rw [allL_end _ _ _ (by omega)] at this
        cases this
        exact ⟨rfl, rfl⟩
      have g0 := cell_of_row _ (w.heap.size + 1) 0 _ _ _ HN.out
      have g1 := cell_of_row _ (w.heap.size + 1) 1 _ _ _ HN.out
      have g2 := cell_of_row _ (w.heap.size + 1) 2 _ _ _ HN.out
      have g3 := cell_of_row _ (w.heap.size + 1) 3 _ _ _ HN.out
      have HM := Lib.hid hm0
      have HBW := Lib.hid hbw
      clear hm0 hbw
      go_wp2_with (refine wpList_store_row (o := ⟨none, .store 24 (.tmp 2) (.tmp 28), _, _, _, _⟩) (by rfl) 24 (.tmp 2) (.tmp 28) (by rfl) (w.heap.size) _ (by rfl) (by rfl) 24 _ (HM).out (by kernel_rfl) (by rfl) (by simp [Value.oneCell']) ?_)
      refine bodyPost_ret (res_one rfl _ _ w.heap.size 24 #[Value.int .i64 X.log, Value.int .i64 X.next, Value.int .i64 X.seq, .slice ad X.tabs.length c] (0, 0) _ (.int .i64 0) rfl rfl (setRow_heap _ w.heap.size _ _ _ _ HM.out) Try.underlying24 rfl (by kernel_rfl)) rfl ?_
      exact HR.out _ _ (((HP.out).setRow_ver (cs := #[Value.int .i64 X.log, Value.int .i64 X.next, Value.int .i64 X.seq, .slice ad X.tabs.length c]) HM.out (by omega)).mono (by omega)) (below_setRow HBW.out (Nat.le_refl _) _)
end Go.Proofs.Ytpodgocmcnkfdaa
