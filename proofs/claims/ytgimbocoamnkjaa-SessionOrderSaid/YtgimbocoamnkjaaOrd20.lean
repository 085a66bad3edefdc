/- The law SessionOrder, walked. -/
import Derived.Test.YtgimbocoamnkjaaWakes20
import Derived.Test.YtgimbocoamnkjaaOpen20
import Derived.Test.YtgimbocoamnkjaaWant
import Derived.Test.YtgimbocoamnkjaaSameI
import Derived.Laws.BitsLemmas
import Derived.Deep.CutRange
import Derived.Deep.CutBlock
import Derived.Deep.RegionLaw
namespace Go.Proofs.Ytgimbocoamnkjaa
open Go.RowKit

/-- What is in the queue when k were pushed. -/
def Qk (l : List Md) (k : Nat) : List Im := ((l.map itemL).take k).take 8
theorem Qk_lt {l : List Md} {k : Nat} (hk : k < l.length) (h8 : k < 8) : Qk l (k + 1) = Qk l k ++ [itemL l[k]] := by
  have e1 : ((l.map itemL).take (k + 1)).take 8 = (l.map itemL).take (k + 1) := List.take_of_length_le (by rw [List.length_take]; omega)
  have e2 : ((l.map itemL).take k).take 8 = (l.map itemL).take k := List.take_of_length_le (by rw [List.length_take]; omega)
  unfold Qk
  rw [e1, e2, List.take_succ_eq_append_getElem (by rw [List.length_map]; exact hk), List.getElem_map]
theorem Qk_ge {l : List Md} {k : Nat} (h8 : 8 ≤ k) : Qk l (k + 1) = Qk l k := by
  unfold Qk
  rw [List.take_take, List.take_take]
  congr 1
  omega
theorem Qk_len {l : List Md} {k : Nat} (hk : k ≤ l.length) : (Qk l k).length = min k 8 := by
  unfold Qk
  rw [List.length_take, List.length_take, List.length_map]
  omega
theorem Qk_qos {l : List Md} {k : Nat} : ∀ x ∈ Qk l k, 0 ≤ x.qos ∧ x.qos ≤ 2 := fun x hx => by
  obtain ⟨m, _, rfl⟩ := List.mem_map.1 (List.mem_of_mem_take (List.mem_of_mem_take hx))
  exact itemL_qos m
/-- A session that has a queue alone. -/
def qS (q : List Im) : Sess := { newS [99] with queue := q }
theorem SInv.q {q : List Im} (h : q.length ≤ 8) (hq : ∀ x ∈ q, 0 ≤ x.qos) : SInv (qS q) := ⟨h, by simp [qS, newS], rfl, .nil, by simp [qS, newS], hq⟩
theorem qS_push {q : List Im} {x : Im} (h : q.length < 8) : pushS (qS q) x = (qS (q ++ [x]), true) := by
  have h' : (qS q).queue.length < 8 := h
  unfold pushS
  rw [if_pos h']
  rfl
theorem qS_full {q : List Im} {x : Im} (h : ¬ q.length < 8) : pushS (qS q) x = (qS q, false) := by
  have h' : ¬ (qS q).queue.length < 8 := h
  unfold pushS
  rw [if_neg h']
/-- The session with one flight. -/
def fS (q : List Im) (f : Fl) : Sess := { newS [99] with queue := q, nums := [1], flights := [f] }
theorem ord_next {s' : Sess} {win id : Int} {x y : Im} {rest : List Im} {ok : Bool} (hw : 1 ≤ win) (hx : 0 ≤ x.qos) (h : NextR (qS (x :: rest)) win y id ok s') :
    ok = true ∧ y = x ∧ ((x.qos = 0 ∧ id = 0 ∧ s' = qS rest) ∨ (0 < x.qos ∧ id = 1 ∧ s' = fS rest ⟨1, x.qos, x⟩)) := by
  have hr : readyL (qS (x :: rest)) win = true := by
    show (x.qos == 0 || (decide ((0 : Int) < win) && decide (0 < 8))) = true
    rw [decide_eq_true (show (0 : Int) < win by omega)]
    simp
  cases h with
  | no h => rw [hr] at h; cases h
  | out y r hq' h hz => cases hq'; exact ⟨rfl, rfl, .inl ⟨hz, rfl, rfl⟩⟩
  | fly y r d hq' h hz h1 h2 hc ha =>
    cases hq'
    have h3 : d ≤ 1 := h2
    obtain rfl : d = 1 := by omega
    exact ⟨rfl, rfl, .inr ⟨hz, rfl, rfl⟩⟩
theorem ord_done {s' : Sess} {win id : Int} {y : Im} {ok : Bool} (h : NextR (qS []) win y id ok s') : ok = false ∧ s' = qS [] := by
  cases h with
  | no h => exact ⟨rfl, rfl⟩
  | out y r hq' h hz => cases hq'
  | fly y r d hq' h hz h1 h2 hc ha => cases hq'
theorem fS_land (q : List Im) (f : Fl) (h : f.id = 1) : landS (fS q f) 0 = qS q := by
  obtain ⟨i, st, it⟩ := f
  subst h
  rfl
theorem fS_inv {q : List Im} {f : Fl} (h : q.length ≤ 8) (hq : ∀ x ∈ q, 0 ≤ x.qos) (hf : f.id = 1) : SInv (fS q f) :=
  ⟨h, by simp [fS], by simp [fS, hf], by simp [fS], fun g hg => by
    obtain rfl := List.mem_singleton.1 hg
    rw [hf]
    decide, hq⟩

theorem i64_and7 (n : Int) : bits .and .i64 n 7 = n % 8 := by
  have h7 : (BitVec.ofInt 64 7).toNat = 2 ^ 3 - 1 := by decide
  have key : (BitVec.ofInt 64 n &&& BitVec.ofInt 64 7).toNat = (n % ((2 ^ 64 : Nat) : Int)).toNat % 2 ^ 3 := by
    rw [BitVec.toNat_and, BitVec.toNat_ofInt, h7, Nat.and_two_pow_sub_one_eq_mod]
  show IntKind.i64.wrap ((BitVec.ofInt 64 n &&& BitVec.ofInt 64 7).toNat : Nat) = n % 8
  rw [key, IntKind.wrap_i64]
  omega
theorem fS_ack (q : List Im) (x : Im) : idxP (hitF 1 [1]) (fS q ⟨1, 1, x⟩).flights = 0 := rfl
theorem fS_rec (q : List Im) (x : Im) : idxP (hitF 1 [2, 3]) (fS q ⟨1, 2, x⟩).flights = 0 := rfl
theorem fS_rec2 (q : List Im) (x : Im) : recS (fS q ⟨1, 2, x⟩) 0 true = (fS q ⟨1, 3, relI x⟩, true, true) := rfl
theorem fS_no (q : List Im) (x : Im) : idxP (hitF 1 [1]) (fS q ⟨1, 3, x⟩).flights = -1 := rfl
theorem fS_comp (q : List Im) (x : Im) : idxP (hitF 1 [3]) (fS q ⟨1, 3, x⟩).flights = 0 := rfl
theorem fS_len (q : List Im) (f : Fl) : (fS q f).flights.length ≤ 100000 := by
  show 1 ≤ 100000
  decide
theorem row14 {w : World} {g o : Nat} {a b c d e f h i j k l m n p : Value} (hc : ∀ t, t < 14 → w.cell? ⟨g, o + t, none⟩ = [a, b, c, d, e, f, h, i, j, k, l, m, n, p][t]?) :
    (w.cell? ⟨g, o, none⟩ = some a ∧ w.cell? ⟨g, o + 1, none⟩ = some b ∧ w.cell? ⟨g, o + 2, none⟩ = some c ∧ w.cell? ⟨g, o + 3, none⟩ = some d ∧ w.cell? ⟨g, o + 4, none⟩ = some e ∧ w.cell? ⟨g, o + 5, none⟩ = some f ∧ w.cell? ⟨g, o + 6, none⟩ = some h) ∧ w.cell? ⟨g, o + 7, none⟩ = some i ∧ w.cell? ⟨g, o + 8, none⟩ = some j ∧ w.cell? ⟨g, o + 9, none⟩ = some k ∧ w.cell? ⟨g, o + 10, none⟩ = some l ∧ w.cell? ⟨g, o + 11, none⟩ = some m ∧ w.cell? ⟨g, o + 12, none⟩ = some n ∧ w.cell? ⟨g, o + 13, none⟩ = some p :=
  ⟨⟨hc 0 (by decide), hc 1 (by decide), hc 2 (by decide), hc 3 (by decide), hc 4 (by decide), hc 5 (by decide), hc 6 (by decide)⟩, hc 7 (by decide), hc 8 (by decide), hc 9 (by decide), hc 10 (by decide), hc 11 (by decide), hc 12 (by decide), hc 13 (by decide)⟩

/-- What lies in the row at a place. -/
theorem SOM.at {W w : World} {M : Nat → Prop} {S : Nat} {s : Sess} {ad : Option Addr} {n c : Nat} {l : List Im} (h : SOM W w M S s (.slice ad n c) l) {k : Nat} (hk : k < l.length) :
    ∃ g pa pc qa qc ea ec, ad = some ⟨g, 0, none⟩ ∧ (∀ j, j < 14 → w.cell? ⟨g, k * 14 + j, none⟩ = [.string (str l[k].note.topic), (.slice pa l[k].note.payload.length pc), .int .i64 l[k].note.qos, .bool l[k].note.retain, .string (str l[k].note.src), .int .i64 l[k].note.expires, (.slice qa l[k].note.props.length qc), .int .i64 l[k].note.origin, .int .i64 l[k].note.number, .int .i64 l[k].note.hops, .int .i64 l[k].qos, .bool l[k].keep, (.slice ea l[k].ids.length ec), .string (str l[k].share)][j]?) ∧ ImC w (.slice pa l[k].note.payload.length pc) (.slice qa l[k].note.props.length qc) (.slice ea l[k].ids.length ec) l[k] := by
  obtain ⟨ps, h1, h2, h3, _⟩ := h.row
  obtain rfl : n = l.length := by
    obtain ⟨a, c', e⟩ := owns_shape h2
    simp only [Value.slice.injEq] at e
    exact e.2.1
  obtain ⟨g, rfl⟩ := owns_head h2 (by omega)
  subst h1
  have hkp : k < ps.length := by simpa using hk
  have hx := (h3 _ (List.getElem_mem hkp)).1.out
  rw [List.length_map] at h2
  have hc : ∀ j, j < 14 → w.cell? ⟨g, k * 14 + j, none⟩ = (imP ps[k])[j]? := fun j hj => by
    rw [h2.cellAt (k * 14 + j) (by omega), flatN 14 imP imP_length ps k j hkp hj]
  simp only [List.getElem_map]
  generalize ps[k] = p at hx hc ⊢
  obtain ⟨⟨v1, v2, v3⟩, x⟩ := p
  obtain ⟨⟨pa, pc, e1⟩, ⟨qa, qc, e2⟩, ea, ec, e3⟩ := hx.shape
  simp only at e1 e2 e3
  subst e1
  subst e2
  subst e3
  exact ⟨g, pa, pc, qa, qc, ea, ec, rfl, hc, hx⟩

set_option maxRecDepth 100000 in
set_option maxHeartbeats 8000000 in
theorem order_law (v : Value) (l : List Md) (win : Int) (W : World) (hv : Mds W v l) (R : Ending → World → Prop)
    (hR : ∀ w', Below W.heap.size W w' → R (.returned (.bool true)) w') :
    Calls Try.prog 4 #[v, .int .i64 win] W R := by
  have HR := Lib.hid hR
  have HV := Lib.hid hv
  obtain ⟨va, vc, rfl, _⟩ := hv
  obtain ⟨N, hN⟩ : ∃ n, l.length = n := ⟨_, rfl⟩
  rw [hN]
  have HN := Lib.hid hN
  clear hR hN
  go_enter Try.func4, Try.ntmps4
  go_upto_block 0 with (first
    | (go_at_call 5; go_must (refine new_sw [99] _ _ ?_); intro S w1 h1; have HW1 := Lib.hid h1; clear h1)
    | (go_at_call 6; go_must (refine wakes_any _ _ ?_); intro w2 hb2; have HW2 := Lib.hid (HW1.out.below hb2); clear hb2))
  obtain ⟨M0, hm0⟩ := SOM.start HW2.out
  have HM0 := Lib.hid hm0
  clear hm0
  go_cut [6] from 24 (fun wv wx => ∃ (q c : Nat) (ad : Option Addr) (M : Nat → Prop) (Q : List Im), wv = .slice ad q c ∧ Hid (q = min N 8) ∧ Hid (Q.length = q) ∧ Hid (∀ x ∈ Q, 0 ≤ x.qos ∧ x.qos ≤ 2) ∧ Hid (SOM W wx M S (qS Q) (.slice ad q c) Q))
  case first =>
    go_wp2_with fail
    go_loopg [6, 7] (min N 12) (fun gn wv i wr => ∃ (k q c : Nat) (ad : Option Addr) (M : Nat → Prop), k ≤ min N 12 ∧ gn = min N 12 - k ∧ i = .int .i64 k ∧ wv = .slice ad q c ∧ Hid (q = min k 8) ∧ Hid (SOM W wr M S (qS (Qk l k)) (.slice ad q c) (Qk l k)))
    case atStart => exact ⟨0, 0, 0, none, M0, by omega, by omega, rfl, rfl, Lib.hid rfl, HM0⟩
    case round =>
      obtain ⟨k, q, c, ad, M, hk, rfl, rfl, rfl, HQ, HS⟩ := hrel
      obtain ⟨wo, rfl⟩ : ∃ x, x = wr := ⟨_, rfl⟩
      clear HW1 HW2 HM0
      have hkl : k ≤ l.length := by have := HN.out; omega
      have hql : (Qk l k).length = q := by rw [Qk_len hkl, HQ.out]
      have HQL := Lib.hid hql
      have hiq : SInv (qS (Qk l k)) := SInv.q (by rw [Qk_len hkl]; omega) (fun x hx => (Qk_qos x hx).1)
      have HIQ := Lib.hid hiq
      clear hql hiq
      by_cases hlt : k < min N 12
      · have hkN : k < l.length := by have := HN.out; omega
        have hkk : (k : Int) < (N : Int) := by omega
        have hk12 : (k : Int) < 12 := by omega
        obtain ⟨g, o, c', hve, a0, a1, a2, a3, b1, b2, b3, b4, hcell, hmd, hmb⟩ := HV.out.at k hkN
        rw [HN.out] at hve
        have e1 := congrArg (fun v => match v with | Value.slice a _ _ => a | _ => none) hve
        have e2 := congrArg (fun v => match v with | Value.slice _ _ c => c | _ => 0) hve
        simp only at e1 e2
        subst e1
        subst e2
        have hlt8 := Qk_lt (l := l) (k := k) hkN
        obtain ⟨m, hm⟩ : ∃ x, l[k] = x := ⟨_, rfl⟩
        rw [hm] at hcell hmd hmb hlt8
        obtain ⟨⟨ta, tc, rfl, _⟩, ⟨fa, fc, rfl, _⟩, ⟨sa, sc, rfl, _⟩, ⟨pa, pc, rfl, _⟩, ⟨ca, cc, rfl, _⟩, ⟨ra, rc, rfl, _⟩, ⟨ua, uc, rfl, _⟩, ⟨ia, ic, rfl, _⟩⟩ := id hmd
        have HCELL := Lib.hid hcell
        have HMD := Lib.hid hmd
        have HMB := Lib.hid hmb
        have HLT8 := Lib.hid hlt8
        clear hve hm hcell hmd hmb hlt8
        have hm1 : Hid True := trivial
        by_cases h8 : k < 8
        · have hq8 : (Qk l k).length < 8 := by rw [HQL.out, HQ.out]; omega
          have HPS := Lib.hid (qS_push (x := itemL m) hq8)
          clear hq8
          go_wp2_with (first
            | (have hq := hm1; (refine wpList_load_at (o := ⟨some 38, .load 31 (.tmp 37), _, _, _, _⟩) (by rfl) 31 (.tmp 37) (by rfl) (g) (o + k * 16) (by rfl) ([.slice ta m.topic.length tc, .slice fa m.src.length fc, .slice sa m.share.length sc, .slice pa m.payload.length pc, .int .i64 m.qos, .int .i64 m.sub, .bool m.retain, .bool m.keep, .int .i64 m.life, .int .i64 m.fm, .slice ca m.co.length cc, .slice ra m.cr.length rc, .slice ua m.us.length uc, .slice ia m.ids.length ic, .int .i64 m.origin, .int .i64 m.number]) _ ((HCELL.out wo HS.out.low)) (Try.underlying31) (by rfl) (by kernel_rfl) ?_); clear hq)
            | (have hq := hm1; go_at_call 10; go_must (refine item_any m HMB.out _ _ _ _ _ _ _ _ W _ HS.out.low HMD.out _ ?_); intro pa7 pc7 qa7 qc7 ea7 ec7 w7 hit7 hb7; have HIC := Lib.hid hit7.c; have HS7 := Lib.hid (HS.out.below hb7); clear hit7 hb7 hq hm1)
            | (go_at_call 9; go_must (refine push_any S (qS (Qk l k)) (itemL m) true (qS (Qk l k ++ [itemL m])) HPS.out HIQ.out _ _ _ _ M HS7.out.sr HIC.out (itemL_b _) _ ?_); intro M8 w8 h8 hsep8; have HS8 := Lib.hid (HS7.out.sep h8 hsep8); clear h8 hsep8)
            | (have hq := HS8; (refine wpList_load_at (o := ⟨some 45, .load 31 (.tmp 44), _, _, _, _⟩) (by rfl) 31 (.tmp 44) (by rfl) (g) (o + k * 16) (by rfl) ([.slice ta m.topic.length tc, .slice fa m.src.length fc, .slice sa m.share.length sc, .slice pa m.payload.length pc, .int .i64 m.qos, .int .i64 m.sub, .bool m.retain, .bool m.keep, .int .i64 m.life, .int .i64 m.fm, .slice ca m.co.length cc, .slice ra m.cr.length rc, .slice ua m.us.length uc, .slice ia m.ids.length ic, .int .i64 m.origin, .int .i64 m.number]) _ ((HCELL.out w8 HS8.out.low)) (Try.underlying31) (by rfl) (by kernel_rfl) ?_); clear hq)
            | (go_at_call 10; go_must (refine item_any m HMB.out _ _ _ _ _ _ _ _ W _ HS8.out.low HMD.out _ ?_); intro pa9 pc9 qa9 qc9 ea9 ec9 w9 hit9 hb9; have HX9 := Lib.hid ((HS8.out.item hit9 (itemL_b m)).sep (.of_below ((Below.refl w9.heap.size w9).alloc (Nat.le_refl _) (Obj.cells #[.string (str (itemL m).note.topic), (.slice pa9 (itemL m).note.payload.length pc9), .int .i64 (itemL m).note.qos, .bool (itemL m).note.retain, .string (str (itemL m).note.src), .int .i64 (itemL m).note.expires, (.slice qa9 (itemL m).note.props.length qc9), .int .i64 (itemL m).note.origin, .int .i64 (itemL m).note.number, .int .i64 (itemL m).note.hops, .int .i64 (itemL m).qos, .bool (itemL m).keep, (.slice ea9 (itemL m).ids.length ec9), .string (str (itemL m).share)] 44)))); have hsl := (HS8.out.below hb9).below ((Below.refl w9.heap.size w9).alloc (Nat.le_refl _) (Obj.cells #[.string (str (itemL m).note.topic), (.slice pa9 (itemL m).note.payload.length pc9), .int .i64 (itemL m).note.qos, .bool (itemL m).note.retain, .string (str (itemL m).note.src), .int .i64 (itemL m).note.expires, (.slice qa9 (itemL m).note.props.length qc9), .int .i64 (itemL m).note.origin, .int .i64 (itemL m).note.number, .int .i64 (itemL m).note.hops, .int .i64 (itemL m).qos, .bool (itemL m).keep, (.slice ea9 (itemL m).ids.length ec9), .string (str (itemL m).share)] 44)); obtain ⟨ps, p1, p2, p3, p4⟩ := id hsl.row; have HSL := Lib.hid hsl; have HP1 := Lib.hid p1; have HP2 := Lib.hid p2; rw [HQL.out] at p2; have HPQ := Lib.hid p2; have HP3 := Lib.hid p3; have HP4 := Lib.hid p4; clear hit9 hb9 hsl p1 p2 p3 p4)
            | (at_builtin; have hq := HPQ; go_must (refine wpList_appAt (by rfl) (.tmp 41) (.tmp 47) 51 (by rfl) 0 44 (Value.agg #[.string ⟨#[]⟩, .slice none 0 0, .int .i64 0, .bool false, .string ⟨#[]⟩, .int .i64 0, .slice none 0 0, .int .i64 0, .int .i64 0, .int .i64 0, .int .i64 0, .bool false, .slice none 0 0, .string ⟨#[]⟩]) 14 184 Try.underlying51 infoIm rfl (by decide) ad q c _ (by rfl) HPQ.out (some ⟨w9.heap.size, 0, none⟩) 1 1 [.string (str (itemL m).note.topic), (.slice pa9 (itemL m).note.payload.length pc9), .int .i64 (itemL m).note.qos, .bool (itemL m).note.retain, .string (str (itemL m).note.src), .int .i64 (itemL m).note.expires, (.slice qa9 (itemL m).note.props.length qc9), .int .i64 (itemL m).note.origin, .int .i64 (itemL m).note.number, .int .i64 (itemL m).note.hops, .int .i64 (itemL m).qos, .bool (itemL m).keep, (.slice ea9 (itemL m).ids.length ec9), .string (str (itemL m).share)] (by rfl) (rd_lit w9 #[.string (str (itemL m).note.topic), (.slice pa9 (itemL m).note.payload.length pc9), .int .i64 (itemL m).note.qos, .bool (itemL m).note.retain, .string (str (itemL m).note.src), .int .i64 (itemL m).note.expires, (.slice qa9 (itemL m).note.props.length qc9), .int .i64 (itemL m).note.origin, .int .i64 (itemL m).note.number, .int .i64 (itemL m).note.hops, .int .i64 (itemL m).qos, .bool (itemL m).keep, (.slice ea9 (itemL m).ids.length ec9), .string (str (itemL m).share)] 44 14 1 rfl) (im_oneCell _ _ _ _ _ _ _) (fun h => by cases h) (by have := HQ.out; unfold maxLen; omega) (by have := HQ.out; omega) (Nat.zero_le _) ?_); intro ad10 c10 w10 hown hg hat; have hs10 := HSL.out.app HP1.out HP2.out HP3.out HP4.out HX9.out (v' := .slice ad10 (q + 1) c10) (by rw [HQL.out]; exact hown) hg hat; have HS10 := Lib.hid hs10; clear hs10 hown hg hat hq HPQ))
          go_roundg (min N 12 - (k + 1))
          case measure => omega
          case rel => exact ⟨k + 1, q + 1, c10, ad10, M8, by omega, rfl, by go_num, rfl, (by have := HQ.out; show _ = _; omega), (by show SOM _ _ _ _ _ _ _; rw [HLT8.out h8]; exact HS10.out)⟩
        · have hq8 : ¬ (Qk l k).length < 8 := by rw [HQL.out, HQ.out]; omega
          have HPS := Lib.hid (qS_full (x := itemL m) hq8)
          clear hq8
          go_wp2_with (first
            | (refine wpList_load_at (o := ⟨some 38, .load 31 (.tmp 37), _, _, _, _⟩) (by rfl) 31 (.tmp 37) (by rfl) (g) (o + k * 16) (by rfl) ([.slice ta m.topic.length tc, .slice fa m.src.length fc, .slice sa m.share.length sc, .slice pa m.payload.length pc, .int .i64 m.qos, .int .i64 m.sub, .bool m.retain, .bool m.keep, .int .i64 m.life, .int .i64 m.fm, .slice ca m.co.length cc, .slice ra m.cr.length rc, .slice ua m.us.length uc, .slice ia m.ids.length ic, .int .i64 m.origin, .int .i64 m.number]) _ ((HCELL.out wo HS.out.low)) (Try.underlying31) (by rfl) (by kernel_rfl) ?_)
            | (go_at_call 10; go_must (refine item_any m HMB.out _ _ _ _ _ _ _ _ W _ HS.out.low HMD.out _ ?_); intro pa7 pc7 qa7 qc7 ea7 ec7 w7 hit7 hb7; have HIC := Lib.hid hit7.c; have HS7 := Lib.hid (HS.out.below hb7); clear hit7 hb7)
            | (go_at_call 9; go_must (refine push_any S (qS (Qk l k)) (itemL m) false (qS (Qk l k)) HPS.out HIQ.out _ _ _ _ M HS7.out.sr HIC.out (itemL_b _) _ ?_); intro M8 w8 h8 hsep8; have HS8 := Lib.hid (HS7.out.sep h8 hsep8); clear h8 hsep8))
          go_roundg (min N 12 - (k + 1))
          case measure => omega
          case rel => exact ⟨k + 1, q, c, ad, M8, by omega, rfl, by go_num, rfl, (by have := HQ.out; show _ = _; omega), (by show SOM _ _ _ _ _ _ _; rw [Qk_ge (by omega)]; exact HS8.out)⟩
      · have hkm : k = min N 12 := by omega
        have HQN : Hid (q = min N 8) := by have := HQ.out; show _ = _; omega
        by_cases hkN : (k : Int) < (N : Int)
        · have hk12 : ¬ (k : Int) < 12 := by omega
          clear hkm hlt
          go_wp2_with fail
          go_meet
          exact ⟨q, c, ad, M, Qk l k, rfl, HQN, HQL, Lib.hid Qk_qos, HS⟩
        · clear hkm hlt
          go_wp2_with fail
          go_meet
          exact ⟨q, c, ad, M, Qk l k, rfl, HQN, HQL, Lib.hid Qk_qos, HS⟩
  case rest =>
    obtain ⟨q, c, ad, M, Q, rfl, HQN, HQL, HQQ, HS⟩ := hcut
    obtain ⟨w7, hw7⟩ : ∃ z, bits .and .i64 win 7 = z := ⟨_, rfl⟩
    have hwb : 0 ≤ w7 ∧ w7 ≤ 7 := by rw [← hw7, i64_and7]; omega
    go_upto_region 10 with fail
    go_cut [54] from 49 (fun s54 wx => s54 = .bool false ∧ wc = wx)
    case first =>
      by_cases h8 : (8 : Int) < (N : Int)
      · have hne : ((q : Int) != 8) = false := by have := HQN.out; simp; omega
        go_wp2_with fail
        go_meet
        exact ⟨rfl, rfl⟩
      · have hne : ((q : Int) != (N : Int)) = false := by have := HQN.out; simp; omega
        go_wp2_with fail
        go_meet
        exact ⟨rfl, rfl⟩
    case rest =>
      obtain ⟨rfl, rfl⟩ := hcut
      go_wp2_with fail
      go_loopg [8] q (fun gn i wr => ∃ (k' : Nat) (M : Nat → Prop), k' ≤ q ∧ gn = q - k' ∧ i = .int .i64 k' ∧ Hid (SOM W wr M S (qS (Q.drop k')) (.slice ad q c) Q))
      case atStart => exact ⟨0, M, Nat.zero_le _, by omega, rfl, HS⟩
      case round =>
        obtain ⟨k', M', hk', rfl, rfl, HS'⟩ := hrel
        obtain ⟨wb, rfl⟩ : ∃ x, x = wr := ⟨_, rfl⟩
        have hq8 : q ≤ 8 := by have := HQN.out; omega
        by_cases hlt' : k' < q
        · have hkQ : k' < Q.length := by rw [HQL.out]; exact hlt'
          have hkk' : (k' : Int) < (q : Int) := by omega
          have hdrop := List.drop_eq_getElem_cons hkQ
          have hxq := HQQ.out _ (List.getElem_mem hkQ)
          obtain ⟨x, hx⟩ : ∃ x, Q[k'] = x := ⟨_, rfl⟩
          rw [hx] at hdrop hxq
          obtain ⟨rest, hrest⟩ : ∃ r, Q.drop (k' + 1) = r := ⟨_, rfl⟩
          rw [hrest] at hdrop
          have hs := HS'.out
          rw [hdrop] at hs
          have hrl : (x :: rest).length ≤ 8 := by rw [← hdrop, List.length_drop, HQL.out]; have := HQN.out; omega
          have hrq : ∀ y ∈ x :: rest, 0 ≤ y.qos := fun y hy => (HQQ.out y (List.mem_of_mem_drop (hdrop ▸ hy))).1
          have HS2 := Lib.hid hs
          have HI2 := Lib.hid (SInv.q hrl hrq)
          have HRL := Lib.hid hrl
          have HRQ := Lib.hid hrq
          have HRLT : Hid (rest.length ≤ 8) := by have := hrl; rw [List.length_cons] at this; show _ ≤ _; omega
          have HRQT : Hid (∀ y ∈ rest, 0 ≤ y.qos) := fun y hy => hrq y (List.mem_cons_of_mem _ hy)
          have HX := Lib.hid hx
          have HREST := Lib.hid hrest
          have HXQ := Lib.hid hxq
          clear hdrop hx hrest hs hrl hrq hxq
          go_upto_region 17 with (first
            | (go_at_call 11; go_must (refine next_any S (qS (x :: rest)) (1 + w7) HI2.out _ M' HS2.out.sr _ ?_); intro y id ok s' B M6 pa6 pc6 qa6 qc6 ea6 ec6 w6 hn h6 hsep6 ho6 _ _ hB6; have HNX := Lib.hid hn; have HS6 := Lib.hid (HS2.out.sep h6 hsep6); have HO6 := Lib.hid (ho6.c hB6); have NZ6 := Lib.hid (heap_alloc_new w6 (Obj.cells #[.string ⟨#[]⟩, .slice none 0 0, .int .i64 0, .bool false, .string ⟨#[]⟩, .int .i64 0, .slice none 0 0, .int .i64 0, .int .i64 0, .int .i64 0, .int .i64 0, .bool false, .slice none 0 0, .string ⟨#[]⟩] 44)); clear hn h6 hsep6 ho6)
            | (refine wpList_store_row (o := ⟨none, .store 44 (.tmp 9) (.tmp 68), _, _, _, _⟩) (by rfl) 44 (.tmp 9) (.tmp 68) (by rfl) w6.heap.size _ (by rfl) (by rfl) 44 _ NZ6.out (by kernel_rfl) (by rfl) (by simp [Value.oneCell']) ?_; rw [World.setRow_alloc_new]; have hb7 := (Below.refl w6.heap.size w6).alloc (Nat.le_refl _) (Obj.cells #[.string (str y.note.topic), (.slice pa6 y.note.payload.length pc6), .int .i64 y.note.qos, .bool y.note.retain, .string (str y.note.src), .int .i64 y.note.expires, (.slice qa6 y.note.props.length qc6), .int .i64 y.note.origin, .int .i64 y.note.number, .int .i64 y.note.hops, .int .i64 y.qos, .bool y.keep, (.slice ea6 y.ids.length ec6), .string (str y.share)] 44); have n7 := heap_alloc_new w6 (Obj.cells #[.string (str y.note.topic), (.slice pa6 y.note.payload.length pc6), .int .i64 y.note.qos, .bool y.note.retain, .string (str y.note.src), .int .i64 y.note.expires, (.slice qa6 y.note.props.length qc6), .int .i64 y.note.origin, .int .i64 y.note.number, .int .i64 y.note.hops, .int .i64 y.qos, .bool y.keep, (.slice ea6 y.ids.length ec6), .string (str y.share)] 44); generalize w6.alloc (Obj.cells #[.string (str y.note.topic), (.slice pa6 y.note.payload.length pc6), .int .i64 y.note.qos, .bool y.note.retain, .string (str y.note.src), .int .i64 y.note.expires, (.slice qa6 y.note.props.length qc6), .int .i64 y.note.origin, .int .i64 y.note.number, .int .i64 y.note.hops, .int .i64 y.qos, .bool y.keep, (.slice ea6 y.ids.length ec6), .string (str y.share)] 44) = wn at hb7 n7 ⊢; have HSN := Lib.hid (HS6.out.below hb7); have HON := Lib.hid (HO6.out.below hb7); have NN := Lib.hid n7; clear hb7 n7))
          obtain ⟨e1, e2, hcase⟩ := ord_next (by omega) HXQ.out.1 HNX.out
          subst e1
          subst e2
          have HCASE := Lib.hid hcase
          have hbd : Below wn.heap.size wn wn.drew := (Below.refl _ _).drew
          have HSD := Lib.hid (HSN.out.below hbd)
          have HOD := Lib.hid (HON.out.below hbd)
          have ND := Lib.hid (row_on NN.out hbd)
          obtain ⟨g2, va2, vc2, qb2, qd2, eb2, ed2, had, hcell, hic⟩ := HSD.out.at hkQ
          rw [HX.out] at hcell hic
          subst had
          have HIC := Lib.hid hic
          obtain ⟨⟨r0, r1, r2, r3, r4, r5, r6⟩, r7, r8, r9, r10, r11, r12, r13⟩ := row14 hcell
          obtain ⟨⟨i0, i1, i2, i3, i4, i5, i6⟩, i7, i8, i9, i10, i11, i12, i13⟩ := it14 (w := wn.drew) ND.out
          clear hcase hcell hic hbd HNX
          go_region_law (first
            | (go_simp; go_at_call 16; refine rsamei_any y _ _ _ _ _ _ wn.drew HOD.out HIC.out _ ?_; intro w8 hb8))
          all_goals
            have HS8 := Lib.hid (HSD.out.below hb8)
            have N8 := Lib.hid (row_on ND.out hb8)
            have c10 := (it14 (w := w8) N8.out).2.2.2.2.1
            clear hb8 r0 r1 r2 r3 r4 r5 r6 r7 r8 r9 r10 r11 r12 r13 i0 i1 i2 i3 i4 i5 i6 i7 i8 i9 i10 i11 i12 i13
            rcases HCASE.out with ⟨hz, rfl, rfl⟩ | ⟨hz, rfl, rfl⟩
            · have hz1 : (y.qos == 1) = false := by simp; omega
              have hz2 : (y.qos == 2) = false := by simp; omega
              have HSE : Hid (SOM W w8 M6 S (qS (Q.drop (k' + 1))) (.slice (some ⟨g2, 0, none⟩) q c) Q) := by show SOM _ _ _ _ _ _ _; rw [HREST.out]; exact HS8.out
              clear hz HCASE
              go_wp2_with fail
              go_roundg (q - (k' + 1))
              case measure => omega
              case rel => exact ⟨k' + 1, M6, by omega, rfl, by go_num, HSE⟩
            · by_cases hq1 : y.qos = 1
              · have hz1 : (y.qos == 1) = true := by simpa using hq1
                have hs9 := HS8.out
                rw [hq1] at hs9
                have HS9 := Lib.hid hs9
                clear hz hq1 hs9 HCASE
                go_wp2_with (first
                  | (go_at_call 12; go_must (refine ack_any S (fS rest ⟨1, 1, y⟩) 1 0 (fS_ack rest y) (fS_inv HRLT.out HRQT.out rfl).i64 (fS_len _ _) _ M6 HS9.out.sr _ ?_); intro M9 w9 h9 hsep9; rw [fS_land _ _ rfl] at h9; have HSA := Lib.hid (HS9.out.sep h9 hsep9); clear h9 hsep9))
                have HSE : Hid (SOM W w9 M9 S (qS (Q.drop (k' + 1))) (.slice (some ⟨g2, 0, none⟩) q c) Q) := by show SOM _ _ _ _ _ _ _; rw [HREST.out]; exact HSA.out
                go_roundg (q - (k' + 1))
                case measure => omega
                case rel => exact ⟨k' + 1, M9, by omega, rfl, by go_num, HSE⟩
              · have hq2 : y.qos = 2 := by have := HXQ.out; omega
                have hz1 : (y.qos == 1) = false := by simpa using hq1
                have hz2 : (y.qos == 2) = true := by simpa using hq2
                have hs9 := HS8.out
                rw [hq2] at hs9
                have HS9 := Lib.hid hs9
                clear hz hq1 hq2 hs9 HCASE
                go_wp2_with (first
                  | (go_at_call 13; go_must (refine rec_any S (fS rest ⟨1, 2, y⟩) 1 true 0 (fS_rec rest y) (fS_inv HRLT.out HRQT.out rfl).i64 (fS_len _ _) _ true true (fS_rec2 rest y) _ M6 HS9.out.sr _ ?_); intro M9 w9 h9 hsep9; have HSA := Lib.hid (HS9.out.sep h9 hsep9); clear h9 hsep9)
                  | (go_at_call 12; go_must (refine ack_any S (fS rest ⟨1, 3, relI y⟩) 1 (-1) (fS_no rest _) (fS_inv HRLT.out HRQT.out rfl).i64 (fS_len _ _) _ M9 HSA.out.sr _ ?_); intro M10 w10 h10 hsep10; rw [show landS (fS rest ⟨1, 3, relI y⟩) (-1) = fS rest ⟨1, 3, relI y⟩ from if_pos (by decide)] at h10; have HSB := Lib.hid (HSA.out.sep h10 hsep10); clear h10 hsep10)
                  | (go_at_call 14; go_must (refine comp_any S (fS rest ⟨1, 3, relI y⟩) 1 0 (fS_comp rest _) (fS_inv HRLT.out HRQT.out rfl).i64 (fS_len _ _) _ M10 HSB.out.sr _ ?_); intro M11 w11 h11 hsep11; rw [fS_land _ _ rfl] at h11; have HSC := Lib.hid (HSB.out.sep h11 hsep11); clear h11 hsep11))
                have HSE : Hid (SOM W w11 M11 S (qS (Q.drop (k' + 1))) (.slice (some ⟨g2, 0, none⟩) q c) Q) := by show SOM _ _ _ _ _ _ _; rw [HREST.out]; exact HSC.out
                go_roundg (q - (k' + 1))
                case measure => omega
                case rel => exact ⟨k' + 1, M11, by omega, rfl, by go_num, HSE⟩
        · obtain rfl : k' = q := by omega
          have hkk' : ¬ (k' : Int) < (k' : Int) := by omega
          have hs := HS'.out
          rw [List.drop_of_length_le (by rw [HQL.out]; exact Nat.le_refl _)] at hs
          have HS2 := Lib.hid hs
          have HI2 := Lib.hid (SInv.q (q := []) (by simp) (by simp))
          clear hs
          go_wp2_with (first
            | (go_at_call 11; go_must (refine next_any S (qS []) (1 + w7) HI2.out _ M' HS2.out.sr _ ?_); intro y id ok s' B M6 pa6 pc6 qa6 qc6 ea6 ec6 w6 hn h6 hsep6 ho6 _ _ hB6; obtain ⟨e1, e2⟩ := ord_done hn; subst e1; subst e2; have HS6 := Lib.hid (HS2.out.sep h6 hsep6); have HO6 := Lib.hid (ho6.c hB6); have NZ6 := Lib.hid (heap_alloc_new w6 (Obj.cells #[.string ⟨#[]⟩, .slice none 0 0, .int .i64 0, .bool false, .string ⟨#[]⟩, .int .i64 0, .slice none 0 0, .int .i64 0, .int .i64 0, .int .i64 0, .int .i64 0, .bool false, .slice none 0 0, .string ⟨#[]⟩] 44)); clear hn h6 hsep6 ho6)
            | (refine wpList_store_row (o := ⟨none, .store 44 (.tmp 14) (.tmp 119), _, _, _, _⟩) (by rfl) 44 (.tmp 14) (.tmp 119) (by rfl) w6.heap.size _ (by rfl) (by rfl) 44 _ NZ6.out (by kernel_rfl) (by rfl) (by simp [Value.oneCell']) ?_; rw [World.setRow_alloc_new]; have hb7 := (Below.refl w6.heap.size w6).alloc (Nat.le_refl _) (Obj.cells #[.string (str y.note.topic), (.slice pa6 y.note.payload.length pc6), .int .i64 y.note.qos, .bool y.note.retain, .string (str y.note.src), .int .i64 y.note.expires, (.slice qa6 y.note.props.length qc6), .int .i64 y.note.origin, .int .i64 y.note.number, .int .i64 y.note.hops, .int .i64 y.qos, .bool y.keep, (.slice ea6 y.ids.length ec6), .string (str y.share)] 44); have n7 := heap_alloc_new w6 (Obj.cells #[.string (str y.note.topic), (.slice pa6 y.note.payload.length pc6), .int .i64 y.note.qos, .bool y.note.retain, .string (str y.note.src), .int .i64 y.note.expires, (.slice qa6 y.note.props.length qc6), .int .i64 y.note.origin, .int .i64 y.note.number, .int .i64 y.note.hops, .int .i64 y.qos, .bool y.keep, (.slice ea6 y.ids.length ec6), .string (str y.share)] 44); generalize w6.alloc (Obj.cells #[.string (str y.note.topic), (.slice pa6 y.note.payload.length pc6), .int .i64 y.note.qos, .bool y.note.retain, .string (str y.note.src), .int .i64 y.note.expires, (.slice qa6 y.note.props.length qc6), .int .i64 y.note.origin, .int .i64 y.note.number, .int .i64 y.note.hops, .int .i64 y.qos, .bool y.keep, (.slice ea6 y.ids.length ec6), .string (str y.share)] 44) = wn at hb7 n7 ⊢; have HSN := Lib.hid (HS6.out.below hb7); have HON := Lib.hid (HO6.out.below hb7); have NN := Lib.hid n7; clear hb7 n7)
            | (go_at_call 15; go_must (refine queue_sw S (qS []) 0 rfl HI2.out W _ HSN.out.sw _ ?_); intro qa8 qc8 w8 h8 _; have HW8 := Lib.hid h8; clear h8)
            | (go_at_call 7; go_must (refine flights_sw S (qS []) 0 rfl HI2.out W _ HW8.out _ ?_); intro fa9 fc9 qs9 w9 _ _ h9 _))
          all_goals exact HR.out _ h9.low
end Go.Proofs.Ytgimbocoamnkjaa
