/- Numbers put in order: the library's sort of a row of the call's own, and the document's, walked; both come to one. Rows of numbers compared. -/
import Derived.Test.YtgkgahjdjkmmnaaOf
import Derived.Test.YtgkgahjdjkmmnaaLaysI
import Derived.Test.YtgkgahjdjkmmnaaSeenW
import Derived.Test.YtgkgahjdjkmmnaaPutL
import Derived.Test.YtgkgahjdjkmmnaaApp0
import Derived.Sort.OwnSortedInts
import Derived.Deep.RegionHeld3
namespace Go.Proofs.Ytgkgahjdjkmmnaa
open Go.RowKit

def sortI (l : List Int) : List Int := l.mergeSort fun x y => decide (x ≤ y)
theorem sortI_perm (l : List Int) : (sortI l).Perm l := List.mergeSort_perm _ _
theorem sortI_sorted (l : List Int) : (sortI l).Pairwise (· ≤ ·) := by
  have := List.pairwise_mergeSort (le := fun x y : Int => decide (x ≤ y)) (by intro a b c; simp; omega) (by intro a b; simp; omega) l
  exact this.imp fun h => by simpa using h
theorem perm_sorted_eq {a b : List Int} (h : a.Perm b) (ha : a.Pairwise (· ≤ ·)) (hb : b.Pairwise (· ≤ ·)) : a = b :=
  List.Perm.eq_of_pairwise (fun x y _ _ h1 h2 => by omega) ha hb h
def insI (l : List Int) (x : Int) : List Int := l.takeWhile (fun y => decide (y < x)) ++ x :: l.dropWhile (fun y => decide (y < x))
theorem insI_perm (l : List Int) (x : Int) : (insI l x).Perm (x :: l) := by
  unfold insI
  have h1 : (l.takeWhile (fun y => decide (y < x)) ++ x :: l.dropWhile (fun y => decide (y < x))).Perm (x :: (l.takeWhile (fun y => decide (y < x)) ++ l.dropWhile (fun y => decide (y < x)))) := List.perm_middle
  rw [List.takeWhile_append_dropWhile] at h1
  exact h1
theorem insI_sorted : ∀ (l : List Int) (x : Int), l.Pairwise (· ≤ ·) → (insI l x).Pairwise (· ≤ ·)
  | [], x, _ => by simp [insI]
  | a :: l, x, h => by
    obtain ⟨h1, h2⟩ := List.pairwise_cons.1 h
    unfold insI
    by_cases hlt : a < x
    · rw [List.takeWhile_cons_of_pos (by simpa using hlt), List.dropWhile_cons_of_pos (by simpa using hlt)]
      refine List.pairwise_cons.2 ⟨fun y hy => ?_, insI_sorted l x h2⟩
      rcases List.mem_cons.1 ((insI_perm l x).subset hy) with rfl | hy
      · omega
      · exact h1 y hy
    · rw [List.takeWhile_cons_of_neg (by simpa using hlt), List.dropWhile_cons_of_neg (by simpa using hlt)]
      refine List.pairwise_cons.2 ⟨fun y hy => ?_, h⟩
      rcases List.mem_cons.1 hy with rfl | hy
      · omega
      · have := h1 y hy
        omega
def insAll (l : List Int) : List Int := l.foldl insI []
theorem insFold (l : List Int) : ∀ (s : List Int), s.Pairwise (· ≤ ·) → (l.foldl insI s).Perm (s ++ l) ∧ (l.foldl insI s).Pairwise (· ≤ ·) := by
  induction l with
  | nil => intro s hs; simpa using hs
  | cons x l ih =>
    intro s hs
    obtain ⟨h1, h2⟩ := ih (insI s x) (insI_sorted s x hs)
    rw [List.foldl_cons]
    refine ⟨h1.trans (((insI_perm s x).append_right l).trans ?_), h2⟩
    exact List.perm_middle.symm
theorem insAll_sortI (l : List Int) : insAll l = sortI l :=
  perm_sorted_eq (((insFold l [] .nil).1).trans (sortI_perm l).symm) (insFold l [] .nil).2 (sortI_sorted l)
theorem insAll_succ (l : List Int) (k : Nat) (hk : k < l.length) : insAll (l.take (k + 1)) = insI (insAll (l.take k)) l[k] := by
  unfold insAll
  rw [List.take_succ_eq_append_getElem hk, List.foldl_append]
  rfl
theorem insI_at (l : List Int) (x : Int) (j : Nat) (hj : j ≤ l.length) (h1 : ∀ p (h : p < l.length), p < j → l[p] < x) (h2 : ∀ h : j < l.length, ¬ l[j] < x) : insI l x = l.take j ++ x :: l.drop j := by
  unfold insI
  have e : l.takeWhile (fun y => decide (y < x)) = l.take j := by
    induction l generalizing j with
    | nil => simp
    | cons a l ih =>
      cases j with
      | zero =>
        have := h2 (by simp)
        rw [List.takeWhile_cons_of_neg (by simpa using this)]
        rfl
      | succ j =>
        have := h1 0 (by simp) (by omega)
        rw [List.takeWhile_cons_of_pos (by simpa using this), List.take_succ_cons, ih j (by simpa using hj) (fun p h hp => by have := h1 (p + 1) (by simp; omega) (by omega); simpa using this) (fun h => by have := h2 (by simp; omega); simpa using this)]
  have e2 := List.takeWhile_append_dropWhile (p := fun y => decide (y < x)) (l := l)
  rw [e] at e2
  have e3 : l.dropWhile (fun y => decide (y < x)) = l.drop j := List.append_cancel_left (e2.trans (List.take_append_drop j l).symm)
  rw [e, e3]
theorem insAll_len (l : List Int) : (insAll l).length = l.length := by
  have := (insFold l [] .nil).1.length_eq
  simpa [insAll] using this

theorem sorti_any (ad : Option Addr) (n c B : Nat) (L : List Int) (w : World) (h : w.ownsRow B 3 1 (.slice ad n c) n (iv L)) (hn : L.length = n) (h0 : 0 < n) (hsz : n ≤ 10000000) (R : Ending → World → Prop)
    (hR : ∀ w', w'.ownsRow B 3 1 (.slice ad n c) n (iv (sortI L)) → w.grownBy w' (Value.slice ad n c).ownBlock → R (.returned (.tuple #[])) w') :
    Calls Try.prog 58 #[.slice ad n c] w R := by
  subst hn
  obtain ⟨g, rfl⟩ := owns_head h h0
  rcases h.2 with ⟨hnil, _⟩ | ⟨g', cap, cur, e, hbase, hb, h1, h2, h3, h4⟩
  · simp at hnil
  · simp only [Value.slice.injEq, Option.some.injEq, Addr.mk.injEq, and_true] at e
    obtain ⟨rfl, -, rfl⟩ := e
    have hH := holds_of_blockI (ss := L) hb (by simpa [iv] using h4)
    refine (Any.slices_Sort_int Try.lays189 g 0 c L w hH (Array.getElem?_eq_some_iff.1 hb).1 (by omega)).mono ?_
    rintro e w' ⟨rfl, m, os, rfl⟩
    exact hR _ (ownsRow_sortedI (by simp) hbase hb h1 h2 h3) (grownBy_sortedI _)

set_option maxRecDepth 100000 in
set_option maxHeartbeats 3200000 in
theorem ints_any (v u : Value) (l m : List Int) (t : Bool) (ht : (l == m) = t) (w : World) (hv : Is w v l) (hu : Is w u m) (R : Ending → World → Prop)
    (hR : ∀ w', Below w.heap.size w w' → R (.returned (.bool t)) w') :
    Calls Try.prog 24 #[v, u] w R := by
  have HR := Lib.hid hR
  have hv' := hv
  have hu' := hu
  clear hR
  by_cases hlen : l.length = m.length
  · have hst : Hid ((l.drop 0 == m.drop 0) = t) := by rw [List.drop_zero, List.drop_zero]; exact ht
    obtain ⟨n, hn⟩ : ∃ n, l.length = n := ⟨_, rfl⟩
    obtain ⟨va, vc, e1, _, v2, v3, _⟩ := hv'
    obtain ⟨ua, uc, e2, _, u2, u3, _⟩ := hu'
    rw [hn] at e1 v2
    rw [← hlen, hn] at e2 u2
    subst e1
    subst e2
    have HV := Lib.hid hv
    have HU := Lib.hid hu
    have hn1 : l.length = n := hn
    have hn2 : m.length = n := by rw [← hlen]; exact hn
    have HN1 := Lib.hid hn1
    have HN2 := Lib.hid hn2
    clear ht hlen hn hv hu hn1 hn2
    go_enter Try.func24, Try.ntmps24
    go_wp2
    go_loopg [5] n (fun gn i wr => ∃ k : Nat, k ≤ n ∧ gn = n - k ∧ i = .int .i64 k ∧ Below w.heap.size w wr ∧ Hid ((l.drop k == m.drop k) = t))
    case atStart => exact ⟨0, Nat.zero_le _, by omega, rfl, Below.refl _ _, hst⟩
    case round =>
      obtain ⟨k, hk, rfl, rfl, hb, HS⟩ := hrel
      clear hst
      by_cases hlt : k < n
      · have hkk : (k : Int) < (n : Int) := by omega
        obtain ⟨b1, o1, rfl, c1⟩ := (HV.out.below hb).at k (by rw [HN1.out]; exact hlt)
        obtain ⟨b2, o2, rfl, c2⟩ := (HU.out.below hb).at k (by rw [HN2.out]; exact hlt)
        have hss := HS.out
        rw [List.drop_eq_getElem_cons (by rw [HN1.out]; exact hlt), List.drop_eq_getElem_cons (l := m) (by rw [HN2.out]; exact hlt), List.cons_beq_cons] at hss
        obtain ⟨x, hx⟩ : ∃ x, l[k]'(by rw [HN1.out]; exact hlt) = x := ⟨_, rfl⟩
        obtain ⟨y, hy⟩ : ∃ y, m[k]'(by rw [HN2.out]; exact hlt) = y := ⟨_, rfl⟩
        rw [hx] at c1 hss
        rw [hy] at c2 hss
        have HSS := Lib.hid hss
        clear hx hy hss HS
        by_cases hxy : x = y
        · have hd : (x == y) = true := by simpa using hxy
          have hd2 : (x != y) = false := by simpa using hxy
          have hnx : Hid ((l.drop (k + 1) == m.drop (k + 1)) = t) := by
            have := HSS.out
            rw [hd, Bool.true_and] at this
            exact this
          clear HSS hxy
          go_wp2_with fail
          go_quiet (fail)
          go_wp2
          go_roundg (n - (k + 1))
          case measure => omega
          case rel => exact ⟨k + 1, by omega, rfl, by go_num, below_drewN hb, hnx⟩
        · have hd : (x == y) = false := by simpa using hxy
          have hd2 : (x != y) = true := by simpa using hxy
          obtain rfl : t = false := by
            have := HSS.out
            rw [hd, Bool.false_and] at this
            exact this.symm
          clear HSS hxy
          go_wp2_with fail
          go_quiet (fail)
          go_wp2
          all_goals exact HR.out _ (below_drewN hb)
      · have hkk : ¬ (k : Int) < (n : Int) := by omega
        obtain rfl : t = true := by
          rw [← HS.out, List.drop_of_length_le (by rw [HN1.out]; omega), List.drop_of_length_le (by rw [HN2.out]; omega)]
          rfl
        clear HS
        go_wp2
        exact HR.out _ hb
  · obtain ⟨va, vc, rfl, _, v2, v3, _⟩ := hv'
    obtain ⟨ua, uc, rfl, _, u2, u3, _⟩ := hu'
    have hne : ¬ (l.length : Int) = (m.length : Int) := by omega
    have hd : ((l.length : Int) == (m.length : Int)) = false := by simp; omega
    obtain rfl : t = false := by
      rw [← ht]
      simp
      intro h
      exact hlen (by rw [h])
    clear ht hlen hv hu
    go_enter Try.func24, Try.ntmps24
    go_wp2
    all_goals exact HR.out _ (Below.refl _ _)

set_option maxRecDepth 100000 in
set_option maxHeartbeats 6400000 in
theorem rsints_any (v : Value) (l L : List Int) (hL : insAll l = L) (hl : l.length ≤ 10000000) (w : World) (hv : Is w v l) (R : Ending → World → Prop)
    (hR : ∀ ad c w', w'.ownsRow w.heap.size 3 1 (.slice ad L.length c) L.length (iv L) → Below w.heap.size w w' → R (.returned (.slice ad L.length c)) w') :
    Calls Try.prog 44 #[v] w R := by
  have HR := Lib.hid hR
  have HL := Lib.hid hL
  have HV := Lib.hid hv
  obtain ⟨va, vc, rfl, _, v2, v3, _⟩ := hv
  clear hR hL
  go_enter Try.func44, Try.ntmps44
  go_wp2
  go_loopg [3, 4] l.length (fun gn s3 i wr => ∃ (k : Nat) (ad : Option Addr) (c : Nat) (O : List Int), k ≤ l.length ∧ gn = l.length - k ∧ i = .int .i64 k ∧ s3 = .slice ad k c ∧ Hid (insAll (l.take k) = O) ∧ Hid (O.length = k) ∧ Hid (wr.ownsRow w.heap.size 3 1 (.slice ad k c) k (iv O)) ∧ Below w.heap.size w wr)
  case atStart => exact ⟨0, none, 0, [], Nat.zero_le _, by omega, rfl, rfl, rfl, rfl, World.ownsRow_nil _ _ _ _, Below.refl _ _⟩
  case round =>
    obtain ⟨k, ad, c, O, hk, rfl, rfl, rfl, HO, HOL, HOW, hb⟩ := hrel
    obtain ⟨wo, rfl⟩ : ∃ x, x = wr := ⟨_, rfl⟩
    by_cases hlt : k < l.length
    · have hkk : (k : Int) < (l.length : Int) := by omega
      obtain ⟨b1, o1, rfl, c1⟩ := (HV.out.below hb).at k hlt
      have hsu := insAll_succ l k hlt
      rw [HO.out] at hsu
      obtain ⟨x, hx⟩ : ∃ x, l[k] = x := ⟨_, rfl⟩
      rw [hx] at c1 hsu
      have HSU := Lib.hid hsu
      clear hsu hx HO
      go_wp2
      go_loopg [5] k (fun gn s5 wr => ∃ j : Nat, j ≤ k ∧ gn = k - j ∧ s5 = .int .i64 j ∧ Below wo.heap.size wo wr ∧ Hid (∀ p (h : p < O.length), p < j → O[p] < x))
      case atStart => exact ⟨0, Nat.zero_le _, by omega, rfl, Below.refl _ _, fun p h h2 => by omega⟩
      case round =>
        obtain ⟨j, hj, rfl, rfl, hbj, HJ⟩ := hrel
        have c1r := cell_later hbj c1
        by_cases hjk : j < k
        · have hjz : (j : Int) < (k : Int) := by omega
          have hdj : decide ((j : Int) < (k : Int)) = true := decide_eq_true hjz
          have hown := owns_below HOW.out hbj
          obtain ⟨g, rfl⟩ := owns_head hown (by omega)
          have c2 := hown.cellAt j (by omega)
          obtain ⟨y, hy⟩ : ∃ y, O[j]'(by rw [HOL.out]; exact hjk) = y := ⟨_, rfl⟩
          have c2' : wr.cell? ⟨g, 0 + j, none⟩ = some (.int .i64 y) := by
            rw [Nat.zero_add, c2, ← hy]
            unfold iv
            rw [List.getElem?_map, List.getElem?_eq_getElem (by rw [HOL.out]; exact hjk)]
            rfl
          rw [Nat.zero_add] at c2'
          have HYO := Lib.hid hy
          clear c2 hown hy
          by_cases hyx : y < x
          · have hd : decide (y < x) = true := decide_eq_true hyx
            have HJ2 : Hid (∀ p (h : p < O.length), p < j + 1 → O[p] < x) := by
              intro p h hp
              by_cases hpj : p < j
              · exact HJ.out p h hpj
              · obtain rfl : p = j := by omega
                rw [HYO.out]
                exact hyx
            clear HJ
            go_wp2_with fail
            go_quiet (fail)
            go_wp2
            go_roundg (k - (j + 1))
            case measure => omega
            case rel => exact ⟨j + 1, by omega, rfl, by go_num, below_drewN hbj, HJ2⟩
          · have hd : decide (y < x) = false := decide_eq_false hyx
            have HIN : Hid (insI O x = O.take j ++ x :: O.drop j) := insI_at O x j (by rw [HOL.out]; omega) HJ.out (fun h => by rw [HYO.out]; exact hyx)
            clear HJ
            go_wp2_with fail
            go_quiet (fail)
            go_wp2_with fail
            have hbd : Below wo.heap.size wo (wr.drewN nq) := below_drewN hbj
            have hO8 : (wr.drewN nq).ownsRow w.heap.size 3 1 (.slice (some ⟨g, 0, none⟩) k c) k (iv O) := owns_below HOW.out hbd
            have cx : (wr.drewN nq).cell? ⟨b1, o1 + k, none⟩ = some (Value.int .i64 x) := c1r
            generalize wr.drewN nq = w8 at hbd hO8 cx ⊢
            have cx' : w8.drew.cell? ⟨b1, o1 + k, none⟩ = some (Value.int .i64 x) := cx
            have hHn := owns_nil hO8
            have hHc := (owns_cap hO8).1
            have hHm := (owns_cap hO8).2
            unfold maxLen at hHm
            obtain ⟨Hx, hsl2, hnx2, hHx⟩ := slice_from (P := Try.prog) (j := j) Try.underlying38 infoInt hj (owns_cap hO8).1 (owns_nil hO8)
            have hHrd : Rd w8 1 (some ⟨g, 0, none⟩) k (iv O) := rd_of_owns hO8
            have hrC : Rd w8 1 (some ⟨g, 0, none⟩) j ((iv O).take j) := rd_take hHrd hj
            have hrD : Rd w8 1 Hx (k - j) ((iv O).drop j) := by have := hHx _ _ hHrd; rw [Nat.mul_one] at this; first | exact this | (rw [Nat.sub_self] at this; exact this)
            have hoC : ∀ u ∈ (iv O).take j, u.oneCell' = true := fun u hu => iv_oneCell O u (List.mem_of_mem_take hu)
            have hoD : ∀ u ∈ (iv O).drop j, u.oneCell' = true := fun u hu => iv_oneCell O u (List.mem_of_mem_drop hu)
            have hjc2 : j ≤ c := by omega
            clear hHrd hHx hO8 c1r c1 hbj
            go_region_held3 (fun w' => w'.cell? ⟨b1, o1 + k, none⟩ = some (Value.int .i64 x))
              (first | exact cx' | exact cell_later (by first | exact (Below.refl _ _).drew | exact ((Below.refl _ _).alloc (Nat.le_refl _) _).drew | exact hC | exact hB2 | exact hA | exact hA.alloc hA.size _) cx | go_keep)
              (first
                | ((refine step_app0 (by rfl) (.tmp 30) (.tmp 33) 38 (by rfl) w8.heap.size 3 (.int .i64 0) 1 8 Try.underlying38 infoInt rfl (by decide) none (by rfl) (World.ownsRow_nil _ _ _ _) (some ⟨g, 0, none⟩) j c ((iv O).take j) (by rfl) ?_ hoC hHn (by unfold maxLen; omega) (by omega) ?_ ?_; exact hrC.below (by first | exact (Below.refl _ _).drew | exact ((Below.refl _ _).alloc (Nat.le_refl _) _).drew | exact hC | exact hB2 | exact hA | exact hA.alloc hA.size _); exact le_of_below (by first | exact (Below.refl _ _).drew | exact ((Below.refl _ _).alloc (Nat.le_refl _) _).drew | exact hC | exact hB2 | exact hA | exact hA.alloc hA.size _); intro ad4 c4 w9 hown9 hb9; have hA := below_tr (a := w8) (by first | exact (Below.refl _ _).drew | exact ((Below.refl _ _).alloc (Nat.le_refl _) _).drew | exact hC | exact hB2 | exact hA | exact hA.alloc hA.size _) hb9))
                | ((refine step_appAt (by rfl) (.tmp 34) (.tmp 39) 38 (by rfl) w8.heap.size 3 (.int .i64 0) 1 8 Try.underlying38 infoInt rfl (by decide) ad4 j c4 _ (by rfl) (hown9.alloc (Obj.cells #[Value.int .i64 x] 3)) _ 1 1 [Value.int .i64 x] (by rfl) (rd_lit _ _ _ 1 1 rfl) (one_oneCell _ _) (fun h => by cases h) (by unfold maxLen; omega) (by omega) ?_ ?_; (have := hA.size; simp at *; omega); intro ad5 c5 w10 hown10 hg10 hat10; have hB2 : Below w8.heap.size w8 w10 := below_app (hA.alloc hA.size _) hg10 (by have := hA.size; simp at *; omega) (hown9.alloc (Obj.cells #[Value.int .i64 x] 3))))
                | ((refine step_appAt (by rfl) (.tmp 34) (.tmp 39) 38 (by rfl) w8.heap.size 3 (.int .i64 0) 1 8 Try.underlying38 infoInt rfl (by decide) ad4 j c4 _ (by rfl) hown9 _ 1 1 [Value.int .i64 x] (by rfl) (((rd_lit w8 #[Value.int .i64 x] 3 1 1 rfl).below (Below.refl _ _).drew).below hb9) (one_oneCell _ _) (fun h => by cases h) (by unfold maxLen; omega) (by omega) hA.size ?_; intro ad5 c5 w10 hown10 hg10 hat10; have hB2 : Below w8.heap.size w8 w10 := below_app hA hg10 hA.size hown9))
                | ((refine step_appAt (by rfl) (.tmp 40) (.tmp 43) 38 (by rfl) w8.heap.size 3 (.int .i64 0) 1 8 Try.underlying38 infoInt rfl (by decide) ad5 (j + 1) c5 _ (by rfl) hown10 Hx (k - j) (c - j) ((iv O).drop j) (by rfl) (hrD.below hB2) hoD hnx2 (by unfold maxLen; omega) (by omega) hB2.size ?_; intro ad6 c6 w11 hown11 hg11 hat11; have hC : Below w8.heap.size w8 w11 := below_app hB2 hg11 hB2.size hown10)))
            all_goals
              have hke : j + 1 + (k - j) = k + 1 := by omega
              have HOS : Hid (w11.ownsRow w.heap.size 3 1 (.slice ad6 (k + 1) c6) (k + 1) (iv (insI O x))) := by
                show World.ownsRow _ _ _ _ _ _ _
                rw [hke] at hown11
                rw [HIN.out, show iv (O.take j ++ x :: O.drop j) = (iv O).take j ++ [Value.int .i64 x] ++ (iv O).drop j by unfold iv; rw [List.map_append, List.map_cons, List.map_take, List.map_drop]; simp]
                exact owns_mono hown11 (by have := hbd.size; have := hb.size; omega)
              have hbn : Below w.heap.size w w11 := below_then (below_then hb hbd hb.size) hC (by have := hbd.size; have := hb.size; omega)
              have hsn : Hid (insAll (l.take (k + 1)) = insI O x) := HSU
              have hln : Hid ((insI O x).length = k + 1) := by
                show _ = _
                rw [(insI_perm O x).length_eq, List.length_cons, HOL.out]
              try rw [hke]
              clear hown11 hown10 hown9 hC hB2 hA hg11 hg10 hrC hrD hoC hoD
              go_wp2
              go_roundg (l.length - (k + 1))
              case measure => omega
              case rel => exact ⟨k + 1, ad6, c6, insI O x, by omega, rfl, by go_num, rfl, hsn, hln, HOS, hbn⟩
        · have hjz : ¬ (j : Int) < (k : Int) := by omega
          have hdj : decide ((j : Int) < (k : Int)) = false := decide_eq_false hjz
          obtain rfl : j = k := by omega
          have HIN : Hid (insI O x = O.take j ++ x :: O.drop j) := insI_at O x j (by rw [HOL.out]; omega) HJ.out (fun h => by rw [HOL.out] at h; omega)
          clear HJ
          go_wp2_with fail
          go_quiet (fail)
          go_wp2_with fail
          have hbd : Below wo.heap.size wo (wr.drewN nq) := below_drewN hbj
          have hO8 : (wr.drewN nq).ownsRow w.heap.size 3 1 (.slice ad j c) j (iv O) := owns_below HOW.out hbd
          have cx : (wr.drewN nq).cell? ⟨b1, o1 + j, none⟩ = some (Value.int .i64 x) := c1r
          generalize wr.drewN nq = w8 at hbd hO8 cx ⊢
          have cx' : w8.drew.cell? ⟨b1, o1 + j, none⟩ = some (Value.int .i64 x) := cx
          have hHn := owns_nil hO8
          have hHc := (owns_cap hO8).1
          have hHm := (owns_cap hO8).2
          unfold maxLen at hHm
          obtain ⟨Hx, hsl2, hnx2, hHx⟩ := slice_from (P := Try.prog) (j := j) Try.underlying38 infoInt hj (owns_cap hO8).1 (owns_nil hO8)
          have hHrd : Rd w8 1 ad j (iv O) := rd_of_owns hO8
          have hrC : Rd w8 1 ad j ((iv O).take j) := rd_take hHrd hj
          have hrD : Rd w8 1 Hx 0 ((iv O).drop j) := by have := hHx _ _ hHrd; rw [Nat.mul_one] at this; first | exact this | (rw [Nat.sub_self] at this; exact this)
          have hoC : ∀ u ∈ (iv O).take j, u.oneCell' = true := fun u hu => iv_oneCell O u (List.mem_of_mem_take hu)
          have hoD : ∀ u ∈ (iv O).drop j, u.oneCell' = true := fun u hu => iv_oneCell O u (List.mem_of_mem_drop hu)
          have hjc2 : j ≤ c := by omega
          clear hHrd hHx hO8 c1r c1 hbj
          go_region_held3 (fun w' => w'.cell? ⟨b1, o1 + j, none⟩ = some (Value.int .i64 x))
            (first | exact cx' | exact cell_later (by first | exact (Below.refl _ _).drew | exact ((Below.refl _ _).alloc (Nat.le_refl _) _).drew | exact hC | exact hB2 | exact hA | exact hA.alloc hA.size _) cx | go_keep)
            (first
              | ((refine step_app0 (by rfl) (.tmp 30) (.tmp 33) 38 (by rfl) w8.heap.size 3 (.int .i64 0) 1 8 Try.underlying38 infoInt rfl (by decide) none (by rfl) (World.ownsRow_nil _ _ _ _) ad j c ((iv O).take j) (by rfl) ?_ hoC hHn (by unfold maxLen; omega) (by omega) ?_ ?_; exact hrC.below (by first | exact (Below.refl _ _).drew | exact ((Below.refl _ _).alloc (Nat.le_refl _) _).drew | exact hC | exact hB2 | exact hA | exact hA.alloc hA.size _); exact le_of_below (by first | exact (Below.refl _ _).drew | exact ((Below.refl _ _).alloc (Nat.le_refl _) _).drew | exact hC | exact hB2 | exact hA | exact hA.alloc hA.size _); intro ad4 c4 w9 hown9 hb9; have hA := below_tr (a := w8) (by first | exact (Below.refl _ _).drew | exact ((Below.refl _ _).alloc (Nat.le_refl _) _).drew | exact hC | exact hB2 | exact hA | exact hA.alloc hA.size _) hb9))
              | ((refine step_appAt (by rfl) (.tmp 34) (.tmp 39) 38 (by rfl) w8.heap.size 3 (.int .i64 0) 1 8 Try.underlying38 infoInt rfl (by decide) ad4 j c4 _ (by rfl) (hown9.alloc (Obj.cells #[Value.int .i64 x] 3)) _ 1 1 [Value.int .i64 x] (by rfl) (rd_lit _ _ _ 1 1 rfl) (one_oneCell _ _) (fun h => by cases h) (by unfold maxLen; omega) (by omega) ?_ ?_; (have := hA.size; simp at *; omega); intro ad5 c5 w10 hown10 hg10 hat10; have hB2 : Below w8.heap.size w8 w10 := below_app (hA.alloc hA.size _) hg10 (by have := hA.size; simp at *; omega) (hown9.alloc (Obj.cells #[Value.int .i64 x] 3))))
              | ((refine step_appAt (by rfl) (.tmp 34) (.tmp 39) 38 (by rfl) w8.heap.size 3 (.int .i64 0) 1 8 Try.underlying38 infoInt rfl (by decide) ad4 j c4 _ (by rfl) hown9 _ 1 1 [Value.int .i64 x] (by rfl) (((rd_lit w8 #[Value.int .i64 x] 3 1 1 rfl).below (Below.refl _ _).drew).below hb9) (one_oneCell _ _) (fun h => by cases h) (by unfold maxLen; omega) (by omega) hA.size ?_; intro ad5 c5 w10 hown10 hg10 hat10; have hB2 : Below w8.heap.size w8 w10 := below_app hA hg10 hA.size hown9))
              | ((refine step_appAt (by rfl) (.tmp 40) (.tmp 43) 38 (by rfl) w8.heap.size 3 (.int .i64 0) 1 8 Try.underlying38 infoInt rfl (by decide) ad5 (j + 1) c5 _ (by rfl) hown10 Hx 0 (c - j) ((iv O).drop j) (by rfl) (hrD.below hB2) hoD hnx2 (by unfold maxLen; omega) (by omega) hB2.size ?_; intro ad6 c6 w11 hown11 hg11 hat11; have hC : Below w8.heap.size w8 w11 := below_app hB2 hg11 hB2.size hown10)))
          all_goals
            have hke : j + 1 + 0 = j + 1 := by omega
            have HOS : Hid (w11.ownsRow w.heap.size 3 1 (.slice ad6 (j + 1) c6) (j + 1) (iv (insI O x))) := by
              show World.ownsRow _ _ _ _ _ _ _
              rw [hke] at hown11
              rw [HIN.out, show iv (O.take j ++ x :: O.drop j) = (iv O).take j ++ [Value.int .i64 x] ++ (iv O).drop j by unfold iv; rw [List.map_append, List.map_cons, List.map_take, List.map_drop]; simp]
              exact owns_mono hown11 (by have := hbd.size; have := hb.size; omega)
            have hbn : Below w.heap.size w w11 := below_then (below_then hb hbd hb.size) hC (by have := hbd.size; have := hb.size; omega)
            have hsn : Hid (insAll (l.take (j + 1)) = insI O x) := HSU
            have hln : Hid ((insI O x).length = j + 1) := by
              show _ = _
              rw [(insI_perm O x).length_eq, List.length_cons, HOL.out]
            try rw [hke]
            clear hown11 hown10 hown9 hC hB2 hA hg11 hg10 hrC hrD hoC hoD
            go_wp2
            go_roundg (l.length - (j + 1))
            case measure => omega
            case rel => exact ⟨j + 1, ad6, c6, insI O x, by omega, rfl, by go_num, rfl, hsn, hln, HOS, hbn⟩
    · have hkk : ¬ (k : Int) < (l.length : Int) := by omega
      obtain rfl : O = L := by rw [← HO.out, ← HL.out, List.take_of_length_le (by omega)]
      have hOL := HOL.out
      obtain ⟨n0, hn0⟩ : ∃ n0, O.length = n0 := ⟨_, rfl⟩
      obtain rfl : n0 = k := by omega
      have hfin := HR.out ad c wo
      rw [hn0] at hfin
      have HFIN := Lib.hid hfin
      clear HO HL HR hfin hOL hn0
      go_wp2
      exact HFIN.out HOW.out hb
end Go.Proofs.Ytgkgahjdjkmmnaa
