/- The library's stable sort at tables: blocks sorted, blocks merged: a permutation, sorted. -/
import Derived.Test.YtpodgocmcnkfdaaSymM
import Derived.Test.YtpodgocmcnkfdaaSymL
namespace Go.Proofs.Ytpodgocmcnkfdaa
open Go.RowKit Go.Sort Go.Shelf

/-- Which number each function and type of the library's insertion sort has here. -/
def Try.insRen : Go.Shelf.Ren := ⟨fun | 20 => 72 | n => n, fun | 24 => 41 | 22 => 22 | 3 => 3 | 25 => 75 | 4 => 4 | 0 => 0 | n => n, fun | n => n⟩
theorem Try.insLays : Go.Proofs.SlLaysF0.n20 Try.prog Try.insRen :=
  { mixed := by kernel_rfl
    f20 := ⟨"slices.insertionSortCmpFunc[tidings/api.Place]", by decide, Try.func72.trans (congrArg some (by kernel_rfl))⟩
    t0 := Try.underlying0
    a0 := Try.isAgg0
    z0 := Try.sizeOf0
    v0 := Try.zeroValue0
    t3 := Try.underlying3
    a3 := Try.isAgg3
    z3 := Try.sizeOf3
    v3 := Try.zeroValue3
    t4 := Try.underlying4
    a4 := Try.isAgg4
    z4 := Try.sizeOf4
    v4 := Try.zeroValue4
    t22 := Try.underlying22
    a22 := Try.isAgg22
    z22 := Try.sizeOf22
    v22 := Try.zeroValue22
    t25 := Try.underlying75
    a25 := Try.isAgg75
    z25 := Try.sizeOf75
    v25 := Try.zeroValue75 }

section
variable {α : Type} [Inhabited α]

theorem symm_all (enc : α → List Value) (k : Nat) (hk5 : k = 5) (cf : α → α → Int) (hO : SWO (ltOf cf)) (blk off len cap : Nat) (d0 : Array α) (w0 : World) (R0 : RowK enc k w0 blk off d0) (hs0 : d0.size = len) (hsz : len ≤ 1000000)
    (hC : CmpLays Try.prog 36 #[] enc k cf blk off len w0) : ∀ N, MergesTo enc k cf blk off len cap w0 N := by
  intro N
  induction N with
  | zero => intro a m b d w hN hs S ham hmb; omega
  | succ N ih =>
    intro a m b d w hN hs S ham hmb hb hA hB R hR
    by_cases h1 : m = a + 1
    · exact symm_left enc k hk5 cf hO blk off len cap d0 w0 R0 hs0 hsz hC a m b d w hs S h1 hmb hb hA hB R hR
    · by_cases h2 : b = m + 1
      · exact symm_right enc k hk5 cf hO blk off len cap d0 w0 R0 hs0 hsz hC a m b d w hs S (by omega) h2 hb hA hB R hR
      · exact symm_gen enc k hk5 cf hO blk off len cap d0 w0 R0 hs0 hsz hC N ih a m b d w hN hs S (by omega) (by omega) hb hA hB R hR

theorem insertion_any (enc : α → List Value) (k : Nat) (hk5 : k = 5) (cf : α → α → Int) (hO : SWO (ltOf cf)) (blk off len cap a b : Nat) (d0 d : Array α) (w0 w : World) (R0 : RowK enc k w0 blk off d0) (hs0 : d0.size = len) (hs : d.size = len) (hsz : len ≤ 1000000)
    (hC : CmpLays Try.prog 36 #[] enc k cf blk off len w0) (S : SWK enc k w0 blk off d w) (hab : a ≤ b) (hb : b ≤ len) (R : Ending → World → Prop)
    (hR : ∀ d' w', SMof (ltOf cf) a b d d' → SWK enc k w0 blk off d' w' → R (.returned (.tuple #[])) w') :
    Calls Try.prog 72 #[.slice (some ⟨blk, off, none⟩) len cap, .int .i64 a, .int .i64 b, .func (.func 36) #[] #[]] w R := by
  have eg : ∀ args w, (callFunc 36 args).run Try.prog w = .ok (.enter 36 args) w := enters_of Try.func36 (by kernel_rfl) rfl
  subst hk5
  have hcon := AnyQ.insertionSortCmpFunc_w Try.insLays 5 Try.isAgg41 Try.sizeOf41 enc cf 36 #[] blk off cap a b d0 d w0 w eg (by rw [hs0]; exact hC) R0 (by omega) S hO hab (by omega) (by omega)
  rw [hs] at hcon
  refine Calls.mono hcon ?_
  rintro e w' ⟨rfl, S'⟩
  exact hR _ _ (insertionSort_holds hO d a b hab (by omega)) S'

theorem perm_on {a b len : Nat} {d0 d d' : Array α} (h : PermIn 0 len d0 d) (hs : d.size = len) (hb : b ≤ len) (hp : PermIn a b d d') : PermIn 0 len d0 d' :=
  permIn_trans _ _ _ _ _ h (permIn_mono' (Nat.zero_le _) hb (by omega) hp)
theorem mult_eq {s t B x y : Nat} (_hB : 0 < B) (hx : x = s * B) (hy : y = t * B) (h1 : y ≤ x) (h2 : x < y + B) : y = x := by
  rcases Nat.lt_or_ge t s with h | h
  · have := Nat.mul_le_mul_right B (show t + 1 ≤ s from h)
    rw [Nat.add_mul, Nat.one_mul] at this
    omega
  · have := Nat.mul_le_mul_right B h
    omega
theorem mult_le {s t B x y : Nat} (hx : x = s * B) (hy : y = t * B) (h : y < x + B) : y ≤ x := by
  rcases Nat.lt_or_ge s t with h' | h'
  · have := Nat.mul_le_mul_right B (show s + 1 ≤ t from h')
    rw [Nat.add_mul, Nat.one_mul] at this
    omega
  · have := Nat.mul_le_mul_right B h'
    omega
theorem smof_far {lt : α → α → Bool} {a b x y : Nat} {d d' : Array α} (h : SMof lt a b d d') (hx : y ≤ a ∨ b ≤ x) (hs : SortedIn lt x y d) : SortedIn lt x y d' :=
  hs.congr fun p hp hq => h.1.2.1 p (by omega)

set_option maxRecDepth 1000000 in
set_option maxHeartbeats 8000000 in
theorem stable_any (enc : α → List Value) (k : Nat) (hk5 : k = 5) (cf : α → α → Int) (hO : SWO (ltOf cf)) (blk off len cap : Nat) (d0 : Array α) (w0 : World) (R0 : RowK enc k w0 blk off d0) (hs0 : d0.size = len) (hsz : len ≤ 1000000)
    (hC : CmpLays Try.prog 36 #[] enc k cf blk off len w0) (R : Ending → World → Prop)
    (hR : ∀ d' w', SMof (ltOf cf) 0 len d0 d' → SWK enc k w0 blk off d' w' → R (.returned (.tuple #[])) w') :
    Calls Try.prog 63 #[.slice (some ⟨blk, off, none⟩) len cap, .int .i64 len, .func (.func 36) #[] #[]] w0 R := by
  have HR := Lib.hid hR
  have S0 := Lib.hid (SWK.start R0.hH)
  have MG := Lib.hid (symm_all (cap := cap) enc k hk5 cf hO blk off len d0 w0 R0 hs0 hsz hC len)
  have INS := Lib.hid (fun (a b : Nat) (d : Array α) (w : World) (hs : d.size = len) (S : SWK enc k w0 blk off d w) (hab : a ≤ b) (hb : b ≤ len) (R : Ending → World → Prop) hR => insertion_any (cap := cap) enc k hk5 cf hO blk off len a b d0 d w0 w R0 hs0 hs hsz hC S hab hb R hR)
  clear hR hC hk5
  go_enter Try.func63, Try.ntmps63
  go_wp2
  go_loopg [7, 8] len (fun gn s7 s8 wr => ∃ (a : Nat) (d : Array α), s7 = .int .i64 a ∧ s8 = .int .i64 ((a : Int) + 20) ∧ a ≤ len ∧ len - a ≤ gn ∧ d.size = len ∧ Hid (∃ s, a = s * 20) ∧ Hid (PermIn 0 len d0 d) ∧ Hid (∀ y, (∃ s, y = s * 20) → y + 20 ≤ a → SortedIn (ltOf cf) y (y + 20) d) ∧ Hid (SWK enc k w0 blk off d wr))
  case atStart => exact ⟨0, d0, rfl, rfl, Nat.zero_le _, by omega, hs0, ⟨0, rfl⟩, permIn_refl _ _ _, fun y _ h => by omega, S0⟩
  case round =>
    obtain ⟨a, d, rfl, rfl, hal, hgn, hds, HM, HP, HD, S1⟩ := hrel
    clear S0
    by_cases hlt : a + 20 ≤ len
    · have hltz : (a : Int) + 20 ≤ (len : Int) := by omega
      have e1 : (a : Int) + 20 = ((a + 20 : Nat) : Int) := by omega
      have hc := fun R hR => INS.out a (a + 20) d wr hds S1.out (by omega) hlt R hR
      rw [← e1] at hc
      have HCC := Lib.hid hc
      clear hc e1
      go_wp2_with (go_at_call 72; go_must (refine HCC.out _ ?_); intro d1 w5 SM S5)
      go_roundg (len - (a + 20))
      case measure => omega
      case rel =>
        refine ⟨a + 20, d1, by go_num, by go_num, hlt, Nat.le_refl _, SM.1.1.trans hds, ?_, perm_on HP.out hds hlt SM.1, fun y hy h => ?_, S5⟩
        · obtain ⟨s, hs⟩ := HM.out
          exact ⟨s + 1, by omega⟩
        · by_cases hya : y + 20 ≤ a
          · exact smof_far SM (.inl hya) (HD.out y hy hya)
          · obtain ⟨s, hs⟩ := HM.out
            obtain ⟨t, ht⟩ := hy
            obtain rfl : y = a := by omega
            exact SM.2
    · have hltz : ¬ (a : Int) + 20 ≤ (len : Int) := by omega
      have hc := fun R hR => INS.out a len d wr hds S1.out hal (Nat.le_refl _) R hR
      have HCC := Lib.hid hc
      clear hc
      go_wp2_with (go_at_call 72; go_must (refine HCC.out _ ?_); intro d1 w5 SM S5)
      have hd1 : d1.size = len := SM.1.1.trans hds
      have P1 := Lib.hid (perm_on HP.out hds (Nat.le_refl _) SM.1)
      have B1 : Hid (∀ y, (∃ s, y = s * 20) → y < len → SortedIn (ltOf cf) y (min (y + 20) len) d1) := by
        intro y hy hyl
        obtain ⟨s, hs⟩ := HM.out
        obtain ⟨t, ht⟩ := hy
        by_cases hya : y + 20 ≤ a
        · rw [Nat.min_eq_left (by omega)]
          exact smof_far SM (.inl hya) (HD.out y ⟨t, ht⟩ hya)
        · obtain rfl : y = a := by omega
          rw [Nat.min_eq_right (by omega)]
          exact SM.2
      have S6 := Lib.hid S5
      clear HP HD HM SM S5 S1 HCC INS
      obtain ⟨wo, rfl⟩ : ∃ x, x = w5 := ⟨_, rfl⟩
      go_loopg [6] len (fun gn s6 wr => ∃ (bs : Nat) (d : Array α), s6 = .int .i64 bs ∧ 20 ≤ bs ∧ bs ≤ 2000000 ∧ len - bs ≤ gn ∧ d.size = len ∧ Hid (PermIn 0 len d0 d) ∧ Hid (∀ y, (∃ s, y = s * bs) → y < len → SortedIn (ltOf cf) y (min (y + bs) len) d) ∧ Hid (SWK enc k w0 blk off d wr))
      case atStart => exact ⟨20, d1, rfl, by omega, by omega, by omega, hd1, P1, B1, S6⟩
      case round =>
        obtain ⟨bs, d2, rfl, hb1, hb2, hg2, hd2, P2, B2, S2⟩ := hrel
        clear P1 B1 S6 hd1
        by_cases hbl : bs < len
        · have hblz : (bs : Int) < (len : Int) := by omega
          obtain ⟨wo2, rfl⟩ : ∃ x, x = wr := ⟨_, rfl⟩
          go_wp2
          go_loopg [7, 8] len (fun gn s7 s8 wr => ∃ (x : Nat) (d : Array α), s7 = .int .i64 x ∧ s8 = .int .i64 ((x : Int) + 2 * (bs : Int)) ∧ x ≤ len ∧ len - x ≤ gn ∧ d.size = len ∧ Hid (∃ s, x = s * (2 * bs)) ∧ Hid (PermIn 0 len d0 d) ∧ Hid (∀ y, (∃ s, y = s * (2 * bs)) → y + 2 * bs ≤ x → SortedIn (ltOf cf) y (y + 2 * bs) d) ∧ Hid (∀ y, (∃ s, y = s * bs) → x ≤ y → y < len → SortedIn (ltOf cf) y (min (y + bs) len) d) ∧ Hid (SWK enc k w0 blk off d wr))
          case atStart => exact ⟨0, d2, rfl, by first | rfl | go_num, Nat.zero_le _, by omega, hd2, ⟨0, by omega⟩, P2, fun y _ h => by omega, fun y hy _ h => B2.out y hy h, S2⟩
          case round =>
            obtain ⟨x, d3, rfl, rfl, hxl, hg3, hd3, M3, P3, D3, B3, S3⟩ := hrel
            clear P2 B2 S2 hd2
            have hxm : ∃ s, x = s * bs := by
              obtain ⟨s, hs⟩ := M3.out
              exact ⟨s * 2, by rw [Nat.mul_assoc]; exact hs⟩
            have hxm2 : ∃ s, x + bs = s * bs := by
              obtain ⟨s, hs⟩ := hxm
              exact ⟨s + 1, by rw [Nat.add_mul, Nat.one_mul, hs]⟩
            by_cases hx2 : x + 2 * bs ≤ len
            · have hx2z : (x : Int) + 2 * (bs : Int) ≤ (len : Int) := by omega
              have hA : SortedIn (ltOf cf) x (x + bs) d3 := by
                have := B3.out x hxm (Nat.le_refl _) (by omega)
                rw [Nat.min_eq_left (by omega)] at this
                exact this
              have hB : SortedIn (ltOf cf) (x + bs) (x + 2 * bs) d3 := by
                have := B3.out (x + bs) hxm2 (by omega) (by omega)
                rw [Nat.min_eq_left (by omega), show x + bs + bs = x + 2 * bs by omega] at this
                exact this
              have e1 : ((x + bs : Nat) : Int) = (x : Int) + (bs : Int) := by omega
              have e2 : ((x + 2 * bs : Nat) : Int) = (x : Int) + 2 * (bs : Int) := by omega
              have hc := fun R hR => MG.out x (x + bs) (x + 2 * bs) d3 wr (by omega) hd3 S3.out (by omega) (by omega) hx2 hA hB R hR
              rw [e1, e2] at hc
              have HCC := Lib.hid hc
              clear hc e1 e2 hA hB hxm hxm2
              go_wp2_with (go_at_call 73; go_must (refine HCC.out _ ?_); intro d4 w7 SM S7)
              go_roundg (len - (x + 2 * bs))
              case measure => omega
              case rel =>
                refine ⟨x + 2 * bs, d4, by go_num, by go_num, hx2, Nat.le_refl _, SM.1.1.trans hd3, ?_, perm_on P3.out hd3 hx2 SM.1, fun y hy h => ?_, fun y hy h1 h2 => ?_, S7⟩
                · obtain ⟨s, hs⟩ := M3.out
                  exact ⟨s + 1, by rw [Nat.add_mul, Nat.one_mul, hs]⟩
                · by_cases hya : y + 2 * bs ≤ x
                  · exact smof_far SM (.inl hya) (D3.out y hy hya)
                  · obtain ⟨s, hs⟩ := M3.out
                    obtain ⟨t, ht⟩ := hy
                    obtain rfl : y = x := mult_eq (by omega) hs ht (by omega) (by omega)
                    exact SM.2
                · exact smof_far SM (.inr h1) (B3.out y hy (by omega) h2)
            · have hx2z : ¬ (x : Int) + 2 * (bs : Int) ≤ (len : Int) := by omega
              have e3 : (x : Int) + (bs : Int) = ((x + bs : Nat) : Int) := by omega
              by_cases hm : x + bs < len
              · have hmz : (x : Int) + (bs : Int) < (len : Int) := by omega
                have hA : SortedIn (ltOf cf) x (x + bs) d3 := by
                  have := B3.out x hxm (Nat.le_refl _) (by omega)
                  rw [Nat.min_eq_left (by omega)] at this
                  exact this
                have hB : SortedIn (ltOf cf) (x + bs) len d3 := by
                  have := B3.out (x + bs) hxm2 (by omega) hm
                  rw [Nat.min_eq_right (by omega)] at this
                  exact this
                have hc := fun R hR => MG.out x (x + bs) len d3 wr (by omega) hd3 S3.out (by omega) hm (Nat.le_refl _) hA hB R hR
                rw [← e3] at hc
                have HCC := Lib.hid hc
                clear hc e3 hA hB hxm hxm2
                go_wp2_with (go_at_call 73; go_must (refine HCC.out _ ?_); intro d4 w7 SM S7)
                go_roundg (len - bs * 2)
                case measure => omega
                case rel =>
                  refine ⟨bs * 2, d4, by go_num, by omega, by omega, Nat.le_refl _, SM.1.1.trans hd3, perm_on P3.out hd3 (Nat.le_refl _) SM.1, fun y hy h => ?_, S7⟩
                  rw [Nat.mul_comm bs 2] at hy ⊢
                  by_cases hya : y + 2 * bs ≤ x
                  · rw [Nat.min_eq_left (by omega)]
                    exact smof_far SM (.inl hya) (D3.out y hy hya)
                  · obtain ⟨s, hs⟩ := M3.out
                    obtain ⟨t, ht⟩ := hy
                    obtain rfl : y = x := mult_eq (by omega) hs ht (mult_le hs ht (by omega)) (by omega)
                    rw [Nat.min_eq_right (by omega)]
                    exact SM.2
              · have hmz : ¬ (x : Int) + (bs : Int) < (len : Int) := by omega
                clear e3 hxm2
                go_wp2
                go_roundg (len - bs * 2)
                case measure => omega
                case rel =>
                  refine ⟨bs * 2, d3, by go_num, by omega, by omega, Nat.le_refl _, hd3, P3, fun y hy h => ?_, S3⟩
                  rw [Nat.mul_comm bs 2] at hy ⊢
                  by_cases hya : y + 2 * bs ≤ x
                  · rw [Nat.min_eq_left (by omega)]
                    exact D3.out y hy hya
                  · obtain ⟨s, hs⟩ := M3.out
                    obtain ⟨t, ht⟩ := hy
                    obtain rfl : y = x := mult_eq (by omega) hs ht (mult_le hs ht (by omega)) (by omega)
                    have := B3.out y hxm (Nat.le_refl _) h
                    rw [Nat.min_eq_right (by omega)] at this ⊢
                    exact this
        · have hblz : ¬ (bs : Int) < (len : Int) := by omega
          go_wp2
          go_end0
          refine HR.out d2 _ ⟨P2.out, ?_⟩ S2.out
          by_cases h0 : 0 < len
          · have := B2.out 0 ⟨0, by omega⟩ h0
            rw [Nat.min_eq_right (by omega)] at this
            exact this
          · intro i j h1 h2 h3
            omega
end
end Go.Proofs.Ytpodgocmcnkfdaa
