
import Derived.Test.YtpodhidabhnnnaaDoorPut
import Derived.Test.YtpodhidabhnnnaaDoorText
namespace Go.Proofs.YtpodhidabhnnnaaDoor
open Go.RowKit

/-- Bytes with their length ahead; the error's number. -/
def dataL (l : List UInt8) : List UInt8 × Int := if 65535 < l.length then ([], 10) else (putL l.length 2 ++ l, 0)
/-- What is read of bytes with their length ahead: the bytes, how many are used, the error's number. -/
def getDataL (l : List UInt8) : List UInt8 × Int × Int :=
  if l.length < 2 ∨ l.length - 2 < getU (l.take 2) then ([], 0, 11) else ((l.take (2 + getU (l.take 2))).drop 2, 2 + (getU (l.take 2) : Int), 0)

set_option maxHeartbeats 800000 in
theorem data_any (v : Value) (l D : List UInt8) (er : Int) (hD : dataL l = (D, er)) (w : World) (hv : Bs w v l) (R : Ending → World → Prop)
    (hR : ∀ ad c w', w'.ownsRow w.heap.size 5 1 (.slice ad D.length c) D.length (bv D) → Below w.heap.size w w' → R (.returned (.tuple #[.slice ad D.length c, .int .i64 er])) w') :
    Calls Tryd.prog 64 #[v] w R := by
  have hv' := hv
  obtain ⟨ad, c, rfl, hr, hc, hm, hnil⟩ := hv'
  by_cases hbig : 65535 < l.length
  · have e : dataL l = ([], 10) := by unfold dataL; rw [if_pos hbig]
    rw [hD] at e
    obtain ⟨rfl, rfl⟩ := Prod.mk.inj e
    clear e hD
    go_enter Tryd.func64, Tryd.ntmps64
    go_wp2
    exact hR _ _ _ (World.ownsRow_nil _ _ _ _) (Below.refl _ _)
  · have e : dataL l = (putL l.length 2 ++ l, 0) := by unfold dataL; rw [if_neg hbig]
    rw [hD] at e
    obtain ⟨e1, rfl⟩ := Prod.mk.inj e
    clear e hD
    obtain ⟨p, hp⟩ : ∃ p, p = putL l.length 2 := ⟨_, rfl⟩
    have hlp : p.length = 2 := by rw [hp]; exact putL_length _ _
    have HP2 : Hid (putW l.length 2 = p) := by rw [hp]; exact Lib.hid rfl
    have HF : Hid ([p, l].flatten = D) := by rw [e1, hp]; simp [Hid]
    have hD2 : D.length ≤ 140737488355328 := by rw [e1, List.length_append, putL_length]; omega
    clear e1 hp hlp
    go_enter Tryd.func64, Tryd.ntmps64
    go_wp2_with (go_at_call 62; go_must (refine put_any l.length (by omega) 2 p HP2.out _ _ ?_))
    intro ad1 c1 w1 hown1 hb1
    have hbs1 := (bs_of_owns hown1).2
    have hbs2 := hv.below hb1
    have hB := bss_lit2 (e := 22) hbs1 hbs2
    clear hown1 HP2 hr
    go_wp2_with (go_at_call 47; go_must (refine join_any _ _ D HF.out _ hB hD2 _ ?_))
    intro ad3 c3 w3 hown3 hb3
    have hsz := hb1.size
    have hb4 := below_then (hb1.alloc hsz _) hb3 (by omega)
    have hown4 := owns_mono (base' := w.heap.size) hown3 (by omega)
    clear hb1 hb3 hown3 hB hbs1 hbs2
    go_wp2
    exact hR _ _ _ hown4 hb4
/-- A text with its length ahead; the error's number. -/
def textL (l : List UInt8) : List UInt8 × Int := if isTextL l then dataL l else ([], 13)

set_option maxHeartbeats 800000 in
theorem text_any (l D : List UInt8) (er : Int) (hD : textL l = (D, er)) (w : World) (hl : l.length ≤ 140737488355328) (hT : Tabs w) (R : Ending → World → Prop)
    (hR : ∀ ad c w', w'.ownsRow w.heap.size 5 1 (.slice ad D.length c) D.length (bv D) → Below w.heap.size w w' → R (.returned (.tuple #[.slice ad D.length c, .int .i64 er])) w') :
    Calls Tryd.prog 63 #[.string (str l)] w R := by
  obtain ⟨t, ht⟩ : ∃ t, isTextL l = t := ⟨_, rfl⟩
  have hcv := fun w => Lib.run_convert_string_bytes (P := Tryd.prog) w 9 22 5 (str l) Tryd.underlying9 Tryd.underlying22 Tryd.underlying5
  have hsz : (str l).size = l.length := rfl
  cases t with
  | false =>
    have e : textL l = ([], 13) := by unfold textL; rw [ht]; rfl
    rw [hD] at e
    obtain ⟨rfl, rfl⟩ := Prod.mk.inj e
    clear e hD hcv
    have HT := Lib.hid ht
    clear ht hsz
    go_enter Tryd.func63, Tryd.ntmps63
    go_wp2_with (go_at_call 73; go_must (refine istext_any l _ (by omega) hT _ ?_))
    rw [HT.out]
    intro w1 hb1
    go_wp2
    exact hR _ _ _ (World.ownsRow_nil _ _ _ _) hb1
  | true =>
    have e : dataL l = (D, er) := by rw [← hD]; unfold textL; rw [ht]; rfl
    have HE := Lib.hid e
    have HT := Lib.hid ht
    have HC := Lib.hid hcv
    clear ht hD e hcv hsz
    go_enter Tryd.func63, Tryd.ntmps63
    go_wp2_with (go_at_call 73; go_must (refine istext_any l _ (by omega) hT _ ?_))
    rw [HT.out]
    intro w1 hb1
    have hb2 := bytesWorld_below w1 5 (str l)
    have hbs := bytesWorld_bs w1 5 l (by omega)
    have hc1 := HC.out w1
    have hb3 := below_then hb1 hb2 hb1.size
    rw [show (str l).size = l.length from rfl] at hc1
    go_wp2_with (go_at_call 64; go_must (refine data_any _ l D er HE.out _ hbs _ ?_))
    intro ad4 c4 w4 hown4 hb4
    have hb5 := below_then hb3 hb4 hb3.size
    have hown5 := owns_mono (base' := w.heap.size) hown4 hb3.size
    clear hb4 hown4 hbs hb3 hb2 hb1 hc1
    go_wp2
    exact hR _ _ _ hown5 hb5

end Go.Proofs.YtpodhidabhnnnaaDoor
