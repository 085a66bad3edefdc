/- tidingslaw20.wakes, walked. -/
import Derived.Test.YtgimbocoamnkjaaUse20
namespace Go.Proofs.Ytgimbocoamnkjaa
open Go.RowKit

theorem wk_next {s s' : Sess} {X x : Im} {id : Int} {ok : Bool} (hq : s.queue = [X]) (hX : X.qos = 1) (hf : s.flights = []) (hn : s.nums = []) (h : NextR s 1 x id ok s') : ok = true ∧ id = 1 ∧ s'.flights = [⟨1, 1, X⟩] := by
  have hr : readyL s 1 = true := by
    unfold readyL
    rw [hq, hf]
    simp
  cases h with
  | no h => rw [hr] at h; cases h
  | out y rest hq' h hz => rw [hq] at hq'; cases hq'; omega
  | fly y rest d hq' h hz h1 h2 hc ha =>
    rw [hq] at hq'
    cases hq'
    rw [hn] at h2
    have hd : d = 1 := by simp at h2; omega
    subst hd
    refine ⟨rfl, rfl, ?_⟩
    show s.flights ++ [⟨1, X.qos, X⟩] = _
    rw [hf, hX]
    rfl

theorem wk_land {s : Sess} {f : Fl} (h : s.flights = [f]) : (landS s 0).flights = [] := by
  unfold landS
  show (s.flights.eraseIdx 0) = []
  rw [h]
  rfl
theorem wk_idx {s : Sess} {x : Im} (h : s.flights = [⟨1, 1, x⟩]) : idxP (hitF 1 [1]) s.flights = 0 := by
  rw [h]
  rfl
theorem wk_idx0 {s : Sess} {p : Fl → Bool} (h : s.flights = []) : idxP p s.flights = -1 := by
  rw [h]
  rfl
theorem imX_bounds : ImB ⟨⟨[], [], 0, false, [], 0, [], 0, 0, 0⟩, 1, false, [], []⟩ := ⟨⟨by simp, by simp, by simp, by simp, by simp, by decide⟩, by simp, by simp, by decide⟩
theorem imX_c (w : World) : ImC w (.slice none 0 0) (.slice none 0 0) (.slice none 0 0) ⟨⟨[], [], 0, false, [], 0, [], 0, 0, 0⟩, 1, false, [], []⟩ :=
  ImO.c (B := 0) ⟨World.ownsRow_nil _ _ _ _, PsO.nil _ _, World.ownsRow_nil _ _ _ _⟩ imX_bounds

set_option maxRecDepth 100000 in
set_option maxHeartbeats 4000000 in
theorem wakes_any (w : World) (R : Ending → World → Prop)
    (hR : ∀ w', Below w.heap.size w w' → R (.returned (.bool true)) w') :
    Calls Try.prog 6 #[] w R := by
  have HR := Lib.hid hR
  clear hR
  obtain ⟨s0, hs0⟩ : ∃ s, newS [99] = s := ⟨_, rfl⟩
  have hi0 : SInv s0 := hs0 ▸ SInv.new [99]
  have hc0 : s0.client = [99] := by rw [← hs0]; rfl
  obtain ⟨X, hX⟩ : ∃ x : Im, (⟨⟨[], [], 0, false, [], 0, [], 0, 0, 0⟩, 1, false, [], []⟩ : Im) = x := ⟨_, rfl⟩
  have hXq : X.qos = 1 := by rw [← hX]
  obtain ⟨s1, hs1⟩ : ∃ s, pushS s0 X = (s, true) := ⟨{ s0 with queue := s0.queue ++ [X] }, by unfold pushS; rw [if_pos (by rw [← hs0]; decide)]⟩
  have hi1 : SInv s1 := by
    have := hi0.pushS (x := X) (by omega)
    rw [hs1] at this
    exact this
  have hsf : s1.queue = [X] ∧ s1.flights = [] ∧ s1.nums = [] := by
    have h1 : s1 = { s0 with queue := s0.queue ++ [X] } := by
      rw [show s1 = (pushS s0 X).1 from (congrArg Prod.fst hs1).symm]
      unfold pushS
      rw [if_pos (by rw [← hs0]; decide)]
    rw [h1, ← hs0]
    exact ⟨rfl, rfl, rfl⟩
  have HI0 := Lib.hid hi0
  have HI1 := Lib.hid hi1
  have HS0 := Lib.hid hs0
  have HS1 := Lib.hid hs1
  have HC0 := Lib.hid hc0
  have HSF := Lib.hid hsf
  have HX := Lib.hid hX
  have HXQ := Lib.hid hXq
  have hm1 : Hid True := trivial
  clear hi0 hi1 hs0 hs1 hc0 hsf hX hXq
  go_enter Try.func6, Try.ntmps6
  go_wp2_with (first
    | (go_at_call 5; go_must (refine new_sw [99] _ _ ?_); intro S w1 h1; rw [HS0.out] at h1; have HW1 := Lib.hid h1; clear h1)
    | (go_at_call 18; go_must (refine client_sw S s0 w _ HW1.out _ ?_); rw [HC0.out])
    | (go_at_call 9; go_must (refine push_sw S s0 ⟨⟨[], [], 0, false, [], 0, [], 0, 0, 0⟩, 1, false, [], []⟩ true s1 (by rw [HX.out]; exact HS1.out) HI0.out _ _ _ w _ HW1.out (imX_c _) imX_bounds _ ?_); intro w2 h2; have HW2 := Lib.hid h2; clear h2)
    | (go_at_call 11; go_must (refine next_sw S s1 1 HI1.out w _ HW2.out _ ?_); intro x id ok s3 pa pc qa qc ea ec w3 hn h3 _ _; have HI3 := Lib.hid (hn.inv HI1.out); obtain ⟨e1, e2, e3⟩ := wk_next HSF.out.1 HXQ.out HSF.out.2.1 HSF.out.2.2 hn; subst e1; subst e2; have HW3 := Lib.hid h3; have HF3 := Lib.hid e3; have N3 := Lib.hid (heap_alloc_new w3 (Obj.cells #[.string ⟨#[]⟩, .slice none 0 0, .int .i64 0, .bool false, .string ⟨#[]⟩, .int .i64 0, .slice none 0 0, .int .i64 0, .int .i64 0, .int .i64 0, .int .i64 0, .bool false, .slice none 0 0, .string ⟨#[]⟩] 44)); clear h3 hn e3)
    | (refine wpList_store_row (o := ⟨none, .store 44 (.tmp 3) (.tmp 20), _, _, _, _⟩) (by rfl) 44 (.tmp 3) (.tmp 20) (by rfl) w3.heap.size _ (by rfl) (by rfl) 44 _ N3.out (by kernel_rfl) (by rfl) (by simp [Value.oneCell']) ?_; rw [World.setRow_alloc_new]; have h4 := HW3.out.below ((Below.refl w3.heap.size w3).alloc (Nat.le_refl _) (Obj.cells #[.string (str x.note.topic), (.slice pa x.note.payload.length pc), .int .i64 x.note.qos, .bool x.note.retain, .string (str x.note.src), .int .i64 x.note.expires, (.slice qa x.note.props.length qc), .int .i64 x.note.origin, .int .i64 x.note.number, .int .i64 x.note.hops, .int .i64 x.qos, .bool x.keep, (.slice ea x.ids.length ec), .string (str x.share)] 44)); generalize w3.alloc (Obj.cells #[.string (str x.note.topic), (.slice pa x.note.payload.length pc), .int .i64 x.note.qos, .bool x.note.retain, .string (str x.note.src), .int .i64 x.note.expires, (.slice qa x.note.props.length qc), .int .i64 x.note.origin, .int .i64 x.note.number, .int .i64 x.note.hops, .int .i64 x.qos, .bool x.keep, (.slice ea x.ids.length ec), .string (str x.share)] 44) = w4 at h4 ⊢; have HW4 := Lib.hid h4; clear h4)
    | (have hq := hm1; go_at_call 12; go_must (refine ack_sw S s3 1 0 (wk_idx HF3.out) HI3.out w _ HW4.out _ ?_); intro w5 h5; have hi5 := SInv.land (p := hitF 1 [1]) (z := 0) HI3.out (wk_idx HF3.out); have hf5 : (landS s3 0).flights = [] := wk_land HF3.out; generalize landS s3 0 = s5 at h5 hi5 hf5; have HW5 := Lib.hid h5; have HI5 := Lib.hid hi5; have HF5 := Lib.hid hf5; clear hq hm1 h5 hi5 hf5)
    | (go_at_call 12; go_must (refine ack_sw S s5 1 (-1) (wk_idx0 HF5.out) HI5.out w _ HW5.out _ ?_); intro w6 h6; rw [show landS s5 (-1) = s5 from if_pos (by decide)] at h6; have HW6 := Lib.hid h6; clear h6)
    | (go_at_call 7; go_must (refine flights_sw S s5 0 (by rw [HF5.out, List.length_nil]) HI5.out w _ HW6.out _ ?_); intro fa fc qs w7 _ _ h7 _))
  all_goals exact HR.out _ h7.low
end Go.Proofs.Ytgimbocoamnkjaa
