/- For all scripts of steps, whatever memory they lie in, SessionBounds returns true and leaves its arguments as they were. Conditions: none. -/
import Derived.Test.YtgimbocoamnkjaaFrame20
import Derived.Test.YtgimbocoamnkjaaBnd20
namespace Go.Proofs.Ytgimbocoamnkjaa.sessionBoundsClaim
open Go.Shelf Go.ChangeShapes Go.WideShapes Go.ChangeAt Go.RowKit Go.Lib

set_option maxRecDepth 100000 in
theorem contract (H : Type) (enc : TypeId × Value → H) (W : World) (base : Nat) (args : Array Value) (ds gs : List (DataW H)) (before : List MemPlace)
    (hval : ∀ (j : Nat) t v, Try.f3.params[j]? = some t → args[j]? = some v → Value.okWide Try.prog W .any base t v)
    (hW : DataW.Whole enc Try.prog Try.f3.params.toList Rows.sessionBoundsSpec.vars false W args.toList ds gs before) (hL : laidMetH Try.prog laidList W) (hsz : (DataW.weightsEach Try.prog (Try.f3.params.toList ++ (OpenSpec.ofChange Rows.sessionBoundsSpec).bare.plain.varTypes Try.prog) (ds ++ gs)).all (· ≤ reachBytes) = true) :
    Calls Try.prog 3 args W fun e W' => ∃ v, e = .returned v ∧ Rows.sessionBoundsSpec.post enc Try.prog Try.f3 false true false false W args v W' := by
  have hW' := hW
  obtain ⟨p, q, hA0, hV, rfl, hfz, hnd⟩ := hW
  have hA : DataW.TrodAll enc Try.prog W 0 (fun _ => true) true Try.f3.params.toList args.toList ds p := hA0
  have hlt : ∀ x ∈ p, x.block < W.heap.size := fun x hx => by have := hW'.lt x; simp at this; exact this (.inl hx)
  have _ := hL
  obtain ⟨rfl, rfl⟩ := trodVars_none hV
  have hAll := fun (W' : World) (hb : Below W.heap.size W W') => trodAll_below (P := Try.prog) (by kernel_rfl) hb _ _ _ _ (by
    have hall : (Try.f3.params.toList.all fun t => Try.prog.readableRec t && decide (t < Try.prog.types.size)) = true := by kernel_rfl
    intro t ht
    have := List.all_eq_true.1 hall t ht
    simpa using this) hA hlt
  rw [Try.params3] at hA hval
  obtain ⟨v0, d0, rfl, rfl, h0⟩ := trodAll_one hA
  obtain ⟨va, vn, vc, rfl⟩ : ∃ a n c, v0 = .slice a n c := okWide_slice Try.underlying22 (hval 0 22 v0 rfl rfl)
  obtain ⟨fu, hf0⟩ := h0
  obtain ⟨l, hl⟩ := open_steps (fun _ => rfl) hf0 (fits_of_each hsz (j := 0) (by kernel_rfl) rfl)
  clear hA0
  have fin : ∀ W', Below W.heap.size W W' → ∃ v, Ending.returned (Value.bool true) = .returned v ∧ Rows.sessionBoundsSpec.post enc Try.prog Try.f3 false true false false W _ v W' := fun W' hb =>
    ⟨_, rfl, _, _, _, [], _, [], hW', trodAll_mk1 (shut_bool Try.underlying4 _), hAll W' hb, rfl, hb.frame _, fun h => by cases h⟩
  exact bounds_law _ l W hl _ fin

theorem reads (os : Os) {H : Type} (enc : TypeId × Value → H) : ∃ places, DataW.whole enc Try.prog ((laidWorld os).forCall (fun _ _ => 0) ⟨#[], #[.slice none 0 0], []⟩).memory Try.f3.params.toList Rows.sessionBoundsSpec.vars false (#[.slice none 0 0] : Array Value).toList 8 = some ([.nil], [], places) :=
  ⟨[], by kernel_rfl⟩

set_option maxRecDepth 100000 in
theorem lifted (os : Os) (started : os.Started) (H : Type) (enc : TypeId × Value → H) (F : Stop.Interp) :
    ReturnsInHanded {} Try.checked os 3 .any ((OpenSpec.ofChange Rows.sessionBoundsSpec).preRow enc Try.prog Try.f3 Rows.sessionBoundsRow.domain false Rows.sessionBoundsRow.laid) (((OpenSpec.ofChange Rows.sessionBoundsSpec).at F).post enc Try.prog Try.f3 false true false false) := by
  obtain ⟨places, hx⟩ := reads os enc
  refine returnsInHanded_of_row (C := Try.checked) (s := OpenSpec.ofChange Rows.sessionBoundsSpec) own started (by kernel_rfl) Try.func3
    (witness_row_atRef (enc := enc) (C := Try.checked) false (laidWorld os) #[.slice none 0 0] rfl (by kernel_rfl) (by kernel_rfl) (by kernel_rfl)
      (OpenSpec.preRow_of_cond 8 hx (by kernel_rfl) (fun k hk => by cases hk) (by kernel_rfl) (laid_met os _))) ?_
  intro W base args ds gs before hval hW _ _ hsz hL _ _
  exact contract H enc W base args ds gs before hval hW hL hsz

theorem said : Rows.SessionBoundsSaid :=
  OpenClaim.holds_of_cond 3 Try.f3 rfl rfl rfl rfl rfl rfl rfl ⟨rfl, rfl, rfl, rfl, rfl⟩ rfl rfl rfl rfl rfl (by kernel_rfl) Try.func3 (by kernel_rfl)
    (of_decide_eq_true (by kernel_rfl)) (by unfold Func.isWrapper; rw [if_neg (of_decide_eq_false (by kernel_rfl))]; exact ⟨rfl, rfl⟩)
    (fun os started H enc _ F => by rw [OpenClaim.pre_eq_preRow]; exact lifted os started H enc F)

end Go.Proofs.Ytgimbocoamnkjaa.sessionBoundsClaim
