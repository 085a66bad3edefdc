/- For all edits and bytes, whatever memory they lie in, EditCodes returns true and leaves its arguments as they were. Conditions: none. -/
import Derived.Test.YtpodgocmcnkfdaaFrame08
import Derived.Test.YtpodgocmcnkfdaaCodes8
namespace Go.Proofs.Ytpodgocmcnkfdaa.editCodesClaim
open Go.Shelf Go.ChangeShapes Go.WideShapes Go.ChangeAt Go.RowKit Go.Lib

set_option maxRecDepth 100000 in
theorem contract (H : Type) (enc : TypeId × Value → H) (W : World) (base : Nat) (args : Array Value) (ds gs : List (DataW H)) (before : List MemPlace)
    (hval : ∀ (j : Nat) t v, Try.f6.params[j]? = some t → args[j]? = some v → Value.okWide Try.prog W .any base t v)
    (hW : DataW.Whole enc Try.prog Try.f6.params.toList Rows.editCodesSpec.vars false W args.toList ds gs before) (hL : laidMetH Try.prog laidList W) (hsz : (DataW.weightsEach Try.prog (Try.f6.params.toList ++ (OpenSpec.ofChange Rows.editCodesSpec).bare.plain.varTypes Try.prog) (ds ++ gs)).all (· ≤ reachBytes) = true) :
    Calls Try.prog 6 args W fun e W' => ∃ v, e = .returned v ∧ Rows.editCodesSpec.post enc Try.prog Try.f6 false true false false W args v W' := by
  have hW' := hW
  obtain ⟨p, q, hA0, hV, rfl, hfz, hnd⟩ := hW
  have hA : DataW.TrodAll enc Try.prog W 0 (fun _ => true) true Try.f6.params.toList args.toList ds p := hA0
  have hlt : ∀ x ∈ p, x.block < W.heap.size := fun x hx => by have := hW'.lt x; simp at this; exact this (.inl hx)
  have _ := hL
  obtain ⟨rfl, rfl⟩ := trodVars_none hV
  have hAll := fun (W' : World) (hb : Below W.heap.size W W') => trodAll_below (P := Try.prog) (by kernel_rfl) hb _ _ _ _ (by
    have hall : (Try.f6.params.toList.all fun t => Try.prog.readableRec t && decide (t < Try.prog.types.size)) = true := by kernel_rfl
    intro t ht
    have := List.all_eq_true.1 hall t ht
    simpa using this) hA hlt
  rw [Try.params6] at hA hval
  obtain ⟨v0, v1, d0, d1, p0, p1, rfl, rfl, rfl, h0, h1⟩ := trodAll_two hA
  obtain ⟨e, ex, ey, rfl, he⟩ := open_edit (fun _ => rfl) (hval 0 27 v0 rfl rfl) h0 (fits_of_each hsz (j := 0) (by kernel_rfl) rfl)
  obtain ⟨ba, bn, bc, rfl⟩ : ∃ a n c, v1 = .slice a n c := okWide_slice Try.underlying39 (hval 1 39 v1 rfl rfl)
  obtain ⟨fu, hf1⟩ := h1
  obtain ⟨b, hb, _⟩ := open_bsw Try.underlying39 Try.underlying5 (by kernel_rfl) (by kernel_rfl) hf1 (fun _ => rfl) (fits_of_each hsz (j := 1) (by kernel_rfl) rfl)
  clear hA0
  have fin : ∀ W', Below W.heap.size W W' → ∃ v, Ending.returned (Value.bool true) = .returned v ∧ Rows.editCodesSpec.post enc Try.prog Try.f6 false true false false W _ v W' := fun W' hb =>
    ⟨_, rfl, _, _, _, [], _, [], hW', trodAll_mk1 (shut_bool Try.underlying4 _), hAll W' hb, rfl, hb.frame _, fun h => by cases h⟩
  exact codes_law e ex ey _ b W he hb _ fin

theorem reads (os : Os) {H : Type} (enc : TypeId × Value → H) : ∃ places, DataW.whole enc Try.prog ((laidWorld os).forCall (fun _ _ => 0) ⟨#[], #[.agg #[.int .i64 0, .int .i64 0, .int .i64 0, .slice none 0 0, .slice none 0 0], .slice none 0 0], []⟩).memory Try.f6.params.toList Rows.editCodesSpec.vars false (#[.agg #[.int .i64 0, .int .i64 0, .int .i64 0, .slice none 0 0, .slice none 0 0], .slice none 0 0] : Array Value).toList 8 = some ([.agg [.lit (.int .i64 0), .lit (.int .i64 0), .lit (.int .i64 0), .nil, .nil], .nil], [], places) :=
  ⟨[], by kernel_rfl⟩

set_option maxRecDepth 100000 in
theorem lifted (os : Os) (started : os.Started) (H : Type) (enc : TypeId × Value → H) (F : Stop.Interp) :
    ReturnsInHanded {} Try.checked os 6 .any ((OpenSpec.ofChange Rows.editCodesSpec).preRow enc Try.prog Try.f6 Rows.editCodesRow.domain false Rows.editCodesRow.laid) (((OpenSpec.ofChange Rows.editCodesSpec).at F).post enc Try.prog Try.f6 false true false false) := by
  obtain ⟨places, hx⟩ := reads os enc
  refine returnsInHanded_of_row (C := Try.checked) (s := OpenSpec.ofChange Rows.editCodesSpec) own started (by kernel_rfl) Try.func6
    (witness_row_atRef (enc := enc) (C := Try.checked) false (laidWorld os) #[.agg #[.int .i64 0, .int .i64 0, .int .i64 0, .slice none 0 0, .slice none 0 0], .slice none 0 0] rfl (by kernel_rfl) (by kernel_rfl) (by kernel_rfl)
      (OpenSpec.preRow_of_cond 8 hx (by kernel_rfl) (fun k hk => by cases hk) (by kernel_rfl) (laid_met os _))) ?_
  intro W base args ds gs before hval hW _ _ hsz hL _ _
  exact contract H enc W base args ds gs before hval hW hL hsz

theorem said : Rows.EditCodesSaid :=
  OpenClaim.holds_of_cond 6 Try.f6 rfl rfl rfl rfl rfl rfl rfl ⟨rfl, rfl, rfl, rfl, rfl⟩ rfl rfl rfl rfl rfl (by kernel_rfl) Try.func6 (by kernel_rfl)
    (of_decide_eq_true (by kernel_rfl)) (by unfold Func.isWrapper; rw [if_neg (of_decide_eq_false (by kernel_rfl))]; exact ⟨rfl, rfl⟩)
    (fun os started H enc _ F => by rw [OpenClaim.pre_eq_preRow]; exact lifted os started H enc F)

end Go.Proofs.Ytpodgocmcnkfdaa.editCodesClaim
