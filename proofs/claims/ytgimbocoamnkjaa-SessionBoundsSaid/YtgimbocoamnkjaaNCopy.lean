/- note.Copy, walked. -/
import Derived.Test.YtgimbocoamnkjaaNote
import Derived.Deep.RegionHeld3
namespace Go.Proofs.Ytgimbocoamnkjaa
open Go.RowKit

set_option maxRecDepth 100000 in
set_option maxHeartbeats 2000000 in
theorem ncopy_any (x : Nt) (pv qv : Value) (w : World) (hp : Bs w pv x.payload) (hq : Ps w qv x.props) (hB : NtB x) (R : Ending → World → Prop)
    (hR : ∀ pa pc qa qc w', w'.ownsRow w.heap.size 5 1 (.slice pa x.payload.length pc) x.payload.length (bv x.payload) → PsO w' w.heap.size (.slice qa x.props.length qc) x.props → Below w.heap.size w w' → R (.returned (Value.agg #[.string (str x.topic), (.slice pa x.payload.length pc), .int .i64 x.qos, .bool x.retain, .string (str x.src), .int .i64 x.expires, (.slice qa x.props.length qc), .int .i64 x.origin, .int .i64 x.number, .int .i64 x.hops])) w') :
    Calls Try.prog 30 #[(Value.agg #[.string (str x.topic), pv, .int .i64 x.qos, .bool x.retain, .string (str x.src), .int .i64 x.expires, qv, .int .i64 x.origin, .int .i64 x.number, .int .i64 x.hops])] w R := by
  have HR := Lib.hid hR
  have HP := Lib.hid hp
  have HQ := Lib.hid hq
  have HBD := Lib.hid hB
  obtain ⟨pa, pc, rfl, _⟩ := hp
  obtain ⟨qa, qc, rfl, _⟩ := hq
  obtain ⟨topic, payload, qos, retain, src, expires, props, origin, number, hops⟩ := x
  simp only at *
  clear hR hB
  have hb1 : Below w.heap.size w ((w.alloc (Obj.cells #[.string (str topic), .slice pa payload.length pc, .int .i64 qos, .bool retain, .string (str src), .int .i64 expires, .slice qa props.length qc, .int .i64 origin, .int .i64 number, .int .i64 hops] 42)).alloc (Obj.cells #[.string ⟨#[]⟩, .slice none 0 0, .int .i64 0, .bool false, .string ⟨#[]⟩, .int .i64 0, .slice none 0 0, .int .i64 0, .int .i64 0, .int .i64 0] 42)) := ((Below.refl _ _).alloc (Nat.le_refl _) _).alloc (by simp) _
  have n0 := block_alloc (o' := (Obj.cells #[.string ⟨#[]⟩, .slice none 0 0, .int .i64 0, .bool false, .string ⟨#[]⟩, .int .i64 0, .slice none 0 0, .int .i64 0, .int .i64 0, .int .i64 0] 42)) (heap_alloc_new w (Obj.cells #[.string (str topic), .slice pa payload.length pc, .int .i64 qos, .bool retain, .string (str src), .int .i64 expires, .slice qa props.length qc, .int .i64 origin, .int .i64 number, .int .i64 hops] 42))
  have n1 := heap_alloc_new (w.alloc (Obj.cells #[.string (str topic), .slice pa payload.length pc, .int .i64 qos, .bool retain, .string (str src), .int .i64 expires, .slice qa props.length qc, .int .i64 origin, .int .i64 number, .int .i64 hops] 42)) (Obj.cells #[.string ⟨#[]⟩, .slice none 0 0, .int .i64 0, .bool false, .string ⟨#[]⟩, .int .i64 0, .slice none 0 0, .int .i64 0, .int .i64 0, .int .i64 0] 42)
  rw [show (w.alloc (Obj.cells #[.string (str topic), .slice pa payload.length pc, .int .i64 qos, .bool retain, .string (str src), .int .i64 expires, .slice qa props.length qc, .int .i64 origin, .int .i64 number, .int .i64 hops] 42)).heap.size = w.heap.size + 1 by simp] at n1
  have HB1 := Lib.hid hb1
  have N0 := Lib.hid n0
  have N1 := Lib.hid n1
  clear hb1 n0 n1
  go_enter Try.func30, Try.ntmps30
  go_wp2_with (first
    | (go_at_call 39; go_must (refine cloneb_any _ payload _ (HP.out.below HB1.out) (by have := HBD.out.p; simp only at this; omega) _ ?_); intro pa' pc' w3 ho3 hb3; have r3 := row_on N0.out hb3; have f3 := frozen_block r3 1; have c1 := cell_of_row w3 w.heap.size 1 _ _ _ r3; have c6 := cell_of_row w3 w.heap.size 6 _ _ _ r3; have R3 := Lib.hid (heap_setCell_same w3 w.heap.size 1 _ _ (.slice pa' payload.length pc') r3); have Z3 := Lib.hid ((heap_setCell_other w3 ⟨w.heap.size, 1, none⟩ (w.heap.size + 1) (.slice pa' payload.length pc') (by simp)).trans (row_on N1.out hb3)); have HB3 := Lib.hid ((below_then HB1.out hb3 HB1.out.size).setCell (p := ⟨w.heap.size, 1, none⟩) (Nat.le_refl _) (.slice pa' payload.length pc')); have HO3 := Lib.hid (ownsRow_setCell_below ho3 (a := ⟨w.heap.size, 1, none⟩) ((Array.getElem?_eq_some_iff.1 N0.out).1) (.slice pa' payload.length pc')); clear r3 ho3 hb3)
    | (go_at_call 40; go_must (refine clonep_any _ props w _ (HQ.out.pt.below HB3.out) (by have := HBD.out.l; simp only at this; omega) _ ?_); intro qa' qc' ds w5 ho5 hd5 hb5; have r5 := row_on R3.out hb5; have f5 := frozen_block r5 6; have c56 := cell_of_row w5 w.heap.size 6 _ _ _ r5; have R5 := Lib.hid (heap_setCell_same w5 w.heap.size 6 _ _ (.slice qa' props.length qc') r5); have Z5 := Lib.hid ((heap_setCell_other w5 ⟨w.heap.size, 6, none⟩ (w.heap.size + 1) (.slice qa' props.length qc') (by simp)).trans (row_on Z3.out hb5)); have hB5 := below_then HB3.out hb5 HB3.out.size; have HB5 := Lib.hid (hB5.setCell (p := ⟨w.heap.size, 6, none⟩) (Nat.le_refl _) (.slice qa' props.length qc')); have HO5 := Lib.hid (ownsRow_setCell_below (owns_below HO3.out hb5) (a := ⟨w.heap.size, 6, none⟩) ((Array.getElem?_eq_some_iff.1 N0.out).1) (.slice qa' props.length qc')); have HB35 := Lib.hid (show (w3.setCell ⟨w.heap.size, 1, none⟩ (.slice pa' payload.length pc')).heap.size ≤ (w5.setCell ⟨w.heap.size, 6, none⟩ (.slice qa' props.length qc')).heap.size by have := hb5.size; simpa [World.setCell] using this); have HC5 := Lib.hid (Cp.start (ownsRow_setCell_below ho5 (a := ⟨w.heap.size, 6, none⟩) ((Array.getElem?_eq_some_iff.1 R3.out).1) (.slice qa' props.length qc')) hd5); clear r5 ho5 hb5 hB5 hd5))
  have HZ5 : Hid (w.heap.size + 2 ≤ (w3.setCell ⟨w.heap.size, 1, none⟩ (.slice pa' payload.length pc')).heap.size) := (Array.getElem?_eq_some_iff.1 Z3.out).1
  have hsz5 := Nat.le_trans HZ5.out HB35.out
  have HO6 := Lib.hid (owns_mono HO5.out (show w.heap.size ≤ _ by simp; omega))
  obtain ⟨BB, hBB⟩ : ∃ BB, (w3.setCell ⟨w.heap.size, 1, none⟩ (.slice pa' payload.length pc')).heap.size = BB := ⟨_, rfl⟩
  rw [hBB] at HC5 HZ5 HB35
  clear hsz5 hBB HO5 HB3 HO3 R3 Z3 N0 N1 HB1 f3 c1 c6 f5 c56
  generalize w5.setCell ⟨w.heap.size, 6, none⟩ (.slice qa' props.length qc') = w6 at HC5 HO6 HB5 Z5 R5 HB35 ⊢
  go_loopg [15] props.length (fun gn i wr => ∃ (k : Nat) (ds : List Value), k ≤ props.length ∧ gn = props.length - k ∧ i = .int .i64 k ∧ Hid (Cp w wr BB k (.slice qa' props.length qc') ds props) ∧ Hid (wr.ownsRow w.heap.size 5 1 (.slice pa' payload.length pc') payload.length (bv payload)) ∧ Hid (Below w.heap.size w wr) ∧ Hid (wr.heap[w.heap.size]? = some (Obj.cells #[.string (str topic), .slice pa' payload.length pc', .int .i64 qos, .bool retain, .string (str src), .int .i64 expires, .slice qa' props.length qc', .int .i64 origin, .int .i64 number, .int .i64 hops] 42)) ∧ Hid (wr.heap[w.heap.size + 1]? = some (Obj.cells #[.string ⟨#[]⟩, .slice none 0 0, .int .i64 0, .bool false, .string ⟨#[]⟩, .int .i64 0, .slice none 0 0, .int .i64 0, .int .i64 0, .int .i64 0] 42)) ∧ Hid (BB ≤ wr.heap.size))
  case atStart => exact ⟨0, ds, Nat.zero_le _, by omega, rfl, HC5, HO6, HB5, R5, Z5, HB35⟩
  case round =>
    obtain ⟨k, ds', hk, rfl, rfl, HC, HO, HB, HR0, HZ0, HBS⟩ := hrel
    obtain ⟨wo, rfl⟩ : ∃ y, y = wr := ⟨_, rfl⟩
    clear HC5 HO6 HB5 R5 Z5
    by_cases hlt : k < props.length
    · have hkk : (k : Int) < (props.length : Int) := by omega
      obtain ⟨g, hg⟩ := owns_head HC.out.row (by omega)
      subst hg
      obtain ⟨d, p, hlp, hpc, hcell⟩ := HC.out.cell hlt
      have HLP := Lib.hid hlp
      have hbd : Below w.heap.size w wo.drew := HB.out.drew
      obtain ⟨da, dc, rfl, _⟩ := id hpc.hd
      have HPC := Lib.hid (hpc.hd.below hbd)
      have HPL := Lib.hid hpc.ld
      have c6 : wo.drew.cell? ⟨w.heap.size, 6, none⟩ = some (.slice (some ⟨g, 0, none⟩) props.length qc') := cell_of_row wo w.heap.size 6 _ _ _ HR0.out
      have cd : wo.drew.cell? ⟨g, k * 5 + 4, none⟩ = some (.slice da p.data.length dc) := hcell
      clear hlp hpc hcell hbd
      go_wp2_with fail
      go_region_law (first
        | (go_simp; go_at_call 39; refine cloneb_any _ p.data wo.drew HPC.out (Nat.le_trans HPL.out (by decide)) _ ?_; intro pa7 pc7 w7 ho7 hb7; have hb7' := below_tra (Below.refl wo.heap.size wo).drew hb7; have c67 := cell_later hb7 c6; have c7 := cell_later hb7 cd; have f7 := (HC.out.below hb7').row.frozenAt (k * 5 + 4)))
      all_goals
        have hC7 := HC.out.below hb7'
        have hgB : BB ≤ g := (hC7.row.lt g rfl).1
        have hgw : w.heap.size + 2 ≤ g := Nat.le_trans HZ5.out hgB
        have HC8 : Hid (Cp w (w7.setCell ⟨g, k * 5 + 4, none⟩ (.slice pa7 p.data.length pc7)) BB (k + 1) (.slice (some ⟨g, 0, none⟩) props.length qc') (ds'.set k (.slice pa7 p.data.length pc7)) props) := Cp.step HC.out HBS.out HLP.out ho7 hb7' rfl rfl
        have HO8 : Hid ((w7.setCell ⟨g, k * 5 + 4, none⟩ (.slice pa7 p.data.length pc7)).ownsRow w.heap.size 5 1 (.slice pa' payload.length pc') payload.length (bv payload)) := Keeps.grown5 hC7.row (hC7.row.stored (k * 5 + 4) _).2 (by decide) _ _ _ _ (owns_below HO.out hb7')
        have HB8 : Hid (Below w.heap.size w (w7.setCell ⟨g, k * 5 + 4, none⟩ (.slice pa7 p.data.length pc7))) := (below_then HB.out hb7' HB.out.size).setCell (p := ⟨g, k * 5 + 4, none⟩) (by show w.heap.size ≤ g; omega) _
        have HR8 := Lib.hid ((heap_setCell_other w7 ⟨g, k * 5 + 4, none⟩ w.heap.size (.slice pa7 p.data.length pc7) (by show w.heap.size ≠ g; omega)).trans (row_on HR0.out hb7'))
        have HZ8 := Lib.hid ((heap_setCell_other w7 ⟨g, k * 5 + 4, none⟩ (w.heap.size + 1) (.slice pa7 p.data.length pc7) (by show w.heap.size + 1 ≠ g; omega)).trans (row_on HZ0.out hb7'))
        have HS8 : Hid (BB ≤ (w7.setCell ⟨g, k * 5 + 4, none⟩ (.slice pa7 p.data.length pc7)).heap.size) := by
          show BB ≤ _
          have h1 := HBS.out
          have h2 := hb7'.size
          simp only [World.setCell, Array.size_modify]
          omega
        clear hC7 hgB hgw ho7 hb7 hb7' c67 c7 f7 c6 cd
        go_wp2_with fail
        go_roundg (props.length - (k + 1))
        case measure => omega
        case rel => exact ⟨k + 1, _, by omega, rfl, by go_num, HC8, HO8, HB8, HR8, HZ8, HS8⟩
    · have hkk : ¬ (k : Int) < (props.length : Int) := by omega
      have HPS := Lib.hid ((HC.out.pso (by omega)).mono (Nat.le_trans (Nat.le_add_right _ 2) HZ5.out))
      clear HC
      go_wp2_with (first
        | (refine wpList_load_row (o := ⟨some 31, .load 42 (.tmp 1), _, _, _, _⟩) (by rfl) 42 (.tmp 1) (by rfl) (w.heap.size) (by rfl) 42 _ (0, 0) _ (HR0).out (Try.underlying42) (by rfl) (by kernel_rfl) ?_)
        | (refine wpList_store_row (o := ⟨none, .store 42 (.tmp 2) (.tmp 31), _, _, _, _⟩) (by rfl) 42 (.tmp 2) (.tmp 31) (by rfl) (w.heap.size + 1) _ (by rfl) (by rfl) 42 _ (HZ0).out (by kernel_rfl) (by rfl) (by simp [Value.oneCell']) ?_))
      refine bodyPost_ret (results_cell_row rfl _ _ (w.heap.size + 1) 42 #[.string (str topic), .slice pa' payload.length pc', .int .i64 qos, .bool retain, .string (str src), .int .i64 expires, .slice qa' props.length qc', .int .i64 origin, .int .i64 number, .int .i64 hops] (0, 0) _ rfl (setRow_heap _ (w.heap.size + 1) _ _ _ _ HZ0.out) Try.underlying42 rfl (by kernel_rfl)) rfl ?_
      exact HR.out _ _ _ _ _ (owns_typed HO.out HZ0.out (by decide) (grown_setRow _ _ _)) (HPS.out.typed HZ0.out (by decide) (by decide) (grown_setRow _ _ _)) (below_setRow HB.out (by omega) _)
end Go.Proofs.Ytgimbocoamnkjaa
