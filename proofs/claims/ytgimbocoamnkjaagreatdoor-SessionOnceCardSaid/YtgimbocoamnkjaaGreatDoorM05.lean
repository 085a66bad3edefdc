/- note.Copy, walked. -/
import Derived.Test.YtgimbocoamnkjaaGreatDoorM04
import Derived.Deep.RegionHeld3
import Derived.Test.YtgimbocoamnkjaaGreatDoorM03
namespace Go.Proofs.YtgimbocoamnkjaaGreatDoor
open Go.RowKit

set_option maxRecDepth 100000 in
set_option maxHeartbeats 2000000 in
theorem ncopy_any (x : Nt) (pv qv : Value) (w : World) (hp : Bs w pv x.payload) (hq : Ps w qv x.props) (hB : NtB x) (R : Ending → World → Prop)
    (hR : ∀ pa pc qa qc w', w'.ownsRow w.heap.size 5 1 (.slice pa x.payload.length pc) x.payload.length (bv x.payload) → PsO w' w.heap.size (.slice qa x.props.length qc) x.props → Below w.heap.size w w' → R (.returned (Value.agg #[.string (str x.topic), (.slice pa x.payload.length pc), .int .i64 x.qos, .bool x.retain, .string (str x.src), .int .i64 x.expires, (.slice qa x.props.length qc), .int .i64 x.origin, .int .i64 x.number, .int .i64 x.hops])) w') :
    Calls Tryz.prog 101 #[(Value.agg #[.string (str x.topic), pv, .int .i64 x.qos, .bool x.retain, .string (str x.src), .int .i64 x.expires, qv, .int .i64 x.origin, .int .i64 x.number, .int .i64 x.hops])] w R := by
  have HR := Lib.hid hR
  have HP := Lib.hid hp
  have HQ := Lib.hid hq
  have HBD := Lib.hid hB
  obtain ⟨pa, pc, rfl, _⟩ := hp
  obtain ⟨qa, qc, rfl, _⟩ := hq
  obtain ⟨topic, payload, qos, retain, src, expires, props, origin, number, hops⟩ := x
  simp only at *
  clear hR hB
  have hb1 : Below w.heap.size w ((w.alloc (Obj.cells #[.string (str topic), .slice pa payload.length pc, .int .i64 qos, .bool retain, .string (str src), .int .i64 expires, .slice qa props.length qc, .int .i64 origin, .int .i64 number, .int .i64 hops] 34)).alloc (Obj.cells #[.string ⟨#[]⟩, .slice none 0 0, .int .i64 0, .bool false, .string ⟨#[]⟩, .int .i64 0, .slice none 0 0, .int .i64 0, .int .i64 0, .int .i64 0] 34)) := ((Below.refl _ _).alloc (Nat.le_refl _) _).alloc (by simp) _
  have n0 := block_alloc (o' := (Obj.cells #[.string ⟨#[]⟩, .slice none 0 0, .int .i64 0, .bool false, .string ⟨#[]⟩, .int .i64 0, .slice none 0 0, .int .i64 0, .int .i64 0, .int .i64 0] 34)) (heap_alloc_new w (Obj.cells #[.string (str topic), .slice pa payload.length pc, .int .i64 qos, .bool retain, .string (str src), .int .i64 expires, .slice qa props.length qc, .int .i64 origin, .int .i64 number, .int .i64 hops] 34))
  have n1 := heap_alloc_new (w.alloc (Obj.cells #[.string (str topic), .slice pa payload.length pc, .int .i64 qos, .bool retain, .string (str src), .int .i64 expires, .slice qa props.length qc, .int .i64 origin, .int .i64 number, .int .i64 hops] 34)) (Obj.cells #[.string ⟨#[]⟩, .slice none 0 0, .int .i64 0, .bool false, .string ⟨#[]⟩, .int .i64 0, .slice none 0 0, .int .i64 0, .int .i64 0, .int .i64 0] 34)
  rw [show (w.alloc (Obj.cells #[.string (str topic), .slice pa payload.length pc, .int .i64 qos, .bool retain, .string (str src), .int .i64 expires, .slice qa props.length qc, .int .i64 origin, .int .i64 number, .int .i64 hops] 34)).heap.size = w.heap.size + 1 by simp] at n1
  have HB1 := Lib.hid hb1
  have N0 := Lib.hid n0
  have N1 := Lib.hid n1
  clear hb1 n0 n1
  go_enter Tryz.func101, Tryz.ntmps101
  go_wp2_with (first
    | (go_at_call 139; go_must (refine cloneb_any _ payload _ (HP.out.below HB1.out) (by have := HBD.out.p; simp only at this; omega) _ ?_); intro pa' pc' w3 ho3 hb3; have r3 := row_on N0.out hb3; have f3 := frozen_block r3 1; have c1 := cell_of_row w3 w.heap.size 1 _ _ _ r3; have c6 := cell_of_row w3 w.heap.size 6 _ _ _ r3; have R3 := Lib.hid (heap_setCell_same w3 w.heap.size 1 _ _ (.slice pa' payload.length pc') r3); have Z3 := Lib.hid ((heap_setCell_other w3 ⟨w.heap.size, 1, none⟩ (w.heap.size + 1) (.slice pa' payload.length pc') (by simp)).trans (row_on N1.out hb3)); have HB3 := Lib.hid ((below_then HB1.out hb3 HB1.out.size).setCell (p := ⟨w.heap.size, 1, none⟩) (Nat.le_refl _) (.slice pa' payload.length pc')); have HO3 := Lib.hid (ownsRow_setCell_below ho3 (a := ⟨w.heap.size, 1, none⟩) ((Array.getElem?_eq_some_iff.1 N0.out).1) (.slice pa' payload.length pc')); clear r3 ho3 hb3)
    | (go_at_call 140; go_must (refine clonep_any _ props w _ (HQ.out.pt.below HB3.out) (by have := HBD.out.l; simp only at this; omega) _ ?_); intro qa' qc' ds w5 ho5 hd5 hb5; have r5 := row_on R3.out hb5; have f5 := frozen_block r5 6; have c56 := cell_of_row w5 w.heap.size 6 _ _ _ r5; have R5 := Lib.hid (heap_setCell_same w5 w.heap.size 6 _ _ (.slice qa' props.length qc') r5); have Z5 := Lib.hid ((heap_setCell_other w5 ⟨w.heap.size, 6, none⟩ (w.heap.size + 1) (.slice qa' props.length qc') (by simp)).trans (row_on Z3.out hb5)); have hB5 := below_then HB3.out hb5 HB3.out.size; have HB5 := Lib.hid (hB5.setCell (p := ⟨w.heap.size, 6, none⟩) (Nat.le_refl _) (.slice qa' props.length qc')); have HO5 := Lib.hid (ownsRow_setCell_below (owns_below HO3.out hb5) (a := ⟨w.heap.size, 6, none⟩) ((Array.getElem?_eq_some_iff.1 N0.out).1) (.slice qa' props.length qc')); have HB35 := Lib.hid (show (w3.setCell ⟨w.heap.size, 1, none⟩ (.slice pa' payload.length pc')).heap.size ≤ (w5.setCell ⟨w.heap.size, 6, none⟩ (.slice qa' props.length qc')).heap.size by have := hb5.size; simpa [World.setCell] using this); have HC5 := Lib.hid (Cp.start (ownsRow_setCell_below ho5 (a := ⟨w.heap.size, 6, none⟩) ((Array.getElem?_eq_some_iff.1 R3.out).1) (.slice qa' props.length qc')) hd5); clear r5 ho5 hb5 hB5 hd5))
  have HZ5 : Hid (w.heap.size + 2 ≤ (w3.setCell ⟨w.heap.size, 1, none⟩ (.slice pa' payload.length pc')).heap.size) := (Array.getElem?_eq_some_iff.1 Z3.out).1
  have hsz5 := Nat.le_trans HZ5.out HB35.out
  have HO6 := Lib.hid (owns_mono HO5.out (show w.heap.size ≤ _ by simp; omega))
  obtain ⟨BB, hBB⟩ : ∃ BB, (w3.setCell ⟨w.heap.size, 1, none⟩ (.slice pa' payload.length pc')).heap.size = BB := ⟨_, rfl⟩
  rw [hBB] at HC5 HZ5 HB35
  clear hsz5 hBB HO5 HB3 HO3 R3 Z3 N0 N1 HB1 f3 c1 c6 f5 c56
  generalize w5.setCell ⟨w.heap.size, 6, none⟩ (.slice qa' props.length qc') = w6 at HC5 HO6 HB5 Z5 R5 HB35 ⊢
  go_loopg [15] props.length (fun gn i wr => ∃ (k : Nat) (ds : List Value), k ≤ props.length ∧ gn = props.length - k ∧ i = .int .i64 k ∧ Hid (Cp w wr BB k (.slice qa' props.length qc') ds props) ∧ Hid (wr.ownsRow w.heap.size 5 1 (.slice pa' payload.length pc') payload.length (bv payload)) ∧ Hid (Below w.heap.size w wr) ∧ Hid (wr.heap[w.heap.size]? = some (Obj.cells #[.string (str topic), .slice pa' payload.length pc', .int .i64 qos, .bool retain, .string (str src), .int .i64 expires, .slice qa' props.length qc', .int .i64 origin, .int .i64 number, .int .i64 hops] 34)) ∧ Hid (wr.heap[w.heap.size + 1]? = some (Obj.cells #[.string ⟨#[]⟩, .slice none 0 0, .int .i64 0, .bool false, .string ⟨#[]⟩, .int .i64 0, .slice none 0 0, .int .i64 0, .int .i64 0, .int .i64 0] 34)) ∧ Hid (BB ≤ wr.heap.size))
  case atStart => exact ⟨0, ds, Nat.zero_le _, by omega, rfl, HC5, HO6, HB5, R5, Z5, HB35⟩
  case round =>
    obtain ⟨k, ds', hk, rfl, rfl, HC, HO, HB, HR0, HZ0, HBS⟩ := hrel
    obtain ⟨wo, rfl⟩ : ∃ y, y = wr := ⟨_, rfl⟩
    clear HC5 HO6 HB5 R5 Z5
    by_cases hlt : k < props.length
    · have hkk : (k : Int) < (props.length : Int) := by omega
      obtain ⟨g, hg⟩ := owns_head HC.out.row (by omega)
      subst hg
      obtain ⟨d, p, hlp, hpc, hcell⟩ := HC.out.cell hlt
      have HLP := Lib.hid hlp
      have hbd : Below w.heap.size w wo.drew := HB.out.drew
      obtain ⟨da, dc, rfl, _⟩ := id hpc.hd
      have HPC := Lib.hid (hpc.hd.below hbd)
      have HPL := Lib.hid hpc.ld
      have c6 : wo.drew.cell? ⟨w.heap.size, 6, none⟩ = some (.slice (some ⟨g, 0, none⟩) props.length qc') := cell_of_row wo w.heap.size 6 _ _ _ HR0.out
      have cd : wo.drew.cell? ⟨g, k * 5 + 4, none⟩ = some (.slice da p.data.length dc) := hcell
      clear hlp hpc hcell hbd
      go_wp2_with fail
      go_region_law (first
        | (go_simp; go_at_call 139; refine cloneb_any _ p.data wo.drew HPC.out (Nat.le_trans HPL.out (by decide)) _ ?_; intro pa7 pc7 w7 ho7 hb7; have hb7' := below_tra (Below.refl wo.heap.size wo).drew hb7; have c67 := cell_later hb7 c6; have c7 := cell_later hb7 cd; have f7 := (HC.out.below hb7').row.frozenAt (k * 5 + 4)))
      all_goals
        have hC7 := HC.out.below hb7'
        have hgB : BB ≤ g := (hC7.row.lt g rfl).1
        have hgw : w.heap.size + 2 ≤ g := Nat.le_trans HZ5.out hgB
        have HC8 : Hid (Cp w (w7.setCell ⟨g, k * 5 + 4, none⟩ (.slice pa7 p.data.length pc7)) BB (k + 1) (.slice (some ⟨g, 0, none⟩) props.length qc') (ds'.set k (.slice pa7 p.data.length pc7)) props) := Cp.step HC.out HBS.out HLP.out ho7 hb7' rfl rfl
        have HO8 : Hid ((w7.setCell ⟨g, k * 5 + 4, none⟩ (.slice pa7 p.data.length pc7)).ownsRow w.heap.size 5 1 (.slice pa' payload.length pc') payload.length (bv payload)) := Keeps.grown5 hC7.row (hC7.row.stored (k * 5 + 4) _).2 (by decide) _ _ _ _ (owns_below HO.out hb7')
        have HB8 : Hid (Below w.heap.size w (w7.setCell ⟨g, k * 5 + 4, none⟩ (.slice pa7 p.data.length pc7))) := (below_then HB.out hb7' HB.out.size).setCell (p := ⟨g, k * 5 + 4, none⟩) (by show w.heap.size ≤ g; omega) _
        have HR8 := Lib.hid ((heap_setCell_other w7 ⟨g, k * 5 + 4, none⟩ w.heap.size (.slice pa7 p.data.length pc7) (by show w.heap.size ≠ g; omega)).trans (row_on HR0.out hb7'))
        have HZ8 := Lib.hid ((heap_setCell_other w7 ⟨g, k * 5 + 4, none⟩ (w.heap.size + 1) (.slice pa7 p.data.length pc7) (by show w.heap.size + 1 ≠ g; omega)).trans (row_on HZ0.out hb7'))
        have HS8 : Hid (BB ≤ (w7.setCell ⟨g, k * 5 + 4, none⟩ (.slice pa7 p.data.length pc7)).heap.size) := by
          show BB ≤ _
          have h1 := HBS.out
          have h2 := hb7'.size
          simp only [World.setCell, Array.size_modify]
          omega
        clear hC7 hgB hgw ho7 hb7 hb7' c67 c7 f7 c6 cd
        go_wp2_with fail
        go_roundg (props.length - (k + 1))
        case measure => omega
        case rel => exact ⟨k + 1, _, by omega, rfl, by go_num, HC8, HO8, HB8, HR8, HZ8, HS8⟩
    · have hkk : ¬ (k : Int) < (props.length : Int) := by omega
      have HPS := Lib.hid ((HC.out.pso (by omega)).mono (Nat.le_trans (Nat.le_add_right _ 2) HZ5.out))
      clear HC
      go_wp2_with (first
        | (refine wpList_load_row (o := ⟨some 31, .load 34 (.tmp 1), _, _, _, _⟩) (by rfl) 34 (.tmp 1) (by rfl) (w.heap.size) (by rfl) 34 _ (0, 0) _ (HR0).out (Tryz.underlying34) (by rfl) (by kernel_rfl) ?_)
        | (refine wpList_store_row (o := ⟨none, .store 34 (.tmp 2) (.tmp 31), _, _, _, _⟩) (by rfl) 34 (.tmp 2) (.tmp 31) (by rfl) (w.heap.size + 1) _ (by rfl) (by rfl) 34 _ (HZ0).out (by kernel_rfl) (by rfl) (by simp [Value.oneCell']) ?_))
      refine bodyPost_ret (results_cell_row rfl _ _ (w.heap.size + 1) 34 #[.string (str topic), .slice pa' payload.length pc', .int .i64 qos, .bool retain, .string (str src), .int .i64 expires, .slice qa' props.length qc', .int .i64 origin, .int .i64 number, .int .i64 hops] (0, 0) _ rfl (setRow_heap _ (w.heap.size + 1) _ _ _ _ HZ0.out) Tryz.underlying34 rfl (by kernel_rfl)) rfl ?_
      exact HR.out _ _ _ _ _ (owns_typed HO.out HZ0.out (by decide) (grown_setRow _ _ _)) (HPS.out.typed HZ0.out (by decide) (by decide) (grown_setRow _ _ _)) (below_setRow HB.out (by omega) _)
end Go.Proofs.YtgimbocoamnkjaaGreatDoor

/- Items: what they are, how they lie in memory; note.CopyItem, walked. -/
namespace Go.Proofs.YtgimbocoamnkjaaGreatDoor
open Go.RowKit

/-- An item: a message on its way. -/
structure Im where
  note : Nt
  qos : Int
  keep : Bool
  ids : List Int
  share : List UInt8
deriving DecidableEq
/-- Sizes within reach. -/
structure ImB (x : Im) : Prop where
  n : NtB x.note
  i : x.ids.length ≤ 100000
  s : x.share.length ≤ 100000
  q : -9223372036854775808 ≤ x.qos ∧ x.qos ≤ 9223372036854775807
/-- What an item's three slices read as. -/
structure ImC (w : World) (pv qv iv : Value) (x : Im) : Prop where
  p : Bs w pv x.note.payload
  q : Ps w qv x.note.props
  i : Is w iv x.ids
/-- They are rows of the call's own, from block B on. -/
structure ImO (w : World) (B : Nat) (pv qv iv : Value) (x : Im) : Prop where
  p : w.ownsRow B 5 1 pv x.note.payload.length (bv x.note.payload)
  q : PsO w B qv x.note.props
  i : w.ownsRow B 3 1 iv x.ids.length (Go.Proofs.YtgimbocoamnkjaaGreatDoor.iv x.ids)
theorem ImC.below {w w' : World} {pv qv iv : Value} {x : Im} (h : ImC w pv qv iv x) (hb : Below w.heap.size w w') : ImC w' pv qv iv x := ⟨h.p.below hb, h.q.below hb, h.i.below hb⟩
theorem ImC.shape {w : World} {pv qv iv : Value} {x : Im} (h : ImC w pv qv iv x) : (∃ a c, pv = .slice a x.note.payload.length c) ∧ (∃ a c, qv = .slice a x.note.props.length c) ∧ ∃ a c, iv = .slice a x.ids.length c := by
  obtain ⟨a, c, e, _⟩ := h.p
  obtain ⟨a1, c1, e1, _⟩ := h.q
  obtain ⟨a2, c2, e2, _⟩ := h.i
  exact ⟨⟨a, c, e⟩, ⟨a1, c1, e1⟩, a2, c2, e2⟩
theorem ImO.below {w w' : World} {B : Nat} {pv qv iv : Value} {x : Im} (h : ImO w B pv qv iv x) (hb : Below w.heap.size w w') : ImO w' B pv qv iv x := ⟨owns_below h.p hb, h.q.below hb, owns_below h.i hb⟩
theorem ImO.mono {w : World} {B B' : Nat} {pv qv iv : Value} {x : Im} (h : ImO w B pv qv iv x) (hB : B' ≤ B) : ImO w B' pv qv iv x := ⟨owns_mono h.p hB, h.q.mono hB, owns_mono h.i hB⟩
theorem ImO.shape {w : World} {B : Nat} {pv qv iv : Value} {x : Im} (h : ImO w B pv qv iv x) : (∃ a c, pv = .slice a x.note.payload.length c) ∧ (∃ a c, qv = .slice a x.note.props.length c) ∧ ∃ a c, iv = .slice a x.ids.length c :=
  ⟨owns_shape h.p, h.q.shape, owns_shape h.i⟩
theorem ImO.c {w : World} {B : Nat} {pv qv iv : Value} {x : Im} (h : ImO w B pv qv iv x) (hb : ImB x) : ImC w pv qv iv x := by
  obtain ⟨⟨a, c, rfl⟩, ⟨a1, c1, rfl⟩, a2, c2, rfl⟩ := h.shape
  exact ⟨(bs_of_owns h.p).2, h.q.ps hb.n.e, is_of_owns h.i rfl⟩
theorem PsO.safe {M : Nat → Prop} {w : World} {B : Nat} {v : Value} {l : List Pr} (h : PsO w B v l) (hM : ∀ b, M b → b < B) : Safe M w fun x => PsO x B v l := fun M' w' s => by
  obtain ⟨ds, hd, hr, he, ha⟩ := h
  have key : ∀ {e size n : Nat} {v : Value} {xs : List Value}, w.ownsRow B e size v n xs → w'.ownsRow B e size v n xs := fun ho => owns_safe ho (fun k hk hm => by
    have := (ho.lt k hk).1
    have := hM k hm
    omega) M' w' s
  exact ⟨ds, hd, key hr, fun i hi => key (he i hi), ha⟩
/-- What a callee made behind the writable blocks stays. -/
theorem ImO.safe {M : Nat → Prop} {w : World} {B : Nat} {pv qv iv : Value} {x : Im} (h : ImO w B pv qv iv x) (hM : ∀ b, M b → b < B) : Safe M w fun y => ImO y B pv qv iv x := fun M' w' s => by
  have key : ∀ {e size n : Nat} {v : Value} {xs : List Value}, w.ownsRow B e size v n xs → w'.ownsRow B e size v n xs := fun ho => owns_safe ho (fun k hk hm => by
    have := (ho.lt k hk).1
    have := hM k hm
    omega) M' w' s
  exact ⟨key h.p, PsO.safe h.q hM M' w' s, key h.i⟩
theorem ImO.typed {w w' : World} {B K t : Nat} {fr : Nat × Nat} {cs : Array Value} {pv qv iv : Value} {x : Im} (h : ImO w B pv qv iv x) (hK : w.heap[K]? = some (.cells cs t fr)) (h1 : t ≠ 147) (h2 : t ≠ 5) (h3 : t ≠ 3) (hg : w.grownBy w' (some K)) : ImO w' B pv qv iv x :=
  ⟨owns_typed h.p hK h2 hg, h.q.typed hK h1 h2 hg, owns_typed h.i hK h3 hg⟩

/-- The fourteen cells at the head of a block. -/
theorem it14 {w : World} {N t : Nat} {fr : Nat × Nat} {a b c d e f g h i j k l m n : Value} (hN : w.heap[N]? = some (.cells #[a, b, c, d, e, f, g, h, i, j, k, l, m, n] t fr)) :
    (w.cell? ⟨N, 0, none⟩ = some a ∧ w.cell? ⟨N, 1, none⟩ = some b ∧ w.cell? ⟨N, 2, none⟩ = some c ∧ w.cell? ⟨N, 3, none⟩ = some d ∧ w.cell? ⟨N, 4, none⟩ = some e ∧ w.cell? ⟨N, 5, none⟩ = some f ∧ w.cell? ⟨N, 6, none⟩ = some g) ∧ (w.cell? ⟨N, 7, none⟩ = some h ∧ w.cell? ⟨N, 8, none⟩ = some i ∧ w.cell? ⟨N, 9, none⟩ = some j ∧ w.cell? ⟨N, 10, none⟩ = some k ∧ w.cell? ⟨N, 11, none⟩ = some l ∧ w.cell? ⟨N, 12, none⟩ = some m ∧ w.cell? ⟨N, 13, none⟩ = some n) :=
  ⟨⟨cell_of_row w N 0 _ _ _ hN, cell_of_row w N 1 _ _ _ hN, cell_of_row w N 2 _ _ _ hN, cell_of_row w N 3 _ _ _ hN, cell_of_row w N 4 _ _ _ hN, cell_of_row w N 5 _ _ _ hN, cell_of_row w N 6 _ _ _ hN⟩, cell_of_row w N 7 _ _ _ hN, cell_of_row w N 8 _ _ _ hN, cell_of_row w N 9 _ _ _ hN, cell_of_row w N 10 _ _ _ hN, cell_of_row w N 11 _ _ _ hN, cell_of_row w N 12 _ _ _ hN, cell_of_row w N 13 _ _ _ hN⟩

/-- A message and the numbers stored into an item's block. -/
theorem item_put {x : World} {N t : Nat} {o0 o1 o2 o3 o4 o5 o6 o7 o8 o9 o10 o11 o12 o13 : Value} (h : x.heap[N]? = some (.cells #[o0, o1, o2, o3, o4, o5, o6, o7, o8, o9, o10, o11, o12, o13] t (0, 0))) (a0 a1 a2 a3 a4 a5 a6 a7 a8 a9 a12 : Value) :
    (((((((((((x.setCell ⟨N, 0, none⟩ a0).setCell ⟨N, 1, none⟩ a1).setCell ⟨N, 2, none⟩ a2).setCell ⟨N, 3, none⟩ a3).setCell ⟨N, 4, none⟩ a4).setCell ⟨N, 5, none⟩ a5).setCell ⟨N, 6, none⟩ a6).setCell ⟨N, 7, none⟩ a7).setCell ⟨N, 8, none⟩ a8).setCell ⟨N, 9, none⟩ a9).setCell ⟨N, 12, none⟩ a12).heap[N]? = some (.cells #[a0, a1, a2, a3, a4, a5, a6, a7, a8, a9, o10, o11, a12, o13] t (0, 0)) ∧ x.grownBy (((((((((((x.setCell ⟨N, 0, none⟩ a0).setCell ⟨N, 1, none⟩ a1).setCell ⟨N, 2, none⟩ a2).setCell ⟨N, 3, none⟩ a3).setCell ⟨N, 4, none⟩ a4).setCell ⟨N, 5, none⟩ a5).setCell ⟨N, 6, none⟩ a6).setCell ⟨N, 7, none⟩ a7).setCell ⟨N, 8, none⟩ a8).setCell ⟨N, 9, none⟩ a9).setCell ⟨N, 12, none⟩ a12) (some N) := by
  have k0 : _ = some (Obj.cells #[a0, o1, o2, o3, o4, o5, o6, o7, o8, o9, o10, o11, o12, o13] t (0, 0)) := heap_setCell_same _ N 0 _ _ a0 h
  have k1 : _ = some (Obj.cells #[a0, a1, o2, o3, o4, o5, o6, o7, o8, o9, o10, o11, o12, o13] t (0, 0)) := heap_setCell_same _ N 1 _ _ a1 k0
  have k2 : _ = some (Obj.cells #[a0, a1, a2, o3, o4, o5, o6, o7, o8, o9, o10, o11, o12, o13] t (0, 0)) := heap_setCell_same _ N 2 _ _ a2 k1
  have k3 : _ = some (Obj.cells #[a0, a1, a2, a3, o4, o5, o6, o7, o8, o9, o10, o11, o12, o13] t (0, 0)) := heap_setCell_same _ N 3 _ _ a3 k2
  have k4 : _ = some (Obj.cells #[a0, a1, a2, a3, a4, o5, o6, o7, o8, o9, o10, o11, o12, o13] t (0, 0)) := heap_setCell_same _ N 4 _ _ a4 k3
  have k5 : _ = some (Obj.cells #[a0, a1, a2, a3, a4, a5, o6, o7, o8, o9, o10, o11, o12, o13] t (0, 0)) := heap_setCell_same _ N 5 _ _ a5 k4
  have k6 : _ = some (Obj.cells #[a0, a1, a2, a3, a4, a5, a6, o7, o8, o9, o10, o11, o12, o13] t (0, 0)) := heap_setCell_same _ N 6 _ _ a6 k5
  have k7 : _ = some (Obj.cells #[a0, a1, a2, a3, a4, a5, a6, a7, o8, o9, o10, o11, o12, o13] t (0, 0)) := heap_setCell_same _ N 7 _ _ a7 k6
  have k8 : _ = some (Obj.cells #[a0, a1, a2, a3, a4, a5, a6, a7, a8, o9, o10, o11, o12, o13] t (0, 0)) := heap_setCell_same _ N 8 _ _ a8 k7
  have k9 : _ = some (Obj.cells #[a0, a1, a2, a3, a4, a5, a6, a7, a8, a9, o10, o11, o12, o13] t (0, 0)) := heap_setCell_same _ N 9 _ _ a9 k8
  have k12 : _ = some (Obj.cells #[a0, a1, a2, a3, a4, a5, a6, a7, a8, a9, o10, o11, a12, o13] t (0, 0)) := heap_setCell_same _ N 12 _ _ a12 k9
  refine ⟨k12, ?_⟩
  refine grownBy_trans ?_ (grownBy_setCell _ ⟨N, 12, none⟩ a12)
  refine grownBy_trans ?_ (grownBy_setCell _ ⟨N, 9, none⟩ a9)
  refine grownBy_trans ?_ (grownBy_setCell _ ⟨N, 8, none⟩ a8)
  refine grownBy_trans ?_ (grownBy_setCell _ ⟨N, 7, none⟩ a7)
  refine grownBy_trans ?_ (grownBy_setCell _ ⟨N, 6, none⟩ a6)
  refine grownBy_trans ?_ (grownBy_setCell _ ⟨N, 5, none⟩ a5)
  refine grownBy_trans ?_ (grownBy_setCell _ ⟨N, 4, none⟩ a4)
  refine grownBy_trans ?_ (grownBy_setCell _ ⟨N, 3, none⟩ a3)
  refine grownBy_trans ?_ (grownBy_setCell _ ⟨N, 2, none⟩ a2)
  refine grownBy_trans ?_ (grownBy_setCell _ ⟨N, 1, none⟩ a1)
  exact grownBy_setCell _ ⟨N, 0, none⟩ a0

set_option maxRecDepth 100000 in
set_option maxHeartbeats 2000000 in
theorem icopy_any (x : Im) (pv qv ev : Value) (w : World) (hc : ImC w pv qv ev x) (hB : ImB x) (R : Ending → World → Prop)
    (hR : ∀ pa pc qa qc ea ec w', ImO w' w.heap.size (.slice pa x.note.payload.length pc) (.slice qa x.note.props.length qc) (.slice ea x.ids.length ec) x → Below w.heap.size w w' → R (.returned (Value.agg #[.string (str x.note.topic), (.slice pa x.note.payload.length pc), .int .i64 x.note.qos, .bool x.note.retain, .string (str x.note.src), .int .i64 x.note.expires, (.slice qa x.note.props.length qc), .int .i64 x.note.origin, .int .i64 x.note.number, .int .i64 x.note.hops, .int .i64 x.qos, .bool x.keep, (.slice ea x.ids.length ec), .string (str x.share)])) w') :
    Calls Tryz.prog 37 #[(Value.agg #[.string (str x.note.topic), pv, .int .i64 x.note.qos, .bool x.note.retain, .string (str x.note.src), .int .i64 x.note.expires, qv, .int .i64 x.note.origin, .int .i64 x.note.number, .int .i64 x.note.hops, .int .i64 x.qos, .bool x.keep, ev, .string (str x.share)])] w R := by
  have HR := Lib.hid hR
  have HC := Lib.hid hc
  have HBD := Lib.hid hB
  obtain ⟨⟨pa, pc, rfl⟩, ⟨qa, qc, rfl⟩, ea, ec, rfl⟩ := hc.shape
  obtain ⟨⟨topic, payload, nqos, retain, src, expires, props, origin, number, hops⟩, qos, keep, ids, share⟩ := x
  simp only at *
  clear hR hB hc
  obtain ⟨O0, hO0⟩ : ∃ o, (Obj.cells #[.string (str topic), .slice pa payload.length pc, .int .i64 nqos, .bool retain, .string (str src), .int .i64 expires, .slice qa props.length qc, .int .i64 origin, .int .i64 number, .int .i64 hops, .int .i64 qos, .bool keep, .slice ea ids.length ec, .string (str share)] 36) = o := ⟨_, rfl⟩
  have hb1 : Below w.heap.size w ((w.alloc O0).alloc (Obj.cells #[.string ⟨#[]⟩, .slice none 0 0, .int .i64 0, .bool false, .string ⟨#[]⟩, .int .i64 0, .slice none 0 0, .int .i64 0, .int .i64 0, .int .i64 0, .int .i64 0, .bool false, .slice none 0 0, .string ⟨#[]⟩] 36)) := ((Below.refl _ _).alloc (Nat.le_refl _) _).alloc (by simp) _
  have n0 := block_alloc (o' := (Obj.cells #[.string ⟨#[]⟩, .slice none 0 0, .int .i64 0, .bool false, .string ⟨#[]⟩, .int .i64 0, .slice none 0 0, .int .i64 0, .int .i64 0, .int .i64 0, .int .i64 0, .bool false, .slice none 0 0, .string ⟨#[]⟩] 36)) (heap_alloc_new w O0)
  have n1 := heap_alloc_new (w.alloc O0) (Obj.cells #[.string ⟨#[]⟩, .slice none 0 0, .int .i64 0, .bool false, .string ⟨#[]⟩, .int .i64 0, .slice none 0 0, .int .i64 0, .int .i64 0, .int .i64 0, .int .i64 0, .bool false, .slice none 0 0, .string ⟨#[]⟩] 36)
  rw [show (w.alloc O0).heap.size = w.heap.size + 1 by simp] at n1
  have HB1 := Lib.hid hb1
  have N0 := Lib.hid n0
  have N1 := Lib.hid n1
  rw [← hO0] at HB1 N0 N1
  clear hb1 n0 n1 hO0
  have HCB := Lib.hid (HC.out.below HB1.out)
  go_enter Tryz.func37, Tryz.ntmps37
  go_wp2_with fail
  generalize (w.alloc (Obj.cells #[.string (str topic), .slice pa payload.length pc, .int .i64 nqos, .bool retain, .string (str src), .int .i64 expires, .slice qa props.length qc, .int .i64 origin, .int .i64 number, .int .i64 hops, .int .i64 qos, .bool keep, .slice ea ids.length ec, .string (str share)] 36)).alloc (Obj.cells #[.string ⟨#[]⟩, .slice none 0 0, .int .i64 0, .bool false, .string ⟨#[]⟩, .int .i64 0, .slice none 0 0, .int .i64 0, .int .i64 0, .int .i64 0, .int .i64 0, .bool false, .slice none 0 0, .string ⟨#[]⟩] 36) = w1 at HB1 N0 N1 HCB ⊢
  have HSZ : Hid (w.heap.size + 2 ≤ w1.heap.size) := (Array.getElem?_eq_some_iff.1 N1.out).1
  obtain ⟨⟨c0, c1, c2, c3, c4, c5, c6⟩, c7, c8, c9, c10, c11, c12, c13⟩ := it14 (w := w1.drew) N0.out
  have hd1 : Below w1.heap.size w1 w1.drew := (Below.refl _ _).drew
  go_region_law (first
    | (go_simp; go_at_call 101; refine ncopy_any ⟨topic, payload, nqos, retain, src, expires, props, origin, number, hops⟩ _ _ w1.drew (HCB.out.p.below hd1) (HCB.out.q.below hd1) HBD.out.n _ ?_; intro pa3 pc3 qa3 qc3 w3 ho3 hq3 hb3; have hb3' := below_tra hd1 hb3; have r3 := row_on N0.out hb3'; obtain ⟨⟨d0, d1, d2, d3, d4, d5, d6⟩, d7, d8, d9, d10, d11, d12, d13⟩ := it14 r3)
    | (go_simp; go_at_call 102; refine clonei_any _ ids w3 (HCB.out.i.below hb3') (by have := HBD.out.i; simp only at this; omega) _ ?_; intro ea5 ec5 w5 ho5 hb5; have r5 := row_on r3 hb5; obtain ⟨⟨e0, e1, e2, e3, e4, e5, e6⟩, e7, e8, e9, e10, e11, e12, e13⟩ := it14 r5; have f5 := frozen_block r5; have z5 := row_on N1.out (below_tra hb3' hb5)))
  all_goals
    obtain ⟨k7, kg⟩ := item_put r5 (.string (str topic)) (.slice pa3 payload.length pc3) (.int .i64 nqos) (.bool retain) (.string (str src)) (.int .i64 expires) (.slice qa3 props.length qc3) (.int .i64 origin) (.int .i64 number) (.int .i64 hops) (.slice ea5 ids.length ec5)
    have hb5' := below_tra hb3' hb5
    have hz7 := block_grown kg z5 (by simp)
    have ho7 : ImO w5 w1.heap.size (.slice pa3 payload.length pc3) (.slice qa3 props.length qc3) (.slice ea5 ids.length ec5) ⟨⟨topic, payload, nqos, retain, src, expires, props, origin, number, hops⟩, qos, keep, ids, share⟩ := ⟨owns_below ho3 hb5, hq3.below hb5, owns_mono ho5 hb3'.size⟩
    replace ho7 := (ho7.typed r5 (by decide) (by decide) (by decide) kg).mono (B' := w.heap.size) (by have := HSZ.out; omega)
    have hb7 : Below w.heap.size w _ := below_grown (below_then HB1.out hb5' HB1.out.size) kg (Nat.le_trans HB1.out.size hb5'.size) (fun k hk => by cases hk; exact Nat.le_refl _)
    clear kg r5 z5 e0 e1 e2 e3 e4 e5 e6 e7 e8 e9 e10 e11 e12 e13 f5 ho5 hb5 hb5' hb3 hb3' r3 ho3 hq3 d0 d1 d2 d3 d4 d5 d6 d7 d8 d9 d10 d11 d12 d13 c0 c1 c2 c3 c4 c5 c6 c7 c8 c9 c10 c11 c12 c13 hd1
    generalize (((((((((((w5.setCell ⟨w.heap.size, 0, none⟩ (Value.string (str topic))).setCell ⟨w.heap.size, 1, none⟩ (.slice pa3 payload.length pc3)).setCell ⟨w.heap.size, 2, none⟩ (.int .i64 nqos)).setCell ⟨w.heap.size, 3, none⟩ (.bool retain)).setCell ⟨w.heap.size, 4, none⟩ (.string (str src))).setCell ⟨w.heap.size, 5, none⟩ (.int .i64 expires)).setCell ⟨w.heap.size, 6, none⟩ (.slice qa3 props.length qc3)).setCell ⟨w.heap.size, 7, none⟩ (.int .i64 origin)).setCell ⟨w.heap.size, 8, none⟩ (.int .i64 number)).setCell ⟨w.heap.size, 9, none⟩ (.int .i64 hops)).setCell ⟨w.heap.size, 12, none⟩ (.slice ea5 ids.length ec5)) = w7 at k7 hz7 ho7 hb7 ⊢
    have HR7 := Lib.hid k7
    have HZ7 := Lib.hid hz7
    have HO7 := Lib.hid ho7
    have HB7 := Lib.hid hb7
    clear k7 hz7 ho7 hb7
    go_wp2_with (first
      | (refine wpList_load_row (o := ⟨some 11, .load 36 (.tmp 1), _, _, _, _⟩) (by rfl) 36 (.tmp 1) (by rfl) (w.heap.size) (by rfl) 36 _ (0, 0) _ (HR7).out (Tryz.underlying36) (by rfl) (by kernel_rfl) ?_)
      | (refine wpList_store_row (o := ⟨none, .store 36 (.tmp 2) (.tmp 11), _, _, _, _⟩) (by rfl) 36 (.tmp 2) (.tmp 11) (by rfl) (w.heap.size + 1) _ (by rfl) (by rfl) 36 _ (HZ7).out (by kernel_rfl) (by rfl) (by simp [Value.oneCell']) ?_))
    refine bodyPost_ret (results_cell_row rfl _ _ (w.heap.size + 1) 36 #[.string (str topic), .slice pa3 payload.length pc3, .int .i64 nqos, .bool retain, .string (str src), .int .i64 expires, .slice qa3 props.length qc3, .int .i64 origin, .int .i64 number, .int .i64 hops, .int .i64 qos, .bool keep, .slice ea5 ids.length ec5, .string (str share)] (0, 0) _ rfl (setRow_heap _ (w.heap.size + 1) _ _ _ _ HZ7.out) Tryz.underlying36 rfl (by kernel_rfl)) rfl ?_
    exact HR.out _ _ _ _ _ _ _ (HO7.out.typed HZ7.out (by decide) (by decide) (by decide) (grown_setRow _ _ _)) (below_setRow HB7.out (by omega) _)
end Go.Proofs.YtgimbocoamnkjaaGreatDoor


namespace Go.Proofs.YtgimbocoamnkjaaGreatDoor
open Go.RowKit

theorem getU_two (l : List UInt8) (h : 2 ≤ l.length) : getU (l.take 2) < 65536 := by
  match l, h with
  | a :: b :: r, _ =>
    have h1 := a.toNat_lt
    have h2 := b.toNat_lt
    show ((0 * 256 + a.toNat) % 18446744073709551616 * 256 + b.toNat) % 18446744073709551616 < 65536
    omega

/-- The cases of what is read. -/
theorem getDataL_cases (l : List UInt8) : (l.length < 2 ∧ getDataL l = ([], 0, 11)) ∨ ∃ n : Nat, Hid (getU (l.take 2) = n) ∧ n < 65536 ∧ 2 ≤ l.length ∧ ((l.length - 2 < n ∧ getDataL l = ([], 0, 11)) ∨ (2 + n ≤ l.length ∧ getDataL l = ((l.take (2 + n)).drop 2, 2 + (n : Int), 0))) := by
  by_cases h : l.length < 2
  · exact .inl ⟨h, by unfold getDataL; rw [if_pos (.inl h)]⟩
  · refine .inr ⟨_, rfl, getU_two l (by omega), by omega, ?_⟩
    by_cases h2 : l.length - 2 < getU (l.take 2)
    · exact .inl ⟨h2, by unfold getDataL; rw [if_pos (.inr h2)]⟩
    · exact .inr ⟨by omega, by unfold getDataL; rw [if_neg (by omega)]⟩

/-- A middle piece. -/
theorem Bs.mid {w : World} {ad : Option Addr} {n c i j : Nat} {l : List UInt8} (h : Bs w (.slice ad n c) l) (hi : i ≤ j) (hj : j ≤ l.length) :
    Bs w (.slice (ad.map fun a => a.add i) (j - i) (c - i)) ((l.take j).drop i) := by
  obtain ⟨ad', c', e, hr, h1, h2, h3⟩ := h
  simp only [Value.slice.injEq] at e
  obtain ⟨rfl, rfl, rfl⟩ := e
  have hl : ((l.take j).drop i).length = j - i := by rw [List.length_drop, List.length_take]; omega
  refine ⟨_, c - i, by rw [hl], ?_, by omega, by omega, ?_⟩
  · rw [hl]
    refine ⟨by simp [hl], fun h0 => ?_⟩
    obtain ⟨b, o, rfl, hc⟩ := hr.2 (by omega)
    refine ⟨b, o + i, by simp [Addr.add], fun q hq => ?_⟩
    rw [show o + i + q = o + (i + q) by omega, hc (i + q) (by omega)]
    simp only [bv, List.getElem?_map, List.getElem?_drop, List.getElem?_take]
    rw [if_pos (by omega)]
  · intro hn
    cases ad with
    | none => rw [h3 rfl]; omega
    | some a => simp at hn

theorem get_at (v : Value) (l : List UInt8) (n : Nat) (hn : getU l = n) (w : World) (hv : Bs w v l) (R : Ending → World → Prop)
    (hR : R (.returned (.int .u64 n)) w) : Calls Tryz.prog 109 #[v] w R := by
  subst hn
  exact get_any v l w hv R hR
theorem rget_at (v : Value) (l : List UInt8) (n : Nat) (hn : getU l = n) (w : World) (hv : Bs w v l) (R : Ending → World → Prop)
    (hR : R (.returned (.int .u64 n)) w) : Calls Tryz.prog 136 #[v] w R := by
  subst hn
  exact rget_any v l w hv R hR

set_option maxHeartbeats 4000000 in
theorem getdata_any (v : Value) (l D : List UInt8) (u er : Int) (hD : getDataL l = (D, u, er)) (w : World) (hv : Bs w v l) (R : Ending → World → Prop)
    (hR : ∀ ad c w', w'.ownsRow w.heap.size 5 1 (.slice ad D.length c) D.length (bv D) → Below w.heap.size w w' → R (.returned (.tuple #[.slice ad D.length c, .int .i64 u, .int .i64 er])) w') :
    Calls Tryz.prog 112 #[v] w R := by
  have hv' := hv
  obtain ⟨ad, c, rfl, hr, hc, hm, hnil⟩ := hv'
  rcases getDataL_cases l with ⟨h, e⟩ | ⟨n, hn, hn2, hl2, ⟨h, e⟩ | ⟨h, e⟩⟩
  · rw [hD] at e
    simp only [Prod.mk.injEq] at e
    obtain ⟨rfl, rfl, rfl⟩ := e
    clear hD
    go_enter Tryz.func112, Tryz.ntmps112
    go_wp2
    go_ret3
    exact hR _ _ _ (World.ownsRow_nil _ _ _ _) (Below.refl _ _)
  · rw [hD] at e
    simp only [Prod.mk.injEq] at e
    obtain ⟨rfl, rfl, rfl⟩ := e
    clear hD
    have hb := hv.cut (k := 2) hl2
    have hx : ((l.length : Int) - 2 < (n : Int)) := by omega
    go_enter Tryz.func112, Tryz.ntmps112
    go_wp2_with (go_at_call 109; go_must (refine get_at _ _ n hn.out _ hb _ ?_))
    go_wp2
    go_ret3
    exact hR _ _ _ (World.ownsRow_nil _ _ _ _) (Below.refl _ _)
  · rw [hD] at e
    simp only [Prod.mk.injEq] at e
    obtain ⟨e1, rfl, rfl⟩ := e
    have hDl : D.length = n := by rw [e1, List.length_drop, List.length_take]; omega
    have HF : Hid ([D].flatten = D) := by simp [Hid]
    have hb := hv.cut (k := 2) hl2
    obtain ⟨b, o, rfl, hcell⟩ := hr.byteAt (by omega)
    clear hcell hr
    have hb2 := hv.mid (i := 2) (j := 2 + n) (by omega) h
    rw [show 2 + n - 2 = n by omega] at hb2
    rw [← e1] at hb2
    simp only [Option.map_some, Addr.add] at hb2
    clear hD e1
    have hx : ¬ ((l.length : Int) - 2 < (n : Int)) := by omega
    rw [hDl] at hR
    have hc0 : c - 2 ≤ 9223372036854775807 := by omega
    have hlit : ∀ (ad' : Option Addr) (c' : Nat), Bs w (.slice ad' n c') D → Bss (w.alloc (.cells #[.slice ad' n c'] 22)) (.slice (some ⟨w.heap.size, 0, none⟩) 1 1) [D] := fun ad' c' hq => bss_lit1 hq
    by_cases hc2 : c = 2
    · subst hc2
      obtain rfl : n = 0 := by omega
      have hb3 : Bs w (.slice (some ⟨b, o, none⟩) 0 0) D := by
        obtain rfl : D = [] := List.eq_nil_of_length_eq_zero hDl
        exact ⟨_, 0, rfl, Rd.nil _ _ _, by simp, by omega, fun h => by cases h⟩
      have hB := hlit _ _ hb3
      clear hlit hb2
      go_enter Tryz.func112, Tryz.ntmps112
      go_wp2_with (go_at_call 109; go_must (refine get_at _ _ _ hn.out _ hb _ ?_))
      go_wp2_with (go_at_call 109; go_must (refine get_at _ _ _ hn.out _ hb _ ?_))
      go_wp2_with (go_at_call 55; go_must (refine join_any _ _ D HF.out _ hB (by omega) _ ?_))
      intro ad3 c3 w3 hown3 hb3'
      have hown4 := owns_mono (base' := w.heap.size) hown3 (by simp)
      have hb4 := below_then ((Below.refl w.heap.size w).alloc (Nat.le_refl _) _) hb3' (by simp)
      clear hb hB hb3 hn hown3 hb3'
      go_wp2
      go_ret3
      exact hR _ _ _ hown4 hb4
    · have hB := hlit _ _ hb2
      clear hlit hb2
      go_enter Tryz.func112, Tryz.ntmps112
      go_wp2_with (go_at_call 109; go_must (refine get_at _ _ n hn.out _ hb _ ?_))
      go_wp2_with (go_at_call 109; go_must (refine get_at _ _ n hn.out _ hb _ ?_))
      go_wp2_with (go_at_call 55; go_must (refine join_any _ _ D HF.out _ hB (by omega) _ ?_))
      intro ad3 c3 w3 hown3 hb3'
      have hown4 := owns_mono (base' := w.heap.size) hown3 (by simp)
      have hb4 := below_then ((Below.refl w.heap.size w).alloc (Nat.le_refl _) _) hb3' (by simp)
      clear hb hB hn hown3 hb3'
      go_wp2
      go_ret3
      exact hR _ _ _ hown4 hb4
theorem getDataL_len (l D : List UInt8) (u er : Int) (h : getDataL l = (D, u, er)) : D.length ≤ 65535 := by
  rcases getDataL_cases l with ⟨_, e⟩ | ⟨n, hn, hn2, hl2, ⟨_, e⟩ | ⟨h2, e⟩⟩
  · rw [h] at e; simp only [Prod.mk.injEq] at e; rw [e.1]; simp
  · rw [h] at e; simp only [Prod.mk.injEq] at e; rw [e.1]; simp
  · rw [h] at e; simp only [Prod.mk.injEq] at e; rw [e.1, List.length_drop, List.length_take]; omega

/-- What is read of a text with its length ahead. -/
def getTextL (l : List UInt8) : List UInt8 × Int × Int :=
  if (getDataL l).2.2 ≠ 0 then ([], 0, (getDataL l).2.2) else if isTextL (getDataL l).1 then ((getDataL l).1, (getDataL l).2.1, 0) else ([], 0, 13)

set_option maxHeartbeats 1600000 in
theorem gettext_any (v : Value) (l S : List UInt8) (u er : Int) (hD : getTextL l = (S, u, er)) (w : World) (hv : Bs w v l) (hT : Tabs w) (R : Ending → World → Prop)
    (hR : ∀ w', Below w.heap.size w w' → R (.returned (.tuple #[.string (str S), .int .i64 u, .int .i64 er])) w') :
    Calls Tryz.prog 108 #[v] w R := by
  have hv' := hv
  obtain ⟨ad, c, rfl, hr, hc, hm, hnil⟩ := hv'
  clear hr
  obtain ⟨⟨d, u1, e1⟩, hg⟩ : ∃ g, getDataL l = g := ⟨_, rfl⟩
  have hdl := getDataL_len _ _ _ _ hg
  have HG := Lib.hid hg
  unfold getTextL at hD
  rw [hg] at hD
  simp only at hD
  clear hg
  by_cases he : e1 = 0
  · subst he
    rw [if_neg (by simp)] at hD
    obtain ⟨t, ht⟩ : ∃ t, isTextL d = t := ⟨_, rfl⟩
    rw [ht] at hD
    have HT := Lib.hid ht
    clear ht
    cases t with
    | false =>
      simp only [Bool.false_eq_true, if_false, Prod.mk.injEq] at hD
      obtain ⟨rfl, rfl, rfl⟩ := hD
      go_enter Tryz.func108, Tryz.ntmps108
      go_wp2_with (go_at_call 112; go_must (refine getdata_any _ l d u1 0 HG.out _ hv _ ?_))
      intro ad1 c1 w1 hown1 hb1
      have hbs := (bs_of_owns hown1).2
      have hcv := run_conv_bs (P := Tryz.prog) Tryz.underlying22 Tryz.underlying5 Tryz.underlying9 hbs
      have hT1 := hT.below hb1
      clear hown1 hv hbs
      go_wp2_with (go_at_call 117; go_must (refine istext_any d _ (by omega) hT1 _ ?_))
      rw [HT.out]
      intro w2 hb2
      have hb3 := below_then hb1 hb2 hb1.size
      clear hb2 hb1 hcv hT hT1
      go_wp2
      go_ret3
      exact hR _ hb3
    | true =>
      simp only [if_true, Prod.mk.injEq] at hD
      obtain ⟨rfl, rfl, rfl⟩ := hD
      go_enter Tryz.func108, Tryz.ntmps108
      go_wp2_with (go_at_call 112; go_must (refine getdata_any _ l d u1 0 HG.out _ hv _ ?_))
      intro ad1 c1 w1 hown1 hb1
      have hbs := (bs_of_owns hown1).2
      have hcv := run_conv_bs (P := Tryz.prog) Tryz.underlying22 Tryz.underlying5 Tryz.underlying9 hbs
      have hT1 := hT.below hb1
      clear hown1 hv
      go_wp2_with (go_at_call 117; go_must (refine istext_any d _ (by omega) hT1 _ ?_))
      rw [HT.out]
      intro w2 hb2
      have hb3 := below_then hb1 hb2 hb1.size
      have hcv2 := run_conv_bs (P := Tryz.prog) Tryz.underlying22 Tryz.underlying5 Tryz.underlying9 (hbs.below hb2)
      clear hb2 hb1 hT hT1 hbs hcv
      go_wp2
      go_ret3
      exact hR _ hb3
  · rw [if_pos he] at hD
    simp only [Prod.mk.injEq] at hD
    obtain ⟨rfl, rfl, rfl⟩ := hD
    have hne : ((e1 : Int) == 0) = false := by simpa using he
    go_enter Tryz.func108, Tryz.ntmps108
    go_wp2_with (go_at_call 112; go_must (refine getdata_any _ l d u1 e1 HG.out _ hv _ ?_))
    intro ad1 c1 w1 hown1 hb1
    clear hown1 hv
    go_wp2
    go_ret3
    exact hR _ hb1
end Go.Proofs.YtgimbocoamnkjaaGreatDoor
