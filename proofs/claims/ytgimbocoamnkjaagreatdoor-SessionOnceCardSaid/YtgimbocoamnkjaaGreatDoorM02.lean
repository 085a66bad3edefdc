/- From what the form says of an argument to what the walks ask; and back: whatever was there reads as it did. -/
import Derived.Test.YtgimbocoamnkjaaGreatDoorRows
import Derived.Test.YtgimbocoamnkjaaGreatDoorM01
import Derived.ProofKit
import Derived.Deep.Slices
import Derived.SizedLaws
import Derived.ChangeMaps5
import Derived.Test.YtgimbocoamnkjaaGreatDoorProg
import Derived.Shelf.Unicode.ValidAny
import Derived.Lib.ValidU
import Derived.Lib.TrimUEq
import Derived.Lib.MapLaws
import Derived.Test.YtgimbocoamnkjaaGreatDoorCards
import Derived.Test.YtgimbocoamnkjaaGreatDoorTie
import Derived.Lib.LaidIn
import Derived.Lib.LaidU8T
import Derived.Deep.DeepHandedRow
import Derived.Deep.DeepWitnessRowRef
import Derived.PinnedBridge
namespace Go.Proofs.YtgimbocoamnkjaaGreatDoor
open Go.ChangeShapes Go.WideShapes Go.ChangeAt Go.RowKit

theorem trodAll_five {H : Type} {enc : TypeId × Value → H} {P : Program} {w : World} {base : Nat} {spare : Nat → Bool} {held : Bool} {t0 t1 t2 t3 t4 : TypeId} {args : Array Value} {ds : List (DataW H)} {ps : List MemPlace} (h : DataW.TrodAll enc P w base spare held [t0, t1, t2, t3, t4] args.toList ds ps) :
    ∃ v0 v1 v2 v3 v4 d0 d1 d2 d3 d4 p0 p1 p2 p3 p4, args = #[v0, v1, v2, v3, v4] ∧ ds = [d0, d1, d2, d3, d4] ∧ ps = p0 ++ (p1 ++ (p2 ++ (p3 ++ p4))) ∧ DataW.Trod enc P w base spare held t0 v0 d0 p0 ∧ DataW.Trod enc P w base spare held t1 v1 d1 p1 ∧ DataW.Trod enc P w base spare held t2 v2 d2 p2 ∧ DataW.Trod enc P w base spare held t3 v3 d3 p3 ∧ DataW.Trod enc P w base spare held t4 v4 d4 p4 := by
  obtain ⟨v0, vs, d0, ds, p0, q, hargs, rfl, rfl, h0, h⟩ := trodAll_cons h
  obtain ⟨v1, vs, d1, ds, p1, q, rfl, rfl, rfl, h1, h⟩ := trodAll_cons h
  obtain ⟨v2, vs, d2, ds, p2, q, rfl, rfl, rfl, h2, h⟩ := trodAll_cons h
  obtain ⟨v3, vs, d3, ds, p3, q, rfl, rfl, rfl, h3, h⟩ := trodAll_cons h
  obtain ⟨v4, vs, d4, ds, p4, q, rfl, rfl, rfl, h4, h⟩ := trodAll_cons h
  obtain ⟨rfl, rfl, rfl⟩ := trodAll_nil h
  exact ⟨v0, v1, v2, v3, v4, d0, d1, d2, d3, d4, p0, p1, p2, p3, p4, by cases args; simp_all, rfl, by simp, h0, h1, h2, h3, h4⟩

theorem nat_of_u64 {n : Int} (h : (Lit.int .u64 n).wf = true) : ∃ x : Nat, n = (x : Int) ∧ x < 18446744073709551616 := by
  simp [Lit.wf, IntKind.min, IntKind.max, IntKind.signed, IntKind.bits] at h
  exact ⟨n.toNat, by omega, by omega⟩

theorem str_of (s : ByteArray) : ∃ l : List UInt8, s = str l ∧ l.length = s.size := ⟨s.data.toList, by apply ByteArray.ext; simp, rfl⟩

/-- All arguments read behind the call as they read before, where nothing that was there has turned. -/
theorem trodAll_below {H : Type} {enc : TypeId × Value → H} {P : Program} (hl : laidOutB P = true) {W W' : World} (hb : Below W.heap.size W W') :
    ∀ (ts : List TypeId) (vs : List Value) (ds : List (DataW H)) (ps : List MemPlace), (∀ t ∈ ts, P.readableRec t = true ∧ t < P.types.size) →
      DataW.TrodAll enc P W 0 (fun _ => true) true ts vs ds ps → (∀ x ∈ ps, x.block < W.heap.size) → DataW.TrodAll enc P W' 0 (fun b => decide (b < W.heap.size)) true ts vs ds ps
  | [], [], [], _, _, h, _ => h
  | t :: ts, v :: vs, d :: ds, ps, ht, h, hlt => by
    obtain ⟨p, q, h1, h2, rfl⟩ := h
    refine ⟨p, q, ?_, trodAll_below hl hb ts vs ds q (fun t' h' => ht t' (List.mem_cons_of_mem _ h')) h2 (fun x hx => hlt x (List.mem_append_right _ hx)), rfl⟩
    have := ht t List.mem_cons_self
    exact Below.trod hl this.1 this.2 h1 hb (fun x hx => hlt x (List.mem_append_left _ hx))
  | [], _ :: _, _, _, _, h, _ => by cases h
  | [], [], _ :: _, _, _, h, _ => by cases h
  | _ :: _, [], _, _, _, h, _ => by cases h
  | _ :: _, _ :: _, [], _, _, h, _ => by cases h

/-- Bytes, as numbers that fit. -/
theorem bytes_of (zs : List Int) (h : ∀ n ∈ zs, (Lit.int .u8 n).wf = true) : ∃ b : List UInt8, zs = b.map fun x => (x.toNat : Int) := by
  refine ⟨zs.map fun z => b8 z, ?_⟩
  rw [List.map_map]
  conv => lhs; rw [← List.map_id zs]
  refine List.map_congr_left fun z hz => ?_
  have hw := h z hz
  simp [Lit.wf, IntKind.min, IntKind.max, IntKind.signed, IntKind.bits] at hw
  have := b8_toNat z
  simp only [id_eq, Function.comp_apply]
  omega

theorem bulk_one {H : Type} (d : DataW H) : 1 ≤ Rows.uptoBulk d := by
  cases d with
  | lit l => cases l <;> simp [Rows.uptoBulk]
  | nil => simp [Rows.uptoBulk]
  | ptr d => simp [Rows.uptoBulk]
  | slice elems spare => simp [Rows.uptoBulk]
  | agg parts => simp [Rows.uptoBulk]
  | iface t d => simp [Rows.uptoBulk]
  | map entries => simp [Rows.uptoBulk]
  | held h => simp [Rows.uptoBulk]
theorem bulk_len {H : Type} (l : List (DataW H)) : l.length ≤ Rows.uptoBulkAll l := by
  induction l with
  | nil => simp
  | cons x r ih =>
    have := bulk_one x
    simp only [Rows.uptoBulkAll, List.length_cons]
    omega
theorem bulk_mem {H : Type} {d : DataW H} {l : List (DataW H)} (h : d ∈ l) : Rows.uptoBulk d ≤ Rows.uptoBulkAll l := by
  induction l with
  | nil => cases h
  | cons x r ih =>
    simp only [Rows.uptoBulkAll]
    cases List.mem_cons.1 h with
    | inl e => subst e; omega
    | inr e => have := ih e; omega

/-- An address at which a cell lies is a plain one. -/
theorem plain_addr {W : World} {a : Addr} {v : Value} (h : W.cell? (a.add 0) = some v) : a = ⟨a.block, a.off, none⟩ := by
  have e0 : a.add 0 = a := rfl
  rw [e0] at h
  cases a with
  | mk bl of sp =>
    cases sp with
    | none => rfl
    | some s => simp [World.cell?] at h; split at h <;> simp at h

/-- A slice of bytes that came in, in one cell. -/
theorem open_bs1 {H : Type} {enc : TypeId × Value → H} {P : Program} {W : World} {base fuel : Nat} {spare : Nat → Bool} {held : Bool} {t e : TypeId} {v : Value} {d : DataW H} {p : List MemPlace} (ht : P.underlying t = some (.slice e)) (he : P.underlying e = some (.int .u8)) (hc : P.cellsOf e = 1)
    (hf : DataW.trod enc P W base spare held fuel t [v] = some (d, p)) (hsp : ∀ b, spare b = true) : ∃ b : List UInt8, Bs W v b ∧ b.length + 1 ≤ Rows.uptoBulk d := by
  rcases open_ints ht he hc hf with ⟨hcs, hx⟩ | ⟨a, len, cap, zs, hcs, _, hl, hm, hz, hx, hcell, hwz⟩
  · simp only [List.cons.injEq, and_true] at hcs
    subst hcs
    exact ⟨[], ⟨none, 0, rfl, Rd.nil _ _ _, Nat.le_refl _, by omega, fun _ => rfl⟩, by have := bulk_one d; simpa using this⟩
  · simp only [List.cons.injEq, and_true] at hcs
    subst hcs
    rw [hsp] at hz
    simp only [if_true] at hz
    obtain ⟨b, rfl⟩ := bytes_of zs hwz
    rw [List.length_map] at hz
    unfold maxLen at hm
    have hlen : (b.take len).length = len := by rw [List.length_take]; omega
    refine ⟨b.take len, ⟨some a, cap, by rw [hlen], ⟨by simp, fun hn => ?_⟩, by rw [hlen]; exact hl, by omega, fun h => by cases h⟩, ?_⟩
    · rw [hlen] at hn ⊢
      have hspot := plain_addr (hcell 0 (by rw [List.length_map]; omega))
      refine ⟨a.block, a.off, by rw [← hspot], fun j hj => ?_⟩
      have hj2 := hcell j (by rw [List.length_map]; omega)
      have e1 : a.add j = ⟨a.block, a.off + j, none⟩ := by
        conv => lhs; rw [hspot]
        rw [Addr.add_lit]
      rw [e1] at hj2
      rw [hj2, bv_getElem _ j (by omega)]
      simp [List.getD, show j < b.length by omega]
    · simp only [Prod.mk.injEq] at hx
      rw [hx.1, hlen]
      have h2 := bulk_len (lits .u8 ((b.map fun x => (x.toNat : Int)).take len) : List (DataW H))
      have h3 : (lits .u8 ((b.map fun x => (x.toNat : Int)).take len) : List (DataW H)).length = len := by
        simp only [lits, List.length_map, List.length_take]; omega
      simp only [Rows.uptoBulk]
      omega

/-- A slice of bytes that came in, whatever it is. -/
theorem open_bs {H : Type} {enc : TypeId × Value → H} {P : Program} {W : World} {base : Nat} {spare : Nat → Bool} {held : Bool} {t e : TypeId} {v : Value} {d : DataW H} {p : List MemPlace} (ht : P.underlying t = some (.slice e)) (he : P.underlying e = some (.int .u8)) (hc : P.cellsOf e = 1)
    (h : DataW.Trod enc P W base spare held t v d p) (hs : ∃ a len cap, v = .slice a len cap) (hsp : ∀ b, spare b = true) : ∃ b : List UInt8, Bs W v b ∧ b.length + 1 ≤ Rows.uptoBulk d := by
  obtain ⟨a0, l0, c0, rfl⟩ := hs
  obtain ⟨fuel, hf⟩ := h
  exact open_bs1 ht he hc hf hsp

/-- Rows of bytes that came in. -/
theorem open_bss {H : Type} {enc : TypeId × Value → H} {P : Program} {W : World} {base : Nat} {spare : Nat → Bool} {held : Bool} {t e u : TypeId} {v : Value} {d : DataW H} {p : List MemPlace} (ht : P.underlying t = some (.slice e)) (he : P.underlying e = some (.slice u)) (hc : P.cellsOf e = 1) (hu : P.underlying u = some (.int .u8)) (hcu : P.cellsOf u = 1)
    (h : DataW.Trod enc P W base spare held t v d p) (hs : ∃ a len cap, v = .slice a len cap) (hsp : ∀ b, spare b = true) : ∃ ls : List (List UInt8), Bss W v ls ∧ ls.length + 1 ≤ Rows.uptoBulk d ∧ ∀ l ∈ ls, l.length + 1 ≤ Rows.uptoBulk d := by
  obtain ⟨a0, l0, c0, rfl⟩ := hs
  obtain ⟨fuel, hf⟩ := h
  rcases Go.Deep.open_slice1 ht hc hf with ⟨hcs, hx⟩ | ⟨a, len, cap, m, n, V, D, Pl, hcs, _, hl, hm, hmm, hx, hcell⟩
  · simp only [Value.cells, List.cons.injEq, and_true, Value.slice.injEq] at hcs
    obtain ⟨rfl, rfl, rfl⟩ := hcs
    exact ⟨[], ⟨none, 0, [], rfl, Rd.nil _ _ _, Nat.le_refl _, by omega, (fun _ => rfl), fun i hi => by simp at hi⟩, by have := bulk_one d; simpa using this, fun l hl => by simp at hl⟩
  · simp only [Value.cells, List.cons.injEq, and_true, Value.slice.injEq] at hcs
    obtain ⟨rfl, rfl, rfl⟩ := hcs
    rw [hsp] at hmm
    simp only [if_true] at hmm
    unfold maxLen at hm
    obtain ⟨f, hfb⟩ := Go.Deep.choose_lt (n := m) (p := fun i b => Bs W (V i) b ∧ b.length + 1 ≤ Rows.uptoBulk (D i)) (fun i hi => open_bs1 he hu hcu (hcell i hi).2 hsp)
    have hll : ((List.range l0).map f).length = l0 := by simp
    simp only [Prod.mk.injEq] at hx
    have hbk : ∀ i, i < l0 → Rows.uptoBulk (D i) + 1 ≤ Rows.uptoBulk d := by
      intro i hi
      rw [hx.1]
      have := bulk_mem (show D i ∈ (List.range l0).map D from List.mem_map.2 ⟨i, List.mem_range.2 hi, rfl⟩)
      simp only [Rows.uptoBulk]
      omega
    refine ⟨(List.range l0).map f, ⟨some a, c0, (List.range l0).map V, by rw [hll], ⟨by simp, fun hn => ?_⟩, by rw [hll]; exact hl, by omega, (fun h => by cases h), fun i hi => ?_⟩, ?_, ?_⟩
    · rw [hll] at hn ⊢
      have hspot := plain_addr (hcell 0 (by omega)).1
      refine ⟨a.block, a.off, by rw [← hspot], fun j hj => ?_⟩
      have hj2 := (hcell j (by omega)).1
      have e1 : a.add j = ⟨a.block, a.off + j, none⟩ := by
        conv => lhs; rw [hspot]
        rw [Addr.add_lit]
      rw [e1] at hj2
      rw [hj2]
      simp [show j < l0 by omega]
    · rw [hll] at hi
      refine ⟨V i, by simp [hi], ?_⟩
      have := (hfb i (by omega)).1
      simpa using this
    · rw [hll, hx.1]
      have := bulk_len ((List.range l0).map D)
      simp only [List.length_map, List.length_range] at this
      simp only [Rows.uptoBulk]
      omega
    · intro l hl2
      obtain ⟨i, hi, rfl⟩ := List.mem_map.1 hl2
      have hi' := List.mem_range.1 hi
      have h1 := (hfb i (by omega)).2
      have h2 := hbk i hi'
      omega

end Go.Proofs.YtgimbocoamnkjaaGreatDoor

/- Plain layings of the library's contracts at this translation: which number each function, type and variable has here; each fact is closed. Printed by program. -/
namespace Go.Proofs.YtgimbocoamnkjaaGreatDoor
open Go.Shelf

def Tryz.lays196_ren : Go.Shelf.Ren := ⟨fun | 196 => 154 | 259 => 170 | n => n, fun | 9 => 9 | 4 => 4 | 3 => 3 | 5 => 5 | 12 => 12 | 119 => 207 | 0 => 0 | 46 => 138 | 139 => 210 | 138 => 209 | 53 => 117 | n => n, fun | 3 => 0 | 4 => 1 | n => n⟩
theorem Tryz.lays196 : Go.Proofs.Lays.n196 Tryz.prog Tryz.lays196_ren :=
  { mixed := by kernel_rfl,
    f196 := Tryz.func154.trans (congrArg some (by kernel_rfl)),
    f259 := Tryz.func170.trans (congrArg some (by kernel_rfl)),
    t0 := Tryz.underlying0,
    a0 := Tryz.isAgg0,
    z0 := Tryz.sizeOf0,
    v0 := Tryz.zeroValue0,
    t3 := Tryz.underlying3,
    a3 := Tryz.isAgg3,
    z3 := Tryz.sizeOf3,
    v3 := Tryz.zeroValue3,
    t4 := Tryz.underlying4,
    a4 := Tryz.isAgg4,
    z4 := Tryz.sizeOf4,
    v4 := Tryz.zeroValue4,
    t5 := Tryz.underlying5,
    a5 := Tryz.isAgg5,
    z5 := Tryz.sizeOf5,
    v5 := Tryz.zeroValue5,
    t9 := Tryz.underlying9,
    a9 := Tryz.isAgg9,
    z9 := Tryz.sizeOf9,
    v9 := Tryz.zeroValue9,
    t12 := Tryz.underlying12,
    a12 := Tryz.isAgg12,
    z12 := Tryz.sizeOf12,
    v12 := Tryz.zeroValue12,
    t46 := Tryz.underlying138,
    a46 := Tryz.isAgg138,
    z46 := Tryz.sizeOf138,
    v46 := Tryz.zeroValue138,
    t53 := Tryz.underlying117,
    a53 := Tryz.isAgg117,
    z53 := Tryz.sizeOf117,
    v53 := Tryz.zeroValue117,
    t119 := Tryz.underlying207,
    a119 := Tryz.isAgg207,
    z119 := Tryz.sizeOf207,
    t138 := Tryz.underlying209,
    a138 := Tryz.isAgg209,
    z138 := Tryz.sizeOf209,
    v138 := Tryz.zeroValue209,
    t139 := Tryz.underlying210,
    a139 := Tryz.isAgg210,
    z139 := Tryz.sizeOf210,
    v139 := Tryz.zeroValue210,
    g3 := by kernel_rfl,
    g4 := by kernel_rfl }

end Go.Proofs.YtgimbocoamnkjaaGreatDoor


namespace Go.Proofs.YtgimbocoamnkjaaGreatDoor
open Go.RowKit
def Tabs (w : World) : Prop := Lib.Utf8Tabs 0 1 w
theorem Tabs.below {w w' : World} (h : Tabs w) (hb : Below w.heap.size w w') : Tabs w' := Utf8Tabs_below h hb
theorem valid_any (l : List UInt8) (w : World) (hl : l.length ≤ 9223372036854775807) (hT : Tabs w) (R : Ending → World → Prop)
    (hR : ∀ w', Below w.heap.size w w' → R (.returned (.bool (Lib.validD l))) w') : Calls Tryz.prog 154 #[.string (str l)] w R := by
  have h : Calls Tryz.prog 154 #[.string (str l)] w _ := Any.utf8_ValidString Tryz.lays196 (str l) w hl hT
  refine h.mono fun e w' he => ?_
  obtain ⟨rfl, hb⟩ := he
  exact hR w' hb
end Go.Proofs.YtgimbocoamnkjaaGreatDoor

/- What all claims of this seat have in common: the tables of the library at the call, the witness's world. -/
namespace Go.Proofs.YtgimbocoamnkjaaGreatDoor
open Go.Shelf Go.ChangeShapes Go.WideShapes Go.ChangeAt Go.RowKit Go.Lib

theorem own : ownKnob Tryz.prog.godebug = none := by kernel_rfl

/-- A world for the witness: the settled one, the two tables holding what their initialisers lay. -/
noncomputable def laidWorld (os : Os) : World :=
  let w0 := World.holding Tryz.prog os ⟨#[], #[], []⟩
  let put (h : Array Obj) (g : Nat) (cs : Array Value) : Array Obj := h.modify g fun
    | .cells _ t frozen => .cells cs t frozen
    | o => o
  let h1 := put w0.heap 0 (Lib.firstTab.map fun z => Value.int .u8 z).toArray
  let h2 := put h1 1 ((List.range 16).flatMap fun i => [Value.int .u8 (Lib.accLo i), Value.int .u8 (Lib.accHi i)]).toArray
  { w0 with heap := h2 }

abbrev laidList : List (String × DataW Unit) := [("unicode/utf8.acceptRanges", Rows.laid_unicode_utf8_acceptRanges), ("unicode/utf8.first", Rows.laid_unicode_utf8_first)]

theorem laid_met (os : Os) (args : Array Value) : laidMet Tryz.prog laidList ((laidWorld os).forCall (fun _ _ => 0) ⟨#[], args, []⟩).memory :=
  (LaidIn.of_run (l := laidList) [0, 1] 8 (by kernel_rfl) (by kernel_rfl) (by kernel_rfl) (by kernel_rfl)).met

theorem accept_eq : (Rows.laid_unicode_utf8_acceptRanges : DataW Unit) = acceptData := by kernel_rfl
theorem first_eq : Rows.laid_unicode_utf8_first = firstData := Pinned.utf8First_eq

theorem tabs_of {W : World} (hL : laidMet Tryz.prog laidList W) : Tabs W :=
  utf8Tabs_of_readsT (U8Types.of196 Tryz.lays196) ⟨by kernel_rfl, by kernel_rfl, by kernel_rfl, by kernel_rfl, by kernel_rfl, by kernel_rfl, by kernel_rfl⟩
    (Lib.laidMet.reads hL (.tail _ (by rw [← first_eq]; exact .head _))) (Lib.laidMet.reads hL (by rw [← accept_eq]; exact .head _))

end Go.Proofs.YtgimbocoamnkjaaGreatDoor


namespace Go.Proofs.YtgimbocoamnkjaaGreatDoor
open Go.RowKit

theorem Tryz.info5 : (Tryz.prog.info? 5).map (fun i => (i.zero, i.size, i.bytes)) = some (some (.int .u8 0), 1, 1) := by kernel_rfl
set_option maxHeartbeats 400000 in
theorem cut_any (v : Value) (l C : List UInt8) (n : Int) (hC : l.take n.toNat = C) (w : World) (hv : Bs w v l) (h0 : 0 ≤ n) (R : Ending → World → Prop)
    (hR : ∀ ad c, Bs w (.slice ad C.length c) C → R (.returned (.slice ad C.length c)) w) :
    Calls Tryz.prog 30 #[v, .int .i64 n] w R := by
  subst hC
  have hv' := hv
  obtain ⟨ad, c, rfl, hr, hc, hm, hnil⟩ := hv'
  clear hr
  go_enter Tryz.func30, Tryz.ntmps30
  by_cases hlt : n < l.length
  · have hB := hv.cut (k := n.toNat) (by omega)
    go_wp2
    have e : (l.take n.toNat).length = n.toNat := by rw [List.length_take]; omega
    have := hR ad c
    rw [e] at this
    exact this hB
  · have hB : l.take n.toNat = l := List.take_of_length_le (by omega)
    go_wp2
    have := hR ad c
    rw [hB] at this
    exact this hv


set_option maxHeartbeats 400000 in
theorem same_any (v u : Value) (l m : List UInt8) (w : World) (hv : Bs w v l) (hu : Bs w u m) (R : Ending → World → Prop)
    (hR : R (.returned (.bool (l == m))) w) :
    Calls Tryz.prog 22 #[v, u] w R := by
  have h1 := run_conv_bs (P := Tryz.prog) Tryz.underlying22 Tryz.underlying5 Tryz.underlying9 hv
  have h2 := run_conv_bs (P := Tryz.prog) Tryz.underlying22 Tryz.underlying5 Tryz.underlying9 hu
  clear hv hu
  go_enter Tryz.func22, Tryz.ntmps22
  go_wp2
  exact hR

set_option maxHeartbeats 400000 in
theorem twin_any (v : Value) (l : List UInt8) (w : World) (hv : Bs w v l) (hl : l.length ≤ 140737488355328) (R : Ending → World → Prop)
    (hR : ∀ ad c w', w'.ownsRow w.heap.size 5 1 (.slice ad l.length c) l.length (bv l) → Below w.heap.size w w' → R (.returned (.slice ad l.length c)) w') :
    Calls Tryz.prog 31 #[v] w R := by
  obtain ⟨ad, c, rfl, hr, h1, h2, h3⟩ := hv
  have hown : w.ownsRow w.heap.size 5 1 (.slice none 0 0) 0 (bv []) := World.ownsRow_nil _ _ _ _
  go_enter Tryz.func31, Tryz.ntmps31
  go_wp2_with (at_builtin; go_must (refine wpList_app (by rfl) (.tmp 4) (.tmp 5) 22 (by rfl) w.heap.size 5 (.int .u8 0) 1 1 Tryz.underlying22 Tryz.info5 rfl (by decide) _ _ _ _ rfl hown _ _ _ _ rfl hr (bv_oneCell _) h3 (by unfold maxLen; omega) (by omega) (Nat.le_refl _) ?_))
  intro ad3 c3 w3 hown3 hg3
  have hb3 := below_app (Below.refl _ _) hg3 (Nat.le_refl _) hown
  go_wp2
  exact hR _ _ _ hown3 hb3

set_option maxHeartbeats 400000 in
theorem lend_any (v : Value) (l : List UInt8) (w : World) (hv : Bs w v l) (hl : l.length + 2 ≤ 140737488355328) (R : Ending → World → Prop)
    (hR : ∀ g c w', w'.ownsRow w.heap.size 5 1 (.slice (some ⟨g, 0, none⟩) (l ++ [165, 90]).length c) (l ++ [165, 90]).length (bv (l ++ [165, 90])) → Below w.heap.size w w' → R (.returned (.slice (some ⟨g, 0, none⟩) l.length c)) w') :
    Calls Tryz.prog 32 #[v] w R := by
  obtain ⟨ad, c, rfl, hr, h1, h2, h3⟩ := hv
  go_enter Tryz.func32, Tryz.ntmps32
  obtain ⟨i, hi, hz, hi1, hi2⟩ := info_parts Tryz.info5
  go_wp2_with (at_make; go_must (refine wpList_make_own _ (by rfl) _ _ 22 (by rfl) w.heap.size 5 i (.int .u8 0) 1 Tryz.underlying22 hi hz hi1 _ _ _ (l.length + 2) rfl rfl (by omega) (by rw [hi2]; omega) (by unfold maxLen; omega) (Nat.le_refl _) ?_))
  intro w1 hown1 hg1
  have hb1 : Below w.heap.size w w1 := (Below.refl _ _).grown hg1 (Nat.le_refl _) (fun k hk => by cases hk)
  have hr1 := hr.below hb1
  go_wp2_with (at_builtin; go_must (refine wpList_app (by rfl) (.tmp 8) (.tmp 9) 22 (by rfl) w.heap.size 5 (.int .u8 0) 1 1 Tryz.underlying22 Tryz.info5 rfl (by decide) _ _ _ _ rfl hown1 _ _ _ _ rfl hr1 (bv_oneCell _) h3 (by unfold maxLen; omega) (by omega) hb1.size ?_))
  intro ad2 c2 w2 hown2 hg2
  have hb2 := below_app hb1 hg2 hb1.size hown1
  go_wp2_with (at_builtin; go_must (refine wpList_app (by rfl) (.tmp 11) (.tmp 12) 22 (by rfl) w.heap.size 5 (.int .u8 0) 1 1 Tryz.underlying22 Tryz.info5 rfl (by decide) _ _ _ _ rfl (hown2.alloc _) _ _ _ _ rfl (show Rd _ 1 _ 2 (bv [165, 90]) from rd_lit _ _ _ 1 2 rfl) (bv_oneCell _) (by simp) (by unfold maxLen; omega) (by omega) (by have := hb2.size; simp; omega) ?_))
  intro ad3 c3 w3 hown3 hg3
  have hb3 := below_app (hb2.alloc hb2.size _) hg3 (by have := hb2.size; simp; omega) (hown2.alloc _)
  have hln : (l ++ [165, 90]).length = l.length + 2 := by simp
  obtain ⟨g, rfl⟩ := owns_head hown3 (by omega)
  rw [← bv_append] at hown3
  have hcc := (owns_cap hown3).1
  have hcm := (owns_cap hown3).2
  unfold maxLen at hcm
  rw [hln] at hR
  clear hln
  go_wp2
  exact hR _ _ _ hown3 hb3

set_option maxHeartbeats 400000 in
theorem back_any (g n c base : Nat) (u : Value) (l : List UInt8) (w : World) (hn : n = l.length) (hown : w.ownsRow base 5 1 (.slice (some ⟨g, 0, none⟩) (n + 2) c) (n + 2) (bv (l ++ [165, 90]))) (hu : Bs w u l) (R : Ending → World → Prop)
    (hR : ∀ w', w.grownBy w' (some g) → R (.returned (.bool true)) w') :
    Calls Tryz.prog 34 #[.slice (some ⟨g, 0, none⟩) n c, u] w R := by
  have hc := owns_cap hown
  unfold maxLen at hc
  have hlen : (l ++ [165, 90]).length = n + 2 := by simp [hn]
  have hbs : Bs w (.slice (some ⟨g, 0, none⟩) n c) l := by
    have h1 := (bs_of_owns hown).2
    have h2 := Bs.cut (k := n) (by rw [hlen] at h1; exact h1) (by omega)
    have e : (l ++ [165, 90]).take n = l := by rw [hn]; simp
    rw [e] at h2
    exact h2
  have hx := hu
  obtain ⟨ad2, c2, rfl, hr2, h1, h2, h3⟩ := hx
  have m1 : w.cell? ⟨g, n, none⟩ = some (.int .u8 165) := by
    have := own_cell8 hown n (by omega)
    rw [this]
    simp [hn]
  have m2 : w.cell? ⟨g, n + 1, none⟩ = some (.int .u8 90) := by
    have := own_cell8 hown (n + 1) (by omega)
    rw [this]
    simp [hn]
  subst hn
  have heq : (l == l) = true := by simp
  go_enter Tryz.func34, Tryz.ntmps34
  go_wp2_with (go_at_call 22; go_must (refine same_any _ _ l l _ hbs hu _ ?_))
  clear m1 m2 hu hbs hr2
  go_loopw [6] (fun i wr => ∃ k : Nat, k ≤ l.length ∧ i = .int .i64 k ∧ ∃ m : List UInt8, m.length = l.length + 2 ∧ wr.ownsRow base 5 1 (.slice (some ⟨g, 0, none⟩) (l.length + 2) c) (l.length + 2) (bv m) ∧ w.grownBy wr (some g)) (fun i _ => l.length - (intOf i).toNat)
  case atStart => exact ⟨0, Nat.zero_le _, rfl, _, hlen, hown, World.grownBy.refl _ _⟩
  case round =>
    obtain ⟨k, hk, rfl, m, hm, hown2, hg2⟩ := hrel
    have hml : l.length + 2 ≤ m.length := by omega
    by_cases hlt : k < l.length
    · have hkl : k < m.length := by omega
      have hcell := own_cell8 hown2 k hkl
      have hfz := hown2.frozenAt k
      have hst := own_store8 hown2 k (b8 (m[k].toNat + 77))
      rw [b8_toNat] at hst
      have hs1 := hst.1
      have hs2 := grownBy_trans hg2 hst.2
      have hm2 := hm
      rw [← List.length_set (i := k) (a := b8 (m[k].toNat + 77))] at hm2
      have HM := Lib.hid hm2
      clear hst hown hown2 hg2 hm hm2 hlen
      go_wp2
      go_roundw
      case rel => exact ⟨k + 1, by omega, by go_num, _, HM.out, hs1, hs2⟩
      case measure => simp [intOf]; omega
    · go_wp2
      exact hg2

/-- 'Within': n brought between lo and hi. -/
def within (n lo hi : Int) : Int := lo + n % (hi - lo + 1)

theorem within_bounds (n lo hi : Int) (h : lo ≤ hi) : lo ≤ within n lo hi ∧ within n lo hi ≤ hi := by
  unfold within
  have h1 := Int.emod_nonneg n (show hi - lo + 1 ≠ 0 by omega)
  have h2 := Int.emod_lt_of_pos n (show 0 < hi - lo + 1 by omega)
  omega

theorem within_tmod (n m : Int) (hm : 0 < m) : n % m = if n.tmod m < 0 then n.tmod m + m else n.tmod m := by
  rw [Int.tmod_eq_emod]
  have h1 := Int.emod_nonneg n (show m ≠ 0 by omega)
  have h2 := Int.emod_lt_of_pos n hm
  have e : (m.natAbs : Int) = m := by omega
  split <;> split <;> omega

set_option maxHeartbeats 400000 in
theorem within_any (n lo hi : Int) (w : World) (h0 : -1000000000 ≤ lo) (h1 : lo ≤ hi) (h2 : hi ≤ 1000000000) (R : Ending → World → Prop)
    (hR : R (.returned (.int .i64 (within n lo hi))) w) :
    Calls Tryz.prog 20 #[.int .i64 n, .int .i64 lo, .int .i64 hi] w R := by
  have hm : 0 < hi - lo + 1 := by omega
  have hx := within_tmod n (hi - lo + 1) hm
  have b1 : n.tmod (hi - lo + 1) < hi - lo + 1 := Int.tmod_lt_of_pos n hm
  have b2 : -(hi - lo + 1) < n.tmod (hi - lo + 1) := by
    have q1 := Int.emod_nonneg n (show hi - lo + 1 ≠ 0 by omega)
    rw [Int.tmod_eq_emod]
    split <;> omega
  have HX := Lib.hid hx
  clear hx
  unfold within at hR
  rw [HX.out] at hR
  by_cases hneg : n.tmod (hi - lo + 1) < 0
  · rw [if_pos hneg] at hR
    go_enter Tryz.func20, Tryz.ntmps20
    go_wp2
    exact hR
  · rw [if_neg hneg] at hR
    go_enter Tryz.func20, Tryz.ntmps20
    go_wp2
    exact hR


end Go.Proofs.YtgimbocoamnkjaaGreatDoor
