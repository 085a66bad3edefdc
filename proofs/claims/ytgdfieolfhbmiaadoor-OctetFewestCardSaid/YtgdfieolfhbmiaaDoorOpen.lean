/- From what the form says of an argument to what the walks ask; and back: whatever was there reads as it did. -/
import Derived.Test.YtgdfieolfhbmiaaDoorRows
import Derived.Test.YtgdfieolfhbmiaaDoorBase
import Derived.ProofKit
import Derived.Deep.Slices
import Derived.SizedLaws
namespace Go.Proofs.YtgdfieolfhbmiaaDoor
open Go.ChangeShapes Go.WideShapes Go.ChangeAt Go.RowKit

/-- All arguments read behind the call as they read before, where nothing that was there has turned. -/
theorem trodAll_below {H : Type} {enc : TypeId × Value → H} {P : Program} (hl : laidOutB P = true) {W W' : World} (hb : Below W.heap.size W W') :
    ∀ (ts : List TypeId) (vs : List Value) (ds : List (DataW H)) (ps : List MemPlace), (∀ t ∈ ts, P.readableRec t = true ∧ t < P.types.size) →
      DataW.TrodAll enc P W 0 (fun _ => true) true ts vs ds ps → (∀ x ∈ ps, x.block < W.heap.size) → DataW.TrodAll enc P W' 0 (fun b => decide (b < W.heap.size)) true ts vs ds ps
  | [], [], [], _, _, h, _ => h
  | t :: ts, v :: vs, d :: ds, ps, ht, h, hlt => by
    obtain ⟨p, q, h1, h2, rfl⟩ := h
    refine ⟨p, q, ?_, trodAll_below hl hb ts vs ds q (fun t' h' => ht t' (List.mem_cons_of_mem _ h')) h2 (fun x hx => hlt x (List.mem_append_right _ hx)), rfl⟩
    have := ht t List.mem_cons_self
    exact Below.trod hl this.1 this.2 h1 hb (fun x hx => hlt x (List.mem_append_left _ hx))
  | [], _ :: _, _, _, _, h, _ => by cases h
  | [], [], _ :: _, _, _, h, _ => by cases h
  | _ :: _, [], _, _, _, h, _ => by cases h
  | _ :: _, _ :: _, [], _, _, h, _ => by cases h

/-- Bytes, as numbers that fit. -/
theorem bytes_of (zs : List Int) (h : ∀ n ∈ zs, (Lit.int .u8 n).wf = true) : ∃ b : List UInt8, zs = b.map fun x => (x.toNat : Int) := by
  refine ⟨zs.map fun z => b8 z, ?_⟩
  rw [List.map_map]
  conv => lhs; rw [← List.map_id zs]
  refine List.map_congr_left fun z hz => ?_
  have hw := h z hz
  simp [Lit.wf, IntKind.min, IntKind.max, IntKind.signed, IntKind.bits] at hw
  have := b8_toNat z
  simp only [id_eq, Function.comp_apply]
  omega

/-- A slice of bytes that came in, whatever it is. -/
theorem open_bs {H : Type} {enc : TypeId × Value → H} {P : Program} {W : World} {base : Nat} {spare : Nat → Bool} {held : Bool} {t e : TypeId} {v : Value} {d : DataW H} {p : List MemPlace} (ht : P.underlying t = some (.slice e)) (he : P.underlying e = some (.int .u8)) (hc : P.cellsOf e = 1)
    (h : DataW.Trod enc P W base spare held t v d p) (hs : ∃ a len cap, v = .slice a len cap) (hsp : ∀ b, spare b = true) : ∃ b : List UInt8, Bs W v b ∧ b.length ≤ Rows.uptoBulk d := by
  obtain ⟨a0, l0, c0, rfl⟩ := hs
  obtain ⟨fuel, hf⟩ := h
  rcases open_ints ht he hc hf with ⟨hcs, hx⟩ | ⟨a, len, cap, zs, hcs, _, hl, hm, hz, hx, hcell, hwz⟩
  · simp only [Value.cells, List.cons.injEq, and_true, Value.slice.injEq] at hcs
    obtain ⟨rfl, rfl, rfl⟩ := hcs
    exact ⟨[], ⟨none, 0, rfl, Rd.nil _ _ _, Nat.le_refl _, by omega, fun _ => rfl⟩, by simp⟩
  · simp only [Value.cells, List.cons.injEq, and_true, Value.slice.injEq] at hcs
    obtain ⟨rfl, rfl, rfl⟩ := hcs
    rw [hsp] at hz
    simp only [if_true] at hz
    obtain ⟨b, rfl⟩ := bytes_of zs hwz
    rw [List.length_map] at hz
    unfold maxLen at hm
    have hlen : (b.take l0).length = l0 := by rw [List.length_take]; omega
    refine ⟨b.take l0, ⟨some a, c0, by rw [hlen], ⟨by simp, fun hn => ?_⟩, by rw [hlen]; exact hl, by omega, fun h => by cases h⟩, ?_⟩
    · rw [hlen] at hn ⊢
      have h0 := hcell 0 (by rw [List.length_map]; omega)
      have hspot : a = ⟨a.block, a.off, none⟩ := by
        have e0 : a.add 0 = a := rfl
        rw [e0] at h0
        cases a with
        | mk bl of sp =>
          cases sp with
          | none => rfl
          | some s => simp [World.cell?] at h0; split at h0 <;> simp at h0
      refine ⟨a.block, a.off, by rw [← hspot], fun j hj => ?_⟩
      have hj2 := hcell j (by rw [List.length_map]; omega)
      have e1 : a.add j = ⟨a.block, a.off + j, none⟩ := by
        conv => lhs; rw [hspot]
        rw [Addr.add_lit]
      rw [e1] at hj2
      rw [hj2, bv_getElem _ j (by omega)]
      simp [List.getD, show j < b.length by omega]
    · simp only [Prod.mk.injEq] at hx
      rw [hx.1, hlen]
      have h1 : ∀ l : List (DataW H), l.length ≤ Rows.uptoBulkAll l := by
        intro l
        induction l with
        | nil => simp
        | cons x r ih =>
          have h1 : 1 ≤ Rows.uptoBulk x := by
            cases x with
            | lit l => cases l <;> simp [Rows.uptoBulk]
            | nil => simp [Rows.uptoBulk]
            | ptr d => simp [Rows.uptoBulk]
            | slice elems spare => simp [Rows.uptoBulk]
            | agg parts => simp [Rows.uptoBulk]
            | iface t d => simp [Rows.uptoBulk]
            | map entries => simp [Rows.uptoBulk]
            | held h => simp [Rows.uptoBulk]
          simp only [Rows.uptoBulkAll, List.length_cons]
          omega
      have h2 := h1 (lits .u8 ((b.map fun x => (x.toNat : Int)).take l0) : List (DataW H))
      have h3 : (lits .u8 ((b.map fun x => (x.toNat : Int)).take l0) : List (DataW H)).length = l0 := by
        simp only [lits, List.length_map, List.length_take]; omega
      simp only [Rows.uptoBulk]
      omega

end Go.Proofs.YtgdfieolfhbmiaaDoor
