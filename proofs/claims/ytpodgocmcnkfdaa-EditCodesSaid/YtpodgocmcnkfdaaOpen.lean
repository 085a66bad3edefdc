/- From what the form says of an argument to what the walks ask; and back: whatever was there reads as it did. -/
import Derived.Test.YtpodgocmcnkfdaaRows
import Derived.Test.YtpodgocmcnkfdaaBase
import Derived.ProofKit
import Derived.Deep.Slices
import Derived.SizedLaws
import Derived.ChangeMaps5
namespace Go.Proofs.Ytpodgocmcnkfdaa
open Go.ChangeShapes Go.WideShapes Go.ChangeAt Go.RowKit

theorem trodAll_five {H : Type} {enc : TypeId × Value → H} {P : Program} {w : World} {base : Nat} {spare : Nat → Bool} {held : Bool} {t0 t1 t2 t3 t4 : TypeId} {args : Array Value} {ds : List (DataW H)} {ps : List MemPlace} (h : DataW.TrodAll enc P w base spare held [t0, t1, t2, t3, t4] args.toList ds ps) :
    ∃ v0 v1 v2 v3 v4 d0 d1 d2 d3 d4 p0 p1 p2 p3 p4, args = #[v0, v1, v2, v3, v4] ∧ ds = [d0, d1, d2, d3, d4] ∧ ps = p0 ++ (p1 ++ (p2 ++ (p3 ++ p4))) ∧ DataW.Trod enc P w base spare held t0 v0 d0 p0 ∧ DataW.Trod enc P w base spare held t1 v1 d1 p1 ∧ DataW.Trod enc P w base spare held t2 v2 d2 p2 ∧ DataW.Trod enc P w base spare held t3 v3 d3 p3 ∧ DataW.Trod enc P w base spare held t4 v4 d4 p4 := by
  obtain ⟨v0, vs, d0, ds, p0, q, hargs, rfl, rfl, h0, h⟩ := trodAll_cons h
  obtain ⟨v1, vs, d1, ds, p1, q, rfl, rfl, rfl, h1, h⟩ := trodAll_cons h
  obtain ⟨v2, vs, d2, ds, p2, q, rfl, rfl, rfl, h2, h⟩ := trodAll_cons h
  obtain ⟨v3, vs, d3, ds, p3, q, rfl, rfl, rfl, h3, h⟩ := trodAll_cons h
  obtain ⟨v4, vs, d4, ds, p4, q, rfl, rfl, rfl, h4, h⟩ := trodAll_cons h
  obtain ⟨rfl, rfl, rfl⟩ := trodAll_nil h
  exact ⟨v0, v1, v2, v3, v4, d0, d1, d2, d3, d4, p0, p1, p2, p3, p4, by cases args; simp_all, rfl, by simp, h0, h1, h2, h3, h4⟩

theorem nat_of_u64 {n : Int} (h : (Lit.int .u64 n).wf = true) : ∃ x : Nat, n = (x : Int) ∧ x < 18446744073709551616 := by
  simp [Lit.wf, IntKind.min, IntKind.max, IntKind.signed, IntKind.bits] at h
  exact ⟨n.toNat, by omega, by omega⟩

theorem str_of (s : ByteArray) : ∃ l : List UInt8, s = str l ∧ l.length = s.size := ⟨s.data.toList, by apply ByteArray.ext; simp, rfl⟩

/-- All arguments read behind the call as they read before, where nothing that was there has turned. -/
theorem trodAll_below {H : Type} {enc : TypeId × Value → H} {P : Program} (hl : laidOutB P = true) {W W' : World} (hb : Below W.heap.size W W') :
    ∀ (ts : List TypeId) (vs : List Value) (ds : List (DataW H)) (ps : List MemPlace), (∀ t ∈ ts, P.readableRec t = true ∧ t < P.types.size) →
      DataW.TrodAll enc P W 0 (fun _ => true) true ts vs ds ps → (∀ x ∈ ps, x.block < W.heap.size) → DataW.TrodAll enc P W' 0 (fun b => decide (b < W.heap.size)) true ts vs ds ps
  | [], [], [], _, _, h, _ => h
  | t :: ts, v :: vs, d :: ds, ps, ht, h, hlt => by
    obtain ⟨p, q, h1, h2, rfl⟩ := h
    refine ⟨p, q, ?_, trodAll_below hl hb ts vs ds q (fun t' h' => ht t' (List.mem_cons_of_mem _ h')) h2 (fun x hx => hlt x (List.mem_append_right _ hx)), rfl⟩
    have := ht t List.mem_cons_self
    exact Below.trod hl this.1 this.2 h1 hb (fun x hx => hlt x (List.mem_append_left _ hx))
  | [], _ :: _, _, _, _, h, _ => by cases h
  | [], [], _ :: _, _, _, h, _ => by cases h
  | _ :: _, [], _, _, _, h, _ => by cases h
  | _ :: _, _ :: _, [], _, _, h, _ => by cases h

/-- Bytes, as numbers that fit. -/
theorem bytes_of (zs : List Int) (h : ∀ n ∈ zs, (Lit.int .u8 n).wf = true) : ∃ b : List UInt8, zs = b.map fun x => (x.toNat : Int) := by
  refine ⟨zs.map fun z => b8 z, ?_⟩
  rw [List.map_map]
  conv => lhs; rw [← List.map_id zs]
  refine List.map_congr_left fun z hz => ?_
  have hw := h z hz
  simp [Lit.wf, IntKind.min, IntKind.max, IntKind.signed, IntKind.bits] at hw
  have := b8_toNat z
  simp only [id_eq, Function.comp_apply]
  omega

theorem bulk_one {H : Type} (d : DataW H) : 1 ≤ Rows.uptoBulk d := by
  cases d with
  | lit l => cases l <;> simp [Rows.uptoBulk]
  | nil => simp [Rows.uptoBulk]
  | ptr d => simp [Rows.uptoBulk]
  | slice elems spare => simp [Rows.uptoBulk]
  | agg parts => simp [Rows.uptoBulk]
  | iface t d => simp [Rows.uptoBulk]
  | map entries => simp [Rows.uptoBulk]
  | held h => simp [Rows.uptoBulk]
theorem bulk_len {H : Type} (l : List (DataW H)) : l.length ≤ Rows.uptoBulkAll l := by
  induction l with
  | nil => simp
  | cons x r ih =>
    have := bulk_one x
    simp only [Rows.uptoBulkAll, List.length_cons]
    omega
theorem bulk_mem {H : Type} {d : DataW H} {l : List (DataW H)} (h : d ∈ l) : Rows.uptoBulk d ≤ Rows.uptoBulkAll l := by
  induction l with
  | nil => cases h
  | cons x r ih =>
    simp only [Rows.uptoBulkAll]
    cases List.mem_cons.1 h with
    | inl e => subst e; omega
    | inr e => have := ih e; omega

/-- An address at which a cell lies is a plain one. -/
theorem plain_addr {W : World} {a : Addr} {v : Value} (h : W.cell? (a.add 0) = some v) : a = ⟨a.block, a.off, none⟩ := by
  have e0 : a.add 0 = a := rfl
  rw [e0] at h
  cases a with
  | mk bl of sp =>
    cases sp with
    | none => rfl
    | some s => simp [World.cell?] at h; split at h <;> simp at h

/-- A slice of bytes that came in, in one cell. -/
theorem open_bs1 {H : Type} {enc : TypeId × Value → H} {P : Program} {W : World} {base fuel : Nat} {spare : Nat → Bool} {held : Bool} {t e : TypeId} {v : Value} {d : DataW H} {p : List MemPlace} (ht : P.underlying t = some (.slice e)) (he : P.underlying e = some (.int .u8)) (hc : P.cellsOf e = 1)
    (hf : DataW.trod enc P W base spare held fuel t [v] = some (d, p)) (hsp : ∀ b, spare b = true) : ∃ b : List UInt8, Bs W v b ∧ b.length + 1 ≤ Rows.uptoBulk d := by
  rcases open_ints ht he hc hf with ⟨hcs, hx⟩ | ⟨a, len, cap, zs, hcs, _, hl, hm, hz, hx, hcell, hwz⟩
  · simp only [List.cons.injEq, and_true] at hcs
    subst hcs
    exact ⟨[], ⟨none, 0, rfl, Rd.nil _ _ _, Nat.le_refl _, by omega, fun _ => rfl⟩, by have := bulk_one d; simpa using this⟩
  · simp only [List.cons.injEq, and_true] at hcs
    subst hcs
    rw [hsp] at hz
    simp only [if_true] at hz
    obtain ⟨b, rfl⟩ := bytes_of zs hwz
    rw [List.length_map] at hz
    unfold maxLen at hm
    have hlen : (b.take len).length = len := by rw [List.length_take]; omega
    refine ⟨b.take len, ⟨some a, cap, by rw [hlen], ⟨by simp, fun hn => ?_⟩, by rw [hlen]; exact hl, by omega, fun h => by cases h⟩, ?_⟩
    · rw [hlen] at hn ⊢
      have hspot := plain_addr (hcell 0 (by rw [List.length_map]; omega))
      refine ⟨a.block, a.off, by rw [← hspot], fun j hj => ?_⟩
      have hj2 := hcell j (by rw [List.length_map]; omega)
      have e1 : a.add j = ⟨a.block, a.off + j, none⟩ := by
        conv => lhs; rw [hspot]
        rw [Addr.add_lit]
      rw [e1] at hj2
      rw [hj2, bv_getElem _ j (by omega)]
      simp [List.getD, show j < b.length by omega]
    · simp only [Prod.mk.injEq] at hx
      rw [hx.1, hlen]
      have h2 := bulk_len (lits .u8 ((b.map fun x => (x.toNat : Int)).take len) : List (DataW H))
      have h3 : (lits .u8 ((b.map fun x => (x.toNat : Int)).take len) : List (DataW H)).length = len := by
        simp only [lits, List.length_map, List.length_take]; omega
      simp only [Rows.uptoBulk]
      omega

/-- A slice of bytes that came in, whatever it is. -/
theorem open_bs {H : Type} {enc : TypeId × Value → H} {P : Program} {W : World} {base : Nat} {spare : Nat → Bool} {held : Bool} {t e : TypeId} {v : Value} {d : DataW H} {p : List MemPlace} (ht : P.underlying t = some (.slice e)) (he : P.underlying e = some (.int .u8)) (hc : P.cellsOf e = 1)
    (h : DataW.Trod enc P W base spare held t v d p) (hs : ∃ a len cap, v = .slice a len cap) (hsp : ∀ b, spare b = true) : ∃ b : List UInt8, Bs W v b ∧ b.length + 1 ≤ Rows.uptoBulk d := by
  obtain ⟨a0, l0, c0, rfl⟩ := hs
  obtain ⟨fuel, hf⟩ := h
  exact open_bs1 ht he hc hf hsp

/-- Rows of bytes that came in. -/
theorem open_bss {H : Type} {enc : TypeId × Value → H} {P : Program} {W : World} {base : Nat} {spare : Nat → Bool} {held : Bool} {t e u : TypeId} {v : Value} {d : DataW H} {p : List MemPlace} (ht : P.underlying t = some (.slice e)) (he : P.underlying e = some (.slice u)) (hc : P.cellsOf e = 1) (hu : P.underlying u = some (.int .u8)) (hcu : P.cellsOf u = 1)
    (h : DataW.Trod enc P W base spare held t v d p) (hs : ∃ a len cap, v = .slice a len cap) (hsp : ∀ b, spare b = true) : ∃ ls : List (List UInt8), Bss W v ls ∧ ls.length + 1 ≤ Rows.uptoBulk d ∧ ∀ l ∈ ls, l.length + 1 ≤ Rows.uptoBulk d := by
  obtain ⟨a0, l0, c0, rfl⟩ := hs
  obtain ⟨fuel, hf⟩ := h
  rcases Go.Deep.open_slice1 ht hc hf with ⟨hcs, hx⟩ | ⟨a, len, cap, m, n, V, D, Pl, hcs, _, hl, hm, hmm, hx, hcell⟩
  · simp only [Value.cells, List.cons.injEq, and_true, Value.slice.injEq] at hcs
    obtain ⟨rfl, rfl, rfl⟩ := hcs
    exact ⟨[], ⟨none, 0, [], rfl, Rd.nil _ _ _, Nat.le_refl _, by omega, (fun _ => rfl), fun i hi => by simp at hi⟩, by have := bulk_one d; simpa using this, fun l hl => by simp at hl⟩
  · simp only [Value.cells, List.cons.injEq, and_true, Value.slice.injEq] at hcs
    obtain ⟨rfl, rfl, rfl⟩ := hcs
    rw [hsp] at hmm
    simp only [if_true] at hmm
    unfold maxLen at hm
    obtain ⟨f, hfb⟩ := Go.Deep.choose_lt (n := m) (p := fun i b => Bs W (V i) b ∧ b.length + 1 ≤ Rows.uptoBulk (D i)) (fun i hi => open_bs1 he hu hcu (hcell i hi).2 hsp)
    have hll : ((List.range l0).map f).length = l0 := by simp
    simp only [Prod.mk.injEq] at hx
    have hbk : ∀ i, i < l0 → Rows.uptoBulk (D i) + 1 ≤ Rows.uptoBulk d := by
      intro i hi
      rw [hx.1]
      have := bulk_mem (show D i ∈ (List.range l0).map D from List.mem_map.2 ⟨i, List.mem_range.2 hi, rfl⟩)
      simp only [Rows.uptoBulk]
      omega
    refine ⟨(List.range l0).map f, ⟨some a, c0, (List.range l0).map V, by rw [hll], ⟨by simp, fun hn => ?_⟩, by rw [hll]; exact hl, by omega, (fun h => by cases h), fun i hi => ?_⟩, ?_, ?_⟩
    · rw [hll] at hn ⊢
      have hspot := plain_addr (hcell 0 (by omega)).1
      refine ⟨a.block, a.off, by rw [← hspot], fun j hj => ?_⟩
      have hj2 := (hcell j (by omega)).1
      have e1 : a.add j = ⟨a.block, a.off + j, none⟩ := by
        conv => lhs; rw [hspot]
        rw [Addr.add_lit]
      rw [e1] at hj2
      rw [hj2]
      simp [show j < l0 by omega]
    · rw [hll] at hi
      refine ⟨V i, by simp [hi], ?_⟩
      have := (hfb i (by omega)).1
      simpa using this
    · rw [hll, hx.1]
      have := bulk_len ((List.range l0).map D)
      simp only [List.length_map, List.length_range] at this
      simp only [Rows.uptoBulk]
      omega
    · intro l hl2
      obtain ⟨i, hi, rfl⟩ := List.mem_map.1 hl2
      have hi' := List.mem_range.1 hi
      have h1 := (hfb i (by omega)).2
      have h2 := hbk i hi'
      omega

end Go.Proofs.Ytpodgocmcnkfdaa
