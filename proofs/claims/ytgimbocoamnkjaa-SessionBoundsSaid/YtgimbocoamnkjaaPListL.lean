/- (tidingslaw19.Props).list, walked. -/
import Derived.Test.YtgimbocoamnkjaaPlain
namespace Go.Proofs.Ytgimbocoamnkjaa
open Go.RowKit

/-- The properties that are meant. -/
def listL (fm : Int) (co cr us : List UInt8) : List Pr :=
  (if 0 ≤ fm then [⟨1, bits .and .i64 fm 1, [], [], []⟩] else []) ++ (if 0 < co.length then [⟨3, 0, plainL co, [], []⟩] else []) ++ (if 0 < cr.length then [⟨9, 0, [], [], cr.take 30⟩] else []) ++ (us.take 4).map fun u => ⟨38, 0, plainL [u], plainL us, []⟩

/-- A row of properties of the call's own (from block w.heap.size on), their data in an older world W. -/
structure OL (W w wr : World) (ad : Option Addr) (n c : Nat) (ds : List Value) (l : List Pr) : Prop where
  nl : n = l.length
  len : ds.length = l.length
  row : wr.ownsRow w.heap.size 84 5 (.slice ad n c) n (pcs ds l)
  old : Pds W ds l
  low : Below w.heap.size w wr
  wow : Below W.heap.size W w
  hn : n ≤ 100
theorem OL.below {W w wr wr' : World} {ad : Option Addr} {n c : Nat} {ds : List Value} {l : List Pr} (h : OL W w wr ad n c ds l) (hb : Below wr.heap.size wr wr') : OL W w wr' ad n c ds l := ⟨h.nl, h.len, owns_below h.row hb, h.old, below_then h.low hb h.low.size, h.wow, h.hn⟩
theorem OL.push {W w wr wr' : World} {ad ad' : Option Addr} {n c c' : Nat} {ds : List Value} {l : List Pr} {d : Value} {p : Pr} (h : OL W w wr ad n c ds l) (hd : PC W d p) (hr : wr'.ownsRow w.heap.size 84 5 (.slice ad' (n + 1) c') (n + 1) (pcs ds l ++ [.int .i64 p.id, .int .i64 p.num, .string (str p.text), .string (str p.pair), d])) (hg : wr.grownBy wr' (Value.slice ad n c).ownBlock) (hn : n ≤ 99) :
    OL W w wr' ad' (n + 1) c' (ds ++ [d]) (l ++ [p]) :=
  ⟨by rw [List.length_append, ← h.nl]; rfl, by rw [List.length_append, List.length_append, h.len]; rfl, by rw [pcs_snoc ds l h.len]; exact hr, by
    refine ⟨by rw [List.length_append, List.length_append, h.len]; rfl, fun i d' p' h1 h2 => ?_⟩
    by_cases hi : i < l.length
    · rw [List.getElem?_append_left (by rw [h.len]; exact hi)] at h1
      rw [List.getElem?_append_left hi] at h2
      exact h.old.2 i d' p' h1 h2
    · have hi1 : i = l.length := by
        have := (List.getElem?_eq_some_iff.1 h2).1
        simp at this
        omega
      subst hi1
      rw [List.getElem?_append_right (by rw [h.len]; exact Nat.le_refl _), h.len, Nat.sub_self] at h1
      rw [List.getElem?_append_right (Nat.le_refl _), Nat.sub_self] at h2
      simp only [List.getElem?_cons_zero, Option.some.injEq] at h1 h2
      subst h1 h2
      exact hd, below_app h.low hg h.low.size h.row, h.wow, by omega⟩
theorem pc_plain (w : World) {id num : Int} {t u : List UInt8} (h1 : -9223372036854775808 ≤ id) (h2 : id ≤ 9223372036854775807) (h3 : -9223372036854775808 ≤ num) (h4 : num ≤ 9223372036854775807) (h5 : t.length ≤ 100) (h6 : u.length ≤ 100) : PC w (.slice none 0 0) ⟨id, num, t, u, []⟩ :=
  ⟨bs_none w, by simp, by show t.length ≤ _; omega, by show u.length ≤ _; omega, h1, h2, h3, h4⟩
theorem pc_data {w : World} {d : Value} {C : List UInt8} (h : Bs w d C) (hl : C.length ≤ 140737488351232) : PC w d ⟨9, 0, [], [], C⟩ :=
  ⟨h, hl, by show 0 ≤ _; omega, by show 0 ≤ _; omega, by show _ ≤ (9 : Int); omega, by show (9 : Int) ≤ _; omega, by show _ ≤ (0 : Int); omega, by show (0 : Int) ≤ _; omega⟩
theorem OL.nil (W w wr : World) (hW : Below W.heap.size W w) (hb : Below w.heap.size w wr) : OL W w wr none 0 0 [] [] := ⟨rfl, rfl, World.ownsRow_nil _ _ _ _, ⟨rfl, fun i d p h => by simp at h⟩, hb, hW, by omega⟩
/-- The same, when the call is over. -/
structure OP (W : World) (B : Nat) (wr : World) (ad : Option Addr) (n c : Nat) (ds : List Value) (l : List Pr) : Prop where
  nl : n = l.length
  len : ds.length = l.length
  row : wr.ownsRow B 84 5 (.slice ad n c) n (pcs ds l)
  old : Pds W ds l
  low : Below W.heap.size W wr
theorem OL.op {W w wr : World} {ad : Option Addr} {n c : Nat} {ds : List Value} {l : List Pr} (h : OL W w wr ad n c ds l) : OP W w.heap.size wr ad n c ds l := ⟨h.nl, h.len, h.row, h.old, below_then h.wow h.low h.wow.size⟩
theorem OP.below {W wr wr' : World} {B : Nat} {ad : Option Addr} {n c : Nat} {ds : List Value} {l : List Pr} (h : OP W B wr ad n c ds l) (hb : Below wr.heap.size wr wr') : OP W B wr' ad n c ds l := ⟨h.nl, h.len, owns_below h.row hb, h.old, below_then h.low hb h.low.size⟩
/-- A block below the row is written over. -/
theorem OP.grown {W wr wr' : World} {B N : Nat} {ad : Option Addr} {n c : Nat} {ds : List Value} {l : List Pr} (h : OP W B wr ad n c ds l) (hg : wr.grownBy wr' (some N)) (h1 : N < B) (h2 : W.heap.size ≤ N) : OP W B wr' ad n c ds l :=
  ⟨h.nl, h.len, owns_of_block h.row (fun k hk => hg.block k (h.row.lt k hk).2 (fun e => by have := (h.row.lt k hk).1; have := Option.some.inj e; omega)), h.old, below_grown h.low hg h.low.size (fun k hk => by cases hk; exact h2)⟩
theorem OP.ps {W wr : World} {B : Nat} {ad : Option Addr} {n c : Nat} {ds : List Value} {l : List Pr} (h : OP W B wr ad n c ds l) : Ps wr (.slice ad l.length c) l := by
  have hr := h.row
  have hc := owns_cap hr
  unfold maxLen at hc
  rw [h.nl] at hr hc
  refine ⟨ad, c, rfl, hc.1, by omega, owns_nil hr, fun h0 => ?_⟩
  obtain ⟨g, rfl⟩ := owns_head hr h0
  refine ⟨g, 0, rfl, fun i hi => ?_⟩
  have hat : ∀ j, j < 5 → wr.cell? ⟨g, 0 + i * 5 + j, none⟩ = (pc (ds[i]'(by rw [h.len]; exact hi), l[i]))[j]? := fun j hj => by
    rw [Nat.zero_add, hr.cellAt (i * 5 + j) (by omega), pcs_at ds l h.len i hi j hj]
  exact ⟨ds[i]'(by rw [h.len]; exact hi), ⟨hat 0 (by omega), hat 1 (by omega), hat 2 (by omega), hat 3 (by omega), hat 4 (by omega)⟩, (h.old.2 i _ _ (List.getElem?_eq_getElem _) (List.getElem?_eq_getElem hi)).below h.low⟩
theorem lit5 (w : World) (N : Nat) (hN : N = w.heap.size) {i j : Int} {s t : ByteArray} {d : Value} : Rd (w.alloc (Obj.cells #[.int .i64 i, .int .i64 j, .string s, .string t, d] 84)) 5 (some ⟨N, 0, none⟩) 1 [.int .i64 i, .int .i64 j, .string s, .string t, d] := by
  subst hN
  exact rd_lit w #[.int .i64 i, .int .i64 j, .string s, .string t, d] 84 5 1 rfl

theorem pr4 {w : World} {M t : Nat} {a b c x : Value} (h : w.heap[M]? = some (.cells #[a, b, c, x] t (0, 0))) : w.cell? ⟨M, 0, none⟩ = some a ∧ w.cell? ⟨M, 1, none⟩ = some b ∧ w.cell? ⟨M, 2, none⟩ = some c ∧ w.cell? ⟨M, 3, none⟩ = some x :=
  ⟨cell_of_row w M 0 _ _ _ h, cell_of_row w M 1 _ _ _ h, cell_of_row w M 2 _ _ _ h, cell_of_row w M 3 _ _ _ h⟩
/-- One byte of a slice, as a slice. -/
theorem bs_one1 {w : World} {La : Option Addr} {n c k : Nat} {l : List UInt8} (h : Bs w (.slice La n c) l) (hk : k < l.length) :
    ∃ Lx, (∀ w', (Instr.slice 26 (.slice La n c) (some (.int .i64 (k : Int))) (some (.int .i64 ((k : Int) + 1))) none).run Try.prog w' = .ok (.slice Lx 1 (c - k)) w') ∧ Bs w (.slice Lx 1 (c - k)) [l[k]] := by
  have hp := h.piece (lo := k) (hi := k + 1) (by omega) (by omega)
  obtain ⟨rfl, _, hc, _, _⟩ := h.parts
  have he : Try.prog.elem 26 = 5 := by simp [Program.elem, Try.underlying26]
  obtain ⟨i, hi0, hz, hi1, hi2⟩ := info_parts Try.info5
  have e : (l.take (k + 1)).drop k = [l[k]] := by
    rw [List.take_succ_eq_append_getElem hk, List.drop_append, List.drop_of_length_le (by rw [List.length_take]; omega)]
    have : (l.take k).length = k := by rw [List.length_take]; omega
    simp [this]
  rw [e, show k + 1 - k = 1 by omega] at hp
  refine ⟨_, fun w' => ?_, hp⟩
  rw [run_slice_lh (P := Try.prog) w' _ La l.length c (by rw [he]; exact Try.underlying26) .i64 .i64 k ((k : Int) + 1) (by omega) (by omega) (by omega), he]
  have h1 : ((k : Int) + 1).toNat = k + 1 := by omega
  simp [sizeOf, typeInfo, hi0, hi1, sliced, h1]
/-- A piece of bytes that an older world holds. -/
theorem cut_old (v : Value) (l C : List UInt8) (n : Int) (hC : l.take n.toNat = C) (W w : World) (hv : Bs W v l) (h0 : 0 ≤ n) (R : Ending → World → Prop)
    (hR : ∀ ad c, Bs W (.slice ad C.length c) C → R (.returned (.slice ad C.length c)) w) :
    Calls Try.prog 22 #[v, .int .i64 n] w R := by
  subst hC
  have hv' := hv
  obtain ⟨ad, c, rfl, hr, hc, hm, hnil⟩ := hv'
  clear hr
  go_enter Try.func22, Try.ntmps22
  by_cases hlt : n < l.length
  · have hB := hv.cut (k := n.toNat) (by omega)
    go_wp2
    have e : (l.take n.toNat).length = n.toNat := by rw [List.length_take]; omega
    have := hR ad c
    rw [e] at this
    exact this hB
  · have hB : l.take n.toNat = l := List.take_of_length_le (by omega)
    go_wp2
    have := hR ad c
    rw [hB] at this
    exact this hv

end Go.Proofs.Ytgimbocoamnkjaa
