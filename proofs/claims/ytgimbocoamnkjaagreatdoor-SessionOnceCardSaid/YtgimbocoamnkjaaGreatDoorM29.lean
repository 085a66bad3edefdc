/- What is made of plain things: an item. -/
import Derived.Test.YtgimbocoamnkjaaGreatDoorM28
namespace Go.Proofs.YtgimbocoamnkjaaGreatDoor
open Go.RowKit

theorem via6 {α β γ δ ε ω : Type} {H G : α → β → γ → δ → ε → ω → Prop} {goal : Prop} (m : (∀ a b c d e w, H a b c d e w → G a b c d e w) → goal) (t : ∀ a b c d e w, H a b c d e w → G a b c d e w) : goal := m t

structure Md where
  topic : List UInt8
  src : List UInt8
  share : List UInt8
  payload : List UInt8
  qos : Int
  sub : Int
  retain : Bool
  keep : Bool
  life : Int
  fm : Int
  co : List UInt8
  cr : List UInt8
  us : List UInt8
  ids : List Int
  origin : Int
  number : Int
/-- Its slices read so. -/
structure MdC (w : World) (a0 a1 a2 a3 b1 b2 b3 b4 : Value) (m : Md) : Prop where
  t : Bs w a0 m.topic
  f : Bs w a1 m.src
  s : Bs w a2 m.share
  p : Bs w a3 m.payload
  c : Bs w b1 m.co
  r : Bs w b2 m.cr
  u : Bs w b3 m.us
  i : Is w b4 m.ids
theorem MdC.below {w w' : World} {a0 a1 a2 a3 b1 b2 b3 b4 : Value} {m : Md} (h : MdC w a0 a1 a2 a3 b1 b2 b3 b4 m) (hb : Below w.heap.size w w') : MdC w' a0 a1 a2 a3 b1 b2 b3 b4 m :=
  ⟨h.t.below hb, h.f.below hb, h.s.below hb, h.p.below hb, h.c.below hb, h.r.below hb, h.u.below hb, h.i.below hb⟩
/-- Numbers within int's range. -/
structure MdB (m : Md) : Prop where
  fm : I64 m.fm
  life : I64 m.life

def shareB : List UInt8 := [36, 115, 104, 97, 114, 101, 47, 103, 47]
def idsL (l : List Int) : List Int := (l.take 4).map fun x => IntKind.i64.wrap (1 + bits .and .i64 x 16777215)
/-- The item that is meant. -/
def itemL (m : Md) : Im :=
  ⟨⟨116 :: plainL m.topic, m.payload.take 300, within m.qos 0 2, m.retain, plainL m.src, if 0 < m.life then bits .and .i64 m.life 65535 else 0, listL m.fm m.co m.cr m.us, bits .and .i64 m.origin 255, bits .and .i64 m.number 16777215, 0⟩,
    within m.sub 0 2, m.keep, idsL m.ids, if 0 < m.share.length then shareB ++ plainL m.share else []⟩

theorem pb_of {p : Pr} (h1 : p.data.length ≤ 30) (h2 : p.text.length ≤ 30) (h3 : p.pair.length ≤ 30) (h4 : 0 ≤ p.id) (h5 : p.id ≤ 100) (h6 : I64 p.num) : PB p := ⟨by omega, by omega, by omega, by omega, by omega, h6.1, h6.2⟩
theorem listL_pb (fm : Int) (co cr us : List UInt8) : ∀ p ∈ listL fm co cr us, PB p := by
  have hp : ∀ l : List UInt8, (plainL l).length ≤ 30 := plainL_len
  have hc : (cr.take 30).length ≤ 30 := by rw [List.length_take]; omega
  have hz : ([] : List UInt8).length ≤ 30 := Nat.zero_le _
  have h0 : I64 0 := ⟨by omega, by omega⟩
  have hb : I64 (bits .and .i64 fm 1) := ⟨bits_lo_i64 .and fm 1, bits_hi_i64 .and fm 1⟩
  obtain ⟨bb, hbb⟩ : ∃ bb, bits .and .i64 fm 1 = bb := ⟨_, rfl⟩
  rw [hbb] at hb
  intro p hp'
  unfold listL at hp'
  rw [hbb] at hp'
  rcases List.mem_append.1 hp' with hp' | hp'
  · rcases List.mem_append.1 hp' with hp' | hp'
    · rcases List.mem_append.1 hp' with hp' | hp'
      · split at hp'
        · obtain rfl := List.mem_singleton.1 hp'
          exact pb_of hz hz hz (by show (0 : Int) ≤ 1; omega) (by show (1 : Int) ≤ 100; omega) hb
        · cases hp'
      · split at hp'
        · obtain rfl := List.mem_singleton.1 hp'
          exact pb_of hz (hp _) hz (by show (0 : Int) ≤ 3; omega) (by show (3 : Int) ≤ 100; omega) h0
        · cases hp'
    · split at hp'
      · obtain rfl := List.mem_singleton.1 hp'
        exact pb_of hc hz hz (by show (0 : Int) ≤ 9; omega) (by show (9 : Int) ≤ 100; omega) h0
      · cases hp'
  · obtain ⟨u, _, rfl⟩ := List.mem_map.1 hp'
    exact pb_of hz (hp _) (hp _) (by show (0 : Int) ≤ 38; omega) (by show (38 : Int) ≤ 100; omega) h0
theorem listL_len (fm : Int) (co cr us : List UInt8) : (listL fm co cr us).length ≤ 7 := by
  unfold listL
  rw [List.length_append, List.length_append, List.length_append, List.length_map, List.length_take]
  split <;> split <;> split <;> simp <;> omega
theorem itemL_b (m : Md) : ImB (itemL m) := by
  have hq := within_bounds m.qos 0 2 (by decide)
  have hs := within_bounds m.sub 0 2 (by decide)
  have hp : ∀ l : List UInt8, (plainL l).length ≤ 30 := plainL_len
  refine ⟨⟨?_, ?_, ?_, ?_, listL_pb _ _ _ _, ?_⟩, ?_, ?_, ?_⟩
  · have := hp m.topic
    show (116 :: plainL m.topic).length ≤ _
    rw [List.length_cons]
    omega
  · show (m.payload.take 300).length ≤ _
    rw [List.length_take]
    omega
  · have := hp m.src
    show (plainL m.src).length ≤ _
    omega
  · have := listL_len m.fm m.co m.cr m.us
    show (listL m.fm m.co m.cr m.us).length ≤ _
    omega
  · show _ ≤ within m.qos 0 2 ∧ _
    show _ ∧ within m.qos 0 2 ≤ _
    omega
  · show (idsL m.ids).length ≤ _
    unfold idsL
    rw [List.length_map, List.length_take]
    omega
  · show (if 0 < m.share.length then shareB ++ plainL m.share else []).length ≤ _
    have := hp m.share
    split
    · rw [List.length_append]
      show 9 + _ ≤ _
      omega
    · simp
  · show _ ≤ within m.sub 0 2 ∧ _
    show _ ∧ within m.sub 0 2 ≤ _
    omega
theorem itemL_qos (m : Md) : 0 ≤ (itemL m).qos ∧ (itemL m).qos ≤ 2 := within_bounds m.sub 0 2 (by decide)

/-- The region's current world: the parameter's block, the result's. -/
structure IR (W : World) (N : Nat) (bx : Obj) (x : World) : Prop where
  low : Below W.heap.size W x
  box : x.heap[N]? = some bx
  res : x.heap[N + 1]? = some (Obj.cells #[.string ⟨#[]⟩, .slice none 0 0, .int .i64 0, .bool false, .string ⟨#[]⟩, .int .i64 0, .slice none 0 0, .int .i64 0, .int .i64 0, .int .i64 0, .int .i64 0, .bool false, .slice none 0 0, .string ⟨#[]⟩] 36)
  sz : N + 2 ≤ x.heap.size
theorem IR.below {W x x' : World} {N : Nat} {bx : Obj} (h : IR W N bx x) (hb : Below x.heap.size x x') : IR W N bx x' :=
  ⟨below_then h.low hb h.low.size, (hb.block _ (Array.getElem?_eq_some_iff.1 h.box).1).trans h.box, (hb.block _ (Array.getElem?_eq_some_iff.1 h.res).1).trans h.res, Nat.le_trans h.sz hb.size⟩
theorem IR.alloc {W x : World} {N : Nat} {bx : Obj} (h : IR W N bx x) (o : Obj) : IR W N bx (x.alloc o) := h.below ((Below.refl _ _).alloc (Nat.le_refl _) o)
theorem IR.grown {W x x' : World} {N K : Nat} {bx : Obj} (h : IR W N bx x) (hg : x.grownBy x' (some K)) (h1 : W.heap.size ≤ K) (h2 : K ≠ N) (h3 : K ≠ N + 1) : IR W N bx x' :=
  ⟨below_grown h.low hg h.low.size (fun k hk => by cases hk; exact h1), (hg.block _ (Array.getElem?_eq_some_iff.1 h.box).1 (fun e => h2 (Option.some.inj e).symm)).trans h.box, (hg.block _ (Array.getElem?_eq_some_iff.1 h.res).1 (fun e => h3 (Option.some.inj e).symm)).trans h.res, Nat.le_trans h.sz hg.size⟩
theorem row_later {x x' : World} {N : Nat} {o : Obj} (h : x.heap[N]? = some o) (hb : Below x.heap.size x x') : x'.heap[N]? = some o := (hb.block _ (Array.getElem?_eq_some_iff.1 h).1).trans h

theorem nt10 {w : World} {N t : Nat} {fr : Nat × Nat} {a b c d e f g h i j : Value} (hN : w.heap[N]? = some (.cells #[a, b, c, d, e, f, g, h, i, j] t fr)) :
    (w.cell? ⟨N, 0, none⟩ = some a ∧ w.cell? ⟨N, 1, none⟩ = some b ∧ w.cell? ⟨N, 2, none⟩ = some c ∧ w.cell? ⟨N, 3, none⟩ = some d ∧ w.cell? ⟨N, 4, none⟩ = some e) ∧ w.cell? ⟨N, 5, none⟩ = some f ∧ w.cell? ⟨N, 6, none⟩ = some g ∧ w.cell? ⟨N, 7, none⟩ = some h ∧ w.cell? ⟨N, 8, none⟩ = some i ∧ w.cell? ⟨N, 9, none⟩ = some j :=
  ⟨⟨cell_of_row w N 0 _ _ _ hN, cell_of_row w N 1 _ _ _ hN, cell_of_row w N 2 _ _ _ hN, cell_of_row w N 3 _ _ _ hN, cell_of_row w N 4 _ _ _ hN⟩, cell_of_row w N 5 _ _ _ hN, cell_of_row w N 6 _ _ _ hN, cell_of_row w N 7 _ _ _ hN, cell_of_row w N 8 _ _ _ hN, cell_of_row w N 9 _ _ _ hN⟩
theorem note_put {x : World} {N t : Nat} {o0 o1 o2 o3 o4 o5 o6 o7 o8 o9 : Value} (h : x.heap[N]? = some (.cells #[o0, o1, o2, o3, o4, o5, o6, o7, o8, o9] t (0, 0))) (a0 a1 a2 a3 a4 a5 a6 a7 a8 a9 : Value) :
    ((((((((((x.setCell ⟨N, 0, none⟩ a0).setCell ⟨N, 1, none⟩ a1).setCell ⟨N, 2, none⟩ a2).setCell ⟨N, 3, none⟩ a3).setCell ⟨N, 4, none⟩ a4).setCell ⟨N, 5, none⟩ a5).setCell ⟨N, 6, none⟩ a6).setCell ⟨N, 7, none⟩ a7).setCell ⟨N, 8, none⟩ a8).setCell ⟨N, 9, none⟩ a9).heap[N]? = some (.cells #[a0, a1, a2, a3, a4, a5, a6, a7, a8, a9] t (0, 0)) ∧ x.grownBy ((((((((((x.setCell ⟨N, 0, none⟩ a0).setCell ⟨N, 1, none⟩ a1).setCell ⟨N, 2, none⟩ a2).setCell ⟨N, 3, none⟩ a3).setCell ⟨N, 4, none⟩ a4).setCell ⟨N, 5, none⟩ a5).setCell ⟨N, 6, none⟩ a6).setCell ⟨N, 7, none⟩ a7).setCell ⟨N, 8, none⟩ a8).setCell ⟨N, 9, none⟩ a9) (some N) := by
  have k0 : _ = some (Obj.cells #[a0, o1, o2, o3, o4, o5, o6, o7, o8, o9] t (0, 0)) := heap_setCell_same _ N 0 _ _ a0 h
  have k1 : _ = some (Obj.cells #[a0, a1, o2, o3, o4, o5, o6, o7, o8, o9] t (0, 0)) := heap_setCell_same _ N 1 _ _ a1 k0
  have k2 : _ = some (Obj.cells #[a0, a1, a2, o3, o4, o5, o6, o7, o8, o9] t (0, 0)) := heap_setCell_same _ N 2 _ _ a2 k1
  have k3 : _ = some (Obj.cells #[a0, a1, a2, a3, o4, o5, o6, o7, o8, o9] t (0, 0)) := heap_setCell_same _ N 3 _ _ a3 k2
  have k4 : _ = some (Obj.cells #[a0, a1, a2, a3, a4, o5, o6, o7, o8, o9] t (0, 0)) := heap_setCell_same _ N 4 _ _ a4 k3
  have k5 : _ = some (Obj.cells #[a0, a1, a2, a3, a4, a5, o6, o7, o8, o9] t (0, 0)) := heap_setCell_same _ N 5 _ _ a5 k4
  have k6 : _ = some (Obj.cells #[a0, a1, a2, a3, a4, a5, a6, o7, o8, o9] t (0, 0)) := heap_setCell_same _ N 6 _ _ a6 k5
  have k7 : _ = some (Obj.cells #[a0, a1, a2, a3, a4, a5, a6, a7, o8, o9] t (0, 0)) := heap_setCell_same _ N 7 _ _ a7 k6
  have k8 : _ = some (Obj.cells #[a0, a1, a2, a3, a4, a5, a6, a7, a8, o9] t (0, 0)) := heap_setCell_same _ N 8 _ _ a8 k7
  have k9 : _ = some (Obj.cells #[a0, a1, a2, a3, a4, a5, a6, a7, a8, a9] t (0, 0)) := heap_setCell_same _ N 9 _ _ a9 k8
  refine ⟨k9, ?_⟩
  refine grownBy_trans ?_ (grownBy_setCell _ ⟨N, 9, none⟩ a9)
  refine grownBy_trans ?_ (grownBy_setCell _ ⟨N, 8, none⟩ a8)
  refine grownBy_trans ?_ (grownBy_setCell _ ⟨N, 7, none⟩ a7)
  refine grownBy_trans ?_ (grownBy_setCell _ ⟨N, 6, none⟩ a6)
  refine grownBy_trans ?_ (grownBy_setCell _ ⟨N, 5, none⟩ a5)
  refine grownBy_trans ?_ (grownBy_setCell _ ⟨N, 4, none⟩ a4)
  refine grownBy_trans ?_ (grownBy_setCell _ ⟨N, 3, none⟩ a3)
  refine grownBy_trans ?_ (grownBy_setCell _ ⟨N, 2, none⟩ a2)
  refine grownBy_trans ?_ (grownBy_setCell _ ⟨N, 1, none⟩ a1)
  exact grownBy_setCell _ ⟨N, 0, none⟩ a0
end Go.Proofs.YtgimbocoamnkjaaGreatDoor
