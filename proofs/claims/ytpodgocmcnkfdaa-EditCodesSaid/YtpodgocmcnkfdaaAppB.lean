/- What the walks of Apply lean on: worlds that differ in one block; the map of dropped numbers. -/
import Derived.Test.YtpodgocmcnkfdaaSortP
import Derived.Test.YtpodgocmcnkfdaaIs
import Derived.Test.YtpodgocmcnkfdaaApp0
import Derived.Maps.OwnOps
import Derived.Maps.Views
import Derived.Deep.RegionLaw
namespace Go.Proofs.Ytpodgocmcnkfdaa
open Go.RowKit

/-- Below block B, but for block N, the world x is as w was. -/
structure Bx (B N : Nat) (w x : World) : Prop where
  os : x.os = w.os
  tape : x.tape = w.tape
  output : x.output = w.output
  size : w.heap.size ≤ x.heap.size
  block : ∀ k, k < B → k ≠ N → x.heap[k]? = w.heap[k]?
theorem Bx.refl (B N : Nat) (w : World) : Bx B N w w := ⟨rfl, rfl, rfl, Nat.le_refl _, fun _ _ _ => rfl⟩
theorem Bx.below {B N C : Nat} {w x y : World} (h : Bx B N w x) (hb : Below C x y) (hB : B ≤ C) : Bx B N w y :=
  ⟨hb.os.trans h.os, hb.tape.trans h.tape, hb.output.trans h.output, Nat.le_trans h.size hb.size, fun k h1 h2 => (hb.block k (by omega)).trans (h.block k h1 h2)⟩
theorem Bx.grown {B N : Nat} {w x y : World} (h : Bx B N w x) (hg : x.grownBy y (some N)) (hB : B ≤ x.heap.size) : Bx B N w y :=
  ⟨hg.os.trans h.os, hg.tape.trans h.tape, hg.output.trans h.output, Nat.le_trans h.size hg.size, fun k h1 h2 => (hg.block k (by omega) (fun e => h2 (by cases e; rfl))).trans (h.block k h1 h2)⟩
theorem Bx.set {B N : Nat} {w x : World} (h : Bx B N w x) (o : Nat) (u : Value) : Bx B N w (x.setCell ⟨N, o, none⟩ u) :=
  ⟨h.os, h.tape, h.output, by simpa [World.setCell] using h.size, fun k h1 h2 => (Below.heap_setCell _ _ _ _ h2).trans (h.block k h1 h2)⟩
theorem Bx.low {B N C : Nat} {w x : World} (h : Bx B N w x) (hC : C ≤ B) (hN : C ≤ N) : Below C w x := ⟨h.os, h.tape, h.output, h.size, fun k hk => h.block k (by omega) (by omega)⟩
theorem Bx.row {B N g : Nat} {w x : World} {o : Obj} (h : Bx B N w x) (hg : w.heap[g]? = some o) (hB : g < B) (hN : g ≠ N) : x.heap[g]? = some o := (h.block g hB hN).trans hg
theorem ownsMap_of_block {H : Type} {P : Program} {k : TypeId} {R : Value → Option (DataW H × List MemPlace)} {b n : Nat} {D : DataW H} {w w' : World} (h : w.ownsMap P k R b n D) (e : w'.heap[b]? = w.heap[b]?) : w'.ownsMap P k R b n D := by
  obtain ⟨es, clock, hb, r⟩ := h
  exact ⟨es, clock, e.trans hb, r⟩

theorem owns_setRow_low {w : World} {B e size n K : Nat} {v : Value} {xs : List Value} {cs : Array Value} (h : w.ownsRow B e size v n xs) (hK : K < B) : (w.setRow K cs).ownsRow B e size v n xs := by
  refine owns_grown h (grownBy_setRowP w K cs) fun k hk hc => ?_
  have h1 := (h.lt k hk).1
  have h2 : k = K := by first | (cases hc; rfl) | exact (Option.some.inj hc) | exact (Option.some.inj hc).symm
  omega
theorem PlO.low {w : World} {B : Nat} {x y : Value} {p : Pl} (h : PlO w B x y p) {a : Addr} (ha : a.block < B) (u : Value) : PlO (w.setCell a u) B x y p :=
  ⟨ownsRow_setCell_below h.hx ha u, ownsRow_setCell_below h.hy ha u, h.hb⟩
theorem PlsO.low {w : World} {B : Nat} {v : Value} {l : List Pl} (h : PlsO w B v l) {a : Addr} (ha : a.block < B) (u : Value) : PlsO (w.setCell a u) B v l := by
  obtain ⟨kv, h1, h2, h3⟩ := h
  exact ⟨kv, h1, ownsRow_setCell_below h2 ha u, fun i hi => (h3 i hi).low ha u⟩
theorem PlsO.setRow_low {w : World} {B K : Nat} {v : Value} {l : List Pl} {cs : Array Value} (h : PlsO w B v l) (hK : K < B) : PlsO (w.setRow K cs) B v l := by
  obtain ⟨kv, h1, h2, h3⟩ := h
  exact ⟨kv, h1, owns_setRow_low h2 hK, fun i hi => ⟨owns_setRow_low (h3 i hi).hx hK, owns_setRow_low (h3 i hi).hy hK, (h3 i hi).hb⟩⟩
/-- What writes into the row's own block alone turns nothing below its base. -/
theorem PlsO.belowOwn {w w' : World} {B : Nat} {v : Value} {l : List Pl} (h : PlsO w B v l) (hg : w.grownBy w' v.ownBlock) (hB : B ≤ w.heap.size) : Below B w w' := by
  obtain ⟨kv, _, h2, _⟩ := h
  exact below_app (Below.refl _ _) hg hB h2

theorem pb_of_row {w : World} {M t : Nat} {a b c x y : Value} (h : w.heap[M]? = some (.cells #[a, b, c, x, y] t (0, 0))) :
    w.cell? ⟨M, 0, none⟩ = some a ∧ w.cell? ⟨M, 1, none⟩ = some b ∧ w.cell? ⟨M, 2, none⟩ = some c ∧ w.cell? ⟨M, 3, none⟩ = some x ∧ w.cell? ⟨M, 4, none⟩ = some y :=
  ⟨cell_of_row w M 0 _ _ _ h, cell_of_row w M 1 _ _ _ h, cell_of_row w M 2 _ _ _ h, cell_of_row w M 3 _ _ _ h, cell_of_row w M 4 _ _ _ h⟩

/-! ### the map of what is dropped -/
theorem atKey_fold {H : Type} (u z : DataW H) (k : Lit) : ∀ (acc : List Lit) (m : DataW H), Maps.IsMap m → (∀ x ∈ acc, WideAt.IsKeyLit x) → (acc.foldl (fun m x => m.put x u) m).atKey k z = if acc.any (fun x => x.sameKey k) = true then u else m.atKey k z
  | [], m, _, _ => by simp
  | x :: r, m, hm, h => by
    rw [List.foldl_cons, atKey_fold u z k r (m.put x u) (hm.put x u) (fun y hy => h y (by simp [hy])), List.any_cons]
    by_cases e : k = x
    · subst e
      rw [Maps.atKey_put_same hm (h k (by simp)), WideAt.sameKey_self (h k (by simp))]
      simp
    · rw [Maps.atKey_put_other e, Maps.sameKey_ne (fun e' => e e'.symm)]
      simp
def keysI (l : List Int) : List Lit := l.map fun n => .int .i64 n
def oneD : DataW Unit := .lit (.int .i64 1)
def dropD (l : List Int) : DataW Unit := Maps.setOf oneD (keysI l)
theorem keysI_any (l : List Int) (n : Int) : (keysI l).any (fun x => x.sameKey (.int .i64 n)) = hasI l n := by
  unfold keysI hasI
  rw [List.any_map]
  congr 1
  funext q
  simp only [Function.comp, Lit.sameKey]
  simp
theorem dropD_at (l : List Int) (n c : Int) (h : (dropD l).atKey (.int .i64 n) (.lit (.int .i64 0)) = .lit (.int .i64 c)) : c = if hasI l n = true then 1 else 0 := by
  unfold dropD Maps.setOf at h
  rw [atKey_fold _ _ _ _ _ Maps.isMap_empty (fun x hx => by
    obtain ⟨p, _, rfl⟩ := List.mem_map.1 hx
    trivial), keysI_any] at h
  have h0 : (DataW.map ([] : List (Lit × DataW Unit))).atKey (.int .i64 n) (.lit (.int .i64 0)) = .lit (.int .i64 0) := rfl
  rw [h0] at h
  cases hh : hasI l n with
  | true =>
    rw [hh, if_pos rfl] at h
    unfold oneD at h
    simp at h
    simp [h]
  | false =>
    rw [hh, if_neg (by simp)] at h
    simp at h
    simp [h]
theorem dropD_isMap (l : List Int) : Maps.IsMap (dropD l) := (Maps.tidy_setOf _ _ (fun x hx => by
  obtain ⟨p, _, rfl⟩ := List.mem_map.1 hx
  trivial)).isMap
theorem dropD_put (l : List Int) (n : Int) (m c : Int) (h : ((dropD l).put (.int .i64 n) (.lit (.int .i64 m))).atKey (.int .i64 n) (.lit (.int .i64 0)) = .lit (.int .i64 c)) : c = m := by
  rw [Maps.atKey_put_same (dropD_isMap l) (show WideAt.IsKeyLit (.int .i64 n) from trivial)] at h
  simpa using h.symm
theorem dropD_snoc (l : List Int) (n : Int) : dropD (l ++ [n]) = (dropD l).put (.int .i64 n) oneD := by
  unfold dropD keysI
  rw [List.map_append, List.map_cons, List.map_nil, Maps.setOf_snoc]
theorem Try.zeroI (w : World) : (zeroValue 3).run Try.prog w = .ok (.int .i64 0) w := by kernel_rfl

/-- The box of an edit. -/
def edO (log next seq : Int) (a d : Value) : Obj := .cells #[.int .i64 log, .int .i64 next, .int .i64 seq, a, d] 27
def zvO : Obj := .cells #[.int .i64 0, .int .i64 0, .int .i64 0, .slice none 0 0] 24
end Go.Proofs.Ytpodgocmcnkfdaa
