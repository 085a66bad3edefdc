/- What the walk of the document's Apply leans on: parts of rows of tables; a table laid into a row. -/
import Derived.Test.YtpodgocmcnkfdaaAppB
import Derived.Test.YtpodgocmcnkfdaaHas
import Derived.Deep.RegionHeld3
namespace Go.Proofs.Ytpodgocmcnkfdaa
open Go.RowKit

/-- The slice value v reads as the tables l in world w, their keys in a world that was. -/
def PlsK (w0 w : World) (v : Value) (l : List Pl) : Prop :=
  ∃ ad c, v = .slice ad l.length c ∧ l.length ≤ c ∧ c ≤ 9223372036854775807 ∧ (ad = none → c = 0) ∧
    (0 < l.length → ∃ b o, ad = some ⟨b, o, none⟩ ∧ ∀ (i : Nat) (h : i < l.length), ∃ x y, PL5 w b (o + i * 5) x y l[i] ∧ PlC w0 x y l[i])
theorem PlsK.pls {w0 w : World} {v : Value} {l : List Pl} (h : PlsK w0 w v l) (hb : Below w0.heap.size w0 w) : Pls w v l := by
  obtain ⟨ad, c, rfl, h1, h2, h3, h4⟩ := h
  refine ⟨ad, c, rfl, h1, h2, h3, fun h0 => ?_⟩
  obtain ⟨b, o, rfl, h5⟩ := h4 h0
  refine ⟨b, o, rfl, fun i hi => ?_⟩
  obtain ⟨x, y, h6, h7⟩ := h5 i hi
  exact ⟨x, y, h6, h7.below hb⟩
theorem plsK_of {w0 w : World} {v : Value} {l : List Pl} (h : Pls w0 v l) (hb : Below w0.heap.size w0 w) : PlsK w0 w v l := by
  obtain ⟨ad, c, rfl, h1, h2, h3, h4⟩ := h
  refine ⟨ad, c, rfl, h1, h2, h3, fun h0 => ?_⟩
  obtain ⟨b, o, rfl, h5⟩ := h4 h0
  refine ⟨b, o, rfl, fun i hi => ?_⟩
  obtain ⟨x, y, h6, h7⟩ := h5 i hi
  exact ⟨x, y, h6.below hb, h7⟩
theorem PlsR.plsK {w0 w : World} {B : Nat} {v : Value} {l : List Pl} (h : PlsR w0 w B v l) : PlsK w0 w v l := by
  obtain ⟨kv, h1, h2, h3⟩ := h
  obtain ⟨ad, c, rfl⟩ := owns_shape h2
  have hc := owns_cap h2
  unfold maxLen at hc
  refine ⟨ad, c, rfl, hc.1, by omega, owns_nil h2, fun h0 => ?_⟩
  obtain ⟨g, rfl⟩ := owns_head h2 h0
  refine ⟨g, 0, rfl, fun i hi => ?_⟩
  have hat : ∀ j, j < 5 → w.cell? ⟨g, 0 + i * 5 + j, none⟩ = (plc (kv[i]'(by omega)).1 (kv[i]'(by omega)).2 l[i])[j]? := fun j hj => by
    rw [Nat.zero_add, ← plcs_at kv l h1 i hi j hj]
    exact h2.cellAt _ (by have : i * 5 + j < l.length * 5 := by omega
                          omega)
  exact ⟨_, _, ⟨hat 0 (by omega), hat 1 (by omega), hat 2 (by omega), hat 3 (by omega), hat 4 (by omega)⟩, h3 i hi⟩

theorem rd_takeP {w : World} {size n m : Nat} {ad : Option Addr} {cs : List Value} (h : Rd w size ad n cs) (hm : m ≤ n) : Rd w size ad m (cs.take (m * size)) := by
  have hms := Nat.mul_le_mul_right size hm
  refine ⟨by have := h.1; rw [List.length_take]; omega, fun h0 => ?_⟩
  obtain ⟨b, o, e, hc⟩ := h.2 (by omega)
  refine ⟨b, o, e, fun j hj => ?_⟩
  rw [hc j (by omega), List.getElem?_take, if_pos (by omega)]
theorem rd_dropP {w : World} {size n m : Nat} {ad : Option Addr} {cs : List Value} (h : Rd w size ad n cs) (hm : m ≤ n) : Rd w size (ad.map (·.add (m * size))) (n - m) (cs.drop (m * size)) := by
  have hms := Nat.mul_le_mul_right size hm
  have hsub : (n - m) * size = n * size - m * size := Nat.sub_mul _ _ _
  refine ⟨by have := h.1; rw [List.length_drop]; omega, fun h0 => ?_⟩
  obtain ⟨b, o, rfl, hc⟩ := h.2 (by omega)
  refine ⟨b, o + m * size, by rw [Option.map_some, Addr.add_lit], fun j hj => ?_⟩
  rw [Nat.add_assoc, hc (m * size + j) (by omega), List.getElem?_drop]
/-- 's[j:]', the address under a name. -/
theorem slice_fromP {P : Program} {t e : TypeId} {La : Option Addr} {n c j size bytes : Nat} {z : Value} (ht : P.underlying t = some (.slice e)) (hinfo : (P.info? e).map (fun i => (i.zero, i.size, i.bytes)) = some (some z, size, bytes)) (hj : j ≤ n) (hc : n ≤ c) (hnil : La = none → c = 0) :
    ∃ Lx, (∀ w, (Instr.slice t (.slice La n c) (some (.int .i64 (j : Int))) none none).run P w = .ok (.slice Lx (n - j) (c - j)) w) ∧ (Lx = none → c - j = 0) ∧ ∀ w cs, Rd w size La n cs → Rd w size Lx (n - j) (cs.drop (j * size)) := by
  obtain ⟨i, hi, hz, hi1, hi2⟩ := info_parts hinfo
  have he : P.elem t = e := by simp [Program.elem, ht]
  refine ⟨if c = j then La else La.map (·.add (j * size)), fun w => ?_, fun h => ?_, fun w cs h => ?_⟩
  · rw [run_slice_l (P := P) w t La n c (by rw [he]; exact ht) .i64 j (by omega) (by omega), he]
    simp [sizeOf, typeInfo, hi, hi1, sliced]
  · by_cases hcj : c = j
    · omega
    · rw [if_neg hcj] at h
      have := hnil (by simpa using h)
      omega
  · by_cases hcj : c = j
    · have hnj : n - j = 0 := by omega
      have hcs : cs.drop (j * size) = [] := List.drop_of_length_le (by rw [h.1]; exact Nat.mul_le_mul_right _ (by omega))
      rw [hnj, hcs]
      exact Rd.nil _ _ _
    · rw [if_neg hcj]
      exact rd_dropP h hj

theorem plcs_append {kv ku : List (Value × Value)} {l m : List Pl} (h : kv.length = l.length) : plcs (kv ++ ku) (l ++ m) = plcs kv l ++ plcs ku m := by
  unfold plcs
  rw [List.zip_append h, List.flatMap_append]
theorem plcs_length (kv : List (Value × Value)) (l : List Pl) (h : kv.length = l.length) : (plcs kv l).length = l.length * 5 := by
  unfold plcs
  have : ∀ l : List ((Value × Value) × Pl), (l.flatMap fun q => plc q.1.1 q.1.2 q.2).length = l.length * 5 := fun l => by
    induction l with
    | nil => rfl
    | cons x l ih => rw [List.flatMap_cons, List.length_append, ih, List.length_cons]; simp [plc]; omega
  rw [this, List.length_zip]
  omega
theorem plcs_take {kv : List (Value × Value)} {l : List Pl} (h : kv.length = l.length) (k : Nat) (hk : k ≤ l.length) : (plcs kv l).take (k * 5) = plcs (kv.take k) (l.take k) := by
  have h1 : (kv.take k).length = (l.take k).length := by simp [h]
  conv => lhs; rw [← List.take_append_drop k kv, ← List.take_append_drop k l, plcs_append h1]
  rw [List.take_left' (by rw [plcs_length _ _ h1, List.length_take, Nat.min_eq_left hk])]
theorem plcs_drop {kv : List (Value × Value)} {l : List Pl} (h : kv.length = l.length) (k : Nat) (hk : k ≤ l.length) : (plcs kv l).drop (k * 5) = plcs (kv.drop k) (l.drop k) := by
  have h1 : (kv.take k).length = (l.take k).length := by simp [h]
  conv => lhs; rw [← List.take_append_drop k kv, ← List.take_append_drop k l, plcs_append h1]
  rw [List.drop_left' (by rw [plcs_length _ _ h1, List.length_take, Nat.min_eq_left hk])]
theorem plcs_oneCell {w : World} {kv : List (Value × Value)} {l : List Pl} (h : kv.length = l.length) (he : ∀ (i : Nat) (h : i < l.length), PlC w (kv[i]'(by omega)).1 (kv[i]'(by omega)).2 l[i]) : ∀ u ∈ plcs kv l, u.oneCell' = true := by
  intro u hu
  obtain ⟨p, hp, hu⟩ := List.mem_flatMap.1 hu
  obtain ⟨i, hi, rfl⟩ := List.getElem_of_mem hp
  rw [List.length_zip] at hi
  rw [List.getElem_zip] at hu
  obtain ⟨⟨a, c, h2⟩, a', c', h3⟩ := (he i (by omega)).shape
  simp only [plc, List.mem_cons, List.not_mem_nil, or_false] at hu
  rcases hu with rfl | rfl | rfl | rfl | rfl
  · rfl
  · rfl
  · rfl
  · rw [h2]; rfl
  · rw [h3]; rfl
theorem eachp_zip {w : World} {kv : List (Value × Value)} {l : List Pl} (h : kv.length = l.length) : (∀ (i : Nat) (h : i < l.length), PlC w (kv[i]'(by omega)).1 (kv[i]'(by omega)).2 l[i]) ↔ ∀ p ∈ kv.zip l, PlC w p.1.1 p.1.2 p.2 := by
  constructor
  · intro he p hp
    obtain ⟨i, hi, rfl⟩ := List.getElem_of_mem hp
    rw [List.length_zip] at hi
    rw [List.getElem_zip]
    exact he i (by omega)
  · intro he i hi
    have := he ((kv.zip l)[i]'(by rw [List.length_zip]; omega)) (List.getElem_mem _)
    rwa [List.getElem_zip] at this
/-- A table laid into a row, at a place. -/
theorem PlsR.put {w0 w : World} {B j : Nat} {L' x y : Value} {l : List Pl} {p : Pl} {kv : List (Value × Value)} (hl : kv.length = l.length) (hj : j ≤ l.length) (heach : ∀ (i : Nat) (h : i < l.length), PlC w0 (kv[i]'(by omega)).1 (kv[i]'(by omega)).2 l[i])
    (he : PlC w0 x y p) (hrow : w.ownsRow B 41 5 L' (j + 1 + (l.length - j)) (plcs (kv.take j) (l.take j) ++ plc x y p ++ plcs (kv.drop j) (l.drop j))) : PlsR w0 w B L' (l.take j ++ [p] ++ l.drop j) := by
  have h1 : (kv.take j).length = (l.take j).length := by simp [hl]
  have h3 : (kv.take j ++ [(x, y)]).length = (l.take j ++ [p]).length := by simp [hl]
  have h2 : (kv.take j ++ [(x, y)] ++ kv.drop j).length = (l.take j ++ [p] ++ l.drop j).length := by simp [hl]
  refine ⟨_, h2, ?_, (eachp_zip h2).2 ?_⟩
  · rw [plcs_append h3, plcs_append h1, show plcs [(x, y)] [p] = plc x y p from by simp [plcs]]
    have e1 : (l.take j ++ [p] ++ l.drop j).length = j + 1 + (l.length - j) := by simp; omega
    rw [e1]
    exact hrow
  · intro q hq
    rw [List.zip_append h3, List.zip_append h1, List.mem_append, List.mem_append] at hq
    have hz := (eachp_zip hl).1 heach
    have e2 : kv.zip l = (kv.take j).zip (l.take j) ++ (kv.drop j).zip (l.drop j) := by
      rw [← List.zip_append h1, List.take_append_drop, List.take_append_drop]
    rcases hq with (hq | hq) | hq
    · exact hz q (by rw [e2]; exact List.mem_append_left _ hq)
    · simp only [List.zip_cons_cons, List.zip_nil_left, List.mem_singleton] at hq
      subst hq
      exact he
    · exact hz q (by rw [e2]; exact List.mem_append_right _ hq)
theorem pbma_later {w w' : World} {b o : Nat} {x y p q r : Value} (hb : Below w.heap.size w w') (h : w.cell? ⟨b, o, none⟩ = some p ∧ w.cell? ⟨b, o + 1, none⟩ = some q ∧ w.cell? ⟨b, o + 2, none⟩ = some r ∧ w.cell? ⟨b, o + 3, none⟩ = some x ∧ w.cell? ⟨b, o + 4, none⟩ = some y) :
    w'.cell? ⟨b, o, none⟩ = some p ∧ w'.cell? ⟨b, o + 1, none⟩ = some q ∧ w'.cell? ⟨b, o + 2, none⟩ = some r ∧ w'.cell? ⟨b, o + 3, none⟩ = some x ∧ w'.cell? ⟨b, o + 4, none⟩ = some y :=
  ⟨cell_later hb h.1, cell_later hb h.2.1, cell_later hb h.2.2.1, cell_later hb h.2.2.2.1, cell_later hb h.2.2.2.2⟩
theorem le_of_belowP {a b : World} (h : Below a.heap.size a b) : a.heap.size ≤ b.heap.size := h.size
theorem below_undrew {a b : World} (h : Below a.heap.size a b) : Below a.drew.heap.size a.drew b := ⟨h.os, h.tape, h.output, h.size, h.block⟩
theorem PlsR.setRow_low {w0 w : World} {B K : Nat} {v : Value} {l : List Pl} {cs : Array Value} (h : PlsR w0 w B v l) (hK : K < B) : PlsR w0 (w.setRow K cs) B v l := by
  obtain ⟨kv, h1, h2, h3⟩ := h
  exact ⟨kv, h1, owns_setRow_low h2 hK, h3⟩
end Go.Proofs.Ytpodgocmcnkfdaa
