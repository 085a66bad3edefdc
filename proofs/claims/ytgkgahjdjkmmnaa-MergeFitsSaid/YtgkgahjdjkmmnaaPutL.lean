/- Entries put into a row, in plain lists; rows of entries under slices, stores, growth. -/
import Derived.Test.YtgkgahjdjkmmnaaMergeP
import Derived.Test.YtgkgahjdjkmmnaaTwinE
namespace Go.Proofs.Ytgkgahjdjkmmnaa
open Go.RowKit

theorem putG_skip {α : Type} (lt : α → α → Bool) (e : α) : ∀ (l : List α) (k : Nat), (∀ a ∈ l.take k, lt a e = true) → putG lt l e = l.take k ++ putG lt (l.drop k) e
  | l, 0, _ => by simp
  | [], k + 1, _ => by simp
  | a :: l, k + 1, h => by
    have h1 : lt a e = true := h a (by simp)
    rw [List.take_succ_cons, List.drop_succ_cons, List.cons_append, ← putG_skip lt e l k (fun x hx => h x (by rw [List.take_succ_cons]; exact List.mem_cons_of_mem _ hx))]
    conv => lhs; unfold putG
    rw [if_pos h1]

theorem putE_in {l : List Ent} {e : Ent} {k : Nat} (hk : k ≤ l.length) (h : ∀ a ∈ l.take k, lessE a e = true) (hs : ∀ hlt : k < l.length, lessE l[k] e = false ∧ lessE e l[k] = true) : putE l e = l.take k ++ e :: l.drop k := by
  unfold putE
  rw [putG_skip lessE e l k h]
  by_cases hlt : k < l.length
  · rw [List.drop_eq_getElem_cons hlt]
    conv => lhs; unfold putG
    rw [if_neg (by rw [(hs hlt).1]; simp), if_pos (hs hlt).2]
  · rw [List.drop_of_length_le (by omega)]
    rfl
theorem putE_out {l : List Ent} {e : Ent} {k : Nat} (h : ∀ a ∈ l.take k, lessE a e = true) (hlt : k < l.length) (hs : lessE l[k] e = false ∧ lessE e l[k] = false) : putE l e = l := by
  unfold putE
  rw [putG_skip lessE e l k h, List.drop_eq_getElem_cons hlt]
  conv => lhs; unfold putG
  rw [if_neg (by rw [hs.1]; simp), if_neg (by rw [hs.2]; simp), ← List.drop_eq_getElem_cons hlt, List.take_append_drop]

theorem rd_takeN {w : World} {size n m : Nat} {ad : Option Addr} {cs : List Value} (h : Rd w size ad n cs) (hm : m ≤ n) : Rd w size ad m (cs.take (m * size)) := by
  have hms := Nat.mul_le_mul_right size hm
  refine ⟨by have := h.1; rw [List.length_take]; omega, fun h0 => ?_⟩
  obtain ⟨b, o, e, hc⟩ := h.2 (by omega)
  refine ⟨b, o, e, fun j hj => ?_⟩
  rw [hc j (by omega), List.getElem?_take, if_pos (by omega)]
theorem rd_dropN {w : World} {size n m : Nat} {ad : Option Addr} {cs : List Value} (h : Rd w size ad n cs) (hm : m ≤ n) : Rd w size (ad.map (·.add (m * size))) (n - m) (cs.drop (m * size)) := by
  have hms := Nat.mul_le_mul_right size hm
  have hsub : (n - m) * size = n * size - m * size := Nat.sub_mul _ _ _
  refine ⟨by have := h.1; rw [List.length_drop]; omega, fun h0 => ?_⟩
  obtain ⟨b, o, rfl, hc⟩ := h.2 (by omega)
  refine ⟨b, o + m * size, by rw [Option.map_some, Addr.add_lit], fun j hj => ?_⟩
  rw [Nat.add_assoc, hc (m * size + j) (by omega), List.getElem?_drop]

theorem ecs_append {kv ku : List (Value × Value)} {l m : List Ent} (h : kv.length = l.length) : ecs (kv ++ ku) (l ++ m) = ecs kv l ++ ecs ku m := by
  unfold ecs
  rw [List.zip_append h, List.flatMap_append]
theorem ecs_take {kv : List (Value × Value)} {l : List Ent} (h : kv.length = l.length) (k : Nat) (hk : k ≤ l.length) : (ecs kv l).take (k * 4) = ecs (kv.take k) (l.take k) := by
  have h1 : (kv.take k).length = (l.take k).length := by simp [h]
  conv => lhs; rw [← List.take_append_drop k kv, ← List.take_append_drop k l, ecs_append h1]
  rw [List.take_left' (by rw [ecs_length _ _ h1, List.length_take, Nat.min_eq_left hk])]
theorem ecs_drop {kv : List (Value × Value)} {l : List Ent} (h : kv.length = l.length) (k : Nat) (hk : k ≤ l.length) : (ecs kv l).drop (k * 4) = ecs (kv.drop k) (l.drop k) := by
  have h1 : (kv.take k).length = (l.take k).length := by simp [h]
  conv => lhs; rw [← List.take_append_drop k kv, ← List.take_append_drop k l, ecs_append h1]
  rw [List.drop_left' (by rw [ecs_length _ _ h1, List.length_take, Nat.min_eq_left hk])]
theorem ecs_oneCell {w : World} {B : Nat} {kv : List (Value × Value)} {l : List Ent} (h : kv.length = l.length) (he : ∀ (i : Nat) (h : i < l.length), EO w B (kv[i]'(by omega)).1 (kv[i]'(by omega)).2 l[i]) : ∀ u ∈ ecs kv l, u.oneCell' = true := by
  intro u hu
  obtain ⟨p, hp, hu⟩ := List.mem_flatMap.1 hu
  obtain ⟨i, hi, rfl⟩ := List.getElem_of_mem hp
  rw [List.length_zip] at hi
  rw [List.getElem_zip] at hu
  have h1 := he i (by omega)
  obtain ⟨a, c, h2⟩ := owns_shape h1.hk
  obtain ⟨a', c', h3⟩ := owns_shape h1.hv
  simp only [ec, List.mem_cons, List.not_mem_nil, or_false] at hu
  rcases hu with rfl | rfl | rfl | rfl
  · rw [h2]; rfl
  · rw [h3]; rfl
  · rfl
  · rfl

theorem EO.below {w w' : World} {B : Nat} {k v : Value} {e : Ent} (h : EO w B k v e) (hb : Below w.heap.size w w') : EO w' B k v e := ⟨owns_below h.hk hb, owns_below h.hv hb⟩
theorem EO.mono {w : World} {B B' : Nat} {k v : Value} {e : Ent} (h : EO w B k v e) (hb : B' ≤ B) : EO w B' k v e := ⟨owns_mono h.hk hb, owns_mono h.hv hb⟩
theorem EsO.below {w w' : World} {B : Nat} {v : Value} {l : List Ent} (h : EsO w B v l) (hb : Below w.heap.size w w') : EsO w' B v l := by
  obtain ⟨kv, h1, h2, h3⟩ := h
  exact ⟨kv, h1, owns_below h2 hb, fun i hi => (h3 i hi).below hb⟩
theorem EsO.mono {w : World} {B B' : Nat} {v : Value} {l : List Ent} (h : EsO w B v l) (hb : B' ≤ B) : EsO w B' v l := by
  obtain ⟨kv, h1, h2, h3⟩ := h
  exact ⟨kv, h1, owns_mono h2 hb, fun i hi => (h3 i hi).mono hb⟩
/-- Under writes to a block of another type. -/
theorem EsO.other {w w' : World} {B K t : Nat} {fr : Nat × Nat} {cs : Array Value} {v : Value} {l : List Ent} (h : EsO w B v l) (hg : w.grownBy w' (some K)) (hK : w.heap[K]? = some (.cells cs t fr)) (h1 : t ≠ 27) (h2 : t ≠ 5) : EsO w' B v l := by
  obtain ⟨kv, q1, q2, q3⟩ := h
  have key : ∀ {e size n : Nat} {u : Value} {xs : List Value}, t ≠ e → w.ownsRow B e size u n xs → w'.ownsRow B e size u n xs := fun ht ho => owns_grown ho hg fun k hk hc => own_block_ne hK ho ht (by rw [hk]; exact hc)
  exact ⟨kv, q1, key h1 q2, fun i hi => ⟨key h2 (q3 i hi).hk, key h2 (q3 i hi).hv⟩⟩
theorem grownBy_below {w w' : World} {row : Option Nat} (h : Below w.heap.size w w') : w.grownBy w' row := ⟨h.os, h.tape, h.output, h.size, fun k hk _ => h.block k hk⟩

/-- 's[j:]', the address under a name. -/
theorem slice_from {P : Program} {t e : TypeId} {La : Option Addr} {n c j size bytes : Nat} {z : Value} (ht : P.underlying t = some (.slice e)) (hinfo : (P.info? e).map (fun i => (i.zero, i.size, i.bytes)) = some (some z, size, bytes)) (hj : j ≤ n) (hc : n ≤ c) (hnil : La = none → c = 0) :
    ∃ Lx, (∀ w, (Instr.slice t (.slice La n c) (some (.int .i64 (j : Int))) none none).run P w = .ok (.slice Lx (n - j) (c - j)) w) ∧ (Lx = none → c - j = 0) ∧ ∀ w cs, Rd w size La n cs → Rd w size Lx (n - j) (cs.drop (j * size)) := by
  obtain ⟨i, hi, hz, hi1, hi2⟩ := info_parts hinfo
  have he : P.elem t = e := by simp [Program.elem, ht]
  refine ⟨if c = j then La else La.map (·.add (j * size)), fun w => ?_, fun h => ?_, fun w cs h => ?_⟩
  · rw [run_slice_l (P := P) w t La n c (by rw [he]; exact ht) .i64 j (by omega) (by omega), he]
    simp [sizeOf, typeInfo, hi, hi1, sliced]
  · by_cases hcj : c = j
    · omega
    · rw [if_neg hcj] at h
      have := hnil (by simpa using h)
      omega
  · by_cases hcj : c = j
    · have hnj : n - j = 0 := by omega
      have hcs : cs.drop (j * size) = [] := List.drop_of_length_le (by rw [h.1]; exact Nat.mul_le_mul_right _ (by omega))
      rw [hnj, hcs]
      exact Rd.nil _ _ _
    · rw [if_neg hcj]
      exact rd_dropN h hj

theorem each_zip {w : World} {B : Nat} {kv : List (Value × Value)} {l : List Ent} (h : kv.length = l.length) : (∀ (i : Nat) (h : i < l.length), EO w B (kv[i]'(by omega)).1 (kv[i]'(by omega)).2 l[i]) ↔ ∀ p ∈ kv.zip l, EO w B p.1.1 p.1.2 p.2 := by
  constructor
  · intro he p hp
    obtain ⟨i, hi, rfl⟩ := List.getElem_of_mem hp
    rw [List.length_zip] at hi
    rw [List.getElem_zip]
    exact he i (by omega)
  · intro he i hi
    have hz : i < (kv.zip l).length := by rw [List.length_zip]; omega
    have := he (kv.zip l)[i] (List.getElem_mem hz)
    rw [List.getElem_zip] at this
    exact this

/-- One entry more in the midst of a row. -/
theorem EsO.put {w : World} {B j : Nat} {L' k v : Value} {l : List Ent} {e : Ent} {kv : List (Value × Value)} (hl : kv.length = l.length) (hj : j ≤ l.length) (heach : ∀ (i : Nat) (h : i < l.length), EO w B (kv[i]'(by omega)).1 (kv[i]'(by omega)).2 l[i])
    (he : EO w B k v e) (hrow : w.ownsRow B 27 4 L' (j + 1 + (l.length - j)) (ecs (kv.take j) (l.take j) ++ [k, v, .int .i64 e.seq, .bool e.dead] ++ ecs (kv.drop j) (l.drop j))) : EsO w B L' (l.take j ++ e :: l.drop j) := by
  have h1 : (kv.take j).length = (l.take j).length := by simp [hl]
  have h2 : (kv.take j ++ (k, v) :: kv.drop j).length = (l.take j ++ e :: l.drop j).length := by simp [hl]
  refine ⟨_, h2, ?_, (each_zip h2).2 ?_⟩
  · rw [ecs_append h1, show ecs ((k, v) :: kv.drop j) (e :: l.drop j) = [k, v, .int .i64 e.seq, .bool e.dead] ++ ecs (kv.drop j) (l.drop j) from rfl, ← List.append_assoc]
    have e1 : (l.take j ++ e :: l.drop j).length = j + 1 + (l.length - j) := by simp; omega
    rw [e1]
    exact hrow
  · intro p hp
    rw [List.zip_append h1, List.mem_append, List.zip_cons_cons, List.mem_cons] at hp
    have hz := (each_zip hl).1 heach
    have e2 : kv.zip l = (kv.take j).zip (l.take j) ++ (kv.drop j).zip (l.drop j) := by
      rw [← List.zip_append h1, List.take_append_drop, List.take_append_drop]
    rcases hp with hp | rfl | hp
    · exact hz p (by rw [e2]; exact List.mem_append_left _ hp)
    · exact he
    · exact hz p (by rw [e2]; exact List.mem_append_right _ hp)
/-- Under a store into a block of another type. -/
theorem EsO.set {w : World} {B K i t : Nat} {cs : Array Value} {v u : Value} {l : List Ent} (h : EsO w B v l) (hK : w.heap[K]? = some (.cells cs t (0, 0))) (h1 : t ≠ 27) (h2 : t ≠ 5) : EsO (w.setCell ⟨K, i, none⟩ u) B v l :=
  h.other (grownBy_setCell w ⟨K, i, none⟩ u) hK h1 h2
theorem le_of_below {a b : World} (h : Below a.heap.size a b) : a.heap.size ≤ b.heap.size := h.size
end Go.Proofs.Ytgkgahjdjkmmnaa
