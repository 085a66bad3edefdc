/- slices.Clone at flights, (*Session).Flights, walked. -/
import Derived.Test.YtgimbocoamnkjaaRec
namespace Go.Proofs.Ytgimbocoamnkjaa
open Go.RowKit

set_option maxRecDepth 100000 in
set_option maxHeartbeats 1000000 in
theorem clonefl_any (ad : Option Addr) (n c : Nat) (xs : List Value) (w : World) (hr : Rd w 16 ad n xs) (hone : ∀ u ∈ xs, u.oneCell' = true) (h1 : n ≤ c) (h3 : ad = none → c = 0) (hn : n ≤ 1000000) (R : Ending → World → Prop)
    (hR : ∀ ad' c' w', w'.ownsRow w.heap.size 54 16 (.slice ad' n c') n xs → Below w.heap.size w w' → R (.returned (.slice ad' n c')) w') :
    Calls Try.prog 19 #[.slice ad n c] w R := by
  have HR := Lib.hid hR
  clear hR
  cases ad with
  | none =>
    have hc : c = 0 := h3 rfl
    subst hc
    obtain rfl : n = 0 := by omega
    have hx : xs = [] := List.eq_nil_of_length_eq_zero (by have := hr.1; omega)
    subst hx
    have he : ∀ w : World, (binOp .eql 36 (.slice none 0 0) (.slice none 0 0)).run Try.prog w = .ok (.bool true) w := fun _ => rfl
    go_enter Try.func19, Try.ntmps19
    go_wp2
    exact HR.out none 0 _ (World.ownsRow_nil _ _ _ _) (Below.refl _ _)
  | some a =>
    have he : ∀ w : World, (binOp .eql 36 (.slice (some a) n c) (.slice none 0 0)).run Try.prog w = .ok (.bool false) w := fun _ => rfl
    have hown := (World.ownsRow_made (base := w.heap.size) (e := 54) (size := 16) w #[] 0 (Nat.le_refl _) (by unfold maxLen; omega) rfl)
    have hr1 := rd_alloc hr (.cells #[] 54)
    have HOC := Lib.hid hone
    go_enter Try.func19, Try.ntmps19
    go_wp2_with (at_builtin; go_must (refine wpList_app (by rfl) (.tmp 5) (.tmp 6) 36 (by rfl) w.heap.size 54 (Value.agg #[.int .i64 0, .int .i64 0, .string ⟨#[]⟩, .slice none 0 0, .int .i64 0, .bool false, .string ⟨#[]⟩, .int .i64 0, .slice none 0 0, .int .i64 0, .int .i64 0, .int .i64 0, .int .i64 0, .bool false, .slice none 0 0, .string ⟨#[]⟩]) 16 200 Try.underlying36 infoFl rfl (by decide) _ _ _ _ rfl hown _ _ _ _ rfl hr1 HOC.out h3 (by unfold maxLen; omega) (by omega) (by simp) ?_))
    intro ad2 c2 w2 hown2 hg2
    have hb2 := below_app ((Below.refl w.heap.size w).alloc (Nat.le_refl _) _) hg2 (by simp) hown
    have HB2 := Lib.hid hb2
    have HO2 := Lib.hid hown2
    clear hg2 hown hr1 hr hown2 hb2
    go_wp2
    exact HR.out _ _ _ (by have := HO2.out; simpa using this) HB2.out

/-- A row of flights, the item of one written over. -/
theorem set_item {w : World} {B g c : Nat} {ps : List (V3 × Fl)} {k : Nat} (hk : k < ps.length) (h : w.ownsRow B 54 16 (.slice (some ⟨g, 0, none⟩) ps.length c) ps.length (ps.flatMap flP)) (vs : List Value) (p : V3 × Fl)
    (h0 : (flP p)[0]? = (flP ps[k])[0]?) (h1 : (flP p)[1]? = (flP ps[k])[1]?) (h2 : ∀ j, j < 14 → (flP p)[j + 2]? = vs[j]?) (hv : vs.length = 14) :
    (w.setCells g (k * 16 + 2) vs).ownsRow B 54 16 (.slice (some ⟨g, 0, none⟩) ps.length c) ps.length ((ps.set k p).flatMap flP) := by
  have hlen : (ps.set k p).length = ps.length := by simp
  refine ⟨by rw [flatN_length 16 flP flP_length, hlen], ?_⟩
  rcases h.2 with ⟨hv, h0⟩ | ⟨g', cap, cur, hv', hB, hg, e1, e2, e3, e4⟩
  · cases hv
  · simp only [Value.slice.injEq, Option.some.injEq, Addr.mk.injEq] at hv'
    obtain ⟨⟨rfl, -, -⟩, -, rfl⟩ := hv'
    obtain ⟨cur2, m1, m2, m3⟩ := heap_setCells_row g 54 vs (k * 16 + 2) w cur hg
    refine .inr ⟨g, c, cur2, rfl, hB, m1, e1, e2, by rw [m2]; exact e3, ?_⟩
    have hcs : ps.length * 16 ≤ cur.size := by
      have := congrArg List.length e4
      rw [flatN_length 16 flP flP_length, List.length_take] at this
      simp at this
      omega
    have hat : ∀ j, j < ps.length * 16 → cur[j]? = (ps.flatMap flP)[j]? := fun j hj => by
      rw [← e4, List.getElem?_take, if_pos hj]
      simp
    apply List.ext_getElem?
    intro j
    rw [List.getElem?_take]
    by_cases hj : j < ps.length * 16
    · rw [if_pos hj]
      have e0 : cur2.toList[j]? = cur2[j]? := by simp
      have hi : j / 16 < ps.length := by omega
      have hr : j % 16 < 16 := Nat.mod_lt _ (by omega)
      have hji : j / 16 * 16 + j % 16 = j := by omega
      have hs := flatN 16 flP flP_length (ps.set k p) (j / 16) (j % 16) (by simpa using hi) hr
      have ho := flatN 16 flP flP_length ps (j / 16) (j % 16) hi hr
      rw [hji] at hs ho
      have hk16 : k * 16 + 2 + 14 ≤ ps.length * 16 := by omega
      rw [e0, m3, hs, hv]
      by_cases hkj : j / 16 = k
      · have hset : (ps.set k p)[j / 16]'(by simpa using hi) = p := by simp [hkj]
        rw [hset]
        by_cases c1 : k * 16 + 2 ≤ j
        · rw [if_pos (by omega)]
          have := h2 (j - (k * 16 + 2)) (by omega)
          rw [← this]
          congr 1
          omega
        · have hpk : ps[j / 16] = ps[k] := by congr
          rw [if_neg (by omega), hat j hj, ho, hpk]
          by_cases c2 : j % 16 = 0
          · rw [c2, h0]
          · rw [show j % 16 = 1 by omega, h1]
      · have hset : (ps.set k p)[j / 16]'(by simpa using hi) = ps[j / 16] := by
          rw [List.getElem_set_ne (by omega)]
        rw [hset, if_neg (by omega), hat j hj, ho]
    · rw [if_neg hj, List.getElem?_eq_none (by rw [flatN_length 16 flP flP_length, hlen]; omega)]

/-- The first k flights of a row are copies; the others are as they were. -/
structure FCp (w wr : World) (B k : Nat) (v : Value) (ps qs : List (V3 × Fl)) : Prop where
  len : qs.length = ps.length
  eqs : qs.map (·.2) = ps.map (·.2)
  row : wr.ownsRow B 54 16 v ps.length (qs.flatMap flP)
  new : ∀ (j : Nat) (h : j < qs.length), j < k → ImO wr B (qs[j]).1.1 (qs[j]).1.2.1 (qs[j]).1.2.2 (qs[j]).2.item
  old : ∀ (j : Nat) (h : j < qs.length), k ≤ j → ImC w (qs[j]).1.1 (qs[j]).1.2.1 (qs[j]).1.2.2 (qs[j]).2.item
  reach : ∀ p ∈ qs, ImB p.2.item
theorem FCp.below {w wr wr' : World} {B k : Nat} {v : Value} {ps qs : List (V3 × Fl)} (h : FCp w wr B k v ps qs) (hb : Below wr.heap.size wr wr') : FCp w wr' B k v ps qs :=
  ⟨h.len, h.eqs, owns_below h.row hb, fun j hj hk => (h.new j hj hk).below hb, h.old, h.reach⟩
theorem FCp.step {w wr : World} {B k g c : Nat} {ps qs : List (V3 × Fl)} (h : FCp w wr B k (.slice (some ⟨g, 0, none⟩) ps.length c) ps qs) (hk : k < qs.length) {v1 v2 v3 : Value} {f : Fl} (hf : (qs[k]).2 = f) (ho : ImO wr B v1 v2 v3 f.item) :
    FCp w (wr.setCells g (k * 16 + 2) [.string (str f.item.note.topic), v1, .int .i64 f.item.note.qos, .bool f.item.note.retain, .string (str f.item.note.src), .int .i64 f.item.note.expires, v2, .int .i64 f.item.note.origin, .int .i64 f.item.note.number, .int .i64 f.item.note.hops, .int .i64 f.item.qos, .bool f.item.keep, v3, .string (str f.item.share)]) B (k + 1) (.slice (some ⟨g, 0, none⟩) ps.length c) ps (qs.set k ((v1, v2, v3), f)) := by
  have hrow := h.row
  rw [← h.len] at hrow
  have hset := set_item hk hrow [.string (str f.item.note.topic), v1, .int .i64 f.item.note.qos, .bool f.item.note.retain, .string (str f.item.note.src), .int .i64 f.item.note.expires, v2, .int .i64 f.item.note.origin, .int .i64 f.item.note.number, .int .i64 f.item.note.hops, .int .i64 f.item.qos, .bool f.item.keep, v3, .string (str f.item.share)] ((v1, v2, v3), f) (by rw [← hf]; rfl) (by rw [← hf]; rfl) (fun j _ => rfl) rfl
  rw [h.len] at hset
  obtain ⟨cur, hg⟩ : ∃ cur : Array Value, wr.heap[g]? = some (.cells cur 54 (0, 0)) := by
    rcases hrow.2 with ⟨hv, h0⟩ | ⟨g', cap, cur, hv, hB, hg, _⟩
    · cases hv
    · simp only [Value.slice.injEq, Option.some.injEq, Addr.mk.injEq] at hv
      obtain ⟨⟨rfl, -, -⟩, -, rfl⟩ := hv
      exact ⟨cur, hg⟩
  have hgr := grownBy_setCells g [.string (str f.item.note.topic), v1, .int .i64 f.item.note.qos, .bool f.item.note.retain, .string (str f.item.note.src), .int .i64 f.item.note.expires, v2, .int .i64 f.item.note.origin, .int .i64 f.item.note.number, .int .i64 f.item.note.hops, .int .i64 f.item.qos, .bool f.item.keep, v3, .string (str f.item.share)] (k * 16 + 2) wr
  refine ⟨by rw [List.length_set, h.len], ?_, hset, fun j hj hjk => ?_, fun j hj hjk => ?_, fun p hp => ?_⟩
  · rw [List.map_set, ← h.eqs]
    apply List.ext_getElem?
    intro j
    rw [List.getElem?_set]
    split
    · rename_i e
      subst e
      simp [hk, hf]
    · rfl
  · by_cases e : j = k
    · subst e
      simp only [List.getElem_set_self]
      exact ho.typed hg (by decide) (by decide) (by decide) hgr
    · have hj' : j < qs.length := by simpa using hj
      rw [List.getElem_set_ne (fun h => e h.symm)]
      exact (h.new j hj' (by omega)).typed hg (by decide) (by decide) (by decide) hgr
  · have hj' : j < qs.length := by simpa using hj
    rw [List.getElem_set_ne (by omega)]
    exact h.old j hj' (by omega)
  · rcases List.mem_or_eq_of_mem_set hp with hp | rfl
    · exact h.reach p hp
    · show ImB f.item
      rw [← hf]
      exact h.reach _ (List.getElem_mem hk)
end Go.Proofs.Ytgimbocoamnkjaa
