/- tidingslaw09.rows, walked: some rows, each not too long. -/
import Derived.Test.YtgkgahjdjkmmnaaLentM
namespace Go.Proofs.Ytgkgahjdjkmmnaa
open Go.RowKit

/-- A row that came in, or one of the call's own. -/
def EachR (w wr : World) (v : Value) (l : List Ent) : Prop := Es w v l ∨ (EsO wr w.heap.size v l ∧ ∀ e ∈ l, EB e)
theorem EachR.es {w wr : World} {v : Value} {l : List Ent} (h : EachR w wr v l) (hb : Below w.heap.size w wr) : Es wr v l := by
  rcases h with h | ⟨h, h2⟩
  · exact h.below hb
  · exact h.es h2
theorem EachR.below {w wr w' : World} {v : Value} {l : List Ent} (h : EachR w wr v l) (hb : Below wr.heap.size wr w') : EachR w w' v l := by
  rcases h with h | ⟨h, h2⟩
  · exact .inl h
  · exact .inr ⟨h.below hb, h2⟩
theorem EachR.grown {w wr w' : World} {B n c : Nat} {ad : Option Addr} {xs : List Value} {v : Value} {l : List Ent} (h : EachR w wr v l) (ho : wr.ownsRow B 24 1 (.slice ad n c) n xs) (hg : wr.grownBy w' (Value.slice ad n c).ownBlock) : EachR w w' v l := by
  rcases h with h | ⟨h, h2⟩
  · exact .inl h
  · right
    refine ⟨?_, h2⟩
    obtain ⟨kv, h3, h4, h5⟩ := h
    have key : ∀ {e size n : Nat} {u : Value} {ys : List Value}, e ≠ 24 → wr.ownsRow w.heap.size e size u n ys → w'.ownsRow w.heap.size e size u n ys := fun ht hr => owns_grown hr hg fun k hk hc => own_size_ne hr ho ht k hk hc.symm
    exact ⟨kv, h3, key (by decide) h4, fun i hi => ⟨key (by decide) (h5 i hi).hk, key (by decide) (h5 i hi).hv⟩⟩

theorem each_snoc {w wr w3 : World} {B : Nat} {oa : Option Addr} {n oc : Nat} {xs vs : List Value} {rs : List (List Ent)} {u : Value} {r : List Ent} {o : Obj} (hl : vs.length = rs.length) (he : ∀ (j : Nat) (h : j < rs.length), ∃ v, vs[j]? = some v ∧ EachR w wr v rs[j]) (hn : EachR w wr u r)
    (ho : wr.ownsRow B 24 1 (.slice oa n oc) n xs) (hg : (wr.alloc o).grownBy w3 (Value.slice oa n oc).ownBlock) : ∀ (j : Nat) (h : j < (rs ++ [r]).length), ∃ v, (vs ++ [u])[j]? = some v ∧ EachR w w3 v (rs ++ [r])[j] := by
  intro j h
  have hbel : Below wr.heap.size wr (wr.alloc o) := (Below.refl _ _).alloc (Nat.le_refl _) o
  have key : ∀ {v : Value} {l : List Ent}, EachR w wr v l → EachR w w3 v l := fun hx => (hx.below hbel).grown (ho.alloc o) hg
  by_cases hj : j < rs.length
  · obtain ⟨v, h1, h2⟩ := he j hj
    refine ⟨v, by rw [List.getElem?_append_left (by omega)]; exact h1, ?_⟩
    rw [List.getElem_append_left hj]
    exact key h2
  · have : j = rs.length := by rw [List.length_append] at h; simp at h; omega
    subst this
    refine ⟨u, by rw [List.getElem?_append_right (by omega), hl]; simp, ?_⟩
    rw [List.getElem_append_right (by omega)]
    simpa using key hn

set_option maxRecDepth 100000 in
set_option maxHeartbeats 8000000 in
theorem rows_any (v : Value) (ls : List (List Ent)) (order : Int) (w : World) (hv : Ess w v ls) (R : Ending → World → Prop)
    (hR : ∀ L' w' ls', ls'.length ≤ 6 → (∀ r ∈ ls', r.length ≤ 60) → Ess w' L' ls' → Below w.heap.size w w' → R (.returned L') w') :
    Calls Try.prog 9 #[v, .int .i64 order] w R := by
  have HR := Lib.hid hR
  have HV := Lib.hid hv
  clear hR
  obtain ⟨va, vc, rfl, _⟩ := hv
  go_enter Try.func9, Try.ntmps9
  go_wp2
  go_loopg [5, 6] ls.length (fun gn L i wr => ∃ (k : Nat) (vs : List Value) (rs : List (List Ent)), k ≤ ls.length ∧ k ≤ 6 ∧ gn = ls.length - k ∧ i = .int .i64 k ∧ rs.length = k ∧ Hid (wr.ownsRow w.heap.size 24 1 L k vs) ∧ Hid (∀ (j : Nat) (h : j < rs.length), ∃ v, vs[j]? = some v ∧ EachR w wr v rs[j]) ∧ Hid (∀ r ∈ rs, r.length ≤ 60) ∧ Below w.heap.size w wr)
  case atStart => exact ⟨0, [], [], by omega, by omega, by omega, rfl, rfl, Lib.hid (World.ownsRow_nil _ _ _ _), Lib.hid (fun j h => by simp at h), Lib.hid (fun r h => by simp at h), Below.refl _ _⟩
  case round =>
    obtain ⟨k, vs, rs, hk, hk6, rfl, rfl, hrl, HOWN, HEACH, HLEN, hb⟩ := hrel
    obtain ⟨oa, oc, rfl⟩ := owns_shape HOWN.out
    by_cases hlt : k < ls.length
    · have hkk : (k : Int) < (ls.length : Int) := by omega
      by_cases h6 : k < 6
      · have h6i : (k : Int) < 6 := by omega
        obtain ⟨va', vc', ee, _, _, _, v4⟩ := HV.out.below hb
        simp only [Value.slice.injEq] at ee
        obtain ⟨rfl, -, rfl⟩ := ee
        obtain ⟨vb, vo, rfl, v5⟩ := v4 (by omega)
        obtain ⟨s, hs, hes⟩ := v5 k hlt
        obtain ⟨r, hr⟩ : ∃ r, ls[k] = r := ⟨_, rfl⟩
        rw [hr] at hes
        have hsrc : Es w s r := by
          obtain ⟨ya, yc, ee, _, _, _, y4⟩ := HV.out
          simp only [Value.slice.injEq] at ee
          obtain ⟨rfl, -, rfl⟩ := ee
          obtain ⟨yb, yo, ee, y5⟩ := y4 (by omega)
          simp only [Option.some.injEq, Addr.mk.injEq, and_true] at ee
          obtain ⟨rfl, rfl⟩ := ee
          obtain ⟨s9, p9, hes9⟩ := y5 k hlt
          have e1 := hs.symm.trans (cell_later hb p9)
          rw [Option.some.inj e1, ← hr]
          exact hes9
        obtain ⟨sa, sc, rfl, hsl, _⟩ := id hes
        clear v4 v5 hr
        obtain ⟨q, hq⟩ : ∃ q, (bits BinOp.and IntKind.i64 (order / 2 ^ k) 1 == 0) = q := ⟨_, rfl⟩
        by_cases h40 : 40 < r.length
        · have h40i : (40 : Int) < (r.length : Int) := by omega
          have hsc : 40 ≤ sc := by omega
          have hes0 := hsrc.take (j := 40) (by omega)
          have hes4 := hes.take (j := 40) (by omega)
          have hl4 : (r.take 40).length ≤ 60 := by rw [List.length_take]; omega
          cases q with
          | true =>
            go_wp2_with (first
              | (go_at_call 16; go_must (refine row_any _ ((r.take 40)) _ rfl _ hes4 _ ?_); intro L2 w2 ho2 hb2; obtain ⟨l2, hl2⟩ : ∃ l2, rowL ((r.take 40)) = l2 := ⟨_, rfl⟩; have heb2 := rowL_eb hes4.eb; have hlen2 := rowL_len ((r.take 40)); rw [hl2] at ho2 heb2 hlen2; obtain ⟨la, lc, hLs⟩ := EsO.shape ho2; subst hLs; have hnew : EachR w w2 (Value.slice la l2.length lc) l2 := .inr ⟨ho2.mono hb.size, heb2⟩; have HOWN2 := Lib.hid (owns_below HOWN.out hb2); have hea2 : ∀ (j : Nat) (h : j < rs.length), ∃ v, vs[j]? = some v ∧ EachR w w2 v rs[j] := (fun j h => by obtain ⟨v, h1, h2⟩ := HEACH.out j h; exact ⟨v, h1, h2.below hb2⟩); have HEACH2 := Lib.hid hea2; have hbw2 := below_then hb hb2 hb.size; clear hea2 ho2 heb2 hl2)
              | (at_builtin; go_must (refine wpList_app (by rfl) (.tmp 35) (.tmp 37) 22 (by rfl) w.heap.size 24 (.slice none 0 0) 1 24 Try.underlying22 Try.info24 rfl (by decide) oa k oc vs (by rfl) (HOWN2.out.alloc (Obj.cells #[Value.slice la l2.length lc] 24)) _ 1 1 [Value.slice la l2.length lc] (by rfl) (rd_lit _ _ _ 1 1 rfl) (slice_oneCell _ _ _) (fun h => by cases h) (by unfold maxLen; omega) (by omega) (by have := hbw2.size; simp; omega) ?_); intro ad c w3 hown3 hg3; have hb3 : Below w.heap.size w w3 := below_app ((hbw2).alloc (hbw2).size _) hg3 (by have := (hbw2).size; simp; omega) ((HOWN2).out.alloc (Obj.cells #[Value.slice la l2.length lc] 24)); have hE3 : ∀ (j : Nat) (h : j < (rs ++ [l2]).length), ∃ v, (vs ++ [Value.slice la l2.length lc])[j]? = some v ∧ EachR w w3 v (rs ++ [l2])[j] := each_snoc (w := w) (B := w.heap.size) (by have := (HOWN2).out.1; omega) (HEACH2).out (hnew) (HOWN2).out hg3; have HE3 := Lib.hid hE3; have HO3 := Lib.hid hown3; have hL3 : ∀ x ∈ rs ++ [l2], x.length ≤ 60 := (by intro x hx; rcases List.mem_append.1 hx with hx | hx; exact HLEN.out x hx; (obtain rfl := List.mem_singleton.1 hx; exact hlen2)); have HL3 := Lib.hid hL3; clear hE3 hown3 hL3 hg3))
            go_roundg (ls.length - (k + 1))
            case measure => omega
            case rel => exact ⟨k + 1, _, _, by omega, by omega, rfl, by go_num, by rw [List.length_append]; simp; omega, HO3, HE3, HL3, hb3⟩
          | false =>
            go_wp2_with (at_builtin; go_must (refine wpList_app (by rfl) (.tmp 35) (.tmp 37) 22 (by rfl) w.heap.size 24 (.slice none 0 0) 1 24 Try.underlying22 Try.info24 rfl (by decide) oa k oc vs (by rfl) (HOWN.out.alloc (Obj.cells #[Value.slice sa 40 sc] 24)) _ 1 1 [Value.slice sa 40 sc] (by rfl) (rd_lit _ _ _ 1 1 rfl) (slice_oneCell _ _ _) (fun h => by cases h) (by unfold maxLen; omega) (by omega) (by have := hb.size; simp; omega) ?_); intro ad c w3 hown3 hg3; have hb3 : Below w.heap.size w w3 := below_app ((hb).alloc (hb).size _) hg3 (by have := (hb).size; simp; omega) ((HOWN).out.alloc (Obj.cells #[Value.slice sa 40 sc] 24)); have hE3 : ∀ (j : Nat) (h : j < (rs ++ [(r.take 40)]).length), ∃ v, (vs ++ [Value.slice sa 40 sc])[j]? = some v ∧ EachR w w3 v (rs ++ [(r.take 40)])[j] := each_snoc (w := w) (B := w.heap.size) (by have := (HOWN).out.1; omega) (HEACH).out ((.inl hes0)) (HOWN).out hg3; have HE3 := Lib.hid hE3; have HO3 := Lib.hid hown3; have hL3 : ∀ x ∈ rs ++ [(r.take 40)], x.length ≤ 60 := (by intro x hx; rcases List.mem_append.1 hx with hx | hx; exact HLEN.out x hx; (obtain rfl := List.mem_singleton.1 hx; exact hl4)); have HL3 := Lib.hid hL3; clear hE3 hown3 hL3 hg3)
            go_roundg (ls.length - (k + 1))
            case measure => omega
            case rel => exact ⟨k + 1, _, _, by omega, by omega, rfl, by go_num, by rw [List.length_append]; simp; omega, HO3, HE3, HL3, hb3⟩
        · have h40i : ¬ (40 : Int) < (r.length : Int) := by omega
          have hes0 := hsrc
          have hes4 := hes
          have hl4 : r.length ≤ 60 := by omega
          cases q with
          | true =>
            go_wp2_with (first
              | (go_at_call 16; go_must (refine row_any _ (r) _ rfl _ hes4 _ ?_); intro L2 w2 ho2 hb2; obtain ⟨l2, hl2⟩ : ∃ l2, rowL (r) = l2 := ⟨_, rfl⟩; have heb2 := rowL_eb hes4.eb; have hlen2 := rowL_len (r); rw [hl2] at ho2 heb2 hlen2; obtain ⟨la, lc, hLs⟩ := EsO.shape ho2; subst hLs; have hnew : EachR w w2 (Value.slice la l2.length lc) l2 := .inr ⟨ho2.mono hb.size, heb2⟩; have HOWN2 := Lib.hid (owns_below HOWN.out hb2); have hea2 : ∀ (j : Nat) (h : j < rs.length), ∃ v, vs[j]? = some v ∧ EachR w w2 v rs[j] := (fun j h => by obtain ⟨v, h1, h2⟩ := HEACH.out j h; exact ⟨v, h1, h2.below hb2⟩); have HEACH2 := Lib.hid hea2; have hbw2 := below_then hb hb2 hb.size; clear hea2 ho2 heb2 hl2)
              | (at_builtin; go_must (refine wpList_app (by rfl) (.tmp 35) (.tmp 37) 22 (by rfl) w.heap.size 24 (.slice none 0 0) 1 24 Try.underlying22 Try.info24 rfl (by decide) oa k oc vs (by rfl) (HOWN2.out.alloc (Obj.cells #[Value.slice la l2.length lc] 24)) _ 1 1 [Value.slice la l2.length lc] (by rfl) (rd_lit _ _ _ 1 1 rfl) (slice_oneCell _ _ _) (fun h => by cases h) (by unfold maxLen; omega) (by omega) (by have := hbw2.size; simp; omega) ?_); intro ad c w3 hown3 hg3; have hb3 : Below w.heap.size w w3 := below_app ((hbw2).alloc (hbw2).size _) hg3 (by have := (hbw2).size; simp; omega) ((HOWN2).out.alloc (Obj.cells #[Value.slice la l2.length lc] 24)); have hE3 : ∀ (j : Nat) (h : j < (rs ++ [l2]).length), ∃ v, (vs ++ [Value.slice la l2.length lc])[j]? = some v ∧ EachR w w3 v (rs ++ [l2])[j] := each_snoc (w := w) (B := w.heap.size) (by have := (HOWN2).out.1; omega) (HEACH2).out (hnew) (HOWN2).out hg3; have HE3 := Lib.hid hE3; have HO3 := Lib.hid hown3; have hL3 : ∀ x ∈ rs ++ [l2], x.length ≤ 60 := (by intro x hx; rcases List.mem_append.1 hx with hx | hx; exact HLEN.out x hx; (obtain rfl := List.mem_singleton.1 hx; exact hlen2)); have HL3 := Lib.hid hL3; clear hE3 hown3 hL3 hg3))
            go_roundg (ls.length - (k + 1))
            case measure => omega
            case rel => exact ⟨k + 1, _, _, by omega, by omega, rfl, by go_num, by rw [List.length_append]; simp; omega, HO3, HE3, HL3, hb3⟩
          | false =>
            go_wp2_with (at_builtin; go_must (refine wpList_app (by rfl) (.tmp 35) (.tmp 37) 22 (by rfl) w.heap.size 24 (.slice none 0 0) 1 24 Try.underlying22 Try.info24 rfl (by decide) oa k oc vs (by rfl) (HOWN.out.alloc (Obj.cells #[Value.slice sa r.length sc] 24)) _ 1 1 [Value.slice sa r.length sc] (by rfl) (rd_lit _ _ _ 1 1 rfl) (slice_oneCell _ _ _) (fun h => by cases h) (by unfold maxLen; omega) (by omega) (by have := hb.size; simp; omega) ?_); intro ad c w3 hown3 hg3; have hb3 : Below w.heap.size w w3 := below_app ((hb).alloc (hb).size _) hg3 (by have := (hb).size; simp; omega) ((HOWN).out.alloc (Obj.cells #[Value.slice sa r.length sc] 24)); have hE3 : ∀ (j : Nat) (h : j < (rs ++ [r]).length), ∃ v, (vs ++ [Value.slice sa r.length sc])[j]? = some v ∧ EachR w w3 v (rs ++ [r])[j] := each_snoc (w := w) (B := w.heap.size) (by have := (HOWN).out.1; omega) (HEACH).out ((.inl hes0)) (HOWN).out hg3; have HE3 := Lib.hid hE3; have HO3 := Lib.hid hown3; have hL3 : ∀ x ∈ rs ++ [r], x.length ≤ 60 := (by intro x hx; rcases List.mem_append.1 hx with hx | hx; exact HLEN.out x hx; (obtain rfl := List.mem_singleton.1 hx; exact hl4)); have HL3 := Lib.hid hL3; clear hE3 hown3 hL3 hg3)
            go_roundg (ls.length - (k + 1))
            case measure => omega
            case rel => exact ⟨k + 1, _, _, by omega, by omega, rfl, by go_num, by rw [List.length_append]; simp; omega, HO3, HE3, HL3, hb3⟩
      · have h6i : ¬ (k : Int) < 6 := by omega
        go_wp2
        exact HR.out _ _ rs (by omega) HLEN.out (ess_of_own HOWN.out (by omega) fun j hj => by obtain ⟨v, h1, h2⟩ := HEACH.out j hj; exact ⟨v, h1, h2.es hb⟩) hb
    · have hkk : ¬ (k : Int) < (ls.length : Int) := by omega
      go_wp2
      exact HR.out _ _ rs (by omega) HLEN.out (ess_of_own HOWN.out (by omega) fun j hj => by obtain ⟨v, h1, h2⟩ := HEACH.out j hj; exact ⟨v, h1, h2.es hb⟩) hb
end Go.Proofs.Ytgkgahjdjkmmnaa
