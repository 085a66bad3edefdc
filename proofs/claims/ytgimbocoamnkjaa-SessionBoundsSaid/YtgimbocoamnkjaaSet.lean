/- ident.Set, walked: a set of numbers behind a pointer. -/
import Derived.Test.YtgimbocoamnkjaaSafe
import Derived.Maps.OwnSet
import Derived.Deep.LoopGhost
namespace Go.Proofs.Ytgimbocoamnkjaa
open Go.RowKit

theorem Try.keyed3 : Maps.Keyed Try.prog 3 := Maps.int_keyed Try.underlying3
theorem Try.zero90 (w : World) : (zeroValue 90).run Try.prog w = .ok (.agg #[]) w := by kernel_rfl

/-- int's range. -/
def I64 (n : Int) : Prop := -9223372036854775808 ≤ n ∧ n ≤ 9223372036854775807
theorem I64.key {n : Int} (h : I64 n) : keyOf Try.prog 3 (.int .i64 n) = some (.int .i64 n) := Maps.keyOf_int_mk Try.underlying3 (WalkArith.wf_i64 h)

/-- Block m is a map with just the keys l. -/
structure Nu (w : World) (m : Nat) (l : List Int) : Prop where
  nd : l.Nodup
  rg : ∀ x ∈ l, 1 ≤ x ∧ x ≤ 65535
  ex : ∃ D : DataW Unit, w.ownsMap Try.prog 3 unitElem m l.length D ∧ (∀ n : Int, Maps.has D (.int .i64 n) = l.contains n) ∧ Maps.size D = l.length
theorem ownsMap_of_block {H : Type} {P : Program} {k : TypeId} {R : Value → Option (DataW H × List MemPlace)} {b n : Nat} {D : DataW H} {w w' : World} (h : w.ownsMap P k R b n D) (e : w'.heap[b]? = w.heap[b]?) : w'.ownsMap P k R b n D := by
  obtain ⟨es, clock, hb, r⟩ := h
  exact ⟨es, clock, e.trans hb, r⟩
theorem ownsMap_tight {H : Type} {P : Program} {k : TypeId} {R : Value → Option (DataW H × List MemPlace)} {b n : Nat} {D : DataW H} {w : World} (h : w.ownsMap P k R b n D) : w.ownsMap P k R b (Maps.size D) D := by
  obtain ⟨es, clock, hb, F, _, rfl⟩ := h
  refine ⟨es, clock, hb, F, ?_, rfl⟩
  rw [Maps.size_eq, length_sorted]
  simp
theorem Nu.lt {w : World} {m : Nat} {l : List Int} (h : Nu w m l) : m < w.heap.size := by
  obtain ⟨D, h1, _⟩ := h.ex
  exact h1.lt
theorem Nu.of_block {w w' : World} {m : Nat} {l : List Int} (h : Nu w m l) (e : w'.heap[m]? = w.heap[m]?) : Nu w' m l := by
  obtain ⟨D, h1, h2⟩ := h.ex
  exact ⟨h.nd, h.rg, D, ownsMap_of_block h1 e, h2⟩
theorem Nu.below {w w' : World} {m : Nat} {l : List Int} (h : Nu w m l) (hb : Below w.heap.size w w') : Nu w' m l := h.of_block (hb.block m h.lt)
theorem Nu.grown {w w' : World} {m : Nat} {l : List Int} {row : Option Nat} (h : Nu w m l) (hg : w.grownBy w' row) (hr : row ≠ some m) : Nu w' m l := h.of_block (hg.block m h.lt (fun e => hr e.symm))
theorem Nu.put {w' : World} {m n : Nat} {l : List Int} {D : DataW Unit} {d : Int} (nd : l.Nodup) (rg : ∀ x ∈ l, 1 ≤ x ∧ x ≤ 65535) (hD : Maps.Tidy D) (hh : ∀ n : Int, Maps.has D (.int .i64 n) = l.contains n) (hs : Maps.size D = l.length)
    (h : w'.ownsMap Try.prog 3 unitElem m n (D.put (.int .i64 d) (.agg []))) (h1 : 1 ≤ d ∧ d ≤ 65535) (hd : l.contains d = false) : Nu w' m (l ++ [d]) := by
  have hne : d ∉ l := by simpa using hd
  have hsz : Maps.size (D.put (.int .i64 d) (.agg [])) = (l ++ [d]).length := by
    rw [Maps.size_put hD, hh, hd, hs]
    simp
  refine ⟨?_, ?_, _, ?_, fun n => ?_, hsz⟩
  · rw [List.nodup_append]
    exact ⟨nd, by simp, fun a ha b hb => by
      obtain rfl := List.mem_singleton.1 hb
      exact fun e => hne (e ▸ ha)⟩
  · intro x hx
    rcases List.mem_append.1 hx with h | h
    · exact rg x h
    · obtain rfl := List.mem_singleton.1 h
      exact h1
  · rw [← hsz]
    exact ownsMap_tight h
  · by_cases e : n = d
    · subst e
      rw [Maps.has_put_same hD.isMap (show WideAt.IsKeyLit (.int .i64 n) from trivial)]
      simp
    · rw [Maps.has_put_other (by simpa using e), hh]
      simp [e]
theorem Nu.del {w' : World} {m n : Nat} {l : List Int} {D : DataW Unit} {d : Int} (nd : l.Nodup) (rg : ∀ x ∈ l, 1 ≤ x ∧ x ≤ 65535) (hD : Maps.Tidy D) (hh : ∀ n : Int, Maps.has D (.int .i64 n) = l.contains n) (hs : Maps.size D = l.length)
    (h : w'.ownsMap Try.prog 3 unitElem m n (D.del (.int .i64 d))) : Nu w' m (l.erase d) := by
  have hsz : Maps.size (D.del (.int .i64 d)) = (l.erase d).length := by
    have := Maps.size_del (k := .int .i64 d) hD
    rw [hh, hs] at this
    rw [List.length_erase]
    cases hc : l.contains d with
    | true =>
      rw [hc] at this
      have hm : d ∈ l := by simpa using hc
      simp only [if_true, hm] at this ⊢
      omega
    | false =>
      rw [hc] at this
      have hm : d ∉ l := by simpa using hc
      simp only [hm, if_false] at this ⊢
      simpa using this
  refine ⟨nd.erase d, fun x hx => rg x (List.mem_of_mem_erase hx), _, ?_, fun n => ?_, hsz⟩
  · rw [← hsz]
    exact ownsMap_tight h
  · by_cases e : n = d
    · subst e
      rw [Maps.has_del_same]
      have : n ∉ l.erase n := nd.not_mem_erase
      simp [this]
    · rw [Maps.has_del_other (by simpa using e), hh]
      have := List.mem_erase_of_ne (l := l) e
      cases hc : (l.erase d).contains n with
      | true => simpa using this.1 (by simpa using hc)
      | false =>
        have h1 : n ∉ l.erase d := by simpa using hc
        have h2 : n ∉ l := fun h => h1 (this.2 h)
        simp [h2]

/-- A Set in block N, its map in block m. -/
def St (w : World) (N m : Nat) (l : List Int) : Prop := w.heap[N]? = some (.cells #[.map (some m)] 80 (0, 0)) ∧ Nu w m l
theorem St.below {w w' : World} {N m : Nat} {l : List Int} (h : St w N m l) (hb : Below w.heap.size w w') : St w' N m l := ⟨row_on h.1 hb, h.2.below hb⟩
theorem St.ne {w : World} {N m : Nat} {l : List Int} (h : St w N m l) : N ≠ m := by
  rintro rfl
  obtain ⟨D, ⟨es, clock, hb, _⟩, _⟩ := h.2.ex
  rw [h.1] at hb
  cases hb

set_option maxRecDepth 100000 in
theorem ihas_any (N m : Nat) (l : List Int) (d : Int) (b : Bool) (hb : l.contains d = b) (w : World) (hs : St w N m l) (hd : I64 d) (R : Ending → World → Prop)
    (hR : ∀ w', Below w.heap.size w w' → R (.returned (.bool b)) w') :
    Calls Try.prog 38 #[.pointer (some ⟨N, 0, none⟩), .int .i64 d] w R := by
  have HR := Lib.hid hR
  obtain ⟨D, hD, hh, _⟩ := hs.2.ex
  have c0 : w.cell? ⟨N, 0, none⟩ = some (.map (some m)) := cell_of_row w N 0 _ _ _ hs.1
  have HKEY := Lib.hid hd.key
  have HH := Lib.hid ((hh d).trans hb)
  have hb0 := (Below.refl w.heap.size w).alloc (Nat.le_refl _) (Obj.cells #[] 90)
  clear hs hh hd hb hR
  go_enter Try.func38, Try.ntmps38
  go_wp2_with (at_lookup; refine wpList_lookup_own_unit _ rfl _ _ 78 rfl 3 90 Try.keyed3 Try.underlying78 (Try.zero90 _) m l.length _ rfl hD _ _ rfl HKEY.out ?_; rw [HH.out])
  exact HR.out _ hb0

set_option maxRecDepth 100000 in
set_option maxHeartbeats 400000 in
theorem ihold_yes (N m : Nat) (l : List Int) (d : Int) (h1 : 1 ≤ d) (h2 : d ≤ 65535) (hc : l.contains d = false) (hl : l.length ≤ 100000) (w : World) (hs : St w N m l) (R : Ending → World → Prop)
    (hR : ∀ w', St w' N m (l ++ [d]) → w.grownBy w' (some m) → R (.returned (.bool true)) w') :
    Calls Try.prog 29 #[.pointer (some ⟨N, 0, none⟩), .int .i64 d] w R := by
  have HR := Lib.hid hR
  have HS := Lib.hid hs
  clear hR
  have hd : I64 d := ⟨by omega, by omega⟩
  have HC := Lib.hid hc
  clear hc hs
  have g1 : ¬ d < 1 := by omega
  have g2 : ¬ 65535 < d := by omega
  go_enter Try.func29, Try.ntmps29
  go_wp2_with (first
    | (go_at_call 38; go_must (refine ihas_any N m l d false HC.out _ HS.out hd _ ?_); intro w1 hb1; have c0 : w1.cell? ⟨N, 0, none⟩ = some (.map (some m)) := cell_of_row w1 N 0 _ _ _ (HS.out.below hb1).1; have HS1 := Lib.hid (HS.out.below hb1))
    | (at_mapUpdate; obtain ⟨D, hD, hh, hsz⟩ := HS1.out.2.ex; refine wpList_mapUpdate_own _ rfl _ _ _ 78 rfl 3 90 Try.keyed3 Try.underlying78 (unitElem (H := Unit)) m l.length _ rfl hD (by unfold maxLen; omega) _ _ _ rfl rfl hd.key _ [] unitElem_mk ?_; intro w5 hown5 hgrow5; have HX := Lib.hid (Nu.put HS1.out.2.nd HS1.out.2.rg (hD.tidy Try.keyed3) hh hsz hown5 ⟨h1, h2⟩ HC.out); have HG := Lib.hid (grownBy_trans (grown_bel hb1 (row := some m)) hgrow5); have HN := Lib.hid (block_grown hgrow5 HS1.out.1 (fun e => HS1.out.ne (Option.some.inj e).symm)); clear hown5 hgrow5 hh hsz hD))
  exact HR.out _ ⟨HN.out, HX.out⟩ HG.out

set_option maxRecDepth 100000 in
set_option maxHeartbeats 400000 in
theorem ihold_no (N m : Nat) (l : List Int) (d : Int) (hd : I64 d) (hc : d < 1 ∨ 65535 < d ∨ l.contains d = true) (w : World) (hs : St w N m l) (R : Ending → World → Prop)
    (hR : ∀ w', Below w.heap.size w w' → R (.returned (.bool false)) w') :
    Calls Try.prog 29 #[.pointer (some ⟨N, 0, none⟩), .int .i64 d] w R := by
  have HR := Lib.hid hR
  have HS := Lib.hid hs
  clear hR
  clear hs
  by_cases g1 : d < 1
  · clear hc
    go_enter Try.func29, Try.ntmps29
    go_wp2
    exact HR.out _ (Below.refl _ _)
  by_cases g2 : 65535 < d
  · clear hc
    go_enter Try.func29, Try.ntmps29
    go_wp2
    exact HR.out _ (Below.refl _ _)
  have HC : Hid (l.contains d = true) := by
    rcases hc with h | h | h
    · omega
    · omega
    · exact h
  clear hc
  go_enter Try.func29, Try.ntmps29
  go_wp2_with (go_at_call 38; go_must (refine ihas_any N m l d true HC.out _ HS.out hd _ ?_); intro w1 hb1)
  exact HR.out _ hb1

set_option maxRecDepth 100000 in
set_option maxHeartbeats 400000 in
theorem ifree_any (N m : Nat) (l : List Int) (d : Int) (hd : I64 d) (b : Bool) (hb : l.contains d = b) (w : World) (hs : St w N m l) (R : Ending → World → Prop)
    (hR : ∀ w', St w' N m (l.erase d) → w.grownBy w' (some m) → R (.returned (.bool b)) w') :
    Calls Try.prog 35 #[.pointer (some ⟨N, 0, none⟩), .int .i64 d] w R := by
  have HR := Lib.hid hR
  have HS := Lib.hid hs
  clear hR
  have HB := Lib.hid hb
  clear hs hb
  go_enter Try.func35, Try.ntmps35
  go_wp2_with (first
    | (go_at_call 38; go_must (refine ihas_any N m l d b HB.out _ HS.out hd _ ?_); intro w1 hb1; have c0 : w1.cell? ⟨N, 0, none⟩ = some (.map (some m)) := cell_of_row w1 N 0 _ _ _ (HS.out.below hb1).1; have HS1 := Lib.hid (HS.out.below hb1))
    | (at_delete; obtain ⟨D, hD, hh, hsz⟩ := HS1.out.2.ex; refine wpList_delete_own _ rfl _ _ 78 3 rfl 90 Try.keyed3 Try.underlying78 (unitElem (H := Unit)) m l.length _ rfl hD _ _ rfl hd.key ?_; intro w5 hown5 hturn5; have HX := Lib.hid (Nu.del HS1.out.2.nd HS1.out.2.rg (hD.tidy Try.keyed3) hh hsz hown5); have HG := Lib.hid (grownBy_trans (grown_bel hb1 (row := some m)) hturn5.grown); have HN := Lib.hid (block_grown hturn5.grown HS1.out.1 (fun e => HS1.out.ne (Option.some.inj e).symm)); clear hown5 hturn5 hh hsz hD))
  exact HR.out _ ⟨HN.out, HX.out⟩ HG.out

/-- Some number of at most l.length + 1 is free, and all below it are taken. -/
theorem least_free (l : List Int) : ∃ d : Nat, 1 ≤ d ∧ d ≤ l.length + 1 ∧ l.contains (d : Int) = false ∧ ∀ j : Nat, 1 ≤ j → j < d → l.contains (j : Int) = true := by
  have hex : ∃ d : Nat, 1 ≤ d ∧ l.contains (d : Int) = false ∧ d ≤ l.length + 1 := by
    apply Classical.byContradiction
    intro hno
    have hall : ∀ d : Nat, 1 ≤ d → d ≤ l.length + 1 → (d : Int) ∈ l := fun d h1 h2 => by
      apply Classical.byContradiction
      intro hm
      exact hno ⟨d, h1, by simpa using hm, h2⟩
    have hsub : (List.range (l.length + 1)).map (fun (i : Nat) => ((i + 1 : Nat) : Int)) ⊆ l := by
      intro x hx
      obtain ⟨i, hi, rfl⟩ := List.mem_map.1 hx
      exact hall (i + 1) (by omega) (by have := List.mem_range.1 hi; omega)
    have hnd : ((List.range (l.length + 1)).map (fun (i : Nat) => ((i + 1 : Nat) : Int))).Nodup := by
      refine List.Pairwise.map _ (fun a b hab => ?_) List.nodup_range
      show ((a + 1 : Nat) : Int) ≠ ((b + 1 : Nat) : Int)
      omega
    have := hnd.length_le_of_subset hsub
    simp at this
    omega
  have key : ∀ n : Nat, (∃ d : Nat, 1 ≤ d ∧ l.contains (d : Int) = false ∧ d ≤ n) → ∃ d : Nat, 1 ≤ d ∧ d ≤ n ∧ l.contains (d : Int) = false ∧ ∀ j : Nat, 1 ≤ j → j < d → l.contains (j : Int) = true := by
    intro n
    induction n with
    | zero =>
      rintro ⟨d, h1, _, h3⟩
      omega
    | succ n ih =>
      intro h
      by_cases hs : ∃ d : Nat, 1 ≤ d ∧ l.contains (d : Int) = false ∧ d ≤ n
      · obtain ⟨d, h1, h2, h3, h4⟩ := ih hs
        exact ⟨d, h1, by omega, h3, h4⟩
      · obtain ⟨d, h1, h2, h3⟩ := h
        refine ⟨d, h1, h3, h2, fun j q1 q2 => ?_⟩
        cases hc : l.contains (j : Int) with
        | true => rfl
        | false => exact absurd ⟨j, q1, hc, by omega⟩ hs
  exact key _ hex

set_option maxRecDepth 100000 in
set_option maxHeartbeats 800000 in
theorem itake_any (N m : Nat) (l : List Int) (d : Nat) (h1 : 1 ≤ d) (h2 : d ≤ 65535) (hc : l.contains (d : Int) = false) (hall : ∀ j : Nat, 1 ≤ j → j < d → l.contains (j : Int) = true) (hl : l.length ≤ 100000) (w : World) (hs : St w N m l) (R : Ending → World → Prop)
    (hR : ∀ w', St w' N m (l ++ [(d : Int)]) → w.grownBy w' (some m) → R (.returned (.tuple #[.int .i64 d, .bool true])) w') :
    Calls Try.prog 25 #[.pointer (some ⟨N, 0, none⟩)] w R := by
  have HS := Lib.hid hs
  have HC := Lib.hid hc
  have HA := Lib.hid hall
  have HR := Lib.hid hR
  clear hs hc hall hR
  go_enter Try.func25, Try.ntmps25
  go_wp2
  go_loopg [4] (d - 1) (fun gn i wr => ∃ k : Nat, 1 ≤ k ∧ k ≤ d ∧ gn = d - k ∧ i = .int .i64 k ∧ Below w.heap.size w wr)
  case atStart => exact ⟨1, Nat.le_refl _, h1, by omega, rfl, Below.refl _ _⟩
  case round =>
    obtain ⟨k, hk1, hk, rfl, rfl, hb⟩ := hrel
    obtain ⟨wo, rfl⟩ : ∃ x, x = wr := ⟨_, rfl⟩
    have hk6 : (k : Int) ≤ 65535 := by omega
    have hk64 : I64 (k : Int) := ⟨by omega, by omega⟩
    by_cases hlt : k < d
    · have HK := Lib.hid (HA.out k hk1 hlt)
      go_wp2_with (go_at_call 29; go_must (refine ihold_no N m l (k : Int) hk64 (.inr (.inr HK.out)) _ (HS.out.below hb) _ ?_); intro w1 hb1; have hx1 := below_then hb hb1 hb.size)
      go_roundg (d - (k + 1))
      case measure => omega
      case rel => exact ⟨k + 1, by omega, by omega, rfl, by go_num, hx1⟩
    · obtain rfl : k = d := by omega
      go_wp2_with (go_at_call 29; go_must (refine ihold_yes N m l (k : Int) (by omega) hk6 HC.out hl _ (HS.out.below hb) _ ?_); intro w1 hs1 hg1; have HS1 := Lib.hid hs1; have HG1 := Lib.hid (grownBy_trans (grown_bel hb (row := some m)) hg1); clear hs1 hg1)
      exact HR.out _ HS1.out HG1.out

set_option maxRecDepth 100000 in
set_option maxHeartbeats 400000 in
theorem inew_any (w : World) (R : Ending → World → Prop)
    (hR : ∀ N m w', St w' N m [] → w.heap.size ≤ N → w.heap.size ≤ m → Below w.heap.size w w' → R (.returned (.pointer (some ⟨N, 0, none⟩))) w') :
    Calls Try.prog 17 #[.slice none 0 0] w R := by
  have hmm := @run_makeMap Try.prog
  have HR := Lib.hid hR
  clear hR
  go_enter Try.func17, Try.ntmps17
  go_wp2
  go_loopg [11] 0 (fun gn i wr => i = .int .i64 0 ∧ wr = (w.alloc (.map #[] 0)).alloc (.cells #[.map (some w.heap.size)] 80))
  case atStart => exact ⟨rfl, rfl⟩
  case round =>
    obtain ⟨rfl, rfl⟩ := hrel
    go_wp2
    have hm := (World.ownsMap_made w Try.prog 3 (unitElem (H := Unit))).alloc (.cells #[.map (some w.heap.size)] 80)
    refine HR.out (w.heap.size + 1) w.heap.size _ ⟨?_, .nil, (fun x hx => by simp at hx), _, hm, (fun n => by simp [Maps.has_eq]), rfl⟩ (by omega) (Nat.le_refl _) (((Below.refl _ _).alloc (Nat.le_refl _) _).alloc (by simp) _)
    have := heap_alloc_new (w.alloc (.map #[] 0)) (.cells #[.map (some w.heap.size)] 80)
    simpa using this
end Go.Proofs.Ytgimbocoamnkjaa
