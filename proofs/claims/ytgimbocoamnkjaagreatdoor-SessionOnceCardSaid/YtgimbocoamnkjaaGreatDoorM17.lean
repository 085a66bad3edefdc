/- ident.Set, walked: a set of numbers behind a pointer. -/
import Derived.Test.YtgimbocoamnkjaaGreatDoorM04
import Derived.Maps.OwnSet
import Derived.Deep.LoopGhost
import Derived.Test.YtgimbocoamnkjaaGreatDoorM05
import Derived.Test.YtgimbocoamnkjaaGreatDoorM16
namespace Go.Proofs.YtgimbocoamnkjaaGreatDoor
open Go.RowKit

theorem Tryz.keyed3 : Maps.Keyed Tryz.prog 3 := Maps.int_keyed Tryz.underlying3
theorem Tryz.zero161 (w : World) : (zeroValue 161).run Tryz.prog w = .ok (.agg #[]) w := by kernel_rfl

/-- int's range. -/
def I64 (n : Int) : Prop := -9223372036854775808 ≤ n ∧ n ≤ 9223372036854775807
theorem I64.key {n : Int} (h : I64 n) : keyOf Tryz.prog 3 (.int .i64 n) = some (.int .i64 n) := Maps.keyOf_int_mk Tryz.underlying3 (WalkArith.wf_i64 h)

/-- Block m is a map with just the keys l. -/
structure Nu (w : World) (m : Nat) (l : List Int) : Prop where
  nd : l.Nodup
  rg : ∀ x ∈ l, 1 ≤ x ∧ x ≤ 65535
  ex : ∃ D : DataW Unit, w.ownsMap Tryz.prog 3 unitElem m l.length D ∧ (∀ n : Int, Maps.has D (.int .i64 n) = l.contains n) ∧ Maps.size D = l.length
theorem ownsMap_of_block {H : Type} {P : Program} {k : TypeId} {R : Value → Option (DataW H × List MemPlace)} {b n : Nat} {D : DataW H} {w w' : World} (h : w.ownsMap P k R b n D) (e : w'.heap[b]? = w.heap[b]?) : w'.ownsMap P k R b n D := by
  obtain ⟨es, clock, hb, r⟩ := h
  exact ⟨es, clock, e.trans hb, r⟩
theorem ownsMap_tight {H : Type} {P : Program} {k : TypeId} {R : Value → Option (DataW H × List MemPlace)} {b n : Nat} {D : DataW H} {w : World} (h : w.ownsMap P k R b n D) : w.ownsMap P k R b (Maps.size D) D := by
  obtain ⟨es, clock, hb, F, _, rfl⟩ := h
  refine ⟨es, clock, hb, F, ?_, rfl⟩
  rw [Maps.size_eq, length_sorted]
  simp
theorem Nu.lt {w : World} {m : Nat} {l : List Int} (h : Nu w m l) : m < w.heap.size := by
  obtain ⟨D, h1, _⟩ := h.ex
  exact h1.lt
theorem Nu.of_block {w w' : World} {m : Nat} {l : List Int} (h : Nu w m l) (e : w'.heap[m]? = w.heap[m]?) : Nu w' m l := by
  obtain ⟨D, h1, h2⟩ := h.ex
  exact ⟨h.nd, h.rg, D, ownsMap_of_block h1 e, h2⟩
theorem Nu.below {w w' : World} {m : Nat} {l : List Int} (h : Nu w m l) (hb : Below w.heap.size w w') : Nu w' m l := h.of_block (hb.block m h.lt)
theorem Nu.grown {w w' : World} {m : Nat} {l : List Int} {row : Option Nat} (h : Nu w m l) (hg : w.grownBy w' row) (hr : row ≠ some m) : Nu w' m l := h.of_block (hg.block m h.lt (fun e => hr e.symm))
theorem Nu.put {w' : World} {m n : Nat} {l : List Int} {D : DataW Unit} {d : Int} (nd : l.Nodup) (rg : ∀ x ∈ l, 1 ≤ x ∧ x ≤ 65535) (hD : Maps.Tidy D) (hh : ∀ n : Int, Maps.has D (.int .i64 n) = l.contains n) (hs : Maps.size D = l.length)
    (h : w'.ownsMap Tryz.prog 3 unitElem m n (D.put (.int .i64 d) (.agg []))) (h1 : 1 ≤ d ∧ d ≤ 65535) (hd : l.contains d = false) : Nu w' m (l ++ [d]) := by
  have hne : d ∉ l := by simpa using hd
  have hsz : Maps.size (D.put (.int .i64 d) (.agg [])) = (l ++ [d]).length := by
    rw [Maps.size_put hD, hh, hd, hs]
    simp
  refine ⟨?_, ?_, _, ?_, fun n => ?_, hsz⟩
  · rw [List.nodup_append]
    exact ⟨nd, by simp, fun a ha b hb => by
      obtain rfl := List.mem_singleton.1 hb
      exact fun e => hne (e ▸ ha)⟩
  · intro x hx
    rcases List.mem_append.1 hx with h | h
    · exact rg x h
    · obtain rfl := List.mem_singleton.1 h
      exact h1
  · rw [← hsz]
    exact ownsMap_tight h
  · by_cases e : n = d
    · subst e
      rw [Maps.has_put_same hD.isMap (show WideAt.IsKeyLit (.int .i64 n) from trivial)]
      simp
    · rw [Maps.has_put_other (by simpa using e), hh]
      simp [e]
theorem Nu.del {w' : World} {m n : Nat} {l : List Int} {D : DataW Unit} {d : Int} (nd : l.Nodup) (rg : ∀ x ∈ l, 1 ≤ x ∧ x ≤ 65535) (hD : Maps.Tidy D) (hh : ∀ n : Int, Maps.has D (.int .i64 n) = l.contains n) (hs : Maps.size D = l.length)
    (h : w'.ownsMap Tryz.prog 3 unitElem m n (D.del (.int .i64 d))) : Nu w' m (l.erase d) := by
  have hsz : Maps.size (D.del (.int .i64 d)) = (l.erase d).length := by
    have := Maps.size_del (k := .int .i64 d) hD
    rw [hh, hs] at this
    rw [List.length_erase]
    cases hc : l.contains d with
    | true =>
      rw [hc] at this
      have hm : d ∈ l := by simpa using hc
      simp only [if_true, hm] at this ⊢
      omega
    | false =>
      rw [hc] at this
      have hm : d ∉ l := by simpa using hc
      simp only [hm, if_false] at this ⊢
      simpa using this
  refine ⟨nd.erase d, fun x hx => rg x (List.mem_of_mem_erase hx), _, ?_, fun n => ?_, hsz⟩
  · rw [← hsz]
    exact ownsMap_tight h
  · by_cases e : n = d
    · subst e
      rw [Maps.has_del_same]
      have : n ∉ l.erase n := nd.not_mem_erase
      simp [this]
    · rw [Maps.has_del_other (by simpa using e), hh]
      have := List.mem_erase_of_ne (l := l) e
      cases hc : (l.erase d).contains n with
      | true => simpa using this.1 (by simpa using hc)
      | false =>
        have h1 : n ∉ l.erase d := by simpa using hc
        have h2 : n ∉ l := fun h => h1 (this.2 h)
        simp [h2]

/-- A Set in block N, its map in block m. -/
def St (w : World) (N m : Nat) (l : List Int) : Prop := w.heap[N]? = some (.cells #[.map (some m)] 143 (0, 0)) ∧ Nu w m l
theorem St.below {w w' : World} {N m : Nat} {l : List Int} (h : St w N m l) (hb : Below w.heap.size w w') : St w' N m l := ⟨row_on h.1 hb, h.2.below hb⟩
theorem St.ne {w : World} {N m : Nat} {l : List Int} (h : St w N m l) : N ≠ m := by
  rintro rfl
  obtain ⟨D, ⟨es, clock, hb, _⟩, _⟩ := h.2.ex
  rw [h.1] at hb
  cases hb

set_option maxRecDepth 100000 in
theorem ihas_any (N m : Nat) (l : List Int) (d : Int) (b : Bool) (hb : l.contains d = b) (w : World) (hs : St w N m l) (hd : I64 d) (R : Ending → World → Prop)
    (hR : ∀ w', Below w.heap.size w w' → R (.returned (.bool b)) w') :
    Calls Tryz.prog 115 #[.pointer (some ⟨N, 0, none⟩), .int .i64 d] w R := by
  have HR := Lib.hid hR
  obtain ⟨D, hD, hh, _⟩ := hs.2.ex
  have c0 : w.cell? ⟨N, 0, none⟩ = some (.map (some m)) := cell_of_row w N 0 _ _ _ hs.1
  have HKEY := Lib.hid hd.key
  have HH := Lib.hid ((hh d).trans hb)
  have hb0 := (Below.refl w.heap.size w).alloc (Nat.le_refl _) (Obj.cells #[] 161)
  clear hs hh hd hb hR
  go_enter Tryz.func115, Tryz.ntmps115
  go_wp2_with (at_lookup; refine wpList_lookup_own_unit _ rfl _ _ 141 rfl 3 161 Tryz.keyed3 Tryz.underlying141 (Tryz.zero161 _) m l.length _ rfl hD _ _ rfl HKEY.out ?_; rw [HH.out])
  exact HR.out _ hb0

set_option maxRecDepth 100000 in
set_option maxHeartbeats 400000 in
theorem ihold_yes (N m : Nat) (l : List Int) (d : Int) (h1 : 1 ≤ d) (h2 : d ≤ 65535) (hc : l.contains d = false) (hl : l.length ≤ 100000) (w : World) (hs : St w N m l) (R : Ending → World → Prop)
    (hR : ∀ w', St w' N m (l ++ [d]) → w.grownBy w' (some m) → R (.returned (.bool true)) w') :
    Calls Tryz.prog 51 #[.pointer (some ⟨N, 0, none⟩), .int .i64 d] w R := by
  have HR := Lib.hid hR
  have HS := Lib.hid hs
  clear hR
  have hd : I64 d := ⟨by omega, by omega⟩
  have HC := Lib.hid hc
  clear hc hs
  have g1 : ¬ d < 1 := by omega
  have g2 : ¬ 65535 < d := by omega
  go_enter Tryz.func51, Tryz.ntmps51
  go_wp2_with (first
    | (go_at_call 115; go_must (refine ihas_any N m l d false HC.out _ HS.out hd _ ?_); intro w1 hb1; have c0 : w1.cell? ⟨N, 0, none⟩ = some (.map (some m)) := cell_of_row w1 N 0 _ _ _ (HS.out.below hb1).1; have HS1 := Lib.hid (HS.out.below hb1))
    | (at_mapUpdate; obtain ⟨D, hD, hh, hsz⟩ := HS1.out.2.ex; refine wpList_mapUpdate_own _ rfl _ _ _ 141 rfl 3 161 Tryz.keyed3 Tryz.underlying141 (unitElem (H := Unit)) m l.length _ rfl hD (by unfold maxLen; omega) _ _ _ rfl rfl hd.key _ [] unitElem_mk ?_; intro w5 hown5 hgrow5; have HX := Lib.hid (Nu.put HS1.out.2.nd HS1.out.2.rg (hD.tidy Tryz.keyed3) hh hsz hown5 ⟨h1, h2⟩ HC.out); have HG := Lib.hid (grownBy_trans (grown_bel hb1 (row := some m)) hgrow5); have HN := Lib.hid (block_grown hgrow5 HS1.out.1 (fun e => HS1.out.ne (Option.some.inj e).symm)); clear hown5 hgrow5 hh hsz hD))
  exact HR.out _ ⟨HN.out, HX.out⟩ HG.out

set_option maxRecDepth 100000 in
set_option maxHeartbeats 400000 in
theorem ihold_no (N m : Nat) (l : List Int) (d : Int) (hd : I64 d) (hc : d < 1 ∨ 65535 < d ∨ l.contains d = true) (w : World) (hs : St w N m l) (R : Ending → World → Prop)
    (hR : ∀ w', Below w.heap.size w w' → R (.returned (.bool false)) w') :
    Calls Tryz.prog 51 #[.pointer (some ⟨N, 0, none⟩), .int .i64 d] w R := by
  have HR := Lib.hid hR
  have HS := Lib.hid hs
  clear hR
  clear hs
  by_cases g1 : d < 1
  · clear hc
    go_enter Tryz.func51, Tryz.ntmps51
    go_wp2
    exact HR.out _ (Below.refl _ _)
  by_cases g2 : 65535 < d
  · clear hc
    go_enter Tryz.func51, Tryz.ntmps51
    go_wp2
    exact HR.out _ (Below.refl _ _)
  have HC : Hid (l.contains d = true) := by
    rcases hc with h | h | h
    · omega
    · omega
    · exact h
  clear hc
  go_enter Tryz.func51, Tryz.ntmps51
  go_wp2_with (go_at_call 115; go_must (refine ihas_any N m l d true HC.out _ HS.out hd _ ?_); intro w1 hb1)
  exact HR.out _ hb1

set_option maxRecDepth 100000 in
set_option maxHeartbeats 400000 in
theorem ifree_any (N m : Nat) (l : List Int) (d : Int) (hd : I64 d) (b : Bool) (hb : l.contains d = b) (w : World) (hs : St w N m l) (R : Ending → World → Prop)
    (hR : ∀ w', St w' N m (l.erase d) → w.grownBy w' (some m) → R (.returned (.bool b)) w') :
    Calls Tryz.prog 106 #[.pointer (some ⟨N, 0, none⟩), .int .i64 d] w R := by
  have HR := Lib.hid hR
  have HS := Lib.hid hs
  clear hR
  have HB := Lib.hid hb
  clear hs hb
  go_enter Tryz.func106, Tryz.ntmps106
  go_wp2_with (first
    | (go_at_call 115; go_must (refine ihas_any N m l d b HB.out _ HS.out hd _ ?_); intro w1 hb1; have c0 : w1.cell? ⟨N, 0, none⟩ = some (.map (some m)) := cell_of_row w1 N 0 _ _ _ (HS.out.below hb1).1; have HS1 := Lib.hid (HS.out.below hb1))
    | (at_delete; obtain ⟨D, hD, hh, hsz⟩ := HS1.out.2.ex; refine wpList_delete_own _ rfl _ _ 141 3 rfl 161 Tryz.keyed3 Tryz.underlying141 (unitElem (H := Unit)) m l.length _ rfl hD _ _ rfl hd.key ?_; intro w5 hown5 hturn5; have HX := Lib.hid (Nu.del HS1.out.2.nd HS1.out.2.rg (hD.tidy Tryz.keyed3) hh hsz hown5); have HG := Lib.hid (grownBy_trans (grown_bel hb1 (row := some m)) hturn5.grown); have HN := Lib.hid (block_grown hturn5.grown HS1.out.1 (fun e => HS1.out.ne (Option.some.inj e).symm)); clear hown5 hturn5 hh hsz hD))
  exact HR.out _ ⟨HN.out, HX.out⟩ HG.out

/-- Some number of at most l.length + 1 is free, and all below it are taken. -/
theorem least_free (l : List Int) : ∃ d : Nat, 1 ≤ d ∧ d ≤ l.length + 1 ∧ l.contains (d : Int) = false ∧ ∀ j : Nat, 1 ≤ j → j < d → l.contains (j : Int) = true := by
  have hex : ∃ d : Nat, 1 ≤ d ∧ l.contains (d : Int) = false ∧ d ≤ l.length + 1 := by
    apply Classical.byContradiction
    intro hno
    have hall : ∀ d : Nat, 1 ≤ d → d ≤ l.length + 1 → (d : Int) ∈ l := fun d h1 h2 => by
      apply Classical.byContradiction
      intro hm
      exact hno ⟨d, h1, by simpa using hm, h2⟩
    have hsub : (List.range (l.length + 1)).map (fun (i : Nat) => ((i + 1 : Nat) : Int)) ⊆ l := by
      intro x hx
      obtain ⟨i, hi, rfl⟩ := List.mem_map.1 hx
      exact hall (i + 1) (by omega) (by have := List.mem_range.1 hi; omega)
    have hnd : ((List.range (l.length + 1)).map (fun (i : Nat) => ((i + 1 : Nat) : Int))).Nodup := by
      refine List.Pairwise.map _ (fun a b hab => ?_) List.nodup_range
      show ((a + 1 : Nat) : Int) ≠ ((b + 1 : Nat) : Int)
      omega
    have := hnd.length_le_of_subset hsub
    simp at this
    omega
  have key : ∀ n : Nat, (∃ d : Nat, 1 ≤ d ∧ l.contains (d : Int) = false ∧ d ≤ n) → ∃ d : Nat, 1 ≤ d ∧ d ≤ n ∧ l.contains (d : Int) = false ∧ ∀ j : Nat, 1 ≤ j → j < d → l.contains (j : Int) = true := by
    intro n
    induction n with
    | zero =>
      rintro ⟨d, h1, _, h3⟩
      omega
    | succ n ih =>
      intro h
      by_cases hs : ∃ d : Nat, 1 ≤ d ∧ l.contains (d : Int) = false ∧ d ≤ n
      · obtain ⟨d, h1, h2, h3, h4⟩ := ih hs
        exact ⟨d, h1, by omega, h3, h4⟩
      · obtain ⟨d, h1, h2, h3⟩ := h
        refine ⟨d, h1, h3, h2, fun j q1 q2 => ?_⟩
        cases hc : l.contains (j : Int) with
        | true => rfl
        | false => exact absurd ⟨j, q1, hc, by omega⟩ hs
  exact key _ hex

set_option maxRecDepth 100000 in
set_option maxHeartbeats 800000 in
theorem itake_any (N m : Nat) (l : List Int) (d : Nat) (h1 : 1 ≤ d) (h2 : d ≤ 65535) (hc : l.contains (d : Int) = false) (hall : ∀ j : Nat, 1 ≤ j → j < d → l.contains (j : Int) = true) (hl : l.length ≤ 100000) (w : World) (hs : St w N m l) (R : Ending → World → Prop)
    (hR : ∀ w', St w' N m (l ++ [(d : Int)]) → w.grownBy w' (some m) → R (.returned (.tuple #[.int .i64 d, .bool true])) w') :
    Calls Tryz.prog 41 #[.pointer (some ⟨N, 0, none⟩)] w R := by
  have HS := Lib.hid hs
  have HC := Lib.hid hc
  have HA := Lib.hid hall
  have HR := Lib.hid hR
  clear hs hc hall hR
  go_enter Tryz.func41, Tryz.ntmps41
  go_wp2
  go_loopg [4] (d - 1) (fun gn i wr => ∃ k : Nat, 1 ≤ k ∧ k ≤ d ∧ gn = d - k ∧ i = .int .i64 k ∧ Below w.heap.size w wr)
  case atStart => exact ⟨1, Nat.le_refl _, h1, by omega, rfl, Below.refl _ _⟩
  case round =>
    obtain ⟨k, hk1, hk, rfl, rfl, hb⟩ := hrel
    obtain ⟨wo, rfl⟩ : ∃ x, x = wr := ⟨_, rfl⟩
    have hk6 : (k : Int) ≤ 65535 := by omega
    have hk64 : I64 (k : Int) := ⟨by omega, by omega⟩
    by_cases hlt : k < d
    · have HK := Lib.hid (HA.out k hk1 hlt)
      go_wp2_with (go_at_call 51; go_must (refine ihold_no N m l (k : Int) hk64 (.inr (.inr HK.out)) _ (HS.out.below hb) _ ?_); intro w1 hb1; have hx1 := below_then hb hb1 hb.size)
      go_roundg (d - (k + 1))
      case measure => omega
      case rel => exact ⟨k + 1, by omega, by omega, rfl, by go_num, hx1⟩
    · obtain rfl : k = d := by omega
      go_wp2_with (go_at_call 51; go_must (refine ihold_yes N m l (k : Int) (by omega) hk6 HC.out hl _ (HS.out.below hb) _ ?_); intro w1 hs1 hg1; have HS1 := Lib.hid hs1; have HG1 := Lib.hid (grownBy_trans (grown_bel hb (row := some m)) hg1); clear hs1 hg1)
      exact HR.out _ HS1.out HG1.out

set_option maxRecDepth 100000 in
set_option maxHeartbeats 400000 in
theorem inew_any (w : World) (R : Ending → World → Prop)
    (hR : ∀ N m w', St w' N m [] → w.heap.size ≤ N → w.heap.size ≤ m → Below w.heap.size w w' → R (.returned (.pointer (some ⟨N, 0, none⟩))) w') :
    Calls Tryz.prog 35 #[.slice none 0 0] w R := by
  have hmm := @run_makeMap Tryz.prog
  have HR := Lib.hid hR
  clear hR
  go_enter Tryz.func35, Tryz.ntmps35
  go_wp2
  go_loopg [11] 0 (fun gn i wr => i = .int .i64 0 ∧ wr = (w.alloc (.map #[] 0)).alloc (.cells #[.map (some w.heap.size)] 143))
  case atStart => exact ⟨rfl, rfl⟩
  case round =>
    obtain ⟨rfl, rfl⟩ := hrel
    go_wp2
    have hm := (World.ownsMap_made w Tryz.prog 3 (unitElem (H := Unit))).alloc (.cells #[.map (some w.heap.size)] 143)
    refine HR.out (w.heap.size + 1) w.heap.size _ ⟨?_, .nil, (fun x hx => by simp at hx), _, hm, (fun n => by simp [Maps.has_eq]), rfl⟩ (by omega) (Nat.le_refl _) (((Below.refl _ _).alloc (Nat.le_refl _) _).alloc (by simp) _)
    have := heap_alloc_new (w.alloc (.map #[] 0)) (.cells #[.map (some w.heap.size)] 143)
    simpa using this
end Go.Proofs.YtgimbocoamnkjaaGreatDoor

/- A session: what it is, how it lies in memory. -/
namespace Go.Proofs.YtgimbocoamnkjaaGreatDoor
open Go.RowKit

structure Sb where
  filter : List UInt8
  qos : Int
  noLocal : Bool
  asPub : Bool
  handling : Int
  id : Int
deriving DecidableEq
structure Fl where
  id : Int
  state : Int
  item : Im
deriving DecidableEq
structure Sess where
  client : List UInt8
  expiry : Int
  ends : Int
  online : Bool
  subs : List Sb
  queue : List Im
  flights : List Fl
  nums : List Int
  got : List Int

/-! ### rows of structs, cell by cell -/
theorem flatN {α : Type} (C : Nat) (f : α → List Value) (hf : ∀ x, (f x).length = C) : ∀ (l : List α) (i j : Nat) (hi : i < l.length), j < C → (l.flatMap f)[i * C + j]? = (f l[i])[j]?
  | [], i, j, hi, hj => by simp at hi
  | x :: l, 0, j, hi, hj => by
    rw [List.flatMap_cons, Nat.zero_mul, Nat.zero_add, List.getElem?_append_left (by rw [hf]; omega)]
    rfl
  | x :: l, i + 1, j, hi, hj => by
    rw [List.flatMap_cons, List.getElem?_append_right (by rw [hf, Nat.succ_mul]; omega), hf, show (i + 1) * C + j - C = i * C + j by rw [Nat.succ_mul]; omega, flatN C f hf l i j (by simpa using hi) hj]
    rfl
theorem flatN_length {α : Type} (C : Nat) (f : α → List Value) (hf : ∀ x, (f x).length = C) : ∀ l : List α, (l.flatMap f).length = l.length * C
  | [] => by simp
  | x :: l => by
    rw [List.flatMap_cons, List.length_append, hf, flatN_length C f hf l, List.length_cons, Nat.succ_mul]
    omega
theorem flatN_drop {α : Type} (C : Nat) (f : α → List Value) (hf : ∀ x, (f x).length = C) : ∀ (l : List α) (k : Nat), (l.flatMap f).drop (k * C) = (l.drop k).flatMap f
  | l, 0 => by simp
  | [], k + 1 => by simp
  | x :: l, k + 1 => by
    rw [List.flatMap_cons, List.drop_succ_cons, ← flatN_drop C f hf l k, List.drop_append, List.drop_of_length_le (by rw [hf, Nat.succ_mul]; omega), hf, List.nil_append]
    congr 1
    rw [Nat.succ_mul]
    omega
theorem flatN_take {α : Type} (C : Nat) (f : α → List Value) (hf : ∀ x, (f x).length = C) : ∀ (l : List α) (k : Nat), (l.flatMap f).take (k * C) = (l.take k).flatMap f
  | l, 0 => by simp
  | [], k + 1 => by simp
  | x :: l, k + 1 => by
    rw [List.flatMap_cons, List.take_succ_cons, List.flatMap_cons, ← flatN_take C f hf l k, List.take_append, List.take_of_length_le (by rw [hf, Nat.succ_mul]; omega), hf]
    congr 2
    rw [Nat.succ_mul]
    omega

abbrev V3 := Value × Value × Value
/-- An item's cells. -/
def imP (p : V3 × Im) : List Value := [.string (str p.2.note.topic), p.1.1, .int .i64 p.2.note.qos, .bool p.2.note.retain, .string (str p.2.note.src), .int .i64 p.2.note.expires, p.1.2.1, .int .i64 p.2.note.origin, .int .i64 p.2.note.number, .int .i64 p.2.note.hops, .int .i64 p.2.qos, .bool p.2.keep, p.1.2.2, .string (str p.2.share)]
theorem imP_length (p : V3 × Im) : (imP p).length = 14 := rfl
/-- A flight's cells. -/
def flP (p : V3 × Fl) : List Value := .int .i64 p.2.id :: .int .i64 p.2.state :: imP (p.1, p.2.item)
theorem flP_length (p : V3 × Fl) : (flP p).length = 16 := rfl
def sbP (x : Sb) : List Value := [.string (str x.filter), .int .i64 x.qos, .bool x.noLocal, .bool x.asPub, .int .i64 x.handling, .int .i64 x.id]
theorem sbP_length (x : Sb) : (sbP x).length = 6 := rfl

/-- What kind of thing a block holds. -/
def bkind (w : World) (b : Nat) : Nat := match w.heap[b]? with
  | some (.cells _ t _) => t + 2
  | some (.map _ _) => 1
  | _ => 0
theorem bkind_cells {w : World} {b t : Nat} {fr : Nat × Nat} {cs : Array Value} (h : w.heap[b]? = some (.cells cs t fr)) : bkind w b = t + 2 := by
  unfold bkind
  rw [h]
theorem own_kind {w : World} {B e size n : Nat} {v : Value} {xs : List Value} (h : w.ownsRow B e size v n xs) : ∀ k, v.ownBlock = some k → bkind w k = e + 2 := by
  intro k hk
  rcases h.2 with ⟨rfl, _⟩ | ⟨g, cap, cur, rfl, _, hg, _⟩
  · simp [Value.ownBlock] at hk
  · simp only [Value.ownBlock, Option.some.injEq] at hk
    subst hk
    exact bkind_cells hg
/-- The blocks of M, and rows of items (from the first of M on): what an item's slices do not lie in. -/
def Wr (w : World) (M : Nat → Prop) : Nat → Prop := fun b => M b ∨ (bkind w b = 36 + 2 ∧ ∃ m, M m ∧ m ≤ b)
theorem Sep.wr {M M' : Nat → Prop} {w w' : World} (h : Sep M M' w w') : Sep (Wr w M) (Wr w' M') w w' :=
  ⟨h.os, h.tape, h.output, h.size, fun b hb hn => h.block b hb (fun hm => hn (.inl hm)), fun b hb => by
    by_cases hlt : b < w.heap.size
    · rcases hb with hb | ⟨hk, m, hm, hle⟩
      · rcases h.new b hb with h1 | h1
        · exact .inl (.inl h1)
        · exact .inr h1
      · by_cases hM : M b
        · exact .inl (.inl hM)
        · refine .inl (.inr ⟨?_, m, ?_, hle⟩)
          · rw [← hk]
            unfold bkind
            rw [h.block b hlt hM]
          · rcases h.new m hm with h1 | h1
            · exact h1
            · omega
    · exact .inr (by omega)⟩
theorem ImO.wr {M : Nat → Prop} {w : World} {B : Nat} {pv qv iv : Value} {x : Im} (h : ImO w B pv qv iv x) (hM : ∀ b, M b → b < B) : Safe (Wr w M) w fun y => ImO y B pv qv iv x := fun M' w' s => by
  have key : ∀ {e size n : Nat} {v : Value} {xs : List Value}, e ≠ 36 → w.ownsRow B e size v n xs → w'.ownsRow B e size v n xs := fun he ho => owns_safe ho (fun k hk hm => by
    rcases hm with hm | ⟨hm, _⟩
    · have := (ho.lt k hk).1
      have := hM k hm
      omega
    · rw [own_kind ho k hk] at hm
      exact he (by omega)) M' w' s
  obtain ⟨ds, hd, hr, he, ha⟩ := h.q
  exact ⟨key (by decide) h.p, ⟨ds, hd, key (by decide) hr, fun i hi => key (by decide) (he i hi), ha⟩, key (by decide) h.i⟩
/-- An item whose slices read so, whatever is written in M (or in rows of items). -/
def ImS (w : World) (M : Nat → Prop) (c : V3) (x : Im) : Prop := Safe (Wr w M) w (fun y => ImC y c.1 c.2.1 c.2.2 x) ∧ ImB x
theorem ImS.sep {w w' : World} {M M' : Nat → Prop} {c : V3} {x : Im} (h : ImS w M c x) (s : Sep M M' w w') : ImS w' M' c x := ⟨h.1.sep s.wr, h.2⟩
theorem ImS.oneCell {w : World} {M : Nat → Prop} {c : V3} {x : Im} (h : ImS w M c x) : ∀ u ∈ imP (c, x), u.oneCell' = true := by
  obtain ⟨⟨a, b, e⟩, ⟨a1, b1, e1⟩, a2, b2, e2⟩ := h.1.out.shape
  intro u hu
  simp only [imP, e, e1, e2, List.mem_cons, List.not_mem_nil, or_false] at hu
  rcases hu with rfl | rfl | rfl | rfl | rfl | rfl | rfl | rfl | rfl | rfl | rfl | rfl | rfl | rfl <;> rfl
theorem imZ_bounds : ImB ⟨⟨[], [], 0, false, [], 0, [], 0, 0, 0⟩, 0, false, [], []⟩ := ⟨⟨by simp, by simp, by simp, by simp, by simp, by decide⟩, by simp, by simp, by decide⟩

/-- The queue's row. -/
def QuR (w : World) (M : Nat → Prop) (v : Value) (l : List Im) : Prop :=
  ∃ ps : List (V3 × Im), ps.map (·.2) = l ∧ RowA w 36 14 v l.length (ps.flatMap imP) ∧ (∀ p ∈ ps, ImS w M p.1 p.2) ∧ ∀ k, v.ownBlock = some k → M k
/-- The flights' row. -/
def FlR (w : World) (M : Nat → Prop) (v : Value) (l : List Fl) : Prop :=
  ∃ ps : List (V3 × Fl), ps.map (·.2) = l ∧ w.ownsRow 0 51 16 v l.length (ps.flatMap flP) ∧ (∀ p ∈ ps, ImS w M p.1 p.2.item) ∧ ∀ k, v.ownBlock = some k → M k

theorem RowA.kind {w : World} {e size n : Nat} {v : Value} {xs : List Value} (h : RowA w e size v n xs) : ∀ k, v.ownBlock = some k → bkind w k = e + 2 := by
  intro k hk
  rcases h.2 with ⟨rfl, _⟩ | ⟨g, o, c, cur, rfl, hg, _⟩
  · simp [Value.ownBlock] at hk
  · simp only [Value.ownBlock, Option.some.injEq] at hk
    subst hk
    exact bkind_cells hg
theorem Nu.kind {w : World} {m : Nat} {l : List Int} (h : Nu w m l) : bkind w m = 1 := by
  obtain ⟨D, ⟨es, ck, hb, _⟩, _⟩ := h.ex
  unfold bkind
  rw [hb]
theorem St.kinds {w : World} {N m : Nat} {l : List Int} (h : St w N m l) : bkind w N = 143 + 2 ∧ bkind w m = 1 := ⟨bkind_cells h.1, h.2.kind⟩
theorem St.of_blocks {w w' : World} {N m : Nat} {l : List Int} (h : St w N m l) (h1 : w'.heap[N]? = w.heap[N]?) (h2 : w'.heap[m]? = w.heap[m]?) : St w' N m l := ⟨h1.trans h.1, h.2.of_block h2⟩

theorem QuR.sep {w w' : World} {M M' : Nat → Prop} {v : Value} {l : List Im} (h : QuR w M v l) (s : Sep M M' w w') (hb : ∀ k, v.ownBlock = some k → w'.heap[k]? = w.heap[k]?) (hM : ∀ k, v.ownBlock = some k → M' k) : QuR w' M' v l := by
  obtain ⟨ps, h1, h2, h3, _⟩ := h
  exact ⟨ps, h1, h2.of_block hb, fun p hp => (h3 p hp).sep s, hM⟩
theorem owns_of_block {w w' : World} {B e size n : Nat} {v : Value} {xs : List Value} (h : w.ownsRow B e size v n xs) (hb : ∀ k, v.ownBlock = some k → w'.heap[k]? = w.heap[k]?) : w'.ownsRow B e size v n xs := by
  refine ⟨h.1, ?_⟩
  rcases h.2 with hn | ⟨g, cap, cur, rfl, hbg, hg, rest⟩
  · exact .inl hn
  · exact .inr ⟨g, cap, cur, rfl, hbg, (hb g rfl).trans hg, rest⟩
theorem FlR.sep {w w' : World} {M M' : Nat → Prop} {v : Value} {l : List Fl} (h : FlR w M v l) (s : Sep M M' w w') (hb : ∀ k, v.ownBlock = some k → w'.heap[k]? = w.heap[k]?) (hM : ∀ k, v.ownBlock = some k → M' k) : FlR w' M' v l := by
  obtain ⟨ps, h1, h2, h3, _⟩ := h
  exact ⟨ps, h1, owns_of_block h2 hb, fun p hp => (h3 p hp).sep s, hM⟩
theorem QuR.kind {w : World} {M : Nat → Prop} {v : Value} {l : List Im} (h : QuR w M v l) : ∀ k, v.ownBlock = some k → bkind w k = 36 + 2 := by
  obtain ⟨ps, h1, h2, _⟩ := h
  exact h2.kind
theorem FlR.kind {w : World} {M : Nat → Prop} {v : Value} {l : List Fl} (h : FlR w M v l) : ∀ k, v.ownBlock = some k → bkind w k = 51 + 2 := by
  obtain ⟨ps, h1, h2, _⟩ := h
  exact own_kind h2

theorem QuR.own {w : World} {M : Nat → Prop} {v : Value} {l : List Im} (h : QuR w M v l) : ∀ k, v.ownBlock = some k → M k := by
  obtain ⟨ps, _, _, _, h4⟩ := h
  exact h4
theorem FlR.own {w : World} {M : Nat → Prop} {v : Value} {l : List Fl} (h : FlR w M v l) : ∀ k, v.ownBlock = some k → M k := by
  obtain ⟨ps, _, _, _, h4⟩ := h
  exact h4

/-- A session in block S; M: the blocks that it writes. -/
structure SX (w : World) (M : Nat → Prop) (S NB MB GB GM : Nat) (sv qv fv : Value) (s : Sess) : Prop where
  hS : w.heap[S]? = some (.cells #[.pointer (some ⟨NB, 0, none⟩), .string (str s.client), .int .i64 s.expiry, .int .i64 s.ends, .bool s.online, sv, qv, fv, .pointer (some ⟨GB, 0, none⟩)] 94 (0, 0))
  hn : St w NB MB s.nums
  hg : St w GB GM s.got
  hs : w.ownsRow 0 64 6 sv s.subs.length (s.subs.flatMap sbP)
  hq : QuR w M qv s.queue
  hf : FlR w M fv s.flights
  nb : NB ≠ GB
  nm : MB ≠ GM
  mS : M S
  mN : M MB
  mG : M GM
  ms : ∀ k, sv.ownBlock = some k → M k
  mNB : ¬ M NB
  mGB : ¬ M GB
  lt : ∀ b, M b → b < w.heap.size
def SR (w : World) (M : Nat → Prop) (S : Nat) (s : Sess) : Prop := ∃ NB MB GB GM sv qv fv, SX w M S NB MB GB GM sv qv fv s

theorem SX.below {w w' : World} {M : Nat → Prop} {S NB MB GB GM : Nat} {sv qv fv : Value} {s : Sess} (h : SX w M S NB MB GB GM sv qv fv s) (hb : Below w.heap.size w w') : SX w' M S NB MB GB GM sv qv fv s where
  hS := row_on h.hS hb
  hn := h.hn.below hb
  hg := h.hg.below hb
  hs := owns_below h.hs hb
  hq := h.hq.sep (.of_below hb) (fun k hk => hb.block k (h.lt k (h.hq.own k hk))) h.hq.own
  hf := h.hf.sep (.of_below hb) (fun k hk => hb.block k (h.lt k (h.hf.own k hk))) h.hf.own
  nb := h.nb
  nm := h.nm
  mS := h.mS
  mN := h.mN
  mG := h.mG
  ms := h.ms
  mNB := h.mNB
  mGB := h.mGB
  lt := fun b hm => Nat.lt_of_lt_of_le (h.lt b hm) hb.size
theorem SR.below {w w' : World} {M : Nat → Prop} {S : Nat} {s : Sess} (h : SR w M S s) (hb : Below w.heap.size w w') : SR w' M S s := by
  obtain ⟨NB, MB, GB, GM, sv, qv, fv, hx⟩ := h
  exact ⟨NB, MB, GB, GM, sv, qv, fv, hx.below hb⟩

/-- What becomes of a session where one block K of its own was written (its kind told), and a new one perhaps made: the parts that were not written stay. -/
theorem SX.parts {w w' : World} {M M' : Nat → Prop} {S NB MB GB GM : Nat} {sv qv fv : Value} {s : Sess} (h : SX w M S NB MB GB GM sv qv fv s) (K : Nat) (hg : w.grownBy w' (some K)) (hM : ∀ b, M b → M' b) (hs : Sep M M' w w') :
    (bkind w K ≠ 94 + 2 → w'.heap[S]? = w.heap[S]?) ∧ (K ≠ MB → bkind w K ≠ 143 + 2 → St w' NB MB s.nums) ∧ (K ≠ GM → bkind w K ≠ 143 + 2 → St w' GB GM s.got) ∧
    (bkind w K ≠ 64 + 2 → w'.ownsRow 0 64 6 sv s.subs.length (s.subs.flatMap sbP)) ∧ (bkind w K ≠ 36 + 2 → QuR w' M' qv s.queue) ∧ (bkind w K ≠ 51 + 2 → FlR w' M' fv s.flights) := by
  have key : ∀ b, b < w.heap.size → b ≠ K → w'.heap[b]? = w.heap[b]? := fun b hb hne => hg.block b hb (fun e => hne (Option.some.inj e))
  have lt1 : ∀ {b t : Nat} {fr : Nat × Nat} {cs : Array Value}, w.heap[b]? = some (.cells cs t fr) → b < w.heap.size := fun h => (Array.getElem?_eq_some_iff.1 h).1
  refine ⟨fun hk => key S (lt1 h.hS) (fun e => hk (e ▸ bkind_cells h.hS)), fun hne hk => h.hn.of_blocks (key _ (lt1 h.hn.1) (fun e => hk (e ▸ h.hn.kinds.1))) (key _ h.hn.2.lt (fun e => hne e.symm)),
    fun hne hk => h.hg.of_blocks (key _ (lt1 h.hg.1) (fun e => hk (e ▸ h.hg.kinds.1))) (key _ h.hg.2.lt (fun e => hne e.symm)),
    fun hk => owns_of_block h.hs fun k hk' => key k (h.lt k (h.ms k hk')) (fun e => hk (e ▸ own_kind h.hs k hk')),
    fun hk => h.hq.sep hs (fun k hk' => key k (h.lt k (h.hq.own k hk')) (fun e => hk (e ▸ h.hq.kind k hk'))) (fun k hk' => hM k (h.hq.own k hk')),
    fun hk => h.hf.sep hs (fun k hk' => key k (h.lt k (h.hf.own k hk')) (fun e => hk (e ▸ h.hf.kind k hk'))) (fun k hk' => hM k (h.hf.own k hk'))⟩
end Go.Proofs.YtgimbocoamnkjaaGreatDoor
