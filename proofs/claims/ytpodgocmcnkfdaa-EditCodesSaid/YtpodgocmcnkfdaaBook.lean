
import Derived.Test.YtpodgocmcnkfdaaKeep
import Derived.Deep.RegionHeld3
import Derived.Deep.AppendLies
import Derived.StillTailTactics
import Derived.Deep.RegionLaw
namespace Go.Proofs.Ytpodgocmcnkfdaa
open Go.RowKit
theorem Try.info39 : (Try.prog.info? 39).map (fun i => (i.zero, i.size, i.bytes)) = some (some (.slice none 0 0), 1, 24) := by kernel_rfl

set_option maxRecDepth 100000 in
set_option maxHeartbeats 4000000 in
theorem book_bytes (B K : Nat) (vs us : List Value) (ps : List (List UInt8)) (ad : Option Addr) (c : Nat) (p : List UInt8) (w : World) (hB : Bk 69 39 5 w B K vs us ps) (hn : ps.length < 400)
    (hv : w.ownsRow B 5 1 (.slice ad p.length c) p.length (bv p)) (hd : ∀ v' ∈ vs, Unlike v' (.slice ad p.length c)) (hd2 : ∀ u ∈ us, Unlike (.slice ad p.length c) u) (hp : p.length ≤ 140737488351232) (R : Ending → World → Prop)
    (hR : ∀ w' us', Bk 69 39 5 w' B K (vs ++ [.slice ad p.length c]) us' (ps ++ [p]) → Below B w w' → Keeps 5 w w' → (∀ u ∈ us', u ∈ us ∨ ∀ k, u.ownBlock = some k → w.heap.size ≤ k) → R (.returned (.tuple #[])) w') :
    Calls Try.prog 31 #[.pointer (some ⟨K, 0, none⟩), .slice ad p.length c] w R := by
  have HB := Lib.hid hB
  obtain ⟨hKB, ⟨v0, v1, h0, h1, h2, h3⟩, he, ha, ha2⟩ := hB
  clear he ha ha2
  obtain ⟨a0, c0, rfl⟩ := owns_shape h1
  obtain ⟨a1, c1, rfl⟩ := owns_shape h2
  have hKlt : K < w.heap.size := (Array.getElem?_eq_some_iff.1 h0).1
  have hBs : B ≤ w.heap.size := by omega
  have q0 : w.cell? ⟨K, 0, none⟩ = some (.slice a0 ps.length c0) := cell_of_row w K 0 _ _ _ h0
  have HS := Lib.hid h0
  clear h0
  go_enter Try.func31, Try.ntmps31
  go_wp2_with (at_builtin; go_must (refine wpList_appAt (by rfl) (.tmp 14) (.tmp 16) 49 (by rfl) B 39 (.slice none 0 0) 1 24 Try.underlying49 Try.info39 rfl (by decide) _ _ _ _ rfl (World.ownsRow.alloc h1 _) _ _ _ _ rfl (rd_lit _ _ _ 1 1 rfl) (slice_oneCell _ _ _) (by simp) (by unfold maxLen; omega) (by omega) (by simp; omega) ?_))
  intro a2 c2 w2 hown2 hg2 hat2
  have hK2 := block_grown hg2 (block_alloc (o' := Obj.cells #[Value.slice ad p.length c] 39) HS.out) (own_block_ne HS.out h1 (by decide))
  have hv2 : Keeps 5 w w2 := (Keeps.below ((Below.refl _ _).alloc (Nat.le_refl _) _)).trans (Keeps.grown (h1.alloc _) hg2 (by decide))
  have hown1 := owns_grown (h2.alloc (Obj.cells #[Value.slice ad p.length c] 39)) hg2 (fun k hk hc => h3 k hc.symm hk)
  have hb2 := below_app ((Below.refl B w).alloc hBs _) hg2 (by simp; omega) (h1.alloc (Obj.cells #[Value.slice ad p.length c] 39))
  have hu2 : Unlike (.slice a2 (ps.length + 1) c2) (.slice a1 ps.length c1) := by
    intro k hk hc
    rcases hat2 with e | e
    · rw [e] at hk
      exact h3 k hk hc
    · rw [e] at hk
      have := (h2.lt k hc).2
      have := Option.some.inj hk
      omega
  have q2 : w2.cell? ⟨K, 0, none⟩ = some (.slice a0 ps.length c0) := cell_of_row w2 K 0 _ _ _ hK2
  have f2 := frozen_block hK2 0
  have HS2 := Lib.hid hK2
  clear hK2 hg2 h1 h2 q0 HS
  have HR := Lib.hid hR
  clear hR
  go_wp2_with fail
  generalize hw3 : w2.setCell ⟨K, 0, none⟩ (Value.slice a2 (ps.length + 1) c2) = w3
  have hK3 : w3.heap[K]? = some (.cells (BkCells (.slice a2 (ps.length + 1) c2) (.slice a1 ps.length c1)) 69 (0, 0)) := by rw [← hw3]; exact bk_store0 HS2.out
  have hr0 : w3.ownsRow B 39 1 (.slice a2 (ps.length + 1) c2) (ps.length + 1) (vs ++ [Value.slice ad p.length c]) := by rw [← hw3]; exact ownsRow_setCell_other hown2 (own_block_ne HS2.out hown2 (by decide)) _
  have hr1 : w3.ownsRow B 39 1 (.slice a1 ps.length c1) ps.length us := by rw [← hw3]; exact ownsRow_setCell_other hown1 (own_block_ne HS2.out hown1 (by decide)) _
  have hk3 : Keeps 5 w w3 := by rw [← hw3]; exact hv2.trans (Keeps.setK HS2.out (by decide))
  have hb3 : Below B w w3 := by rw [← hw3]; exact hb2.setCell hKB _
  have hvp := hk3 _ _ _ _ hv
  have hbsp := (bs_of_owns hvp).2
  have hK3l : K < w3.heap.size := (Array.getElem?_eq_some_iff.1 hK3).1
  have q3 : w3.cell? ⟨K, 1, none⟩ = some (.slice a1 ps.length c1) := cell_of_row w3 K 1 _ _ _ hK3
  have HK3 := Lib.hid hK3
  have HR1 := Lib.hid hr1
  have hsz3 := hb3.size
  obtain ⟨i0, hi0, hz0, hz1, hz2⟩ := info_parts Try.info39
  clear hw3 hK3 HS2 q2 f2 hown1 hown2 hb2 hv2
  go_region_law
    (first
      | (go_simp; go_at_call 33; refine twin_any _ p _ (hbsp.drew) (by omega) _ ?_; intro ad4 c4 w4 hown4 hb4; have q4 : w4.cell? ⟨K, 1, none⟩ = some (.slice a1 ps.length c1) := cell_later hb4 q3; have q4o := fun o => Lib.cell?_alloc_marked o q4)
      | (refine step_append_lies _ (by rfl) _ _ _ (by rfl) B 39 i0 (.slice none 0 0) 1 24 Try.underlying49 hi0 hz0 hz1 hz2 rfl (by omega) _ ps.length us (by rfl) ((owns_below (w := w3.drew) HR1.out hb4).alloc _)
          ⟨w4.heap.size, 0, none⟩ 1 1 [.slice ad4 p.length c4] (by rfl) (by rfl) (World.news_of_block (cs := #[.slice ad4 p.length c4]) (t := 39) (fr := (0, 0)) (heap_alloc_new w4 _)) (by simp [Value.oneCell'])
          (by omega) (by unfold maxLen; omega) (by omega) (by have := hb4.size; simp at this; simp; omega) (w4.heap.size + 1) (by simp) ?_; intro g5 c5 w5 hown5 hg5 hat5 hlt5; have hK5 := Lib.hid (block_grown hg5 (block_alloc (o' := Obj.cells #[Value.slice ad4 p.length c4] 39) ((hb4.block K (by show K < w3.heap.size; omega)).trans HK3.out)) (own_block_ne HK3.out HR1.out (by decide))); have q5 : w5.cell? ⟨K, 1, none⟩ = some (.slice a1 ps.length c1) := cell_of_row w5 K 1 _ _ _ hK5.out; have f5 := frozen_block hK5.out 1))
  all_goals
    have hr04 := owns_grown ((owns_below (w := w3.drew) hr0 hb4).alloc (Obj.cells #[Value.slice ad4 p.length c4] 39)) hg5 (fun k hk hc => hu2 k hk hc.symm)
    have hs4 : w3.heap.size ≤ w4.heap.size := hb4.size
    have hn4 := owns_mono (base' := B) hown4 (by show B ≤ w3.heap.size; omega)
    have hk4 : Keeps 5 w4 w5 := (Keeps.below ((Below.refl _ _).alloc (Nat.le_refl _) _)).trans (Keeps.grown ((owns_below (w := w3.drew) HR1.out hb4).alloc _) hg5 (by decide))
    have hk5 : Keeps 5 w w5 := (hk3.trans (Keeps.below (w := w3.drew) hb4)).trans hk4
    have hb5 : Below B w w5 := below_app ((below_then hb3.drew hb4 (by show B ≤ w3.heap.size; omega)).alloc (by omega) (Obj.cells #[Value.slice ad4 p.length c4] 39)) hg5 (by simp; omega) ((owns_below (w := w3.drew) HR1.out hb4).alloc _)
    have hu5 : Unlike (.slice a2 (ps.length + 1) c2) (.slice (some ⟨g5, 0, none⟩) (ps.length + 1) c5) := by
      intro k hk hc
      have h9 : g5 = k := by simpa [Value.ownBlock] using hc
      subst h9
      rcases hat5 with e | e
      · exact hu2 g5 hk e
      · have := (hr0.lt g5 hk).2
        omega
    have hfr : ∀ k, (Value.slice ad4 p.length c4).ownBlock = some k → w.heap.size ≤ k := by
      intro k hk
      have := (hown4.lt k hk).1
      have h8 : w3.heap.size ≤ k := this
      omega
    go_end0
    refine HR.out _ (us ++ [.slice ad4 p.length c4]) (HB.out.push (bk_store1 hK5.out) (ownsRow_setCell_other hr04 (own_block_ne hK5.out hr04 (by decide)) _) (ownsRow_setCell_other hown5 (own_block_ne hK5.out hown5 (by decide)) _) hu5 (hk5.trans (Keeps.setK hK5.out (by decide))) hv (Keeps.setK hK5.out (by decide) _ _ _ _ (hk4 _ _ _ _ hn4)) hfr hd hd2) (hb5.setCell hKB _) (hk5.trans (Keeps.setK hK5.out (by decide))) (fun u hu => (List.mem_append.1 hu).imp id (fun h => by obtain rfl := List.mem_singleton.1 h; exact hfr))

end Go.Proofs.Ytpodgocmcnkfdaa
