/- What the law MergeSees leans on. -/
import Derived.Test.YtgkgahjdjkmmnaaSeeW
import Derived.Test.YtgkgahjdjkmmnaaSpread
import Derived.Test.YtgkgahjdjkmmnaaFrame09
namespace Go.Proofs.Ytgkgahjdjkmmnaa
open Go.ChangeShapes Go.WideShapes Go.ChangeAt Go.RowKit

/-- Rows of bytes that came in, not too many. -/
def Ks (w : World) (v : Value) (ks : List (List UInt8)) : Prop := ∃ ad c, v = .slice ad ks.length c ∧ ks.length ≤ 140737488351232 ∧ (0 < ks.length → ∃ b o, ad = some ⟨b, o, none⟩ ∧ ∀ (i : Nat) (h : i < ks.length), ∃ u, w.cell? ⟨b, o + i, none⟩ = some u ∧ Bs w u ks[i])
theorem Ks.below {w w' : World} {v : Value} {ks : List (List UInt8)} (h : Ks w v ks) (hb : Below w.heap.size w w') : Ks w' v ks := by
  obtain ⟨ad, c, h1, h2, h3⟩ := h
  refine ⟨ad, c, h1, h2, fun h0 => ?_⟩
  obtain ⟨b, o, e, h4⟩ := h3 h0
  refine ⟨b, o, e, fun i hi => ?_⟩
  obtain ⟨u, h5, h6⟩ := h4 i hi
  exact ⟨u, cell_later hb h5, h6.below hb⟩
theorem open_ks {H : Type} {enc : TypeId × Value → H} {W : World} {base : Nat} {spare : Nat → Bool} {held : Bool} {v : Value} {d : DataW H} {p : List MemPlace} (hsp : ∀ b, spare b = true)
    (h : DataW.Trod enc Try.prog W base spare held 45 v d p) (hs : ∃ a len cap, v = .slice a len cap) (hw : Fits Try.prog 45 d) : ∃ ks : List (List UInt8), Ks W v ks := by
  obtain ⟨a0, l0, c0, rfl⟩ := hs
  obtain ⟨fuel, hf⟩ := h
  obtain ⟨ls, ad, c, h1, h2, h3, h4, h6, h5⟩ := open_cells (α := List UInt8) (fun cs l => ∃ v, cs = [v] ∧ Bs W v l) Try.underlying45 (C := 1) (by kernel_rfl) (by omega)
    (fun n cs d p hf hw hl => by
      match cs, hl with
      | [c0], _ =>
        obtain ⟨K, hK, hKl⟩ := open_bsw Try.underlying25 Try.underlying5 (by kernel_rfl) (by kernel_rfl) hf hsp hw
        exact ⟨K, c0, rfl, hK⟩) hf hsp hw
  have hby : Try.prog.bytesOf 25 = 24 := by kernel_rfl
  rw [hby] at h6
  refine ⟨ls, ad, c, h1, by omega, fun h0 => ?_⟩
  obtain ⟨b, o, e, h7⟩ := h5 h0
  refine ⟨b, o, e, fun i hi => ?_⟩
  obtain ⟨cs, c1, c2, v, rfl, c3⟩ := h7 i hi
  refine ⟨v, ?_, c3⟩
  have := c2 0 (by omega)
  simpa using this

theorem live_one {a b : Option Ent} (h : liveO true b = liveO true a) (ha : (a.getD zeroE).dead = true) (hb : (b.getD zeroE).dead = false) : b = none := by
  cases a with
  | none => cases ha
  | some x =>
    cases b with
    | none => rfl
    | some y =>
      simp only [Option.getD_some] at ha hb
      simp [liveO, ha, hb] at h
theorem live_two {a b : Option Ent} (h : liveO true b = liveO true a) (ha : (a.getD zeroE).dead = false) (hb : (b.getD zeroE).dead = false) : b = a := by
  cases a with
  | none =>
    cases b with
    | none => rfl
    | some y =>
      simp only [Option.getD_some] at hb
      simp [liveO, hb] at h
  | some x =>
    cases b with
    | none =>
      simp only [Option.getD_some] at ha
      simp [liveO, ha] at h
    | some y =>
      simp only [Option.getD_some] at ha hb
      simpa [liveO, ha, hb] using h
theorem live_zero (a b : Option Ent) (h : liveO false b = liveO false a) : b = a := by
  cases a <;> cases b <;> first | rfl | (simp [liveO] at h; rw [h]) | simp [liveO] at h

theorem see_x (v u : Value) (l : List Ent) (key : List UInt8) (s : Int) (K V : List UInt8) (n : Int) (d q : Bool) (hr : ∃ r, seeL l key s = r ∧ r.getD zeroE = ⟨K, V, n, d⟩ ∧ r.isSome = q) (w : World) (hv : Es w v l) (hu : Bs w u key) (R : Ending → World → Prop)
    (hR : ∀ a1 a2 a3 b1 b2 b3 w', EC w' (.slice a1 a2 a3) (.slice b1 b2 b3) ⟨K, V, n, d⟩ → Below w.heap.size w w' → R (.returned (.tuple #[.agg #[.slice a1 a2 a3, .slice b1 b2 b3, .int .i64 n, .bool d], .bool q])) w') :
    Calls Try.prog 20 #[v, u, .int .i64 s] w R := by
  obtain ⟨r, h1, h2, h3⟩ := hr
  refine see_any v u l key s r h1 w hv hu R fun k' v' w' hec hb => ?_
  rw [h2] at hec
  rw [h2, h3]
  obtain ⟨a1, a2, a3, rfl⟩ : ∃ a n c, k' = .slice a n c := by obtain ⟨a, c, h, _⟩ := hec.hk; exact ⟨_, _, _, h⟩
  obtain ⟨b1, b2, b3, rfl⟩ := EC.shape hec
  exact hR _ _ _ _ _ _ w' hec hb
theorem Bs.empty {w w' : World} {v : Value} (h : Bs w v []) : Bs w' v [] := by
  obtain ⟨ad, c, h1, h2, h3, h4, h5⟩ := h
  exact ⟨ad, c, h1, ⟨h2.1, fun h => absurd h (by simp)⟩, h3, h4, h5⟩
theorem EC.zero {w w' : World} {k v : Value} {e : Ent} (h : EC w k v e) (he : e = zeroE) : EC w' k v zeroE := by
  subst he
  exact ⟨Bs.empty h.hk, Bs.empty h.hv, h.lk, h.lv, h.s0, h.s1⟩
theorem EC.none (w : World) : EC w (.slice none 0 0) (.slice none 0 0) zeroE := ⟨bs_nil _, bs_nil _, by simp [zeroE], by simp [zeroE], by simp [zeroE], by simp [zeroE]⟩
theorem zset {wr X : World} {a b t t' : Nat} {old o2 cs : Array Value} (hA : X.heap[a]? = some (.cells old t (0, 0))) (hB : X.heap[b]? = some (.cells o2 t' (0, 0))) (hne : b ≠ a) (hx : Below wr.heap.size wr X) (ha : wr.heap.size ≤ a) :
    ∃ Y, X.setRow a cs = Y ∧ Y.heap[a]? = some (.cells cs t (0, 0)) ∧ Y.heap[b]? = some (.cells o2 t' (0, 0)) ∧ Below wr.heap.size wr Y :=
  ⟨_, rfl, setRow_heap _ a _ cs _ _ hA, (setRow_other _ a b cs hne).trans hB, below_setRow hx ha cs⟩
theorem get_some {r : Option Ent} {e : Ent} (h : r.getD zeroE = e) (hd : e.dead = true) : r.isSome = true := by
  cases r with
  | none => rw [← h] at hd; cases hd
  | some _ => rfl

end Go.Proofs.Ytgkgahjdjkmmnaa
