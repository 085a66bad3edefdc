/- Thinning, in plain lists; small walks for it. -/
import Derived.Test.YtgkgahjdjkmmnaaSeenW
namespace Go.Proofs.Ytgkgahjdjkmmnaa
open Go.RowKit

def keyRun : List Ent → Nat
  | [] => 0
  | a :: r => 1 + (r.takeWhile fun e => e.key == a.key).length
theorem keyRun_at {l : List Ent} {k : Nat} (h1 : 1 ≤ k) (hk : k ≤ l.length) (ha : ∀ j (h : j < l.length), j < k → l[j].key = (l[0]'(by omega)).key) (hs : ∀ h : k < l.length, l[k].key ≠ (l[0]'(by omega)).key) : keyRun l = k := by
  match l, h1, hk with
  | [], h1, hk => simp at hk; omega
  | a :: r, h1, hk =>
    show 1 + (r.takeWhile fun e => e.key == a.key).length = k
    have : ∀ (r : List Ent) (k : Nat), k ≤ r.length → (∀ j (h : j < r.length), j < k → r[j].key = a.key) → (∀ h : k < r.length, r[k].key ≠ a.key) → (r.takeWhile fun e => e.key == a.key).length = k := by
      intro r
      induction r with
      | nil => intro k hk _ _; simp at hk; simp [hk]
      | cons b r ih =>
        intro k hk h1 h2
        cases k with
        | zero =>
          have := h2 (by simp)
          rw [List.takeWhile_cons, if_neg (by simpa using this)]
          rfl
        | succ k =>
          have := h1 0 (by simp) (by omega)
          rw [List.takeWhile_cons, if_pos (by simpa using this), List.length_cons, ih k (by simpa using hk) (fun j h hj => h1 (j + 1) (by simpa using h) (by omega)) (fun h => h2 (by simpa using h))]
    rw [this r (k - 1) (by simp at hk; omega) (fun j h hj => by
      have := ha (j + 1) (by simpa using h) (by omega)
      simpa using this) (fun h => by
      have := hs (by simp; omega)
      have e : (a :: r)[k]'(by simp; omega) = r[k - 1] := by
        obtain ⟨k', rfl⟩ : ∃ k', k = k' + 1 := ⟨k - 1, by omega⟩
        simp
      rw [e] at this
      simpa using this)]
    omega
theorem keyRun_le (l : List Ent) : keyRun l ≤ l.length := by
  cases l with
  | nil => simp [keyRun]
  | cons a r =>
    have := (List.takeWhile_sublist (fun e : Ent => e.key == a.key) (l := r)).length_le
    unfold keyRun
    simp
    omega

def pickK (g : List Ent) (m : List Bool) (k : Nat) : List Ent := ((g.zip m).take k).filterMap fun p => if p.2 then some p.1 else none
theorem pickK_succ (g : List Ent) (m : List Bool) (k : Nat) (h : k < g.length) (h2 : k < m.length) : pickK g m (k + 1) = pickK g m k ++ if m[k] then [g[k]] else [] := by
  unfold pickK
  have hz : k < (g.zip m).length := by rw [List.length_zip]; omega
  rw [List.take_succ_eq_append_getElem hz, List.filterMap_append, List.getElem_zip]
  congr 1
  cases m[k] <;> rfl
theorem pickK_len (g : List Ent) (m : List Bool) (k : Nat) : (pickK g m k).length ≤ k := by
  unfold pickK
  have h1 := List.length_filterMap_le (fun p : Ent × Bool => if p.2 then some p.1 else none) ((g.zip m).take k)
  rw [List.length_take] at h1
  omega
theorem pickK_mem {g : List Ent} {m : List Bool} {k : Nat} {e : Ent} (h : e ∈ pickK g m k) : e ∈ g := by
  unfold pickK at h
  obtain ⟨p, hp, he⟩ := List.mem_filterMap.1 h
  split at he
  · simp only [Option.some.injEq] at he
    subst he
    exact (List.of_mem_zip (List.mem_of_mem_take hp)).1
  · cases he
def dropDead (l : List Ent) : List Ent := (l.reverse.dropWhile fun e => e.dead).reverse
theorem dropDead_snoc (p : List Ent) (x : Ent) : dropDead (p ++ [x]) = if x.dead then dropDead p else p ++ [x] := by
  unfold dropDead
  rw [List.reverse_append, List.reverse_singleton, List.singleton_append, List.dropWhile_cons]
  split <;> simp_all
theorem dropDead_nil : dropDead [] = [] := rfl
def keptG (g : List Ent) (b : Bool) (ss : List Int) : List Ent := if b then dropDead (pickK g (seenL g ss) g.length) else pickK g (seenL g ss) g.length
def thinF (b : Bool) (ss : List Int) : Nat → List Ent → List Ent → List Ent
  | 0, _, out => out
  | n + 1, l, out => if l = [] then out else thinF b ss n (l.drop (keyRun l)) (out ++ keptG (l.take (keyRun l)) b ss)
def thinL (l : List Ent) (b : Bool) (ss : List Int) : List Ent × Int := if sortedL l then (thinF b ss l.length l [], 0) else ([], 90)

theorem Es.take {w : World} {a : Option Addr} {n c j : Nat} {l : List Ent} (h : Es w (.slice a n c) l) (hj : j ≤ l.length) : Es w (.slice a j c) (l.take j) := by
  obtain ⟨ad, c', e, h1, h2, h3, h4⟩ := h
  simp only [Value.slice.injEq] at e
  obtain ⟨rfl, rfl, rfl⟩ := e
  have hl : (l.take j).length = j := by rw [List.length_take]; omega
  refine ⟨a, c, by rw [hl], by omega, h2, h3, fun h0 => ?_⟩
  obtain ⟨b, o, rfl, h5⟩ := h4 (by omega)
  refine ⟨b, o, rfl, fun i hi => ?_⟩
  rw [List.getElem_take]
  exact h5 i (by omega)

theorem EsO.take {w : World} {B m j c : Nat} {a : Option Addr} {l : List Ent} (h : EsO w B (.slice a m c) l) (hj : j ≤ l.length) : EsO w B (.slice a j c) (l.take j) := by
  obtain ⟨kv, h1, h2, h3⟩ := h
  have hl : (l.take j).length = j := by rw [List.length_take]; omega
  have hk : (kv.take j).length = (l.take j).length := by simp [h1]
  refine ⟨kv.take j, hk, ?_, fun i hi => ?_⟩
  · rw [hl, ← ecs_take h1 j hj]
    have hlc := ecs_length kv l h1
    refine ⟨by rw [List.length_take, hlc]; omega, ?_⟩
    rcases h2.2 with ⟨hv, h0⟩ | ⟨g, cap, cur, hv, hb, hg, q1, q2, q3, q4⟩
    · left
      simp only [Value.slice.injEq] at hv
      obtain ⟨rfl, rfl, rfl⟩ := hv
      obtain rfl : j = 0 := by omega
      exact ⟨rfl, rfl⟩
    · right
      simp only [Value.slice.injEq] at hv
      obtain ⟨rfl, -, rfl⟩ := hv
      refine ⟨g, c, cur, rfl, hb, hg, by omega, q2, q3, ?_⟩
      have : (cur.toList.take (l.length * 4)).take (j * 4) = cur.toList.take (j * 4) := by rw [List.take_take, Nat.min_eq_left (by omega)]
      rw [← this, q4]
  · have hi2 : i < l.length := by rw [hl] at hi; omega
    have := h3 i hi2
    simpa [List.getElem_take] using this

/-- The first of two lists of one key: newest first. -/
theorem group_mono {g : List Ent} (hs : Srt lessE g) (hk : ∀ x ∈ g, ∀ y ∈ g, x.key = y.key) : ∀ s a b (_ : a ≤ b) (hb : b < g.length) (ha : a < g.length), (g[a]).seq ≤ s → (g[b]).seq ≤ s := by
  intro s a b hab hb ha h
  by_cases e : a = b
  · subst e; exact h
  · have h1 := (List.pairwise_iff_getElem.1 hs) a b ha hb (by omega)
    rcases (lessE_iff _ _).1 h1 with h2 | h2
    · rw [hk g[a] (List.getElem_mem ha) g[b] (List.getElem_mem hb)] at h2
      exact absurd h2 (cb_irr _)
    · omega

set_option maxHeartbeats 400000 in
theorem equal_any (v u : Value) (l m : List UInt8) (r : Bool) (hr : (l == m) = r) (w : World) (hv : Bs w v l) (hu : Bs w u m) (R : Ending → World → Prop)
    (hR : R (.returned (.bool r)) w) :
    Calls Try.prog 38 #[v, u] w R := by
  subst hr
  have h1 := run_conv_bs (P := Try.prog) Try.underlying25 Try.underlying5 Try.underlying9 hv
  have h2 := run_conv_bs (P := Try.prog) Try.underlying25 Try.underlying5 Try.underlying9 hu
  clear hv hu
  go_enter Try.func38, Try.ntmps38
  go_wp2
  exact hR
end Go.Proofs.Ytgkgahjdjkmmnaa
