/- What merge.Merge computes, in plain lists. -/
import Derived.Test.YtgkgahjdjkmmnaaRowE
namespace Go.Proofs.Ytgkgahjdjkmmnaa
open Go.RowKit

/-- May the entry stand behind what there is? -/
def behindL (out : List Ent) (e : Ent) : Bool := match out.getLast? with
  | none => true
  | some a => lessE a e
/-- Rows merged: n rounds at most. -/
def mergeF : Nat → List (List Ent) → List Ent → List Ent
  | 0, _, out => out
  | n + 1, ls, out => match firstK ls ls.length with
    | none => out
    | some b => match ls.getD b [] with
      | [] => out
      | e :: t => mergeF n (ls.set b t) (if behindL out e then out ++ [e] else out)
/-- How many entries there are in all. -/
def totalL (ls : List (List Ent)) : Nat := (ls.map List.length).sum
theorem totalL_set (ls : List (List Ent)) (b : Nat) (e : Ent) (t : List Ent) (h : b < ls.length) (he : ls[b] = e :: t) : totalL (ls.set b t) + 1 = totalL ls := by
  unfold totalL
  induction ls generalizing b with
  | nil => simp at h
  | cons x r ih =>
    cases b with
    | zero =>
      simp only [List.getElem_cons_zero] at he
      subst he
      simp only [List.set_cons_zero, List.map_cons, List.sum_cons, List.length_cons]
      omega
    | succ b =>
      have := ih b (by simpa using h) (by simpa using he)
      simp only [List.set_cons_succ, List.map_cons, List.sum_cons]
      omega
theorem firstK_none (ls : List (List Ent)) : ∀ k, k ≤ ls.length → firstK ls k = none → ∀ i, i < k → ls.getD i [] = []
  | 0, _, _, i, hi => by omega
  | k + 1, hk, h, i, hi => by
    unfold firstK at h
    split at h
    · rename_i hl
      by_cases e : i = k
      · subst e; exact hl
      · exact firstK_none ls k (by omega) h i (by omega)
    · cases h
    · split at h <;> cases h
end Go.Proofs.Ytgkgahjdjkmmnaa
