/- Properties laid as the document lays them: plain, and the same. -/
import Derived.Test.YtpodhidabhnnnaaDoorPropW
namespace Go.Proofs.YtpodhidabhnnnaaDoor
open Go.RowKit

/-- A value's bytes, and whether it can be laid. -/
def rlaidL (p : Pr) : List UInt8 × Bool :=
  if kindL p.id = 1 then (putW (u64 p.num) 1, decide (0 ≤ p.num ∧ p.num < 256))
  else if kindL p.id = 2 then (putW (u64 p.num) 2, decide (0 ≤ p.num ∧ p.num < 65536))
  else if kindL p.id = 3 then (putW (u64 p.num) 4, decide (0 ≤ p.num ∧ p.num < 4294967296))
  else if kindL p.id = 4 then ((varR p.num).1, decide ((varR p.num).2 = 0))
  else if kindL p.id = 5 then ((textL p.text).1, decide ((textL p.text).2 = 0))
  else if kindL p.id = 6 then ((dataL p.data).1, decide ((dataL p.data).2 = 0))
  else if kindL p.id = 7 then ((textL p.text).1 ++ (textL p.pair).1, decide ((textL p.text).2 = 0 ∧ (textL p.pair).2 = 0))
  else ([], false)
theorem rlaid_val (p : Pr) : (rlaidL p).1 = valB p := by
  unfold rlaidL valB
  repeat' split
  all_goals first | rfl | contradiction
def okP (p : Pr) : Bool := decide (1 ≤ p.id ∧ p.id ≤ 127) && (rlaidL p).2
theorem okP_laid {p : Pr} (h : okP p = true) : laidL p = b8 p.id :: valB p := by
  unfold okP at h
  rw [Bool.and_eq_true, decide_eq_true_eq] at h
  obtain ⟨n, hn⟩ : ∃ n : Nat, p.id = (n : Int) := ⟨p.id.toNat, by omega⟩
  rw [laidL_eq, hn, varR_of n (by omega)]
  show varF 3 n ++ _ = _
  rw [varF_small 3 n (by omega)]
  rfl
def rbytesL (l : List Pr) : List UInt8 × Bool :=
  if l.all okP = true then ((varR ((l.flatMap laidL).length : Int)).1 ++ l.flatMap laidL, decide ((varR ((l.flatMap laidL).length : Int)).2 = 0)) else ([], false)
def rlayL (wh : Int) (l : List Pr) : List UInt8 × Nat :=
  if (rbytesL l).2 = false then ([], 129)
  else if readL wh (rbytesL l).1 = (l, ((rbytesL l).1.length : Int), 0) then ((rbytesL l).1, 0) else ([], 129)

theorem cls_range (id : Int) (h : clsL id ≠ 0) : 1 ≤ id ∧ id ≤ 42 := by
  by_cases hc : 1 ≤ id ∧ id ≤ 42
  · exact hc
  · refine absurd ?_ h
    unfold clsL
    rw [if_neg (by omega), if_neg (by omega), if_neg (by omega), if_neg (by omega), if_neg (by omega), if_neg (by omega), if_neg (by omega), if_neg (by omega), if_neg (by omega), if_neg (by omega), if_neg (by omega), if_neg (by omega)]
theorem may_range_id {id wh : Int} (h : mayL id wh = true) : 1 ≤ id ∧ id ≤ 42 := by
  refine cls_range id fun h0 => ?_
  unfold mayL at h
  rw [h0] at h
  cases h
theorem good_ok {p : Pr} {wh : Int} (h : GoodP p) (hm : mayL p.id wh = true) : okP p = true := by
  have hr := may_range_id hm
  have hk := may_kind hm
  unfold okP
  rw [Bool.and_eq_true]
  refine ⟨decide_eq_true ⟨by omega, by omega⟩, ?_⟩
  have n0 := h.n0
  have n1 := h.n1
  obtain ⟨n, hn⟩ : ∃ n : Nat, p.num = (n : Int) := ⟨p.num.toNat, by omega⟩
  unfold rlaidL
  rcases kind_cases p.id with e | e | e | e | e | e | e | e
  · exact absurd e hk
  · rw [if_pos e]; exact decide_eq_true ⟨n0, h.k1 e⟩
  · rw [if_neg (by omega), if_pos e]; exact decide_eq_true ⟨n0, h.k2 e⟩
  · rw [if_neg (by omega), if_neg (by omega), if_pos e]; exact decide_eq_true ⟨n0, n1⟩
  · have h4 := h.k4 e
    rw [if_neg (by omega), if_neg (by omega), if_neg (by omega), if_pos e, hn, varR_of n (by omega)]
    rfl
  · rw [if_neg (by omega), if_neg (by omega), if_neg (by omega), if_neg (by omega), if_pos e, textL_of _ h.lt h.tt]
    rfl
  · rw [if_neg (by omega), if_neg (by omega), if_neg (by omega), if_neg (by omega), if_neg (by omega), if_pos e, dataL_of _ h.ld]
    rfl
  · rw [if_neg (by omega), if_neg (by omega), if_neg (by omega), if_neg (by omega), if_neg (by omega), if_neg (by omega), if_pos e, textL_of _ h.lt h.tt, textL_of _ h.lp h.tp]
    rfl

theorem rlay_eq (wh : Int) (l : List Pr) : rlayL wh l = layL wh l := by
  by_cases hall : l.all okP = true
  · have e : rbytesL l = ((varR ((l.flatMap laidL).length : Int)).1 ++ l.flatMap laidL, decide ((varR ((l.flatMap laidL).length : Int)).2 = 0)) := by unfold rbytesL; rw [if_pos hall]
    unfold rlayL layL
    rw [e]
    obtain ⟨⟨V, er⟩, hV⟩ : ∃ r, varR ((l.flatMap laidL).length : Int) = r := ⟨_, rfl⟩
    rw [hV]
    simp only
    by_cases h0 : er = 0
    · have h1 : ¬ (decide (er = 0) = false) := by rw [decide_eq_true h0]; simp
      have h2 : ¬ (er ≠ 0) := fun h => h h0
      rw [if_neg h1, if_neg h2]
    · rw [if_pos (decide_eq_false h0), if_pos h0]
  · have e : rbytesL l = ([], false) := by unfold rbytesL; rw [if_neg hall]
    have e2 : rlayL wh l = ([], 129) := by unfold rlayL; rw [e]; rfl
    rw [e2]
    obtain ⟨⟨x, c⟩, hx⟩ : ∃ r, layL wh l = r := ⟨_, rfl⟩
    rw [hx]
    by_cases hc : c = 0
    · subst hc
      obtain ⟨n, _, _, _, hr⟩ := layL_ok hx
      obtain ⟨_, _, _, _, _, _, _, _, _, h8, _⟩ := readL_ok hr
      refine absurd (List.all_eq_true.2 fun p hp => ?_) hall
      obtain ⟨g1, g2, _⟩ := h8 p hp
      exact good_ok g1 g2
    · obtain ⟨rfl, rfl⟩ := layL_bad hx hc
      rfl

/-- The properties with one of some ids. -/
def onlyL (l : List Pr) (ids : List Int) : List Pr := l.filter fun p => ids.contains p.id
theorem onlyL_snoc (l : List Pr) (p : Pr) (ids : List Int) : onlyL (l ++ [p]) ids = onlyL l ids ++ if ids.contains p.id = true then [p] else [] := by
  unfold onlyL
  rw [List.filter_append]
  congr 1
  rw [List.filter_cons]
  split <;> rfl
end Go.Proofs.YtpodhidabhnnnaaDoor
