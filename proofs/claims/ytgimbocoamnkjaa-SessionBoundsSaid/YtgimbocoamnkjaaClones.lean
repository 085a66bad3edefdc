/- slices.Clone at numbers and at properties, walked. -/
import Derived.Test.YtgimbocoamnkjaaPr
import Derived.Test.YtgimbocoamnkjaaIs
import Derived.Test.YtgimbocoamnkjaaPk
import Derived.Deep.Slices
namespace Go.Proofs.Ytgimbocoamnkjaa
open Go.RowKit

theorem infoI : (Try.prog.info? 3).map (fun i => (i.zero, i.size, i.bytes)) = some (some (.int .i64 0), 1, 8) := by kernel_rfl
theorem iv_length (l : List Int) : (iv l).length = l.length := by simp [iv]
theorem iv_oneCell (l : List Int) : ∀ u ∈ iv l, u.oneCell' = true := by
  intro u hu
  obtain ⟨_, _, rfl⟩ := List.mem_map.1 hu
  rfl
/-- The values ds read as the data of the properties l, one by one. -/
def Pds (w : World) (ds : List Value) (l : List Pr) : Prop := ds.length = l.length ∧ ∀ (i : Nat) (d : Value) (p : Pr), ds[i]? = some d → l[i]? = some p → PC w d p
theorem Pds.below {w w' : World} {ds : List Value} {l : List Pr} (h : Pds w ds l) (hb : Below w.heap.size w w') : Pds w' ds l := ⟨h.1, fun i d p h1 h2 => (h.2 i d p h1 h2).below hb⟩
theorem Pt.rd {W w : World} {v : Value} {l : List Pr} (h : Pt W w v l) : ∃ (ad : Option Addr) (c : Nat) (ds : List Value), v = .slice ad l.length c ∧ l.length ≤ c ∧ c ≤ 9223372036854775807 ∧ (ad = none → c = 0) ∧ Rd w 5 ad l.length (pcs ds l) ∧ Pds W ds l := by
  obtain ⟨ad, c, rfl, h1, h2, h3, h4⟩ := h
  by_cases h0 : 0 < l.length
  · obtain ⟨b, o, rfl, h5⟩ := h4 h0
    have hex : ∀ i, i < l.length → ∃ d, ∃ p, l[i]? = some p ∧ P5 w b (o + i * 5) d p ∧ PC W d p := fun i hi => by
      obtain ⟨d, h6, h7⟩ := h5 i hi
      exact ⟨d, l[i], List.getElem?_eq_getElem hi, h6, h7⟩
    have : Inhabited Value := ⟨undef⟩
    obtain ⟨f, hf⟩ := Go.Deep.choose_lt (n := l.length) (p := fun i d => ∃ p, l[i]? = some p ∧ P5 w b (o + i * 5) d p ∧ PC W d p) hex
    have hl : ((List.range l.length).map f).length = l.length := by simp
    refine ⟨_, _, (List.range l.length).map f, rfl, h1, h2, h3, ⟨?_, fun _ => ⟨b, o, rfl, fun j hj => ?_⟩⟩, hl, fun i d0 p0 hd0 hp0 => ?_⟩
    · unfold pcs
      rw [List.length_flatMap]
      have : ((((List.range l.length).map f).zip l).map fun a => (pc a).length) = List.replicate l.length 5 := by
        apply List.ext_getElem
        · simp
        · intro i q1 q2
          simp [pc]
      rw [this]
      simp
    · have hi : j / 5 < l.length := by omega
      obtain ⟨p, hp, h6, _⟩ := hf (j / 5) hi
      rw [List.getElem?_eq_getElem hi] at hp
      obtain rfl := Option.some.inj hp
      have hat := pcs_at ((List.range l.length).map f) l hl (j / 5) hi (j % 5) (by omega)
      rw [show j / 5 * 5 + j % 5 = j by omega] at hat
      rw [hat]
      have e : ((List.range l.length).map f)[j / 5]'(by rw [hl]; exact hi) = f (j / 5) := by simp
      rw [e]
      have hm : j % 5 < 5 := Nat.mod_lt _ (by omega)
      have he : j = j / 5 * 5 + j % 5 := by omega
      obtain ⟨q, hq⟩ : ∃ q, j % 5 = q := ⟨_, rfl⟩
      rw [hq] at hm he ⊢
      rw [show o + j = o + j / 5 * 5 + q by omega]
      match q, hm with
      | 0, _ => exact h6.1
      | 1, _ => exact h6.2.1
      | 2, _ => exact h6.2.2.1
      | 3, _ => exact h6.2.2.2.1
      | 4, _ => exact h6.2.2.2.2
    · have hi := (List.getElem?_eq_some_iff.1 hp0).1
      obtain ⟨p, hp, _, h7⟩ := hf i hi
      rw [hp0] at hp
      obtain rfl := Option.some.inj hp
      have e : ((List.range l.length).map f)[i]? = some (f i) := by simp [hi]
      rw [e] at hd0
      obtain rfl := Option.some.inj hd0
      exact h7
  · have h0' : l = [] := List.eq_nil_of_length_eq_zero (by omega)
    subst h0'
    exact ⟨ad, c, [], rfl, h1, h2, h3, Rd.nil _ _ _, rfl, fun i d p hd hp => by simp at hp⟩
theorem pcs_oneCell {w : World} {ds : List Value} {l : List Pr} (h : Pds w ds l) : ∀ u ∈ pcs ds l, u.oneCell' = true := by
  intro u hu
  unfold pcs at hu
  obtain ⟨x, hx, hux⟩ := List.mem_flatMap.1 hu
  obtain ⟨i, hi, rfl⟩ := List.getElem_of_mem hx
  have hil : i < l.length := by rw [List.length_zip] at hi; omega
  have hid : i < ds.length := by rw [List.length_zip] at hi; omega
  obtain ⟨a, c, e, _⟩ := (h.2 i _ _ (List.getElem?_eq_getElem hid) (List.getElem?_eq_getElem hil)).hd
  rw [List.getElem_zip, e] at hux
  simp only [pc, List.mem_cons, List.not_mem_nil, or_false] at hux
  rcases hux with rfl | rfl | rfl | rfl | rfl <;> rfl

set_option maxRecDepth 100000 in
set_option maxHeartbeats 800000 in
theorem clonei_any (v : Value) (l : List Int) (w : World) (hv : Is w v l) (hl : l.length ≤ 1000000) (R : Ending → World → Prop)
    (hR : ∀ ad c w', w'.ownsRow w.heap.size 3 1 (.slice ad l.length c) l.length (iv l) → Below w.heap.size w w' → R (.returned (.slice ad l.length c)) w') :
    Calls Try.prog 31 #[v] w R := by
  obtain ⟨ad, c, rfl, hr, h1, h2, h3⟩ := hv
  cases ad with
  | none =>
    have hc : c = 0 := h3 rfl
    subst hc
    have hl0 : l = [] := List.eq_nil_of_length_eq_zero (by omega)
    subst hl0
    have he : ∀ w : World, (binOp .eql 29 (.slice none 0 0) (.slice none 0 0)).run Try.prog w = .ok (.bool true) w := fun _ => rfl
    go_enter Try.func31, Try.ntmps31
    go_wp2
    exact hR _ _ _ (World.ownsRow_nil _ _ _ _) (Below.refl _ _)
  | some a =>
    have he : ∀ w : World, (binOp .eql 29 (.slice (some a) l.length c) (.slice none 0 0)).run Try.prog w = .ok (.bool false) w := fun _ => rfl
    have hown := (World.ownsRow_made (base := w.heap.size) (e := 3) (size := 1) w #[] 0 (Nat.le_refl _) (by unfold maxLen; omega) rfl)
    have hr1 := rd_alloc hr (.cells #[] 3)
    go_enter Try.func31, Try.ntmps31
    go_wp2_with (at_builtin; go_must (refine wpList_app (by rfl) (.tmp 5) (.tmp 6) 29 (by rfl) w.heap.size 3 (.int .i64 0) 1 8 Try.underlying29 infoI rfl (by decide) _ _ _ _ rfl hown _ _ _ _ rfl hr1 (iv_oneCell _) h3 (by unfold maxLen; omega) (by omega) (by simp) ?_))
    intro ad2 c2 w2 hown2 hg2
    have hb2 := below_app ((Below.refl w.heap.size w).alloc (Nat.le_refl _) _) hg2 (by simp) hown
    clear hg2 hown hr1 hr
    go_wp2
    exact hR _ _ _ hown2 hb2

set_option maxRecDepth 100000 in
set_option maxHeartbeats 800000 in
theorem clonep_any (v : Value) (l : List Pr) (W w : World) (hv : Pt W w v l) (hl : l.length ≤ 1000000) (R : Ending → World → Prop)
    (hR : ∀ ad c (ds : List Value) w', w'.ownsRow w.heap.size 84 5 (.slice ad l.length c) l.length (pcs ds l) → Pds W ds l → Below w.heap.size w w' → R (.returned (.slice ad l.length c)) w') :
    Calls Try.prog 40 #[v] w R := by
  obtain ⟨ad, c, ds, rfl, h1, h2, h3, hr, hd⟩ := hv.rd
  have HE := Lib.hid hd
  have HR := Lib.hid hR
  clear hR hv hd
  cases ad with
  | none =>
    have hc : c = 0 := h3 rfl
    subst hc
    have hl0 : l = [] := List.eq_nil_of_length_eq_zero (by omega)
    subst hl0
    have hds : ds = [] := List.eq_nil_of_length_eq_zero (by have := HE.out.1; simpa using this)
    subst hds
    have he : ∀ w : World, (binOp .eql 40 (.slice none 0 0) (.slice none 0 0)).run Try.prog w = .ok (.bool true) w := fun _ => rfl
    go_enter Try.func40, Try.ntmps40
    go_wp2
    exact HR.out none 0 [] _ (World.ownsRow_nil _ _ _ _) HE.out (Below.refl _ _)
  | some a =>
    have he : ∀ w : World, (binOp .eql 40 (.slice (some a) l.length c) (.slice none 0 0)).run Try.prog w = .ok (.bool false) w := fun _ => rfl
    have hown := (World.ownsRow_made (base := w.heap.size) (e := 84) (size := 5) w #[] 0 (Nat.le_refl _) (by unfold maxLen; omega) rfl)
    have hr1 := rd_alloc hr (.cells #[] 84)
    have HOC := Lib.hid (pcs_oneCell HE.out)
    go_enter Try.func40, Try.ntmps40
    go_wp2_with (at_builtin; go_must (refine wpList_app (by rfl) (.tmp 5) (.tmp 6) 40 (by rfl) w.heap.size 84 (.agg #[.int .i64 0, .int .i64 0, .string ⟨#[]⟩, .string ⟨#[]⟩, .slice none 0 0]) 5 72 Try.underlying40 Try.info84 rfl (by decide) _ _ _ _ rfl hown _ _ _ _ rfl hr1 HOC.out h3 (by unfold maxLen; omega) (by omega) (by simp) ?_))
    intro ad2 c2 w2 hown2 hg2
    have hb2 := below_app ((Below.refl w.heap.size w).alloc (Nat.le_refl _) _) hg2 (by simp) hown
    have HB2 := Lib.hid hb2
    have HO2 := Lib.hid hown2
    clear hg2 hown hr1 hr hown2 hb2
    go_wp2
    exact HR.out _ _ ds _ (by have := HO2.out; simpa using this) HE.out HB2.out
end Go.Proofs.Ytgimbocoamnkjaa
