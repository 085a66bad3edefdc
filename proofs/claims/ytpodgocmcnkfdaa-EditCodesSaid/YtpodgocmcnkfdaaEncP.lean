/- The bytes of an edit, and what bytes say as one, in plain words. -/
import Derived.Test.YtpodgocmcnkfdaaAppP
import Derived.Test.YtpodgocmcnkfdaaPut
namespace Go.Proofs.Ytpodgocmcnkfdaa

def placeB (p : Pl) : List UInt8 := putL p.num.toNat 8 ++ ([b8 p.level] ++ (putL p.count.toNat 8 ++ (([b8 (p.least.length : Int)] ++ p.least) ++ ([b8 (p.most.length : Int)] ++ p.most))))
def headB (e : Ed) : List UInt8 := putL e.log.toNat 8 ++ (putL e.next.toNat 8 ++ (putL e.seq.toNat 8 ++ putL e.add.length 2))
def dropB (l : List Int) : List UInt8 := l.flatMap fun n => putL n.toNat 8
def encB (e : Ed) : List UInt8 := headB e ++ e.add.flatMap placeB ++ putL e.drop.length 2 ++ dropB e.drop
def okP (p : Pl) : Bool := numberL p.num && (decide (0 ≤ p.level ∧ p.level ≤ 255) && (numberL p.count && (decide (p.least.length ≤ 128) && decide (p.most.length ≤ 128))))
def okH (e : Ed) : Bool := numberL e.log && (numberL e.next && (numberL e.seq && (decide (e.add.length ≤ 65535) && decide (e.drop.length ≤ 65535))))
def okB (e : Ed) : Bool := okH e && (e.add.all okP && e.drop.all numberL)
def encL (e : Ed) : List UInt8 × Int := if okB e then (encB e, 0) else ([], 80)

/-! ### reading -/
structure Rs where
  b : List UInt8
  bad : Bool
def takeL (g : Bool) (n : Nat) (s : Rs) : List UInt8 × Rs := if (g && s.bad) || decide (s.b.length < n) then ([], ⟨s.b, true⟩) else (s.b.take n, ⟨s.b.drop n, s.bad⟩)
def numR (g : Bool) (n : Nat) (s : Rs) : Int × Rs := (IntKind.i64.wrap (getU (takeL g n s).1 : Int), (takeL g n s).2)
def textR (g : Bool) (s : Rs) : List UInt8 × Rs := takeL g (numR g 1 s).1.toNat (numR g 1 s).2
def placeR (g : Bool) (s : Rs) : Pl × Rs :=
  let a := numR g 8 s
  let b := numR g 1 a.2
  let c := numR g 8 b.2
  let d := textR g c.2
  let e := textR g d.2
  (⟨a.1, b.1, c.1, d.1, e.1⟩, e.2)
def addsR (g : Bool) : Nat → Rs → List Pl → List Pl × Rs
  | 0, s, acc => (acc, s)
  | n + 1, s, acc => if s.bad then (acc, s) else addsR g n (placeR g s).2 (acc ++ [(placeR g s).1])
def dropsR (g : Bool) : Nat → Rs → List Int → List Int × Rs
  | 0, s, acc => (acc, s)
  | n + 1, s, acc => if s.bad then (acc, s) else dropsR g n (numR g 8 s).2 (acc ++ [(numR g 8 s).1])
def parseR (g : Bool) (l : List UInt8) : Ed × Rs :=
  let a := numR g 8 ⟨l, false⟩
  let b := numR g 8 a.2
  let c := numR g 8 b.2
  let n := numR g 2 c.2
  let d := addsR g n.1.toNat n.2 []
  let m := numR g 2 d.2
  let f := dropsR g m.1.toNat m.2 []
  (⟨a.1, b.1, c.1, d.1, f.1⟩, f.2)
def decL (g : Bool) (l : List UInt8) : Ed × Int :=
  if (parseR g l).2.bad || !(decide ((encL (parseR g l).1).2 = 0) && decide ((encL (parseR g l).1).1 = l)) then (⟨0, 0, 0, [], []⟩, 80) else ((parseR g l).1, 0)

/-! ### it is one whether what is left is looked at once more -/
theorem takeL_ok {g : Bool} {n : Nat} {s : Rs} (h : (takeL g n s).2.bad = false) : s.bad = false ∧ ∀ k, takeL k n s = takeL g n s := by
  unfold takeL at h ⊢
  by_cases hl : s.b.length < n
  · rw [decide_eq_true hl, Bool.or_true, if_pos rfl] at h
    cases h
  · rw [decide_eq_false hl] at h ⊢
    cases hb : s.bad with
    | true =>
      rw [hb] at h
      cases g <;> simp at h
    | false => exact ⟨rfl, fun k => by simp⟩
theorem numR_ok {g : Bool} {n : Nat} {s : Rs} (h : (numR g n s).2.bad = false) : s.bad = false ∧ ∀ k, numR k n s = numR g n s := by
  obtain ⟨h1, h2⟩ := takeL_ok (g := g) (n := n) (s := s) h
  exact ⟨h1, fun k => by unfold numR; rw [h2 k]⟩
theorem textR_ok {g : Bool} {s : Rs} (h : (textR g s).2.bad = false) : s.bad = false ∧ ∀ k, textR k s = textR g s := by
  obtain ⟨h1, h2⟩ := takeL_ok h
  obtain ⟨h3, h4⟩ := numR_ok h1
  exact ⟨h3, fun k => by unfold textR; rw [h4 k, h2 k]⟩
theorem placeR_ok {g : Bool} {s : Rs} (h : (placeR g s).2.bad = false) : s.bad = false ∧ ∀ k, placeR k s = placeR g s := by
  obtain ⟨h1, k1⟩ := textR_ok (g := g) h
  obtain ⟨h2, k2⟩ := textR_ok h1
  obtain ⟨h3, k3⟩ := numR_ok h2
  obtain ⟨h4, k4⟩ := numR_ok h3
  obtain ⟨h5, k5⟩ := numR_ok h4
  refine ⟨h5, fun k => ?_⟩
  unfold placeR
  simp only [k5 k, k4 k, k3 k, k2 k, k1 k]
theorem addsR_ok {g : Bool} : ∀ (n : Nat) (s : Rs) (acc : List Pl), (addsR g n s acc).2.bad = false → s.bad = false ∧ ∀ k, addsR k n s acc = addsR g n s acc
  | 0, s, acc, h => ⟨h, fun k => rfl⟩
  | n + 1, s, acc, h => by
    cases hb : s.bad with
    | true =>
      rw [addsR, if_pos hb] at h
      rw [hb] at h
      cases h
    | false =>
      rw [addsR, if_neg (by simp [hb])] at h
      obtain ⟨h1, k1⟩ := addsR_ok n _ _ h
      obtain ⟨h2, k2⟩ := placeR_ok h1
      refine ⟨rfl, fun k => ?_⟩
      rw [addsR, addsR, if_neg (by simp [hb]), if_neg (by simp [hb]), k2 k, k1 k]
theorem dropsR_ok {g : Bool} : ∀ (n : Nat) (s : Rs) (acc : List Int), (dropsR g n s acc).2.bad = false → s.bad = false ∧ ∀ k, dropsR k n s acc = dropsR g n s acc
  | 0, s, acc, h => ⟨h, fun k => rfl⟩
  | n + 1, s, acc, h => by
    cases hb : s.bad with
    | true =>
      rw [dropsR, if_pos hb] at h
      rw [hb] at h
      cases h
    | false =>
      rw [dropsR, if_neg (by simp [hb])] at h
      obtain ⟨h1, k1⟩ := dropsR_ok n _ _ h
      obtain ⟨h2, k2⟩ := numR_ok h1
      refine ⟨rfl, fun k => ?_⟩
      rw [dropsR, dropsR, if_neg (by simp [hb]), if_neg (by simp [hb]), k2 k, k1 k]
theorem parseR_ok {g : Bool} {l : List UInt8} (h : (parseR g l).2.bad = false) (k : Bool) : parseR k l = parseR g l := by
  obtain ⟨h1, k1⟩ := dropsR_ok _ _ _ (show (dropsR g _ _ _).2.bad = false from h)
  obtain ⟨h2, k2⟩ := numR_ok h1
  obtain ⟨h3, k3⟩ := addsR_ok _ _ _ h2
  obtain ⟨h4, k4⟩ := numR_ok h3
  obtain ⟨h5, k5⟩ := numR_ok h4
  obtain ⟨h6, k6⟩ := numR_ok h5
  obtain ⟨h7, k7⟩ := numR_ok h6
  unfold parseR
  simp only [k7 k, k6 k, k5 k, k4 k, k3 k, k2 k, k1 k]
theorem decL_one (l : List UInt8) : decL false l = decL true l := by
  cases h : (parseR true l).2.bad with
  | false =>
    have := parseR_ok h false
    unfold decL
    rw [this]
  | true =>
    have h2 : (parseR false l).2.bad = true := by
      cases h3 : (parseR false l).2.bad with
      | true => rfl
      | false =>
        rw [parseR_ok h3 true, h3] at h
        cases h
    unfold decL
    rw [h, h2, Bool.true_or, Bool.true_or, if_pos rfl, if_pos rfl]

/-! ### what was laid is read -/
theorem getU_fold (l : List UInt8) : ∀ (x : Nat), x * 256 ^ l.length + 256 ^ l.length ≤ 18446744073709551616 → l.foldl (fun x c => (x * 256 + c.toNat) % 18446744073709551616) x = l.foldl (fun x c => x * 256 + c.toNat) x ∧ True := by
  induction l with
  | nil => intro x _; exact ⟨rfl, trivial⟩
  | cons c l ih =>
    intro x h
    rw [List.length_cons, Nat.pow_succ] at h
    have hc := c.toNat_lt
    have hp : 0 < 256 ^ l.length := Nat.pow_pos (by omega)
    have h1 : (x * 256 + c.toNat + 1) * 256 ^ l.length ≤ 18446744073709551616 := by
      have : (x * 256 + c.toNat + 1) * 256 ^ l.length ≤ (x * 256 + 256) * 256 ^ l.length := Nat.mul_le_mul_right _ (by omega)
      have e : (x * 256 + 256) * 256 ^ l.length = x * (256 ^ l.length * 256) + 256 ^ l.length * 256 := by
        rw [Nat.add_mul, Nat.mul_assoc, Nat.mul_comm 256 (256 ^ l.length)]
      omega
    have h2 : x * 256 + c.toNat + 1 ≤ (x * 256 + c.toNat + 1) * 256 ^ l.length := Nat.le_mul_of_pos_right _ hp
    rw [List.foldl_cons, List.foldl_cons, Nat.mod_eq_of_lt (by omega)]
    refine ih _ ?_
    have e : (x * 256 + c.toNat + 1) * 256 ^ l.length = (x * 256 + c.toNat) * 256 ^ l.length + 256 ^ l.length := by rw [Nat.add_mul, Nat.one_mul]
    omega
theorem putL_fold (x : Nat) : ∀ (k z : Nat), (putL x k).foldl (fun x c => x * 256 + c.toNat) z = z * 256 ^ k + x % 256 ^ k
  | 0, z => by simp [putL, Nat.mod_one]
  | k + 1, z => by
    rw [putL_step, List.foldl_cons, putL_fold x k]
    have hb : (b8 ((x / 256 ^ k : Nat) : Int)).toNat = x / 256 ^ k % 256 := by
      have := b8_toNat ((x / 256 ^ k : Nat) : Int)
      omega
    rw [hb, Nat.pow_succ, Nat.mod_mul]
    rw [Nat.add_mul, Nat.mul_assoc, Nat.mul_comm 256 (256 ^ k)]
    have := Nat.mul_comm (256 ^ k) (x / 256 ^ k % 256)
    omega
theorem getU_put (x k : Nat) (hk : k ≤ 8) (hx : x < 256 ^ k) : getU (putL x k) = x := by
  have h8 : 256 ^ k ≤ 256 ^ 8 := Nat.pow_le_pow_right (by omega) hk
  unfold getU
  rw [(getU_fold (putL x k) 0 (by rw [putL_length]; have : (256 : Nat) ^ 8 = 18446744073709551616 := by decide
                                  omega)).1, putL_fold, Nat.mod_eq_of_lt hx]
  omega
theorem takeL_app (g : Bool) (t r : List UInt8) (n : Nat) (hn : t.length = n) : takeL g n ⟨t ++ r, false⟩ = (t, ⟨r, false⟩) := by
  unfold takeL
  rw [Bool.and_false, Bool.false_or, if_neg (by simp; omega)]
  simp only [List.take_left' hn, List.drop_left' hn]
theorem numR_app (g : Bool) (x k : Nat) (r : List UInt8) (hk : k ≤ 8) (hx : x < 256 ^ k) (hx2 : x ≤ 1099511627776) : numR g k ⟨putL x k ++ r, false⟩ = ((x : Int), ⟨r, false⟩) := by
  unfold numR
  rw [takeL_app g _ _ k (putL_length x k)]
  simp only [getU_put x k hk hx]
  refine Prod.ext ?_ rfl
  show IntKind.i64.wrap _ = _
  rw [IntKind.wrap_i64]
  omega
theorem one_app (g : Bool) (x : Int) (h0 : 0 ≤ x) (h1 : x ≤ 255) (r : List UInt8) : numR g 1 ⟨[b8 x] ++ r, false⟩ = (x, ⟨r, false⟩) := by
  have e : [b8 x] = putL x.toNat 1 := by
    rw [putL_step]
    congr 1
    congr 1
    simp
    omega
  rw [e, numR_app g x.toNat 1 r (by omega) (by simp; omega) (by omega)]
  refine Prod.ext ?_ rfl
  show (x.toNat : Int) = x
  omega
theorem num_app (g : Bool) (x : Int) (h : numberL x = true) (r : List UInt8) : numR g 8 ⟨putL x.toNat 8 ++ r, false⟩ = (x, ⟨r, false⟩) := by
  unfold numberL at h
  simp only [Bool.and_eq_true, decide_eq_true_eq] at h
  rw [numR_app g x.toNat 8 r (by omega) (by simp; omega) (by omega)]
  refine Prod.ext ?_ rfl
  show (x.toNat : Int) = x
  omega
theorem text_app (g : Bool) (t r : List UInt8) (h : t.length ≤ 128) : textR g ⟨([b8 (t.length : Int)] ++ t) ++ r, false⟩ = (t, ⟨r, false⟩) := by
  unfold textR
  rw [List.append_assoc, one_app g _ (by omega) (by omega)]
  exact takeL_app g t r _ (by simp)
theorem place_app (g : Bool) (p : Pl) (r : List UInt8) (h : okP p = true) : placeR g ⟨placeB p ++ r, false⟩ = (p, ⟨r, false⟩) := by
  unfold okP at h
  simp only [Bool.and_eq_true, decide_eq_true_eq] at h
  obtain ⟨h1, h2, h3, h4, h5⟩ := h
  unfold placeR placeB
  simp only [List.append_assoc]
  rw [num_app g _ h1]
  simp only
  rw [one_app g _ h2.1 h2.2]
  simp only
  rw [num_app g _ h3]
  simp only
  have e1 := fun r => text_app g p.least r h4
  have e2 := fun r => text_app g p.most r h5
  simp only [List.append_assoc] at e1 e2
  rw [e1]
  simp only
  rw [e2]
theorem adds_app (g : Bool) : ∀ (l : List Pl) (acc : List Pl) (r : List UInt8), l.all okP = true → addsR g l.length ⟨l.flatMap placeB ++ r, false⟩ acc = (acc ++ l, ⟨r, false⟩)
  | [], acc, r, _ => by simp [addsR]
  | p :: l, acc, r, h => by
    rw [List.all_cons, Bool.and_eq_true] at h
    rw [List.length_cons, addsR, if_neg (by simp), List.flatMap_cons, List.append_assoc, place_app g p _ h.1]
    simp only
    rw [adds_app g l _ r h.2, List.append_assoc]
    rfl
theorem drops_app (g : Bool) : ∀ (l : List Int) (acc : List Int) (r : List UInt8), l.all numberL = true → dropsR g l.length ⟨dropB l ++ r, false⟩ acc = (acc ++ l, ⟨r, false⟩)
  | [], acc, r, _ => by simp [dropsR, dropB]
  | n :: l, acc, r, h => by
    rw [List.all_cons, Bool.and_eq_true] at h
    have e : dropB (n :: l) = putL n.toNat 8 ++ dropB l := rfl
    rw [List.length_cons, dropsR, if_neg (by simp), e, List.append_assoc, num_app g n h.1]
    simp only
    rw [drops_app g l _ r h.2, List.append_assoc]
    rfl
theorem parse_enc (g : Bool) (e : Ed) (h : okB e = true) : parseR g (encB e) = (e, ⟨[], false⟩) := by
  unfold okB okH at h
  simp only [Bool.and_eq_true, decide_eq_true_eq] at h
  obtain ⟨⟨h1, h2, h3, h4, h5⟩, h6, h7⟩ := h
  unfold parseR encB headB
  simp only [List.append_assoc]
  rw [num_app g _ h1]
  simp only
  rw [num_app g _ h2]
  simp only
  rw [num_app g _ h3]
  simp only
  rw [numR_app g _ 2 _ (by omega) (by simp; omega) (by omega)]
  simp only [Int.toNat_natCast]
  rw [adds_app g e.add [] _ h6]
  simp only [List.nil_append]
  rw [numR_app g _ 2 _ (by omega) (by simp; omega) (by omega)]
  simp only [Int.toNat_natCast]
  have := drops_app g e.drop [] [] h7
  rw [List.append_nil] at this
  rw [this]
  rfl
theorem dec_enc (g : Bool) (e : Ed) (h : okB e = true) : decL g (encB e) = (e, 0) := by
  unfold decL
  rw [parse_enc g e h]
  have : encL e = (encB e, 0) := by unfold encL; rw [if_pos h]
  simp [this]
end Go.Proofs.Ytpodgocmcnkfdaa
