/- Small words and laws, with no program in sight: what a slice value reads as, what a call owns, appends from whatever slice. -/
import Derived.WalkKit
import Derived.WalkSpells
import Derived.WalkLawsBesides
import Derived.Lib.Hide
import Derived.Laws.AppendOwnNone
import Derived.Lib.ConvBytes
import Derived.Lib.SlBytesConst
namespace Go.Proofs.YtgimbocoamnkjaaGreatDoor
open Go.RowKit

/-- The cells of a list of bytes. -/
def bv (l : List UInt8) : List Value := l.map fun b => Value.int .u8 (b.toNat : Int)

@[simp] theorem bv_length (l : List UInt8) : (bv l).length = l.length := by simp [bv]
theorem bv_append (a b : List UInt8) : bv (a ++ b) = bv a ++ bv b := by simp [bv]
theorem bv_one (b : UInt8) : bv [b] = [Value.int .u8 (b.toNat : Int)] := rfl
theorem bv_oneCell (l : List UInt8) : ∀ u ∈ bv l, u.oneCell' = true := by
  intro u hu
  obtain ⟨_, _, rfl⟩ := List.mem_map.1 hu
  rfl
theorem bv_getElem (l : List UInt8) (j : Nat) (h : j < l.length) : (bv l)[j]? = some (Value.int .u8 (l[j].toNat : Int)) := by
  simp [bv, h]

/-- The cells of n elements of 'size' cells each, at a slice's address, read cs. -/
def Rd (w : World) (size : Nat) (ad : Option Addr) (n : Nat) (cs : List Value) : Prop :=
  cs.length = n * size ∧ (n * size ≠ 0 → ∃ b o, ad = some ⟨b, o, none⟩ ∧ ∀ j, j < n * size → w.cell? ⟨b, o + j, none⟩ = cs[j]?)

theorem Rd.nil (w : World) (size : Nat) (ad : Option Addr) : Rd w size ad 0 [] := ⟨by simp, fun h => absurd (Nat.zero_mul _) h⟩

theorem Rd.below {w w' : World} {size n : Nat} {ad : Option Addr} {cs : List Value} (h : Rd w size ad n cs) (hb : Below w.heap.size w w') : Rd w' size ad n cs := by
  refine ⟨h.1, fun hn => ?_⟩
  obtain ⟨b, o, rfl, hc⟩ := h.2 hn
  refine ⟨b, o, rfl, fun j hj => ?_⟩
  have hj' := hc j hj
  have hl : j < cs.length := by have := h.1; omega
  have hs : w.cell? ⟨b, o + j, none⟩ = some cs[j] := by rw [hj', List.getElem?_eq_getElem hl]
  rw [List.getElem?_eq_getElem hl]
  exact cell_later hb hs

/-- For slices of bytes: the address of element k, where there is one. -/
theorem Rd.byteAt {w : World} {n : Nat} {ad : Option Addr} {l : List UInt8} (h : Rd w 1 ad n (bv l)) (hn : 0 < n) :
    ∃ b o, ad = some ⟨b, o, none⟩ ∧ ∀ (j : Nat) (hj : j < l.length), w.cell? ⟨b, o + j, none⟩ = some (Value.int .u8 ((l[j]).toNat : Int)) := by
  obtain ⟨b, o, rfl, hc⟩ := h.2 (by omega)
  refine ⟨b, o, rfl, fun j hj => ?_⟩
  have := h.1
  simp only [bv_length, Nat.mul_one] at this
  rw [hc j (by omega), bv_getElem l j hj]

theorem Rd.len {w : World} {n : Nat} {ad : Option Addr} {l : List UInt8} (h : Rd w 1 ad n (bv l)) : n = l.length := by
  have := h.1
  simpa using this.symm

/-- What is owned can be read. -/
theorem rd_of_owns {w : World} {base e size n c : Nat} {ad : Option Addr} {cs : List Value} (h : w.ownsRow base e size (.slice ad n c) n cs) : Rd w size ad n cs := by
  refine ⟨h.1, fun hn => ?_⟩
  rcases h.2 with ⟨hv, h0⟩ | ⟨g, cap, cur, hv, _⟩
  · subst h0; simp at hn
  · simp only [Value.slice.injEq] at hv
    obtain ⟨rfl, -, rfl⟩ := hv
    exact ⟨g, 0, rfl, fun j hj => by rw [Nat.zero_add]; exact h.cellAt j hj⟩

theorem owns_below {w w' : World} {base e size n : Nat} {v : Value} {cs : List Value} (h : w.ownsRow base e size v n cs) (hb : Below w.heap.size w w') : w'.ownsRow base e size v n cs := by
  refine ⟨h.1, ?_⟩
  rcases h.2 with hn | ⟨g, cap, cur, rfl, hbg, hg, rest⟩
  · exact .inl hn
  · refine .inr ⟨g, cap, cur, rfl, hbg, ?_, rest⟩
    rw [hb.block g (Array.getElem?_eq_some_iff.1 hg).1]
    exact hg

theorem owns_cap {w : World} {base e size n c : Nat} {ad : Option Addr} {cs : List Value} (h : w.ownsRow base e size (.slice ad n c) n cs) : n ≤ c ∧ c ≤ maxLen := by
  rcases h.2 with ⟨hv, h0⟩ | ⟨g, cap, cur, hv, _, _, h1, h2, _⟩
  · simp only [Value.slice.injEq] at hv
    obtain ⟨-, rfl, rfl⟩ := hv
    exact ⟨Nat.le_refl _, Nat.zero_le _⟩
  · simp only [Value.slice.injEq] at hv
    obtain ⟨-, -, rfl⟩ := hv
    exact ⟨h1, h2⟩

/-- Whatever owns a row is a slice: its address, its capacity. -/
theorem owns_shape {w : World} {base e size n : Nat} {v : Value} {cs : List Value} (h : w.ownsRow base e size v n cs) : ∃ ad c, v = .slice ad n c := by
  rcases h.2 with ⟨rfl, rfl⟩ | ⟨g, cap, cur, rfl, _⟩
  · exact ⟨_, _, rfl⟩
  · exact ⟨_, _, rfl⟩

theorem owns_mono {w : World} {base base' e size n : Nat} {v : Value} {cs : List Value} (h : w.ownsRow base e size v n cs) (hb : base' ≤ base) : w.ownsRow base' e size v n cs := by
  refine ⟨h.1, ?_⟩
  rcases h.2 with hn | ⟨g, cap, cur, rfl, hbg, rest⟩
  · exact .inl hn
  · exact .inr ⟨g, cap, cur, rfl, Nat.le_trans hb hbg, rest⟩

/-- 'append(s, x...)', s the call's own or nil, x whatever slice (nil, empty): as a law for the walk. -/
theorem wpList_appAt {P : Program} {w : World} {ops : Array Oper} {rest : List Oper} {o : Oper} {a : Act} {Q : Exit → Act → World → Prop} (hgd : o.guard = none) (s x : Operand) (t : TypeId)
    (ho : o.op = .call { callee := .builtin .append, args := #[s, x], argTypes := #[t, t] })
    (base : Nat) (e : TypeId) (z : Value) (size bytes : Nat) (ht : P.underlying t = some (.slice e)) (hinfo : (P.info? e).map (fun i => (i.zero, i.size, i.bytes)) = some (some z, size, bytes)) (hzs : z.cells.size = size) (hsz : 0 < size)
    (ad : Option Addr) (n c : Nat) (xs : List Value) (hs : a.eval s = .slice ad n c) (hown : w.ownsRow base e size (.slice ad n c) n xs)
    (ad2 : Option Addr) (m c2 : Nat) (news : List Value) (hx : a.eval x = .slice ad2 m c2) (hrd : Rd w size ad2 m news) (h1 : ∀ u ∈ news, u.oneCell' = true)
    (hnil : ad2 = none → c2 = 0)
    (h63 : n + m ≤ maxLen) (hbytes : (n + m) * bytes ≤ 140737488355328) (hbase : base ≤ w.heap.size)
    (h : ∀ ad' c' w', w'.ownsRow base e size (.slice ad' (n + m) c') (n + m) (xs ++ news) → w.grownBy w' (Value.slice ad n c).ownBlock → ((Value.slice ad' (n + m) c').ownBlock = (Value.slice ad n c).ownBlock ∨ (Value.slice ad' (n + m) c').ownBlock = some w.heap.size) → wpList P ops Q rest (a.put o.dst (.slice ad' (n + m) c')) w') :
    wpList P ops Q (o :: rest) a w := by
  obtain ⟨i, hi, hz, hi1, hi2⟩ := info_parts hinfo
  cases ad2 with
  | some a2 =>
    refine wpList_append_own_at w hgd s x t ho base e i z size bytes ht hi hz hi1 hi2 hzs hsz _ n xs hs hown a2 m c2 news hx hrd.1 ?_ h1 h63 hbytes hbase ?_
    · intro j u hu
      have hj : j < m * size := by rw [← hrd.1]; exact (List.getElem?_eq_some_iff.1 hu).1
      obtain ⟨b, o', hao, hc⟩ := hrd.2 (by omega)
      obtain rfl := Option.some.inj hao
      rw [Addr.add_lit, hc j hj]
      exact hu
    · intro v' w' hown' hg _ hat
      obtain ⟨ad', c', rfl⟩ := owns_shape hown'
      exact h ad' c' w' hown' hg hat
  | none =>
    have hm : m = 0 := by
      by_cases hm : m = 0
      · exact hm
      · have : m * size ≠ 0 := Nat.mul_ne_zero hm (by omega)
        obtain ⟨_, _, h', _⟩ := hrd.2 this
        cases h'
    subst hm
    have hn0 : news = [] := List.eq_nil_of_length_eq_zero (by simpa using hrd.1)
    subst hn0
    have hc2 : c2 = 0 := hnil rfl
    subst hc2
    refine wpList_append_own_none hgd s x t ho base e i size ht hi _ n xs hs hown hx ?_
    have := h ad c w (by simpa using hown) (World.grownBy.refl _ _) (.inl (by cases ad <;> rfl))
    simpa using this


theorem wpList_app {P : Program} {w : World} {ops : Array Oper} {rest : List Oper} {o : Oper} {a : Act} {Q : Exit → Act → World → Prop} (hgd : o.guard = none) (s x : Operand) (t : TypeId)
    (ho : o.op = .call { callee := .builtin .append, args := #[s, x], argTypes := #[t, t] })
    (base : Nat) (e : TypeId) (z : Value) (size bytes : Nat) (ht : P.underlying t = some (.slice e)) (hinfo : (P.info? e).map (fun i => (i.zero, i.size, i.bytes)) = some (some z, size, bytes)) (hzs : z.cells.size = size) (hsz : 0 < size)
    (ad : Option Addr) (n c : Nat) (xs : List Value) (hs : a.eval s = .slice ad n c) (hown : w.ownsRow base e size (.slice ad n c) n xs)
    (ad2 : Option Addr) (m c2 : Nat) (news : List Value) (hx : a.eval x = .slice ad2 m c2) (hrd : Rd w size ad2 m news) (h1 : ∀ u ∈ news, u.oneCell' = true)
    (hnil : ad2 = none → c2 = 0)
    (h63 : n + m ≤ maxLen) (hbytes : (n + m) * bytes ≤ 140737488355328) (hbase : base ≤ w.heap.size)
    (h : ∀ ad' c' w', w'.ownsRow base e size (.slice ad' (n + m) c') (n + m) (xs ++ news) → w.grownBy w' (Value.slice ad n c).ownBlock → wpList P ops Q rest (a.put o.dst (.slice ad' (n + m) c')) w') :
    wpList P ops Q (o :: rest) a w :=
  wpList_appAt hgd s x t ho base e z size bytes ht hinfo hzs hsz ad n c xs hs hown ad2 m c2 news hx hrd h1 hnil h63 hbytes hbase fun ad' c' w' h2 h3 _ => h ad' c' w' h2 h3

/-- The slice value v reads as the bytes l. -/
def Bs (w : World) (v : Value) (l : List UInt8) : Prop :=
  ∃ ad c, v = .slice ad l.length c ∧ Rd w 1 ad l.length (bv l) ∧ l.length ≤ c ∧ c ≤ 9223372036854775807 ∧ (ad = none → c = 0)

theorem Bs.below {w w' : World} {v : Value} {l : List UInt8} (h : Bs w v l) (hb : Below w.heap.size w w') : Bs w' v l := by
  obtain ⟨ad, c, rfl, hr, h1, h2, h3⟩ := h
  exact ⟨ad, c, rfl, hr.below hb, h1, h2, h3⟩

/-- The slice value v reads as the rows ls. -/
def Bss (w : World) (v : Value) (ls : List (List UInt8)) : Prop :=
  ∃ ad c, ∃ vs : List Value, v = .slice ad ls.length c ∧ Rd w 1 ad ls.length vs ∧ ls.length ≤ c ∧ c ≤ 9223372036854775807 ∧ (ad = none → c = 0) ∧
    ∀ (i : Nat) (h : i < ls.length), ∃ v', vs[i]? = some v' ∧ Bs w v' ls[i]

theorem Bss.below {w w' : World} {v : Value} {ls : List (List UInt8)} (h : Bss w v ls) (hb : Below w.heap.size w w') : Bss w' v ls := by
  obtain ⟨ad, c, vs, rfl, hr, h1, h2, h3, h4⟩ := h
  refine ⟨ad, c, vs, rfl, hr.below hb, h1, h2, h3, fun i hi => ?_⟩
  obtain ⟨v', e, hv⟩ := h4 i hi
  exact ⟨v', e, hv.below hb⟩

theorem rd_take {w : World} {n m : Nat} {ad : Option Addr} {cs : List Value} (h : Rd w 1 ad n cs) (hm : m ≤ n) : Rd w 1 ad m (cs.take m) := by
  refine ⟨by have := h.1; rw [List.length_take]; omega, fun h0 => ?_⟩
  obtain ⟨b, o, e, hc⟩ := h.2 (by omega)
  refine ⟨b, o, e, fun j hj => ?_⟩
  rw [hc j (by omega), List.getElem?_take, if_pos (by omega)]

theorem owns_nil {w : World} {base e size n c : Nat} {ad : Option Addr} {cs : List Value} (h : w.ownsRow base e size (.slice ad n c) n cs) : ad = none → c = 0 := by
  rintro rfl
  rcases h.2 with ⟨hv, h0⟩ | ⟨g, cap, cur, hv, _⟩
  · simp only [Value.slice.injEq] at hv
    exact hv.2.2
  · simp at hv

/-- A row that is owned reads as its bytes. -/
theorem bs_of_owns {w : World} {base e c n : Nat} {ad : Option Addr} {l : List UInt8} (h : w.ownsRow base e 1 (.slice ad n c) n (bv l)) : n = l.length ∧ Bs w (.slice ad l.length c) l := by
  have hn : n = l.length := by have := h.1; simpa using this.symm
  subst hn
  have := owns_cap h
  unfold maxLen at this
  exact ⟨rfl, ad, c, rfl, rd_of_owns h, this.1, by omega, owns_nil h⟩

/-- The beginning of what reads as bytes. -/
theorem Bs.cut {w : World} {ad : Option Addr} {n c k : Nat} {l : List UInt8} (h : Bs w (.slice ad n c) l) (hk : k ≤ l.length) : Bs w (.slice ad k c) (l.take k) := by
  obtain ⟨ad', c', e, hr, h1, h2, h3⟩ := h
  simp only [Value.slice.injEq] at e
  obtain ⟨rfl, rfl, rfl⟩ := e
  have hl : (l.take k).length = k := by rw [List.length_take]; omega
  refine ⟨ad, c, by rw [hl], ?_, by omega, h2, h3⟩
  rw [hl]
  have := rd_take hr hk
  simpa [bv, List.map_take] using this

theorem Bs.parts {w : World} {ad : Option Addr} {n c : Nat} {l : List UInt8} (h : Bs w (.slice ad n c) l) : n = l.length ∧ Rd w 1 ad l.length (bv l) ∧ l.length ≤ c ∧ c ≤ 9223372036854775807 ∧ (ad = none → c = 0) := by
  obtain ⟨ad', c', e, hr, h1, h2, h3⟩ := h
  simp only [Value.slice.injEq] at e
  obtain ⟨rfl, rfl, rfl⟩ := e
  exact ⟨rfl, hr, h1, h2, h3⟩

theorem below_grown {B : Nat} {a w w' : World} {row : Option Nat} (h : Below B a w) (hg : w.grownBy w' row) (hB : B ≤ w.heap.size) (hr : ∀ k, row = some k → B ≤ k) : Below B a w' := h.grown hg hB hr

/-- Behind an append onto an owned row everything below its base is as it was. -/
theorem below_app {B : Nat} {a w w' : World} {e size n : Nat} {v : Value} {cs : List Value} (h : Below B a w) (hg : w.grownBy w' v.ownBlock) (hB : B ≤ w.heap.size) (hown : w.ownsRow B e size v n cs) : Below B a w' :=
  h.grown hg hB (fun k hk => (hown.lt k hk).1)

/-- A string of bytes. -/
abbrev str (l : List UInt8) : ByteArray := ⟨l.toArray⟩

/-- 'string(b)', b a slice of bytes. -/
theorem run_conv_bs {P : Program} {w : World} {src e dst : TypeId} (hs : P.underlying src = some (.slice e)) (he : P.underlying e = some (.int .u8)) (hd : P.underlying dst = some .string)
    {v : Value} {l : List UInt8} (h : Bs w v l) : (convert src dst v).run P w = .ok (.string (str l)) w := by
  obtain ⟨ad, c, rfl, hr, h1, h2, h3⟩ := h
  have hx : strOfNums (l.map fun b => (b.toNat : Int)) = str l := by
    simp only [strOfNums, str]
    congr 1
    congr 1
    rw [List.map_map]
    conv => rhs; rw [← List.map_id l]
    exact List.map_congr_left fun b _ => by simp
  by_cases hl : l = []
  · subst hl
    cases ad with
    | none => exact run_convert_bytes_nil w src e hs he 0 c dst hd
    | some a =>
      rw [run_convert_bytes_string w src dst e _ _ c hs he hd]
      exact run_bytesToString w a 0 c [] (by simp [loadCells, loadCellsFrom])
  · have hpos : 0 < l.length := List.length_pos_iff.2 hl
    obtain ⟨b, o, rfl, hc⟩ := hr.byteAt hpos
    rw [run_convert_bytes_arg w src e hs he b o l.length c (l.map fun b => (b.toNat : Int)) (by simp) (fun i hi => by rw [hc i hi]; simp [List.getD, hi]) dst hd, hx]

/-- A row that was written out. -/
theorem rd_lit (w : World) (cs : Array Value) (e size n : Nat) (h : cs.size = n * size) : Rd (w.alloc (.cells cs e)) size (some ⟨w.heap.size, 0, none⟩) n cs.toList := by
  refine ⟨by simpa using h, fun _ => ⟨_, _, rfl, fun j hj => ?_⟩⟩
  rw [Nat.zero_add]
  have := cell_of_row (w.alloc (.cells cs e)) w.heap.size j cs e (0, 0) (heap_alloc_new w _)
  rw [this]
  simp

theorem rd_alloc {w : World} {size n : Nat} {ad : Option Addr} {cs : List Value} (h : Rd w size ad n cs) (o : Obj) : Rd (w.alloc o) size ad n cs :=
  h.below ((Below.refl _ _).alloc (Nat.le_refl _) o)

/-- What is owned lies at the head of a block, where there is anything. -/
theorem owns_head {w : World} {base e size n c : Nat} {ad : Option Addr} {cs : List Value} (h : w.ownsRow base e size (.slice ad n c) n cs) (hn : 0 < n) : ∃ g, ad = some ⟨g, 0, none⟩ := by
  rcases h.2 with ⟨hv, h0⟩ | ⟨g, cap, cur, hv, _⟩
  · omega
  · simp only [Value.slice.injEq] at hv
    exact ⟨g, hv.1⟩

/-- A number as a byte. -/
def b8 (x : Int) : UInt8 := UInt8.ofNat (x % 256).toNat
theorem b8_toNat (x : Int) : ((b8 x).toNat : Int) = x % 256 := by
  have h1 : 0 ≤ x % 256 := Int.emod_nonneg _ (by omega)
  have h2 : x % 256 < 256 := Int.emod_lt_of_pos _ (by omega)
  unfold b8
  rw [UInt8.toNat_ofNat', Nat.mod_eq_of_lt (by omega)]
  omega

/-- A store of a byte into an owned row. -/
theorem own_store8 {w : World} {base e g n c : Nat} {m : List UInt8} (h : w.ownsRow base e 1 (.slice (some ⟨g, 0, none⟩) n c) n (bv m)) (k : Nat) (b : UInt8) :
    (w.setCell ⟨g, k, none⟩ (.int .u8 (b.toNat : Int))).ownsRow base e 1 (.slice (some ⟨g, 0, none⟩) n c) n (bv (m.set k b)) ∧ w.grownBy (w.setCell ⟨g, k, none⟩ (.int .u8 (b.toNat : Int))) (some g) := by
  have := h.stored k (.int .u8 (b.toNat : Int))
  refine ⟨?_, this.2⟩
  have e : bv (m.set k b) = (bv m).set k (.int .u8 (b.toNat : Int)) := by simp [bv, List.map_set]
  rw [e]
  exact this.1

theorem own_cell8 {w : World} {base e g n c : Nat} {m : List UInt8} (h : w.ownsRow base e 1 (.slice (some ⟨g, 0, none⟩) n c) n (bv m)) (k : Nat) (hk : k < m.length) :
    w.cell? ⟨g, k, none⟩ = some (.int .u8 (m[k].toNat : Int)) := by
  have hn : n = m.length := by have := h.1; simpa using this.symm
  rw [h.cellAt k (by omega), bv_getElem m k hk]

theorem grownBy_trans {a b c : World} {row : Option Nat} (h : a.grownBy b row) (k : b.grownBy c row) : a.grownBy c row :=
  ⟨k.os.trans h.os, k.tape.trans h.tape, k.output.trans h.output, Nat.le_trans h.size k.size, fun i hi hne => (k.block i (Nat.lt_of_lt_of_le hi h.size) hne).trans (h.block i hi hne)⟩

/-- An owned row reads on under the writes to another one. -/
theorem rd_grown {w w' : World} {row : Option Nat} (hg : w.grownBy w' row) {size n : Nat} {ad : Option Addr} {cs : List Value} (h : Rd w size ad n cs) (hne : ∀ b o, ad = some ⟨b, o, none⟩ → some b ≠ row) : Rd w' size ad n cs := by
  refine ⟨h.1, fun hn => ?_⟩
  obtain ⟨b, o, rfl, hc⟩ := h.2 hn
  refine ⟨b, o, rfl, fun j hj => ?_⟩
  have hl : j < cs.length := by have := h.1; omega
  have hs : w.cell? ⟨b, o + j, none⟩ = some cs[j] := by rw [hc j hj, List.getElem?_eq_getElem hl]
  rw [List.getElem?_eq_getElem hl]
  exact hg.cell hs (hne b o rfl)

theorem Bs.grown {w w' : World} {row : Option Nat} (hg : w.grownBy w' row) {ad : Option Addr} {n c : Nat} {l : List UInt8} (h : Bs w (.slice ad n c) l) (hne : ∀ b o, ad = some ⟨b, o, none⟩ → some b ≠ row) : Bs w' (.slice ad n c) l := by
  obtain ⟨ad', c', e, hr, h1, h2, h3⟩ := h
  simp only [Value.slice.injEq] at e
  obtain ⟨rfl, rfl, rfl⟩ := e
  exact ⟨ad, c, rfl, rd_grown hg hr hne, h1, h2, h3⟩

theorem below_of_grown {B : Nat} {w w' : World} {row : Option Nat} (hg : w.grownBy w' row) (hB : B ≤ w.heap.size) (hr : ∀ k, row = some k → B ≤ k) : Below B w w' := (Below.refl B w).grown hg hB hr

theorem made1 (v : Value) (n : Nat) : (madeCells #[v] n).toList = List.replicate n v := by
  apply List.ext_getElem
  · simp [madeCells]
  · intro i h1 h2
    simp [madeCells, Nat.mod_one]

theorem bv_replicate (n : Nat) (b : UInt8) : bv (List.replicate n b) = List.replicate n (Value.int .u8 (b.toNat : Int)) := by simp [bv]

theorem one_oneCell (k : IntKind) (x : Int) : ∀ u ∈ (#[Value.int k x] : Array Value).toList, u.oneCell' = true := by
  intro u hu
  simp at hu
  subst hu
  rfl

/-- One byte more at an owned row's end. -/
theorem own_snoc8 {w : World} {base e n : Nat} {v : Value} {l : List UInt8} {x : Int} (b : UInt8) (hx : x = (b.toNat : Int)) (h : w.ownsRow base e 1 v n (bv l ++ #[Value.int .u8 x].toList)) : w.ownsRow base e 1 v n (bv (l ++ [b])) := by
  rw [bv_append, bv_one, ← hx]
  exact h

/-- A callee's word on memory, behind the caller's own. -/
theorem below_then {B C : Nat} {w w1 w2 : World} (h : Below B w w1) (h2 : Below C w1 w2) (hB : B ≤ C) : Below B w w2 :=
  h.trans (h2.mono hB)

/-- A row of slices of bytes that was written out. -/
theorem bss_lit {w : World} {e : Nat} (vs : List Value) (ls : List (List UInt8)) (hl : vs.length = ls.length) (hm : ls.length ≤ 9223372036854775807)
    (h : ∀ (i : Nat) (hi : i < ls.length), ∃ v', vs[i]? = some v' ∧ Bs w v' ls[i]) : Bss (w.alloc (.cells vs.toArray e)) (.slice (some ⟨w.heap.size, 0, none⟩) ls.length ls.length) ls := by
  refine ⟨_, _, vs, rfl, ?_, Nat.le_refl _, hm, (fun h => by cases h), fun i hi => ?_⟩
  · have := rd_lit w vs.toArray e 1 ls.length (by simp [hl])
    simpa using this
  · obtain ⟨v', e', hv⟩ := h i hi
    exact ⟨v', e', hv.below ((Below.refl _ _).alloc (Nat.le_refl _) _)⟩
theorem bss_lit1 {w : World} {e : Nat} {v : Value} {l : List UInt8} (h : Bs w v l) : Bss (w.alloc (.cells #[v] e)) (.slice (some ⟨w.heap.size, 0, none⟩) 1 1) [l] :=
  bss_lit [v] [l] rfl (by simp) fun i hi => by
    match i, hi with
    | 0, _ => exact ⟨v, rfl, h⟩
theorem bss_lit2 {w : World} {e : Nat} {v u : Value} {l m : List UInt8} (h : Bs w v l) (k : Bs w u m) : Bss (w.alloc (.cells #[v, u] e)) (.slice (some ⟨w.heap.size, 0, none⟩) 2 2) [l, m] :=
  bss_lit [v, u] [l, m] rfl (by simp) fun i hi => by
    match i, hi with
    | 0, _ => exact ⟨v, rfl, h⟩
    | 1, _ => exact ⟨u, rfl, k⟩

/-- A piece of what reads as bytes: v[lo:hi]. -/
theorem Bs.piece {w : World} {ad : Option Addr} {n c lo hi : Nat} {l : List UInt8} (h : Bs w (.slice ad n c) l) (h1 : lo ≤ hi) (h2 : hi ≤ l.length) :
    Bs w (.slice (if c = lo then ad else ad.map (·.add lo)) (hi - lo) (c - lo)) ((l.take hi).drop lo) := by
  obtain ⟨rfl, hr, hc, hm, hnil⟩ := h.parts
  have hl : ((l.take hi).drop lo).length = hi - lo := by rw [List.length_drop, List.length_take]; omega
  refine ⟨_, _, by rw [hl], ?_, by omega, by omega, ?_⟩
  · rw [hl]
    refine ⟨by rw [bv_length, hl, Nat.mul_one], fun hne => ?_⟩
    obtain ⟨b, o, rfl, hcell⟩ := hr.byteAt (by omega)
    rw [if_neg (by omega)]
    refine ⟨b, o + lo, by rw [Option.map_some, Addr.add_lit], fun j hj => ?_⟩
    have hj2 : lo + j < l.length := by omega
    rw [Nat.add_assoc, hcell (lo + j) hj2, bv_getElem _ j (by omega)]
    simp
  · intro hn
    split at hn
    · have := hnil hn; omega
    · have := hnil (by simpa using hn); omega

/-- '[]byte(s)'. -/
theorem bytesWorld_below (w : World) (e : Nat) (s : ByteArray) : Below w.heap.size w (Lib.bytesWorld w e s) :=
  ⟨rfl, rfl, rfl, by rw [Lib.bytesWorld_size]; omega, fun k hk => Lib.bytesWorld_at_old w e s k hk⟩
theorem bytesWorld_bs (w : World) (e : Nat) (l : List UInt8) (h : l.length ≤ 9223372036854775807) : Bs (Lib.bytesWorld w e (str l)) (.slice (some ⟨w.heap.size, 0, none⟩) l.length (grownCap w l.length 0 e)) l := by
  have hc := grownCap_le_maxLen w l.length 0 e (by unfold maxLen; omega)
  unfold maxLen at hc
  refine ⟨_, _, rfl, ⟨by simp, fun hn => ⟨_, _, rfl, fun j hj => ?_⟩⟩, grownCap_ge _ _ _ _, by omega, fun h => by cases h⟩
  rw [Nat.zero_add, bv_getElem l j (by omega)]
  have := Lib.bytesWorld_cell w e (str l) j (by show j < l.length; omega)
  rw [this]
  simp [List.getD, show j < l.length by omega]

theorem Bs.alloc {w : World} {v : Value} {l : List UInt8} (h : Bs w v l) (o : Obj) : Bs (w.alloc o) v l := h.below ((Below.refl _ _).alloc (Nat.le_refl _) o)
theorem bs_lit {w : World} {e : Nat} (vs : Array Value) (l : List UInt8) (hl : vs.toList = bv l) (hm : l.length ≤ 9223372036854775807) : Bs (w.alloc (.cells vs e)) (.slice (some ⟨w.heap.size, 0, none⟩) l.length l.length) l := by
  refine ⟨_, _, rfl, ?_, Nat.le_refl _, hm, fun h => by cases h⟩
  have hs : vs.size = l.length := by rw [← Array.length_toList, hl, bv_length]
  have := rd_lit w vs e 1 l.length (by omega)
  rw [hl] at this
  exact this

/-- A row that was written out, a mark behind it or not; its number given. -/
theorem bs_row {w : World} {e : Nat} {fr : Nat × Nat} {g n : Nat} (vs : Array Value) (l : List UInt8) (hg : g = w.heap.size) (hn : n = l.length) (hl : vs.toList = bv l) (hm : l.length ≤ 9223372036854775807) : Bs (w.alloc (.cells vs e fr)) (.slice (some ⟨g, 0, none⟩) n n) l := by
  subst hg hn
  refine ⟨_, _, rfl, ⟨by simp, fun _ => ⟨_, _, rfl, fun j hj => ?_⟩⟩, Nat.le_refl _, hm, fun h => by cases h⟩
  rw [Nat.zero_add]
  have := cell_of_row (w.alloc (.cells vs e fr)) w.heap.size j vs e fr (heap_alloc_new w _)
  rw [this, ← hl]
  simp
theorem bss_row2 {w : World} {e g : Nat} {v u : Value} {l m : List UInt8} (hg : g = w.heap.size) (h : Bs w v l) (k : Bs w u m) : Bss (w.alloc (.cells #[v, u] e)) (.slice (some ⟨g, 0, none⟩) 2 2) [l, m] := by
  subst hg
  exact bss_lit2 h k
theorem bss_row1 {w : World} {e g : Nat} {v : Value} {l : List UInt8} (hg : g = w.heap.size) (h : Bs w v l) : Bss (w.alloc (.cells #[v] e)) (.slice (some ⟨g, 0, none⟩) 1 1) [l] := by
  subst hg
  exact bss_lit1 h

/-- '[]byte("..")' of a constant, behind other new blocks. -/
theorem run_conv_const {P : Program} (w : World) (t e : TypeId) (C : Array Value) (n c g : Nat) (ht : P.underlying t = some (.slice e)) (he : P.underlying e = some (.int .u8)) (hg : w.heap.size = g) :
    (convert t t (.slice (some ⟨g, 0, none⟩) n c)).run P (w.alloc (.cells C e)) = .ok (.slice (some ⟨g, 0, none⟩) n c) (w.alloc (.cells C e (C.size, C.size + 1))) := by
  subst hg
  exact Lib.run_convert_bytes_const w t e C n c ht he

theorem slice_oneCell (a : Option Addr) (n c : Nat) : ∀ u ∈ (#[Value.slice a n c] : Array Value).toList, u.oneCell' = true := by
  intro u hu
  simp at hu
  subst hu
  rfl

/-- The beginning of what reads as rows. -/
theorem Bss.cut {w : World} {ad : Option Addr} {n c k : Nat} {ls : List (List UInt8)} (h : Bss w (.slice ad n c) ls) (hk : k ≤ ls.length) : Bss w (.slice ad k c) (ls.take k) := by
  obtain ⟨ad', c', vs, e, hr, h1, h2, h3, h4⟩ := h
  simp only [Value.slice.injEq] at e
  obtain ⟨rfl, rfl, rfl⟩ := e
  have hl : (ls.take k).length = k := by rw [List.length_take]; omega
  refine ⟨ad, c, vs.take k, by rw [hl], by rw [hl]; exact rd_take hr hk, by omega, h2, h3, fun i hi => ?_⟩
  obtain ⟨v', hv, hb⟩ := h4 i (by omega)
  refine ⟨v', by rw [List.getElem?_take, if_pos (by omega)]; exact hv, ?_⟩
  rw [List.getElem_take]
  exact hb

/-- Two owned rows of different element types lie in different blocks. -/
theorem own_ne {w : World} {b1 b2 e1 e2 s1 s2 n1 n2 c1 c2 g1 : Nat} {a2 : Option Addr} {x1 x2 : List Value} (h1 : w.ownsRow b1 e1 s1 (.slice (some ⟨g1, 0, none⟩) n1 c1) n1 x1) (h2 : w.ownsRow b2 e2 s2 (.slice a2 n2 c2) n2 x2) (he : e1 ≠ e2) :
    ∀ k, (Value.slice a2 n2 c2).ownBlock = some k → g1 ≠ k := by
  rintro k hk rfl
  rcases h1.2 with ⟨hv, _⟩ | ⟨g, cap, cur, hv, _, hg, _⟩
  · simp at hv
  · simp only [Value.slice.injEq, Option.some.injEq, Addr.mk.injEq, and_true, true_and] at hv
    obtain ⟨rfl, rfl⟩ := hv
    rcases h2.2 with ⟨hv2, _⟩ | ⟨g', cap', cur', hv2, _, hg', _⟩
    · rw [hv2] at hk; simp [Value.ownBlock] at hk
    · rw [hv2] at hk
      simp only [Value.ownBlock, Option.some.injEq] at hk
      subst hk
      rw [hg] at hg'
      simp only [Option.some.injEq, Obj.cells.injEq] at hg'
      exact he hg'.2.1

theorem owns_grown {w w' : World} {row : Option Nat} {base e size n : Nat} {v : Value} {xs : List Value} (h : w.ownsRow base e size v n xs) (hg : w.grownBy w' row) (hne : ∀ k, v.ownBlock = some k → some k ≠ row) : w'.ownsRow base e size v n xs := by
  refine h.kept hg ?_
  cases hv : v.ownBlock with
  | none => exact .inl rfl
  | some k => exact .inr (hne k hv)

/-- Rows that were lent: each with two marks behind it, in a block of its own, the blocks rising. -/
def Lent (w : World) (B e : Nat) (vs : List Value) (ls : List (List UInt8)) : Prop :=
  vs.length = ls.length ∧ ∃ G C : Nat → Nat, (∀ i j, i < j → j < ls.length → G i < G j) ∧
    ∀ (i : Nat) (h : i < ls.length), B ≤ G i ∧ vs[i]? = some (.slice (some ⟨G i, 0, none⟩) ls[i].length (C i)) ∧ w.ownsRow B e 1 (.slice (some ⟨G i, 0, none⟩) (ls[i].length + 2) (C i)) (ls[i].length + 2) (bv (ls[i] ++ [165, 90]))

theorem Lent.nil (w : World) (B e : Nat) : Lent w B e [] [] := ⟨rfl, fun _ => 0, fun _ => 0, fun _ _ _ h => by simp at h, fun i h => by simp at h⟩

theorem Lent.snoc {w : World} {B e g c n : Nat} {vs : List Value} {ls : List (List UInt8)} {l : List UInt8} (h : Lent w B e vs ls) (hn : n = l.length) (hg : ∀ k, k < ls.length → ∀ G c', vs[k]? = some (.slice (some ⟨G, 0, none⟩) (ls.getD k []).length c') → G < g) (hB : B ≤ g)
    (ho : w.ownsRow B e 1 (.slice (some ⟨g, 0, none⟩) (n + 2) c) (n + 2) (bv (l ++ [165, 90]))) : Lent w B e (vs ++ [.slice (some ⟨g, 0, none⟩) n c]) (ls ++ [l]) := by
  subst hn
  obtain ⟨hl, G, C, hG, hall⟩ := h
  refine ⟨by simp [hl], fun i => if i < ls.length then G i else g, fun i => if i < ls.length then C i else c, ?_, ?_⟩
  · intro i j hij hj
    simp only [List.length_append, List.length_cons, List.length_nil] at hj
    by_cases h1 : j < ls.length
    · simp only [h1, if_true, show i < ls.length by omega]
      exact hG i j hij h1
    · simp only [h1, if_false, show i < ls.length by omega, if_true]
      have := hall i (by omega)
      exact hg i (by omega) (G i) (C i) (by rw [this.2.1]; simp [List.getD, show i < ls.length by omega])
  · intro i hi
    simp only [List.length_append, List.length_cons, List.length_nil] at hi
    by_cases h1 : i < ls.length
    · have := hall i h1
      simp only [h1, if_true]
      rw [List.getElem_append_left h1, List.getElem?_append_left (by omega)]
      exact this
    · obtain rfl : i = ls.length := by omega
      simp only [Nat.lt_irrefl, if_false]
      rw [List.getElem?_append_right (by omega), hl]
      simp only [Nat.sub_self, List.getElem?_cons_zero, List.getElem_append_right (Nat.le_refl _)]
      exact ⟨hB, rfl, by simpa using ho⟩

theorem Lent.kept {w w' : World} {B e : Nat} {vs : List Value} {ls : List (List UInt8)} (h : Lent w B e vs ls) (hk : ∀ (g n c : Nat) (xs : List Value), w.ownsRow B e 1 (.slice (some ⟨g, 0, none⟩) n c) n xs → w'.ownsRow B e 1 (.slice (some ⟨g, 0, none⟩) n c) n xs) : Lent w' B e vs ls := by
  obtain ⟨hl, G, C, hG, hall⟩ := h
  exact ⟨hl, G, C, hG, fun i hi => ⟨(hall i hi).1, (hall i hi).2.1, hk _ _ _ _ (hall i hi).2.2⟩⟩
theorem Lent.alloc {w : World} {B e : Nat} {vs : List Value} {ls : List (List UInt8)} (h : Lent w B e vs ls) (o : Obj) : Lent (w.alloc o) B e vs ls := h.kept fun _ _ _ _ ho => ho.alloc o
theorem Lent.below {w w' : World} {B e : Nat} {vs : List Value} {ls : List (List UInt8)} (h : Lent w B e vs ls) (hb : Below w.heap.size w w') : Lent w' B e vs ls := h.kept fun _ _ _ _ ho => owns_below ho hb

/-- Each of them reads as the bytes that were lent. -/
theorem Lent.bs {w : World} {B e : Nat} {vs : List Value} {ls : List (List UInt8)} (h : Lent w B e vs ls) (i : Nat) (hi : i < ls.length) : ∃ v', vs[i]? = some v' ∧ Bs w v' ls[i] := by
  obtain ⟨hl, G, C, hG, hall⟩ := h
  obtain ⟨_, hv, ho⟩ := hall i hi
  refine ⟨_, hv, ?_⟩
  have h1 := (bs_of_owns ho).2
  have hlen : (ls[i] ++ [165, 90]).length = ls[i].length + 2 := by simp
  have h2 := Bs.cut (k := ls[i].length) h1 (by omega)
  have e' : (ls[i] ++ [165, 90]).take ls[i].length = ls[i] := by simp
  rw [e'] at h2
  exact h2
theorem Lent.bss {w : World} {B e B2 e2 c n : Nat} {ad : Option Addr} {vs : List Value} {ls : List (List UInt8)} (h : Lent w B e vs ls) (ho : w.ownsRow B2 e2 1 (.slice ad n c) n vs) : n = ls.length ∧ Bss w (.slice ad ls.length c) ls := by
  have hn : n = ls.length := by have := ho.1; rw [h.1] at this; omega
  subst hn
  have hc := owns_cap ho
  unfold maxLen at hc
  exact ⟨rfl, ad, c, vs, rfl, rd_of_owns ho, hc.1, by omega, owns_nil ho, fun i hi => h.bs i hi⟩

theorem Lent.lt {w : World} {B e : Nat} {vs : List Value} {ls : List (List UInt8)} (h : Lent w B e vs ls) (k : Nat) (hk : k < ls.length) (G c' n : Nat) (hv : vs[k]? = some (.slice (some ⟨G, 0, none⟩) n c')) : G < w.heap.size := by
  obtain ⟨hl, G', C, hG, hall⟩ := h
  obtain ⟨_, hv', ho⟩ := hall k hk
  rw [hv] at hv'
  simp only [Option.some.injEq, Value.slice.injEq, Addr.mk.injEq, and_true] at hv'
  rw [hv'.1]
  exact (ho.lt _ rfl).2

/-- Lent rows under an append onto a row of another type. -/
theorem Lent.app {w w' : World} {B e B2 e2 n c : Nat} {ad : Option Addr} {xs : List Value} {vs : List Value} {ls : List (List UInt8)} (h : Lent w B e vs ls) (ho : w.ownsRow B2 e2 1 (.slice ad n c) n xs) (hg : w.grownBy w' (Value.slice ad n c).ownBlock) (he : e ≠ e2) : Lent w' B e vs ls := by
  refine h.kept fun g n' c' ys hy => owns_grown hy hg fun k hk => ?_
  simp only [Value.ownBlock, Option.some.injEq] at hk
  subst hk
  intro hc
  exact own_ne hy ho he g hc.symm rfl

/-- Lent rows, the first k of them written over: all in blocks from B to S. -/
def LentFrom (k S : Nat) (w : World) (B e : Nat) (vs : List Value) (ls : List (List UInt8)) : Prop :=
  vs.length = ls.length ∧ ∃ G C : Nat → Nat, (∀ i j, i < j → j < ls.length → G i < G j) ∧
    ∀ (i : Nat) (h : i < ls.length), (B ≤ G i ∧ G i < S) ∧ vs[i]? = some (.slice (some ⟨G i, 0, none⟩) ls[i].length (C i)) ∧ (k ≤ i → w.ownsRow B e 1 (.slice (some ⟨G i, 0, none⟩) (ls[i].length + 2) (C i)) (ls[i].length + 2) (bv (ls[i] ++ [165, 90])))
theorem Lent.from {w : World} {B e : Nat} {vs : List Value} {ls : List (List UInt8)} (h : Lent w B e vs ls) : LentFrom 0 w.heap.size w B e vs ls := by
  obtain ⟨hl, G, C, hG, hall⟩ := h
  exact ⟨hl, G, C, hG, fun i hi => ⟨⟨(hall i hi).1, ((hall i hi).2.2.lt _ rfl).2⟩, (hall i hi).2.1, fun _ => (hall i hi).2.2⟩⟩
theorem LentFrom.at {k S : Nat} {w : World} {B e : Nat} {vs : List Value} {ls : List (List UInt8)} (h : LentFrom k S w B e vs ls) (hk : k < ls.length) :
    ∃ g c, B ≤ g ∧ g < S ∧ vs[k]? = some (.slice (some ⟨g, 0, none⟩) ls[k].length c) ∧ w.ownsRow B e 1 (.slice (some ⟨g, 0, none⟩) (ls[k].length + 2) c) (ls[k].length + 2) (bv (ls[k] ++ [165, 90])) ∧ ∀ w', w.grownBy w' (some g) → LentFrom (k + 1) S w' B e vs ls := by
  obtain ⟨hl, G, C, hG, hall⟩ := h
  refine ⟨G k, C k, (hall k hk).1.1, (hall k hk).1.2, (hall k hk).2.1, (hall k hk).2.2 (Nat.le_refl _), fun w' hg => ⟨hl, G, C, hG, fun i hi => ⟨(hall i hi).1, (hall i hi).2.1, fun hki => ?_⟩⟩⟩
  refine owns_grown ((hall i hi).2.2 (by omega)) hg fun j hj => ?_
  simp only [Value.ownBlock, Option.some.injEq] at hj
  have := hG k i (by omega) hi
  simp only [ne_eq, Option.some.injEq]
  omega
theorem LentFrom.drew {k S : Nat} {w : World} {B e : Nat} {vs : List Value} {ls : List (List UInt8)} (h : LentFrom k S w B e vs ls) : LentFrom k S w.drew B e vs ls := h
theorem LentFrom.below {k S : Nat} {w w' : World} {B e : Nat} {vs : List Value} {ls : List (List UInt8)} (h : LentFrom k S w B e vs ls) (hb : Below w.heap.size w w') : LentFrom k S w' B e vs ls := by
  obtain ⟨hl, G, C, hG, hall⟩ := h
  exact ⟨hl, G, C, hG, fun i hi => ⟨(hall i hi).1, (hall i hi).2.1, fun hki => owns_below ((hall i hi).2.2 hki) hb⟩⟩
theorem Bs.drew {w : World} {v : Value} {l : List UInt8} (h : Bs w v l) : Bs w.drew v l := h.below (Below.refl _ _).drew
theorem Bss.drew {w : World} {v : Value} {l : List (List UInt8)} (h : Bss w v l) : Bss w.drew v l := h.below (Below.refl _ _).drew
theorem grownBy_drew {w w' : World} {row : Option Nat} (h : w.drew.grownBy w' row) : w.grownBy w' row := ⟨h.os, h.tape, h.output, h.size, h.block⟩

/-- What is owned from a block on lies there. -/
theorem own_from {w : World} {base e size n c : Nat} {ad : Option Addr} {xs : List Value} (h : w.ownsRow base e size (.slice ad n c) n xs) : ∀ b o, ad = some ⟨b, o, none⟩ → base ≤ b := by
  rintro b o rfl
  exact (h.lt b rfl).1

/-- What a block of the book holds: six slices, the last four of them nil. -/
def BkCells (v0 v1 : Value) : Array Value := #[v0, v1, .slice none 0 0, .slice none 0 0, .slice none 0 0, .slice none 0 0]

/-- Unlike blocks, where there are any. -/
def Unlike (v u : Value) : Prop := ∀ k, v.ownBlock = some k → u.ownBlock ≠ some k
theorem Unlike.symm {v u : Value} (h : Unlike v u) : Unlike u v := fun k hk hc => h k hc hk

/-- A book of answers (bytes alone): its own block, the two rows, and of each answer the bytes that it said; all from block B on. 'tb', 'ts', 'te': the types' numbers of the book, of a slice of bytes, of a byte. -/
structure Bk (tb ts te : Nat) (w : World) (B K : Nat) (vs us : List Value) (ps : List (List UInt8)) : Prop where
  hK : B ≤ K
  rows : ∃ v0 v1, w.heap[K]? = some (.cells (BkCells v0 v1) tb (0, 0)) ∧ w.ownsRow B ts 1 v0 ps.length vs ∧ w.ownsRow B ts 1 v1 ps.length us ∧ Unlike v0 v1
  each : ∀ (i : Nat) (h : i < ps.length), ∃ v u, vs[i]? = some v ∧ us[i]? = some u ∧ w.ownsRow B te 1 v ps[i].length (bv ps[i]) ∧ w.ownsRow B te 1 u ps[i].length (bv ps[i]) 
  apart : vs.Pairwise Unlike
  apart2 : ∀ v ∈ vs, ∀ u ∈ us, Unlike v u

theorem Bk.below {tb ts te : Nat} {w w' : World} {B K : Nat} {vs us : List Value} {ps : List (List UInt8)} (h : Bk tb ts te w B K vs us ps) (hb : Below w.heap.size w w') : Bk tb ts te w' B K vs us ps := by
  obtain ⟨hK, ⟨v0, v1, h0, h1, h2, h3⟩, he, ha, ha2⟩ := h
  refine ⟨hK, ⟨v0, v1, ?_, owns_below h1 hb, owns_below h2 hb, h3⟩, fun i hi => ?_, ha, ha2⟩
  · rw [hb.block K (Array.getElem?_eq_some_iff.1 h0).1]; exact h0
  · obtain ⟨v, u, e1, e2, e3, e4⟩ := he i hi
    exact ⟨v, u, e1, e2, owns_below e3 hb, owns_below e4 hb⟩

/-- The book stays under writes to a block below its own. -/
theorem Bk.far {tb ts te : Nat} {w w' : World} {B K g : Nat} {vs us : List Value} {ps : List (List UInt8)} (h : Bk tb ts te w B K vs us ps) (hg : w.grownBy w' (some g)) (hgB : g < B) : Bk tb ts te w' B K vs us ps := by
  obtain ⟨hK, ⟨v0, v1, h0, h1, h2, h3⟩, he, ha, ha2⟩ := h
  have key : ∀ {e n : Nat} {v : Value} {xs : List Value}, w.ownsRow B e 1 v n xs → w'.ownsRow B e 1 v n xs := fun ho => owns_grown ho hg fun k hk hc => by
    have := (ho.lt k hk).1
    have := Option.some.inj hc
    omega
  refine ⟨hK, ⟨v0, v1, ?_, key h1, key h2, h3⟩, fun i hi => ?_, ha, ha2⟩
  · rw [hg.block K (Array.getElem?_eq_some_iff.1 h0).1 (by intro hc; have := Option.some.inj hc; omega)]; exact h0
  · obtain ⟨v, u, e1, e2, e3, e4⟩ := he i hi
    exact ⟨v, u, e1, e2, key e3, key e4⟩

/-- All owned rows of a type stay owned. -/
def Keeps (te : Nat) (w w' : World) : Prop := ∀ base v n xs, w.ownsRow base te 1 v n xs → w'.ownsRow base te 1 v n xs
theorem Keeps.refl (te : Nat) (w : World) : Keeps te w w := fun _ _ _ _ h => h
theorem Keeps.trans {te : Nat} {a b c : World} (h : Keeps te a b) (k : Keeps te b c) : Keeps te a c := fun _ _ _ _ ho => k _ _ _ _ (h _ _ _ _ ho)
theorem Keeps.below {te : Nat} {w w' : World} (hb : Below w.heap.size w w') : Keeps te w w' := fun _ _ _ _ h => owns_below h hb
theorem Keeps.grown {te B e n c : Nat} {ad : Option Addr} {xs : List Value} {w w' : World} (ho : w.ownsRow B e 1 (.slice ad n c) n xs) (hg : w.grownBy w' (Value.slice ad n c).ownBlock) (he : te ≠ e) : Keeps te w w' := by
  intro base v m ys hy
  refine owns_grown hy hg fun k hk hc => ?_
  rcases hy.2 with ⟨rfl, rfl⟩ | ⟨g, cap, cur, rfl, _⟩
  · simp [Value.ownBlock] at hk
  · simp only [Value.ownBlock, Option.some.injEq] at hk
    subst hk
    exact own_ne hy ho he g hc.symm rfl

/-- A block of one type is none of a row of another type. -/
theorem own_block_ne {w : World} {base e size n K t : Nat} {fr : Nat × Nat} {cs : Array Value} {v : Value} {xs : List Value} (hK : w.heap[K]? = some (.cells cs t fr)) (h : w.ownsRow base e size v n xs) (ht : t ≠ e) : v.ownBlock ≠ some K := by
  intro hc
  rcases h.2 with ⟨rfl, _⟩ | ⟨g, cap, cur, rfl, _, hg, _⟩
  · simp [Value.ownBlock] at hc
  · simp only [Value.ownBlock, Option.some.injEq] at hc
    subst hc
    rw [hK] at hg
    simp only [Option.some.injEq, Obj.cells.injEq] at hg
    exact ht hg.2.1

theorem block_grown {w w' : World} {row : Option Nat} {K : Nat} {o : Obj} (hg : w.grownBy w' row) (h : w.heap[K]? = some o) (hne : row ≠ some K) : w'.heap[K]? = some o := by
  rw [hg.block K (Array.getElem?_eq_some_iff.1 h).1 (fun e => hne e.symm)]
  exact h

theorem grownBy_setCell (w : World) (a : Addr) (v : Value) : w.grownBy (w.setCell a v) (some a.block) :=
  ⟨rfl, rfl, rfl, by simp, fun k _ hk => heap_setCell_other w a k v (fun e => hk (by rw [e]))⟩

/-- A store into the book's own block. -/
theorem bk_store0 {w : World} {K tb : Nat} {v0 v1 v : Value} (h : w.heap[K]? = some (.cells (BkCells v0 v1) tb (0, 0))) : (w.setCell ⟨K, 0, none⟩ v).heap[K]? = some (.cells (BkCells v v1) tb (0, 0)) := by
  rw [heap_setCell_same w K 0 _ _ v h]
  rfl
theorem bk_store1 {w : World} {K tb : Nat} {v0 v1 v : Value} (h : w.heap[K]? = some (.cells (BkCells v0 v1) tb (0, 0))) : (w.setCell ⟨K, 1, none⟩ v).heap[K]? = some (.cells (BkCells v0 v) tb (0, 0)) := by
  rw [heap_setCell_same w K 1 _ _ v h]
  rfl
theorem frozen_block {w : World} {K : Nat} {cs : Array Value} {t : Nat} (h : w.heap[K]? = some (.cells cs t (0, 0))) (i : Nat) : w.frozen? ⟨K, i, none⟩ = false := frozen_of_row w K i cs t h
theorem block_alloc {w : World} {K : Nat} {o o' : Obj} (h : w.heap[K]? = some o) : (w.alloc o').heap[K]? = some o := by
  rw [Below.heap_alloc w o' K (Array.getElem?_eq_some_iff.1 h).1]
  exact h

theorem Keeps.setK {te K t i : Nat} {cs : Array Value} {v : Value} {w : World} (hK : w.heap[K]? = some (.cells cs t (0, 0))) (ht : t ≠ te) : Keeps te w (w.setCell ⟨K, i, none⟩ v) := by
  intro base u n xs hu
  exact ownsRow_setCell_other hu (own_block_ne hK hu ht) v

/-- One answer more in the book. -/
theorem Bk.push {tb ts te : Nat} {w w6 : World} {B K : Nat} {vs us : List Value} {ps : List (List UInt8)} {v0 v1 v y : Value} {p : List UInt8} (h : Bk tb ts te w B K vs us ps)
    (hK : w6.heap[K]? = some (.cells (BkCells v0 v1) tb (0, 0))) (r0 : w6.ownsRow B ts 1 v0 (ps.length + 1) (vs ++ [v])) (r1 : w6.ownsRow B ts 1 v1 (ps.length + 1) (us ++ [y])) (hu : Unlike v0 v1)
    (hk : Keeps te w w6) (hv : w.ownsRow B te 1 v p.length (bv p)) (hy : w6.ownsRow B te 1 y p.length (bv p)) (hyb : ∀ k, y.ownBlock = some k → w.heap.size ≤ k)
    (hd : ∀ v' ∈ vs, Unlike v' v) (hd2 : ∀ u ∈ us, Unlike v u) : Bk tb ts te w6 B K (vs ++ [v]) (us ++ [y]) (ps ++ [p]) := by
  obtain ⟨hKB, ⟨u0, u1, h0, h1, h2, h3⟩, he, ha, ha2⟩ := h
  have hlv : vs.length = ps.length := by have := h1.1; omega
  have hlu : us.length = ps.length := by have := h2.1; omega
  refine ⟨hKB, ⟨v0, v1, hK, by simpa using r0, by simpa using r1, hu⟩, fun i hi => ?_, ?_, ?_⟩
  · simp only [List.length_append, List.length_cons, List.length_nil] at hi
    by_cases h : i < ps.length
    · obtain ⟨a, b, e1, e2, e3, e4⟩ := he i h
      refine ⟨a, b, by rw [List.getElem?_append_left (by omega)]; exact e1, by rw [List.getElem?_append_left (by omega)]; exact e2, ?_, ?_⟩
      · rw [List.getElem_append_left h]; exact hk _ _ _ _ e3
      · rw [List.getElem_append_left h]; exact hk _ _ _ _ e4
    · obtain rfl : i = ps.length := by omega
      refine ⟨v, y, by rw [List.getElem?_append_right (by omega), hlv]; simp, by rw [List.getElem?_append_right (by omega), hlu]; simp, ?_, ?_⟩
      · simpa using hk _ _ _ _ hv
      · simpa using hy
  · rw [List.pairwise_append]
    refine ⟨ha, by simp, fun a ha' b hb => ?_⟩
    obtain rfl := List.mem_singleton.1 hb
    exact hd a ha'
  · intro a ha' b hb
    have old : ∀ x ∈ vs ++ [v], ∀ k, x.ownBlock = some k → k < w.heap.size := by
      intro x hx k hxk
      rcases List.mem_append.1 hx with hx | hx
      · obtain ⟨i, hi, rfl⟩ := List.getElem_of_mem hx
        obtain ⟨a, b, e1, e2, e3, e4⟩ := he i (by omega)
        rw [List.getElem?_eq_getElem hi] at e1
        obtain rfl := Option.some.inj e1
        exact (e3.lt k hxk).2
      · obtain rfl := List.mem_singleton.1 hx
        exact (hv.lt k hxk).2
    rcases List.mem_append.1 hb with hb | hb
    · rcases List.mem_append.1 ha' with ha' | ha'
      · exact ha2 a ha' b hb
      · obtain rfl := List.mem_singleton.1 ha'
        exact hd2 b hb
    · obtain rfl := List.mem_singleton.1 hb
      intro k hk1 hk2
      have := old a ha' k hk1
      have := hyb k hk2
      omega

end Go.Proofs.YtgimbocoamnkjaaGreatDoor
