/- Small words and laws, with no program in sight: what a slice value reads as, what a call owns, appends from whatever slice. -/
import Derived.WalkKit
import Derived.WalkSpells
import Derived.WalkLawsBesides
import Derived.Lib.Hide
import Derived.Laws.AppendOwnNone
import Derived.Lib.ConvBytes
import Derived.Lib.SlBytesConst
namespace Go.Proofs.YtgdfieolfhbmiaaDoor
open Go.RowKit

/-- The cells of a list of bytes. -/
def bv (l : List UInt8) : List Value := l.map fun b => Value.int .u8 (b.toNat : Int)

@[simp] theorem bv_length (l : List UInt8) : (bv l).length = l.length := by simp [bv]
theorem bv_append (a b : List UInt8) : bv (a ++ b) = bv a ++ bv b := by simp [bv]
theorem bv_one (b : UInt8) : bv [b] = [Value.int .u8 (b.toNat : Int)] := rfl
theorem bv_oneCell (l : List UInt8) : ∀ u ∈ bv l, u.oneCell' = true := by
  intro u hu
  obtain ⟨_, _, rfl⟩ := List.mem_map.1 hu
  rfl
theorem bv_getElem (l : List UInt8) (j : Nat) (h : j < l.length) : (bv l)[j]? = some (Value.int .u8 (l[j].toNat : Int)) := by
  simp [bv, h]

/-- The cells of n elements of 'size' cells each, at a slice's address, read cs. -/
def Rd (w : World) (size : Nat) (ad : Option Addr) (n : Nat) (cs : List Value) : Prop :=
  cs.length = n * size ∧ (n * size ≠ 0 → ∃ b o, ad = some ⟨b, o, none⟩ ∧ ∀ j, j < n * size → w.cell? ⟨b, o + j, none⟩ = cs[j]?)

theorem Rd.nil (w : World) (size : Nat) (ad : Option Addr) : Rd w size ad 0 [] := ⟨by simp, fun h => absurd (Nat.zero_mul _) h⟩

theorem Rd.below {w w' : World} {size n : Nat} {ad : Option Addr} {cs : List Value} (h : Rd w size ad n cs) (hb : Below w.heap.size w w') : Rd w' size ad n cs := by
  refine ⟨h.1, fun hn => ?_⟩
  obtain ⟨b, o, rfl, hc⟩ := h.2 hn
  refine ⟨b, o, rfl, fun j hj => ?_⟩
  have hj' := hc j hj
  have hl : j < cs.length := by have := h.1; omega
  have hs : w.cell? ⟨b, o + j, none⟩ = some cs[j] := by rw [hj', List.getElem?_eq_getElem hl]
  rw [List.getElem?_eq_getElem hl]
  exact cell_later hb hs

/-- For slices of bytes: the address of element k, where there is one. -/
theorem Rd.byteAt {w : World} {n : Nat} {ad : Option Addr} {l : List UInt8} (h : Rd w 1 ad n (bv l)) (hn : 0 < n) :
    ∃ b o, ad = some ⟨b, o, none⟩ ∧ ∀ (j : Nat) (hj : j < l.length), w.cell? ⟨b, o + j, none⟩ = some (Value.int .u8 ((l[j]).toNat : Int)) := by
  obtain ⟨b, o, rfl, hc⟩ := h.2 (by omega)
  refine ⟨b, o, rfl, fun j hj => ?_⟩
  have := h.1
  simp only [bv_length, Nat.mul_one] at this
  rw [hc j (by omega), bv_getElem l j hj]

theorem Rd.len {w : World} {n : Nat} {ad : Option Addr} {l : List UInt8} (h : Rd w 1 ad n (bv l)) : n = l.length := by
  have := h.1
  simpa using this.symm

/-- What is owned can be read. -/
theorem rd_of_owns {w : World} {base e size n c : Nat} {ad : Option Addr} {cs : List Value} (h : w.ownsRow base e size (.slice ad n c) n cs) : Rd w size ad n cs := by
  refine ⟨h.1, fun hn => ?_⟩
  rcases h.2 with ⟨hv, h0⟩ | ⟨g, cap, cur, hv, _⟩
  · subst h0; simp at hn
  · simp only [Value.slice.injEq] at hv
    obtain ⟨rfl, -, rfl⟩ := hv
    exact ⟨g, 0, rfl, fun j hj => by rw [Nat.zero_add]; exact h.cellAt j hj⟩

theorem owns_below {w w' : World} {base e size n : Nat} {v : Value} {cs : List Value} (h : w.ownsRow base e size v n cs) (hb : Below w.heap.size w w') : w'.ownsRow base e size v n cs := by
  refine ⟨h.1, ?_⟩
  rcases h.2 with hn | ⟨g, cap, cur, rfl, hbg, hg, rest⟩
  · exact .inl hn
  · refine .inr ⟨g, cap, cur, rfl, hbg, ?_, rest⟩
    rw [hb.block g (Array.getElem?_eq_some_iff.1 hg).1]
    exact hg

theorem owns_cap {w : World} {base e size n c : Nat} {ad : Option Addr} {cs : List Value} (h : w.ownsRow base e size (.slice ad n c) n cs) : n ≤ c ∧ c ≤ maxLen := by
  rcases h.2 with ⟨hv, h0⟩ | ⟨g, cap, cur, hv, _, _, h1, h2, _⟩
  · simp only [Value.slice.injEq] at hv
    obtain ⟨-, rfl, rfl⟩ := hv
    exact ⟨Nat.le_refl _, Nat.zero_le _⟩
  · simp only [Value.slice.injEq] at hv
    obtain ⟨-, -, rfl⟩ := hv
    exact ⟨h1, h2⟩

/-- Whatever owns a row is a slice: its address, its capacity. -/
theorem owns_shape {w : World} {base e size n : Nat} {v : Value} {cs : List Value} (h : w.ownsRow base e size v n cs) : ∃ ad c, v = .slice ad n c := by
  rcases h.2 with ⟨rfl, rfl⟩ | ⟨g, cap, cur, rfl, _⟩
  · exact ⟨_, _, rfl⟩
  · exact ⟨_, _, rfl⟩

theorem owns_mono {w : World} {base base' e size n : Nat} {v : Value} {cs : List Value} (h : w.ownsRow base e size v n cs) (hb : base' ≤ base) : w.ownsRow base' e size v n cs := by
  refine ⟨h.1, ?_⟩
  rcases h.2 with hn | ⟨g, cap, cur, rfl, hbg, rest⟩
  · exact .inl hn
  · exact .inr ⟨g, cap, cur, rfl, Nat.le_trans hb hbg, rest⟩

/-- 'append(s, x...)', s the call's own or nil, x whatever slice (nil, empty): as a law for the walk. -/
theorem wpList_app {P : Program} {w : World} {ops : Array Oper} {rest : List Oper} {o : Oper} {a : Act} {Q : Exit → Act → World → Prop} (hgd : o.guard = none) (s x : Operand) (t : TypeId)
    (ho : o.op = .call { callee := .builtin .append, args := #[s, x], argTypes := #[t, t] })
    (base : Nat) (e : TypeId) (z : Value) (size bytes : Nat) (ht : P.underlying t = some (.slice e)) (hinfo : (P.info? e).map (fun i => (i.zero, i.size, i.bytes)) = some (some z, size, bytes)) (hzs : z.cells.size = size) (hsz : 0 < size)
    (ad : Option Addr) (n c : Nat) (xs : List Value) (hs : a.eval s = .slice ad n c) (hown : w.ownsRow base e size (.slice ad n c) n xs)
    (ad2 : Option Addr) (m c2 : Nat) (news : List Value) (hx : a.eval x = .slice ad2 m c2) (hrd : Rd w size ad2 m news) (h1 : ∀ u ∈ news, u.oneCell' = true)
    (hnil : ad2 = none → c2 = 0)
    (h63 : n + m ≤ maxLen) (hbytes : (n + m) * bytes ≤ 140737488355328) (hbase : base ≤ w.heap.size)
    (h : ∀ ad' c' w', w'.ownsRow base e size (.slice ad' (n + m) c') (n + m) (xs ++ news) → w.grownBy w' (Value.slice ad n c).ownBlock → wpList P ops Q rest (a.put o.dst (.slice ad' (n + m) c')) w') :
    wpList P ops Q (o :: rest) a w := by
  obtain ⟨i, hi, hz, hi1, hi2⟩ := info_parts hinfo
  cases ad2 with
  | some a2 =>
    refine wpList_append_own w hgd s x t ho base e i z size bytes ht hi hz hi1 hi2 hzs hsz _ n xs hs hown a2 m c2 news hx hrd.1 ?_ h1 h63 hbytes hbase ?_
    · intro j u hu
      have hj : j < m * size := by rw [← hrd.1]; exact (List.getElem?_eq_some_iff.1 hu).1
      obtain ⟨b, o', hao, hc⟩ := hrd.2 (by omega)
      obtain rfl := Option.some.inj hao
      rw [Addr.add_lit, hc j hj]
      exact hu
    · intro v' w' hown' hg _
      obtain ⟨ad', c', rfl⟩ := owns_shape hown'
      exact h ad' c' w' hown' hg
  | none =>
    have hm : m = 0 := by
      by_cases hm : m = 0
      · exact hm
      · have : m * size ≠ 0 := Nat.mul_ne_zero hm (by omega)
        obtain ⟨_, _, h', _⟩ := hrd.2 this
        cases h'
    subst hm
    have hn0 : news = [] := List.eq_nil_of_length_eq_zero (by simpa using hrd.1)
    subst hn0
    have hc2 : c2 = 0 := hnil rfl
    subst hc2
    refine wpList_append_own_none hgd s x t ho base e i size ht hi _ n xs hs hown hx ?_
    have := h ad c w (by simpa using hown) (World.grownBy.refl _ _)
    simpa using this

/-- The slice value v reads as the bytes l. -/
def Bs (w : World) (v : Value) (l : List UInt8) : Prop :=
  ∃ ad c, v = .slice ad l.length c ∧ Rd w 1 ad l.length (bv l) ∧ l.length ≤ c ∧ c ≤ 9223372036854775807 ∧ (ad = none → c = 0)

theorem Bs.below {w w' : World} {v : Value} {l : List UInt8} (h : Bs w v l) (hb : Below w.heap.size w w') : Bs w' v l := by
  obtain ⟨ad, c, rfl, hr, h1, h2, h3⟩ := h
  exact ⟨ad, c, rfl, hr.below hb, h1, h2, h3⟩

/-- The slice value v reads as the rows ls. -/
def Bss (w : World) (v : Value) (ls : List (List UInt8)) : Prop :=
  ∃ ad c, ∃ vs : List Value, v = .slice ad ls.length c ∧ Rd w 1 ad ls.length vs ∧ ls.length ≤ c ∧ c ≤ 9223372036854775807 ∧ (ad = none → c = 0) ∧
    ∀ (i : Nat) (h : i < ls.length), ∃ v', vs[i]? = some v' ∧ Bs w v' ls[i]

theorem Bss.below {w w' : World} {v : Value} {ls : List (List UInt8)} (h : Bss w v ls) (hb : Below w.heap.size w w') : Bss w' v ls := by
  obtain ⟨ad, c, vs, rfl, hr, h1, h2, h3, h4⟩ := h
  refine ⟨ad, c, vs, rfl, hr.below hb, h1, h2, h3, fun i hi => ?_⟩
  obtain ⟨v', e, hv⟩ := h4 i hi
  exact ⟨v', e, hv.below hb⟩

theorem rd_take {w : World} {n m : Nat} {ad : Option Addr} {cs : List Value} (h : Rd w 1 ad n cs) (hm : m ≤ n) : Rd w 1 ad m (cs.take m) := by
  refine ⟨by have := h.1; rw [List.length_take]; omega, fun h0 => ?_⟩
  obtain ⟨b, o, e, hc⟩ := h.2 (by omega)
  refine ⟨b, o, e, fun j hj => ?_⟩
  rw [hc j (by omega), List.getElem?_take, if_pos (by omega)]

theorem owns_nil {w : World} {base e size n c : Nat} {ad : Option Addr} {cs : List Value} (h : w.ownsRow base e size (.slice ad n c) n cs) : ad = none → c = 0 := by
  rintro rfl
  rcases h.2 with ⟨hv, h0⟩ | ⟨g, cap, cur, hv, _⟩
  · simp only [Value.slice.injEq] at hv
    exact hv.2.2
  · simp at hv

/-- A row that is owned reads as its bytes. -/
theorem bs_of_owns {w : World} {base e c n : Nat} {ad : Option Addr} {l : List UInt8} (h : w.ownsRow base e 1 (.slice ad n c) n (bv l)) : n = l.length ∧ Bs w (.slice ad l.length c) l := by
  have hn : n = l.length := by have := h.1; simpa using this.symm
  subst hn
  have := owns_cap h
  unfold maxLen at this
  exact ⟨rfl, ad, c, rfl, rd_of_owns h, this.1, by omega, owns_nil h⟩

/-- The beginning of what reads as bytes. -/
theorem Bs.cut {w : World} {ad : Option Addr} {n c k : Nat} {l : List UInt8} (h : Bs w (.slice ad n c) l) (hk : k ≤ l.length) : Bs w (.slice ad k c) (l.take k) := by
  obtain ⟨ad', c', e, hr, h1, h2, h3⟩ := h
  simp only [Value.slice.injEq] at e
  obtain ⟨rfl, rfl, rfl⟩ := e
  have hl : (l.take k).length = k := by rw [List.length_take]; omega
  refine ⟨ad, c, by rw [hl], ?_, by omega, h2, h3⟩
  rw [hl]
  have := rd_take hr hk
  simpa [bv, List.map_take] using this

theorem Bs.parts {w : World} {ad : Option Addr} {n c : Nat} {l : List UInt8} (h : Bs w (.slice ad n c) l) : n = l.length ∧ Rd w 1 ad l.length (bv l) ∧ l.length ≤ c ∧ c ≤ 9223372036854775807 ∧ (ad = none → c = 0) := by
  obtain ⟨ad', c', e, hr, h1, h2, h3⟩ := h
  simp only [Value.slice.injEq] at e
  obtain ⟨rfl, rfl, rfl⟩ := e
  exact ⟨rfl, hr, h1, h2, h3⟩

theorem below_grown {B : Nat} {a w w' : World} {row : Option Nat} (h : Below B a w) (hg : w.grownBy w' row) (hB : B ≤ w.heap.size) (hr : ∀ k, row = some k → B ≤ k) : Below B a w' := h.grown hg hB hr

/-- Behind an append onto an owned row everything below its base is as it was. -/
theorem below_app {B : Nat} {a w w' : World} {e size n : Nat} {v : Value} {cs : List Value} (h : Below B a w) (hg : w.grownBy w' v.ownBlock) (hB : B ≤ w.heap.size) (hown : w.ownsRow B e size v n cs) : Below B a w' :=
  h.grown hg hB (fun k hk => (hown.lt k hk).1)

/-- A string of bytes. -/
abbrev str (l : List UInt8) : ByteArray := ⟨l.toArray⟩

/-- 'string(b)', b a slice of bytes. -/
theorem run_conv_bs {P : Program} {w : World} {src e dst : TypeId} (hs : P.underlying src = some (.slice e)) (he : P.underlying e = some (.int .u8)) (hd : P.underlying dst = some .string)
    {v : Value} {l : List UInt8} (h : Bs w v l) : (convert src dst v).run P w = .ok (.string (str l)) w := by
  obtain ⟨ad, c, rfl, hr, h1, h2, h3⟩ := h
  have hx : strOfNums (l.map fun b => (b.toNat : Int)) = str l := by
    simp only [strOfNums, str]
    congr 1
    congr 1
    rw [List.map_map]
    conv => rhs; rw [← List.map_id l]
    exact List.map_congr_left fun b _ => by simp
  by_cases hl : l = []
  · subst hl
    cases ad with
    | none => exact run_convert_bytes_nil w src e hs he 0 c dst hd
    | some a =>
      rw [run_convert_bytes_string w src dst e _ _ c hs he hd]
      exact run_bytesToString w a 0 c [] (by simp [loadCells, loadCellsFrom])
  · have hpos : 0 < l.length := List.length_pos_iff.2 hl
    obtain ⟨b, o, rfl, hc⟩ := hr.byteAt hpos
    rw [run_convert_bytes_arg w src e hs he b o l.length c (l.map fun b => (b.toNat : Int)) (by simp) (fun i hi => by rw [hc i hi]; simp [List.getD, hi]) dst hd, hx]

/-- A row that was written out. -/
theorem rd_lit (w : World) (cs : Array Value) (e size n : Nat) (h : cs.size = n * size) : Rd (w.alloc (.cells cs e)) size (some ⟨w.heap.size, 0, none⟩) n cs.toList := by
  refine ⟨by simpa using h, fun _ => ⟨_, _, rfl, fun j hj => ?_⟩⟩
  rw [Nat.zero_add]
  have := cell_of_row (w.alloc (.cells cs e)) w.heap.size j cs e (0, 0) (heap_alloc_new w _)
  rw [this]
  simp

theorem rd_alloc {w : World} {size n : Nat} {ad : Option Addr} {cs : List Value} (h : Rd w size ad n cs) (o : Obj) : Rd (w.alloc o) size ad n cs :=
  h.below ((Below.refl _ _).alloc (Nat.le_refl _) o)

/-- What is owned lies at the head of a block, where there is anything. -/
theorem owns_head {w : World} {base e size n c : Nat} {ad : Option Addr} {cs : List Value} (h : w.ownsRow base e size (.slice ad n c) n cs) (hn : 0 < n) : ∃ g, ad = some ⟨g, 0, none⟩ := by
  rcases h.2 with ⟨hv, h0⟩ | ⟨g, cap, cur, hv, _⟩
  · omega
  · simp only [Value.slice.injEq] at hv
    exact ⟨g, hv.1⟩

/-- A number as a byte. -/
def b8 (x : Int) : UInt8 := UInt8.ofNat (x % 256).toNat
theorem b8_toNat (x : Int) : ((b8 x).toNat : Int) = x % 256 := by
  have h1 : 0 ≤ x % 256 := Int.emod_nonneg _ (by omega)
  have h2 : x % 256 < 256 := Int.emod_lt_of_pos _ (by omega)
  unfold b8
  rw [UInt8.toNat_ofNat', Nat.mod_eq_of_lt (by omega)]
  omega

/-- A store of a byte into an owned row. -/
theorem own_store8 {w : World} {base e g n c : Nat} {m : List UInt8} (h : w.ownsRow base e 1 (.slice (some ⟨g, 0, none⟩) n c) n (bv m)) (k : Nat) (b : UInt8) :
    (w.setCell ⟨g, k, none⟩ (.int .u8 (b.toNat : Int))).ownsRow base e 1 (.slice (some ⟨g, 0, none⟩) n c) n (bv (m.set k b)) ∧ w.grownBy (w.setCell ⟨g, k, none⟩ (.int .u8 (b.toNat : Int))) (some g) := by
  have := h.stored k (.int .u8 (b.toNat : Int))
  refine ⟨?_, this.2⟩
  have e : bv (m.set k b) = (bv m).set k (.int .u8 (b.toNat : Int)) := by simp [bv, List.map_set]
  rw [e]
  exact this.1

theorem own_cell8 {w : World} {base e g n c : Nat} {m : List UInt8} (h : w.ownsRow base e 1 (.slice (some ⟨g, 0, none⟩) n c) n (bv m)) (k : Nat) (hk : k < m.length) :
    w.cell? ⟨g, k, none⟩ = some (.int .u8 (m[k].toNat : Int)) := by
  have hn : n = m.length := by have := h.1; simpa using this.symm
  rw [h.cellAt k (by omega), bv_getElem m k hk]

theorem grownBy_trans {a b c : World} {row : Option Nat} (h : a.grownBy b row) (k : b.grownBy c row) : a.grownBy c row :=
  ⟨k.os.trans h.os, k.tape.trans h.tape, k.output.trans h.output, Nat.le_trans h.size k.size, fun i hi hne => (k.block i (Nat.lt_of_lt_of_le hi h.size) hne).trans (h.block i hi hne)⟩

/-- An owned row reads on under the writes to another one. -/
theorem rd_grown {w w' : World} {row : Option Nat} (hg : w.grownBy w' row) {size n : Nat} {ad : Option Addr} {cs : List Value} (h : Rd w size ad n cs) (hne : ∀ b o, ad = some ⟨b, o, none⟩ → some b ≠ row) : Rd w' size ad n cs := by
  refine ⟨h.1, fun hn => ?_⟩
  obtain ⟨b, o, rfl, hc⟩ := h.2 hn
  refine ⟨b, o, rfl, fun j hj => ?_⟩
  have hl : j < cs.length := by have := h.1; omega
  have hs : w.cell? ⟨b, o + j, none⟩ = some cs[j] := by rw [hc j hj, List.getElem?_eq_getElem hl]
  rw [List.getElem?_eq_getElem hl]
  exact hg.cell hs (hne b o rfl)

theorem Bs.grown {w w' : World} {row : Option Nat} (hg : w.grownBy w' row) {ad : Option Addr} {n c : Nat} {l : List UInt8} (h : Bs w (.slice ad n c) l) (hne : ∀ b o, ad = some ⟨b, o, none⟩ → some b ≠ row) : Bs w' (.slice ad n c) l := by
  obtain ⟨ad', c', e, hr, h1, h2, h3⟩ := h
  simp only [Value.slice.injEq] at e
  obtain ⟨rfl, rfl, rfl⟩ := e
  exact ⟨ad, c, rfl, rd_grown hg hr hne, h1, h2, h3⟩

theorem below_of_grown {B : Nat} {w w' : World} {row : Option Nat} (hg : w.grownBy w' row) (hB : B ≤ w.heap.size) (hr : ∀ k, row = some k → B ≤ k) : Below B w w' := (Below.refl B w).grown hg hB hr

theorem made1 (v : Value) (n : Nat) : (madeCells #[v] n).toList = List.replicate n v := by
  apply List.ext_getElem
  · simp [madeCells]
  · intro i h1 h2
    simp [madeCells, Nat.mod_one]

theorem bv_replicate (n : Nat) (b : UInt8) : bv (List.replicate n b) = List.replicate n (Value.int .u8 (b.toNat : Int)) := by simp [bv]

theorem one_oneCell (k : IntKind) (x : Int) : ∀ u ∈ (#[Value.int k x] : Array Value).toList, u.oneCell' = true := by
  intro u hu
  simp at hu
  subst hu
  rfl

/-- One byte more at an owned row's end. -/
theorem own_snoc8 {w : World} {base e n : Nat} {v : Value} {l : List UInt8} {x : Int} (b : UInt8) (hx : x = (b.toNat : Int)) (h : w.ownsRow base e 1 v n (bv l ++ #[Value.int .u8 x].toList)) : w.ownsRow base e 1 v n (bv (l ++ [b])) := by
  rw [bv_append, bv_one, ← hx]
  exact h

/-- A callee's word on memory, behind the caller's own. -/
theorem below_then {B C : Nat} {w w1 w2 : World} (h : Below B w w1) (h2 : Below C w1 w2) (hB : B ≤ C) : Below B w w2 :=
  h.trans (h2.mono hB)

/-- A row of slices of bytes that was written out. -/
theorem bss_lit {w : World} {e : Nat} (vs : List Value) (ls : List (List UInt8)) (hl : vs.length = ls.length) (hm : ls.length ≤ 9223372036854775807)
    (h : ∀ (i : Nat) (hi : i < ls.length), ∃ v', vs[i]? = some v' ∧ Bs w v' ls[i]) : Bss (w.alloc (.cells vs.toArray e)) (.slice (some ⟨w.heap.size, 0, none⟩) ls.length ls.length) ls := by
  refine ⟨_, _, vs, rfl, ?_, Nat.le_refl _, hm, (fun h => by cases h), fun i hi => ?_⟩
  · have := rd_lit w vs.toArray e 1 ls.length (by simp [hl])
    simpa using this
  · obtain ⟨v', e', hv⟩ := h i hi
    exact ⟨v', e', hv.below ((Below.refl _ _).alloc (Nat.le_refl _) _)⟩
theorem bss_lit1 {w : World} {e : Nat} {v : Value} {l : List UInt8} (h : Bs w v l) : Bss (w.alloc (.cells #[v] e)) (.slice (some ⟨w.heap.size, 0, none⟩) 1 1) [l] :=
  bss_lit [v] [l] rfl (by simp) fun i hi => by
    match i, hi with
    | 0, _ => exact ⟨v, rfl, h⟩
theorem bss_lit2 {w : World} {e : Nat} {v u : Value} {l m : List UInt8} (h : Bs w v l) (k : Bs w u m) : Bss (w.alloc (.cells #[v, u] e)) (.slice (some ⟨w.heap.size, 0, none⟩) 2 2) [l, m] :=
  bss_lit [v, u] [l, m] rfl (by simp) fun i hi => by
    match i, hi with
    | 0, _ => exact ⟨v, rfl, h⟩
    | 1, _ => exact ⟨u, rfl, k⟩

/-- A piece of what reads as bytes: v[lo:hi]. -/
theorem Bs.piece {w : World} {ad : Option Addr} {n c lo hi : Nat} {l : List UInt8} (h : Bs w (.slice ad n c) l) (h1 : lo ≤ hi) (h2 : hi ≤ l.length) :
    Bs w (.slice (if c = lo then ad else ad.map (·.add lo)) (hi - lo) (c - lo)) ((l.take hi).drop lo) := by
  obtain ⟨rfl, hr, hc, hm, hnil⟩ := h.parts
  have hl : ((l.take hi).drop lo).length = hi - lo := by rw [List.length_drop, List.length_take]; omega
  refine ⟨_, _, by rw [hl], ?_, by omega, by omega, ?_⟩
  · rw [hl]
    refine ⟨by rw [bv_length, hl, Nat.mul_one], fun hne => ?_⟩
    obtain ⟨b, o, rfl, hcell⟩ := hr.byteAt (by omega)
    rw [if_neg (by omega)]
    refine ⟨b, o + lo, by rw [Option.map_some, Addr.add_lit], fun j hj => ?_⟩
    have hj2 : lo + j < l.length := by omega
    rw [Nat.add_assoc, hcell (lo + j) hj2, bv_getElem _ j (by omega)]
    simp
  · intro hn
    split at hn
    · have := hnil hn; omega
    · have := hnil (by simpa using hn); omega

/-- '[]byte(s)'. -/
theorem bytesWorld_below (w : World) (e : Nat) (s : ByteArray) : Below w.heap.size w (Lib.bytesWorld w e s) :=
  ⟨rfl, rfl, rfl, by rw [Lib.bytesWorld_size]; omega, fun k hk => Lib.bytesWorld_at_old w e s k hk⟩
theorem bytesWorld_bs (w : World) (e : Nat) (l : List UInt8) (h : l.length ≤ 9223372036854775807) : Bs (Lib.bytesWorld w e (str l)) (.slice (some ⟨w.heap.size, 0, none⟩) l.length (grownCap w l.length 0 e)) l := by
  have hc := grownCap_le_maxLen w l.length 0 e (by unfold maxLen; omega)
  unfold maxLen at hc
  refine ⟨_, _, rfl, ⟨by simp, fun hn => ⟨_, _, rfl, fun j hj => ?_⟩⟩, grownCap_ge _ _ _ _, by omega, fun h => by cases h⟩
  rw [Nat.zero_add, bv_getElem l j (by omega)]
  have := Lib.bytesWorld_cell w e (str l) j (by show j < l.length; omega)
  rw [this]
  simp [List.getD, show j < l.length by omega]

theorem Bs.alloc {w : World} {v : Value} {l : List UInt8} (h : Bs w v l) (o : Obj) : Bs (w.alloc o) v l := h.below ((Below.refl _ _).alloc (Nat.le_refl _) o)
theorem bs_lit {w : World} {e : Nat} (vs : Array Value) (l : List UInt8) (hl : vs.toList = bv l) (hm : l.length ≤ 9223372036854775807) : Bs (w.alloc (.cells vs e)) (.slice (some ⟨w.heap.size, 0, none⟩) l.length l.length) l := by
  refine ⟨_, _, rfl, ?_, Nat.le_refl _, hm, fun h => by cases h⟩
  have hs : vs.size = l.length := by rw [← Array.length_toList, hl, bv_length]
  have := rd_lit w vs e 1 l.length (by omega)
  rw [hl] at this
  exact this

/-- A row that was written out, a mark behind it or not; its number given. -/
theorem bs_row {w : World} {e : Nat} {fr : Nat × Nat} {g n : Nat} (vs : Array Value) (l : List UInt8) (hg : g = w.heap.size) (hn : n = l.length) (hl : vs.toList = bv l) (hm : l.length ≤ 9223372036854775807) : Bs (w.alloc (.cells vs e fr)) (.slice (some ⟨g, 0, none⟩) n n) l := by
  subst hg hn
  refine ⟨_, _, rfl, ⟨by simp, fun _ => ⟨_, _, rfl, fun j hj => ?_⟩⟩, Nat.le_refl _, hm, fun h => by cases h⟩
  rw [Nat.zero_add]
  have := cell_of_row (w.alloc (.cells vs e fr)) w.heap.size j vs e fr (heap_alloc_new w _)
  rw [this, ← hl]
  simp
theorem bss_row2 {w : World} {e g : Nat} {v u : Value} {l m : List UInt8} (hg : g = w.heap.size) (h : Bs w v l) (k : Bs w u m) : Bss (w.alloc (.cells #[v, u] e)) (.slice (some ⟨g, 0, none⟩) 2 2) [l, m] := by
  subst hg
  exact bss_lit2 h k
theorem bss_row1 {w : World} {e g : Nat} {v : Value} {l : List UInt8} (hg : g = w.heap.size) (h : Bs w v l) : Bss (w.alloc (.cells #[v] e)) (.slice (some ⟨g, 0, none⟩) 1 1) [l] := by
  subst hg
  exact bss_lit1 h

/-- '[]byte("..")' of a constant, behind other new blocks. -/
theorem run_conv_const {P : Program} (w : World) (t e : TypeId) (C : Array Value) (n c g : Nat) (ht : P.underlying t = some (.slice e)) (he : P.underlying e = some (.int .u8)) (hg : w.heap.size = g) :
    (convert t t (.slice (some ⟨g, 0, none⟩) n c)).run P (w.alloc (.cells C e)) = .ok (.slice (some ⟨g, 0, none⟩) n c) (w.alloc (.cells C e (C.size, C.size + 1))) := by
  subst hg
  exact Lib.run_convert_bytes_const w t e C n c ht he

end Go.Proofs.YtgdfieolfhbmiaaDoor
