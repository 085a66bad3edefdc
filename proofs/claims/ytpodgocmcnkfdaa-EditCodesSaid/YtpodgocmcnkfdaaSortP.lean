/- The library's stable sort over a row of tables of the call's own: the same tables, sorted. -/
import Derived.Test.YtpodgocmcnkfdaaPlO
import Derived.Test.YtpodgocmcnkfdaaStabP
import Derived.Test.YtpodgocmcnkfdaaAppP
import Derived.Shelf.SlSortCmp.NoneTotal
namespace Go.Proofs.Ytpodgocmcnkfdaa
open Go.RowKit Go.Sort Go.Shelf

/-- A table with its two key slices, the keys owned in world w from block B on. -/
def Tk (w : World) (B : Nat) : Type := {t : (Value × Value) × Pl // PlO w B t.1.1 t.1.2 t.2}
def Tk.pl {w : World} {B : Nat} (t : Tk w B) : Pl := t.1.2
def Tk.kv {w : World} {B : Nat} (t : Tk w B) : Value × Value := t.1.1
theorem plO_none (w : World) (B : Nat) : PlO w B (.slice none 0 0) (.slice none 0 0) default :=
  ⟨World.ownsRow_nil _ _ _ _, World.ownsRow_nil _ _ _ _, ⟨by decide, by decide, by decide, by decide, by decide, by decide, by decide, by decide⟩⟩
instance (w : World) (B : Nat) : Inhabited (Tk w B) := ⟨⟨((.slice none 0 0, .slice none 0 0), default), plO_none w B⟩⟩
def mkT {w : World} {B : Nat} (x : Value × Value) (p : Pl) (h : PlO w B x.1 x.2 p) : Tk w B := ⟨(x, p), h⟩
theorem mkT_kv {w : World} {B : Nat} (x : Value × Value) (p : Pl) (h : PlO w B x.1 x.2 p) : (mkT x p h).kv = x := rfl
theorem mkT_pl {w : World} {B : Nat} (x : Value × Value) (p : Pl) (h : PlO w B x.1 x.2 p) : (mkT x p h).pl = p := rfl
def encT {w : World} {B : Nat} (t : Tk w B) : List Value := plc t.kv.1 t.kv.2 t.pl
def cfT {w : World} {B : Nat} (s t : Tk w B) : Int := ordL s.pl t.pl

theorem cfT_lt {w : World} {B : Nat} (s t : Tk w B) : ltOf cfT s t = sortsL s.pl t.pl := by
  unfold ltOf cfT
  exact ordL_sorts _ _
theorem cfT_swo (w : World) (B : Nat) : Sort.SWO (ltOf (cfT (w := w) (B := B))) :=
  ⟨fun x => by rw [cfT_lt]; exact sortsL_swo.irrefl _, fun x y z h1 h2 => by rw [cfT_lt] at *; exact sortsL_swo.trans _ _ _ h1 h2, fun x y z h1 h2 => by rw [cfT_lt] at *; exact sortsL_swo.ntrans _ _ _ h1 h2⟩

def kvsT {w : World} {B : Nat} (d : Array (Tk w B)) : List (Value × Value) := d.toList.map Tk.kv
def plsT {w : World} {B : Nat} (d : Array (Tk w B)) : List Pl := d.toList.map Tk.pl
theorem flatT {w : World} {B : Nat} (d : Array (Tk w B)) : (flatK encT 5 d).toList = plcs (kvsT d) (plsT d) := by
  have hl : (kvsT d).length = (plsT d).length := by simp [kvsT, plsT]
  have hz : (plcs (kvsT d) (plsT d)).length = d.size * 5 := by
    unfold plcs
    have : ∀ l : List ((Value × Value) × Pl), (l.flatMap fun q => plc q.1.1 q.1.2 q.2).length = l.length * 5 := fun l => by
      induction l with
      | nil => rfl
      | cons x l ih => rw [List.flatMap_cons, List.length_append, ih, List.length_cons]; simp [plc]; omega
    rw [this, List.length_zip]
    simp [kvsT, plsT]
  apply List.ext_getElem?
  intro j
  by_cases hj : j < d.size * 5
  · have hi : j / 5 < d.size := by omega
    have e1 : (flatK encT 5 d).toList[j]? = some ((flatK encT 5 d)[j]!) := by
      rw [Array.getElem?_toList, Array.getElem?_eq_getElem (by rw [size_flatK]; exact hj), getElem!_pos _ j (by rw [size_flatK]; exact hj)]
    rw [e1, get_flatK _ _ _ _ hj]
    have e2 := plcs_at (kvsT d) (plsT d) hl (j / 5) (by simp [plsT]; exact hi) (j % 5) (by omega)
    rw [show j / 5 * 5 + j % 5 = j by omega] at e2
    rw [e2, getElem!_pos d (j / 5) hi]
    have e3 : (kvsT d)[j / 5]'(by simp [kvsT]; exact hi) = d[j / 5].kv := by simp [kvsT]
    have e4 : (plsT d)[j / 5]'(by simp [plsT]; exact hi) = d[j / 5].pl := by simp [plsT]
    rw [e3, e4]
    show some (plc _ _ _)[j % 5]! = (plc _ _ _)[j % 5]?
    have h5 : j % 5 < 5 := by omega
    generalize j % 5 = r at h5
    match r, h5 with
    | 0, _ => rfl
    | 1, _ => rfl
    | 2, _ => rfl
    | 3, _ => rfl
    | 4, _ => rfl
  · rw [List.getElem?_eq_none (by rw [Array.length_toList, size_flatK]; omega), List.getElem?_eq_none (by rw [hz]; omega)]

theorem heap_sortedT {α : Type} [Inhabited α] {enc : α → List Value} {k : Nat} {w : World} {g n : Nat} {os : Array Obj} {cur : Array Value} {e : TypeId} {fr : Nat × Nat} (d : Array α) (hb : w.heap[g]? = some (.cells cur e fr)) :
    (sortWorldK enc k w g 0 n d os).heap[g]? = some (.cells (putCells id 0 (flatK enc k d) cur) e fr) := by
  have hg : g < w.heap.size := (Array.getElem?_eq_some_iff.1 hb).1
  unfold sortWorldK
  rw [heap_grow_old _ _ (by rw [size_putRowK]; simpa [Sort.ahead] using hg)]
  simp [putRowK, putRow, mapBlock, Sort.ahead, Array.getElem?_modify, hb, onCells]
theorem grownBy_sortedT {α : Type} [Inhabited α] {enc : α → List Value} {k : Nat} {w : World} {g n : Nat} {os : Array Obj} (d : Array α) : w.grownBy (sortWorldK enc k w g 0 n d os) (some g) := by
  refine ⟨rfl, rfl, rfl, size_sortWorldK_c enc k w g 0 n d os, fun k' hk hne => ?_⟩
  unfold sortWorldK
  rw [heap_grow_old _ _ (by rw [size_putRowK]; simpa [Sort.ahead] using hk)]
  have : g ≠ k' := fun e => hne (by rw [e])
  simp [putRowK, putRow, mapBlock, Sort.ahead, Array.getElem?_modify, this]
theorem take_putCellsT (cur F : Array Value) (h : F.size ≤ cur.size) : (putCells id 0 F cur).toList.take F.size = F.toList := by
  apply List.ext_getElem?
  intro j
  by_cases hj : j < F.size
  · rw [List.getElem?_take_of_lt hj, Array.getElem?_toList]
    simp [putCells, hj, show j < cur.size by omega]
  · rw [List.getElem?_take_eq_none (by omega), List.getElem?_eq_none (by simp; omega)]

set_option maxHeartbeats 1600000 in
theorem stablep_any (g n c B : Nat) (l : List Pl) (hn : l.length = n) (w : World) (h : PlsO w B (.slice (some ⟨g, 0, none⟩) n c) l) (hl : n ≤ 1000000) (R : Ending → World → Prop)
    (hR : ∀ S w', S.Perm l → SortedL S → PlsO w' B (.slice (some ⟨g, 0, none⟩) n c) S → w.grownBy w' (some g) → R (.returned (.tuple #[])) w') :
    Calls Try.prog 63 #[.slice (some ⟨g, 0, none⟩) n c, .int .i64 n, .func (.func 36) #[] #[]] w R := by
  subst hn
  obtain ⟨kv, hkv, hown, heach⟩ := h
  rcases hown.2 with ⟨hnil, _⟩ | ⟨g', cap, cur, e, hbase, hb, h1, h2, h3, h4⟩
  · simp at hnil
  simp only [Value.slice.injEq, Option.some.injEq, Addr.mk.injEq, and_true] at e
  obtain ⟨rfl, -, rfl⟩ := e
  let d0 : Array (Tk w B) := Array.ofFn (n := l.length) fun i => mkT (kv[i.1]'(by omega)) l[i.1] (heach i.1 i.2)
  have hs0 : d0.size = l.length := by simp [d0]
  have hk0 : kvsT d0 = kv := by
    apply List.ext_getElem (by simp [kvsT, d0, hkv])
    intro i h1 h2
    simp [kvsT, d0, mkT_kv]
  have hp0 : plsT d0 = l := by
    apply List.ext_getElem (by simp [plsT, d0])
    intro i h1 h2
    simp [plsT, d0, mkT_pl]
  have hblk : g < w.heap.size := (Array.getElem?_eq_some_iff.1 hb).1
  have hH : HoldsK encT 5 w g 0 d0 := by
    intro j hj
    rw [size_flatK, hs0] at hj
    have e1 : (flatK encT 5 d0)[j]? = some ((flatK encT 5 d0)[j]!) := by
      rw [Array.getElem?_eq_getElem (by rw [size_flatK, hs0]; exact hj), getElem!_pos _ j (by rw [size_flatK, hs0]; exact hj)]
    refine ⟨?_, ?_⟩
    · rw [Nat.zero_add, hown.cellAt j hj, id, ← e1, ← Array.getElem?_toList, flatT, hk0, hp0]
    · rw [Nat.zero_add]
      exact hown.frozenAt j
  have R0 : RowK encT 5 w g 0 d0 := ⟨fun _ => rfl, fun x => by
    obtain ⟨xa, xc, ex⟩ := owns_shape x.2.hx
    obtain ⟨ya, yc, ey⟩ := owns_shape x.2.hy
    intro u hu
    unfold encT Tk.kv Tk.pl at hu
    rw [ex, ey] at hu
    exact plc_oneCell _ _ _ _ _ _ _ _ _ u hu, hH, hblk⟩
  have hkeep : ∀ (n : Nat) (dk : Array (Tk w B)) (os : Array Obj), Keeps 5 w (sortWorldK encT 5 w g 0 n dk os) := fun n dk os =>
    keeps_grownP hown (grownBy_sortedT dk) (by decide)
  refine stable_any encT 5 rfl cfT (cfT_swo w B) g 0 l.length c d0 w R0 hs0 hl ?_ R ?_
  · intro m os dk hdk x y
    refine order_pl x.kv.1 x.kv.2 y.kv.1 y.kv.2 x.pl y.pl (cfT x y) rfl _ ((x.2.keeps (hkeep m dk os)).plc) ((y.2.keeps (hkeep m dk os)).plc) _ ?_
    refine ⟨rfl, 0, #[plO x.kv.1 x.kv.2 x.pl, plO y.kv.1 y.kv.2 y.pl], ?_⟩
    rw [Sort.alloc_eq_grow, Sort.alloc_eq_grow, Sort.grow_grow]
    rfl
  · intro d' w' SM SW
    obtain ⟨n, os, rfl⟩ := SW
    have hsz : d'.size = l.length := SM.1.1.trans hs0
    have hlen : (plsT d').length = l.length := by simp [plsT, hsz]
    refine hR (plsT d') _ ?_ ?_ ?_ (grownBy_sortedT d')
    · have hp := SM.1.2.2
      rw [← hs0, Array.extract_size, show d0.size = d'.size by omega, Array.extract_size] at hp
      have := hp.map Tk.pl
      rw [← hp0]
      exact this
    · unfold SortedL plsT
      rw [List.pairwise_map, List.pairwise_iff_getElem]
      intro i j hi hj hij
      have := SM.2 i j (Nat.zero_le _) hij (by simp at hj; omega)
      rw [cfT_lt, getElem!_pos d' j (by simpa using hj), getElem!_pos d' i (by simpa using hi)] at this
      simpa using this
    · refine ⟨kvsT d', by simp [kvsT, plsT], ?_, fun i hi => ?_⟩
      · rw [hlen, ← flatT]
        refine ⟨by rw [Array.length_toList, size_flatK, hsz], .inr ⟨g, c, _, rfl, hbase, heap_sortedT d' hb, h1, h2, by simp [putCells, h3], ?_⟩⟩
        have ht := take_putCellsT cur (flatK encT 5 d') (by rw [size_flatK, hsz, h3]; exact Nat.mul_le_mul_right 5 h1)
        rw [size_flatK, hsz] at ht
        exact ht
      · have hi' : i < d'.size := by rw [hsz]; rw [hlen] at hi; exact hi
        have e1 : (kvsT d')[i]'(by simp [kvsT]; exact hi') = d'[i].kv := by simp [kvsT]
        have e2 : (plsT d')[i] = d'[i].pl := by simp [plsT]
        rw [e1, e2]
        exact d'[i].2.keeps (hkeep n d' os)

set_option maxHeartbeats 1600000 in
theorem stablep_none (ad : Option Addr) (c : Nat) (w : World) (R : Ending → World → Prop) (hR : R (.returned (.tuple #[])) w) :
    Calls Try.prog 63 #[.slice ad 0 c, .int .i64 0, .func (.func 36) #[] #[]] w R := by
  have hi : ∀ (W : World) (R : Ending → World → Prop), R (.returned (.tuple #[])) W → Calls Try.prog 72 #[.slice ad 0 c, .int .i64 0, .int .i64 0, .func (.func 36) #[] #[]] W R := fun W R h =>
    Calls.mono (AnyF.insertionSortCmpFunc_none Try.insLays ad c _ W) (fun e w' he => by obtain ⟨rfl, rfl⟩ := he; exact h)
  go_enter Try.func63, Try.ntmps63
  go_wp2
  refine wp_loop_rounds 1 ?_
  rw [rounds_succ]
  go_wp2_with (go_at_call 72; go_must (refine hi _ _ ?_))
  refine wp_loop_rounds 1 ?_
  rw [rounds_succ]
  go_wp2
  go_end0
  exact hR

set_option maxHeartbeats 1600000 in
/-- slices.SortStableFunc at tables. -/
theorem sortp_any (v : Value) (B : Nat) (l : List Pl) (w : World) (h : PlsO w B v l) (hl : l.length ≤ 1000000) (R : Ending → World → Prop)
    (hR : ∀ S w', S.Perm l → SortedL S → PlsO w' B v S → w.grownBy w' v.ownBlock → R (.returned (.tuple #[])) w') :
    Calls Try.prog 35 #[v, .func (.func 36) #[] #[]] w R := by
  obtain ⟨ad, c, rfl⟩ := h.shape
  by_cases h0 : l.length = 0
  · obtain rfl : l = [] := List.eq_nil_of_length_eq_zero h0
    have hr := hR [] w (List.Perm.refl _) List.Pairwise.nil h ⟨rfl, rfl, rfl, Nat.le_refl _, fun _ _ _ => rfl⟩
    clear hR h
    have hs := fun (W : World) (R : Ending → World → Prop) hr => stablep_none ad c W R hr
    go_enter Try.func35, Try.ntmps35
    go_wp2_with (go_at_call 63; go_must (refine hs _ _ ?_))
    go_end0
    exact hr
  · have h' := h
    obtain ⟨kv, _, hown, _⟩ := h'
    obtain ⟨g, rfl⟩ := owns_head hown (by omega)
    have HH := Lib.hid h
    have HR := Lib.hid hR
    have hN : Hid (l.length = l.length) := rfl
    obtain ⟨n, hn⟩ : ∃ n, l.length = n := ⟨_, rfl⟩
    rw [hn] at HH HR ⊢ hl
    have HN := Lib.hid hn
    clear h hR hown hn h0 hN
    go_enter Try.func35, Try.ntmps35
    go_wp2_with (go_at_call 63; go_must (refine stablep_any g n c B l HN.out _ HH.out hl _ ?_); intro S w1 hp hs hown hg; have HP := Lib.hid hp; have HS := Lib.hid hs; have HO := Lib.hid hown; have HG := Lib.hid hg; clear hp hs hown hg)
    go_end0
    exact HR.out S _ HP.out HS.out HO.out HG.out
end Go.Proofs.Ytpodgocmcnkfdaa
