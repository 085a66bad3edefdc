/- (tidingslaw19.Made).Item, walked. -/
import Derived.Test.YtgimbocoamnkjaaGreatDoorM29
import Derived.Test.YtgimbocoamnkjaaGreatDoorM30
import Derived.Test.YtgimbocoamnkjaaGreatDoorM31
namespace Go.Proofs.YtgimbocoamnkjaaGreatDoor
open Go.RowKit

theorem IR.app {W x x' : World} {bx : Obj} {e s n : Nat} {v : Value} {xs : List Value} (h : IR W W.heap.size bx x) (hr : x.ownsRow (W.heap.size + 2) e s v n xs) (hg : x.grownBy x' v.ownBlock) : IR W W.heap.size bx x' := by
  rcases hr.2 with ⟨rfl, _⟩ | ⟨g, cap, cur, rfl, hb, hk, _⟩
  · exact h.below (below_of_grown hg (Nat.le_refl _) (fun k hk => by simp [Value.ownBlock] at hk))
  · exact IR.grown (K := g) h hg (by omega) (by omega) (by omega)
theorem OP.app {W wr wr' : World} {B B' e s m : Nat} {ad : Option Addr} {n c : Nat} {ds : List Value} {l : List Pr} {v : Value} {xs : List Value} (h : OP W B wr ad n c ds l) (hr : wr.ownsRow B' e s v m xs) (he : e ≠ 147) (hg : wr.grownBy wr' v.ownBlock) (hB : W.heap.size ≤ B') : OP W B wr' ad n c ds l := by
  rcases hr.2 with ⟨rfl, _⟩ | ⟨g, cap, cur, rfl, hb, hk, _⟩
  · exact h.below (below_of_grown hg (Nat.le_refl _) (fun k hk => by simp [Value.ownBlock] at hk))
  · exact ⟨h.nl, h.len, owns_typed h.row hk he hg, h.old, below_grown h.low hg h.low.size (fun k hk => by simp only [Value.ownBlock, Option.some.injEq] at hk; omega)⟩
theorem via2 {α ω : Type} {H G : α → ω → Prop} {goal : Prop} (m : (∀ a w, H a w → G a w) → goal) (t : ∀ a w, H a w → G a w) : goal := m t
theorem list_any (fm : Int) (hf1 : -9223372036854775808 ≤ fm) (hf2 : fm ≤ 9223372036854775807) (cv rv uv : Value) (co cr us : List UInt8) (L : List Pr) (hL : listL fm co cr us = L) (W w : World) (hWw : Below W.heap.size W w) (hco : Bs W cv co) (hcr : Bs W rv cr) (hus : Bs W uv us) (R : Ending → World → Prop)
    (hR : ∀ ad c ds w', OP W w.heap.size w' ad L.length c ds L → Below w.heap.size w w' → R (.returned (.slice ad L.length c)) w') :
    Calls Tryz.prog 39 #[.agg #[.int .i64 fm, cv, rv, uv]] w R := by
  by_cases h1 : 0 ≤ fm
  · exact list_yes fm h1 hf1 hf2 cv rv uv co cr us L hL W w hWw hco hcr hus R hR
  · exact list_no fm h1 hf1 hf2 cv rv uv co cr us L hL W w hWw hco hcr hus R hR
theorem OP.typed {W wr wr' : World} {B K t : Nat} {fr : Nat × Nat} {cs : Array Value} {ad : Option Addr} {n c : Nat} {ds : List Value} {l : List Pr} (h : OP W B wr ad n c ds l) (hK : wr.heap[K]? = some (.cells cs t fr)) (ht : t ≠ 147) (hg : wr.grownBy wr' (some K)) (h2 : W.heap.size ≤ K) : OP W B wr' ad n c ds l :=
  ⟨h.nl, h.len, owns_typed h.row hK ht hg, h.old, below_grown h.low hg h.low.size (fun k hk => by cases hk; exact h2)⟩

theorem OP.mono {W wr : World} {B B' : Nat} {ad : Option Addr} {n c : Nat} {ds : List Value} {l : List Pr} (h : OP W B wr ad n c ds l) (hB : B' ≤ B) : OP W B' wr ad n c ds l := ⟨h.nl, h.len, owns_mono h.row hB, h.old, h.low⟩

/-- An item that was made: its payload lies in an older world W, its rows are the call's own, from block B on (the properties' data in W). -/
structure ItO (W : World) (B : Nat) (w : World) (pv qv ev : Value) (x : Im) : Prop where
  p : Bs W pv x.note.payload
  q : ∃ ad c ds, qv = .slice ad x.note.props.length c ∧ OP W B w ad x.note.props.length c ds x.note.props
  i : w.ownsRow B 3 1 ev x.ids.length (Go.Proofs.YtgimbocoamnkjaaGreatDoor.iv x.ids)
  low : Below W.heap.size W w
theorem ItO.c {W w : World} {B : Nat} {pv qv ev : Value} {x : Im} (h : ItO W B w pv qv ev x) : ImC w pv qv ev x := by
  obtain ⟨ad, c, ds, rfl, ho⟩ := h.q
  obtain ⟨a, e, rfl⟩ := owns_shape h.i
  exact ⟨h.p.below h.low, ho.ps, is_of_owns h.i rfl⟩
theorem ItO.sep {W w w' : World} {B : Nat} {M M' : Nat → Prop} {pv qv ev : Value} {x : Im} (h : ItO W B w pv qv ev x) (hM : ∀ b, M b → W.heap.size ≤ b ∧ b < B) (hW : W.heap.size ≤ w.heap.size) (s : Sep M M' w w') : ItO W B w' pv qv ev x := by
  have hl := below_then h.low (s.low (B := W.heap.size) hW (fun b hb => (hM b hb).1)) (Nat.le_refl _)
  have key : ∀ {e size n : Nat} {v : Value} {xs : List Value}, w.ownsRow B e size v n xs → w'.ownsRow B e size v n xs := fun ho => owns_safe ho (fun k hk hm => by
    have := (ho.lt k hk).1
    have := (hM k hm).2
    omega) M' w' s
  obtain ⟨ad, c, ds, rfl, ho⟩ := h.q
  exact ⟨h.p, ⟨ad, c, ds, rfl, ho.nl, ho.len, key ho.row, ho.old, hl⟩, key h.i, hl⟩

set_option maxRecDepth 100000 in
set_option maxHeartbeats 4000000 in
theorem item_any (m : Md) (hb : MdB m) (a0 a1 a2 a3 b1 b2 b3 b4 : Value) (W w : World) (hW : Below W.heap.size W w) (hmW : MdC W a0 a1 a2 a3 b1 b2 b3 b4 m) (R : Ending → World → Prop)
    (hR : ∀ pa pc qa qc ea ec w', ItO W w.heap.size w' (.slice pa (itemL m).note.payload.length pc) (.slice qa (itemL m).note.props.length qc) (.slice ea (itemL m).ids.length ec) (itemL m) → Below w.heap.size w w' → R (.returned (Value.agg #[.string (str (itemL m).note.topic), (.slice pa (itemL m).note.payload.length pc), .int .i64 (itemL m).note.qos, .bool (itemL m).note.retain, .string (str (itemL m).note.src), .int .i64 (itemL m).note.expires, (.slice qa (itemL m).note.props.length qc), .int .i64 (itemL m).note.origin, .int .i64 (itemL m).note.number, .int .i64 (itemL m).note.hops, .int .i64 (itemL m).qos, .bool (itemL m).keep, (.slice ea (itemL m).ids.length ec), .string (str (itemL m).share)])) w') :
    Calls Tryz.prog 9 #[.agg #[a0, a1, a2, a3, .int .i64 m.qos, .int .i64 m.sub, .bool m.retain, .bool m.keep, .int .i64 m.life, .int .i64 m.fm, b1, b2, b3, b4, .int .i64 m.origin, .int .i64 m.number]] w R := by
  have HR := Lib.hid hR
  have hm := hmW.below hW
  have HM := Lib.hid hm
  have HMW := Lib.hid hmW
  have HWW := Lib.hid hW
  have HFM := Lib.hid hb.fm
  obtain ⟨topic, src, share, payload, qos, sub, retain, keep, life, fm, co, cr, us, ids, origin, number⟩ := m
  obtain ⟨⟨ta, tc, rfl, _⟩, ⟨fa, fc, rfl, _⟩, ⟨sa, sc, rfl, _⟩, ⟨pa, pc, rfl, _⟩, ⟨ca, cc, rfl, _⟩, ⟨ra, rc, rfl, _⟩, ⟨ua, uc, rfl, _⟩, ⟨ia, ic, rfl, _⟩⟩ := hm
  simp only at *
  clear hR hb hmW hW
  obtain ⟨T0, hT0⟩ : ∃ l, plainL topic = l := ⟨_, rfl⟩
  obtain ⟨TP, hTP⟩ : ∃ l, 116 :: T0 = l := ⟨_, rfl⟩
  obtain ⟨SP, hSP⟩ : ∃ l, plainL src = l := ⟨_, rfl⟩
  obtain ⟨PY, hPY⟩ : ∃ l, payload.take (300 : Int).toNat = l := ⟨_, rfl⟩
  obtain ⟨L, hL⟩ : ∃ l, listL fm co cr us = l := ⟨_, rfl⟩
  obtain ⟨QW, hQW⟩ : ∃ q, within qos 0 2 = q := ⟨_, rfl⟩
  have hsa : (⟨#[116]⟩ : ByteArray) ++ str T0 = str TP := by rw [← hTP]; exact str_app [116] T0
  have hns : ¬ (1 + (str T0).size > 9223372036854775807) := by
    show ¬ (1 + T0.length > 9223372036854775807)
    rw [← hT0]
    have := plainL_len topic
    omega
  have hadd : ∀ x : World, (Op.stringOp .add ⟨#[116]⟩ (str T0)).run Tryz.prog x = .ok (.string (str TP)) x := fun x => by
    rw [run_string_add_sum x _ _ (by show 1 + T0.length ≤ 9223372036854775807; rw [← hT0]; have := plainL_len topic; omega), hsa]
  have HT0 := Lib.hid hT0
  have HTP := Lib.hid hTP
  have HSP := Lib.hid hSP
  have HPY := Lib.hid hPY
  have HL := Lib.hid hL
  have HQW := Lib.hid hQW
  have i0 : IR w w.heap.size (Obj.cells #[.slice ta topic.length tc, .slice fa src.length fc, .slice sa share.length sc, .slice pa payload.length pc, .int .i64 qos, .int .i64 sub, .bool retain, .bool keep, .int .i64 life, .int .i64 fm, .slice ca co.length cc, .slice ra cr.length rc, .slice ua us.length uc, .slice ia ids.length ic, .int .i64 origin, .int .i64 number] 27) ((w.alloc (Obj.cells #[.slice ta topic.length tc, .slice fa src.length fc, .slice sa share.length sc, .slice pa payload.length pc, .int .i64 qos, .int .i64 sub, .bool retain, .bool keep, .int .i64 life, .int .i64 fm, .slice ca co.length cc, .slice ra cr.length rc, .slice ua us.length uc, .slice ia ids.length ic, .int .i64 origin, .int .i64 number] 27)).alloc (Obj.cells #[.string ⟨#[]⟩, .slice none 0 0, .int .i64 0, .bool false, .string ⟨#[]⟩, .int .i64 0, .slice none 0 0, .int .i64 0, .int .i64 0, .int .i64 0, .int .i64 0, .bool false, .slice none 0 0, .string ⟨#[]⟩] 36)) := ⟨((Below.refl _ _).alloc (Nat.le_refl _) _).alloc (by simp) _, block_alloc (heap_alloc_new w (Obj.cells #[.slice ta topic.length tc, .slice fa src.length fc, .slice sa share.length sc, .slice pa payload.length pc, .int .i64 qos, .int .i64 sub, .bool retain, .bool keep, .int .i64 life, .int .i64 fm, .slice ca co.length cc, .slice ra cr.length rc, .slice ua us.length uc, .slice ia ids.length ic, .int .i64 origin, .int .i64 number] 27)), by
    have := heap_alloc_new (w.alloc (Obj.cells #[.slice ta topic.length tc, .slice fa src.length fc, .slice sa share.length sc, .slice pa payload.length pc, .int .i64 qos, .int .i64 sub, .bool retain, .bool keep, .int .i64 life, .int .i64 fm, .slice ca co.length cc, .slice ra cr.length rc, .slice ua us.length uc, .slice ia ids.length ic, .int .i64 origin, .int .i64 number] 27)) (Obj.cells #[.string ⟨#[]⟩, .slice none 0 0, .int .i64 0, .bool false, .string ⟨#[]⟩, .int .i64 0, .slice none 0 0, .int .i64 0, .int .i64 0, .int .i64 0, .int .i64 0, .bool false, .slice none 0 0, .string ⟨#[]⟩] 36)
    rw [show (w.alloc (Obj.cells #[.slice ta topic.length tc, .slice fa src.length fc, .slice sa share.length sc, .slice pa payload.length pc, .int .i64 qos, .int .i64 sub, .bool retain, .bool keep, .int .i64 life, .int .i64 fm, .slice ca co.length cc, .slice ra cr.length rc, .slice ua us.length uc, .slice ia ids.length ic, .int .i64 origin, .int .i64 number] 27)).heap.size = w.heap.size + 1 by simp] at this
    exact this, by simp⟩
  clear hT0 hTP hSP hPY hL hQW
  go_enter Tryz.func9, Tryz.ntmps9
  go_wp2_with fail
  generalize (w.alloc (Obj.cells #[.slice ta topic.length tc, .slice fa src.length fc, .slice sa share.length sc, .slice pa payload.length pc, .int .i64 qos, .int .i64 sub, .bool retain, .bool keep, .int .i64 life, .int .i64 fm, .slice ca co.length cc, .slice ra cr.length rc, .slice ua us.length uc, .slice ia ids.length ic, .int .i64 origin, .int .i64 number] 27)).alloc (Obj.cells #[.string ⟨#[]⟩, .slice none 0 0, .int .i64 0, .bool false, .string ⟨#[]⟩, .int .i64 0, .slice none 0 0, .int .i64 0, .int .i64 0, .int .i64 0, .int .i64 0, .bool false, .slice none 0 0, .string ⟨#[]⟩] 36) = w1 at i0 ⊢
  have I0 := Lib.hid i0
  have i0a : IR w w.heap.size (Obj.cells #[.slice ta topic.length tc, .slice fa src.length fc, .slice sa share.length sc, .slice pa payload.length pc, .int .i64 qos, .int .i64 sub, .bool retain, .bool keep, .int .i64 life, .int .i64 fm, .slice ca co.length cc, .slice ra cr.length rc, .slice ua us.length uc, .slice ia ids.length ic, .int .i64 origin, .int .i64 number] 27) (w1.alloc (Obj.cells #[.string ⟨#[]⟩, .slice none 0 0, .int .i64 0, .bool false, .string ⟨#[]⟩, .int .i64 0, .slice none 0 0, .int .i64 0, .int .i64 0, .int .i64 0] 34)).drew := (i0.alloc (Obj.cells #[.string ⟨#[]⟩, .slice none 0 0, .int .i64 0, .bool false, .string ⟨#[]⟩, .int .i64 0, .slice none 0 0, .int .i64 0, .int .i64 0, .int .i64 0] 34)).below (Below.refl _ _).drew
  have hz0 : (w1.alloc (Obj.cells #[.string ⟨#[]⟩, .slice none 0 0, .int .i64 0, .bool false, .string ⟨#[]⟩, .int .i64 0, .slice none 0 0, .int .i64 0, .int .i64 0, .int .i64 0] 34)).drew.heap[w1.heap.size]? = some (Obj.cells #[.string ⟨#[]⟩, .slice none 0 0, .int .i64 0, .bool false, .string ⟨#[]⟩, .int .i64 0, .slice none 0 0, .int .i64 0, .int .i64 0, .int .i64 0] 34) := heap_alloc_new w1 (Obj.cells #[.string ⟨#[]⟩, .slice none 0 0, .int .i64 0, .bool false, .string ⟨#[]⟩, .int .i64 0, .slice none 0 0, .int .i64 0, .int .i64 0, .int .i64 0] 34)
  replace i0 := i0.below (Below.refl w1.heap.size w1).drew
  have mdS : ∀ x : World, x.heap[w.heap.size]? = some (Obj.cells #[.slice ta topic.length tc, .slice fa src.length fc, .slice sa share.length sc, .slice pa payload.length pc, .int .i64 qos, .int .i64 sub, .bool retain, .bool keep, .int .i64 life, .int .i64 fm, .slice ca co.length cc, .slice ra cr.length rc, .slice ua us.length uc, .slice ia ids.length ic, .int .i64 origin, .int .i64 number] 27) → x.cell? ⟨w.heap.size, 0, none⟩ = some (.slice ta topic.length tc) ∧ x.cell? ⟨w.heap.size, 1, none⟩ = some (.slice fa src.length fc) ∧ x.cell? ⟨w.heap.size, 3, none⟩ = some (.slice pa payload.length pc) ∧ x.cell? ⟨w.heap.size, 4, none⟩ = some (.int .i64 qos) ∧ x.cell? ⟨w.heap.size, 6, none⟩ = some (.bool retain) ∧ x.cell? ⟨w.heap.size, 9, none⟩ = some (.int .i64 fm) ∧ x.cell? ⟨w.heap.size, 10, none⟩ = some (.slice ca co.length cc) ∧ x.cell? ⟨w.heap.size, 11, none⟩ = some (.slice ra cr.length rc) ∧ x.cell? ⟨w.heap.size, 12, none⟩ = some (.slice ua us.length uc) ∧ x.cell? ⟨w.heap.size, 14, none⟩ = some (.int .i64 origin) ∧ x.cell? ⟨w.heap.size, 15, none⟩ = some (.int .i64 number) := fun x h => ⟨cell_of_row x _ 0 _ _ _ h, cell_of_row x _ 1 _ _ _ h, cell_of_row x _ 3 _ _ _ h, cell_of_row x _ 4 _ _ _ h, cell_of_row x _ 6 _ _ _ h, cell_of_row x _ 9 _ _ _ h, cell_of_row x _ 10 _ _ _ h, cell_of_row x _ 11 _ _ _ h, cell_of_row x _ 12 _ _ _ h, cell_of_row x _ 14 _ _ _ h, cell_of_row x _ 15 _ _ _ h⟩
  have s0 := mdS w1.drew i0.box
  apply via6 (H := fun (xa : Option Addr) (xc : Nat) (la : Option Addr) (lc : Nat) (NB : Nat) (w' : World) => Hid (IR w w.heap.size (Obj.cells #[.slice ta topic.length tc, .slice fa src.length fc, .slice sa share.length sc, .slice pa payload.length pc, .int .i64 qos, .int .i64 sub, .bool retain, .bool keep, .int .i64 life, .int .i64 fm, .slice ca co.length cc, .slice ra cr.length rc, .slice ua us.length uc, .slice ia ids.length ic, .int .i64 origin, .int .i64 number] 27) w') ∧ Hid (w'.heap[NB]? = some (Obj.cells #[.string (str TP), .slice xa PY.length xc, .int .i64 QW, .bool retain, .string (str SP), .int .i64 0, .slice la L.length lc, .int .i64 (bits .and .i64 origin 255), .int .i64 (bits .and .i64 number 16777215), .int .i64 0] 34)) ∧ Hid (w.heap.size + 2 ≤ NB) ∧ Hid (Bs W (.slice xa PY.length xc) PY) ∧ Hid (∃ ds, OP W w.heap.size w' la L.length lc ds L))
  · intro TAIL
    have HTAIL := Lib.hid TAIL
    clear TAIL
    go_region_held3 (fun x => x.cell? ⟨w.heap.size, 0, none⟩ = some (.slice ta topic.length tc) ∧ x.cell? ⟨w.heap.size, 1, none⟩ = some (.slice fa src.length fc) ∧ x.cell? ⟨w.heap.size, 3, none⟩ = some (.slice pa payload.length pc) ∧ x.cell? ⟨w.heap.size, 4, none⟩ = some (.int .i64 qos) ∧ x.cell? ⟨w.heap.size, 6, none⟩ = some (.bool retain) ∧ x.cell? ⟨w.heap.size, 9, none⟩ = some (.int .i64 fm) ∧ x.cell? ⟨w.heap.size, 10, none⟩ = some (.slice ca co.length cc) ∧ x.cell? ⟨w.heap.size, 11, none⟩ = some (.slice ra cr.length rc) ∧ x.cell? ⟨w.heap.size, 12, none⟩ = some (.slice ua us.length uc) ∧ x.cell? ⟨w.heap.size, 14, none⟩ = some (.int .i64 origin) ∧ x.cell? ⟨w.heap.size, 15, none⟩ = some (.int .i64 number))
      (first | with_reducible exact s0 | with_reducible exact mdS _ i0a.box | with_reducible exact mdS _ i3.box | with_reducible exact mdS _ (i3.alloc _).box | with_reducible exact mdS _ i5.box | with_reducible exact mdS _ (i5.alloc _).box | with_reducible exact mdS _ i7.box | with_reducible exact mdS _ (i7.alloc _).box | with_reducible exact mdS _ (IR.grown i7 (note_put hz7 _ _ _ _ _ _ _ _ _ _).2 (Nat.le_trans (Nat.le_add_right _ 2) hnb) (by omega) (by omega)).box | go_keep)
      (first
        | (go_at_call_of 38 topic.length; refine plain_any _ topic T0 HT0.out _ (HM.out.t.below (IR.low (by first | with_reducible exact i0 | with_reducible exact i0a))) _ ?_; intro w3 hb3; have i3 := IR.below (by first | with_reducible exact i0 | with_reducible exact i0a) hb3)
        | (go_at_call 30; refine cut_old _ payload PY 300 HPY.out W _ HMW.out.p (by decide) _ ?_; intro xa xc hxp)
        | (go_at_call 20; refine within_any qos 0 2 _ (by decide) (by decide) (by decide) _ ?_; rw [HQW.out])
        | (go_at_call_of 38 src.length; refine plain_any _ src SP HSP.out _ (HM.out.f.below (IR.low (by first | with_reducible exact i3 | with_reducible exact i3.alloc _))) _ ?_; intro w5 hb5; have i5 := IR.below (by first | with_reducible exact i3 | with_reducible exact i3.alloc _) hb5)
        | (go_at_call 39; refine list_any fm HFM.out.1 HFM.out.2 _ _ _ co cr us L HL.out W _ (below_then HWW.out (IR.low (by first | with_reducible exact i5 | with_reducible exact i5.alloc _)) HWW.out.size) HMW.out.c HMW.out.r HMW.out.u _ ?_; intro la lc ds w7 hop hb7; replace hop := hop.mono (Nat.le_trans (Nat.le_add_right w.heap.size 2) (IR.sz (by first | with_reducible exact i5 | with_reducible exact i5.alloc _))); have i7 := IR.below (by first | with_reducible exact i5 | with_reducible exact i5.alloc _) hb7; first | (have hz7 : w7.heap[w1.heap.size]? = some (Obj.cells #[.string ⟨#[]⟩, .slice none 0 0, .int .i64 0, .bool false, .string ⟨#[]⟩, .int .i64 0, .slice none 0 0, .int .i64 0, .int .i64 0, .int .i64 0] 34) := row_later (row_later (row_later hz0 hb3) hb5) hb7; have hnb : w.heap.size + 2 ≤ w1.heap.size := i0.sz; obtain ⟨⟨z0, z1, z2, z3, z4⟩, z5, z6, z7, z8, z9⟩ := nt10 hz7; have zf := frozen_block hz7) | (have hz7 : w7.heap[w3.heap.size]? = some (Obj.cells #[.string ⟨#[]⟩, .slice none 0 0, .int .i64 0, .bool false, .string ⟨#[]⟩, .int .i64 0, .slice none 0 0, .int .i64 0, .int .i64 0, .int .i64 0] 34) := row_later (row_later (heap_alloc_new w3 (Obj.cells #[.string ⟨#[]⟩, .slice none 0 0, .int .i64 0, .bool false, .string ⟨#[]⟩, .int .i64 0, .slice none 0 0, .int .i64 0, .int .i64 0, .int .i64 0] 34)) hb5) hb7; have hnb : w.heap.size + 2 ≤ w3.heap.size := i3.sz; obtain ⟨⟨z0, z1, z2, z3, z4⟩, z5, z6, z7, z8, z9⟩ := nt10 hz7; have zf := frozen_block hz7) | (have hz7 : w7.heap[w5.heap.size]? = some (Obj.cells #[.string ⟨#[]⟩, .slice none 0 0, .int .i64 0, .bool false, .string ⟨#[]⟩, .int .i64 0, .slice none 0 0, .int .i64 0, .int .i64 0, .int .i64 0] 34) := row_later (heap_alloc_new w5 (Obj.cells #[.string ⟨#[]⟩, .slice none 0 0, .int .i64 0, .bool false, .string ⟨#[]⟩, .int .i64 0, .slice none 0 0, .int .i64 0, .int .i64 0, .int .i64 0] 34)) hb7; have hnb : w.heap.size + 2 ≤ w5.heap.size := i5.sz; obtain ⟨⟨z0, z1, z2, z3, z4⟩, z5, z6, z7, z8, z9⟩ := nt10 hz7; have zf := frozen_block hz7) | skip))
    all_goals first
      | (have hf := And.intro (i7.alloc (Obj.cells #[.string (str TP), .slice xa PY.length xc, .int .i64 QW, .bool retain, .string (str SP), .int .i64 0, .slice la L.length lc, .int .i64 (bits .and .i64 origin 255), .int .i64 (bits .and .i64 number 16777215), .int .i64 0] 34)) (And.intro (heap_alloc_new w7 (Obj.cells #[.string (str TP), .slice xa PY.length xc, .int .i64 QW, .bool retain, .string (str SP), .int .i64 0, .slice la L.length lc, .int .i64 (bits .and .i64 origin 255), .int .i64 (bits .and .i64 number 16777215), .int .i64 0] 34)) (And.intro i7.sz (hop.below ((Below.refl w7.heap.size w7).alloc (Nat.le_refl _) (Obj.cells #[.string (str TP), .slice xa PY.length xc, .int .i64 QW, .bool retain, .string (str SP), .int .i64 0, .slice la L.length lc, .int .i64 (bits .and .i64 origin 255), .int .i64 (bits .and .i64 number 16777215), .int .i64 0] 34)))))
         generalize w7.alloc (Obj.cells #[.string (str TP), .slice xa PY.length xc, .int .i64 QW, .bool retain, .string (str SP), .int .i64 0, .slice la L.length lc, .int .i64 (bits .and .i64 origin 255), .int .i64 (bits .and .i64 number 16777215), .int .i64 0] 34) = wz at hf ⊢
         generalize w7.heap.size = NB at hf ⊢
         with_reducible exact HTAIL.out xa xc la lc NB wz ⟨Lib.hid hf.1, Lib.hid hf.2.1, Lib.hid hf.2.2.1, Lib.hid hxp, Lib.hid ⟨_, hf.2.2.2⟩⟩)
      | (have hp := note_put hz7 (.string (str TP)) (.slice xa PY.length xc) (.int .i64 QW) (.bool retain) (.string (str SP)) (.int .i64 0) (.slice la L.length lc) (.int .i64 (bits .and .i64 origin 255)) (.int .i64 (bits .and .i64 number 16777215)) (.int .i64 0)
         have hf := And.intro (IR.grown i7 hp.2 (Nat.le_trans (Nat.le_add_right _ 2) hnb) (by omega) (by omega)) (And.intro hp.1 (And.intro hnb (hop.typed hz7 (by decide) hp.2 (Nat.le_trans HWW.out.size (Nat.le_trans (Nat.le_add_right _ 2) hnb)))))
         clear hp hz7 hnb zf z0 z1 z2 z3 z4 z5 z6 z7 z8 z9
         first
           | (generalize ((((((((((w7.setCell ⟨(w5.heap.size), 0, none⟩ (.string (str TP))).setCell ⟨(w5.heap.size), 1, none⟩ (.slice xa PY.length xc)).setCell ⟨(w5.heap.size), 2, none⟩ (.int .i64 QW)).setCell ⟨(w5.heap.size), 3, none⟩ (.bool retain)).setCell ⟨(w5.heap.size), 4, none⟩ (.string (str SP))).setCell ⟨(w5.heap.size), 5, none⟩ (.int .i64 0)).setCell ⟨(w5.heap.size), 6, none⟩ (.slice la L.length lc)).setCell ⟨(w5.heap.size), 7, none⟩ (.int .i64 (bits .and .i64 origin 255))).setCell ⟨(w5.heap.size), 8, none⟩ (.int .i64 (bits .and .i64 number 16777215))).setCell ⟨(w5.heap.size), 9, none⟩ (.int .i64 0)) = wz at hf ⊢
              generalize w5.heap.size = NB at hf ⊢
              with_reducible exact HTAIL.out xa xc la lc NB wz ⟨Lib.hid hf.1, Lib.hid hf.2.1, Lib.hid hf.2.2.1, Lib.hid hxp, Lib.hid ⟨_, hf.2.2.2⟩⟩)
           | (generalize ((((((((((w7.setCell ⟨(w3.heap.size), 0, none⟩ (.string (str TP))).setCell ⟨(w3.heap.size), 1, none⟩ (.slice xa PY.length xc)).setCell ⟨(w3.heap.size), 2, none⟩ (.int .i64 QW)).setCell ⟨(w3.heap.size), 3, none⟩ (.bool retain)).setCell ⟨(w3.heap.size), 4, none⟩ (.string (str SP))).setCell ⟨(w3.heap.size), 5, none⟩ (.int .i64 0)).setCell ⟨(w3.heap.size), 6, none⟩ (.slice la L.length lc)).setCell ⟨(w3.heap.size), 7, none⟩ (.int .i64 (bits .and .i64 origin 255))).setCell ⟨(w3.heap.size), 8, none⟩ (.int .i64 (bits .and .i64 number 16777215))).setCell ⟨(w3.heap.size), 9, none⟩ (.int .i64 0)) = wz at hf ⊢
              generalize w3.heap.size = NB at hf ⊢
              with_reducible exact HTAIL.out xa xc la lc NB wz ⟨Lib.hid hf.1, Lib.hid hf.2.1, Lib.hid hf.2.2.1, Lib.hid hxp, Lib.hid ⟨_, hf.2.2.2⟩⟩)
           | (generalize ((((((((((w7.setCell ⟨(w1.heap.size), 0, none⟩ (.string (str TP))).setCell ⟨(w1.heap.size), 1, none⟩ (.slice xa PY.length xc)).setCell ⟨(w1.heap.size), 2, none⟩ (.int .i64 QW)).setCell ⟨(w1.heap.size), 3, none⟩ (.bool retain)).setCell ⟨(w1.heap.size), 4, none⟩ (.string (str SP))).setCell ⟨(w1.heap.size), 5, none⟩ (.int .i64 0)).setCell ⟨(w1.heap.size), 6, none⟩ (.slice la L.length lc)).setCell ⟨(w1.heap.size), 7, none⟩ (.int .i64 (bits .and .i64 origin 255))).setCell ⟨(w1.heap.size), 8, none⟩ (.int .i64 (bits .and .i64 number 16777215))).setCell ⟨(w1.heap.size), 9, none⟩ (.int .i64 0)) = wz at hf ⊢
              generalize w1.heap.size = NB at hf ⊢
              with_reducible exact HTAIL.out xa xc la lc NB wz ⟨Lib.hid hf.1, Lib.hid hf.2.1, Lib.hid hf.2.2.1, Lib.hid hxp, Lib.hid ⟨_, hf.2.2.2⟩⟩))
  · intro xa xc la lc NB wz hh
    obtain ⟨HI, HNT, HNB, HXP, HOPX⟩ := hh
    clear i0 i0a hz0 s0 I0
    obtain ⟨c0, c1, c3, c4, c6, c9, c10, c11, c12, c14, c15⟩ := mdS wz HI.out.box
    have c8 : wz.cell? ⟨w.heap.size, 8, none⟩ = some (.int .i64 life) := cell_of_row wz _ 8 _ _ _ HI.out.box
    obtain ⟨SW, hSW⟩ : ∃ q, within sub 0 2 = q := ⟨_, rfl⟩
    have HSW := Lib.hid hSW
    clear hSW
    by_cases hlf : 0 < life
    · have c5 := cell_of_row wz NB 5 _ _ _ HNT.out
      have f5 := frozen_block HNT.out 5
      go_wp2_with fail
      have hgs := grownBy_setCell wz ⟨NB, 5, none⟩ (.int .i64 (bits .and .i64 life 65535))
      have hnt := heap_setCell_same wz NB 5 _ _ (.int .i64 (bits .and .i64 life 65535)) HNT.out
      have hi := IR.grown (K := NB) HI.out hgs (Nat.le_trans (Nat.le_add_right _ 2) HNB.out) (by have := HNB.out; omega) (by have := HNB.out; omega)
      have hop : ∃ ds, OP W w.heap.size (wz.setCell ⟨NB, 5, none⟩ (.int .i64 (bits .and .i64 life 65535))) la L.length lc ds L := HOPX.out.imp fun ds h => h.typed HNT.out (by decide) hgs (Nat.le_trans HWW.out.size (Nat.le_trans (Nat.le_add_right _ 2) HNB.out))
      clear hgs c5 f5 HI HNT HOPX c0 c1 c3 c4 c6 c9 c10 c11 c12 c14 c15 c8
      generalize wz.setCell ⟨NB, 5, none⟩ (.int .i64 (bits .and .i64 life 65535)) = wy at hi hnt hop ⊢
      obtain ⟨EX, hEX⟩ : ∃ e : Int, bits .and .i64 life 65535 = e := ⟨_, rfl⟩
      have HNTx : wy.heap[NB]? = some (Obj.cells #[.string (str TP), .slice xa PY.length xc, .int .i64 QW, .bool retain, .string (str SP), .int .i64 EX, .slice la L.length lc, .int .i64 (bits .and .i64 origin 255), .int .i64 (bits .and .i64 number 16777215), .int .i64 0] 34) := by rw [← hEX]; exact hnt
      have HI := Lib.hid hi
      have HNT := Lib.hid HNTx
      have HOPX := Lib.hid hop
      have HEX := Lib.hid hEX
      clear hi hnt hop hEX HNTx
      have HE : Hid ((if 0 < life then bits .and .i64 life 65535 else 0) = EX) := (by show _ = _; rw [if_pos hlf, HEX.out])
      have qS : ∀ x : World, x.heap[w.heap.size]? = some (Obj.cells #[.slice ta topic.length tc, .slice fa src.length fc, .slice sa share.length sc, .slice pa payload.length pc, .int .i64 qos, .int .i64 sub, .bool retain, .bool keep, .int .i64 life, .int .i64 fm, .slice ca co.length cc, .slice ra cr.length rc, .slice ua us.length uc, .slice ia ids.length ic, .int .i64 origin, .int .i64 number] 27) → x.heap[NB]? = some (Obj.cells #[.string (str TP), .slice xa PY.length xc, .int .i64 QW, .bool retain, .string (str SP), .int .i64 EX, .slice la L.length lc, .int .i64 (bits .and .i64 origin 255), .int .i64 (bits .and .i64 number 16777215), .int .i64 0] 34) → x.cell? ⟨w.heap.size, 5, none⟩ = some (.int .i64 sub) ∧ x.cell? ⟨w.heap.size, 7, none⟩ = some (.bool keep) ∧ x.cell? ⟨NB, 0, none⟩ = some (.string (str TP)) ∧ x.cell? ⟨NB, 1, none⟩ = some (.slice xa PY.length xc) ∧ x.cell? ⟨NB, 2, none⟩ = some (.int .i64 QW) ∧ x.cell? ⟨NB, 3, none⟩ = some (.bool retain) ∧ x.cell? ⟨NB, 4, none⟩ = some (.string (str SP)) ∧ x.cell? ⟨NB, 5, none⟩ = some (.int .i64 EX) ∧ x.cell? ⟨NB, 6, none⟩ = some (.slice la L.length lc) ∧ x.cell? ⟨NB, 7, none⟩ = some (.int .i64 (bits .and .i64 origin 255)) ∧ x.cell? ⟨NB, 8, none⟩ = some (.int .i64 (bits .and .i64 number 16777215)) ∧ x.cell? ⟨NB, 9, none⟩ = some (.int .i64 0) := fun x h k => ⟨cell_of_row x _ 5 _ _ _ h, cell_of_row x _ 7 _ _ _ h, cell_of_row x _ 0 _ _ _ k, cell_of_row x _ 1 _ _ _ k, cell_of_row x _ 2 _ _ _ k, cell_of_row x _ 3 _ _ _ k, cell_of_row x _ 4 _ _ _ k, cell_of_row x _ 5 _ _ _ k, cell_of_row x _ 6 _ _ _ k, cell_of_row x _ 7 _ _ _ k, cell_of_row x _ 8 _ _ _ k, cell_of_row x _ 9 _ _ _ k⟩
      have s0 := qS wy.drew HI.out.box HNT.out
      have s1 := qS (wy.alloc (Obj.cells #[.string ⟨#[]⟩, .slice none 0 0, .int .i64 0, .bool false, .string ⟨#[]⟩, .int .i64 0, .slice none 0 0, .int .i64 0, .int .i64 0, .int .i64 0, .int .i64 0, .bool false, .slice none 0 0, .string ⟨#[]⟩] 36)).drew (HI.out.alloc (Obj.cells #[.string ⟨#[]⟩, .slice none 0 0, .int .i64 0, .bool false, .string ⟨#[]⟩, .int .i64 0, .slice none 0 0, .int .i64 0, .int .i64 0, .int .i64 0, .int .i64 0, .bool false, .slice none 0 0, .string ⟨#[]⟩] 36)).box (show (wy.alloc (Obj.cells #[.string ⟨#[]⟩, .slice none 0 0, .int .i64 0, .bool false, .string ⟨#[]⟩, .int .i64 0, .slice none 0 0, .int .i64 0, .int .i64 0, .int .i64 0, .int .i64 0, .bool false, .slice none 0 0, .string ⟨#[]⟩] 36)).heap[NB]? = some (Obj.cells #[.string (str TP), .slice xa PY.length xc, .int .i64 QW, .bool retain, .string (str SP), .int .i64 EX, .slice la L.length lc, .int .i64 (bits .and .i64 origin 255), .int .i64 (bits .and .i64 number 16777215), .int .i64 0] 34) from block_alloc HNT.out)
      have s2 := qS (wy.alloc (Obj.cells #[.string (str TP), .slice xa PY.length xc, .int .i64 QW, .bool retain, .string (str SP), .int .i64 EX, .slice la L.length lc, .int .i64 (bits .and .i64 origin 255), .int .i64 (bits .and .i64 number 16777215), .int .i64 0, .int .i64 SW, .bool keep, .slice none 0 0, .string ⟨#[]⟩] 36)).drew (HI.out.alloc _).box (show (wy.alloc (Obj.cells #[.string (str TP), .slice xa PY.length xc, .int .i64 QW, .bool retain, .string (str SP), .int .i64 EX, .slice la L.length lc, .int .i64 (bits .and .i64 origin 255), .int .i64 (bits .and .i64 number 16777215), .int .i64 0, .int .i64 SW, .bool keep, .slice none 0 0, .string ⟨#[]⟩] 36)).heap[NB]? = some (Obj.cells #[.string (str TP), .slice xa PY.length xc, .int .i64 QW, .bool retain, .string (str SP), .int .i64 EX, .slice la L.length lc, .int .i64 (bits .and .i64 origin 255), .int .i64 (bits .and .i64 number 16777215), .int .i64 0] 34) from block_alloc HNT.out)
      apply via2 (H := fun (IB : Nat) (w' : World) => Hid (IR w w.heap.size (Obj.cells #[.slice ta topic.length tc, .slice fa src.length fc, .slice sa share.length sc, .slice pa payload.length pc, .int .i64 qos, .int .i64 sub, .bool retain, .bool keep, .int .i64 life, .int .i64 fm, .slice ca co.length cc, .slice ra cr.length rc, .slice ua us.length uc, .slice ia ids.length ic, .int .i64 origin, .int .i64 number] 27) w') ∧ Hid (w'.heap[IB]? = some (Obj.cells #[.string (str TP), .slice xa PY.length xc, .int .i64 QW, .bool retain, .string (str SP), .int .i64 EX, .slice la L.length lc, .int .i64 (bits .and .i64 origin 255), .int .i64 (bits .and .i64 number 16777215), .int .i64 0, .int .i64 SW, .bool keep, .slice none 0 0, .string ⟨#[]⟩] 36)) ∧ Hid (w.heap.size + 2 ≤ IB) ∧ Hid (∃ ds, OP W w.heap.size w' la L.length lc ds L))
      · intro TAIL
        have HTL := Lib.hid TAIL
        clear TAIL
        go_region_held3 (fun x => x.cell? ⟨w.heap.size, 5, none⟩ = some (.int .i64 sub) ∧ x.cell? ⟨w.heap.size, 7, none⟩ = some (.bool keep) ∧ x.cell? ⟨NB, 0, none⟩ = some (.string (str TP)) ∧ x.cell? ⟨NB, 1, none⟩ = some (.slice xa PY.length xc) ∧ x.cell? ⟨NB, 2, none⟩ = some (.int .i64 QW) ∧ x.cell? ⟨NB, 3, none⟩ = some (.bool retain) ∧ x.cell? ⟨NB, 4, none⟩ = some (.string (str SP)) ∧ x.cell? ⟨NB, 5, none⟩ = some (.int .i64 EX) ∧ x.cell? ⟨NB, 6, none⟩ = some (.slice la L.length lc) ∧ x.cell? ⟨NB, 7, none⟩ = some (.int .i64 (bits .and .i64 origin 255)) ∧ x.cell? ⟨NB, 8, none⟩ = some (.int .i64 (bits .and .i64 number 16777215)) ∧ x.cell? ⟨NB, 9, none⟩ = some (.int .i64 0))
          (first | with_reducible exact s0 | with_reducible exact s1 | with_reducible exact s2 | go_keep)
          (first
            | (go_at_call 20; refine within_any sub 0 2 _ (by decide) (by decide) (by decide) _ ?_; rw [HSW.out]))
        all_goals
          have hf := And.intro ((HI.out.alloc (Obj.cells #[.string (str TP), .slice xa PY.length xc, .int .i64 QW, .bool retain, .string (str SP), .int .i64 EX, .slice la L.length lc, .int .i64 (bits .and .i64 origin 255), .int .i64 (bits .and .i64 number 16777215), .int .i64 0, .int .i64 SW, .bool keep, .slice none 0 0, .string ⟨#[]⟩] 36)).below (Below.refl _ _).drew) (And.intro (show (wy.alloc (Obj.cells #[.string (str TP), .slice xa PY.length xc, .int .i64 QW, .bool retain, .string (str SP), .int .i64 EX, .slice la L.length lc, .int .i64 (bits .and .i64 origin 255), .int .i64 (bits .and .i64 number 16777215), .int .i64 0, .int .i64 SW, .bool keep, .slice none 0 0, .string ⟨#[]⟩] 36)).drew.heap[wy.heap.size]? = some (Obj.cells #[.string (str TP), .slice xa PY.length xc, .int .i64 QW, .bool retain, .string (str SP), .int .i64 EX, .slice la L.length lc, .int .i64 (bits .and .i64 origin 255), .int .i64 (bits .and .i64 number 16777215), .int .i64 0, .int .i64 SW, .bool keep, .slice none 0 0, .string ⟨#[]⟩] 36) from heap_alloc_new wy _) (And.intro HI.out.sz (show ∃ ds, OP W w.heap.size (wy.alloc (Obj.cells #[.string (str TP), .slice xa PY.length xc, .int .i64 QW, .bool retain, .string (str SP), .int .i64 EX, .slice la L.length lc, .int .i64 (bits .and .i64 origin 255), .int .i64 (bits .and .i64 number 16777215), .int .i64 0, .int .i64 SW, .bool keep, .slice none 0 0, .string ⟨#[]⟩] 36)).drew la L.length lc ds L from by
            obtain ⟨ds, ho⟩ := HOPX.out
            exact ⟨ds, (ho.below ((Below.refl _ _).alloc (Nat.le_refl _) _)).below (Below.refl _ _).drew⟩)))
          generalize (wy.alloc (Obj.cells #[.string (str TP), .slice xa PY.length xc, .int .i64 QW, .bool retain, .string (str SP), .int .i64 EX, .slice la L.length lc, .int .i64 (bits .and .i64 origin 255), .int .i64 (bits .and .i64 number 16777215), .int .i64 0, .int .i64 SW, .bool keep, .slice none 0 0, .string ⟨#[]⟩] 36)).drew = wx at hf ⊢
          generalize wy.heap.size = IB at hf ⊢
          with_reducible exact HTL.out IB wx ⟨Lib.hid hf.1, Lib.hid hf.2.1, Lib.hid hf.2.2.1, Lib.hid hf.2.2.2⟩
      · intro IB w5 hh5
        obtain ⟨HI5, HIT5, HIB, HOP5⟩ := hh5
        clear s0 s1 s2 qS mdS HI HNT HOPX
        have c13 := cell_of_row w5 _ 13 _ _ _ HI5.out.box
        have HILEN : Hid ((idsL ids).length = min ids.length 4) := by
          show _ = _
          unfold idsL
          rw [List.length_map, List.length_take, Nat.min_comm]
        go_wp2_with fail
        go_loopg [5] (min ids.length 4) (fun gn i wr => ∃ (k c : Nat) (ad : Option Addr), k ≤ min ids.length 4 ∧ gn = min ids.length 4 - k ∧ i = .int .i64 k ∧ Hid (IR w w.heap.size (Obj.cells #[.slice ta topic.length tc, .slice fa src.length fc, .slice sa share.length sc, .slice pa payload.length pc, .int .i64 qos, .int .i64 sub, .bool retain, .bool keep, .int .i64 life, .int .i64 fm, .slice ca co.length cc, .slice ra cr.length rc, .slice ua us.length uc, .slice ia ids.length ic, .int .i64 origin, .int .i64 number] 27) wr) ∧ Hid (wr.heap[IB]? = some (Obj.cells #[.string (str TP), .slice xa PY.length xc, .int .i64 QW, .bool retain, .string (str SP), .int .i64 EX, .slice la L.length lc, .int .i64 (bits .and .i64 origin 255), .int .i64 (bits .and .i64 number 16777215), .int .i64 0, .int .i64 SW, .bool keep, .slice ad k c, .string ⟨#[]⟩] 36)) ∧ Hid (wr.ownsRow (w.heap.size + 2) 3 1 (.slice ad k c) k (iv ((idsL ids).take k))) ∧ Hid (∃ ds, OP W w.heap.size wr la L.length lc ds L))
        case atStart => exact ⟨0, 0, none, Nat.zero_le _, by omega, rfl, HI5, HIT5, World.ownsRow_nil _ _ _ _, HOP5⟩
        case round =>
          obtain ⟨k, c, ad, hk, rfl, rfl, HI, HIT, HROW, HOP⟩ := hrel
          obtain ⟨wo, rfl⟩ : ∃ x, x = wr := ⟨_, rfl⟩
          clear HI5 HIT5 HOP5 c13
          have c13 := cell_of_row wo _ 13 _ _ _ HI.out.box
          by_cases hlt : k < min ids.length 4
          · skip
            have hk1 : k < ids.length := by omega
            have hkk : (k : Int) < (ids.length : Int) := by omega
            have hk4 : (k : Int) < 4 := by omega
            obtain ⟨g, o, hia, hxc⟩ := (HM.out.i.below HI.out.low).at k hk1
            subst hia
            have hT : (idsL ids).take (k + 1) = (idsL ids).take k ++ [IntKind.i64.wrap (1 + bits .and .i64 ids[k] 16777215)] := by
              have hl : k < (idsL ids).length := by rw [HILEN.out]; exact hlt
              rw [List.take_succ_eq_append_getElem hl]
              congr 2
              simp [idsL]
            obtain ⟨x, hx⟩ : ∃ x, ids[k] = x := ⟨_, rfl⟩
            rw [hx] at hxc hT
            have HT := Lib.hid hT
            have hrowL := (HROW.out.alloc (Obj.cells #[.int .i64 (IntKind.i64.wrap (1 + bits .and .i64 x 16777215))] 3))
            have hitL := block_alloc (o' := (Obj.cells #[.int .i64 (IntKind.i64.wrap (1 + bits .and .i64 x 16777215))] 3)) HIT.out
            have hiL := HI.out.alloc (Obj.cells #[.int .i64 (IntKind.i64.wrap (1 + bits .and .i64 x 16777215))] 3)
            have hopL : ∃ ds, OP W w.heap.size (wo.alloc (Obj.cells #[.int .i64 (IntKind.i64.wrap (1 + bits .and .i64 x 16777215))] 3)) la L.length lc ds L := by
              obtain ⟨ds, ho⟩ := HOP.out
              exact ⟨ds, ho.below ((Below.refl _ _).alloc (Nat.le_refl _) _)⟩
            have hrdL := rd_lit wo #[.int .i64 (IntKind.i64.wrap (1 + bits .and .i64 x 16777215))] 3 1 1 rfl
            have hszL : w.heap.size + 2 ≤ (wo.alloc (Obj.cells #[.int .i64 (IntKind.i64.wrap (1 + bits .and .i64 x 16777215))] 3)).heap.size := hiL.sz
            have d12 : wo.drew.cell? ⟨IB, 12, none⟩ = some (.slice ad k c) := cell_of_row wo IB 12 _ _ _ HIT.out
            have d13 : wo.drew.cell? ⟨w.heap.size, 13, none⟩ = some (.slice (some ⟨g, o, none⟩) ids.length ic) := cell_of_row wo _ 13 _ _ _ HI.out.box
            have dx : wo.drew.cell? ⟨g, o + k, none⟩ = some (.int .i64 x) := hxc
            have e12 : (wo.alloc (Obj.cells #[.int .i64 (IntKind.i64.wrap (1 + bits .and .i64 x 16777215))] 3)).drew.cell? ⟨IB, 12, none⟩ = some (.slice ad k c) := cell_of_row _ IB 12 _ _ _ hitL
            clear hx hT hxc
            go_wp2_with fail
            go_region_law (first
              | (refine step_appAt (by rfl) (.tmp 57) (.tmp 65) 25 (by rfl) (w.heap.size + 2) 3 (.int .i64 0) 1 8 Tryz.underlying25 infoI rfl (by decide) ad k c _ (by rfl) (owns_below hrowL (Below.refl _ _).drew) _ 1 1 [.int .i64 (IntKind.i64.wrap (1 + bits .and .i64 x 16777215))] (by rfl) (hrdL.below (Below.refl _ _).drew) (one_oneCell _ _) (fun h => by cases h) (by unfold maxLen; omega) (by omega) hszL ?_; intro ad9 c9 w9 hown9 hg9 _; have hit9 := block_grown hg9 (show (wo.alloc (Obj.cells #[.int .i64 (IntKind.i64.wrap (1 + bits .and .i64 x 16777215))] 3)).drew.heap[IB]? = _ from hitL) (own_block_ne (show (wo.alloc (Obj.cells #[.int .i64 (IntKind.i64.wrap (1 + bits .and .i64 x 16777215))] 3)).drew.heap[IB]? = _ from hitL) (owns_below hrowL (Below.refl _ _).drew) (by decide)); have c129 := cell_of_row w9 IB 12 _ _ _ hit9; have f129 := frozen_block hit9 12))
            all_goals
              have hi9 := IR.app (hiL.below (Below.refl _ _).drew) (owns_below hrowL (Below.refl _ _).drew) hg9
              have hop9 : ∃ ds, OP W w.heap.size w9 la L.length lc ds L := by
                obtain ⟨ds, ho⟩ := hopL
                exact ⟨ds, (ho.below (Below.refl _ _).drew).app (owns_below hrowL (Below.refl _ _).drew) (by decide) hg9 (Nat.le_trans HWW.out.size (Nat.le_add_right _ 2))⟩
              have hgs := grownBy_setCell w9 ⟨IB, 12, none⟩ (.slice ad9 (k + 1) c9)
              have HI10 := Lib.hid (IR.grown (K := IB) hi9 hgs (Nat.le_trans (Nat.le_add_right _ 2) HIB.out) (by have := HIB.out; omega) (by have := HIB.out; omega))
              have HIT10 : Hid ((w9.setCell ⟨IB, 12, none⟩ (.slice ad9 (k + 1) c9)).heap[IB]? = some (Obj.cells #[.string (str TP), .slice xa PY.length xc, .int .i64 QW, .bool retain, .string (str SP), .int .i64 EX, .slice la L.length lc, .int .i64 (bits .and .i64 origin 255), .int .i64 (bits .and .i64 number 16777215), .int .i64 0, .int .i64 SW, .bool keep, .slice ad9 (k + 1) c9, .string ⟨#[]⟩] 36)) := heap_setCell_same w9 IB 12 _ _ _ hit9
              have HROW10 : Hid ((w9.setCell ⟨IB, 12, none⟩ (.slice ad9 (k + 1) c9)).ownsRow (w.heap.size + 2) 3 1 (.slice ad9 (k + 1) c9) (k + 1) (iv ((idsL ids).take (k + 1)))) := by
                have h1 := owns_typed hown9 hit9 (by decide) hgs
                rw [HT.out]
                unfold iv
                rw [List.map_append]
                exact h1
              have HOP10 : Hid (∃ ds, OP W w.heap.size (w9.setCell ⟨IB, 12, none⟩ (.slice ad9 (k + 1) c9)) la L.length lc ds L) := by
                obtain ⟨ds, ho⟩ := hop9
                exact ⟨ds, ho.typed hit9 (by decide) hgs (Nat.le_trans HWW.out.size (Nat.le_trans (Nat.le_add_right _ 2) HIB.out))⟩
              clear hi9 hop9 hgs hit9 c129 f129 hown9 hg9 hrowL hitL hiL hopL hrdL hszL d12 d13 dx e12 c13
              go_wp2_with fail
              go_roundg (min ids.length 4 - (k + 1))
              case measure => omega
              case rel => exact ⟨k + 1, c9, ad9, by omega, rfl, by go_num, HI10, HIT10, HROW10, HOP10⟩
          · have hkn : k = min ids.length 4 := by omega
            have hilen := HILEN.out
            obtain ⟨IDS, hIDS⟩ : ∃ l, idsL ids = l := ⟨_, rfl⟩
            rw [hIDS] at hilen
            have hrow := HROW.out
            rw [hIDS, List.take_of_length_le (by omega)] at hrow
            have HRW := Lib.hid hrow
            have HIL : Hid (IDS.length = k) := by show _ = _; omega
            have HIDS := Lib.hid hIDS
            clear hrow hIDS hilen HROW
            have c2 := cell_of_row wo _ 2 _ _ _ HI.out.box
            by_cases hk1 : k < ids.length
            · have hkk : (k : Int) < (ids.length : Int) := by omega
              have hk4 : ¬ (k : Int) < 4 := by omega
              clear hkn
              by_cases hsh : (0 : Int) < (share.length : Int)
              · obtain ⟨SPL, hSPL⟩ : ∃ l, plainL share = l := ⟨_, rfl⟩
                obtain ⟨SH, hSH⟩ : ∃ l, shareB ++ SPL = l := ⟨_, rfl⟩
                have HSPL := Lib.hid hSPL
                have HSHX : Hid ((if 0 < share.length then shareB ++ plainL share else []) = SH) := by show _ = _; rw [if_pos (by omega), hSPL, hSH]
                have hadd2 : ∀ x : World, (Op.stringOp .add ⟨#[36, 115, 104, 97, 114, 101, 47, 103, 47]⟩ (str SPL)).run Tryz.prog x = .ok (.string (str SH)) x := fun x => by
                  rw [run_string_add_sum x _ _ (by show 9 + SPL.length ≤ 9223372036854775807; rw [← hSPL]; have := plainL_len share; omega), ← hSH]
                  exact congrArg (fun z => Result.ok (Value.string z) x) (str_app shareB SPL)
                clear hSPL hSH
                go_wp2_with (first
                  | (go_at_call 38; go_must (refine plain_any _ share SPL HSPL.out _ (HM.out.s.below HI.out.low) _ ?_; intro w11 hb11; have HI11 := HI.out.below hb11; have HIT11 := row_later HIT.out hb11; have HRW11 := owns_below HRW.out hb11; have HOP11 : ∃ ds, OP W w.heap.size w11 la L.length lc ds L := HOP.out.imp fun ds h => h.below hb11; have cs13 : w11.cell? ⟨IB, 13, none⟩ = some (.string ⟨#[]⟩) := cell_of_row w11 IB 13 _ _ _ HIT11; have fs13 := frozen_block HIT11 13; have hgs := grownBy_setCell w11 ⟨IB, 13, none⟩ (.string (str SH)); have HI12 := Lib.hid (IR.grown (K := IB) HI11 hgs (Nat.le_trans (Nat.le_add_right _ 2) HIB.out) (by have := HIB.out; omega) (by have := HIB.out; omega)); have HRES12 := Lib.hid HI12.out.res; have HIT12 : Hid ((w11.setCell ⟨IB, 13, none⟩ (.string (str SH))).heap[IB]? = some (Obj.cells #[.string (str TP), .slice xa PY.length xc, .int .i64 QW, .bool retain, .string (str SP), .int .i64 EX, .slice la L.length lc, .int .i64 (bits .and .i64 origin 255), .int .i64 (bits .and .i64 number 16777215), .int .i64 0, .int .i64 SW, .bool keep, .slice ad k c, .string (str SH)] 36)) := heap_setCell_same w11 IB 13 _ _ _ HIT11; have HRW12 := Lib.hid (owns_typed HRW11 HIT11 (by decide) hgs); have HOP12 : Hid (∃ ds, OP W w.heap.size (w11.setCell ⟨IB, 13, none⟩ (.string (str SH))) la L.length lc ds L) := HOP11.imp fun ds h => h.typed HIT11 (by decide) hgs (Nat.le_trans HWW.out.size (Nat.le_trans (Nat.le_add_right _ 2) HIB.out)); clear HI11 HIT11 HRW11 HOP11 hgs hb11))
                  | (refine wpList_load_row (o := ⟨some 77, .load 36 (.tmp 4), _, _, _, _⟩) (by rfl) 36 (.tmp 4) (by rfl) (IB) (by rfl) 36 _ (0, 0) _ (HIT12).out (Tryz.underlying36) (by rfl) (by kernel_rfl) ?_)
                  | (refine wpList_store_row (o := ⟨none, .store 36 (.tmp 2) (.tmp 77), _, _, _, _⟩) (by rfl) 36 (.tmp 2) (.tmp 77) (by rfl) (w.heap.size + 1) _ (by rfl) (by rfl) 36 _ (HRES12).out (by kernel_rfl) (by rfl) (by simp [Value.oneCell']) ?_))
                refine bodyPost_ret (results_cell_row rfl _ _ (w.heap.size + 1) 36 _ (0, 0) _ rfl (setRow_heap _ (w.heap.size + 1) _ _ _ _ (HRES12).out) Tryz.underlying36 rfl (by kernel_rfl)) rfl ?_
                have hil := HIL.out
                subst hil
                have hX : itemL ⟨topic, src, share, payload, qos, sub, retain, keep, life, fm, co, cr, us, ids, origin, number⟩ = ⟨⟨TP, PY, QW, retain, SP, EX, L, bits .and .i64 origin 255, bits .and .i64 number 16777215, 0⟩, SW, keep, IDS, SH⟩ := by
                  unfold itemL
                  simp only [HT0.out, HTP.out, HSP.out, show List.take 300 payload = PY from HPY.out, HL.out, HQW.out, HSW.out, HE.out, HIDS.out, HSHX.out]
                have hr := HR.out xa xc la lc ad c
                rw [hX] at hr
                have hbZ := fun cs => below_setRow (HI12).out.low (Nat.le_add_right w.heap.size 1) cs
                refine hr _ ⟨HXP.out, ?_, ?_, below_then HWW.out (hbZ _) HWW.out.size⟩ (hbZ _)
                · obtain ⟨ds, ho⟩ := (HOP12).out
                  exact ⟨_, _, _, rfl, ho.typed (HRES12).out (by decide) (grown_setRow _ _ _) (Nat.le_trans HWW.out.size (Nat.le_add_right _ 1))⟩
                · exact owns_mono (owns_typed (HRW12).out (HRES12).out (by decide) (grown_setRow _ _ _)) (Nat.le_add_right _ 2)
              · have hsh' : ¬ 0 < share.length := by omega
                obtain ⟨SH, hSH⟩ : ∃ l : List UInt8, [] = l := ⟨_, rfl⟩
                have HSHX : Hid ((if 0 < share.length then shareB ++ plainL share else []) = SH) := by show _ = _; rw [if_neg hsh', hSH]
                have HIT12 : Hid (wo.heap[IB]? = some (Obj.cells #[.string (str TP), .slice xa PY.length xc, .int .i64 QW, .bool retain, .string (str SP), .int .i64 EX, .slice la L.length lc, .int .i64 (bits .and .i64 origin 255), .int .i64 (bits .and .i64 number 16777215), .int .i64 0, .int .i64 SW, .bool keep, .slice ad k c, .string (str SH)] 36)) := by show _ = _; rw [← hSH]; exact HIT.out
                have HRES12 := Lib.hid HI.out.res
                have HSHN := Lib.hid hSH
                clear hSH hsh'
                go_wp2_with (first
                  | (refine wpList_load_row (o := ⟨some 77, .load 36 (.tmp 4), _, _, _, _⟩) (by rfl) 36 (.tmp 4) (by rfl) (IB) (by rfl) 36 _ (0, 0) _ (HIT12).out (Tryz.underlying36) (by rfl) (by kernel_rfl) ?_)
                  | (refine wpList_store_row (o := ⟨none, .store 36 (.tmp 2) (.tmp 77), _, _, _, _⟩) (by rfl) 36 (.tmp 2) (.tmp 77) (by rfl) (w.heap.size + 1) _ (by rfl) (by rfl) 36 _ (HRES12).out (by kernel_rfl) (by rfl) (by simp [Value.oneCell']) ?_))
                refine bodyPost_ret (results_cell_row rfl _ _ (w.heap.size + 1) 36 _ (0, 0) _ rfl (setRow_heap _ (w.heap.size + 1) _ _ _ _ (HRES12).out) Tryz.underlying36 rfl (by kernel_rfl)) rfl ?_
                have hil := HIL.out
                subst hil
                have hX : itemL ⟨topic, src, share, payload, qos, sub, retain, keep, life, fm, co, cr, us, ids, origin, number⟩ = ⟨⟨TP, PY, QW, retain, SP, EX, L, bits .and .i64 origin 255, bits .and .i64 number 16777215, 0⟩, SW, keep, IDS, SH⟩ := by
                  unfold itemL
                  simp only [HT0.out, HTP.out, HSP.out, show List.take 300 payload = PY from HPY.out, HL.out, HQW.out, HSW.out, HE.out, HIDS.out, HSHX.out]
                have hr := HR.out xa xc la lc ad c
                rw [hX] at hr
                have hbZ := fun cs => below_setRow (HI).out.low (Nat.le_add_right w.heap.size 1) cs
                refine hr _ ⟨HXP.out, ?_, ?_, below_then HWW.out (hbZ _) HWW.out.size⟩ (hbZ _)
                · obtain ⟨ds, ho⟩ := (HOP).out
                  exact ⟨_, _, _, rfl, ho.typed (HRES12).out (by decide) (grown_setRow _ _ _) (Nat.le_trans HWW.out.size (Nat.le_add_right _ 1))⟩
                · exact owns_mono (owns_typed (HRW).out (HRES12).out (by decide) (grown_setRow _ _ _)) (Nat.le_add_right _ 2)
            · have hkk : ¬ (k : Int) < (ids.length : Int) := by omega
              clear hkn
              by_cases hsh : (0 : Int) < (share.length : Int)
              · obtain ⟨SPL, hSPL⟩ : ∃ l, plainL share = l := ⟨_, rfl⟩
                obtain ⟨SH, hSH⟩ : ∃ l, shareB ++ SPL = l := ⟨_, rfl⟩
                have HSPL := Lib.hid hSPL
                have HSHX : Hid ((if 0 < share.length then shareB ++ plainL share else []) = SH) := by show _ = _; rw [if_pos (by omega), hSPL, hSH]
                have hadd2 : ∀ x : World, (Op.stringOp .add ⟨#[36, 115, 104, 97, 114, 101, 47, 103, 47]⟩ (str SPL)).run Tryz.prog x = .ok (.string (str SH)) x := fun x => by
                  rw [run_string_add_sum x _ _ (by show 9 + SPL.length ≤ 9223372036854775807; rw [← hSPL]; have := plainL_len share; omega), ← hSH]
                  exact congrArg (fun z => Result.ok (Value.string z) x) (str_app shareB SPL)
                clear hSPL hSH
                go_wp2_with (first
                  | (go_at_call 38; go_must (refine plain_any _ share SPL HSPL.out _ (HM.out.s.below HI.out.low) _ ?_; intro w11 hb11; have HI11 := HI.out.below hb11; have HIT11 := row_later HIT.out hb11; have HRW11 := owns_below HRW.out hb11; have HOP11 : ∃ ds, OP W w.heap.size w11 la L.length lc ds L := HOP.out.imp fun ds h => h.below hb11; have cs13 : w11.cell? ⟨IB, 13, none⟩ = some (.string ⟨#[]⟩) := cell_of_row w11 IB 13 _ _ _ HIT11; have fs13 := frozen_block HIT11 13; have hgs := grownBy_setCell w11 ⟨IB, 13, none⟩ (.string (str SH)); have HI12 := Lib.hid (IR.grown (K := IB) HI11 hgs (Nat.le_trans (Nat.le_add_right _ 2) HIB.out) (by have := HIB.out; omega) (by have := HIB.out; omega)); have HRES12 := Lib.hid HI12.out.res; have HIT12 : Hid ((w11.setCell ⟨IB, 13, none⟩ (.string (str SH))).heap[IB]? = some (Obj.cells #[.string (str TP), .slice xa PY.length xc, .int .i64 QW, .bool retain, .string (str SP), .int .i64 EX, .slice la L.length lc, .int .i64 (bits .and .i64 origin 255), .int .i64 (bits .and .i64 number 16777215), .int .i64 0, .int .i64 SW, .bool keep, .slice ad k c, .string (str SH)] 36)) := heap_setCell_same w11 IB 13 _ _ _ HIT11; have HRW12 := Lib.hid (owns_typed HRW11 HIT11 (by decide) hgs); have HOP12 : Hid (∃ ds, OP W w.heap.size (w11.setCell ⟨IB, 13, none⟩ (.string (str SH))) la L.length lc ds L) := HOP11.imp fun ds h => h.typed HIT11 (by decide) hgs (Nat.le_trans HWW.out.size (Nat.le_trans (Nat.le_add_right _ 2) HIB.out)); clear HI11 HIT11 HRW11 HOP11 hgs hb11))
                  | (refine wpList_load_row (o := ⟨some 77, .load 36 (.tmp 4), _, _, _, _⟩) (by rfl) 36 (.tmp 4) (by rfl) (IB) (by rfl) 36 _ (0, 0) _ (HIT12).out (Tryz.underlying36) (by rfl) (by kernel_rfl) ?_)
                  | (refine wpList_store_row (o := ⟨none, .store 36 (.tmp 2) (.tmp 77), _, _, _, _⟩) (by rfl) 36 (.tmp 2) (.tmp 77) (by rfl) (w.heap.size + 1) _ (by rfl) (by rfl) 36 _ (HRES12).out (by kernel_rfl) (by rfl) (by simp [Value.oneCell']) ?_))
                refine bodyPost_ret (results_cell_row rfl _ _ (w.heap.size + 1) 36 _ (0, 0) _ rfl (setRow_heap _ (w.heap.size + 1) _ _ _ _ (HRES12).out) Tryz.underlying36 rfl (by kernel_rfl)) rfl ?_
                have hil := HIL.out
                subst hil
                have hX : itemL ⟨topic, src, share, payload, qos, sub, retain, keep, life, fm, co, cr, us, ids, origin, number⟩ = ⟨⟨TP, PY, QW, retain, SP, EX, L, bits .and .i64 origin 255, bits .and .i64 number 16777215, 0⟩, SW, keep, IDS, SH⟩ := by
                  unfold itemL
                  simp only [HT0.out, HTP.out, HSP.out, show List.take 300 payload = PY from HPY.out, HL.out, HQW.out, HSW.out, HE.out, HIDS.out, HSHX.out]
                have hr := HR.out xa xc la lc ad c
                rw [hX] at hr
                have hbZ := fun cs => below_setRow (HI12).out.low (Nat.le_add_right w.heap.size 1) cs
                refine hr _ ⟨HXP.out, ?_, ?_, below_then HWW.out (hbZ _) HWW.out.size⟩ (hbZ _)
                · obtain ⟨ds, ho⟩ := (HOP12).out
                  exact ⟨_, _, _, rfl, ho.typed (HRES12).out (by decide) (grown_setRow _ _ _) (Nat.le_trans HWW.out.size (Nat.le_add_right _ 1))⟩
                · exact owns_mono (owns_typed (HRW12).out (HRES12).out (by decide) (grown_setRow _ _ _)) (Nat.le_add_right _ 2)
              · have hsh' : ¬ 0 < share.length := by omega
                obtain ⟨SH, hSH⟩ : ∃ l : List UInt8, [] = l := ⟨_, rfl⟩
                have HSHX : Hid ((if 0 < share.length then shareB ++ plainL share else []) = SH) := by show _ = _; rw [if_neg hsh', hSH]
                have HIT12 : Hid (wo.heap[IB]? = some (Obj.cells #[.string (str TP), .slice xa PY.length xc, .int .i64 QW, .bool retain, .string (str SP), .int .i64 EX, .slice la L.length lc, .int .i64 (bits .and .i64 origin 255), .int .i64 (bits .and .i64 number 16777215), .int .i64 0, .int .i64 SW, .bool keep, .slice ad k c, .string (str SH)] 36)) := by show _ = _; rw [← hSH]; exact HIT.out
                have HRES12 := Lib.hid HI.out.res
                have HSHN := Lib.hid hSH
                clear hSH hsh'
                go_wp2_with (first
                  | (refine wpList_load_row (o := ⟨some 77, .load 36 (.tmp 4), _, _, _, _⟩) (by rfl) 36 (.tmp 4) (by rfl) (IB) (by rfl) 36 _ (0, 0) _ (HIT12).out (Tryz.underlying36) (by rfl) (by kernel_rfl) ?_)
                  | (refine wpList_store_row (o := ⟨none, .store 36 (.tmp 2) (.tmp 77), _, _, _, _⟩) (by rfl) 36 (.tmp 2) (.tmp 77) (by rfl) (w.heap.size + 1) _ (by rfl) (by rfl) 36 _ (HRES12).out (by kernel_rfl) (by rfl) (by simp [Value.oneCell']) ?_))
                refine bodyPost_ret (results_cell_row rfl _ _ (w.heap.size + 1) 36 _ (0, 0) _ rfl (setRow_heap _ (w.heap.size + 1) _ _ _ _ (HRES12).out) Tryz.underlying36 rfl (by kernel_rfl)) rfl ?_
                have hil := HIL.out
                subst hil
                have hX : itemL ⟨topic, src, share, payload, qos, sub, retain, keep, life, fm, co, cr, us, ids, origin, number⟩ = ⟨⟨TP, PY, QW, retain, SP, EX, L, bits .and .i64 origin 255, bits .and .i64 number 16777215, 0⟩, SW, keep, IDS, SH⟩ := by
                  unfold itemL
                  simp only [HT0.out, HTP.out, HSP.out, show List.take 300 payload = PY from HPY.out, HL.out, HQW.out, HSW.out, HE.out, HIDS.out, HSHX.out]
                have hr := HR.out xa xc la lc ad c
                rw [hX] at hr
                have hbZ := fun cs => below_setRow (HI).out.low (Nat.le_add_right w.heap.size 1) cs
                refine hr _ ⟨HXP.out, ?_, ?_, below_then HWW.out (hbZ _) HWW.out.size⟩ (hbZ _)
                · obtain ⟨ds, ho⟩ := (HOP).out
                  exact ⟨_, _, _, rfl, ho.typed (HRES12).out (by decide) (grown_setRow _ _ _) (Nat.le_trans HWW.out.size (Nat.le_add_right _ 1))⟩
                · exact owns_mono (owns_typed (HRW).out (HRES12).out (by decide) (grown_setRow _ _ _)) (Nat.le_add_right _ 2)
    · go_wp2_with fail
      obtain ⟨wy, rfl⟩ : ∃ x, x = wz := ⟨_, rfl⟩
      obtain ⟨EX, hEX⟩ : ∃ e : Int, e = 0 := ⟨_, rfl⟩
      have HNTx : wy.heap[NB]? = some (Obj.cells #[.string (str TP), .slice xa PY.length xc, .int .i64 QW, .bool retain, .string (str SP), .int .i64 EX, .slice la L.length lc, .int .i64 (bits .and .i64 origin 255), .int .i64 (bits .and .i64 number 16777215), .int .i64 0] 34) := by rw [hEX]; exact HNT.out
      replace HNT := Lib.hid HNTx
      have HEX := Lib.hid hEX
      clear c0 c1 c3 c4 c6 c9 c10 c11 c12 c14 c15 c8 HNTx hEX
      have HE : Hid ((if 0 < life then bits .and .i64 life 65535 else 0) = EX) := (by show _ = _; rw [if_neg (by omega), HEX.out])
      have qS : ∀ x : World, x.heap[w.heap.size]? = some (Obj.cells #[.slice ta topic.length tc, .slice fa src.length fc, .slice sa share.length sc, .slice pa payload.length pc, .int .i64 qos, .int .i64 sub, .bool retain, .bool keep, .int .i64 life, .int .i64 fm, .slice ca co.length cc, .slice ra cr.length rc, .slice ua us.length uc, .slice ia ids.length ic, .int .i64 origin, .int .i64 number] 27) → x.heap[NB]? = some (Obj.cells #[.string (str TP), .slice xa PY.length xc, .int .i64 QW, .bool retain, .string (str SP), .int .i64 EX, .slice la L.length lc, .int .i64 (bits .and .i64 origin 255), .int .i64 (bits .and .i64 number 16777215), .int .i64 0] 34) → x.cell? ⟨w.heap.size, 5, none⟩ = some (.int .i64 sub) ∧ x.cell? ⟨w.heap.size, 7, none⟩ = some (.bool keep) ∧ x.cell? ⟨NB, 0, none⟩ = some (.string (str TP)) ∧ x.cell? ⟨NB, 1, none⟩ = some (.slice xa PY.length xc) ∧ x.cell? ⟨NB, 2, none⟩ = some (.int .i64 QW) ∧ x.cell? ⟨NB, 3, none⟩ = some (.bool retain) ∧ x.cell? ⟨NB, 4, none⟩ = some (.string (str SP)) ∧ x.cell? ⟨NB, 5, none⟩ = some (.int .i64 EX) ∧ x.cell? ⟨NB, 6, none⟩ = some (.slice la L.length lc) ∧ x.cell? ⟨NB, 7, none⟩ = some (.int .i64 (bits .and .i64 origin 255)) ∧ x.cell? ⟨NB, 8, none⟩ = some (.int .i64 (bits .and .i64 number 16777215)) ∧ x.cell? ⟨NB, 9, none⟩ = some (.int .i64 0) := fun x h k => ⟨cell_of_row x _ 5 _ _ _ h, cell_of_row x _ 7 _ _ _ h, cell_of_row x _ 0 _ _ _ k, cell_of_row x _ 1 _ _ _ k, cell_of_row x _ 2 _ _ _ k, cell_of_row x _ 3 _ _ _ k, cell_of_row x _ 4 _ _ _ k, cell_of_row x _ 5 _ _ _ k, cell_of_row x _ 6 _ _ _ k, cell_of_row x _ 7 _ _ _ k, cell_of_row x _ 8 _ _ _ k, cell_of_row x _ 9 _ _ _ k⟩
      have s0 := qS wy.drew HI.out.box HNT.out
      have s1 := qS (wy.alloc (Obj.cells #[.string ⟨#[]⟩, .slice none 0 0, .int .i64 0, .bool false, .string ⟨#[]⟩, .int .i64 0, .slice none 0 0, .int .i64 0, .int .i64 0, .int .i64 0, .int .i64 0, .bool false, .slice none 0 0, .string ⟨#[]⟩] 36)).drew (HI.out.alloc (Obj.cells #[.string ⟨#[]⟩, .slice none 0 0, .int .i64 0, .bool false, .string ⟨#[]⟩, .int .i64 0, .slice none 0 0, .int .i64 0, .int .i64 0, .int .i64 0, .int .i64 0, .bool false, .slice none 0 0, .string ⟨#[]⟩] 36)).box (show (wy.alloc (Obj.cells #[.string ⟨#[]⟩, .slice none 0 0, .int .i64 0, .bool false, .string ⟨#[]⟩, .int .i64 0, .slice none 0 0, .int .i64 0, .int .i64 0, .int .i64 0, .int .i64 0, .bool false, .slice none 0 0, .string ⟨#[]⟩] 36)).heap[NB]? = some (Obj.cells #[.string (str TP), .slice xa PY.length xc, .int .i64 QW, .bool retain, .string (str SP), .int .i64 EX, .slice la L.length lc, .int .i64 (bits .and .i64 origin 255), .int .i64 (bits .and .i64 number 16777215), .int .i64 0] 34) from block_alloc HNT.out)
      have s2 := qS (wy.alloc (Obj.cells #[.string (str TP), .slice xa PY.length xc, .int .i64 QW, .bool retain, .string (str SP), .int .i64 EX, .slice la L.length lc, .int .i64 (bits .and .i64 origin 255), .int .i64 (bits .and .i64 number 16777215), .int .i64 0, .int .i64 SW, .bool keep, .slice none 0 0, .string ⟨#[]⟩] 36)).drew (HI.out.alloc _).box (show (wy.alloc (Obj.cells #[.string (str TP), .slice xa PY.length xc, .int .i64 QW, .bool retain, .string (str SP), .int .i64 EX, .slice la L.length lc, .int .i64 (bits .and .i64 origin 255), .int .i64 (bits .and .i64 number 16777215), .int .i64 0, .int .i64 SW, .bool keep, .slice none 0 0, .string ⟨#[]⟩] 36)).heap[NB]? = some (Obj.cells #[.string (str TP), .slice xa PY.length xc, .int .i64 QW, .bool retain, .string (str SP), .int .i64 EX, .slice la L.length lc, .int .i64 (bits .and .i64 origin 255), .int .i64 (bits .and .i64 number 16777215), .int .i64 0] 34) from block_alloc HNT.out)
      apply via2 (H := fun (IB : Nat) (w' : World) => Hid (IR w w.heap.size (Obj.cells #[.slice ta topic.length tc, .slice fa src.length fc, .slice sa share.length sc, .slice pa payload.length pc, .int .i64 qos, .int .i64 sub, .bool retain, .bool keep, .int .i64 life, .int .i64 fm, .slice ca co.length cc, .slice ra cr.length rc, .slice ua us.length uc, .slice ia ids.length ic, .int .i64 origin, .int .i64 number] 27) w') ∧ Hid (w'.heap[IB]? = some (Obj.cells #[.string (str TP), .slice xa PY.length xc, .int .i64 QW, .bool retain, .string (str SP), .int .i64 EX, .slice la L.length lc, .int .i64 (bits .and .i64 origin 255), .int .i64 (bits .and .i64 number 16777215), .int .i64 0, .int .i64 SW, .bool keep, .slice none 0 0, .string ⟨#[]⟩] 36)) ∧ Hid (w.heap.size + 2 ≤ IB) ∧ Hid (∃ ds, OP W w.heap.size w' la L.length lc ds L))
      · intro TAIL
        have HTL := Lib.hid TAIL
        clear TAIL
        go_region_held3 (fun x => x.cell? ⟨w.heap.size, 5, none⟩ = some (.int .i64 sub) ∧ x.cell? ⟨w.heap.size, 7, none⟩ = some (.bool keep) ∧ x.cell? ⟨NB, 0, none⟩ = some (.string (str TP)) ∧ x.cell? ⟨NB, 1, none⟩ = some (.slice xa PY.length xc) ∧ x.cell? ⟨NB, 2, none⟩ = some (.int .i64 QW) ∧ x.cell? ⟨NB, 3, none⟩ = some (.bool retain) ∧ x.cell? ⟨NB, 4, none⟩ = some (.string (str SP)) ∧ x.cell? ⟨NB, 5, none⟩ = some (.int .i64 EX) ∧ x.cell? ⟨NB, 6, none⟩ = some (.slice la L.length lc) ∧ x.cell? ⟨NB, 7, none⟩ = some (.int .i64 (bits .and .i64 origin 255)) ∧ x.cell? ⟨NB, 8, none⟩ = some (.int .i64 (bits .and .i64 number 16777215)) ∧ x.cell? ⟨NB, 9, none⟩ = some (.int .i64 0))
          (first | with_reducible exact s0 | with_reducible exact s1 | with_reducible exact s2 | go_keep)
          (first
            | (go_at_call 20; refine within_any sub 0 2 _ (by decide) (by decide) (by decide) _ ?_; rw [HSW.out]))
        all_goals
          have hf := And.intro ((HI.out.alloc (Obj.cells #[.string (str TP), .slice xa PY.length xc, .int .i64 QW, .bool retain, .string (str SP), .int .i64 EX, .slice la L.length lc, .int .i64 (bits .and .i64 origin 255), .int .i64 (bits .and .i64 number 16777215), .int .i64 0, .int .i64 SW, .bool keep, .slice none 0 0, .string ⟨#[]⟩] 36)).below (Below.refl _ _).drew) (And.intro (show (wy.alloc (Obj.cells #[.string (str TP), .slice xa PY.length xc, .int .i64 QW, .bool retain, .string (str SP), .int .i64 EX, .slice la L.length lc, .int .i64 (bits .and .i64 origin 255), .int .i64 (bits .and .i64 number 16777215), .int .i64 0, .int .i64 SW, .bool keep, .slice none 0 0, .string ⟨#[]⟩] 36)).drew.heap[wy.heap.size]? = some (Obj.cells #[.string (str TP), .slice xa PY.length xc, .int .i64 QW, .bool retain, .string (str SP), .int .i64 EX, .slice la L.length lc, .int .i64 (bits .and .i64 origin 255), .int .i64 (bits .and .i64 number 16777215), .int .i64 0, .int .i64 SW, .bool keep, .slice none 0 0, .string ⟨#[]⟩] 36) from heap_alloc_new wy _) (And.intro HI.out.sz (show ∃ ds, OP W w.heap.size (wy.alloc (Obj.cells #[.string (str TP), .slice xa PY.length xc, .int .i64 QW, .bool retain, .string (str SP), .int .i64 EX, .slice la L.length lc, .int .i64 (bits .and .i64 origin 255), .int .i64 (bits .and .i64 number 16777215), .int .i64 0, .int .i64 SW, .bool keep, .slice none 0 0, .string ⟨#[]⟩] 36)).drew la L.length lc ds L from by
            obtain ⟨ds, ho⟩ := HOPX.out
            exact ⟨ds, (ho.below ((Below.refl _ _).alloc (Nat.le_refl _) _)).below (Below.refl _ _).drew⟩)))
          generalize (wy.alloc (Obj.cells #[.string (str TP), .slice xa PY.length xc, .int .i64 QW, .bool retain, .string (str SP), .int .i64 EX, .slice la L.length lc, .int .i64 (bits .and .i64 origin 255), .int .i64 (bits .and .i64 number 16777215), .int .i64 0, .int .i64 SW, .bool keep, .slice none 0 0, .string ⟨#[]⟩] 36)).drew = wx at hf ⊢
          generalize wy.heap.size = IB at hf ⊢
          with_reducible exact HTL.out IB wx ⟨Lib.hid hf.1, Lib.hid hf.2.1, Lib.hid hf.2.2.1, Lib.hid hf.2.2.2⟩
      · intro IB w5 hh5
        obtain ⟨HI5, HIT5, HIB, HOP5⟩ := hh5
        clear s0 s1 s2 qS mdS HI HNT HOPX
        have c13 := cell_of_row w5 _ 13 _ _ _ HI5.out.box
        have HILEN : Hid ((idsL ids).length = min ids.length 4) := by
          show _ = _
          unfold idsL
          rw [List.length_map, List.length_take, Nat.min_comm]
        go_wp2_with fail
        go_loopg [5] (min ids.length 4) (fun gn i wr => ∃ (k c : Nat) (ad : Option Addr), k ≤ min ids.length 4 ∧ gn = min ids.length 4 - k ∧ i = .int .i64 k ∧ Hid (IR w w.heap.size (Obj.cells #[.slice ta topic.length tc, .slice fa src.length fc, .slice sa share.length sc, .slice pa payload.length pc, .int .i64 qos, .int .i64 sub, .bool retain, .bool keep, .int .i64 life, .int .i64 fm, .slice ca co.length cc, .slice ra cr.length rc, .slice ua us.length uc, .slice ia ids.length ic, .int .i64 origin, .int .i64 number] 27) wr) ∧ Hid (wr.heap[IB]? = some (Obj.cells #[.string (str TP), .slice xa PY.length xc, .int .i64 QW, .bool retain, .string (str SP), .int .i64 EX, .slice la L.length lc, .int .i64 (bits .and .i64 origin 255), .int .i64 (bits .and .i64 number 16777215), .int .i64 0, .int .i64 SW, .bool keep, .slice ad k c, .string ⟨#[]⟩] 36)) ∧ Hid (wr.ownsRow (w.heap.size + 2) 3 1 (.slice ad k c) k (iv ((idsL ids).take k))) ∧ Hid (∃ ds, OP W w.heap.size wr la L.length lc ds L))
        case atStart => exact ⟨0, 0, none, Nat.zero_le _, by omega, rfl, HI5, HIT5, World.ownsRow_nil _ _ _ _, HOP5⟩
        case round =>
          obtain ⟨k, c, ad, hk, rfl, rfl, HI, HIT, HROW, HOP⟩ := hrel
          obtain ⟨wo, rfl⟩ : ∃ x, x = wr := ⟨_, rfl⟩
          clear HI5 HIT5 HOP5 c13
          have c13 := cell_of_row wo _ 13 _ _ _ HI.out.box
          by_cases hlt : k < min ids.length 4
          · skip
            have hk1 : k < ids.length := by omega
            have hkk : (k : Int) < (ids.length : Int) := by omega
            have hk4 : (k : Int) < 4 := by omega
            obtain ⟨g, o, hia, hxc⟩ := (HM.out.i.below HI.out.low).at k hk1
            subst hia
            have hT : (idsL ids).take (k + 1) = (idsL ids).take k ++ [IntKind.i64.wrap (1 + bits .and .i64 ids[k] 16777215)] := by
              have hl : k < (idsL ids).length := by rw [HILEN.out]; exact hlt
              rw [List.take_succ_eq_append_getElem hl]
              congr 2
              simp [idsL]
            obtain ⟨x, hx⟩ : ∃ x, ids[k] = x := ⟨_, rfl⟩
            rw [hx] at hxc hT
            have HT := Lib.hid hT
            have hrowL := (HROW.out.alloc (Obj.cells #[.int .i64 (IntKind.i64.wrap (1 + bits .and .i64 x 16777215))] 3))
            have hitL := block_alloc (o' := (Obj.cells #[.int .i64 (IntKind.i64.wrap (1 + bits .and .i64 x 16777215))] 3)) HIT.out
            have hiL := HI.out.alloc (Obj.cells #[.int .i64 (IntKind.i64.wrap (1 + bits .and .i64 x 16777215))] 3)
            have hopL : ∃ ds, OP W w.heap.size (wo.alloc (Obj.cells #[.int .i64 (IntKind.i64.wrap (1 + bits .and .i64 x 16777215))] 3)) la L.length lc ds L := by
              obtain ⟨ds, ho⟩ := HOP.out
              exact ⟨ds, ho.below ((Below.refl _ _).alloc (Nat.le_refl _) _)⟩
            have hrdL := rd_lit wo #[.int .i64 (IntKind.i64.wrap (1 + bits .and .i64 x 16777215))] 3 1 1 rfl
            have hszL : w.heap.size + 2 ≤ (wo.alloc (Obj.cells #[.int .i64 (IntKind.i64.wrap (1 + bits .and .i64 x 16777215))] 3)).heap.size := hiL.sz
            have d12 : wo.drew.cell? ⟨IB, 12, none⟩ = some (.slice ad k c) := cell_of_row wo IB 12 _ _ _ HIT.out
            have d13 : wo.drew.cell? ⟨w.heap.size, 13, none⟩ = some (.slice (some ⟨g, o, none⟩) ids.length ic) := cell_of_row wo _ 13 _ _ _ HI.out.box
            have dx : wo.drew.cell? ⟨g, o + k, none⟩ = some (.int .i64 x) := hxc
            have e12 : (wo.alloc (Obj.cells #[.int .i64 (IntKind.i64.wrap (1 + bits .and .i64 x 16777215))] 3)).drew.cell? ⟨IB, 12, none⟩ = some (.slice ad k c) := cell_of_row _ IB 12 _ _ _ hitL
            clear hx hT hxc
            go_wp2_with fail
            go_region_law (first
              | (refine step_appAt (by rfl) (.tmp 57) (.tmp 65) 25 (by rfl) (w.heap.size + 2) 3 (.int .i64 0) 1 8 Tryz.underlying25 infoI rfl (by decide) ad k c _ (by rfl) (owns_below hrowL (Below.refl _ _).drew) _ 1 1 [.int .i64 (IntKind.i64.wrap (1 + bits .and .i64 x 16777215))] (by rfl) (hrdL.below (Below.refl _ _).drew) (one_oneCell _ _) (fun h => by cases h) (by unfold maxLen; omega) (by omega) hszL ?_; intro ad9 c9 w9 hown9 hg9 _; have hit9 := block_grown hg9 (show (wo.alloc (Obj.cells #[.int .i64 (IntKind.i64.wrap (1 + bits .and .i64 x 16777215))] 3)).drew.heap[IB]? = _ from hitL) (own_block_ne (show (wo.alloc (Obj.cells #[.int .i64 (IntKind.i64.wrap (1 + bits .and .i64 x 16777215))] 3)).drew.heap[IB]? = _ from hitL) (owns_below hrowL (Below.refl _ _).drew) (by decide)); have c129 := cell_of_row w9 IB 12 _ _ _ hit9; have f129 := frozen_block hit9 12))
            all_goals
              have hi9 := IR.app (hiL.below (Below.refl _ _).drew) (owns_below hrowL (Below.refl _ _).drew) hg9
              have hop9 : ∃ ds, OP W w.heap.size w9 la L.length lc ds L := by
                obtain ⟨ds, ho⟩ := hopL
                exact ⟨ds, (ho.below (Below.refl _ _).drew).app (owns_below hrowL (Below.refl _ _).drew) (by decide) hg9 (Nat.le_trans HWW.out.size (Nat.le_add_right _ 2))⟩
              have hgs := grownBy_setCell w9 ⟨IB, 12, none⟩ (.slice ad9 (k + 1) c9)
              have HI10 := Lib.hid (IR.grown (K := IB) hi9 hgs (Nat.le_trans (Nat.le_add_right _ 2) HIB.out) (by have := HIB.out; omega) (by have := HIB.out; omega))
              have HIT10 : Hid ((w9.setCell ⟨IB, 12, none⟩ (.slice ad9 (k + 1) c9)).heap[IB]? = some (Obj.cells #[.string (str TP), .slice xa PY.length xc, .int .i64 QW, .bool retain, .string (str SP), .int .i64 EX, .slice la L.length lc, .int .i64 (bits .and .i64 origin 255), .int .i64 (bits .and .i64 number 16777215), .int .i64 0, .int .i64 SW, .bool keep, .slice ad9 (k + 1) c9, .string ⟨#[]⟩] 36)) := heap_setCell_same w9 IB 12 _ _ _ hit9
              have HROW10 : Hid ((w9.setCell ⟨IB, 12, none⟩ (.slice ad9 (k + 1) c9)).ownsRow (w.heap.size + 2) 3 1 (.slice ad9 (k + 1) c9) (k + 1) (iv ((idsL ids).take (k + 1)))) := by
                have h1 := owns_typed hown9 hit9 (by decide) hgs
                rw [HT.out]
                unfold iv
                rw [List.map_append]
                exact h1
              have HOP10 : Hid (∃ ds, OP W w.heap.size (w9.setCell ⟨IB, 12, none⟩ (.slice ad9 (k + 1) c9)) la L.length lc ds L) := by
                obtain ⟨ds, ho⟩ := hop9
                exact ⟨ds, ho.typed hit9 (by decide) hgs (Nat.le_trans HWW.out.size (Nat.le_trans (Nat.le_add_right _ 2) HIB.out))⟩
              clear hi9 hop9 hgs hit9 c129 f129 hown9 hg9 hrowL hitL hiL hopL hrdL hszL d12 d13 dx e12 c13
              go_wp2_with fail
              go_roundg (min ids.length 4 - (k + 1))
              case measure => omega
              case rel => exact ⟨k + 1, c9, ad9, by omega, rfl, by go_num, HI10, HIT10, HROW10, HOP10⟩
          · have hkn : k = min ids.length 4 := by omega
            have hilen := HILEN.out
            obtain ⟨IDS, hIDS⟩ : ∃ l, idsL ids = l := ⟨_, rfl⟩
            rw [hIDS] at hilen
            have hrow := HROW.out
            rw [hIDS, List.take_of_length_le (by omega)] at hrow
            have HRW := Lib.hid hrow
            have HIL : Hid (IDS.length = k) := by show _ = _; omega
            have HIDS := Lib.hid hIDS
            clear hrow hIDS hilen HROW
            have c2 := cell_of_row wo _ 2 _ _ _ HI.out.box
            by_cases hk1 : k < ids.length
            · have hkk : (k : Int) < (ids.length : Int) := by omega
              have hk4 : ¬ (k : Int) < 4 := by omega
              clear hkn
              by_cases hsh : (0 : Int) < (share.length : Int)
              · obtain ⟨SPL, hSPL⟩ : ∃ l, plainL share = l := ⟨_, rfl⟩
                obtain ⟨SH, hSH⟩ : ∃ l, shareB ++ SPL = l := ⟨_, rfl⟩
                have HSPL := Lib.hid hSPL
                have HSHX : Hid ((if 0 < share.length then shareB ++ plainL share else []) = SH) := by show _ = _; rw [if_pos (by omega), hSPL, hSH]
                have hadd2 : ∀ x : World, (Op.stringOp .add ⟨#[36, 115, 104, 97, 114, 101, 47, 103, 47]⟩ (str SPL)).run Tryz.prog x = .ok (.string (str SH)) x := fun x => by
                  rw [run_string_add_sum x _ _ (by show 9 + SPL.length ≤ 9223372036854775807; rw [← hSPL]; have := plainL_len share; omega), ← hSH]
                  exact congrArg (fun z => Result.ok (Value.string z) x) (str_app shareB SPL)
                clear hSPL hSH
                go_wp2_with (first
                  | (go_at_call 38; go_must (refine plain_any _ share SPL HSPL.out _ (HM.out.s.below HI.out.low) _ ?_; intro w11 hb11; have HI11 := HI.out.below hb11; have HIT11 := row_later HIT.out hb11; have HRW11 := owns_below HRW.out hb11; have HOP11 : ∃ ds, OP W w.heap.size w11 la L.length lc ds L := HOP.out.imp fun ds h => h.below hb11; have cs13 : w11.cell? ⟨IB, 13, none⟩ = some (.string ⟨#[]⟩) := cell_of_row w11 IB 13 _ _ _ HIT11; have fs13 := frozen_block HIT11 13; have hgs := grownBy_setCell w11 ⟨IB, 13, none⟩ (.string (str SH)); have HI12 := Lib.hid (IR.grown (K := IB) HI11 hgs (Nat.le_trans (Nat.le_add_right _ 2) HIB.out) (by have := HIB.out; omega) (by have := HIB.out; omega)); have HRES12 := Lib.hid HI12.out.res; have HIT12 : Hid ((w11.setCell ⟨IB, 13, none⟩ (.string (str SH))).heap[IB]? = some (Obj.cells #[.string (str TP), .slice xa PY.length xc, .int .i64 QW, .bool retain, .string (str SP), .int .i64 EX, .slice la L.length lc, .int .i64 (bits .and .i64 origin 255), .int .i64 (bits .and .i64 number 16777215), .int .i64 0, .int .i64 SW, .bool keep, .slice ad k c, .string (str SH)] 36)) := heap_setCell_same w11 IB 13 _ _ _ HIT11; have HRW12 := Lib.hid (owns_typed HRW11 HIT11 (by decide) hgs); have HOP12 : Hid (∃ ds, OP W w.heap.size (w11.setCell ⟨IB, 13, none⟩ (.string (str SH))) la L.length lc ds L) := HOP11.imp fun ds h => h.typed HIT11 (by decide) hgs (Nat.le_trans HWW.out.size (Nat.le_trans (Nat.le_add_right _ 2) HIB.out)); clear HI11 HIT11 HRW11 HOP11 hgs hb11))
                  | (refine wpList_load_row (o := ⟨some 77, .load 36 (.tmp 4), _, _, _, _⟩) (by rfl) 36 (.tmp 4) (by rfl) (IB) (by rfl) 36 _ (0, 0) _ (HIT12).out (Tryz.underlying36) (by rfl) (by kernel_rfl) ?_)
                  | (refine wpList_store_row (o := ⟨none, .store 36 (.tmp 2) (.tmp 77), _, _, _, _⟩) (by rfl) 36 (.tmp 2) (.tmp 77) (by rfl) (w.heap.size + 1) _ (by rfl) (by rfl) 36 _ (HRES12).out (by kernel_rfl) (by rfl) (by simp [Value.oneCell']) ?_))
                refine bodyPost_ret (results_cell_row rfl _ _ (w.heap.size + 1) 36 _ (0, 0) _ rfl (setRow_heap _ (w.heap.size + 1) _ _ _ _ (HRES12).out) Tryz.underlying36 rfl (by kernel_rfl)) rfl ?_
                have hil := HIL.out
                subst hil
                have hX : itemL ⟨topic, src, share, payload, qos, sub, retain, keep, life, fm, co, cr, us, ids, origin, number⟩ = ⟨⟨TP, PY, QW, retain, SP, EX, L, bits .and .i64 origin 255, bits .and .i64 number 16777215, 0⟩, SW, keep, IDS, SH⟩ := by
                  unfold itemL
                  simp only [HT0.out, HTP.out, HSP.out, show List.take 300 payload = PY from HPY.out, HL.out, HQW.out, HSW.out, HE.out, HIDS.out, HSHX.out]
                have hr := HR.out xa xc la lc ad c
                rw [hX] at hr
                have hbZ := fun cs => below_setRow (HI12).out.low (Nat.le_add_right w.heap.size 1) cs
                refine hr _ ⟨HXP.out, ?_, ?_, below_then HWW.out (hbZ _) HWW.out.size⟩ (hbZ _)
                · obtain ⟨ds, ho⟩ := (HOP12).out
                  exact ⟨_, _, _, rfl, ho.typed (HRES12).out (by decide) (grown_setRow _ _ _) (Nat.le_trans HWW.out.size (Nat.le_add_right _ 1))⟩
                · exact owns_mono (owns_typed (HRW12).out (HRES12).out (by decide) (grown_setRow _ _ _)) (Nat.le_add_right _ 2)
              · have hsh' : ¬ 0 < share.length := by omega
                obtain ⟨SH, hSH⟩ : ∃ l : List UInt8, [] = l := ⟨_, rfl⟩
                have HSHX : Hid ((if 0 < share.length then shareB ++ plainL share else []) = SH) := by show _ = _; rw [if_neg hsh', hSH]
                have HIT12 : Hid (wo.heap[IB]? = some (Obj.cells #[.string (str TP), .slice xa PY.length xc, .int .i64 QW, .bool retain, .string (str SP), .int .i64 EX, .slice la L.length lc, .int .i64 (bits .and .i64 origin 255), .int .i64 (bits .and .i64 number 16777215), .int .i64 0, .int .i64 SW, .bool keep, .slice ad k c, .string (str SH)] 36)) := by show _ = _; rw [← hSH]; exact HIT.out
                have HRES12 := Lib.hid HI.out.res
                have HSHN := Lib.hid hSH
                clear hSH hsh'
                go_wp2_with (first
                  | (refine wpList_load_row (o := ⟨some 77, .load 36 (.tmp 4), _, _, _, _⟩) (by rfl) 36 (.tmp 4) (by rfl) (IB) (by rfl) 36 _ (0, 0) _ (HIT12).out (Tryz.underlying36) (by rfl) (by kernel_rfl) ?_)
                  | (refine wpList_store_row (o := ⟨none, .store 36 (.tmp 2) (.tmp 77), _, _, _, _⟩) (by rfl) 36 (.tmp 2) (.tmp 77) (by rfl) (w.heap.size + 1) _ (by rfl) (by rfl) 36 _ (HRES12).out (by kernel_rfl) (by rfl) (by simp [Value.oneCell']) ?_))
                refine bodyPost_ret (results_cell_row rfl _ _ (w.heap.size + 1) 36 _ (0, 0) _ rfl (setRow_heap _ (w.heap.size + 1) _ _ _ _ (HRES12).out) Tryz.underlying36 rfl (by kernel_rfl)) rfl ?_
                have hil := HIL.out
                subst hil
                have hX : itemL ⟨topic, src, share, payload, qos, sub, retain, keep, life, fm, co, cr, us, ids, origin, number⟩ = ⟨⟨TP, PY, QW, retain, SP, EX, L, bits .and .i64 origin 255, bits .and .i64 number 16777215, 0⟩, SW, keep, IDS, SH⟩ := by
                  unfold itemL
                  simp only [HT0.out, HTP.out, HSP.out, show List.take 300 payload = PY from HPY.out, HL.out, HQW.out, HSW.out, HE.out, HIDS.out, HSHX.out]
                have hr := HR.out xa xc la lc ad c
                rw [hX] at hr
                have hbZ := fun cs => below_setRow (HI).out.low (Nat.le_add_right w.heap.size 1) cs
                refine hr _ ⟨HXP.out, ?_, ?_, below_then HWW.out (hbZ _) HWW.out.size⟩ (hbZ _)
                · obtain ⟨ds, ho⟩ := (HOP).out
                  exact ⟨_, _, _, rfl, ho.typed (HRES12).out (by decide) (grown_setRow _ _ _) (Nat.le_trans HWW.out.size (Nat.le_add_right _ 1))⟩
                · exact owns_mono (owns_typed (HRW).out (HRES12).out (by decide) (grown_setRow _ _ _)) (Nat.le_add_right _ 2)
            · have hkk : ¬ (k : Int) < (ids.length : Int) := by omega
              clear hkn
              by_cases hsh : (0 : Int) < (share.length : Int)
              · obtain ⟨SPL, hSPL⟩ : ∃ l, plainL share = l := ⟨_, rfl⟩
                obtain ⟨SH, hSH⟩ : ∃ l, shareB ++ SPL = l := ⟨_, rfl⟩
                have HSPL := Lib.hid hSPL
                have HSHX : Hid ((if 0 < share.length then shareB ++ plainL share else []) = SH) := by show _ = _; rw [if_pos (by omega), hSPL, hSH]
                have hadd2 : ∀ x : World, (Op.stringOp .add ⟨#[36, 115, 104, 97, 114, 101, 47, 103, 47]⟩ (str SPL)).run Tryz.prog x = .ok (.string (str SH)) x := fun x => by
                  rw [run_string_add_sum x _ _ (by show 9 + SPL.length ≤ 9223372036854775807; rw [← hSPL]; have := plainL_len share; omega), ← hSH]
                  exact congrArg (fun z => Result.ok (Value.string z) x) (str_app shareB SPL)
                clear hSPL hSH
                go_wp2_with (first
                  | (go_at_call 38; go_must (refine plain_any _ share SPL HSPL.out _ (HM.out.s.below HI.out.low) _ ?_; intro w11 hb11; have HI11 := HI.out.below hb11; have HIT11 := row_later HIT.out hb11; have HRW11 := owns_below HRW.out hb11; have HOP11 : ∃ ds, OP W w.heap.size w11 la L.length lc ds L := HOP.out.imp fun ds h => h.below hb11; have cs13 : w11.cell? ⟨IB, 13, none⟩ = some (.string ⟨#[]⟩) := cell_of_row w11 IB 13 _ _ _ HIT11; have fs13 := frozen_block HIT11 13; have hgs := grownBy_setCell w11 ⟨IB, 13, none⟩ (.string (str SH)); have HI12 := Lib.hid (IR.grown (K := IB) HI11 hgs (Nat.le_trans (Nat.le_add_right _ 2) HIB.out) (by have := HIB.out; omega) (by have := HIB.out; omega)); have HRES12 := Lib.hid HI12.out.res; have HIT12 : Hid ((w11.setCell ⟨IB, 13, none⟩ (.string (str SH))).heap[IB]? = some (Obj.cells #[.string (str TP), .slice xa PY.length xc, .int .i64 QW, .bool retain, .string (str SP), .int .i64 EX, .slice la L.length lc, .int .i64 (bits .and .i64 origin 255), .int .i64 (bits .and .i64 number 16777215), .int .i64 0, .int .i64 SW, .bool keep, .slice ad k c, .string (str SH)] 36)) := heap_setCell_same w11 IB 13 _ _ _ HIT11; have HRW12 := Lib.hid (owns_typed HRW11 HIT11 (by decide) hgs); have HOP12 : Hid (∃ ds, OP W w.heap.size (w11.setCell ⟨IB, 13, none⟩ (.string (str SH))) la L.length lc ds L) := HOP11.imp fun ds h => h.typed HIT11 (by decide) hgs (Nat.le_trans HWW.out.size (Nat.le_trans (Nat.le_add_right _ 2) HIB.out)); clear HI11 HIT11 HRW11 HOP11 hgs hb11))
                  | (refine wpList_load_row (o := ⟨some 77, .load 36 (.tmp 4), _, _, _, _⟩) (by rfl) 36 (.tmp 4) (by rfl) (IB) (by rfl) 36 _ (0, 0) _ (HIT12).out (Tryz.underlying36) (by rfl) (by kernel_rfl) ?_)
                  | (refine wpList_store_row (o := ⟨none, .store 36 (.tmp 2) (.tmp 77), _, _, _, _⟩) (by rfl) 36 (.tmp 2) (.tmp 77) (by rfl) (w.heap.size + 1) _ (by rfl) (by rfl) 36 _ (HRES12).out (by kernel_rfl) (by rfl) (by simp [Value.oneCell']) ?_))
                refine bodyPost_ret (results_cell_row rfl _ _ (w.heap.size + 1) 36 _ (0, 0) _ rfl (setRow_heap _ (w.heap.size + 1) _ _ _ _ (HRES12).out) Tryz.underlying36 rfl (by kernel_rfl)) rfl ?_
                have hil := HIL.out
                subst hil
                have hX : itemL ⟨topic, src, share, payload, qos, sub, retain, keep, life, fm, co, cr, us, ids, origin, number⟩ = ⟨⟨TP, PY, QW, retain, SP, EX, L, bits .and .i64 origin 255, bits .and .i64 number 16777215, 0⟩, SW, keep, IDS, SH⟩ := by
                  unfold itemL
                  simp only [HT0.out, HTP.out, HSP.out, show List.take 300 payload = PY from HPY.out, HL.out, HQW.out, HSW.out, HE.out, HIDS.out, HSHX.out]
                have hr := HR.out xa xc la lc ad c
                rw [hX] at hr
                have hbZ := fun cs => below_setRow (HI12).out.low (Nat.le_add_right w.heap.size 1) cs
                refine hr _ ⟨HXP.out, ?_, ?_, below_then HWW.out (hbZ _) HWW.out.size⟩ (hbZ _)
                · obtain ⟨ds, ho⟩ := (HOP12).out
                  exact ⟨_, _, _, rfl, ho.typed (HRES12).out (by decide) (grown_setRow _ _ _) (Nat.le_trans HWW.out.size (Nat.le_add_right _ 1))⟩
                · exact owns_mono (owns_typed (HRW12).out (HRES12).out (by decide) (grown_setRow _ _ _)) (Nat.le_add_right _ 2)
              · have hsh' : ¬ 0 < share.length := by omega
                obtain ⟨SH, hSH⟩ : ∃ l : List UInt8, [] = l := ⟨_, rfl⟩
                have HSHX : Hid ((if 0 < share.length then shareB ++ plainL share else []) = SH) := by show _ = _; rw [if_neg hsh', hSH]
                have HIT12 : Hid (wo.heap[IB]? = some (Obj.cells #[.string (str TP), .slice xa PY.length xc, .int .i64 QW, .bool retain, .string (str SP), .int .i64 EX, .slice la L.length lc, .int .i64 (bits .and .i64 origin 255), .int .i64 (bits .and .i64 number 16777215), .int .i64 0, .int .i64 SW, .bool keep, .slice ad k c, .string (str SH)] 36)) := by show _ = _; rw [← hSH]; exact HIT.out
                have HRES12 := Lib.hid HI.out.res
                have HSHN := Lib.hid hSH
                clear hSH hsh'
                go_wp2_with (first
                  | (refine wpList_load_row (o := ⟨some 77, .load 36 (.tmp 4), _, _, _, _⟩) (by rfl) 36 (.tmp 4) (by rfl) (IB) (by rfl) 36 _ (0, 0) _ (HIT12).out (Tryz.underlying36) (by rfl) (by kernel_rfl) ?_)
                  | (refine wpList_store_row (o := ⟨none, .store 36 (.tmp 2) (.tmp 77), _, _, _, _⟩) (by rfl) 36 (.tmp 2) (.tmp 77) (by rfl) (w.heap.size + 1) _ (by rfl) (by rfl) 36 _ (HRES12).out (by kernel_rfl) (by rfl) (by simp [Value.oneCell']) ?_))
                refine bodyPost_ret (results_cell_row rfl _ _ (w.heap.size + 1) 36 _ (0, 0) _ rfl (setRow_heap _ (w.heap.size + 1) _ _ _ _ (HRES12).out) Tryz.underlying36 rfl (by kernel_rfl)) rfl ?_
                have hil := HIL.out
                subst hil
                have hX : itemL ⟨topic, src, share, payload, qos, sub, retain, keep, life, fm, co, cr, us, ids, origin, number⟩ = ⟨⟨TP, PY, QW, retain, SP, EX, L, bits .and .i64 origin 255, bits .and .i64 number 16777215, 0⟩, SW, keep, IDS, SH⟩ := by
                  unfold itemL
                  simp only [HT0.out, HTP.out, HSP.out, show List.take 300 payload = PY from HPY.out, HL.out, HQW.out, HSW.out, HE.out, HIDS.out, HSHX.out]
                have hr := HR.out xa xc la lc ad c
                rw [hX] at hr
                have hbZ := fun cs => below_setRow (HI).out.low (Nat.le_add_right w.heap.size 1) cs
                refine hr _ ⟨HXP.out, ?_, ?_, below_then HWW.out (hbZ _) HWW.out.size⟩ (hbZ _)
                · obtain ⟨ds, ho⟩ := (HOP).out
                  exact ⟨_, _, _, rfl, ho.typed (HRES12).out (by decide) (grown_setRow _ _ _) (Nat.le_trans HWW.out.size (Nat.le_add_right _ 1))⟩
                · exact owns_mono (owns_typed (HRW).out (HRES12).out (by decide) (grown_setRow _ _ _)) (Nat.le_add_right _ 2)
end Go.Proofs.YtgimbocoamnkjaaGreatDoor
