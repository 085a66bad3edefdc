/- tidingsref09.Thin. -/
import Derived.Test.YtgkgahjdjkmmnaaStays
namespace Go.Proofs.Ytgkgahjdjkmmnaa
open Go.RowKit

/-- A row of the call's own, from block B on; its entries' bytes read in the world w0. -/
def EsR (w0 w : World) (B : Nat) (v : Value) (l : List Ent) : Prop :=
  ∃ kv : List (Value × Value), ∃ _ : kv.length = l.length, w.ownsRow B 27 4 v l.length (ecs kv l) ∧ ∀ (i : Nat) (h : i < l.length), EC w0 (kv[i]'(by omega)).1 (kv[i]'(by omega)).2 l[i]
theorem EsR.nil (w0 w : World) (B : Nat) : EsR w0 w B (.slice none 0 0) [] := ⟨[], rfl, World.ownsRow_nil _ _ _ _, fun i hi => by simp at hi⟩
theorem EsR.shape {w0 w : World} {B : Nat} {v : Value} {l : List Ent} (h : EsR w0 w B v l) : ∃ ad c, v = .slice ad l.length c := by
  obtain ⟨kv, h1, h2, h3⟩ := h
  exact owns_shape h2
theorem EsR.below {w0 w w' : World} {B : Nat} {v : Value} {l : List Ent} (h : EsR w0 w B v l) (hb : Below w.heap.size w w') : EsR w0 w' B v l := by
  obtain ⟨kv, h1, h2, h3⟩ := h
  exact ⟨kv, h1, owns_below h2 hb, h3⟩
theorem EsR.es {w0 w : World} {B : Nat} {v : Value} {l : List Ent} (h : EsR w0 w B v l) (hb : Below w0.heap.size w0 w) : Es w v l := by
  obtain ⟨kv, h1, h2, h3⟩ := h
  obtain ⟨ad, c, rfl⟩ := owns_shape h2
  have hc := owns_cap h2
  unfold maxLen at hc
  refine ⟨ad, c, rfl, hc.1, by omega, owns_nil h2, fun h0 => ?_⟩
  obtain ⟨g, rfl⟩ := owns_head h2 h0
  refine ⟨g, 0, rfl, fun i hi => ?_⟩
  have hat : ∀ j, j < 4 → w.cell? ⟨g, 0 + i * 4 + j, none⟩ = (ec (kv[i]'(by omega), l[i]))[j]? := fun j hj => by
    rw [Nat.zero_add, ← ecs_at kv l h1 i hi j hj]
    exact h2.cellAt _ (by have : i * 4 + j < l.length * 4 := by omega
                          omega)
  exact ⟨_, _, ⟨hat 0 (by omega), hat 1 (by omega), hat 2 (by omega), hat 3 (by omega)⟩, (h3 i hi).below hb⟩
theorem each_zipR {w : World} {kv : List (Value × Value)} {l : List Ent} (h : kv.length = l.length) : (∀ (i : Nat) (h : i < l.length), EC w (kv[i]'(by omega)).1 (kv[i]'(by omega)).2 l[i]) ↔ ∀ p ∈ kv.zip l, EC w p.1.1 p.1.2 p.2 := by
  constructor
  · intro he p hp
    obtain ⟨i, hi, rfl⟩ := List.getElem_of_mem hp
    rw [List.length_zip] at hi
    rw [List.getElem_zip]
    exact he i (by omega)
  · intro he i hi
    have hz : i < (kv.zip l).length := by rw [List.length_zip]; omega
    have := he (kv.zip l)[i] (List.getElem_mem hz)
    rw [List.getElem_zip] at this
    exact this
theorem EsR.join {w0 w : World} {B : Nat} {v : Value} {l m : List Ent} {kv ku : List (Value × Value)} (hl : kv.length = l.length) (hm : ku.length = m.length) (h1 : ∀ (i : Nat) (h : i < l.length), EC w0 (kv[i]'(by omega)).1 (kv[i]'(by omega)).2 l[i]) (h2 : ∀ (i : Nat) (h : i < m.length), EC w0 (ku[i]'(by omega)).1 (ku[i]'(by omega)).2 m[i])
    (ho : w.ownsRow B 27 4 v (l.length + m.length) (ecs kv l ++ ecs ku m)) : EsR w0 w B v (l ++ m) := by
  have hk : (kv ++ ku).length = (l ++ m).length := by simp [hl, hm]
  refine ⟨kv ++ ku, hk, by rw [ecs_append hl, List.length_append]; exact ho, (each_zipR hk).2 fun p hp => ?_⟩
  rw [List.zip_append hl] at hp
  rcases List.mem_append.1 hp with hp | hp
  · exact (each_zipR hl).1 h1 p hp
  · exact (each_zipR hm).1 h2 p hp
theorem EsR.push {w0 w : World} {B : Nat} {v k u : Value} {l : List Ent} {e : Ent} {kv : List (Value × Value)} (hl : kv.length = l.length) (h1 : ∀ (i : Nat) (h : i < l.length), EC w0 (kv[i]'(by omega)).1 (kv[i]'(by omega)).2 l[i]) (he : EC w0 k u e)
    (ho : w.ownsRow B 27 4 v (l.length + 1) (ecs kv l ++ [k, u, .int .i64 e.seq, .bool e.dead])) : EsR w0 w B v (l ++ [e]) :=
  EsR.join (ku := [(k, u)]) (m := [e]) hl rfl h1 (fun i hi => by
    have hi0 : i = 0 := by simpa using hi
    subst hi0
    exact he) ho
theorem EsR.take {w0 w : World} {B m j c : Nat} {a : Option Addr} {l : List Ent} (h : EsR w0 w B (.slice a m c) l) (hj : j ≤ l.length) : EsR w0 w B (.slice a j c) (l.take j) := by
  obtain ⟨kv, h1, h2, h3⟩ := h
  have hl : (l.take j).length = j := by rw [List.length_take]; omega
  have hk : (kv.take j).length = (l.take j).length := by simp [h1]
  refine ⟨kv.take j, hk, ?_, fun i hi => ?_⟩
  · rw [hl, ← ecs_take h1 j hj]
    have hlc := ecs_length kv l h1
    refine ⟨by rw [List.length_take, hlc]; omega, ?_⟩
    rcases h2.2 with ⟨hv, h0⟩ | ⟨g, cap, cur, hv, hb, hg, q1, q2, q3, q4⟩
    · left
      simp only [Value.slice.injEq] at hv
      obtain ⟨rfl, rfl, rfl⟩ := hv
      obtain rfl : j = 0 := by omega
      exact ⟨rfl, rfl⟩
    · right
      simp only [Value.slice.injEq] at hv
      obtain ⟨rfl, -, rfl⟩ := hv
      refine ⟨g, c, cur, rfl, hb, hg, by omega, q2, q3, ?_⟩
      have : (cur.toList.take (l.length * 4)).take (j * 4) = cur.toList.take (j * 4) := by rw [List.take_take, Nat.min_eq_left (by omega)]
      rw [← this, q4]
  · have hi2 : i < l.length := by rw [hl] at hi; omega
    have := h3 i hi2
    simpa [List.getElem_take] using this
theorem ecs_oneCellR {w : World} {kv : List (Value × Value)} {l : List Ent} (h : kv.length = l.length) (he : ∀ (i : Nat) (h : i < l.length), EC w (kv[i]'(by omega)).1 (kv[i]'(by omega)).2 l[i]) : ∀ u ∈ ecs kv l, u.oneCell' = true := by
  intro u hu
  obtain ⟨p, hp, hu⟩ := List.mem_flatMap.1 hu
  have h1 := (each_zipR h).1 he p hp
  obtain ⟨a, c, h2, _⟩ := h1.hk
  obtain ⟨a', c', h3, _⟩ := h1.hv
  simp only [ec, List.mem_cons, List.not_mem_nil, or_false] at hu
  rcases hu with rfl | rfl | rfl | rfl
  · rw [h2]; rfl
  · rw [h3]; rfl
  · rfl
  · rfl

theorem es_mid {w : World} {La : Option Addr} {n c lo hi : Nat} {l : List Ent} (h : Es w (.slice La n c) l) (h1 : lo ≤ hi) (h2 : hi ≤ l.length) :
    ∃ Lx, (∀ w', (Instr.slice 24 (.slice La n c) (some (.int .i64 (lo : Int))) (some (.int .i64 (hi : Int))) none).run Try.prog w' = .ok (.slice Lx (hi - lo) (c - lo)) w') ∧ Es w (.slice Lx (hi - lo) (c - lo)) ((l.take hi).drop lo) := by
  obtain ⟨ad, c', e, q1, q2, q3, q4⟩ := h
  simp only [Value.slice.injEq] at e
  obtain ⟨rfl, rfl, rfl⟩ := e
  have he : Try.prog.elem 24 = 27 := by simp [Program.elem, Try.underlying24]
  obtain ⟨i, hi0, hz, hi1, hi2⟩ := info_parts Try.info27
  have hlen : ((l.take hi).drop lo).length = hi - lo := by rw [List.length_drop, List.length_take]; omega
  refine ⟨if c = lo then La else La.map (·.add (lo * 4)), fun w => ?_, _, _, by rw [hlen], by omega, by omega, fun hx => ?_, fun h0 => ?_⟩
  · rw [run_slice_lh (P := Try.prog) w _ La l.length c (by rw [he]; exact Try.underlying24) .i64 .i64 lo hi (by omega) (by omega) (by omega), he]
    simp [sizeOf, typeInfo, hi0, hi1, sliced]
  · by_cases hcj : c = lo
    · omega
    · rw [if_neg hcj] at hx
      have := q3 (by simpa using hx)
      omega
  · rw [hlen] at h0
    obtain ⟨b, o, rfl, h5⟩ := q4 (by omega)
    rw [if_neg (by omega)]
    refine ⟨b, o + lo * 4, by rw [Option.map_some, Addr.add_lit], fun q hq => ?_⟩
    rw [hlen] at hq
    obtain ⟨k, v, h6, h7⟩ := h5 (lo + q) (by omega)
    have e1 : o + lo * 4 + q * 4 = o + (lo + q) * 4 := by omega
    rw [e1, List.getElem_drop, List.getElem_take]
    exact ⟨k, v, h6, h7⟩

theorem stays_any' (v u : Value) (g : List Ent) (k : Nat) (ki : Int) (hki : ki = (k : Int)) (ss : List Int) (r : Bool) (hr : staysL g k ss = r) (hk : k < g.length) (hg : g.length ≤ 1000000) (w : World) (hv : Es w v g) (hu : Is w u ss) (R : Ending → World → Prop)
    (hR : ∀ w', Below w.heap.size w w' → R (.returned (.bool r)) w') :
    Calls Try.prog 40 #[v, .int .i64 ki, u] w R := by
  subst hki
  exact stays_any v u g k ss r hr hk hg w hv hu R hR

set_option maxRecDepth 100000 in
set_option maxHeartbeats 8000000 in
theorem rthin_any (v u : Value) (l : List Ent) (bt : Bool) (ss : List Int) (out : List Ent) (z : Int) (hout : thinL l bt ss = (out, z)) (w : World) (hv : Es w v l) (hu : Is w u ss) (hn : l.length ≤ 100000) (R : Ending → World → Prop)
    (hR : ∀ L' w', Es w' L' out → Below w.heap.size w w' → R (.returned (.tuple #[L', .int .i64 z])) w') :
    Calls Try.prog 18 #[v, .bool bt, u] w R := by
  have HR := Lib.hid hR
  have HO := Lib.hid hout
  have HV := Lib.hid hv
  have HU := Lib.hid hu
  have hv' := hv
  obtain ⟨va, vc, rfl, _⟩ := hv'
  obtain ⟨ua, uc, rfl, _⟩ := hu
  clear hR hout
  obtain ⟨t, ht⟩ : ∃ t, sortedL l = t := ⟨_, rfl⟩
  have HT := Lib.hid ht
  clear ht
  go_enter Try.func18, Try.ntmps18
  go_wp2_with (go_at_call 35; go_must (refine rsorted_any _ l t HT.out _ hv _ ?_))
  intro w1 hb1
  clear hv
  cases t with
  | false =>
    have ho : ([], 90) = (out, z) := by rw [← HO.out, thinL, HT.out]; rfl
    simp only [Prod.mk.injEq] at ho
    obtain ⟨rfl, rfl⟩ := ho
    clear HT
    go_wp2
    exact HR.out _ _ ((EsR.nil w w1 0).es hb1) hb1
  | true =>
    have ho : (thinF bt ss l.length l [], 0) = (out, z) := by rw [← HO.out, thinL, if_pos HT.out]
    simp only [Prod.mk.injEq] at ho
    obtain ⟨ho, rfl⟩ := ho
    have HF := Lib.hid ho
    have HSRT := Lib.hid ((sortedL_srt l).1 HT.out)
    clear HT ho
    go_wp2
    go_loopg [8, 9] l.length (fun n outv i wr => ∃ (ia : Nat) (o : List Ent), ia ≤ l.length ∧ i = .int .i64 ia ∧ l.length - ia ≤ n ∧ Hid (thinF bt ss n (l.drop ia) o = out) ∧ Hid (EsR w wr w.heap.size outv o) ∧ Below w.heap.size w wr ∧ o.length ≤ ia)
    case atStart => exact ⟨0, [], Nat.zero_le _, rfl, by omega, by rw [List.drop_zero]; exact HF, EsR.nil _ _ _, hb1, by simp⟩
    case round =>
      obtain ⟨ia, o, hia, rfl, hlg, HM, HOUT, hbw, hol⟩ := hrel
      obtain ⟨wo, rfl⟩ : ∃ x, x = wr := ⟨_, rfl⟩
      obtain ⟨oa, oc, rfl⟩ := EsR.shape HOUT.out
      by_cases hlt : ia < l.length
      · have hii : (ia : Int) < (l.length : Int) := by omega
        have hi0 : (0 : Int) ≤ (ia : Int) := by omega
        obtain ⟨m, rfl⟩ : ∃ m, gk = m + 1 := ⟨gk - 1, by omega⟩
        have hdn : l.drop ia ≠ [] := by
          intro h
          have := congrArg List.length h
          rw [List.length_drop] at this
          simp at this
          omega
        have hstep : thinF bt ss m ((l.drop ia).drop (keyRun (l.drop ia))) (o ++ keptG ((l.drop ia).take (keyRun (l.drop ia))) bt ss) = out := by
          have := HM.out
          rw [thinF, if_neg hdn] at this
          exact this
        have HST := Lib.hid hstep
        clear hstep HM hdn
        go_wp2
        go_loopg [10] (l.length - ia) (fun gn i wx => ∃ k : Nat, ia ≤ k ∧ k ≤ l.length ∧ gn = l.length - k ∧ i = .int .i64 k ∧ Below wo.heap.size wo wx ∧ Hid (∀ j (h : j < l.length), ia ≤ j → j < k → l[j].key = (l[ia]'(by omega)).key))
        case atStart => exact ⟨ia, Nat.le_refl _, hia, rfl, rfl, Below.refl _ _, fun j h h1 h2 => by omega⟩
        case round =>
          obtain ⟨k, hk1, hk, rfl, rfl, hbx, HK⟩ := hrel
          have hbxw : Below w.heap.size w wr := below_then hbw hbx hbw.size
          obtain ⟨xa', xc', ee, _, _, _, x4⟩ := HV.out.below hbxw
          simp only [Value.slice.injEq] at ee
          obtain ⟨rfl, -, rfl⟩ := ee
          obtain ⟨xb, xo, rfl, x5⟩ := x4 (by omega)
          by_cases hklt : k < l.length
          · obtain ⟨k0, v0, p0, he0⟩ := x5 ia hlt
            obtain ⟨a, ha⟩ : ∃ a, l[ia] = a := ⟨_, rfl⟩
            rw [ha] at p0 he0
            have c0 : wr.cell? ⟨xb, xo + ia * 4, none⟩ = some k0 := p0.1
            have hkk : (k : Int) < (l.length : Int) := by omega
            have hk0 : (0 : Int) ≤ (k : Int) := by omega
            obtain ⟨kk, kv, pk, hek⟩ := x5 k hklt
            obtain ⟨y, hy⟩ : ∃ y, l[k] = y := ⟨_, rfl⟩
            rw [hy] at pk hek
            have ck : wr.cell? ⟨xb, xo + k * 4, none⟩ = some kk := pk.1
            obtain ⟨r, hr⟩ : ∃ r, (y.key == a.key) = r := ⟨_, rfl⟩
            have HR1 := Lib.hid hr
            have HY := Lib.hid hy
            have HA := Lib.hid ha
            obtain ⟨ka1, ka2, rfl, _⟩ := he0.hk
            obtain ⟨kb1, kb2, rfl, _⟩ := hek.hk
            have q1 := run_conv_bs (P := Try.prog) Try.underlying25 Try.underlying5 Try.underlying9 he0.hk
            have q2 := run_conv_bs (P := Try.prog) Try.underlying25 Try.underlying5 Try.underlying9 hek.hk
            have q1d := run_conv_bs (P := Try.prog) Try.underlying25 Try.underlying5 Try.underlying9 he0.hk.drew
            have q2d := run_conv_bs (P := Try.prog) Try.underlying25 Try.underlying5 Try.underlying9 hek.hk.drew
            clear x4 x5 p0 pk he0 hek hy ha
            go_wp2
            have d0 : wr.drew.cell? ⟨xb, xo + ia * 4, none⟩ = some (Value.slice ka1 a.key.length ka2) := c0
            have dk : wr.drew.cell? ⟨xb, xo + k * 4, none⟩ = some (Value.slice kb1 y.key.length kb2) := ck
            go_region_held3 (fun w' => w'.cell? ⟨xb, xo + ia * 4, none⟩ = some (Value.slice ka1 a.key.length ka2) ∧ w'.cell? ⟨xb, xo + k * 4, none⟩ = some (Value.slice kb1 y.key.length kb2) ∧ (convert 25 9 (Value.slice ka1 a.key.length ka2)).run Try.prog w' = .ok (.string (str a.key)) w' ∧ (convert 25 9 (Value.slice kb1 y.key.length kb2)).run Try.prog w' = .ok (.string (str y.key)) w')
              (first | exact ⟨d0, dk, q1d, q2d⟩ | go_keep)
              (fail)
            have hbd : Below wo.heap.size wo wr.drew := hbx.drew
            clear c0 ck d0 dk q1 q2 q1d q2d
            cases r with
            | true =>
              have hnx : Hid (∀ j (h : j < l.length), ia ≤ j → j < k + 1 → l[j].key = (l[ia]'(by omega)).key) := by
                intro j h h1 hj
                by_cases hjk : j = k
                · subst hjk
                  rw [HY.out, HA.out]
                  have := HR1.out
                  simpa using this
                · exact HK.out j h h1 (by omega)
              clear HK HR1
              go_wp2
              go_roundg (l.length - (k + 1))
              case measure => omega
              case rel => exact ⟨k + 1, by omega, by omega, rfl, by go_num, hbd, hnx⟩
            | false =>
              have hk2 : ia < k := by
                by_cases h : k = ia
                · subst h
                  have h1 := HR1.out
                  have : y = a := by rw [← HY.out, ← HA.out]
                  rw [this] at h1
                  simp at h1
                · omega
              have hkr : Hid (keyRun (l.drop ia) = k - ia) := keyRun_at (by omega) (by rw [List.length_drop]; omega) (fun j h hj => by
                rw [List.getElem_drop, List.getElem_drop]
                simpa using HK.out (ia + j) (by rw [List.length_drop] at h; omega) (by omega) (by omega)) (fun h => by
                rw [List.getElem_drop, List.getElem_drop]
                have e1 : l[ia + (k - ia)]'(by omega) = y := by rw [← HY.out]; congr 1; omega
                have e2 : l[ia + 0]'(by omega) = a := by rw [← HA.out]; rfl
                rw [e1, e2]
                have := HR1.out
                simpa using this)
              clear HR1 HY HA
              go_wp2
              have hw2 : Below w.heap.size w wr.drew := below_then hbw hbd hbw.size
              obtain ⟨g, hgt⟩ : ∃ g, (l.take k).drop ia = g := ⟨_, rfl⟩
              have hgt2 : (l.drop ia).take (k - ia) = g := by rw [← hgt, List.drop_take]
              have hgl : g.length = k - ia := by rw [← hgt, List.length_drop, List.length_take]; omega
              have hsg : Srt lessE g := by rw [← hgt]; exact (HSRT.out.sublist (List.take_sublist _ _)).sublist (List.drop_sublist _ _)
              have hgat : ∀ j (h : j < g.length), ∃ h2 : ia + j < l.length, g[j] = l[ia + j] := by
                intro j h
                have h2 : ia + j < l.length := by omega
                refine ⟨h2, ?_⟩
                have e : g[j]? = ((l.take k).drop ia)[j]? := by rw [hgt]
                rw [List.getElem?_drop, List.getElem?_take, if_pos (by omega), List.getElem?_eq_getElem h, List.getElem?_eq_getElem h2] at e
                exact Option.some.inj e
              have hkg : ∀ x ∈ g, ∀ y ∈ g, x.key = y.key := by
                intro x hx y hy
                obtain ⟨i, hi, rfl⟩ := List.getElem_of_mem hx
                obtain ⟨j, hj, rfl⟩ := List.getElem_of_mem hy
                obtain ⟨hi2, ei⟩ := hgat i hi
                obtain ⟨hj2, ej⟩ := hgat j hj
                rw [ei, ej, HK.out _ hi2 (by omega) (by omega), HK.out _ hj2 (by omega) (by omega)]
              have hstep : thinF bt ss m (l.drop k) (o ++ keptG g bt ss) = out := by
                have := HST.out
                rw [hkr.out, hgt2, List.drop_drop, show ia + (k - ia) = k by omega] at this
                exact this
              obtain ⟨mk, hmk⟩ : ∃ mk, seenL g ss = mk := ⟨_, rfl⟩
              have hml : mk.length = k - ia := by rw [← hmk, ← hgl]; exact seenK_len _ _ _
              have hkept : keptG g bt ss = if bt then dropDead (pickK g mk (k - ia)) else pickK g mk (k - ia) := by rw [keptG, hmk, hgl]
              obtain ⟨Lx, hsl, hesx⟩ := es_mid HV.out (lo := ia) (hi := k) (by omega) hk
              rw [hgt] at hesx
              have HMKE := Lib.hid hmk
              have HKEPT := Lib.hid hkept
              have HSTEP := Lib.hid hstep
              have HGL := Lib.hid hgl
              have HGAT := Lib.hid hgat
              have HESX := Lib.hid hesx
              have HWW := Lib.hid hw2
              have HGM := Lib.hid (group_mono hsg hkg)
              have HOUT2 := Lib.hid (HOUT.out.below hbd)
              clear hkept hstep hgt hgt2 hsg hkg hesx hw2 hkr HST HK HOUT hmk hgat hgl
              go_loopg [11, 12] (k - ia) (fun gn kept i wx => ∃ q : Nat, q ≤ k - ia ∧ gn = k - ia - q ∧ i = .int .i64 ((ia + q : Nat) : Int) ∧ Below w.heap.size w wx ∧ Hid (EsR w wx w.heap.size kept (pickK g mk q)) ∧ Hid (EsR w wx w.heap.size (.slice oa o.length oc) o) ∧ Hid (Unlike kept (.slice oa o.length oc)))
              case atStart => exact ⟨0, Nat.zero_le _, by omega, rfl, HWW.out, by rw [show pickK g mk 0 = [] by simp [pickK]]; exact EsR.nil _ _ _, HOUT2, fun q hq => by cases hq⟩
              case round =>
                obtain ⟨q, hq, rfl, rfl, hb, HKP, HO, HUN⟩ := hrel
                obtain ⟨pa, pc, rfl⟩ := EsR.shape HKP.out
                obtain ⟨pl, hpl⟩ : ∃ pl, (pickK g mk q).length = pl := ⟨_, rfl⟩
                have hplb : pl ≤ q := by rw [← hpl]; exact pickK_len g mk q
                rw [hpl]
                have HOP : Hid (EsR w wr w.heap.size (.slice pa pl pc) (pickK g mk q)) := by rw [← hpl]; exact HKP
                have HUP : Hid (Unlike (.slice pa pl pc) (.slice oa o.length oc)) := by rw [← hpl]; exact HUN
                have HPL := Lib.hid hpl
                clear hpl HKP HUN
                have hz := hb.size
                by_cases hlq : q < k - ia
                · have hjj : (ia : Int) + (q : Int) < (k : Int) := by omega
                  have hmq : q < mk.length := by omega
                  have hgq : q < g.length := by have := HGL.out; omega
                  have hps := pickK_succ g mk q hgq hmq
                  obtain ⟨r, hr⟩ : ∃ r, mk[q] = r := ⟨_, rfl⟩
                  rw [hr] at hps
                  have hst : staysL g q ss = r := by
                    rw [← seenK_get ss HGM.out q hgq, ← hr]
                    congr 1
                  have HPS := Lib.hid hps
                  have HSTAY := Lib.hid hst
                  have hesr : Es wr (.slice Lx (k - ia) (vc - ia)) g := HESX.out.below hb
                  clear hps hr hst
                  go_wp2_with (go_at_call 40; go_must (refine stays_any' _ _ g q _ (by first | rfl | omega) ss r HSTAY.out hgq (by have := HGL.out; omega) _ hesr (HU.out.below hb) _ ?_))
                  intro w4 hb4
                  have hb5 := below_then hb hb4 hz
                  clear hesr
                  cases r with
                  | false =>
                    have hnx : Hid (EsR w w4 w.heap.size (.slice pa pl pc) (pickK g mk (q + 1))) := by
                      show EsR _ _ _ _ _
                      rw [HPS.out]
                      simpa using HOP.out.below hb4
                    have HO5 := Lib.hid (HO.out.below hb4)
                    clear HPS HOP HO
                    go_wp2
                    go_roundg (k - ia - (q + 1))
                    case measure => omega
                    case rel => exact ⟨q + 1, by omega, rfl, by go_num, hb5, hnx, HO5, HUP⟩
                  | true =>
                    obtain ⟨xa', xc', ee, _, _, _, x4⟩ := HV.out.below hb5
                    simp only [Value.slice.injEq] at ee
                    obtain ⟨ee, -, rfl⟩ := ee
                    subst ee
                    obtain ⟨xb', xo', ee, x5⟩ := x4 (by omega)
                    simp only [Option.some.injEq, Addr.mk.injEq, and_true] at ee
                    obtain ⟨rfl, rfl⟩ := ee
                    obtain ⟨hi2, ei⟩ := HGAT.out q hgq
                    obtain ⟨k0, v0, p, hec⟩ := x5 (ia + q) hi2
                    rw [← ei] at p
                    obtain ⟨x, hx⟩ : ∃ x, g[q] = x := ⟨_, rfl⟩
                    have hec0 : EC w k0 v0 x := by
                      obtain ⟨ya', yc', ee, _, _, _, y4⟩ := HV.out
                      simp only [Value.slice.injEq] at ee
                      obtain ⟨rfl, -, rfl⟩ := ee
                      obtain ⟨yb, yo, ee, y5⟩ := y4 (by omega)
                      simp only [Option.some.injEq, Addr.mk.injEq, and_true] at ee
                      obtain ⟨rfl, rfl⟩ := ee
                      obtain ⟨k9, v9, p9, hec9⟩ := y5 (ia + q) hi2
                      have p9' := p9.below hb5
                      have e1 := p.1.symm.trans p9'.1
                      have e2 := p.2.1.symm.trans p9'.2.1
                      rw [Option.some.inj e1, Option.some.inj e2, ← hx, ei]
                      exact hec9
                    rw [hx] at p
                    have HX := Lib.hid hx
                    obtain ⟨p0, p1, p2, p3⟩ := p
                    obtain ⟨k1, k2, k3, rfl⟩ : ∃ a n c, k0 = .slice a n c := by obtain ⟨a, c, h, _⟩ := hec0.hk; exact ⟨_, _, _, h⟩
                    obtain ⟨v1, v2, v3, rfl⟩ := EC.shape hec0
                    obtain ⟨kv, hkv, hrow, heach⟩ := HOP.out
                    rw [HPL.out] at hrow
                    have hrow5 := owns_below hrow hb4
                    have hj0 : (0 : Int) ≤ (ia : Int) + (q : Int) := by omega
                    have hjl : (ia : Int) + (q : Int) < (l.length : Int) := by omega
                    have hjn : ((ia : Int) + (q : Int)).toNat = ia + q := by omega
                    have HEC0 := Lib.hid hec0
                    clear x4 x5 hx ei hi2 hec hec0
                    go_wp2_with (at_builtin; go_must (refine wpList_appAt (by rfl) (.tmp 57) (.tmp 62) 24 (by rfl) w.heap.size 27 (.agg #[.slice none 0 0, .slice none 0 0, .int .i64 0, .bool false]) 4 64 Try.underlying24 Try.info27 rfl (by decide) _ _ _ _ rfl (World.ownsRow.alloc hrow5 _) _ _ _ _ rfl (rd_lit _ _ _ 4 1 rfl) (ec_oneCell _ _ _ _ _ _) (by simp) (by unfold maxLen; omega) (by omega) (by have := hb5.size; simp; omega) ?_))
                    intro ad6 c6 w6 hown6 hg6 hat6
                    have hbN : Below w.heap.size w w6 := below_app (hb5.alloc hb5.size _) hg6 (by have := hb5.size; simp; omega) (hrow5.alloc _)
                    obtain ⟨ku, hku, hrowo, heacho⟩ := HO.out
                    have hro5 := (owns_below hrowo hb4).alloc (Obj.cells #[Value.slice k1 k2 k3, Value.slice v1 v2 v3, Value.int .i64 x.seq, Value.bool x.dead] 27)
                    have hro6 := owns_grown hro5 hg6 (fun q' hq' hc => HUP.out q' hc.symm hq')
                    have hun6 : Hid (Unlike (.slice ad6 (pl + 1) c6) (.slice oa o.length oc)) := by
                      intro q' hq' hc
                      rcases hat6 with e | e
                      · rw [e] at hq'
                        exact HUP.out q' hq' hc
                      · rw [e] at hq'
                        have := (hro5.lt q' hc).2
                        have e9 := Option.some.inj hq'
                        have := ((owns_below hrowo hb4).lt q' hc).2
                        omega
                    have hnx : Hid (EsR w w6 w.heap.size (.slice ad6 (pl + 1) c6) (pickK g mk (q + 1))) := by
                      show EsR _ _ _ _ _
                      have e9 : pickK g mk (q + 1) = pickK g mk q ++ [x] := by rw [HPS.out, ← HX.out]; simp
                      rw [e9]
                      exact EsR.push hkv heach HEC0.out (by rw [HPL.out]; exact hown6)
                    have HO6 : Hid (EsR w w6 w.heap.size (.slice oa o.length oc) o) := ⟨ku, hku, hro6, heacho⟩
                    have HBN := Lib.hid hbN
                    clear hbN hown6 hg6 hrow5 hrow heach p0 p1 p2 p3 HPS HX hro5 hro6 hrowo heacho hat6 HUP HOP HO
                    go_wp2
                    go_roundg (k - ia - (q + 1))
                    case measure => omega
                    case rel => exact ⟨q + 1, by omega, rfl, by go_num, HBN.out, hnx, HO6, hun6⟩
                · have hjj : ¬ (ia : Int) + (q : Int) < (k : Int) := by omega
                  obtain ⟨pk, hpk⟩ : ∃ pk, pickK g mk q = pk := ⟨_, rfl⟩
                  have hkf : keptG g bt ss = if bt then dropDead pk else pk := by rw [HKEPT.out, ← hpk, show k - ia = q by omega]
                  have HKF := Lib.hid hkf
                  have HOQ : Hid (EsR w wr w.heap.size (.slice pa pl pc) pk) := by rw [← hpk]; exact HOP
                  have hpl2 : pl = pk.length := by rw [← HPL.out, hpk]
                  have HPL2 := Lib.hid hpl2
                  have HPKB : Hid (pk.length ≤ k - ia) := by
                    have := HPL2.out
                    show pk.length ≤ k - ia
                    omega
                  clear hpk hkf HOP HPL HKEPT hpl2
                  go_wp2
                  go_loopg [11] pk.length (fun n kept wx => ∃ (p : List Ent) (ql : Nat) (qa : Option Addr) (qc : Nat), kept = .slice qa ql qc ∧ p.length = n ∧ Hid (ql = p.length) ∧ p.length ≤ k - ia ∧ Below w.heap.size w wx ∧ Hid (EsR w wx w.heap.size (.slice qa ql qc) p) ∧ Hid (EsR w wx w.heap.size (.slice oa o.length oc) o) ∧ Hid ((if bt then dropDead p else p) = keptG g bt ss))
                  case atStart => exact ⟨pk, pl, pa, pc, rfl, rfl, HPL2, HPKB.out, hb, HOQ, HO, Lib.hid HKF.out.symm⟩
                  case round =>
                    obtain ⟨p, ql, qa, qc, rfl, hpn, HQL, hqp, hb4, HP4, HO4, HK4⟩ := hrel
                    cases bt with
                    | false =>
                      have hke : Hid (keptG g false ss = p) := by have := HK4.out; simpa [Hid] using this.symm
                      obtain ⟨kvp, hkvp, hrowp, heachp⟩ := HP4.out
                      obtain ⟨kvo, hkvo, hrowo, heacho⟩ := HO4.out
                      have hrp : wr.ownsRow w.heap.size 27 4 (.slice qa (ql) qc) (ql) (ecs kvp p) := by
                        have := hrowp
                        rw [← HQL.out] at this
                        exact this
                      have hqle : (ql) ≤ 100000 := by have := HQL.out; omega
                      have hrdp := rd_of_owns hrp
                      have hnlp := owns_nil hrp
                      have honp := ecs_oneCellR hkvp heachp
                      have hstn : Hid (thinF false ss m (l.drop k) (o ++ p) = out) := by
                        have := HSTEP.out
                        rw [hke.out] at this
                        exact this
                      clear hrowp HKF HK4 HSTEP hrp
                      go_wp2_with (at_builtin; go_must (refine wpList_app (by rfl) (.tmp 84) (.tmp 85) 24 (by rfl) w.heap.size 27 (.agg #[.slice none 0 0, .slice none 0 0, .int .i64 0, .bool false]) 4 64 Try.underlying24 Try.info27 rfl (by decide) _ _ _ _ rfl hrowo _ _ _ _ rfl hrdp honp hnlp (by unfold maxLen; omega) (by omega) hb4.size ?_))
                      intro ad7 c7 w7 hown7 hg7
                      have hbN := below_app hb4 hg7 hb4.size hrowo
                      have hES7 : EsR w w7 w.heap.size (.slice ad7 (o.length + (ql)) c7) (o ++ p) := EsR.join hkvo hkvp heacho heachp (by have := hown7; rw [HQL.out] at this ⊢; exact this)
                      have HES7 := Lib.hid hES7
                      clear hown7 hg7 hES7 hrowo hrdp honp hnlp
                      go_wp2
                      go_roundg m
                      case measure => omega
                      case rel => exact ⟨k, o ++ p, hk, rfl, by omega, hstn, HES7, hbN, by rw [List.length_append]; omega⟩
                    | true =>
                      by_cases hp0 : p = []
                      · have hke : Hid (keptG g true ss = p) := by
                          have := HK4.out
                          rw [hp0] at this
                          rw [hp0]
                          simpa [Hid, dropDead_nil] using this.symm
                        have hqo : ql = 0 := by rw [HQL.out, hp0]; rfl
                        have hqn : ¬ (0 : Int) < (ql : Int) := by omega
                        have hqn2 : decide (0 < ql) = false := decide_eq_false (by omega)
                        have hqn3 : decide ((0 : Int) < (ql : Int)) = false := decide_eq_false (by omega)
                        clear hqo hp0
                        obtain ⟨kvp, hkvp, hrowp, heachp⟩ := HP4.out
                        obtain ⟨kvo, hkvo, hrowo, heacho⟩ := HO4.out
                        have hrp : wr.ownsRow w.heap.size 27 4 (.slice qa (ql) qc) (ql) (ecs kvp p) := by
                          have := hrowp
                          rw [← HQL.out] at this
                          exact this
                        have hqle : (ql) ≤ 100000 := by have := HQL.out; omega
                        have hrdp := rd_of_owns hrp
                        have hnlp := owns_nil hrp
                        have honp := ecs_oneCellR hkvp heachp
                        have hstn : Hid (thinF true ss m (l.drop k) (o ++ p) = out) := by
                          have := HSTEP.out
                          rw [hke.out] at this
                          exact this
                        clear hrowp HKF HK4 HSTEP hrp
                        go_wp2_with (at_builtin; go_must (refine wpList_app (by rfl) (.tmp 84) (.tmp 85) 24 (by rfl) w.heap.size 27 (.agg #[.slice none 0 0, .slice none 0 0, .int .i64 0, .bool false]) 4 64 Try.underlying24 Try.info27 rfl (by decide) _ _ _ _ rfl hrowo _ _ _ _ rfl hrdp honp hnlp (by unfold maxLen; omega) (by omega) hb4.size ?_))
                        intro ad7 c7 w7 hown7 hg7
                        have hbN := below_app hb4 hg7 hb4.size hrowo
                        have hES7 : EsR w w7 w.heap.size (.slice ad7 (o.length + (ql)) c7) (o ++ p) := EsR.join hkvo hkvp heacho heachp (by have := hown7; rw [HQL.out] at this ⊢; exact this)
                        have HES7 := Lib.hid hES7
                        clear hown7 hg7 hES7 hrowo hrdp honp hnlp
                        go_wp2
                        go_roundg m
                        case measure => omega
                        case rel => exact ⟨k, o ++ p, hk, rfl, by omega, hstn, HES7, hbN, by rw [List.length_append]; omega⟩
                      · obtain ⟨q, x, hqx⟩ : ∃ q x, p = q ++ [x] := ⟨p.dropLast, p.getLast hp0, (List.dropLast_concat_getLast hp0).symm⟩
                        subst hqx
                        obtain ⟨qn, rfl⟩ : ∃ qn, ql = qn + 1 := ⟨ql - 1, by have := HQL.out; simp at this; omega⟩
                        have hqn : qn = q.length := by have := HQL.out; simp at this; omega
                        obtain ⟨qb, qo, rfl, q3, hqc⟩ : ∃ qb qo, qa = some ⟨qb, qo, none⟩ ∧ wr.cell? ⟨qb, qo + qn * 4 + 3, none⟩ = some (Value.bool x.dead) ∧ qn + 1 ≤ qc := by
                          have hol : (q ++ [x]).length = qn + 1 := by simp; omega
                          have hes : Es wr (.slice qa (q ++ [x]).length qc) (q ++ [x]) := EsR.es (B := w.heap.size) (by rw [hol]; exact HP4.out) hb4
                          obtain ⟨qa', qc', ee, q1, _, _, q4⟩ := hes
                          simp only [Value.slice.injEq] at ee
                          obtain ⟨rfl, -, rfl⟩ := ee
                          obtain ⟨qb, qo, rfl, q5⟩ := q4 (by omega)
                          obtain ⟨qk, qv, ⟨_, _, _, q3⟩, _⟩ := q5 qn (by omega)
                          have hx : (q ++ [x])[qn]'(by omega) = x := by
                            rw [List.getElem_append_right (by omega)]
                            simp
                          rw [hx] at q3
                          exact ⟨qb, qo, rfl, q3, by omega⟩
                        have hg1 : (0 : Int) < (qn : Int) + 1 := by omega
                        have hqb : (qn : Int) ≤ 100000 := by simp at hqp; omega
                        have hqb0 : (0 : Int) ≤ (qn : Int) := by omega
                        have hg2 : decide (0 < qn + 1) = true := decide_eq_true (by omega)
                        have hg4 : decide ((0 : Int) < (qn : Int) + 1) = true := decide_eq_true (by omega)
                        have hg3 : 0 < qn + 1 := by omega
                        have hqc2 : qn ≤ qc := by omega
                        obtain ⟨dd, hdd⟩ : ∃ dd, x.dead = dd := ⟨_, rfl⟩
                        rw [hdd] at q3
                        have HDD := Lib.hid hdd
                        have HQN := Lib.hid hqn
                        clear hdd hqn hp0
                        cases dd with
                        | false =>
                          have hke : Hid (keptG g true ss = q ++ [x]) := by
                            have := HK4.out
                            rw [if_pos rfl, dropDead_snoc, HDD.out] at this
                            simpa [Hid] using this.symm
                          obtain ⟨kvp, hkvp, hrowp, heachp⟩ := HP4.out
                          obtain ⟨kvo, hkvo, hrowo, heacho⟩ := HO4.out
                          have hrp : wr.ownsRow w.heap.size 27 4 (.slice (some ⟨qb, qo, none⟩) ((qn + 1)) qc) ((qn + 1)) (ecs kvp (q ++ [x])) := by
                            have := hrowp
                            rw [← HQL.out] at this
                            exact this
                          have hqle : ((qn + 1)) ≤ 100000 := by have := HQL.out; omega
                          have hrdp := rd_of_owns hrp
                          have hnlp := owns_nil hrp
                          have honp := ecs_oneCellR hkvp heachp
                          have hstn : Hid (thinF true ss m (l.drop k) (o ++ (q ++ [x])) = out) := by
                            have := HSTEP.out
                            rw [hke.out] at this
                            exact this
                          clear hrowp HKF HK4 HSTEP hrp
                          go_wp2_with (at_builtin; go_must (refine wpList_app (by rfl) (.tmp 84) (.tmp 85) 24 (by rfl) w.heap.size 27 (.agg #[.slice none 0 0, .slice none 0 0, .int .i64 0, .bool false]) 4 64 Try.underlying24 Try.info27 rfl (by decide) _ _ _ _ rfl hrowo _ _ _ _ rfl hrdp honp hnlp (by unfold maxLen; omega) (by omega) hb4.size ?_))
                          intro ad7 c7 w7 hown7 hg7
                          have hbN := below_app hb4 hg7 hb4.size hrowo
                          have hES7 : EsR w w7 w.heap.size (.slice ad7 (o.length + ((qn + 1))) c7) (o ++ (q ++ [x])) := EsR.join hkvo hkvp heacho heachp (by have := hown7; rw [HQL.out] at this ⊢; exact this)
                          have HES7 := Lib.hid hES7
                          clear hown7 hg7 hES7 hrowo hrdp honp hnlp
                          go_wp2
                          go_roundg m
                          case measure => omega
                          case rel => exact ⟨k, o ++ (q ++ [x]), hk, rfl, by omega, hstn, HES7, hbN, by rw [List.length_append]; omega⟩
                        | true =>
                          have hnx : Hid (EsR w wr w.heap.size (.slice (some ⟨qb, qo, none⟩) qn qc) q) := by
                            have := EsR.take (j := qn) HP4.out (by simp; have := HQN.out; omega)
                            have e : (q ++ [x]).take qn = q := List.take_left' HQN.out.symm
                            rw [e] at this
                            exact this
                          have hkn : Hid ((if true = true then dropDead q else q) = keptG g true ss) := by
                            have := HK4.out
                            rw [if_pos rfl, dropDead_snoc, HDD.out] at this
                            simpa [Hid] using this
                          have hlq2 : (q ++ [x]).length = q.length + 1 := by simp
                          clear HP4 HK4 HQL
                          go_wp2
                          go_roundg q.length
                          case measure => omega
                          case rel => exact ⟨q, qn, _, qc, rfl, rfl, HQN, by omega, hb4, hnx, HO4, hkn⟩
          · have hkk : ¬ (k : Int) < (l.length : Int) := by omega
            have hk2 : ia < k := by omega
            have hkr : Hid (keyRun (l.drop ia) = k - ia) := keyRun_at (by omega) (by rw [List.length_drop]; omega) (fun j h hj => by
              rw [List.getElem_drop, List.getElem_drop]
              simpa using HK.out (ia + j) (by rw [List.length_drop] at h; omega) (by omega) (by omega)) (fun h => by rw [List.length_drop] at h; omega)
            clear x4 x5
            go_wp2
            go_quiet (fail)
            go_wp2
            have hbd : Below wo.heap.size wo (wr.drewN nq) := below_drewN hbx
            have hw2 : Below w.heap.size w (wr.drewN nq) := below_then hbw hbd hbw.size
            obtain ⟨g, hgt⟩ : ∃ g, (l.take k).drop ia = g := ⟨_, rfl⟩
            have hgt2 : (l.drop ia).take (k - ia) = g := by rw [← hgt, List.drop_take]
            have hgl : g.length = k - ia := by rw [← hgt, List.length_drop, List.length_take]; omega
            have hsg : Srt lessE g := by rw [← hgt]; exact (HSRT.out.sublist (List.take_sublist _ _)).sublist (List.drop_sublist _ _)
            have hgat : ∀ j (h : j < g.length), ∃ h2 : ia + j < l.length, g[j] = l[ia + j] := by
              intro j h
              have h2 : ia + j < l.length := by omega
              refine ⟨h2, ?_⟩
              have e : g[j]? = ((l.take k).drop ia)[j]? := by rw [hgt]
              rw [List.getElem?_drop, List.getElem?_take, if_pos (by omega), List.getElem?_eq_getElem h, List.getElem?_eq_getElem h2] at e
              exact Option.some.inj e
            have hkg : ∀ x ∈ g, ∀ y ∈ g, x.key = y.key := by
              intro x hx y hy
              obtain ⟨i, hi, rfl⟩ := List.getElem_of_mem hx
              obtain ⟨j, hj, rfl⟩ := List.getElem_of_mem hy
              obtain ⟨hi2, ei⟩ := hgat i hi
              obtain ⟨hj2, ej⟩ := hgat j hj
              rw [ei, ej, HK.out _ hi2 (by omega) (by omega), HK.out _ hj2 (by omega) (by omega)]
            have hstep : thinF bt ss m (l.drop k) (o ++ keptG g bt ss) = out := by
              have := HST.out
              rw [hkr.out, hgt2, List.drop_drop, show ia + (k - ia) = k by omega] at this
              exact this
            obtain ⟨mk, hmk⟩ : ∃ mk, seenL g ss = mk := ⟨_, rfl⟩
            have hml : mk.length = k - ia := by rw [← hmk, ← hgl]; exact seenK_len _ _ _
            have hkept : keptG g bt ss = if bt then dropDead (pickK g mk (k - ia)) else pickK g mk (k - ia) := by rw [keptG, hmk, hgl]
            obtain ⟨Lx, hsl, hesx⟩ := es_mid HV.out (lo := ia) (hi := k) (by omega) hk
            rw [hgt] at hesx
            have HMKE := Lib.hid hmk
            have HKEPT := Lib.hid hkept
            have HSTEP := Lib.hid hstep
            have HGL := Lib.hid hgl
            have HGAT := Lib.hid hgat
            have HESX := Lib.hid hesx
            have HWW := Lib.hid hw2
            have HGM := Lib.hid (group_mono hsg hkg)
            have HOUT2 := Lib.hid (HOUT.out.below hbd)
            clear hkept hstep hgt hgt2 hsg hkg hesx hw2 hkr HST HK HOUT hmk hgat hgl
            go_loopg [11, 12] (k - ia) (fun gn kept i wx => ∃ q : Nat, q ≤ k - ia ∧ gn = k - ia - q ∧ i = .int .i64 ((ia + q : Nat) : Int) ∧ Below w.heap.size w wx ∧ Hid (EsR w wx w.heap.size kept (pickK g mk q)) ∧ Hid (EsR w wx w.heap.size (.slice oa o.length oc) o) ∧ Hid (Unlike kept (.slice oa o.length oc)))
            case atStart => exact ⟨0, Nat.zero_le _, by omega, rfl, HWW.out, by rw [show pickK g mk 0 = [] by simp [pickK]]; exact EsR.nil _ _ _, HOUT2, fun q hq => by cases hq⟩
            case round =>
              obtain ⟨q, hq, rfl, rfl, hb, HKP, HO, HUN⟩ := hrel
              obtain ⟨pa, pc, rfl⟩ := EsR.shape HKP.out
              obtain ⟨pl, hpl⟩ : ∃ pl, (pickK g mk q).length = pl := ⟨_, rfl⟩
              have hplb : pl ≤ q := by rw [← hpl]; exact pickK_len g mk q
              rw [hpl]
              have HOP : Hid (EsR w wr w.heap.size (.slice pa pl pc) (pickK g mk q)) := by rw [← hpl]; exact HKP
              have HUP : Hid (Unlike (.slice pa pl pc) (.slice oa o.length oc)) := by rw [← hpl]; exact HUN
              have HPL := Lib.hid hpl
              clear hpl HKP HUN
              have hz := hb.size
              by_cases hlq : q < k - ia
              · have hjj : (ia : Int) + (q : Int) < (k : Int) := by omega
                have hmq : q < mk.length := by omega
                have hgq : q < g.length := by have := HGL.out; omega
                have hps := pickK_succ g mk q hgq hmq
                obtain ⟨r, hr⟩ : ∃ r, mk[q] = r := ⟨_, rfl⟩
                rw [hr] at hps
                have hst : staysL g q ss = r := by
                  rw [← seenK_get ss HGM.out q hgq, ← hr]
                  congr 1
                have HPS := Lib.hid hps
                have HSTAY := Lib.hid hst
                have hesr : Es wr (.slice Lx (k - ia) (vc - ia)) g := HESX.out.below hb
                clear hps hr hst
                go_wp2_with (go_at_call 40; go_must (refine stays_any' _ _ g q _ (by first | rfl | omega) ss r HSTAY.out hgq (by have := HGL.out; omega) _ hesr (HU.out.below hb) _ ?_))
                intro w4 hb4
                have hb5 := below_then hb hb4 hz
                clear hesr
                cases r with
                | false =>
                  have hnx : Hid (EsR w w4 w.heap.size (.slice pa pl pc) (pickK g mk (q + 1))) := by
                    show EsR _ _ _ _ _
                    rw [HPS.out]
                    simpa using HOP.out.below hb4
                  have HO5 := Lib.hid (HO.out.below hb4)
                  clear HPS HOP HO
                  go_wp2
                  go_roundg (k - ia - (q + 1))
                  case measure => omega
                  case rel => exact ⟨q + 1, by omega, rfl, by go_num, hb5, hnx, HO5, HUP⟩
                | true =>
                  obtain ⟨xa', xc', ee, _, _, _, x4⟩ := HV.out.below hb5
                  simp only [Value.slice.injEq] at ee
                  obtain ⟨ee, -, rfl⟩ := ee
                  subst ee
                  obtain ⟨xb', xo', ee, x5⟩ := x4 (by omega)
                  simp only [Option.some.injEq, Addr.mk.injEq, and_true] at ee
                  obtain ⟨rfl, rfl⟩ := ee
                  obtain ⟨hi2, ei⟩ := HGAT.out q hgq
                  obtain ⟨k0, v0, p, hec⟩ := x5 (ia + q) hi2
                  rw [← ei] at p
                  obtain ⟨x, hx⟩ : ∃ x, g[q] = x := ⟨_, rfl⟩
                  have hec0 : EC w k0 v0 x := by
                    obtain ⟨ya', yc', ee, _, _, _, y4⟩ := HV.out
                    simp only [Value.slice.injEq] at ee
                    obtain ⟨rfl, -, rfl⟩ := ee
                    obtain ⟨yb, yo, ee, y5⟩ := y4 (by omega)
                    simp only [Option.some.injEq, Addr.mk.injEq, and_true] at ee
                    obtain ⟨rfl, rfl⟩ := ee
                    obtain ⟨k9, v9, p9, hec9⟩ := y5 (ia + q) hi2
                    have p9' := p9.below hb5
                    have e1 := p.1.symm.trans p9'.1
                    have e2 := p.2.1.symm.trans p9'.2.1
                    rw [Option.some.inj e1, Option.some.inj e2, ← hx, ei]
                    exact hec9
                  rw [hx] at p
                  have HX := Lib.hid hx
                  obtain ⟨p0, p1, p2, p3⟩ := p
                  obtain ⟨k1, k2, k3, rfl⟩ : ∃ a n c, k0 = .slice a n c := by obtain ⟨a, c, h, _⟩ := hec0.hk; exact ⟨_, _, _, h⟩
                  obtain ⟨v1, v2, v3, rfl⟩ := EC.shape hec0
                  obtain ⟨kv, hkv, hrow, heach⟩ := HOP.out
                  rw [HPL.out] at hrow
                  have hrow5 := owns_below hrow hb4
                  have hj0 : (0 : Int) ≤ (ia : Int) + (q : Int) := by omega
                  have hjl : (ia : Int) + (q : Int) < (l.length : Int) := by omega
                  have hjn : ((ia : Int) + (q : Int)).toNat = ia + q := by omega
                  have HEC0 := Lib.hid hec0
                  clear x4 x5 hx ei hi2 hec hec0
                  go_wp2_with (at_builtin; go_must (refine wpList_appAt (by rfl) (.tmp 57) (.tmp 62) 24 (by rfl) w.heap.size 27 (.agg #[.slice none 0 0, .slice none 0 0, .int .i64 0, .bool false]) 4 64 Try.underlying24 Try.info27 rfl (by decide) _ _ _ _ rfl (World.ownsRow.alloc hrow5 _) _ _ _ _ rfl (rd_lit _ _ _ 4 1 rfl) (ec_oneCell _ _ _ _ _ _) (by simp) (by unfold maxLen; omega) (by omega) (by have := hb5.size; simp; omega) ?_))
                  intro ad6 c6 w6 hown6 hg6 hat6
                  have hbN : Below w.heap.size w w6 := below_app (hb5.alloc hb5.size _) hg6 (by have := hb5.size; simp; omega) (hrow5.alloc _)
                  obtain ⟨ku, hku, hrowo, heacho⟩ := HO.out
                  have hro5 := (owns_below hrowo hb4).alloc (Obj.cells #[Value.slice k1 k2 k3, Value.slice v1 v2 v3, Value.int .i64 x.seq, Value.bool x.dead] 27)
                  have hro6 := owns_grown hro5 hg6 (fun q' hq' hc => HUP.out q' hc.symm hq')
                  have hun6 : Hid (Unlike (.slice ad6 (pl + 1) c6) (.slice oa o.length oc)) := by
                    intro q' hq' hc
                    rcases hat6 with e | e
                    · rw [e] at hq'
                      exact HUP.out q' hq' hc
                    · rw [e] at hq'
                      have := (hro5.lt q' hc).2
                      have e9 := Option.some.inj hq'
                      have := ((owns_below hrowo hb4).lt q' hc).2
                      omega
                  have hnx : Hid (EsR w w6 w.heap.size (.slice ad6 (pl + 1) c6) (pickK g mk (q + 1))) := by
                    show EsR _ _ _ _ _
                    have e9 : pickK g mk (q + 1) = pickK g mk q ++ [x] := by rw [HPS.out, ← HX.out]; simp
                    rw [e9]
                    exact EsR.push hkv heach HEC0.out (by rw [HPL.out]; exact hown6)
                  have HO6 : Hid (EsR w w6 w.heap.size (.slice oa o.length oc) o) := ⟨ku, hku, hro6, heacho⟩
                  have HBN := Lib.hid hbN
                  clear hbN hown6 hg6 hrow5 hrow heach p0 p1 p2 p3 HPS HX hro5 hro6 hrowo heacho hat6 HUP HOP HO
                  go_wp2
                  go_roundg (k - ia - (q + 1))
                  case measure => omega
                  case rel => exact ⟨q + 1, by omega, rfl, by go_num, HBN.out, hnx, HO6, hun6⟩
              · have hjj : ¬ (ia : Int) + (q : Int) < (k : Int) := by omega
                obtain ⟨pk, hpk⟩ : ∃ pk, pickK g mk q = pk := ⟨_, rfl⟩
                have hkf : keptG g bt ss = if bt then dropDead pk else pk := by rw [HKEPT.out, ← hpk, show k - ia = q by omega]
                have HKF := Lib.hid hkf
                have HOQ : Hid (EsR w wr w.heap.size (.slice pa pl pc) pk) := by rw [← hpk]; exact HOP
                have hpl2 : pl = pk.length := by rw [← HPL.out, hpk]
                have HPL2 := Lib.hid hpl2
                have HPKB : Hid (pk.length ≤ k - ia) := by
                  have := HPL2.out
                  show pk.length ≤ k - ia
                  omega
                clear hpk hkf HOP HPL HKEPT hpl2
                go_wp2
                go_loopg [11] pk.length (fun n kept wx => ∃ (p : List Ent) (ql : Nat) (qa : Option Addr) (qc : Nat), kept = .slice qa ql qc ∧ p.length = n ∧ Hid (ql = p.length) ∧ p.length ≤ k - ia ∧ Below w.heap.size w wx ∧ Hid (EsR w wx w.heap.size (.slice qa ql qc) p) ∧ Hid (EsR w wx w.heap.size (.slice oa o.length oc) o) ∧ Hid ((if bt then dropDead p else p) = keptG g bt ss))
                case atStart => exact ⟨pk, pl, pa, pc, rfl, rfl, HPL2, HPKB.out, hb, HOQ, HO, Lib.hid HKF.out.symm⟩
                case round =>
                  obtain ⟨p, ql, qa, qc, rfl, hpn, HQL, hqp, hb4, HP4, HO4, HK4⟩ := hrel
                  cases bt with
                  | false =>
                    have hke : Hid (keptG g false ss = p) := by have := HK4.out; simpa [Hid] using this.symm
                    obtain ⟨kvp, hkvp, hrowp, heachp⟩ := HP4.out
                    obtain ⟨kvo, hkvo, hrowo, heacho⟩ := HO4.out
                    have hrp : wr.ownsRow w.heap.size 27 4 (.slice qa (ql) qc) (ql) (ecs kvp p) := by
                      have := hrowp
                      rw [← HQL.out] at this
                      exact this
                    have hqle : (ql) ≤ 100000 := by have := HQL.out; omega
                    have hrdp := rd_of_owns hrp
                    have hnlp := owns_nil hrp
                    have honp := ecs_oneCellR hkvp heachp
                    have hstn : Hid (thinF false ss m (l.drop k) (o ++ p) = out) := by
                      have := HSTEP.out
                      rw [hke.out] at this
                      exact this
                    clear hrowp HKF HK4 HSTEP hrp
                    go_wp2_with (at_builtin; go_must (refine wpList_app (by rfl) (.tmp 84) (.tmp 85) 24 (by rfl) w.heap.size 27 (.agg #[.slice none 0 0, .slice none 0 0, .int .i64 0, .bool false]) 4 64 Try.underlying24 Try.info27 rfl (by decide) _ _ _ _ rfl hrowo _ _ _ _ rfl hrdp honp hnlp (by unfold maxLen; omega) (by omega) hb4.size ?_))
                    intro ad7 c7 w7 hown7 hg7
                    have hbN := below_app hb4 hg7 hb4.size hrowo
                    have hES7 : EsR w w7 w.heap.size (.slice ad7 (o.length + (ql)) c7) (o ++ p) := EsR.join hkvo hkvp heacho heachp (by have := hown7; rw [HQL.out] at this ⊢; exact this)
                    have HES7 := Lib.hid hES7
                    clear hown7 hg7 hES7 hrowo hrdp honp hnlp
                    go_wp2
                    go_roundg m
                    case measure => omega
                    case rel => exact ⟨k, o ++ p, hk, rfl, by omega, hstn, HES7, hbN, by rw [List.length_append]; omega⟩
                  | true =>
                    by_cases hp0 : p = []
                    · have hke : Hid (keptG g true ss = p) := by
                        have := HK4.out
                        rw [hp0] at this
                        rw [hp0]
                        simpa [Hid, dropDead_nil] using this.symm
                      have hqo : ql = 0 := by rw [HQL.out, hp0]; rfl
                      have hqn : ¬ (0 : Int) < (ql : Int) := by omega
                      have hqn2 : decide (0 < ql) = false := decide_eq_false (by omega)
                      have hqn3 : decide ((0 : Int) < (ql : Int)) = false := decide_eq_false (by omega)
                      clear hqo hp0
                      obtain ⟨kvp, hkvp, hrowp, heachp⟩ := HP4.out
                      obtain ⟨kvo, hkvo, hrowo, heacho⟩ := HO4.out
                      have hrp : wr.ownsRow w.heap.size 27 4 (.slice qa (ql) qc) (ql) (ecs kvp p) := by
                        have := hrowp
                        rw [← HQL.out] at this
                        exact this
                      have hqle : (ql) ≤ 100000 := by have := HQL.out; omega
                      have hrdp := rd_of_owns hrp
                      have hnlp := owns_nil hrp
                      have honp := ecs_oneCellR hkvp heachp
                      have hstn : Hid (thinF true ss m (l.drop k) (o ++ p) = out) := by
                        have := HSTEP.out
                        rw [hke.out] at this
                        exact this
                      clear hrowp HKF HK4 HSTEP hrp
                      go_wp2_with (at_builtin; go_must (refine wpList_app (by rfl) (.tmp 84) (.tmp 85) 24 (by rfl) w.heap.size 27 (.agg #[.slice none 0 0, .slice none 0 0, .int .i64 0, .bool false]) 4 64 Try.underlying24 Try.info27 rfl (by decide) _ _ _ _ rfl hrowo _ _ _ _ rfl hrdp honp hnlp (by unfold maxLen; omega) (by omega) hb4.size ?_))
                      intro ad7 c7 w7 hown7 hg7
                      have hbN := below_app hb4 hg7 hb4.size hrowo
                      have hES7 : EsR w w7 w.heap.size (.slice ad7 (o.length + (ql)) c7) (o ++ p) := EsR.join hkvo hkvp heacho heachp (by have := hown7; rw [HQL.out] at this ⊢; exact this)
                      have HES7 := Lib.hid hES7
                      clear hown7 hg7 hES7 hrowo hrdp honp hnlp
                      go_wp2
                      go_roundg m
                      case measure => omega
                      case rel => exact ⟨k, o ++ p, hk, rfl, by omega, hstn, HES7, hbN, by rw [List.length_append]; omega⟩
                    · obtain ⟨q, x, hqx⟩ : ∃ q x, p = q ++ [x] := ⟨p.dropLast, p.getLast hp0, (List.dropLast_concat_getLast hp0).symm⟩
                      subst hqx
                      obtain ⟨qn, rfl⟩ : ∃ qn, ql = qn + 1 := ⟨ql - 1, by have := HQL.out; simp at this; omega⟩
                      have hqn : qn = q.length := by have := HQL.out; simp at this; omega
                      obtain ⟨qb, qo, rfl, q3, hqc⟩ : ∃ qb qo, qa = some ⟨qb, qo, none⟩ ∧ wr.cell? ⟨qb, qo + qn * 4 + 3, none⟩ = some (Value.bool x.dead) ∧ qn + 1 ≤ qc := by
                        have hol : (q ++ [x]).length = qn + 1 := by simp; omega
                        have hes : Es wr (.slice qa (q ++ [x]).length qc) (q ++ [x]) := EsR.es (B := w.heap.size) (by rw [hol]; exact HP4.out) hb4
                        obtain ⟨qa', qc', ee, q1, _, _, q4⟩ := hes
                        simp only [Value.slice.injEq] at ee
                        obtain ⟨rfl, -, rfl⟩ := ee
                        obtain ⟨qb, qo, rfl, q5⟩ := q4 (by omega)
                        obtain ⟨qk, qv, ⟨_, _, _, q3⟩, _⟩ := q5 qn (by omega)
                        have hx : (q ++ [x])[qn]'(by omega) = x := by
                          rw [List.getElem_append_right (by omega)]
                          simp
                        rw [hx] at q3
                        exact ⟨qb, qo, rfl, q3, by omega⟩
                      have hg1 : (0 : Int) < (qn : Int) + 1 := by omega
                      have hqb : (qn : Int) ≤ 100000 := by simp at hqp; omega
                      have hqb0 : (0 : Int) ≤ (qn : Int) := by omega
                      have hg2 : decide (0 < qn + 1) = true := decide_eq_true (by omega)
                      have hg4 : decide ((0 : Int) < (qn : Int) + 1) = true := decide_eq_true (by omega)
                      have hg3 : 0 < qn + 1 := by omega
                      have hqc2 : qn ≤ qc := by omega
                      obtain ⟨dd, hdd⟩ : ∃ dd, x.dead = dd := ⟨_, rfl⟩
                      rw [hdd] at q3
                      have HDD := Lib.hid hdd
                      have HQN := Lib.hid hqn
                      clear hdd hqn hp0
                      cases dd with
                      | false =>
                        have hke : Hid (keptG g true ss = q ++ [x]) := by
                          have := HK4.out
                          rw [if_pos rfl, dropDead_snoc, HDD.out] at this
                          simpa [Hid] using this.symm
                        obtain ⟨kvp, hkvp, hrowp, heachp⟩ := HP4.out
                        obtain ⟨kvo, hkvo, hrowo, heacho⟩ := HO4.out
                        have hrp : wr.ownsRow w.heap.size 27 4 (.slice (some ⟨qb, qo, none⟩) ((qn + 1)) qc) ((qn + 1)) (ecs kvp (q ++ [x])) := by
                          have := hrowp
                          rw [← HQL.out] at this
                          exact this
                        have hqle : ((qn + 1)) ≤ 100000 := by have := HQL.out; omega
                        have hrdp := rd_of_owns hrp
                        have hnlp := owns_nil hrp
                        have honp := ecs_oneCellR hkvp heachp
                        have hstn : Hid (thinF true ss m (l.drop k) (o ++ (q ++ [x])) = out) := by
                          have := HSTEP.out
                          rw [hke.out] at this
                          exact this
                        clear hrowp HKF HK4 HSTEP hrp
                        go_wp2_with (at_builtin; go_must (refine wpList_app (by rfl) (.tmp 84) (.tmp 85) 24 (by rfl) w.heap.size 27 (.agg #[.slice none 0 0, .slice none 0 0, .int .i64 0, .bool false]) 4 64 Try.underlying24 Try.info27 rfl (by decide) _ _ _ _ rfl hrowo _ _ _ _ rfl hrdp honp hnlp (by unfold maxLen; omega) (by omega) hb4.size ?_))
                        intro ad7 c7 w7 hown7 hg7
                        have hbN := below_app hb4 hg7 hb4.size hrowo
                        have hES7 : EsR w w7 w.heap.size (.slice ad7 (o.length + ((qn + 1))) c7) (o ++ (q ++ [x])) := EsR.join hkvo hkvp heacho heachp (by have := hown7; rw [HQL.out] at this ⊢; exact this)
                        have HES7 := Lib.hid hES7
                        clear hown7 hg7 hES7 hrowo hrdp honp hnlp
                        go_wp2
                        go_roundg m
                        case measure => omega
                        case rel => exact ⟨k, o ++ (q ++ [x]), hk, rfl, by omega, hstn, HES7, hbN, by rw [List.length_append]; omega⟩
                      | true =>
                        have hnx : Hid (EsR w wr w.heap.size (.slice (some ⟨qb, qo, none⟩) qn qc) q) := by
                          have := EsR.take (j := qn) HP4.out (by simp; have := HQN.out; omega)
                          have e : (q ++ [x]).take qn = q := List.take_left' HQN.out.symm
                          rw [e] at this
                          exact this
                        have hkn : Hid ((if true = true then dropDead q else q) = keptG g true ss) := by
                          have := HK4.out
                          rw [if_pos rfl, dropDead_snoc, HDD.out] at this
                          simpa [Hid] using this
                        have hlq2 : (q ++ [x]).length = q.length + 1 := by simp
                        clear HP4 HK4 HQL
                        go_wp2
                        go_roundg q.length
                        case measure => omega
                        case rel => exact ⟨q, qn, _, qc, rfl, rfl, HQN, by omega, hb4, hnx, HO4, hkn⟩
      · have hii : ¬ (ia : Int) < (l.length : Int) := by omega
        have hfin : o = out := by
          rw [← HM.out]
          cases gk with
          | zero => rfl
          | succ n => rw [thinF, if_pos (List.drop_of_length_le (by omega))]
        have HFIN := Lib.hid hfin
        clear hfin
        go_wp2
        exact HR.out _ _ (by rw [← HFIN.out]; exact HOUT.out.es hbw) hbw
end Go.Proofs.Ytgkgahjdjkmmnaa
