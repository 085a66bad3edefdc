/- The law's own waking call. -/
import Derived.Test.YtgkgahjdjkmmnaaSeenW
/- Thinning, in plain lists; small walks for it. -/
namespace Go.Proofs.Ytgkgahjdjkmmnaa
open Go.RowKit

def keyRun : List Ent → Nat
  | [] => 0
  | a :: r => 1 + (r.takeWhile fun e => e.key == a.key).length
theorem keyRun_at {l : List Ent} {k : Nat} (h1 : 1 ≤ k) (hk : k ≤ l.length) (ha : ∀ j (h : j < l.length), j < k → l[j].key = (l[0]'(by omega)).key) (hs : ∀ h : k < l.length, l[k].key ≠ (l[0]'(by omega)).key) : keyRun l = k := by
  match l, h1, hk with
  | [], h1, hk => simp at hk; omega
  | a :: r, h1, hk =>
    show 1 + (r.takeWhile fun e => e.key == a.key).length = k
    have : ∀ (r : List Ent) (k : Nat), k ≤ r.length → (∀ j (h : j < r.length), j < k → r[j].key = a.key) → (∀ h : k < r.length, r[k].key ≠ a.key) → (r.takeWhile fun e => e.key == a.key).length = k := by
      intro r
      induction r with
      | nil => intro k hk _ _; simp at hk; simp [hk]
      | cons b r ih =>
        intro k hk h1 h2
        cases k with
        | zero =>
          have := h2 (by simp)
          rw [List.takeWhile_cons, if_neg (by simpa using this)]
          rfl
        | succ k =>
          have := h1 0 (by simp) (by omega)
          rw [List.takeWhile_cons, if_pos (by simpa using this), List.length_cons, ih k (by simpa using hk) (fun j h hj => h1 (j + 1) (by simpa using h) (by omega)) (fun h => h2 (by simpa using h))]
    rw [this r (k - 1) (by simp at hk; omega) (fun j h hj => by
      have := ha (j + 1) (by simpa using h) (by omega)
      simpa using this) (fun h => by
      have := hs (by simp; omega)
      have e : (a :: r)[k]'(by simp; omega) = r[k - 1] := by
        obtain ⟨k', rfl⟩ : ∃ k', k = k' + 1 := ⟨k - 1, by omega⟩
        simp
      rw [e] at this
      simpa using this)]
    omega
theorem keyRun_le (l : List Ent) : keyRun l ≤ l.length := by
  cases l with
  | nil => simp [keyRun]
  | cons a r =>
    have := (List.takeWhile_sublist (fun e : Ent => e.key == a.key) (l := r)).length_le
    unfold keyRun
    simp
    omega

def pickK (g : List Ent) (m : List Bool) (k : Nat) : List Ent := ((g.zip m).take k).filterMap fun p => if p.2 then some p.1 else none
theorem pickK_succ (g : List Ent) (m : List Bool) (k : Nat) (h : k < g.length) (h2 : k < m.length) : pickK g m (k + 1) = pickK g m k ++ if m[k] then [g[k]] else [] := by
  unfold pickK
  have hz : k < (g.zip m).length := by rw [List.length_zip]; omega
  rw [List.take_succ_eq_append_getElem hz, List.filterMap_append, List.getElem_zip]
  congr 1
  cases m[k] <;> rfl
theorem pickK_len (g : List Ent) (m : List Bool) (k : Nat) : (pickK g m k).length ≤ k := by
  unfold pickK
  have h1 := List.length_filterMap_le (fun p : Ent × Bool => if p.2 then some p.1 else none) ((g.zip m).take k)
  rw [List.length_take] at h1
  omega
theorem pickK_mem {g : List Ent} {m : List Bool} {k : Nat} {e : Ent} (h : e ∈ pickK g m k) : e ∈ g := by
  unfold pickK at h
  obtain ⟨p, hp, he⟩ := List.mem_filterMap.1 h
  split at he
  · simp only [Option.some.injEq] at he
    subst he
    exact (List.of_mem_zip (List.mem_of_mem_take hp)).1
  · cases he
def dropDead (l : List Ent) : List Ent := (l.reverse.dropWhile fun e => e.dead).reverse
theorem dropDead_snoc (p : List Ent) (x : Ent) : dropDead (p ++ [x]) = if x.dead then dropDead p else p ++ [x] := by
  unfold dropDead
  rw [List.reverse_append, List.reverse_singleton, List.singleton_append, List.dropWhile_cons]
  split <;> simp_all
theorem dropDead_nil : dropDead [] = [] := rfl
def keptG (g : List Ent) (b : Bool) (ss : List Int) : List Ent := if b then dropDead (pickK g (seenL g ss) g.length) else pickK g (seenL g ss) g.length
def thinF (b : Bool) (ss : List Int) : Nat → List Ent → List Ent → List Ent
  | 0, _, out => out
  | n + 1, l, out => if l = [] then out else thinF b ss n (l.drop (keyRun l)) (out ++ keptG (l.take (keyRun l)) b ss)
def thinL (l : List Ent) (b : Bool) (ss : List Int) : List Ent × Int := if sortedL l then (thinF b ss l.length l [], 0) else ([], 90)

theorem Es.take {w : World} {a : Option Addr} {n c j : Nat} {l : List Ent} (h : Es w (.slice a n c) l) (hj : j ≤ l.length) : Es w (.slice a j c) (l.take j) := by
  obtain ⟨ad, c', e, h1, h2, h3, h4⟩ := h
  simp only [Value.slice.injEq] at e
  obtain ⟨rfl, rfl, rfl⟩ := e
  have hl : (l.take j).length = j := by rw [List.length_take]; omega
  refine ⟨a, c, by rw [hl], by omega, h2, h3, fun h0 => ?_⟩
  obtain ⟨b, o, rfl, h5⟩ := h4 (by omega)
  refine ⟨b, o, rfl, fun i hi => ?_⟩
  rw [List.getElem_take]
  exact h5 i (by omega)

theorem EsO.take {w : World} {B m j c : Nat} {a : Option Addr} {l : List Ent} (h : EsO w B (.slice a m c) l) (hj : j ≤ l.length) : EsO w B (.slice a j c) (l.take j) := by
  obtain ⟨kv, h1, h2, h3⟩ := h
  have hl : (l.take j).length = j := by rw [List.length_take]; omega
  have hk : (kv.take j).length = (l.take j).length := by simp [h1]
  refine ⟨kv.take j, hk, ?_, fun i hi => ?_⟩
  · rw [hl, ← ecs_take h1 j hj]
    have hlc := ecs_length kv l h1
    refine ⟨by rw [List.length_take, hlc]; omega, ?_⟩
    rcases h2.2 with ⟨hv, h0⟩ | ⟨g, cap, cur, hv, hb, hg, q1, q2, q3, q4⟩
    · left
      simp only [Value.slice.injEq] at hv
      obtain ⟨rfl, rfl, rfl⟩ := hv
      obtain rfl : j = 0 := by omega
      exact ⟨rfl, rfl⟩
    · right
      simp only [Value.slice.injEq] at hv
      obtain ⟨rfl, -, rfl⟩ := hv
      refine ⟨g, c, cur, rfl, hb, hg, by omega, q2, q3, ?_⟩
      have : (cur.toList.take (l.length * 4)).take (j * 4) = cur.toList.take (j * 4) := by rw [List.take_take, Nat.min_eq_left (by omega)]
      rw [← this, q4]
  · have hi2 : i < l.length := by rw [hl] at hi; omega
    have := h3 i hi2
    simpa [List.getElem_take] using this

/-- The first of two lists of one key: newest first. -/
theorem group_mono {g : List Ent} (hs : Srt lessE g) (hk : ∀ x ∈ g, ∀ y ∈ g, x.key = y.key) : ∀ s a b (_ : a ≤ b) (hb : b < g.length) (ha : a < g.length), (g[a]).seq ≤ s → (g[b]).seq ≤ s := by
  intro s a b hab hb ha h
  by_cases e : a = b
  · subst e; exact h
  · have h1 := (List.pairwise_iff_getElem.1 hs) a b ha hb (by omega)
    rcases (lessE_iff _ _).1 h1 with h2 | h2
    · rw [hk g[a] (List.getElem_mem ha) g[b] (List.getElem_mem hb)] at h2
      exact absurd h2 (cb_irr _)
    · omega

set_option maxHeartbeats 400000 in
theorem equal_any (v u : Value) (l m : List UInt8) (r : Bool) (hr : (l == m) = r) (w : World) (hv : Bs w v l) (hu : Bs w u m) (R : Ending → World → Prop)
    (hR : R (.returned (.bool r)) w) :
    Calls Try.prog 38 #[v, u] w R := by
  subst hr
  have h1 := run_conv_bs (P := Try.prog) Try.underlying25 Try.underlying5 Try.underlying9 hv
  have h2 := run_conv_bs (P := Try.prog) Try.underlying25 Try.underlying5 Try.underlying9 hu
  clear hv hu
  go_enter Try.func38, Try.ntmps38
  go_wp2
  exact hR
end Go.Proofs.Ytgkgahjdjkmmnaa

/- merge.Thin. -/
namespace Go.Proofs.Ytgkgahjdjkmmnaa
open Go.RowKit

set_option maxRecDepth 100000 in
set_option maxHeartbeats 8000000 in
theorem thin_any (v u : Value) (l : List Ent) (bt : Bool) (ss : List Int) (out : List Ent) (z : Int) (hout : thinL l bt ss = (out, z)) (w : World) (hv : Es w v l) (hu : Is w u ss) (hn : l.length ≤ 100000) (R : Ending → World → Prop)
    (hR : ∀ L' w', EsO w' w.heap.size L' out → Below w.heap.size w w' → R (.returned (.tuple #[L', .int .i64 z])) w') :
    Calls Try.prog 17 #[v, .bool bt, u] w R := by
  have HR := Lib.hid hR
  have HO := Lib.hid hout
  have HV := Lib.hid hv
  have HU := Lib.hid hu
  have HEBL := Lib.hid hv.eb
  have hv' := hv
  obtain ⟨va, vc, rfl, _⟩ := hv'
  obtain ⟨ua, uc, rfl, _⟩ := hu
  clear hR hout
  obtain ⟨t, ht⟩ : ∃ t, sortedL l = t := ⟨_, rfl⟩
  have HT := Lib.hid ht
  clear ht
  go_enter Try.func17, Try.ntmps17
  go_wp2_with (go_at_call 31; go_must (refine msorted_any _ l t HT.out _ hv _ ?_))
  intro w1 hb1
  clear hv
  cases t with
  | false =>
    have ho : ([], 90) = (out, z) := by rw [← HO.out, thinL, HT.out]; rfl
    simp only [Prod.mk.injEq] at ho
    obtain ⟨rfl, rfl⟩ := ho
    clear HT
    go_wp2
    exact HR.out _ _ (EsO.nil _ _) hb1
  | true =>
    have ho : (thinF bt ss l.length l [], 0) = (out, z) := by rw [← HO.out, thinL, if_pos HT.out]
    simp only [Prod.mk.injEq] at ho
    obtain ⟨ho, rfl⟩ := ho
    have HF := Lib.hid ho
    have HSRT := Lib.hid ((sortedL_srt l).1 HT.out)
    clear HT ho
    go_wp2
    go_loopg [0, 8] l.length (fun n lv outv wr => ∃ l1 o, l1.length ≤ n ∧ Hid (Es w lv l1) ∧ Hid (Srt lessE l1) ∧ Hid (thinF bt ss n l1 o = out) ∧ Hid (EsO wr w.heap.size outv o) ∧ Below w.heap.size w wr ∧ Hid (∀ e ∈ o, EB e) ∧ Hid (∀ e ∈ l1, EB e) ∧ o.length + l1.length ≤ l.length)
    case atStart => exact ⟨l, [], Nat.le_refl _, HV, HSRT, HF, EsO.nil _ _, hb1, (by show ∀ e ∈ ([] : List Ent), EB e; simp), HEBL, by simp⟩
    case round =>
      obtain ⟨l1, o, hlg, HL1, HS1, HM, HOUT, hbw, HEB, HEB1, hol⟩ := hrel
      obtain ⟨wo, rfl⟩ : ∃ x, x = wr := ⟨_, rfl⟩
      have hl1 := HL1.out
      obtain ⟨xa, xc, rfl, _⟩ := hl1
      obtain ⟨oa, oc, rfl⟩ := EsO.shape HOUT.out
      by_cases hnil : l1 = []
      · subst hnil
        have hfin : o = out := by
          rw [← HM.out]
          cases gk with
          | zero => rfl
          | succ n => rw [thinF, if_pos rfl]
        have HFIN := Lib.hid hfin
        clear hfin
        go_wp2
        exact HR.out _ _ (by rw [← HFIN.out]; exact HOUT.out) hbw
      · have hlpos : 0 < l1.length := List.length_pos_iff.2 hnil
        have hli : (0 : Int) < (l1.length : Int) := by omega
        obtain ⟨m, rfl⟩ : ∃ m, gk = m + 1 := ⟨gk - 1, by omega⟩
        have hstep : thinF bt ss m (l1.drop (keyRun l1)) (o ++ keptG (l1.take (keyRun l1)) bt ss) = out := by
          have := HM.out
          rw [thinF, if_neg hnil] at this
          exact this
        have HST := Lib.hid hstep
        clear hstep HM hnil
        go_wp2
        go_loopw [9] (fun i wx => ∃ k : Nat, 1 ≤ k ∧ k ≤ l1.length ∧ i = .int .i64 k ∧ Below wo.heap.size wo wx ∧ Hid (∀ j (h : j < l1.length), j < k → l1[j].key = (l1[0]'(by omega)).key)) (fun i _ => l1.length - (intOf i).toNat)
        case atStart => exact ⟨1, Nat.le_refl _, by omega, rfl, Below.refl _ _, fun j h hj => by (obtain rfl : j = 0 := (by omega)); rfl⟩
        case round =>
          obtain ⟨k, hk1, hk, rfl, hbx, HK⟩ := hrel
          have hbxw : Below w.heap.size w wr := below_then hbw hbx hbw.size
          obtain ⟨xa', xc', ee, _, _, _, x4⟩ := HL1.out.below hbxw
          simp only [Value.slice.injEq] at ee
          obtain ⟨rfl, -, rfl⟩ := ee
          obtain ⟨xb, xo, rfl, x5⟩ := x4 hlpos
          obtain ⟨k0, v0, p0, he0⟩ := x5 0 hlpos
          obtain ⟨a, ha⟩ : ∃ a, l1[0] = a := ⟨_, rfl⟩
          rw [ha] at p0 he0
          have c0 : wr.cell? ⟨xb, xo, none⟩ = some k0 := by have := p0.1; simpa using this
          by_cases hlt : k < l1.length
          · have hkk : (k : Int) < (l1.length : Int) := by omega
            have hk0 : (0 : Int) ≤ (k : Int) := by omega
            obtain ⟨kk, kv, pk, hek⟩ := x5 k hlt
            obtain ⟨y, hy⟩ : ∃ y, l1[k] = y := ⟨_, rfl⟩
            rw [hy] at pk hek
            have ck : wr.cell? ⟨xb, xo + k * 4, none⟩ = some kk := pk.1
            obtain ⟨r, hr⟩ : ∃ r, (y.key == a.key) = r := ⟨_, rfl⟩
            have HR1 := Lib.hid hr
            have HY := Lib.hid hy
            have HA := Lib.hid ha
            obtain ⟨ka1, ka2, rfl, _⟩ := he0.hk
            obtain ⟨kb1, kb2, rfl, _⟩ := hek.hk
            have bk0 := he0.hk
            have bkk := hek.hk
            clear x4 x5 p0 pk he0 hek hr hy ha
            go_wp2
            have d0 : wr.drew.cell? ⟨xb, xo, none⟩ = some (Value.slice ka1 a.key.length ka2) := c0
            have dk : wr.drew.cell? ⟨xb, xo + k * 4, none⟩ = some (Value.slice kb1 y.key.length kb2) := ck
            go_region_held3 (fun w' => w'.cell? ⟨xb, xo, none⟩ = some (Value.slice ka1 a.key.length ka2) ∧ w'.cell? ⟨xb, xo + k * 4, none⟩ = some (Value.slice kb1 y.key.length kb2))
              (first | exact ⟨d0, dk⟩ | go_keep)
              ((go_at_call 38; refine equal_any _ _ y.key a.key r HR1.out _ bkk.drew bk0.drew _ ?_))
            have hbd : Below wo.heap.size wo wr.drew := hbx.drew
            clear c0 ck d0 dk bk0 bkk
            cases r with
            | true =>
              have hnx : Hid (∀ j (h : j < l1.length), j < k + 1 → l1[j].key = (l1[0]'(by omega)).key) := by
                intro j h hj
                by_cases hjk : j = k
                · subst hjk
                  rw [HY.out, HA.out]
                  have := HR1.out
                  simpa using this
                · exact HK.out j h (by omega)
              clear HK HR1
              go_wp2
              go_roundw
              case rel => exact ⟨k + 1, by omega, by omega, by go_num, hbd, hnx⟩
              case measure => simp [intOf]; omega
            | false =>
              have hkr : Hid (keyRun l1 = k) := keyRun_at hk1 hk HK.out (fun h => by
                rw [HY.out, HA.out]
                have := HR1.out
                simpa using this)
              clear HR1 HY HA
              go_wp2_with fail
              have hw2 : Below w.heap.size w wr.drew := below_then hbw hbd hbw.size
              obtain ⟨g, hgt⟩ : ∃ g, l1.take k = g := ⟨_, rfl⟩
              have hgl : g.length = k := by rw [← hgt, List.length_take]; omega
              have hsg : Srt lessE g := by rw [← hgt]; exact HS1.out.sublist (List.take_sublist _ _)
              have hkg : ∀ x ∈ g, ∀ y ∈ g, x.key = y.key := by
                intro x hx y hy
                rw [← hgt] at hx hy
                obtain ⟨i, hi, rfl⟩ := List.getElem_of_mem hx
                obtain ⟨j, hj, rfl⟩ := List.getElem_of_mem hy
                rw [List.length_take] at hi hj
                rw [List.getElem_take, List.getElem_take, HK.out i (by omega) (by omega), HK.out j (by omega) (by omega)]
              have hesg : Es wr.drew (.slice (some ⟨xb, xo, none⟩) g.length xc) g := by
                have := (HL1.out.below hw2).take hk
                rw [hgt] at this
                rw [hgl]
                exact this
              have hebg : ∀ e ∈ g, EB e := fun e he => HEB1.out e (by rw [← hgt] at he; exact List.mem_of_mem_take he)
              have hstep : thinF bt ss m (l1.drop k) (o ++ keptG g bt ss) = out := by
                have := HST.out
                rw [hkr.out, hgt] at this
                exact this
              obtain ⟨mk, hmk⟩ : ∃ mk, seenL g ss = mk := ⟨_, rfl⟩
              have hml : mk.length = k := by rw [← hmk, ← hgl]; exact seenK_len _ _ _
              have hkept : keptG g bt ss = if bt then dropDead (pickK g mk k) else pickK g mk k := by rw [keptG, hmk, hgl]
              have HMKE := Lib.hid hmk
              have HKEPT := Lib.hid hkept
              have HSTEP := Lib.hid hstep
              have HGL := Lib.hid hgl
              have HEBG := Lib.hid hebg
              have HGT := Lib.hid hgt
              have HESG := Lib.hid hesg
              have HWW := Lib.hid hw2
              have HIU := Lib.hid (HU.out.below hw2)
              have HGM := Lib.hid (group_mono hsg hkg)
              have HOUT2 := Lib.hid (HOUT.out.below hbd)
              have hsz2 := hw2.size
              have HSR := HS1
              clear hkept hstep hebg hgt hsg hkg hesg hw2 hkr HST HK HS1 HOUT hmk
              rw [← HGL.out]
              refine seen_any _ _ g ss mk HMKE.out (by omega) (by omega) HGM.out _ HESG.out HIU.out _ ?_
              rw [HGL.out]
              clear hgl
              intro sb sc w3 hown3 hy3
              have HMK3 := Lib.hid hown3
              have HB3 := Lib.hid (below_then HWW.out hy3 hsz2)
              have HO3 := Lib.hid (HOUT2.out.below hy3)
              clear hown3 hy3
              go_wp2
              go_loopw [8, 45] (fun outv i wx => ∃ j : Nat, j ≤ k ∧ i = .int .i64 j ∧ Below w.heap.size w wx ∧ Hid (EsO wx w.heap.size outv (o ++ pickK g mk j)) ∧ ∃ sB, Hid (wx.ownsRow sB 4 1 (.slice (some ⟨sb, 0, none⟩) k sc) k (mk.map Value.bool))) (fun _ i _ => k - (intOf i).toNat)
              case atStart => exact ⟨0, Nat.zero_le _, rfl, HB3.out, by rw [show pickK g mk 0 = [] by simp [pickK], List.append_nil]; exact HO3, _, HMK3⟩
              case round =>
                obtain ⟨j, hj, rfl, hb, HO, sB, HMK⟩ := hrel
                obtain ⟨pa, pc, rfl⟩ := EsO.shape HO.out
                obtain ⟨pl, hpl⟩ : ∃ pl, (o ++ pickK g mk j).length = pl := ⟨_, rfl⟩
                have hplb : pl ≤ o.length + j := by rw [← hpl, List.length_append]; have := pickK_len g mk j; omega
                rw [hpl]
                have HOP : Hid (EsO wr w.heap.size (.slice pa pl pc) (o ++ pickK g mk j)) := by rw [← hpl]; exact HO
                have HPL := Lib.hid hpl
                clear hpl HO
                have hz := hb.size
                by_cases hlt : j < k
                · have hjj : (j : Int) < (k : Int) := by omega
                  have hmj : j < mk.length := by omega
                  have hgj : j < g.length := by have := HGL.out; omega
                  have cm : wr.cell? ⟨sb, j, none⟩ = some (Value.bool mk[j]) := by
                    rw [HMK.out.cellAt j (by omega), List.getElem?_map, List.getElem?_eq_getElem hmj]
                    rfl
                  have hps := pickK_succ g mk j hgj hmj
                  obtain ⟨r, hr⟩ : ∃ r, mk[j] = r := ⟨_, rfl⟩
                  rw [hr] at hps cm
                  have HPS := Lib.hid hps
                  clear hps hr
                  cases r with
                  | false =>
                    have hnx : Hid (EsO wr w.heap.size (.slice pa pl pc) (o ++ pickK g mk (j + 1))) := by
                      show EsO _ _ _ _
                      rw [HPS.out]
                      simpa using HOP.out
                    clear HPS HOP
                    go_wp2
                    go_roundw
                    case rel => exact ⟨j + 1, by omega, by go_num, hb, hnx, _, HMK⟩
                    case measure => simp [intOf]; omega
                  | true =>
                    obtain ⟨xa', xc', ee, _, _, _, x4⟩ := HL1.out.below hb
                    simp only [Value.slice.injEq] at ee
                    obtain ⟨ee, -, rfl⟩ := ee
                    subst ee
                    obtain ⟨xb', xo', ee, x5⟩ := x4 hlpos
                    simp only [Option.some.injEq, Addr.mk.injEq, and_true] at ee
                    obtain ⟨rfl, rfl⟩ := ee
                    obtain ⟨k0, v0, p, hec⟩ := x5 j (by omega)
                    have hgj2 : l1[j]'(by omega) = g[j] := by
                      have e1 : g[j]? = (l1.take k)[j]? := by rw [HGT.out]
                      rw [List.getElem?_take, if_pos hlt, List.getElem?_eq_getElem hgj, List.getElem?_eq_getElem (by omega)] at e1
                      exact (Option.some.inj e1).symm
                    rw [hgj2] at p hec
                    obtain ⟨x, hx⟩ : ∃ x, g[j] = x := ⟨_, rfl⟩
                    rw [hx] at p hec
                    have HX := Lib.hid hx
                    obtain ⟨p0, p1, p2, p3⟩ := p
                    obtain ⟨k1, k2, k3, rfl⟩ : ∃ a n c, k0 = .slice a n c := by obtain ⟨a, c, h, _⟩ := hec.hk; exact ⟨_, _, _, h⟩
                    obtain ⟨v1, v2, v3, rfl⟩ := EC.shape hec
                    obtain ⟨kv, hkv, hrow, heach⟩ := HOP.out
                    rw [HPL.out] at hrow
                    have hj0 : (0 : Int) ≤ (j : Int) := by omega
                    have hjl : (j : Int) < (l1.length : Int) := by omega
                    clear x4 x5 hx hgj2
                    go_wp2_with (first
                      | (go_at_call 34; go_must (refine copied_any _ _ x _ hec _ ?_); intro k' v' w5 heo hy5; obtain ⟨ka', kc', rfl⟩ := owns_shape heo.hk; obtain ⟨va', vc', rfl⟩ := owns_shape heo.hv; have hrow5 := owns_below hrow hy5)
                      | (at_builtin; go_must (refine wpList_app (by rfl) (.tmp 51) (.tmp 57) 24 (by rfl) w.heap.size 27 (.agg #[.slice none 0 0, .slice none 0 0, .int .i64 0, .bool false]) 4 64 Try.underlying24 Try.info27 rfl (by decide) _ _ _ _ rfl (World.ownsRow.alloc hrow5 _) _ _ _ _ rfl (rd_lit _ _ _ 4 1 rfl) (ec_oneCell _ _ _ _ _ _) (by simp) (by unfold maxLen; omega) (by omega) (by have := hy5.size; simp; omega) ?_)))
                    intro ad6 c6 w6 hown6 hg6
                    have hk6 : Keeps 5 w5 w6 := (Keeps.below ((Below.refl w5.heap.size w5).alloc (Nat.le_refl _) _)).trans (Keeps.grown4 (hrow5.alloc _) hg6 (by decide))
                    have hbN : Below w.heap.size w w6 := below_app ((below_then hb hy5 hz).alloc (by have := hy5.size; omega) _) hg6 (by have := hy5.size; simp; omega) (hrow5.alloc _)
                    have hmk6 := owns_grown ((owns_below HMK.out hy5).alloc _) hg6 (fun q hq hc => own_size_ne (owns_below HMK.out hy5) hrow5 (by decide) q hq hc.symm)
                    have hES6 : EsO w6 w.heap.size (.slice ad6 (pl + 1) c6) ((o ++ pickK g mk j) ++ [x]) := EsO.push (k := .slice ka' x.key.length kc') (v := .slice va' x.val.length vc') (e := x) hkv (fun q hq => (heach q hq).below hy5) hk6 (by rw [HPL.out]; exact hown6) (heo.mono hz)
                    have hnx : Hid (EsO w6 w.heap.size (.slice ad6 (pl + 1) c6) (o ++ pickK g mk (j + 1))) := by
                      show EsO _ _ _ _
                      have e9 : pickK g mk (j + 1) = pickK g mk j ++ [x] := by rw [HPS.out, ← HX.out]; simp
                      rw [e9, ← List.append_assoc]
                      exact hES6
                    have HMK6 := Lib.hid hmk6
                    have HBN := Lib.hid hbN
                    clear hES6 hmk6 hbN hown6 hg6 hrow5 hrow heach heo hk6 hy5 hec p0 p1 p2 p3 HPS HX
                    go_wp2
                    go_roundw
                    case rel => exact ⟨j + 1, by omega, by go_num, HBN.out, hnx, _, HMK6⟩
                    case measure => simp [intOf]; omega
                · obtain rfl : j = k := by omega
                  have hkk2 : ¬ (j : Int) < (j : Int) := by omega
                  obtain ⟨pk, hpk⟩ : ∃ pk, pickK g mk j = pk := ⟨_, rfl⟩
                  have hpkl : pk.length ≤ j := by rw [← hpk]; exact pickK_len g mk j
                  have hpke : ∀ e ∈ pk, EB e := fun e he => HEBG.out e (by rw [← hpk] at he; exact pickK_mem he)
                  have hkf : keptG g bt ss = if bt then dropDead pk else pk := by rw [HKEPT.out, hpk]
                  have HPKE := Lib.hid hpke
                  have HKF := Lib.hid hkf
                  have HOQ : Hid (EsO wr w.heap.size (.slice pa pl pc) (o ++ pk)) := by rw [← hpk]; exact HOP
                  have hpl2 : pl = o.length + pk.length := by rw [← HPL.out, hpk, List.length_append]
                  have HPL2 := Lib.hid hpl2
                  clear hpk hpke hkf HOP HPL HKEPT hpl2
                  go_wp2
                  go_loopg [8] pk.length (fun n outv wx => ∃ (p : List Ent) (ql : Nat) (qa : Option Addr) (qc : Nat), outv = .slice qa ql qc ∧ p.length = n ∧ Hid (ql = o.length + p.length) ∧ ql ≤ pl ∧ Below w.heap.size w wx ∧ Hid (EsO wx w.heap.size (.slice qa ql qc) (o ++ p)) ∧ Hid ((if bt then dropDead p else p) = keptG g bt ss) ∧ Hid (∀ e ∈ p, EB e))
                  case atStart => exact ⟨pk, pl, pa, pc, rfl, rfl, HPL2, Nat.le_refl _, hb, HOQ, Lib.hid HKF.out.symm, HPKE⟩
                  case round =>
                    obtain ⟨p, ql, qa, qc, rfl, hpn, HQL, hqp, hb4, HO4, HK4, HP4⟩ := hrel
                    cases bt with
                    | false =>
                      have hke : Hid (keptG g false ss = p) := by have := HK4.out; simpa [Hid] using this.symm
                      obtain ⟨Lx, hsl, hesx⟩ := es_from (j := j) HL1.out hk
                      have HESX := Lib.hid hesx
                      have hdl : (l1.drop j).length = l1.length - j := List.length_drop
                      have hstn : Hid (thinF false ss m (l1.drop j) (o ++ p) = out) := by
                        have := HSTEP.out
                        rw [hke.out] at this
                        exact this
                      clear hesx HKF HK4 HSTEP
                      go_wp2
                      go_roundg m
                      case measure => omega
                      case rel => exact ⟨l1.drop j, o ++ p, by omega, HESX, Lib.hid (HSR.out.sublist (List.drop_sublist _ _)), hstn, HO4, hb4, Lib.hid (fun e he => (List.mem_append.1 he).elim (HEB.out e) (HP4.out e)), Lib.hid (fun e he => HEB1.out e (List.mem_of_mem_drop he)), by have := HQL.out; simp at *; omega⟩
                    | true =>
                      by_cases hp0 : p = []
                      · have hke : Hid (keptG g true ss = p) := by
                          have := HK4.out
                          rw [hp0] at this
                          rw [hp0]
                          simpa [Hid, dropDead_nil] using this.symm
                        have hqo : ql = o.length := by rw [HQL.out, hp0]; simp
                        have hqn : ¬ (o.length : Int) < (ql : Int) := by omega
                        have hqn2 : decide (o.length < ql) = false := decide_eq_false (by omega)
                        clear hqo
                        obtain ⟨Lx, hsl, hesx⟩ := es_from (j := j) HL1.out hk
                        have HESX := Lib.hid hesx
                        have hdl : (l1.drop j).length = l1.length - j := List.length_drop
                        have hstn : Hid (thinF true ss m (l1.drop j) (o ++ p) = out) := by
                          have := HSTEP.out
                          rw [hke.out] at this
                          exact this
                        clear hesx HKF HK4 HSTEP
                        go_wp2
                        go_roundg m
                        case measure => omega
                        case rel => exact ⟨l1.drop j, o ++ p, by omega, HESX, Lib.hid (HSR.out.sublist (List.drop_sublist _ _)), hstn, HO4, hb4, Lib.hid (fun e he => (List.mem_append.1 he).elim (HEB.out e) (HP4.out e)), Lib.hid (fun e he => HEB1.out e (List.mem_of_mem_drop he)), by have := HQL.out; simp at *; omega⟩
                      · obtain ⟨q, x, hqx⟩ : ∃ q x, p = q ++ [x] := ⟨p.dropLast, p.getLast hp0, (List.dropLast_concat_getLast hp0).symm⟩
                        subst hqx
                        obtain ⟨qn, rfl⟩ : ∃ qn, ql = qn + 1 := ⟨ql - 1, by have := HQL.out; simp at this; omega⟩
                        have hqn : qn = o.length + q.length := by have := HQL.out; simp at this; omega
                        obtain ⟨qb, qo, rfl, q3, hqc⟩ : ∃ qb qo, qa = some ⟨qb, qo, none⟩ ∧ wr.cell? ⟨qb, qo + qn * 4 + 3, none⟩ = some (Value.bool x.dead) ∧ qn + 1 ≤ qc := by
                          have hol : (o ++ (q ++ [x])).length = qn + 1 := by simp; omega
                          have hes : Es wr (.slice qa (o ++ (q ++ [x])).length qc) (o ++ (q ++ [x])) := EsO.es (by rw [hol]; exact HO4.out) (by
                            intro e he
                            rcases List.mem_append.1 he with he | he
                            · exact HEB.out e he
                            · exact HP4.out e he)
                          obtain ⟨qa', qc', ee, q1, _, _, q4⟩ := hes
                          simp only [Value.slice.injEq] at ee
                          obtain ⟨rfl, -, rfl⟩ := ee
                          obtain ⟨qb, qo, rfl, q5⟩ := q4 (by omega)
                          obtain ⟨qk, qv, ⟨_, _, _, q3⟩, _⟩ := q5 qn (by omega)
                          have hx : (o ++ (q ++ [x]))[qn]'(by omega) = x := by
                            rw [List.getElem_append_right (by omega), List.getElem_append_right (by omega)]
                            simp
                          rw [hx] at q3
                          exact ⟨qb, qo, rfl, q3, by omega⟩
                        have hg1 : (o.length : Int) < (qn : Int) + 1 := by omega
                        have hg2 : decide (o.length < qn + 1) = true := decide_eq_true (by omega)
                        have hg3 : o.length < qn + 1 := by omega
                        have hqc2 : qn ≤ qc := by omega
                        obtain ⟨dd, hdd⟩ : ∃ dd, x.dead = dd := ⟨_, rfl⟩
                        rw [hdd] at q3
                        have HDD := Lib.hid hdd
                        have HQN := Lib.hid hqn
                        clear hdd hqn hp0
                        cases dd with
                        | false =>
                          have hke : Hid (keptG g true ss = q ++ [x]) := by
                            have := HK4.out
                            rw [if_pos rfl, dropDead_snoc, HDD.out] at this
                            simpa [Hid] using this.symm
                          obtain ⟨Lx, hsl, hesx⟩ := es_from (j := j) HL1.out hk
                          have HESX := Lib.hid hesx
                          have hdl : (l1.drop j).length = l1.length - j := List.length_drop
                          have hstn : Hid (thinF true ss m (l1.drop j) (o ++ (q ++ [x])) = out) := by
                            have := HSTEP.out
                            rw [hke.out] at this
                            exact this
                          clear hesx HKF HK4 HSTEP
                          go_wp2
                          go_roundg m
                          case measure => omega
                          case rel => exact ⟨l1.drop j, o ++ (q ++ [x]), by omega, HESX, Lib.hid (HSR.out.sublist (List.drop_sublist _ _)), hstn, HO4, hb4, Lib.hid (fun e he => (List.mem_append.1 he).elim (HEB.out e) (HP4.out e)), Lib.hid (fun e he => HEB1.out e (List.mem_of_mem_drop he)), by have := HQL.out; simp at *; omega⟩
                        | true =>
                          have hnx : Hid (EsO wr w.heap.size (.slice (some ⟨qb, qo, none⟩) qn qc) (o ++ q)) := by
                            have := EsO.take (j := qn) HO4.out (by simp; have := HQN.out; omega)
                            have e : (o ++ (q ++ [x])).take qn = o ++ q := by
                              rw [← List.append_assoc]
                              exact List.take_left' (by rw [List.length_append]; exact HQN.out.symm)
                            rw [e] at this
                            exact this
                          have hkn : Hid ((if true = true then dropDead q else q) = keptG g true ss) := by
                            have := HK4.out
                            rw [if_pos rfl, dropDead_snoc, HDD.out] at this
                            simpa [Hid] using this
                          have hpe : Hid (∀ e ∈ q, EB e) := fun e he => HP4.out e (List.mem_append_left _ he)
                          have hlq : (q ++ [x]).length = q.length + 1 := by simp
                          clear HO4 HK4 HP4 HQL
                          go_wp2
                          go_roundg q.length
                          case measure => omega
                          case rel => exact ⟨q, qn, _, qc, rfl, rfl, HQN, by omega, hb4, hnx, hkn, hpe⟩
          · have hkk : ¬ (k : Int) < (l1.length : Int) := by omega
            have hkr : Hid (keyRun l1 = k) := keyRun_at hk1 hk HK.out (fun h => absurd h hlt)
            clear x4 x5 p0 he0 ha c0
            go_wp2
            go_quiet (fail)
            go_wp2_with fail
            have hbd : Below wo.heap.size wo (wr.drewN nq) := below_drewN hbx
            have hw2 : Below w.heap.size w (wr.drewN nq) := below_then hbw hbd hbw.size
            obtain ⟨g, hgt⟩ : ∃ g, l1.take k = g := ⟨_, rfl⟩
            have hgl : g.length = k := by rw [← hgt, List.length_take]; omega
            have hsg : Srt lessE g := by rw [← hgt]; exact HS1.out.sublist (List.take_sublist _ _)
            have hkg : ∀ x ∈ g, ∀ y ∈ g, x.key = y.key := by
              intro x hx y hy
              rw [← hgt] at hx hy
              obtain ⟨i, hi, rfl⟩ := List.getElem_of_mem hx
              obtain ⟨j, hj, rfl⟩ := List.getElem_of_mem hy
              rw [List.length_take] at hi hj
              rw [List.getElem_take, List.getElem_take, HK.out i (by omega) (by omega), HK.out j (by omega) (by omega)]
            have hesg : Es (wr.drewN nq) (.slice (some ⟨xb, xo, none⟩) g.length xc) g := by
              have := (HL1.out.below hw2).take hk
              rw [hgt] at this
              rw [hgl]
              exact this
            have hebg : ∀ e ∈ g, EB e := fun e he => HEB1.out e (by rw [← hgt] at he; exact List.mem_of_mem_take he)
            have hstep : thinF bt ss m (l1.drop k) (o ++ keptG g bt ss) = out := by
              have := HST.out
              rw [hkr.out, hgt] at this
              exact this
            obtain ⟨mk, hmk⟩ : ∃ mk, seenL g ss = mk := ⟨_, rfl⟩
            have hml : mk.length = k := by rw [← hmk, ← hgl]; exact seenK_len _ _ _
            have hkept : keptG g bt ss = if bt then dropDead (pickK g mk k) else pickK g mk k := by rw [keptG, hmk, hgl]
            have HMKE := Lib.hid hmk
            have HKEPT := Lib.hid hkept
            have HSTEP := Lib.hid hstep
            have HGL := Lib.hid hgl
            have HEBG := Lib.hid hebg
            have HGT := Lib.hid hgt
            have HESG := Lib.hid hesg
            have HWW := Lib.hid hw2
            have HIU := Lib.hid (HU.out.below hw2)
            have HGM := Lib.hid (group_mono hsg hkg)
            have HOUT2 := Lib.hid (HOUT.out.below hbd)
            have hsz2 := hw2.size
            have HSR := HS1
            clear hkept hstep hebg hgt hsg hkg hesg hw2 hkr HST HK HS1 HOUT hmk
            rw [← HGL.out]
            refine seen_any _ _ g ss mk HMKE.out (by omega) (by omega) HGM.out _ HESG.out HIU.out _ ?_
            rw [HGL.out]
            clear hgl
            intro sb sc w3 hown3 hy3
            have HMK3 := Lib.hid hown3
            have HB3 := Lib.hid (below_then HWW.out hy3 hsz2)
            have HO3 := Lib.hid (HOUT2.out.below hy3)
            clear hown3 hy3
            go_wp2
            go_loopw [8, 45] (fun outv i wx => ∃ j : Nat, j ≤ k ∧ i = .int .i64 j ∧ Below w.heap.size w wx ∧ Hid (EsO wx w.heap.size outv (o ++ pickK g mk j)) ∧ ∃ sB, Hid (wx.ownsRow sB 4 1 (.slice (some ⟨sb, 0, none⟩) k sc) k (mk.map Value.bool))) (fun _ i _ => k - (intOf i).toNat)
            case atStart => exact ⟨0, Nat.zero_le _, rfl, HB3.out, by rw [show pickK g mk 0 = [] by simp [pickK], List.append_nil]; exact HO3, _, HMK3⟩
            case round =>
              obtain ⟨j, hj, rfl, hb, HO, sB, HMK⟩ := hrel
              obtain ⟨pa, pc, rfl⟩ := EsO.shape HO.out
              obtain ⟨pl, hpl⟩ : ∃ pl, (o ++ pickK g mk j).length = pl := ⟨_, rfl⟩
              have hplb : pl ≤ o.length + j := by rw [← hpl, List.length_append]; have := pickK_len g mk j; omega
              rw [hpl]
              have HOP : Hid (EsO wr w.heap.size (.slice pa pl pc) (o ++ pickK g mk j)) := by rw [← hpl]; exact HO
              have HPL := Lib.hid hpl
              clear hpl HO
              have hz := hb.size
              by_cases hlt : j < k
              · have hjj : (j : Int) < (k : Int) := by omega
                have hmj : j < mk.length := by omega
                have hgj : j < g.length := by have := HGL.out; omega
                have cm : wr.cell? ⟨sb, j, none⟩ = some (Value.bool mk[j]) := by
                  rw [HMK.out.cellAt j (by omega), List.getElem?_map, List.getElem?_eq_getElem hmj]
                  rfl
                have hps := pickK_succ g mk j hgj hmj
                obtain ⟨r, hr⟩ : ∃ r, mk[j] = r := ⟨_, rfl⟩
                rw [hr] at hps cm
                have HPS := Lib.hid hps
                clear hps hr
                cases r with
                | false =>
                  have hnx : Hid (EsO wr w.heap.size (.slice pa pl pc) (o ++ pickK g mk (j + 1))) := by
                    show EsO _ _ _ _
                    rw [HPS.out]
                    simpa using HOP.out
                  clear HPS HOP
                  go_wp2
                  go_roundw
                  case rel => exact ⟨j + 1, by omega, by go_num, hb, hnx, _, HMK⟩
                  case measure => simp [intOf]; omega
                | true =>
                  obtain ⟨xa', xc', ee, _, _, _, x4⟩ := HL1.out.below hb
                  simp only [Value.slice.injEq] at ee
                  obtain ⟨ee, -, rfl⟩ := ee
                  subst ee
                  obtain ⟨xb', xo', ee, x5⟩ := x4 hlpos
                  simp only [Option.some.injEq, Addr.mk.injEq, and_true] at ee
                  obtain ⟨rfl, rfl⟩ := ee
                  obtain ⟨k0, v0, p, hec⟩ := x5 j (by omega)
                  have hgj2 : l1[j]'(by omega) = g[j] := by
                    have e1 : g[j]? = (l1.take k)[j]? := by rw [HGT.out]
                    rw [List.getElem?_take, if_pos hlt, List.getElem?_eq_getElem hgj, List.getElem?_eq_getElem (by omega)] at e1
                    exact (Option.some.inj e1).symm
                  rw [hgj2] at p hec
                  obtain ⟨x, hx⟩ : ∃ x, g[j] = x := ⟨_, rfl⟩
                  rw [hx] at p hec
                  have HX := Lib.hid hx
                  obtain ⟨p0, p1, p2, p3⟩ := p
                  obtain ⟨k1, k2, k3, rfl⟩ : ∃ a n c, k0 = .slice a n c := by obtain ⟨a, c, h, _⟩ := hec.hk; exact ⟨_, _, _, h⟩
                  obtain ⟨v1, v2, v3, rfl⟩ := EC.shape hec
                  obtain ⟨kv, hkv, hrow, heach⟩ := HOP.out
                  rw [HPL.out] at hrow
                  have hj0 : (0 : Int) ≤ (j : Int) := by omega
                  have hjl : (j : Int) < (l1.length : Int) := by omega
                  clear x4 x5 hx hgj2
                  go_wp2_with (first
                    | (go_at_call 34; go_must (refine copied_any _ _ x _ hec _ ?_); intro k' v' w5 heo hy5; obtain ⟨ka', kc', rfl⟩ := owns_shape heo.hk; obtain ⟨va', vc', rfl⟩ := owns_shape heo.hv; have hrow5 := owns_below hrow hy5)
                    | (at_builtin; go_must (refine wpList_app (by rfl) (.tmp 51) (.tmp 57) 24 (by rfl) w.heap.size 27 (.agg #[.slice none 0 0, .slice none 0 0, .int .i64 0, .bool false]) 4 64 Try.underlying24 Try.info27 rfl (by decide) _ _ _ _ rfl (World.ownsRow.alloc hrow5 _) _ _ _ _ rfl (rd_lit _ _ _ 4 1 rfl) (ec_oneCell _ _ _ _ _ _) (by simp) (by unfold maxLen; omega) (by omega) (by have := hy5.size; simp; omega) ?_)))
                  intro ad6 c6 w6 hown6 hg6
                  have hk6 : Keeps 5 w5 w6 := (Keeps.below ((Below.refl w5.heap.size w5).alloc (Nat.le_refl _) _)).trans (Keeps.grown4 (hrow5.alloc _) hg6 (by decide))
                  have hbN : Below w.heap.size w w6 := below_app ((below_then hb hy5 hz).alloc (by have := hy5.size; omega) _) hg6 (by have := hy5.size; simp; omega) (hrow5.alloc _)
                  have hmk6 := owns_grown ((owns_below HMK.out hy5).alloc _) hg6 (fun q hq hc => own_size_ne (owns_below HMK.out hy5) hrow5 (by decide) q hq hc.symm)
                  have hES6 : EsO w6 w.heap.size (.slice ad6 (pl + 1) c6) ((o ++ pickK g mk j) ++ [x]) := EsO.push (k := .slice ka' x.key.length kc') (v := .slice va' x.val.length vc') (e := x) hkv (fun q hq => (heach q hq).below hy5) hk6 (by rw [HPL.out]; exact hown6) (heo.mono hz)
                  have hnx : Hid (EsO w6 w.heap.size (.slice ad6 (pl + 1) c6) (o ++ pickK g mk (j + 1))) := by
                    show EsO _ _ _ _
                    have e9 : pickK g mk (j + 1) = pickK g mk j ++ [x] := by rw [HPS.out, ← HX.out]; simp
                    rw [e9, ← List.append_assoc]
                    exact hES6
                  have HMK6 := Lib.hid hmk6
                  have HBN := Lib.hid hbN
                  clear hES6 hmk6 hbN hown6 hg6 hrow5 hrow heach heo hk6 hy5 hec p0 p1 p2 p3 HPS HX
                  go_wp2
                  go_roundw
                  case rel => exact ⟨j + 1, by omega, by go_num, HBN.out, hnx, _, HMK6⟩
                  case measure => simp [intOf]; omega
              · obtain rfl : j = k := by omega
                have hkk2 : ¬ (j : Int) < (j : Int) := by omega
                obtain ⟨pk, hpk⟩ : ∃ pk, pickK g mk j = pk := ⟨_, rfl⟩
                have hpkl : pk.length ≤ j := by rw [← hpk]; exact pickK_len g mk j
                have hpke : ∀ e ∈ pk, EB e := fun e he => HEBG.out e (by rw [← hpk] at he; exact pickK_mem he)
                have hkf : keptG g bt ss = if bt then dropDead pk else pk := by rw [HKEPT.out, hpk]
                have HPKE := Lib.hid hpke
                have HKF := Lib.hid hkf
                have HOQ : Hid (EsO wr w.heap.size (.slice pa pl pc) (o ++ pk)) := by rw [← hpk]; exact HOP
                have hpl2 : pl = o.length + pk.length := by rw [← HPL.out, hpk, List.length_append]
                have HPL2 := Lib.hid hpl2
                clear hpk hpke hkf HOP HPL HKEPT hpl2
                go_wp2
                go_loopg [8] pk.length (fun n outv wx => ∃ (p : List Ent) (ql : Nat) (qa : Option Addr) (qc : Nat), outv = .slice qa ql qc ∧ p.length = n ∧ Hid (ql = o.length + p.length) ∧ ql ≤ pl ∧ Below w.heap.size w wx ∧ Hid (EsO wx w.heap.size (.slice qa ql qc) (o ++ p)) ∧ Hid ((if bt then dropDead p else p) = keptG g bt ss) ∧ Hid (∀ e ∈ p, EB e))
                case atStart => exact ⟨pk, pl, pa, pc, rfl, rfl, HPL2, Nat.le_refl _, hb, HOQ, Lib.hid HKF.out.symm, HPKE⟩
                case round =>
                  obtain ⟨p, ql, qa, qc, rfl, hpn, HQL, hqp, hb4, HO4, HK4, HP4⟩ := hrel
                  cases bt with
                  | false =>
                    have hke : Hid (keptG g false ss = p) := by have := HK4.out; simpa [Hid] using this.symm
                    obtain ⟨Lx, hsl, hesx⟩ := es_from (j := j) HL1.out hk
                    have HESX := Lib.hid hesx
                    have hdl : (l1.drop j).length = l1.length - j := List.length_drop
                    have hstn : Hid (thinF false ss m (l1.drop j) (o ++ p) = out) := by
                      have := HSTEP.out
                      rw [hke.out] at this
                      exact this
                    clear hesx HKF HK4 HSTEP
                    go_wp2
                    go_roundg m
                    case measure => omega
                    case rel => exact ⟨l1.drop j, o ++ p, by omega, HESX, Lib.hid (HSR.out.sublist (List.drop_sublist _ _)), hstn, HO4, hb4, Lib.hid (fun e he => (List.mem_append.1 he).elim (HEB.out e) (HP4.out e)), Lib.hid (fun e he => HEB1.out e (List.mem_of_mem_drop he)), by have := HQL.out; simp at *; omega⟩
                  | true =>
                    by_cases hp0 : p = []
                    · have hke : Hid (keptG g true ss = p) := by
                        have := HK4.out
                        rw [hp0] at this
                        rw [hp0]
                        simpa [Hid, dropDead_nil] using this.symm
                      have hqo : ql = o.length := by rw [HQL.out, hp0]; simp
                      have hqn : ¬ (o.length : Int) < (ql : Int) := by omega
                      have hqn2 : decide (o.length < ql) = false := decide_eq_false (by omega)
                      clear hqo
                      obtain ⟨Lx, hsl, hesx⟩ := es_from (j := j) HL1.out hk
                      have HESX := Lib.hid hesx
                      have hdl : (l1.drop j).length = l1.length - j := List.length_drop
                      have hstn : Hid (thinF true ss m (l1.drop j) (o ++ p) = out) := by
                        have := HSTEP.out
                        rw [hke.out] at this
                        exact this
                      clear hesx HKF HK4 HSTEP
                      go_wp2
                      go_roundg m
                      case measure => omega
                      case rel => exact ⟨l1.drop j, o ++ p, by omega, HESX, Lib.hid (HSR.out.sublist (List.drop_sublist _ _)), hstn, HO4, hb4, Lib.hid (fun e he => (List.mem_append.1 he).elim (HEB.out e) (HP4.out e)), Lib.hid (fun e he => HEB1.out e (List.mem_of_mem_drop he)), by have := HQL.out; simp at *; omega⟩
                    · obtain ⟨q, x, hqx⟩ : ∃ q x, p = q ++ [x] := ⟨p.dropLast, p.getLast hp0, (List.dropLast_concat_getLast hp0).symm⟩
                      subst hqx
                      obtain ⟨qn, rfl⟩ : ∃ qn, ql = qn + 1 := ⟨ql - 1, by have := HQL.out; simp at this; omega⟩
                      have hqn : qn = o.length + q.length := by have := HQL.out; simp at this; omega
                      obtain ⟨qb, qo, rfl, q3, hqc⟩ : ∃ qb qo, qa = some ⟨qb, qo, none⟩ ∧ wr.cell? ⟨qb, qo + qn * 4 + 3, none⟩ = some (Value.bool x.dead) ∧ qn + 1 ≤ qc := by
                        have hol : (o ++ (q ++ [x])).length = qn + 1 := by simp; omega
                        have hes : Es wr (.slice qa (o ++ (q ++ [x])).length qc) (o ++ (q ++ [x])) := EsO.es (by rw [hol]; exact HO4.out) (by
                          intro e he
                          rcases List.mem_append.1 he with he | he
                          · exact HEB.out e he
                          · exact HP4.out e he)
                        obtain ⟨qa', qc', ee, q1, _, _, q4⟩ := hes
                        simp only [Value.slice.injEq] at ee
                        obtain ⟨rfl, -, rfl⟩ := ee
                        obtain ⟨qb, qo, rfl, q5⟩ := q4 (by omega)
                        obtain ⟨qk, qv, ⟨_, _, _, q3⟩, _⟩ := q5 qn (by omega)
                        have hx : (o ++ (q ++ [x]))[qn]'(by omega) = x := by
                          rw [List.getElem_append_right (by omega), List.getElem_append_right (by omega)]
                          simp
                        rw [hx] at q3
                        exact ⟨qb, qo, rfl, q3, by omega⟩
                      have hg1 : (o.length : Int) < (qn : Int) + 1 := by omega
                      have hg2 : decide (o.length < qn + 1) = true := decide_eq_true (by omega)
                      have hg3 : o.length < qn + 1 := by omega
                      have hqc2 : qn ≤ qc := by omega
                      obtain ⟨dd, hdd⟩ : ∃ dd, x.dead = dd := ⟨_, rfl⟩
                      rw [hdd] at q3
                      have HDD := Lib.hid hdd
                      have HQN := Lib.hid hqn
                      clear hdd hqn hp0
                      cases dd with
                      | false =>
                        have hke : Hid (keptG g true ss = q ++ [x]) := by
                          have := HK4.out
                          rw [if_pos rfl, dropDead_snoc, HDD.out] at this
                          simpa [Hid] using this.symm
                        obtain ⟨Lx, hsl, hesx⟩ := es_from (j := j) HL1.out hk
                        have HESX := Lib.hid hesx
                        have hdl : (l1.drop j).length = l1.length - j := List.length_drop
                        have hstn : Hid (thinF true ss m (l1.drop j) (o ++ (q ++ [x])) = out) := by
                          have := HSTEP.out
                          rw [hke.out] at this
                          exact this
                        clear hesx HKF HK4 HSTEP
                        go_wp2
                        go_roundg m
                        case measure => omega
                        case rel => exact ⟨l1.drop j, o ++ (q ++ [x]), by omega, HESX, Lib.hid (HSR.out.sublist (List.drop_sublist _ _)), hstn, HO4, hb4, Lib.hid (fun e he => (List.mem_append.1 he).elim (HEB.out e) (HP4.out e)), Lib.hid (fun e he => HEB1.out e (List.mem_of_mem_drop he)), by have := HQL.out; simp at *; omega⟩
                      | true =>
                        have hnx : Hid (EsO wr w.heap.size (.slice (some ⟨qb, qo, none⟩) qn qc) (o ++ q)) := by
                          have := EsO.take (j := qn) HO4.out (by simp; have := HQN.out; omega)
                          have e : (o ++ (q ++ [x])).take qn = o ++ q := by
                            rw [← List.append_assoc]
                            exact List.take_left' (by rw [List.length_append]; exact HQN.out.symm)
                          rw [e] at this
                          exact this
                        have hkn : Hid ((if true = true then dropDead q else q) = keptG g true ss) := by
                          have := HK4.out
                          rw [if_pos rfl, dropDead_snoc, HDD.out] at this
                          simpa [Hid] using this
                        have hpe : Hid (∀ e ∈ q, EB e) := fun e he => HP4.out e (List.mem_append_left _ he)
                        have hlq : (q ++ [x]).length = q.length + 1 := by simp
                        clear HO4 HK4 HP4 HQL
                        go_wp2
                        go_roundg q.length
                        case measure => omega
                        case rel => exact ⟨q, qn, _, qc, rfl, rfl, HQN, by omega, hb4, hnx, hkn, hpe⟩
end Go.Proofs.Ytgkgahjdjkmmnaa

namespace Go.Proofs.Ytgkgahjdjkmmnaa
open Go.RowKit

theorem ec_nil {w : World} {k : Value} {K : List UInt8} {s : Int} {d : Bool} (hk : Bs w k K) (lk : K.length ≤ 1000) (h0 : 0 ≤ s) (h1 : s ≤ 1000) : EC w k (.slice none 0 0) ⟨K, [], s, d⟩ :=
  ⟨hk, bs_nil w, by show K.length ≤ _; omega, by simp, by show _ ≤ s; omega, by show s ≤ _; omega⟩
theorem EC.alloc {w : World} {k v : Value} {e : Ent} (h : EC w k v e) (o : Obj) : EC (w.alloc o) k v e := h.below ((Below.refl _ _).alloc (Nat.le_refl _) o)
theorem Es.alloc {w : World} {v : Value} {l : List Ent} (h : Es w v l) (o : Obj) : Es (w.alloc o) v l := h.below ((Below.refl _ _).alloc (Nat.le_refl _) o)
theorem es_row1 {w : World} {g t : Nat} {k v : Value} {e : Ent} (hg : g = w.heap.size) (h : EC w k v e) : Es (w.alloc (.cells #[k, v, .int .i64 e.seq, .bool e.dead] t)) (.slice (some ⟨g, 0, none⟩) 1 1) [e] := by
  subst hg
  refine ⟨_, 1, rfl, Nat.le_refl _, by omega, (fun h => by cases h), fun _ => ⟨_, 0, rfl, fun i hi => ?_⟩⟩
  obtain rfl : i = 0 := by simpa using hi
  have n := heap_alloc_new w (.cells #[k, v, .int .i64 e.seq, .bool e.dead] t)
  exact ⟨k, v, ⟨cell_of_row _ _ 0 _ _ _ n, cell_of_row _ _ 1 _ _ _ n, cell_of_row _ _ 2 _ _ _ n, cell_of_row _ _ 3 _ _ _ n⟩, h.alloc _⟩
theorem es_row2 {w : World} {g t : Nat} {k v k2 v2 : Value} {e f : Ent} (hg : g = w.heap.size) (h : EC w k v e) (h2 : EC w k2 v2 f) : Es (w.alloc (.cells #[k, v, .int .i64 e.seq, .bool e.dead, k2, v2, .int .i64 f.seq, .bool f.dead] t)) (.slice (some ⟨g, 0, none⟩) 2 2) [e, f] := by
  subst hg
  refine ⟨_, 2, rfl, Nat.le_refl _, by omega, (fun h => by cases h), fun _ => ⟨_, 0, rfl, fun i hi => ?_⟩⟩
  have n := heap_alloc_new w (.cells #[k, v, .int .i64 e.seq, .bool e.dead, k2, v2, .int .i64 f.seq, .bool f.dead] t)
  match i, hi with
  | 0, _ => exact ⟨k, v, ⟨cell_of_row _ _ 0 _ _ _ n, cell_of_row _ _ 1 _ _ _ n, cell_of_row _ _ 2 _ _ _ n, cell_of_row _ _ 3 _ _ _ n⟩, h.alloc _⟩
  | 1, _ => exact ⟨k2, v2, ⟨cell_of_row _ _ 4 _ _ _ n, cell_of_row _ _ 5 _ _ _ n, cell_of_row _ _ 6 _ _ _ n, cell_of_row _ _ 7 _ _ _ n⟩, h2.alloc _⟩
theorem ess_row2 {w : World} {g t : Nat} {s1 s2 : Value} {l1 l2 : List Ent} (hg : g = w.heap.size) (h1 : Es w s1 l1) (h2 : Es w s2 l2) : Ess (w.alloc (.cells #[s1, s2] t)) (.slice (some ⟨g, 0, none⟩) 2 2) [l1, l2] := by
  subst hg
  refine ⟨_, 2, rfl, Nat.le_refl _, by omega, (fun h => by cases h), fun _ => ⟨_, 0, rfl, fun i hi => ?_⟩⟩
  have n := heap_alloc_new w (.cells #[s1, s2] t)
  match i, hi with
  | 0, _ => exact ⟨s1, cell_of_row _ _ 0 _ _ _ n, h1.alloc _⟩
  | 1, _ => exact ⟨s2, cell_of_row _ _ 1 _ _ _ n, h2.alloc _⟩

theorem wk1 : mergeL [[⟨[98], [], 1, false⟩], [⟨[97], [], 2, false⟩]] = ([⟨[97], [], 2, false⟩, ⟨[98], [], 1, false⟩], 0) := by kernel_rfl
theorem wk2 : thinL [⟨[97], [], 2, false⟩, ⟨[97], [], 1, false⟩] false [] = ([⟨[97], [], 2, false⟩], 0) := by kernel_rfl

set_option maxRecDepth 100000 in
set_option maxHeartbeats 4000000 in
theorem wakes_any (w : World) (R : Ending → World → Prop) (hR : ∀ w', Below w.heap.size w w' → R (.returned (.bool true)) w') :
    Calls Try.prog 15 #[] w R := by
  have HR := Lib.hid hR
  clear hR
  have kc := fun (w : World) (C : Array Value) (n c g : Nat) => run_conv_const (P := Try.prog) w 25 5 C n c g Try.underlying25 Try.underlying5
  go_enter Try.func15, Try.ntmps15
  go_wp2_with (go_at_call 11; fail)
  have b1 : Bs (w.alloc (Obj.cells #[Value.int .u8 98] 5 (1, 2))) (.slice (some ⟨w.heap.size, 0, none⟩) 1 1) [98] := bs_row _ [98] rfl rfl rfl (by simp)
  have e1 := es_row1 (t := 27) (g := w.heap.size + 1) (by simp) (ec_nil (s := 1) (d := false) b1 (by simp) (by omega) (by omega))
  have e1' := e1.alloc (Obj.cells #[Value.int .u8 97] 5 (1, 2))
  have b2 := bs_row (w := (w.alloc (Obj.cells #[Value.int .u8 98] 5 (1, 2))).alloc (Obj.cells #[Value.slice (some ⟨w.heap.size, 0, none⟩) 1 1, Value.slice none 0 0, Value.int .i64 1, Value.bool false] 27)) (e := 5) (fr := (1, 2)) (g := w.heap.size + 1 + 1) #[Value.int .u8 97] [97] (by simp) rfl rfl (by simp)
  have e2 := es_row1 (t := 27) (g := w.heap.size + 1 + 1 + 1) (by simp) (ec_nil (s := 2) (d := false) b2 (by simp) (by omega) (by omega))
  have hess := ess_row2 (t := 24) (g := w.heap.size + 1 + 1 + 1 + 1) (by simp) (e1'.alloc _) e2
  refine merge_any _ _ _ _ wk1 _ hess (by simp) (by simp [totalL]) _ ?_
  clear b1 e1 e1' b2 e2 hess
  intro L1 w1 ho1 hb1
  have hb1' := below_then (((((Below.refl w.heap.size w).alloc (Nat.le_refl _) (Obj.cells #[Value.int .u8 98] 5 (1, 2))).alloc (by simp) (Obj.cells #[Value.slice (some ⟨w.heap.size, 0, none⟩) 1 1, Value.slice none 0 0, Value.int .i64 1, Value.bool false] 27)).alloc (by simp; omega) (Obj.cells #[Value.int .u8 97] 5 (1, 2))).alloc (by simp; omega) (Obj.cells #[Value.slice (some ⟨w.heap.size + 1 + 1, 0, none⟩) 1 1, Value.slice none 0 0, Value.int .i64 2, Value.bool false] 27)|>.alloc (by simp; omega) (Obj.cells #[Value.slice (some ⟨w.heap.size + 1, 0, none⟩) 1 1, Value.slice (some ⟨w.heap.size + 1 + 1 + 1, 0, none⟩) 1 1] 24)) hb1 (by simp; omega)
  have HO1 := Lib.hid ho1
  have HB1 := Lib.hid hb1'
  obtain ⟨la, lc, rfl⟩ := EsO.shape ho1
  clear ho1 hb1 hb1'
  go_wp2_with (go_at_call 17; fail)
  have b1 : Bs (w1.alloc (Obj.cells #[Value.int .u8 97] 5 (1, 2))) (.slice (some ⟨w1.heap.size, 0, none⟩) 1 1) [97] := bs_row _ [97] rfl rfl rfl (by simp)
  have b2 := bs_row (w := w1.alloc (Obj.cells #[Value.int .u8 97] 5 (1, 2))) (e := 5) (fr := (1, 2)) (g := w1.heap.size + 1) #[Value.int .u8 97] [97] (by simp) rfl rfl (by simp)
  have e1 := es_row2 (t := 27) (g := w1.heap.size + 1 + 1) (by simp) (ec_nil (s := 2) (d := false) (b1.alloc _) (by simp) (by omega) (by omega)) (ec_nil (s := 1) (d := false) b2 (by simp) (by omega) (by omega))
  refine thin_any _ _ _ _ [] _ _ wk2 _ e1 ⟨none, 0, rfl, Rd.nil _ _ _, Nat.le_refl _, by omega, fun _ => rfl⟩ (by simp) _ ?_
  clear b1 e1 b2
  intro L2 w2 ho2 hb2
  have hb2' := below_then (((Below.refl w1.heap.size w1).alloc (Nat.le_refl _) (Obj.cells #[Value.int .u8 97] 5 (1, 2))).alloc (by simp) (Obj.cells #[Value.int .u8 97] 5 (1, 2)) |>.alloc (by simp; omega) (Obj.cells #[Value.slice (some ⟨w1.heap.size, 0, none⟩) 1 1, Value.slice none 0 0, Value.int .i64 2, Value.bool false, Value.slice (some ⟨w1.heap.size + 1, 0, none⟩) 1 1, Value.slice none 0 0, Value.int .i64 1, Value.bool false] 27)) hb2 (by simp; omega)
  have HB2 := Lib.hid (below_then HB1.out hb2' HB1.out.size)
  have he2 : Es w2 _ _ := (HO1.out.below hb2').es (by
    intro e he
    simp at he
    rcases he with rfl | rfl <;> exact ⟨by simp, by simp, by simp, by simp⟩)
  obtain ⟨la2, lc2, rfl⟩ := EsO.shape ho2
  obtain ⟨xa, xc, ee, _, _, _, x4⟩ := he2
  simp only [Value.slice.injEq, List.length_cons, List.length_nil] at ee
  obtain ⟨rfl, -, rfl⟩ := ee
  obtain ⟨xb, xo, rfl, x5⟩ := x4 (by simp)
  obtain ⟨k0, v0, p0, he0⟩ := x5 0 (by simp)
  have c0 : w2.cell? ⟨xb, xo, none⟩ = some k0 := by have := p0.1; simpa using this
  obtain ⟨ka1, ka2, rfl, _⟩ := he0.hk
  have hk := run_conv_bs (P := Try.prog) Try.underlying25 Try.underlying5 Try.underlying9 he0.hk
  replace hk : (convert 25 9 (.slice ka1 1 ka2)).run Try.prog w2 = .ok (.string ⟨#[97]⟩) w2 := hk
  replace c0 : w2.cell? ⟨xb, xo, none⟩ = some (.slice ka1 1 ka2) := c0
  clear x4 x5 p0 he0 ho2 hb2 hb2' HO1
  go_wp2_with (first | (go_at_call 13; go_in) | (go_at_call 11; fail))
  all_goals first | exact HR.out _ HB2.out | trace_state
end Go.Proofs.Ytgkgahjdjkmmnaa
