/- A part of the proof of SessionPlays, printed small; no conditions of its own. -/
import Derived.Test.YtgimbocoamnkjaaGreatDoorM20
import Derived.Lib.ValidLaws
import Derived.Lib.TrimAscii
set_option maxRecDepth 100000
set_option maxHeartbeats 16000000
namespace Go.Proofs.YtgimbocoamnkjaaGreatDoor
open _root_.Go.Proofs.Tryz
open Int (toNat_natCast)
open List (mem_cons_self)
open Nat (lt_irrefl)
variable{ok:Bool}{x:Im}{id:Int}{K Rb S:Nat}{M M' Mr Ms Q:Nat→Prop}{o:Obj}{s s':aF}{V W w w':World}
open Go.RowKit
theorem RR.sep{zY:Nat→Prop}(h:RR w Ms M Rb s)(hs:Sep Ms zY w w'):RR w' zY M Rb s:=by
 obtain ⟨sv,qv,fv,gv,hx⟩:=h;exact ⟨sv,qv,fv,gv,hx.sep hs⟩
theorem SR.apart{t:aF}(h:SR w Ms S s)(k:RR w Ms M Rb t)(hs:Sep M M' w w'):SR w' Ms S s:=by
 obtain ⟨NB,MB,GB,GM,sv,qv,fv,hx⟩:=h;obtain ⟨rv,rq,rf,rg,hr⟩:=k;exact ⟨NB,MB,GB,GM,sv,qv,fv,hx.apart hr.kd hr.lo hr.qj hs⟩
structure LX(W V:World)(Q:Nat→Prop)(w:World)(Ms Mr:Nat→Prop)(S Rb:Nat)(s t:aF):Prop where
 sr:SR w Ms S s
 rr:RR w Ms Mr Rb t
 ms:∀b,Ms b→W.heap.size≤b
 mr:∀b,Mr b→W.heap.size≤b
 low:Below W W w
 q1:∀b,Q b→b<w.heap.size∧w.heap[b]? =V.heap[b]?
 q2:∀b,Q b→¬Ms b∧¬Mr b
def LW(W V:World)(Q:Nat→Prop)(w:World)(S Rb:Nat)(s t:aF):Prop:=∃Ms Mr,LX W V Q w Ms Mr S Rb s t
theorem LX.prog{zY:Nat→Prop}{S':Nat}{t:aF}(h:LX W V Q w Ms Mr S Rb s t)(hr:SR w' zY S' s')(hs:Sep Ms zY w w'):LX W V Q w' zY Mr S' Rb s' t:=by
 have hl:=h.low.size;refine ⟨hr,h.rr.sep hs,fun b hb=> ?_,h.mr,aD h.low (hs.low hl h.ms) (Nat.le_refl _),fun b hb=> ?_,fun b hb=>⟨fun hm=> ?_,(h.q2 b hb).2⟩⟩
 ·rcases hs.new b hb with h1|h1
  ·exact h.ms b h1
  ·omega
 ·obtain ⟨h1,h2⟩:=h.q1 b hb;exact ⟨Nat.lt_of_lt_of_le h1 hs.size,(hs.block b h1 (h.q2 b hb).1).trans h2⟩
 ·rcases hs.new b hm with h1|h1
  ·exact (h.q2 b hb).1 h1
  ·have:=(h.q1 b hb).1
   omega
theorem LX.doc{RJ:Nat→Prop}{t t':aF}(h:LX W V Q w Ms Mr S Rb s t)(hr:RR w' Ms RJ Rb t')(hs:Sep Mr RJ w w'):LX W V Q w' Ms RJ S Rb s t':=by
 have hl:=h.low.size;refine ⟨h.sr.apart h.rr hs,hr,h.ms,fun b hb=> ?_,aD h.low (hs.low hl h.mr) (Nat.le_refl _),fun b hb=> ?_,fun b hb=>⟨(h.q2 b hb).1,fun hm=> ?_⟩⟩
 ·rcases hs.new b hb with h1|h1
  ·exact h.mr b h1
  ·omega
 ·obtain ⟨h1,h2⟩:=h.q1 b hb;exact ⟨Nat.lt_of_lt_of_le h1 hs.size,(hs.block b h1 (h.q2 b hb).2).trans h2⟩
 ·rcases hs.new b hm with h1|h1
  ·exact (h.q2 b hb).2 h1
  ·have:=(h.q1 b hb).1
   omega
theorem LX.below{t:aF}(h:LX W V Q w Ms Mr S Rb s t)(hb:Below w w w'):LX W V Q w' Ms Mr S Rb s t:=h.prog (h.sr.below hb) (.cU hb)
theorem LW.below{t:aF}(h:LW W V Q w S Rb s t)(hb:Below w w w'):LW W V Q w' S Rb s t:=by
 obtain ⟨Ms,Mr,hx⟩:=h;exact ⟨Ms,Mr,hx.below hb⟩
theorem LW.low{t:aF}(h:LW W V Q w S Rb s t):Below W W w:=by
 obtain ⟨Ms,Mr,hx⟩:=h;exact hx.low
theorem LW.row{t:aF}(h:LW W V Q w S Rb s t)(hQ:Q K)(ho:V.heap[K]? =some o):w.heap[K]? =some o:=by
 obtain ⟨Ms,Mr,hx⟩:=h;exact (hx.q1 K hQ).2.trans ho
theorem LW.hold{t:aF}(h:LW W V Q w S Rb s t)(o:Obj):LW W (w.alloc o) (fun b=>b=w.heap.size) (w.alloc o) S Rb s t:=by
 obtain ⟨Ms,Mr,hx⟩:=h;have hb:Below w w (w.alloc o):=(Below.refl _ _).alloc (Nat.le_refl _) _;have h2:=hx.below hb;refine ⟨Ms,Mr,h2.sr,h2.rr,h2.ms,h2.mr,h2.low,fun b hb=> ?_,fun b hb=>⟨fun hm=> ?_,fun hm=> ?_⟩⟩
 ·subst hb;exact ⟨(Array.getElem?_eq_some_iff.1 (heap_alloc_new w o)).1,rfl⟩
 ·subst hb;exact lt_irrefl _ (hx.sr.lt _ hm)
 ·subst hb;obtain ⟨rv,rq,rf,rg,hr⟩:=hx.rr;exact lt_irrefl _ (hr.lt _ hm)
theorem LW.plain{t:aF}(h:LW W V Q w S Rb s t)(V':World):LW W V' (fun _=>False) w S Rb s t:=by
 obtain ⟨Ms,Mr,hx⟩:=h;exact ⟨Ms,Mr,hx.sr,hx.rr,hx.ms,hx.mr,hx.low,fun b hb=>hb.elim,fun b hb=>hb.elim⟩
theorem LW.DH{t:aF}(h:LW W V Q w S Rb s t)(n:List Int):LW W V Q w S Rb s {t with cj:=n}:=by
 obtain ⟨Ms,Mr,hx⟩:=h;exact ⟨Ms,Mr,hx.sr,hx.rr.DH n,hx.ms,hx.mr,hx.low,hx.q1,hx.q2⟩
theorem Sep.lt{P:Nat→Prop}(h:Sep M M' w w')(hl:∀b,P b→b<w.heap.size):∀b,P b→b<w'.heap.size:=fun b hb=>Nat.lt_of_lt_of_le (hl b hb) h.size
section
variable {W V w:World} {Q:Nat→Prop} {S Rb:Nat} {s t:aF}
theorem ake(h:LW W V Q w S Rb s t)(hi:eL s)(id z:Int)(hz:cV (kE id [1]) s.aj=z)(R:Ending→World→Prop)(hR:∀w',LW W V Q w' S Rb (jE s z) t→R (.returned (.bool (decide (0≤z)))) w'):
 Calls prog 12 #[.pointer (some ⟨S,0,none⟩),.int .i64 id] w R:=by
 obtain ⟨Ms,Mr,hx⟩:=h;exact VT S s id z hz hi.i64 (Nat.le_trans hi.fn (by decide)) w Ms hx.sr R fun M' w' h1 h2=>hR w' ⟨_,_,hx.prog h1 h2⟩
theorem akf(h:LW W V Q w S Rb s t)(hi:eL s)(id z:Int)(hz:cV (kE id [3]) s.aj=z)(R:Ending→World→Prop)(hR:∀w',LW W V Q w' S Rb (jE s z) t→R (.returned (.bool (decide (0≤z)))) w'):
 Calls prog 18 #[.pointer (some ⟨S,0,none⟩),.int .i64 id] w R:=by
 obtain ⟨Ms,Mr,hx⟩:=h;exact afb S s id z hz hi.i64 (Nat.le_trans hi.fn (by decide)) w Ms hx.sr R fun M' w' h1 h2=>hR w' ⟨_,_,hx.prog h1 h2⟩
theorem akg(h:LW W V Q w S Rb s t)(hi:eL s)(id z:Int)(fine:Bool)(hz:cV (kE id [2,3]) s.aj=z)(s':aF)(a b:Bool)(hr:zH s z fine=(s',a,b))(R:Ending→World→Prop)(hR:∀w',LW W V Q w' S Rb s' t→R (.returned (.tuple #[.bool a,.bool b])) w'):
 Calls prog 11 #[.pointer (some ⟨S,0,none⟩),.int .i64 id,.bool fine] w R:=by
 obtain ⟨Ms,Mr,hx⟩:=h;exact afh S s id fine z hz hi.i64 (Nat.le_trans hi.fn (by decide)) s' a b hr w Ms hx.sr R fun M' w' h1 h2=>hR w' ⟨_,_,hx.prog h1 h2⟩
theorem akh(h:LW W V Q w S Rb s t)(hl:t.aj.length≤100000)(id z:Int)(hz:cV (fun f:Fl=>f.id==id) t.aj=z)(t':aF)(b:Bool)(ht:z_ t z 1=(t',b))(R:Ending→World→Prop)(hR:∀w',LW W V Q w' S Rb s t'→R (.returned (.bool b)) w'):
 Calls prog 71 #[.pointer (some ⟨Rb,0,none⟩),.int .i64 id] w R:=by
 obtain ⟨Ms,Mr,hx⟩:=h;exact agT Rb t id z hz hl t' b ht w Ms Mr hx.rr hx.sr.lt R fun M' w' h1 h2=>hR w' ⟨_,_,hx.doc h1 h2⟩
theorem aki(h:LW W V Q w S Rb s t)(hl:t.aj.length≤100000)(id z:Int)(hz:cV (fun f:Fl=>f.id==id) t.aj=z)(t':aF)(b:Bool)(ht:z_ t z 3=(t',b))(R:Ending→World→Prop)(hR:∀w',LW W V Q w' S Rb s t'→R (.returned (.bool b)) w'):
 Calls prog 73 #[.pointer (some ⟨Rb,0,none⟩),.int .i64 id] w R:=by
 obtain ⟨Ms,Mr,hx⟩:=h;exact agU Rb t id z hz hl t' b ht w Ms Mr hx.rr hx.sr.lt R fun M' w' h1 h2=>hR w' ⟨_,_,hx.doc h1 h2⟩
theorem akj(h:LW W V Q w S Rb s t)(hl:t.aj.length≤100000)(id z:Int)(fine:Bool)(hz:cV (fun f:Fl=>f.id==id) t.aj=z)(t':aF)(a b:Bool)(ht:Dh t z fine=(t',a,b))(R:Ending→World→Prop)(hR:∀w',LW W V Q w' S Rb s t'→R (.returned (.tuple #[.bool a,.bool b])) w'):
 Calls prog 72 #[.pointer (some ⟨Rb,0,none⟩),.int .i64 id,.bool fine] w R:=by
 obtain ⟨Ms,Mr,hx⟩:=h;exact agX Rb t id z fine hz hl t' a b ht w Ms Mr hx.rr hx.sr.lt R fun M' w' h1 h2=>hR w' ⟨_,_,hx.doc h1 h2⟩
theorem akk(h:LW W V Q w S Rb s t)(id:Int)(hid:h_ id)(s':aF)(a b:Bool)(hc:zX s id=(s',a,b))(R:Ending→World→Prop)(hR:∀w',LW W V Q w' S Rb s' t→R (.returned (.tuple #[.bool a,.bool b])) w'):
 Calls prog 52 #[.pointer (some ⟨S,0,none⟩),.int .i64 id] w R:=by
 obtain ⟨Ms,Mr,hx⟩:=h;exact agM S s id hid s' a b hc w Ms hx.sr R fun w' h1 h2=>hR w' ⟨_,_,hx.prog h1 h2⟩
theorem akl(h:LW W V Q w S Rb s t)(hl:t.aH.length≤100000)(id:Int)(t':aF)(a b:Bool)(hc:zX t id=(t',a,b))(R:Ending→World→Prop)(hR:∀w',LW W V Q w' S Rb s t'→R (.returned (.tuple #[.bool a,.bool b])) w'):
 Calls prog 74 #[.pointer (some ⟨Rb,0,none⟩),.int .i64 id] w R:=by
 obtain ⟨Ms,Mr,hx⟩:=h;exact aht Rb t id t' a b hc hl w Ms Mr hx.rr hx.sr.lt R fun M' w' h1 h2=>hR w' ⟨_,_,hx.doc h1 h2⟩
theorem akm(h:LW W V Q w S Rb s t)(id:Int)(hid:h_ id)(b:Bool)(hb:s.aH.contains id=b)(R:Ending→World→Prop)(hR:∀w',LW W V Q w' S Rb {s with aH:=s.aH.erase id} t→R (.returned (.bool b)) w'):
 Calls prog 75 #[.pointer (some ⟨S,0,none⟩),.int .i64 id] w R:=by
 obtain ⟨Ms,Mr,hx⟩:=h;exact agN S s id hid b hb w Ms hx.sr R fun w' h1 h2=>hR w' ⟨_,_,hx.prog h1 h2⟩
theorem akn(h:LW W V Q w S Rb s t)(hl:t.aH.length≤100000)(id:Int)(b:Bool)(hb:t.aH.contains id=b)(R:Ending→World→Prop)(hR:∀w',LW W V Q w' S Rb s {t with aH:=t.aH.erase id}→R (.returned (.bool b)) w'):
 Calls prog 76 #[.pointer (some ⟨Rb,7,none⟩),.int .i64 id] w R:=by
 obtain ⟨Ms,Mr,hx⟩:=h;exact ahl Rb t id b hb hl w Ms Mr hx.rr hx.sr.lt R fun M' w' h1 h2=>hR w' ⟨_,_,hx.doc h1 h2⟩
theorem ako(h:LW W V Q w S Rb s t)(x:Sb)(s':aF)(a b:Bool)(hc:v_ s x=(s',a,b))(hs:ke s.ay)(hl:s.ay.length≤100000)(R:Ending→World→Prop)(hR:∀w',LW W V Q w' S Rb s' t→R (.returned (.tuple #[.bool a,.bool b])) w'):
 Calls prog 47 #[.pointer (some ⟨S,0,none⟩),.agg (bB x)] w R:=by
 obtain ⟨Ms,Mr,hx⟩:=h;obtain ⟨NB,MB,GB,GM,sv,qv,fv,hr⟩:=hx.sr;exact YH S NB MB GB GM sv qv fv s x s' a b hc hs hl w Ms hr R fun M' eN w' h1 h2 _ _=>hR w' ⟨_,_,hx.prog ⟨_,_,_,_,_,_,_,h1⟩ h2⟩
theorem akp(h:LW W V Q w S Rb s t)(x:Sb)(t':aF)(a b:Bool)(hc:v_ t x=(t',a,b))(hs:ke t.ay)(hl:t.ay.length≤100000)(R:Ending→World→Prop)(hR:∀w',LW W V Q w' S Rb s t'→R (.returned (.tuple #[.bool a,.bool b])) w'):
 Calls prog 78 #[.pointer (some ⟨Rb,0,none⟩),.agg (bB x)] w R:=by
 obtain ⟨Ms,Mr,hx⟩:=h;have nH:∀j,j<fB t.ay x.filter→∀(eE:j<t.ay.length),tY (t.ay[j]).filter x.filter=true:=fun j hj eE=>by
  rw [Ym,decide_eq_true_eq];exact (AV t.ay x.filter hs j eE).2 hj
 have vy:∀(h:fB t.ay x.filter<t.ay.length),tY (t.ay[fB t.ay x.filter]).filter x.filter=false:=fun hj=>by
  rw [Ym,decide_eq_false_iff_not];exact fun h=>lt_irrefl _ ((AV t.ay x.filter hs _ hj).1 h)
 unfold v_ at hc
 split at hc
 ·rename_i hi
  obtain ⟨hk,e⟩:=Ew hi;simp only [Prod.mk.injEq] at hc;obtain ⟨rfl,rfl,rfl⟩:=hc;exact ag1 Rb t x _ (Cl _ _) nH vy hk (fun _=>e) hl w Ms Mr hx.rr hx.sr.lt R fun M' w' h1 h2=>hR w' ⟨_,_,hx.doc h1 h2⟩
 ·rename_i hi
  have bh:∀(h:fB t.ay x.filter<t.ay.length),(t.ay[fB t.ay x.filter]).filter≠x.filter:=fun hk e=>hi (by
   unfold pW;rw [List.getElem?_eq_getElem hk];simp [e])
  split at hc
  ·rename_i h8
   simp only [Prod.mk.injEq] at hc;obtain ⟨rfl,rfl,rfl⟩:=hc;exact agZ Rb t x _ (Cl _ _) nH vy bh h8 hl w Ms Mr hx.rr hx.sr.lt R fun w' hb=>hR w' ⟨_,_,hx.below hb⟩
  ·rename_i h8
   simp only [Prod.mk.injEq] at hc;obtain ⟨rfl,rfl,rfl⟩:=hc;exact ag3 Rb t x _ (Cl _ _) nH vy bh h8 hl w Ms Mr hx.rr hx.sr.lt R fun M' w' h1 h2=>hR w' ⟨_,_,hx.doc h1 h2⟩
theorem akq(h:LW W V Q w S Rb s t)(f:List UInt8)(s':aF)(b:Bool)(hc:AW s f=(s',b))(hs:ke s.ay)(hl:s.ay.length≤100000)(R:Ending→World→Prop)(hR:∀w',LW W V Q w' S Rb s' t→R (.returned (.bool b)) w'):
 Calls prog 79 #[.pointer (some ⟨S,0,none⟩),.string (str f)] w R:=by
 obtain ⟨Ms,Mr,hx⟩:=h;obtain ⟨NB,MB,GB,GM,sv,qv,fv,hr⟩:=hx.sr;exact aiH S NB MB GB GM sv qv fv s f s' b hc hs hl w Ms hr R fun M' eN w' h1 h2=>hR w' ⟨_,_,hx.prog ⟨_,_,_,_,_,_,_,h1⟩ h2⟩
theorem akr(h:LW W V Q w S Rb s t)(f:List UInt8)(t':aF)(b:Bool)(hc:AW t f=(t',b))(hs:ke t.ay)(hl:t.ay.length≤100000)(R:Ending→World→Prop)(hR:∀w',LW W V Q w' S Rb s t'→R (.returned (.bool b)) w'):
 Calls prog 80 #[.pointer (some ⟨Rb,0,none⟩),.string (str f)] w R:=by
 obtain ⟨Ms,Mr,hx⟩:=h;refine agQ Rb t f _ (adl hs) hl w Ms Mr hx.rr hx.sr.lt R fun M' w' h1 h2=> ?_;unfold AW at hc
 split at hc
 ·rename_i hi
  simp only [Prod.mk.injEq] at hc;obtain ⟨rfl,rfl⟩:=hc;rw [if_pos hi,if_neg (by omega),toNat_natCast] at h1;rw [if_pos hi,decide_eq_true (by omega)];exact hR w' ⟨_,_,hx.doc h1 h2⟩
 ·rename_i hi
  simp only [Prod.mk.injEq] at hc;obtain ⟨rfl,rfl⟩:=hc;rw [if_neg hi,if_pos (by decide)] at h1;rw [if_neg hi];exact hR w' ⟨_,_,hx.doc h1 h2⟩
theorem aks(h:LW W V Q w S Rb s t)(now d:Int)(hd:(s.queue.length:Int) - ((oA s.queue now).length:Int)=d)(hl:s.queue.length≤100000)(R:Ending→World→Prop)(hR:∀w',LW W V Q w' S Rb {s with queue:=oA s.queue now} t→R (.returned (.int .i64 d)) w'):
 Calls prog 81 #[.pointer (some ⟨S,0,none⟩),.int .i64 now] w R:=by
 obtain ⟨Ms,Mr,hx⟩:=h;exact akc S s now d hd hl w Ms hx.sr R fun M' w' h1 h2=>hR w' ⟨_,_,hx.prog h1 h2⟩
theorem akt(h:LW W V Q w S Rb s t)(now d:Int)(hd:(t.queue.length:Int) - ((oA t.queue now).length:Int)=d)(hl:t.queue.length≤100000)(R:Ending→World→Prop)(hR:∀w',LW W V Q w' S Rb s {t with queue:=oA t.queue now}→R (.returned (.int .i64 d)) w'):
 Calls prog 82 #[.pointer (some ⟨Rb,0,none⟩),.int .i64 now] w R:=by
 obtain ⟨Ms,Mr,hx⟩:=h;exact ahb Rb t now d hd hl w Ms Mr hx.rr hx.sr.lt R fun M' w' h1 h2=>hR w' ⟨_,_,hx.doc h1 h2⟩
theorem aku(h:LW W V Q w S Rb s t)(bY:Int)(b:Bool)(hb:kV s bY=b)(hl:s.queue.length≤100000)(R:Ending→World→Prop)(hR:R (.returned (.bool b)) w):
 Calls prog 40 #[.pointer (some ⟨S,0,none⟩),.int .i64 bY] w R:=by
 obtain ⟨Ms,Mr,hx⟩:=h;exact KL S s bY b hb w Ms hx.sr hl R hR
theorem akv(h:LW W V Q w S Rb s t)(bY:Int)(b:Bool)(hb:kV t bY=b)(hl:t.queue.length≤100000)(R:Ending→World→Prop)(hR:R (.returned (.bool b)) w):
 Calls prog 83 #[.pointer (some ⟨Rb,0,none⟩),.int .i64 bY] w R:=by
 obtain ⟨Ms,Mr,hx⟩:=h;exact Lg Rb t bY b hb w Ms Mr hx.rr hl R hR
theorem akw(h:LW W V Q w S Rb s t)(x y:Int)(b:Bool)(R:Ending→World→Prop)(hR:∀w',LW W V Q w' S Rb {s with cP:=x,ends:=y,eB:=b} t→R (.returned (.tuple #[])) w'):
 Calls prog 46 #[.pointer (some ⟨S,0,none⟩),.int .i64 x,.int .i64 y,.bool b] w R:=by
 obtain ⟨Ms,Mr,hx⟩:=h;exact af4 S s x y b w Ms hx.sr R fun w' h1 h2=>hR w' ⟨_,_,hx.prog h1 h2⟩
theorem LW.akx(h:LW W V Q w S Rb s t)(x y:Int)(b:Bool):LW W V Q (((w.setCell ⟨Rb,1,none⟩ (.int .i64 x)).setCell ⟨Rb,2,none⟩ (.int .i64 y)).setCell ⟨Rb,3,none⟩ (.bool b)) S Rb s {t with cP:=x,ends:=y,eB:=b}∧
 (w.cell? ⟨Rb,1,none⟩=some (.int .i64 t.cP)∧w.frozen? ⟨Rb,1,none⟩=false)∧((w.setCell ⟨Rb,1,none⟩ (.int .i64 x)).cell? ⟨Rb,2,none⟩=some (.int .i64 t.ends)∧(w.setCell ⟨Rb,1,none⟩ (.int .i64 x)).frozen? ⟨Rb,2,none⟩=false)∧
 (((w.setCell ⟨Rb,1,none⟩ (.int .i64 x)).setCell ⟨Rb,2,none⟩ (.int .i64 y)).cell? ⟨Rb,3,none⟩=some (.bool t.eB)∧((w.setCell ⟨Rb,1,none⟩ (.int .i64 x)).setCell ⟨Rb,2,none⟩ (.int .i64 y)).frozen? ⟨Rb,3,none⟩=false):=by
 obtain ⟨Ms,Mr,hx⟩:=h;obtain ⟨sv,qv,fv,gv,hr⟩:=hx.rr;have k1:=hr.cell hx.sr.lt 1 (.int .i64 x) {t with cP:=x} (by rw [heap_setCell_same w Rb 1 _ _ _ hr.hS];rfl) rfl rfl rfl rfl;have k2:=k1.1.cell (k1.2.lt hx.sr.lt) 2 (.int .i64 y) {t with cP:=x,ends:=y} (by rw [heap_setCell_same _ Rb 2 _ _ _ k1.1.hS];rfl) rfl rfl rfl rfl;have k3:=k2.1.cell (k2.2.lt (k1.2.lt hx.sr.lt)) 3 (.bool b) {t with cP:=x,ends:=y,eB:=b} (by rw [heap_setCell_same _ Rb 3 _ _ _ k2.1.hS];rfl) rfl rfl rfl rfl;exact ⟨⟨_,_,((hx.doc ⟨_,_,_,_,k1.1⟩ k1.2).doc ⟨_,_,_,_,k2.1⟩ k2.2).doc ⟨_,_,_,_,k3.1⟩ k3.2⟩,⟨af w Rb 1 _ _ _ hr.hS,aB hr.hS 1⟩,⟨af _ Rb 2 _ _ _ k1.1.hS,aB k1.1.hS 2⟩,af _ Rb 3 _ _ _ k2.1.hS,aB k2.1.hS 3⟩
theorem aky(h:LW W V Q w S Rb s t)(hi:eL s)(x:Im)(pv qw ev:Value)(hc:gH w pv qw ev x)(hB:gb x)(s':aF)(b:Bool)(dX:pE s x=(s',b))(R:Ending→World→Prop)(hR:∀w',LW W V Q w' S Rb s' t→R (.returned (.bool b)) w'):
 Calls prog 8 #[.pointer (some ⟨S,0,none⟩),(Value.agg (pS x pv qw ev))] w R:=by
 obtain ⟨Ms,Mr,hx⟩:=h;exact WU S s x b s' dX hi pv qw ev w Ms hx.sr hc hB R fun M' w' h1 h2=>hR w' ⟨_,_,hx.prog h1 h2⟩
theorem akz(h:LW W V Q w S Rb s t)(hq:t.queue.length≤8)(x:Im)(pa:Option Addr)(pc:Nat)(qa:Option Addr)(qc:Nat)(ea:Option Addr)(ec:Nat)(w1:World)(hb:Below w w w1)(hit:BN W w.heap.size w1 (.slice pa x.note.az.length pc) (.slice qa x.note.props.length qc) (.slice ea x.ids.length ec) x)(hB:gb x)(t':aF)(b:Bool)(dX:pE t x=(t',b))(R:Ending→World→Prop)
 (hR:∀w',LW W V Q w' S Rb s t'→R (.returned (.bool b)) w'):
 Calls prog 68 #[.pointer (some ⟨Rb,0,none⟩),(Value.agg (aG x pa pc qa qc ea ec))] w1 R:=by
 obtain ⟨Ms,Mr,hx⟩:=h;have aI:=hx.below hb;have hc:db w1 Ms (.slice pa x.note.az.length pc,.slice qa x.note.props.length qc,.slice ea x.ids.length ec) x:=⟨hit.wr fun b hb=>⟨hx.ms b hb,hx.sr.lt b hb⟩,hB⟩
 unfold pE at dX;by_cases hl:t.queue.length<8
 ·rw [if_pos hl] at dX;cases dX;exact ag8 Rb t x pa pc qa qc ea ec w1 Ms Mr aI.rr aI.sr.lt hl hc R fun M' w' h1 h2=>hR w' ⟨_,_,aI.doc h1 h2⟩
 ·rw [if_neg hl] at dX;cases dX;exact ag7 Rb t _ w1 Ms Mr aI.rr (by omega) (by omega) R fun w' lG=>hR w' ⟨_,_,aI.below lG⟩
def LI(W V:World)(Q:Nat→Prop)(w:World)(S Rb:Nat)(s t:aF)(c:V3)(x:Im):Prop:=∃Ms Mr,LX W V Q w Ms Mr S Rb s t∧db w Ms c x
theorem LI.lw{c:V3}(h:LI W V Q w S Rb s t c x):LW W V Q w S Rb s t:=by
 obtain ⟨Ms,Mr,hx,_⟩:=h;exact ⟨Ms,Mr,hx⟩
theorem LI.im{c:V3}(h:LI W V Q w S Rb s t c x):gH w c.1 c.2.1 c.2.2 x:=by
 obtain ⟨Ms,Mr,_,hi⟩:=h;exact hi.1.o_
theorem LI.below{c:V3}(h:LI W V Q w S Rb s t c x)(hb:Below w w w'):LI W V Q w' S Rb s t c x:=by
 obtain ⟨Ms,Mr,hx,hi⟩:=h;exact ⟨Ms,Mr,hx.below hb,hi.sep (.cU hb)⟩
theorem akA(h:LW W V Q w S Rb s t)(hi:eL s)(bY:Int)(R:Ending→World→Prop)
 (hR:∀x id ok s' pa pc qa qc ea ec w',wW s bY x id ok s'→LI W V Q w' S Rb s' t (.slice pa x.note.az.length pc,.slice qa x.note.props.length qc,.slice ea x.ids.length ec) x→
   R (.returned (.tuple #[(Value.agg (aG x pa pc qa qc ea ec)),.int .i64 id,.bool ok])) w'):
 Calls prog 10 #[.pointer (some ⟨S,0,none⟩),.int .i64 bY] w R:=by
 obtain ⟨Ms,Mr,hx⟩:=h;exact WS S s bY hi w Ms hx.sr R fun x id ok s' B M' pa pc qa qc ea ec w' hn h1 h2 h3 h4 h5 h6=>hR x id ok s' pa pc qa qc ea ec w' hn ⟨_,_,hx.prog h1 h2,⟨(h3.wr h5).imp fun y hy=>hy.c h6,h6⟩⟩
theorem Z0.K7:db w M (.slice none 0 0,.slice none 0 0,.slice none 0 0) ⟨⟨[],[],0,false,[],0,[],0,0,0⟩,0,false,[],[]⟩:=
 ⟨fun _ y _=>⟨Z0.nil.bs y,Z0.nil.ps y,Z0.nil.is y⟩,Uh⟩
theorem akB{s':aF}{c:V3}(h:LI W V Q w S Rb s' s c x)(hs:du s)(bY:Int)(hn:wW s bY x id ok s')(R:Ending→World→Prop)
 (hR:∀pa pc qa qc ea ec w',LI W V Q w' S Rb s' s' c x→gH w' (.slice pa x.note.az.length pc) (.slice qa x.note.props.length qc) (.slice ea x.ids.length ec) x→
   R (.returned (.tuple #[(Value.agg (aG x pa pc qa qc ea ec)),.int .i64 id,.bool ok])) w'):
 Calls prog 69 #[.pointer (some ⟨Rb,0,none⟩),.int .i64 bY] w R:=by
 obtain ⟨Ms,Mr,hx,hi⟩:=h;have hq:=Nat.le_trans hs.inv.qn (by decide:8≤100000);have hf:=Nat.le_trans hs.inv.fn (by decide:8≤100000);have ao:=hx.sr.lt;have akC:=hx.rr;obtain ⟨rv,rq,rf,rg,hr⟩:=akC;cases hn with
 |no hb=>exact ajU Rb s bY hb w Ms Mr hx.rr hq R fun w' jn=>hR none 0 none 0 none 0 w' ⟨_,_,hx.below jn,hi.sep (.cU jn)⟩ (Z0.K7 (M:=Ms)).1.o_
 |out x rest xG hb hz=>
  exact ajV Rb s x rest xG bY hb hz w Ms Mr hx.rr ao hq R fun M' pa pc qa qc ea ec w' h1 h2 h3=>hR pa pc qa qc ea ec w' ⟨_,_,hx.doc h1 h2,hi.apart hr.kd hr.lo h2⟩ h3.1.o_
 |qN x rest d xG hb hz h1 h2 hc ha=>
  have akD:=hs.qk x (by rw [xG];exact mem_cons_self);have lV:=akD.k.q1;have hid:=fun d:Int=>ah6 hs.inv (d:=d);have lg:s.cj.length≤8:=by rw [hs.inv.eq,List.length_map];exact hs.inv.fn
  exact ajZ Rb s x rest xG bY hb (by omega) d h1 (by omega) ((hid d).1 hc) (fun j QZ eE=>(hid j).2 (ha j QZ eE)) hf w Ms Mr hx.rr ao hq R fun M' pa pc qa qc ea ec w' k1 k2 k3=>hR pa pc qa qc ea ec w' ⟨_,_,hx.doc (k1.DH _) k2,hi.apart hr.kd hr.lo k2⟩ k3.1.o_
end
open Bool (and_eq_true)
open List (mem_cons_of_mem)
theorem IQ:∀l:List UInt8,(∀b∈l,b.toNat≠0∧b.toNat<128)→dV l=true
 |[],_=>KJ
 |b::t,h=>by
  have hb:=h b (by simp);have ih:=IQ t (fun x hx=>h x (mem_cons_of_mem _ hx));unfold dV at ih⊢;rw [and_eq_true] at ih⊢;refine ⟨?_,by rw [Lib.validD_cons b t hb.2];exact ih.2⟩;rw [Oc _ (by simp),Lib.decodeL_ascii b t hb.2];simp only [hb.1,if_false];exact ih.1
theorem RK(c:Fin 256):(b8 (97+((c.val:Nat):Int) % 26)).toNat≠0∧(b8 (97+((c.val:Nat):Int) % 26)).toNat<128:=by
 revert c
 decide+kernel
theorem Mu(l:List UInt8):GT (116::d_ l):=by
 refine ⟨IQ _ fun b hb=> ?_,?_⟩
 ·rcases List.mem_cons.1 hb with rfl|hb
  ·decide
  ·unfold d_ at hb;obtain ⟨x,_,rfl⟩:=List.mem_map.1 hb;exact RK ⟨x.toNat,x.toNat_lt⟩
 ·have:=oG l;simp only [List.length_cons]
  omega
def yV(c:UInt8):Bool:=decide (97≤c.toNat∧c.toNat≤122) || decide (48≤c.toNat∧c.toNat≤57)
def IS(l:List UInt8):Bool:=l.all yV
theorem akE{l:List UInt8}(h:IS l=true):dV l=true:=IQ l fun b hb=>by
 have:=List.all_eq_true.1 h b hb;unfold yV at this;simp only [Bool.or_eq_true,decide_eq_true_eq] at this
 omega
theorem ZE{P:Prop}(h:P:=by
 clear h1 h2;go_wp2;go_roundg (n - (k+1))
 case measure=>omega
 case rel=>exact ⟨k+1,by omega,rfl,by go_num,rfl,pB⟩):P:=h
theorem ZF(l:List UInt8)(hl:l.length≤20)(b:Bool)(hb:IS l=b)(w:World)(R:Ending→World→Prop)
 (hR:R (.returned (.bool b)) w):
 Calls prog 19 #[.string (str l)] w R:=by
 have HR:=ab hR;have HB:=ab hb;obtain ⟨n,hn⟩:=ai l.length;have HN:=ab hn;have bm:(str l).size=n:=by
  rw [←hn];show l.toArray.size=l.length;simp
 rw [hn] at hl;clear hR hb hn;go_enter func19,ntmps19;go_wp2;go_loopg [3] n (fun gn i wr=>∃k:Nat,k≤n∧gn=n - k∧i= .int .i64 k∧wr=w∧Hid ((l.take k).all yV=true))
 case atStart=>exact ⟨0,Nat.zero_le _,by omega,rfl,rfl,rfl⟩
 case round=>
  obtain ⟨k,hk,rfl,rfl,rfl,HA⟩:=hrel;by_cases ao:k<n
  ·have bd:(k:Int)<(n:Int):=by omega
   have f_:k<l.length:=by have:=HN.o_;omega
   obtain ⟨c,hc⟩:=ai (l[k]);have aq6:∀h:k<(str l).size,(str l)[k]'h=c:=fun h=>by
    subst hc
    rfl
   obtain ⟨z,hz⟩:∃z:Nat,c.toNat=z:=⟨_,rfl⟩
   have kF:z<256:=by rw [←hz];exact c.toNat_lt
   have sy:yV c=(decide (97≤z∧z≤122) || decide (48≤z∧z≤57)):=by unfold yV;rw [hz]
   have rP:(l.take (k+1)).all yV=((l.take k).all yV&&yV c):=by
    rw [List.take_succ_eq_append_getElem f_,List.all_append,hc];simp
   cases ah:yV c with
   |true=>
    have pB:Hid ((l.take (k+1)).all yV=true):=by show _=_;rw [rP,ah,HA.o_];rfl
    rw [ah] at sy;have DT:(97≤z∧z≤122)∨(48≤z∧z≤57):=by simpa using sy.symm
    clear ah rP sy;rcases DT with ⟨h1,h2⟩|⟨h1,h2⟩
    ·have e1:(97:Int)≤(z:Int):=by omega
     have e2:(z:Int)≤122:=by omega
     exact ZE
    ·have e1:¬(97:Int)≤(z:Int):=by omega
     have e2:(48:Int)≤(z:Int):=by omega
     have e3:(z:Int)≤57:=by omega
     exact ZE
   |false=>
    have H':Hid (b=false):=by
     show _=_;rw [←HB.o_];unfold IS;rw [←List.take_append_drop (k+1) l,List.all_append,rP,ah,Bool.and_false,Bool.false_and]
    rw [ah] at sy;have DT:¬((97≤z∧z≤122)∨(48≤z∧z≤57)):=by simpa using sy.symm
    clear ah rP sy;by_cases h97:97≤z
    ·have e1:(97:Int)≤(z:Int):=by omega
     have e2:¬(z:Int)≤122:=by omega
     have e3:(48:Int)≤(z:Int):=by omega
     have e4:¬(z:Int)≤57:=by omega
     clear DT h97;go_wp2;rw [←H'.o_];exact HR.o_
    ·have e1:¬(97:Int)≤(z:Int):=by omega
     by_cases h48:48≤z
     ·have e3:(48:Int)≤(z:Int):=by omega
      have e4:¬(z:Int)≤57:=by omega
      clear DT h97 h48;go_wp2;rw [←H'.o_];exact HR.o_
     ·have e3:¬(48:Int)≤(z:Int):=by omega
      clear DT h97 h48;go_wp2;rw [←H'.o_];exact HR.o_
  ·have bd:¬(k:Int)<(n:Int):=by omega
   have Lz:Hid (b=true):=by
    show _=_;rw [←HB.o_];unfold IS;rw [←List.take_of_length_le (i:=k) (l:=l) (by have:=HN.o_;omega)];exact HA.o_
   go_wp2;rw [←Lz.o_];exact HR.o_
variable{w2:World}
theorem LW.start{l:List UInt8}(h:SR w M S (fw l))(hM:∀b,M b→W.heap.size≤b)(hb:Below W W w)(V:World):
 LW W V (fun _=>False) (w.alloc (.cells #[.string (str l),.int .i64 0,.int .i64 0,.bool false,.slice none 0 0,.slice none 0 0,.slice none 0 0,.slice none 0 0] 62)) S w.heap.size (fw l) (fw l):=by
 have aw:Below w w (w.alloc (.cells #[.string (str l),.int .i64 0,.int .i64 0,.bool false,.slice none 0 0,.slice none 0 0,.slice none 0 0,.slice none 0 0] 62)):=(Below.refl _ _).alloc (Nat.le_refl _) _;have hn:=heap_alloc_new w (.cells #[.string (str l),.int .i64 0,.int .i64 0,.bool false,.slice none 0 0,.slice none 0 0,.slice none 0 0,.slice none 0 0] 62);have bm:=hb.size;refine ⟨M,fun b=>b=w.heap.size,h.below aw,⟨.slice none 0 0,.slice none 0 0,.slice none 0 0,.slice none 0 0,hn,World.ownsRow_nil _ _ _ _,⟨[],rfl,bf.nil _ _ _,fun p hp=>absurd hp List.not_mem_nil⟩,⟨[],rfl,World.ownsRow_nil _ _ _ _,fun p hp=>absurd hp List.not_mem_nil⟩,(by rw [show bE (fw l).aH= [] from List.eq_nil_of_length_eq_zero (by rw [tW];rfl)];exact World.ownsRow_nil _ _ _ _),rfl,fun k hk=>by simp [Value.ownBlock] at hk,fun k hk=>by simp [Value.ownBlock] at hk,fun k hk=>by simp [Value.ownBlock] at hk,fun k hk=>by simp [Value.ownBlock] at hk,fun b hb=> ?_,fun b hb=> ?_,fun b hb hm=> ?_,fun b hb=> ?_⟩,hM,fun b hb=> ?_,aD hb aw bm,fun b hb=>hb.elim,fun b hb=>hb.elim⟩
 ·rw [hb];exact .inl (jR hn)
 ·exact ⟨S,h.mS,by rw [hb];exact Nat.le_of_lt (h.lt S h.mS)⟩
 ·rw [hb] at hm;exact lt_irrefl _ (h.lt _ hm)
 ·rw [hb];exact (Array.getElem?_eq_some_iff.1 hn).1
 ·rw [hb];exact bm
theorem SR.RL(h:SR w M S s)(hK:M K)(hk:bA w K=5+2)(hg:w.grownBy w' (some K)):SR w' M S s∧Sep M M w w':=by
 have hs:Sep M M w w':= .kn hg (fun k hk=>by cases hk;exact hK);obtain ⟨NB,MB,GB,GM,sv,qv,fv,hx⟩:=h;obtain ⟨p1,p2,p3,p4,p5,p6⟩:=hx.parts K hg (fun _ hm=>hm) hs;have n1:K≠MB:=fun e=>by
  have h1:=hx.hn.kinds.2;rw [←e,hk] at h1
  revert h1
  decide
 have n2:K≠GM:=fun e=>by
  have h1:=hx.hg.kinds.2;rw [←e,hk] at h1
  revert h1
  decide
 exact ⟨⟨NB,MB,GB,GM,sv,qv,fv,⟨(p1 (by rw [hk];decide)).trans hx.hS,p2 n1 (by rw [hk];decide),p3 n2 (by rw [hk];decide),p4 (by rw [hk];decide),p5 (by rw [hk];decide),p6 (by rw [hk];decide),hx.nb,hx.nm,hx.mS,hx.mN,hx.mG,hx.ms,hx.oP,hx.oQ,fun b hb=>Nat.lt_of_lt_of_le (hx.lt b hb) hg.size⟩⟩,hs⟩
theorem LX.read{w4:World}{S':Nat}(h:LX W V Q w Ms Mr S Rb s s)(hK:w.heap.size≤K)(h2:Below w w w4)(hr:SR w4 M S' {s with aH:=bE s.aH})(he:∀b,(Ms b∨b=K)→M b)(hm:∀b,M b→(Ms b∨b=K)∨w2.heap.size≤b)(bm:w.heap.size≤w2.heap.size):
 LX W V Q w4 M Mr S' Rb {s with aH:=bE s.aH} {s with aH:=bE s.aH}:=by
 have hs:Sep Ms M w w4:=⟨h2.os,h2.tape,h2.output,h2.size,fun b hb _=>h2.block b hb,fun b hb=>by
  rcases hm b hb with (h1|h1)|h1
  ·exact .inl h1
  ·exact .inr (by omega)
  ·exact .inr (by omega),fun F ⟨m,h3,hl⟩=>⟨m,he m (.inl h3),hl⟩⟩
 have h5:=h.prog hr hs;exact ⟨h5.sr,h5.rr.K9,h5.ms,h5.mr,h5.low,h5.q1,h5.q2⟩
theorem LX.RL{t:aF}(h:LX W V Q w Ms Mr S Rb s t)(hK:Ms K)(hk:bA w K=5+2)(hg:w.grownBy w' (some K)):LX W V Q w' Ms Mr S Rb s t:=by
 obtain ⟨h1,h2⟩:=h.sr.RL hK hk hg;exact h.prog h1 h2
open List (drop_eq_getElem_cons)
variable{held:Bool}{cs:List Value}{C base e B8 j n t:Nat}{v:Value}
open Go.ChangeShapes Go.WideShapes Go.ChangeAt
def Fits{H:Type}(P:Program)(t:TypeId)(d:DataW H):Prop:=∀n∈d.weights P t,n≤reachBytes
theorem akF{H:Type}{P:Program}{e:TypeId}{l:List (DataW H)}{d:DataW H}(hd:d∈l):∀n∈d.weights P e,n∈DataW.weightsAll P e l:=by
 induction l with
 |nil=>cases hd
 |cons x r ih=>
  intro n hn;simp only [DataW.weightsAll,List.mem_append];cases List.mem_cons.1 hd with
  |inl h=>subst h;exact .inl hn
  |inr h=>exact .inr (ih h n hn)
theorem Fits.elem{H:Type}{P:Program}{t e:TypeId}{Ei spare:List (DataW H)}(ht:P.underlying t=some (.slice e))(h:Fits P t (.slice Ei spare)){d:DataW H}(hd:d∈Ei):Fits P e d:=by
 intro n hn;refine h n ?_;simp only [DataW.weights,ht,List.mem_cons,List.mem_append];exact .inr (.inl (akF hd n hn))
theorem Fits.head{H:Type}{P:Program}{t e:TypeId}{Ei spare:List (DataW H)}(ht:P.underlying t=some (.slice e))(h:Fits P t (.slice Ei spare)):(Ei.length+spare.length) *P.bytesOf e≤reachBytes:=by
 refine h _ ?_;simp only [DataW.weights,ht,List.mem_cons,true_or]
theorem Fits.field{H:Type}{P:Program}{t:TypeId}{fs:Array Field}{parts:List (DataW H)}(ht:P.underlying t=some (.struct fs))(h:Fits P t (.agg parts)){f:Field}{d:DataW H}(hf:fs[j]? =some f)(hd:parts[j]? =some d):Fits P f.type d:=by
 intro n hn;refine h n ?_;simp only [DataW.weights,ht];exact DataW.weights_mem_each (j:=j) (by simp [hf]) hd n hn
theorem akG{H:Type}{P:Program}{ts:List TypeId}{ds:List (DataW H)}(h:(DataW.weightsEach P ts ds).all (· ≤reachBytes)=true){t:TypeId}{d:DataW H}(ht:ts[j]? =some t)(hd:ds[j]? =some d):Fits P t d:=by
 intro n hn;exact of_decide_eq_true (List.all_eq_true.1 h n (DataW.weights_mem_each ht hd n hn))
theorem DU{H:Type}{enc:TypeId×Value→H}{P:Program}{spare:Nat→Bool}{t e:TypeId}{d:DataW H}{p:List MemPlace}(ht:P.underlying t=some (.slice e))(he:P.underlying e=some (.int .u8))(hc:P.cellsOf e=1)(ED:P.bytesOf e=1)
 (hf:DataW.trod enc P W base spare held B8 t [v]=some (d,p)) (ey:∀b,spare b=true) (hw:Fits P t d):∃b:List UInt8,Bs W v b∧b.length≤140737488351232:=by
 obtain ⟨b,hb,_⟩:=acs ht he hc hf ey;refine ⟨b,hb,?_⟩;rcases open_ints ht he hc hf with ⟨dm,hx⟩|⟨a,len,cap,zs,dm,_,hl,hm,hz,hx,aW,AE⟩
 ·simp only [List.cons.injEq,and_true] at dm;subst dm;obtain ⟨ad,c,e,_⟩:=hb;simp only [Value.slice.injEq] at e
  omega
 ·simp only [List.cons.injEq,and_true] at dm;subst dm;simp only [Prod.mk.injEq] at hx;rw [hx.1] at hw;have h1:=hw.head ht;rw [ED,Nat.mul_one] at h1;obtain ⟨ad,c,e,_⟩:=hb;simp only [Value.slice.injEq] at e;rw [ey] at hz;simp only [if_true] at hz;simp only [lits,List.length_map,List.length_take,List.length_drop,reachBytes] at h1
  omega
theorem kv{H:Type}{enc:TypeId×Value→H}{P:Program}{spare:Nat→Bool}{fs:Array Field}{xs:List (DataW H×List MemPlace)}
 (hg:∀(i:Nat)(f:Field),fs[i]? =some f→DataW.trod enc P W base spare held n f.type ((cs.drop f.offset).take (P.cellsOf f.type))=xs[i]?)
 (i t off:Nat) (v:Value) (hf:fs[i]?.map (fun f=>(f.type,f.offset))=some (t,off)) (hc:P.cellsOf t=1) (hv:cs[off]? =some v):DataW.trod enc P W base spare held n t [v]=xs[i]?:=by
 cases h:fs[i]? with
 |none=>rw [h] at hf;simp at hf
 |some f=>
  rw [h] at hf;simp only [Option.map_some,Option.some.injEq,Prod.mk.injEq] at hf;obtain ⟨rfl,rfl⟩:=hf;have h1:=hg i f h;obtain ⟨ao,rfl⟩:=List.getElem?_eq_some_iff.1 hv;rw [hc,drop_eq_getElem_cons ao,List.take_succ_cons,List.take_zero] at h1;exact h1
theorem akH{H:Type}{enc:TypeId×Value→H}{P:Program}{spare:Nat→Bool}{d:DataW H}{p:List MemPlace}{α:Type}[Inhabited α](el:List Value→α→Prop)(ht:P.underlying t=some (.slice e))(hC:P.cellsOf e=C)(akI:0<C)
 (akJ:∀n cs d p,DataW.trod enc P W base spare held n e cs=some (d,p)→Fits P e d→cs.length=C→∃x:α,el cs x)
 (hf:DataW.trod enc P W base spare held B8 t [v]=some (d,p)) (ey:∀b,spare b=true) (hw:Fits P t d):
 ∃(l:List α)(ad:Option Addr)(c:Nat),v= .slice ad l.length c∧l.length≤c∧c≤9223372036854775807∧(ad=none→c=0)∧c*P.bytesOf e≤140737488351232∧
  (0<l.length→∃b o,ad=some ⟨b,o,none⟩∧∀(i:Nat)(h:i<l.length),∃cs,cs.length=C∧(∀j,j<C→W.cell? ⟨b,o+i*C+j,none⟩=cs[j]?)∧el cs l[i]):=by
 rcases Go.Deep.open_slice ht hf with ⟨dm,hx⟩|⟨a,len,cap,m,n,D,Pl,dm,_,hl,hm,tC,hx,aW⟩
 ·simp only [List.cons.injEq,and_true] at dm;exact ⟨[],none,0,by simpa using dm,Nat.le_refl _,by omega,fun _=>rfl,by omega,fun h=>by simp at h⟩
 ·simp only [List.cons.injEq,and_true] at dm;rw [ey] at tC;simp only [if_true] at tC;unfold maxLen at hm;simp only [Prod.mk.injEq] at hx;rw [hx.1] at hw;have RM:=hw.head ht;rw [hC] at aW;have hex:∀i,i<len→∃x:α,∃cs,cs.length=C∧(∀j,j<C→W.cell? ((a.add (i*C)).add j)=cs[j]?)∧el cs x:=by
   intro i hi;obtain ⟨cs,h1,h2⟩:=aW i (by omega);obtain ⟨_,h3,h4⟩:=World.cells?_some h1;obtain ⟨x,hx⟩:=akJ _ _ _ _ h2 (hw.elem ht (List.mem_map.2 ⟨i,List.mem_range.2 hi,rfl⟩)) h3;exact ⟨x,cs,h3,h4,hx⟩
  obtain ⟨f,ZG⟩:=Go.Deep.choose_lt (n:=len) (p:=fun i x=>∃cs,cs.length=C∧(∀j,j<C→W.cell? ((a.add (i*C)).add j)=cs[j]?)∧el cs x) hex;have nv:((List.range len).map f).length=len:=by simp
  refine ⟨(List.range len).map f,some a,cap,by rw [nv];exact dm,by rw [nv];exact hl,by omega,(fun h=>by cases h),?_,fun h0=> ?_⟩
  ·simp only [List.length_map,List.length_range,reachBytes] at RM;rw [show len+(m - len)=cap by omega] at RM;exact RM
  ·rw [nv] at h0;obtain ⟨aq7,z1,z2,_⟩:=ZG 0 h0;have hz:=z2 0 akI;rw [List.getElem?_eq_getElem (by omega),Nat.zero_mul,show (a.add 0).add 0=a.add 0 from rfl] at hz;have AF:=NF hz;refine ⟨a.block,a.off,by rw [←AF],fun i hi=> ?_⟩;rw [nv] at hi;obtain ⟨cs,h1,h2,h3⟩:=ZG i hi;refine ⟨cs,h1,fun j hj=> ?_,by simpa using h3⟩;have h4:=h2 j hj;have e1:(a.add (i*C)).add j=⟨a.block,a.off+i*C+j,none⟩:=by
    conv=>lhs;rw [AF]
    rw [Addr.add_lit,Addr.add_lit]
   rw [e1] at h4;exact h4
def akK(W:World)(cs:List Value)(m:Md):Prop:=∃a0 a1 a2 a3 b1 b2 b3 b4,cs= [a0,a1,a2,a3,.int .i64 m.al,.int .i64 m.sub,.bool m.aE,.bool m.aM,.int .i64 m.eM,.int .i64 m.fm,b1,b2,b3,b4,.int .i64 m.origin,.int .i64 m.number]∧yR W a0 a1 a2 a3 b1 b2 b3 b4 m∧DO m
theorem IT{x:Int}(h:(Lit.int .i64 x).wf=true):h_ x:=by
 simp [Lit.wf,IntKind.min,IntKind.max,IntKind.signed,IntKind.bits] at h;exact ⟨h.1,by omega⟩
theorem RN{H:Type}{enc:TypeId×Value→H}{P:Program}{spare:Nat→Bool}{fs:Array Field}{xs:List (DataW H×List MemPlace)}
 (hg:∀(i:Nat)(f:Field),fs[i]? =some f→DataW.trod enc P W base spare held n f.type ((cs.drop f.offset).take (P.cellsOf f.type))=xs[i]?)
 (i t off c:Nat) (l:List Value) (hf:fs[i]?.map (fun f=>(f.type,f.offset))=some (t,off)) (hc:P.cellsOf t=c) (hv:(cs.drop off).take c=l):DataW.trod enc P W base spare held n t l=xs[i]?:=by
 cases h:fs[i]? with
 |none=>rw [h] at hf;simp at hf
 |some f=>
  rw [h] at hf;simp only [Option.map_some,Option.some.injEq,Prod.mk.injEq] at hf;obtain ⟨rfl,rfl⟩:=hf;have h1:=hg i f h;rw [hc,hv] at h1;exact h1
theorem akL{H:Type}{enc:TypeId×Value→H}{spare:Nat→Bool}{d:DataW H}{p:List MemPlace}(ey:∀b,spare b=true)
 (hf:DataW.trod enc prog W base spare held B8 25 [v]=some (d,p)):∃l:List Int,Is W v l∧∀n∈l,(Lit.int .i64 n).wf=true:=by
 rcases open_ints underlying25 underlying3 (by kernel_rfl) hf with ⟨dm,hx⟩|⟨a,len,cap,zs,dm,_,hl,hm,hz,hx,aW,AE⟩
 ·simp only [List.cons.injEq,and_true] at dm;rw [dm];exact ⟨[],⟨none,0,rfl,Rd.nil _ _ _,Nat.le_refl _,by omega,fun _=>rfl⟩,fun n hn=>by cases hn⟩
 ·simp only [List.cons.injEq,and_true] at dm;rw [dm];rw [ey] at hz;simp only [if_true] at hz;unfold maxLen at hm;have aX:(zs.take len).length=len:=by rw [List.length_take];omega
  refine ⟨zs.take len,⟨some a,cap,by rw [aX],⟨by simp,fun hn=> ?_⟩,by rw [aX];exact hl,by omega,fun h=>by cases h⟩,fun n hn=>AE n (List.mem_of_mem_take hn)⟩;rw [aX] at hn⊢;have AF:=NF (aW 0 (by omega));refine ⟨a.block,a.off,by rw [←AF],fun j hj=> ?_⟩;have eE:=aW j (by omega);have e1:a.add j=⟨a.block,a.off+j,none⟩:=by
   conv=>lhs;rw [AF]
   rw [Addr.add_lit]
  rw [e1] at eE;rw [eE];have akM:j<zs.length:=by omega
  simp [List.getD,akM,show j<len by omega]
theorem akN{H:Type}{enc:TypeId×Value→H}{spare:Nat→Bool}(ey:∀b,spare b=true)(c0 c1 c2 c3:Value)(d:DataW H)(p:List MemPlace)(hf:DataW.trod enc prog W base spare held n 24 [c0,c1,c2,c3]=some (d,p))(hw:Fits prog 24 d):
 ∃(fm:Int)(C R U:List UInt8),c0= .int .i64 fm∧h_ fm∧Bs W c1 C∧Bs W c2 R∧Bs W c3 U:=by
 obtain ⟨xs,n',_,hx,_,nG,hg⟩:=DataW.trod_struct underlying24 hf;simp only [Prod.mk.injEq] at hx
 match xs,nG with
 |[y0,y1,y2,y3],_=>
  rw [hx.1] at hw;have g0:=kv hg 0 3 0 c0 rfl (by kernel_rfl) rfl;have g1:=kv hg 1 22 1 c1 rfl (by kernel_rfl) rfl;have g2:=kv hg 2 22 2 c2 rfl (by kernel_rfl) rfl;have g3:=kv hg 3 22 3 c3 rfl (by kernel_rfl) rfl;obtain ⟨a,e0,_,ha⟩:=DataW.trod_int underlying3 (x:=y0) g0;obtain ⟨C,hC,_⟩:=DU underlying22 underlying5 (by kernel_rfl) (by kernel_rfl) (d:=y1.1) (p:=y1.2) g1 ey (hw.field underlying24 (j:=1) rfl rfl);obtain ⟨R,hR,_⟩:=DU underlying22 underlying5 (by kernel_rfl) (by kernel_rfl) (d:=y2.1) (p:=y2.2) g2 ey (hw.field underlying24 (j:=2) rfl rfl);obtain ⟨U,hU,_⟩:=DU underlying22 underlying5 (by kernel_rfl) (by kernel_rfl) (d:=y3.1) (p:=y3.2) g3 ey (hw.field underlying24 (j:=3) rfl rfl);exact ⟨a,C,R,U,by simpa using e0,IT ha,hC,hR,hU⟩
theorem akO{H:Type}{enc:TypeId×Value→H}{spare:Nat→Bool}(ey:∀b,spare b=true)(cs:List Value)(d:DataW H)(p:List MemPlace)(hf:DataW.trod enc prog W base spare held n 27 cs=some (d,p))(hw:Fits prog 27 d)(hl:cs.length=16):
 ∃m:Md,akK W cs m:=by
 match cs,hl with
 |[c0,c1,c2,c3,c4,c5,c6,c7,c8,c9,gw,kq,jm,jP,BP,BQ],_=>
  obtain ⟨xs,n',_,hx,_,nG,hg⟩:=DataW.trod_struct underlying27 hf;simp only [Prod.mk.injEq] at hx
  match xs,nG with
  |[y0,y1,y2,y3,y4,y5,y6,y7,y8,y9,y10,akP,akQ],_=>
   rw [hx.1] at hw;have g0:=kv hg 0 22 0 c0 rfl (by kernel_rfl) rfl;have g1:=kv hg 1 22 1 c1 rfl (by kernel_rfl) rfl;have g2:=kv hg 2 22 2 c2 rfl (by kernel_rfl) rfl;have g3:=kv hg 3 22 3 c3 rfl (by kernel_rfl) rfl;have g4:=kv hg 4 3 4 c4 rfl (by kernel_rfl) rfl;have g5:=kv hg 5 3 5 c5 rfl (by kernel_rfl) rfl;have g6:=kv hg 6 4 6 c6 rfl (by kernel_rfl) rfl;have g7:=kv hg 7 4 7 c7 rfl (by kernel_rfl) rfl;have g8:=kv hg 8 3 8 c8 rfl (by kernel_rfl) rfl;have g9:=RN hg 9 24 9 4 [c9,gw,kq,jm] rfl (by kernel_rfl) rfl;have g10:=kv hg 10 25 13 jP rfl (by kernel_rfl) rfl;have g11:=kv hg 11 3 14 BP rfl (by kernel_rfl) rfl;have g12:=kv hg 12 3 15 BQ rfl (by kernel_rfl) rfl;obtain ⟨T,hT,_⟩:=DU underlying22 underlying5 (by kernel_rfl) (by kernel_rfl) (d:=y0.1) (p:=y0.2) g0 ey (hw.field underlying27 (j:=0) rfl rfl);obtain ⟨F,hF,_⟩:=DU underlying22 underlying5 (by kernel_rfl) (by kernel_rfl) (d:=y1.1) (p:=y1.2) g1 ey (hw.field underlying27 (j:=1) rfl rfl);obtain ⟨S,hS,_⟩:=DU underlying22 underlying5 (by kernel_rfl) (by kernel_rfl) (d:=y2.1) (p:=y2.2) g2 ey (hw.field underlying27 (j:=2) rfl rfl);obtain ⟨Y,hY,_⟩:=DU underlying22 underlying5 (by kernel_rfl) (by kernel_rfl) (d:=y3.1) (p:=y3.2) g3 ey (hw.field underlying27 (j:=3) rfl rfl);obtain ⟨fm,C,R,U,e9,akR,hC,hR,hU⟩:=akN (d:=y9.1) (p:=y9.2) ey c9 gw kq jm g9 (hw.field underlying27 (j:=9) rfl rfl);obtain ⟨I,hI,_⟩:=akL (d:=y10.1) (p:=y10.2) ey g10;obtain ⟨q,e4,_,_⟩:=DataW.trod_int underlying3 (x:=y4) g4;obtain ⟨s,e5,_,_⟩:=DataW.trod_int underlying3 (x:=y5) g5;obtain ⟨rt,e6,_⟩:=DataW.trod_bool underlying4 (x:=y6) g6;obtain ⟨kp,e7,_⟩:=DataW.trod_bool underlying4 (x:=y7) g7;obtain ⟨li,e8,_,akS⟩:=DataW.trod_int underlying3 (x:=y8) g8;obtain ⟨og,F0,_,_⟩:=DataW.trod_int underlying3 (x:=akP) g11;obtain ⟨nu,Cc,_,_⟩:=DataW.trod_int underlying3 (x:=akQ) g12;have RO:c4= .int .i64 q:=by simpa using e4
   have RP:c5= .int .i64 s:=by simpa using e5
   have akT:c6= .bool rt:=by simpa using e6
   have akU:c7= .bool kp:=by simpa using e7
   have akV:c8= .int .i64 li:=by simpa using e8
   have akW:BP= .int .i64 og:=by simpa using F0
   have akX:BQ= .int .i64 nu:=by simpa using Cc
   exact ⟨⟨T,F,S,Y,q,s,rt,kp,li,fm,C,R,U,I,og,nu⟩,c0,c1,c2,c3,gw,kq,jm,jP,by rw [RO,RP,akT,akU,akV,e9,akW,akX],⟨hT,hF,hS,hY,hC,hR,hU,hI⟩,⟨akR,IT akS⟩⟩
structure qC where
 d:Int
 n:Int
 m:Int
 yes:Bool
 it:Md
 sub:Sb
instance:Inhabited Md:=⟨⟨[],[],[],[],0,0,false,false,0,0,[],[],[],[],0,0⟩⟩
instance:Inhabited qC:=⟨⟨0,0,0,false,default,⟨[],0,false,false,0,0⟩⟩⟩
def RQ(a0 a1 a2 a3 b1 b2 b3 b4:Value)(x:qC):List Value:= [.int .i64 x.d,.int .i64 x.n,.int .i64 x.m,.bool x.yes,a0,a1,a2,a3,.int .i64 x.it.al,.int .i64 x.it.sub,.bool x.it.aE,.bool x.it.aM,.int .i64 x.it.eM,.int .i64 x.it.fm,b1,b2,b3,b4,.int .i64 x.it.origin,.int .i64 x.it.number,.string (str x.sub.filter),.int .i64 x.sub.al,.bool x.sub.lE,.bool x.sub.lF,.int .i64 x.sub.jx,.int .i64 x.sub.id]
def RS(W:World)(cs:List Value)(x:qC):Prop:=∃a0 a1 a2 a3 b1 b2 b3 b4,cs=RQ a0 a1 a2 a3 b1 b2 b3 b4 x∧yR W a0 a1 a2 a3 b1 b2 b3 b4 x.it∧DO x.it∧h_ x.d∧h_ x.n∧h_ x.m
theorem akY{H:Type}{enc:TypeId×Value→H}{spare:Nat→Bool}(c0 c1 c2 c3 c4 c5:Value)(d:DataW H)(p:List MemPlace)(hf:DataW.trod enc prog W base spare held n 64 [c0,c1,c2,c3,c4,c5]=some (d,p)):
 ∃x:Sb,[c0,c1,c2,c3,c4,c5]=aP x:=by
 obtain ⟨xs,n',_,hx,_,nG,hg⟩:=DataW.trod_struct underlying64 hf
 match xs,nG with
 |[y0,y1,y2,y3,y4,y5],_=>
  have g0:=kv hg 0 9 0 c0 rfl (by kernel_rfl) rfl;have g1:=kv hg 1 3 1 c1 rfl (by kernel_rfl) rfl;have g2:=kv hg 2 4 2 c2 rfl (by kernel_rfl) rfl;have g3:=kv hg 3 4 3 c3 rfl (by kernel_rfl) rfl;have g4:=kv hg 4 3 4 c4 rfl (by kernel_rfl) rfl;have g5:=kv hg 5 3 5 c5 rfl (by kernel_rfl) rfl;obtain ⟨s,e0,_,_⟩:=DataW.trod_string underlying9 (x:=y0) g0;obtain ⟨N,rfl,_⟩:=TF s;obtain ⟨q,e1,_,_⟩:=DataW.trod_int underlying3 (x:=y1) g1;obtain ⟨nl,e2,_⟩:=DataW.trod_bool underlying4 (x:=y2) g2;obtain ⟨ap,e3,_⟩:=DataW.trod_bool underlying4 (x:=y3) g3;obtain ⟨h,e4,_,_⟩:=DataW.trod_int underlying3 (x:=y4) g4;obtain ⟨i,e5,_,_⟩:=DataW.trod_int underlying3 (x:=y5) g5;have RT:c0= .string (str N):=by simpa using e0
  have DV:c1= .int .i64 q:=by simpa using e1
  have RU:c2= .bool nl:=by simpa using e2
  have Fy:c3= .bool ap:=by simpa using e3
  have RO:c4= .int .i64 h:=by simpa using e4
  have RP:c5= .int .i64 i:=by simpa using e5
  exact ⟨⟨N,q,nl,ap,h,i⟩,by rw [RT,DV,RU,Fy,RO,RP];rfl⟩
theorem akZ{H:Type}{enc:TypeId×Value→H}{spare:Nat→Bool}(ey:∀b,spare b=true)(cs:List Value)(d:DataW H)(p:List MemPlace)(hf:DataW.trod enc prog W base spare held n 66 cs=some (d,p))(hw:Fits prog 66 d)(hl:cs.length=26):
 ∃x:qC,RS W cs x:=by
 match cs,hl with
 |[c0,c1,c2,c3,c4,c5,c6,c7,c8,c9,gw,kq,jm,jP,BP,BQ,ZH,Ly,BI,ZI,nO,c21,RV,RW,RY,RZ],_=>
  obtain ⟨xs,n',_,hx,_,nG,hg⟩:=DataW.trod_struct underlying66 hf;simp only [Prod.mk.injEq] at hx
  match xs,nG with
  |[y0,y1,y2,y3,y4,y5],_=>
   rw [hx.1] at hw;have g0:=kv hg 0 3 0 c0 rfl (by kernel_rfl) rfl;have g1:=kv hg 1 3 1 c1 rfl (by kernel_rfl) rfl;have g2:=kv hg 2 3 2 c2 rfl (by kernel_rfl) rfl;have g3:=kv hg 3 4 3 c3 rfl (by kernel_rfl) rfl;have g4:=RN hg 4 27 4 16 [c4,c5,c6,c7,c8,c9,gw,kq,jm,jP,BP,BQ,ZH,Ly,BI,ZI] rfl (by kernel_rfl) rfl;have g5:=RN hg 5 64 20 6 [nO,c21,RV,RW,RY,RZ] rfl (by kernel_rfl) rfl;obtain ⟨a,e0,_,ha⟩:=DataW.trod_int underlying3 (x:=y0) g0;obtain ⟨b,e1,_,hb⟩:=DataW.trod_int underlying3 (x:=y1) g1;obtain ⟨c,e2,_,hc⟩:=DataW.trod_int underlying3 (x:=y2) g2;obtain ⟨y,e3,_⟩:=DataW.trod_bool underlying4 (x:=y3) g3;obtain ⟨m,a0,a1,a2,a3,b1,b2,b3,b4,hm,ak0,cM⟩:=akO ey _ y4.1 y4.2 g4 (hw.field underlying66 (j:=4) rfl rfl) rfl;obtain ⟨u,hu⟩:=akY nO c21 RV RW RY RZ y5.1 y5.2 g5;have RT:c0= .int .i64 a:=by simpa using e0
   have DV:c1= .int .i64 b:=by simpa using e1
   have RU:c2= .int .i64 c:=by simpa using e2
   have Fy:c3= .bool y:=by simpa using e3
   refine ⟨⟨a,b,c,y,m,u⟩,a0,a1,a2,a3,b1,b2,b3,b4,?_,ak0,cM,IT ha,IT hb,IT hc⟩;rw [RT,DV,RU,Fy];show _::_::_::_::([c4,c5,c6,c7,c8,c9,gw,kq,jm,jP,BP,BQ,ZH,Ly,BI,ZI]++ [nO,c21,RV,RW,RY,RZ])=_;rw [hm,hu]
   rfl
def Mv(W:World)(v:Value)(l:List qC):Prop:=∃ad c,v= .slice ad l.length c∧l.length≤c∧c≤9223372036854775807∧(ad=none→c=0)∧(0<l.length→∃b o,ad=some ⟨b,o,none⟩∧∀(i:Nat)(h:i<l.length),∃cs,cs.length=26∧(∀j,j<26→W.cell? ⟨b,o+i*26+j,none⟩=cs[j]?)∧RS W cs l[i])
theorem ak1{H:Type}{enc:TypeId×Value→H}{spare:Nat→Bool}{d:DataW H}{p:List MemPlace}(ey:∀b,spare b=true)(hf:DataW.trod enc prog W base spare held B8 55 [v]=some (d,p))(hw:Fits prog 55 d):
 ∃l:List qC,Mv W v l:=by
 obtain ⟨l,ad,c,h1,h2,h3,h4,h6,h5⟩:=akH (α:=qC) (RS W) underlying55 (C:=26) (by kernel_rfl) (by omega)
  (fun n cs d p hf hw hl=>akZ ey cs d p hf hw hl) hf ey hw
 exact ⟨l,ad,c,h1,h2,h3,h4,h5⟩
theorem Mv.at{l:List qC}(h:Mv W v l)(hb:Below W W w)(i:Nat)(hi:i<l.length):
 ∃g o c,v= .slice (some ⟨g,o,none⟩) l.length c∧∃a0 a1 a2 a3 b1 b2 b3 b4,(∀j,j<(RQ a0 a1 a2 a3 b1 b2 b3 b4 l[i]).length→w.cell? ⟨g,o+i*26+j,none⟩=(RQ a0 a1 a2 a3 b1 b2 b3 b4 l[i])[j]?)∧yR W a0 a1 a2 a3 b1 b2 b3 b4 l[i].it∧DO l[i].it∧h_ l[i].d∧h_ l[i].n∧h_ l[i].m:=by
 obtain ⟨ad,c,rfl,_,_,_,h5⟩:=h;obtain ⟨b,o,rfl,h6⟩:=h5 (by omega);obtain ⟨cs,hl,hc,a0,a1,a2,a3,b1,b2,b3,b4,rfl,h7⟩:=h6 i hi;refine ⟨b,o,c,rfl,a0,a1,a2,a3,b1,b2,b3,b4,fun j hj=> ?_,h7⟩;have:=hc j (by rw [←hl];exact hj);rw [List.getElem?_eq_getElem hj] at this⊢;exact cell_later hb this
def cq(_:qC)(_:Option Addr)(_:Nat)(_:Option Addr)(_:Nat)(_:Option Addr)(_:Nat)(_:Option Addr)(_:Nat)(_:Option Addr)(_:Nat)(_:Option Addr)(_:Nat)(_:Option Addr)(_:Nat)(_:Option Addr)(_:Nat):Zt:=Zt.a
instance aq8{x:qC}{a0:Option Addr}{a1:Nat}{a2:Option Addr}{a3:Nat}{a4:Option Addr}{a5:Nat}{a6:Option Addr}{a7:Nat}{a8:Option Addr}{a9:Nat}{mX:Option Addr}{mY:Nat}{a12:Option Addr}{mZ:Nat}{m4:Option Addr}{m6:Nat}:CoeDep Zt (cq x a0 a1 a2 a3 a4 a5 a6 a7 a8 a9 mX mY a12 mZ m4 m6) (Array Value):=⟨#[.int .i64 x.d,.int .i64 x.n,.int .i64 x.m,.bool x.yes,.slice a0 x.it.aJ.length a1,.slice a2 x.it.src.length a3,.slice a4 x.it.share.length a5,.slice a6 x.it.az.length a7,.int .i64 x.it.al,.int .i64 x.it.sub,.bool x.it.aE,.bool x.it.aM,.int .i64 x.it.eM,.int .i64 x.it.fm,.slice a8 x.it.co.length a9,.slice mX x.it.cr.length mY,.slice a12 x.it.us.length mZ,.slice m4 x.it.ids.length m6,.int .i64 x.it.origin,.int .i64 x.it.number,.string (str x.sub.filter),.int .i64 x.sub.al,.bool x.sub.lE,.bool x.sub.lF,.int .i64 x.sub.jx,.int .i64 x.sub.id]⟩
instance aq9{x:qC}{a0:Option Addr}{a1:Nat}{a2:Option Addr}{a3:Nat}{a4:Option Addr}{a5:Nat}{a6:Option Addr}{a7:Nat}{a8:Option Addr}{a9:Nat}{mX:Option Addr}{mY:Nat}{a12:Option Addr}{mZ:Nat}{m4:Option Addr}{m6:Nat}:CoeDep Zt (cq x a0 a1 a2 a3 a4 a5 a6 a7 a8 a9 mX mY a12 mZ m4 m6) (List Value):=⟨[.int .i64 x.d,.int .i64 x.n,.int .i64 x.m,.bool x.yes,.slice a0 x.it.aJ.length a1,.slice a2 x.it.src.length a3,.slice a4 x.it.share.length a5,.slice a6 x.it.az.length a7,.int .i64 x.it.al,.int .i64 x.it.sub,.bool x.it.aE,.bool x.it.aM,.int .i64 x.it.eM,.int .i64 x.it.fm,.slice a8 x.it.co.length a9,.slice mX x.it.cr.length mY,.slice a12 x.it.us.length mZ,.slice m4 x.it.ids.length m6,.int .i64 x.it.origin,.int .i64 x.it.number,.string (str x.sub.filter),.int .i64 x.sub.al,.bool x.sub.lE,.bool x.sub.lF,.int .i64 x.sub.jx,.int .i64 x.sub.id]⟩
def ur(k:Int):Prop:=∀(x:qC)(ta fa sa pa ca ra ua ia:Option Addr)(tc fc sc pc cc rc uc ic:Nat)(S Rb:Nat)(s:aF)(_:du s)(_:within x.d 0 12=k)(W V w:World)(Q:Nat→Prop)(_:LW W V Q w S Rb s s)(_:yR W (.slice ta x.it.aJ.length tc) (.slice fa x.it.src.length fc) (.slice sa x.it.share.length sc) (.slice pa x.it.az.length pc) (.slice ca x.it.co.length cc) (.slice ra x.it.cr.length rc) (.slice ua x.it.us.length uc) (.slice ia x.it.ids.length ic) x.it)(_:DO x.it)(_:h_ x.n)(_:h_ x.m)(R:Ending→World→Prop)(_:∀w' s',du s'→LW W w' (fun _=>False) w' S Rb s' s'→R (.returned (.bool true)) w'),Calls prog 23 #[.pointer (some ⟨S,0,none⟩),.pointer (some ⟨Rb,0,none⟩),.agg (cq x ta tc fa fc sa sc pa pc ca cc ra rc ua uc ia ic)] w R
theorem ZJ{P:Prop}(h:P:=by
 clear k0 kz k1 k2;go_wp2_with fail;exact HR.o_ _ (jE s z) (HS.o_.land HZ.o_) ((jH.o_.DH (jE s z).cj).plain _)):P:=h
theorem ak2:ur 2:=by
 intro x ta fa sa pa ca ra ua ia tc fc sc pc cc rc uc ic S Rb s hs hq W V w Q h cX cM dA dj R hR
 obtain ⟨z,hz⟩:=ai (cV (kE x.n [1]) s.aj);obtain ⟨z',jr⟩:∃z,cV (fun f:Fl=>f.id==x.n) s.aj=z:=⟨_,rfl⟩
 obtain ⟨b,hb⟩:∃b,decide (0≤z)=b:=⟨_,rfl⟩
 have ht:=Yo hs.inv hz jr;rw [hb] at ht;have HZ:=ab hz;have IU:=ab jr;have HT:=ab ht;have cK:=ab hb;have fy:Hid (s.aj.length≤100000):=Nat.le_trans hs.inv.fn (by decide);clear hz jr ht hb;have HR:=ab hR;have HS:=ab hs;have HQ:=ab hq;have rh:=ab cX;have ri:=ab cM;have rj:=ab dA;have tg:=ab dj;have hl:=h.hold (Obj.cells (cq x ta tc fa fc sa sc pa pc ca cc ra rc ua uc ia ic) 66);have aq:=heap_alloc_new w (Obj.cells (cq x ta tc fa fc sa sc pa pc ca cc ra rc ua uc ia ic) 66);have c0:=af _ w 0 _ _ _ aq;clear hR hs hq h cX cM dA dj;go_enter func23,ntmps23;go_upto_region 1 with fail
 generalize w.alloc (Obj.cells (cq x ta tc fa fc sa sc pa pc ca cc ra rc ua uc ia ic) 66)=w1 at hl aq c0⊢;obtain ⟨K,hK⟩:=ai w.heap.size;rw [hK] at hl aq c0⊢;have HL:=ab hl;have aU:=ab aq;clear hl aq hK;go_upto_region 9 with (first
  |(go_at_call 20;go_must (refine mv x.d 0 12 _ (by decide) (by decide) (by decide) _ ?_);rw [HQ.o_]))
 clear c0;have k0:=af (w1.drew) K 1 _ _ _ ((HL.o_.below (Below.refl _ _).drew).row rfl aU.o_);have kz:=af w1 K 1 _ _ _ aU.o_;go_region_held3 (fun y=>y.cell? ⟨K,1,none⟩=some (.int .i64 x.n))
  (first|with_reducible exact k0|with_reducible exact k1|with_reducible exact k2|go_keep)
  (first
   |(go_at_call 12;refine ake (HL.o_.below (Below.refl _ _).drew) HS.o_.inv x.n z HZ.o_ _ ?_;rw [cK.o_];intro w3 h3;have iP:=ab h3;have k1:=af w3 K 1 _ _ _ (h3.row rfl aU.o_);clear h3)
   |(go_at_call 71;refine akh iP.o_ fy.o_ x.n z' IU.o_ _ b HT.o_ _ ?_;intro w4 h4;have jH:=ab h4;have k2:=af w4 K 1 _ _ _ (h4.row rfl aU.o_);clear h4))
 all_goals
  exact ZJ
theorem ak3:ur 4:=by
 intro x ta fa sa pa ca ra ua ia tc fc sc pc cc rc uc ic S Rb s hs hq W V w Q h cX cM dA dj R hR
 obtain ⟨z,hz⟩:=ai (cV (kE x.n [3]) s.aj);obtain ⟨z',jr⟩:∃z,cV (fun f:Fl=>f.id==x.n) s.aj=z:=⟨_,rfl⟩
 obtain ⟨b,hb⟩:∃b,decide (0≤z)=b:=⟨_,rfl⟩
 have ht:=Yo hs.inv hz jr;rw [hb] at ht;have HZ:=ab hz;have IU:=ab jr;have HT:=ab ht;have cK:=ab hb;have fy:Hid (s.aj.length≤100000):=Nat.le_trans hs.inv.fn (by decide);clear hz jr ht hb;have HR:=ab hR;have HS:=ab hs;have HQ:=ab hq;have rh:=ab cX;have ri:=ab cM;have rj:=ab dA;have tg:=ab dj;have hl:=h.hold (Obj.cells (cq x ta tc fa fc sa sc pa pc ca cc ra rc ua uc ia ic) 66);have aq:=heap_alloc_new w (Obj.cells (cq x ta tc fa fc sa sc pa pc ca cc ra rc ua uc ia ic) 66);have c0:=af _ w 0 _ _ _ aq;clear hR hs hq h cX cM dA dj;go_enter func23,ntmps23;go_upto_region 1 with fail
 generalize w.alloc (Obj.cells (cq x ta tc fa fc sa sc pa pc ca cc ra rc ua uc ia ic) 66)=w1 at hl aq c0⊢;obtain ⟨K,hK⟩:=ai w.heap.size;rw [hK] at hl aq c0⊢;have HL:=ab hl;have aU:=ab aq;clear hl aq hK;go_upto_region 15 with (first
  |(go_at_call 20;go_must (refine mv x.d 0 12 _ (by decide) (by decide) (by decide) _ ?_);rw [HQ.o_]))
 clear c0;have k0:=af (w1.drew) K 1 _ _ _ ((HL.o_.below (Below.refl _ _).drew).row rfl aU.o_);have kz:=af w1 K 1 _ _ _ aU.o_;go_region_held3 (fun y=>y.cell? ⟨K,1,none⟩=some (.int .i64 x.n))
  (first|with_reducible exact k0|with_reducible exact k1|with_reducible exact k2|go_keep)
  (first
   |(go_at_call 18;refine akf (HL.o_.below (Below.refl _ _).drew) HS.o_.inv x.n z HZ.o_ _ ?_;rw [cK.o_];intro w3 h3;have iP:=ab h3;have k1:=af w3 K 1 _ _ _ (h3.row rfl aU.o_);clear h3)
   |(go_at_call 73;refine aki iP.o_ fy.o_ x.n z' IU.o_ _ b HT.o_ _ ?_;intro w4 h4;have jH:=ab h4;have k2:=af w4 K 1 _ _ _ (h4.row rfl aU.o_);clear h4))
 all_goals
  exact ZJ
theorem ak4:ur 6:=by
 intro x ta fa sa pa ca ra ua ia tc fc sc pc cc rc uc ic S Rb s hs hq W V w Q h cX cM dA dj R hR
 obtain ⟨b,hb⟩:=ai (s.aH.contains x.n);have cK:=ab hb;have fy:Hid (s.aH.length≤100000):=Nat.le_trans hs.gn (by decide);clear hb;have HR:=ab hR;have HS:=ab hs;have HQ:=ab hq;have rh:=ab cX;have ri:=ab cM;have rj:=ab dA;have tg:=ab dj;have hl:=h.hold (Obj.cells (cq x ta tc fa fc sa sc pa pc ca cc ra rc ua uc ia ic) 66);have aq:=heap_alloc_new w (Obj.cells (cq x ta tc fa fc sa sc pa pc ca cc ra rc ua uc ia ic) 66);have c0:=af _ w 0 _ _ _ aq;clear hR hs hq h cX cM dA dj;go_enter func23,ntmps23;go_upto_region 1 with fail
 generalize w.alloc (Obj.cells (cq x ta tc fa fc sa sc pa pc ca cc ra rc ua uc ia ic) 66)=w1 at hl aq c0⊢;obtain ⟨K,hK⟩:=ai w.heap.size;rw [hK] at hl aq c0⊢;have HL:=ab hl;have aU:=ab aq;clear hl aq hK;go_upto_region 21 with (first
  |(go_at_call 20;go_must (refine mv x.d 0 12 _ (by decide) (by decide) (by decide) _ ?_);rw [HQ.o_]))
 clear c0;have k0:=af (w1.drew) K 1 _ _ _ ((HL.o_.below (Below.refl _ _).drew).row rfl aU.o_);have kz:=af w1 K 1 _ _ _ aU.o_;go_region_held3 (fun y=>y.cell? ⟨K,1,none⟩=some (.int .i64 x.n))
  (first|with_reducible exact k0|with_reducible exact k1|with_reducible exact k2|go_keep)
  (first
   |(go_at_call 75;refine akm (HL.o_.below (Below.refl _ _).drew) x.n rj.o_ b cK.o_ _ ?_;intro w3 h3;have iP:=ab h3;have k1:=af w3 K 1 _ _ _ (h3.row rfl aU.o_);clear h3)
   |(go_at_call 76;refine akn iP.o_ fy.o_ x.n b cK.o_ _ ?_;intro w4 h4;have jH:=ab h4;have k2:=af w4 K 1 _ _ _ (h4.row rfl aU.o_);clear h4))
 all_goals
  clear k0 kz k1 k2;go_wp2_with fail;exact HR.o_ _ {s with aH:=s.aH.erase x.n} (HS.o_.left x.n) (jH.o_.plain _)
theorem ak5:ur 9:=by
 intro x ta fa sa pa ca ra ua ia tc fc sc pc cc rc uc ic S Rb s hs hq W V w Q h cX cM dA dj R hR
 obtain ⟨d,hd⟩:=ai ((s.queue.length:Int) - ((oA s.queue x.m).length:Int));have HD:=ab hd;have fy:Hid (s.queue.length≤100000):=Nat.le_trans hs.inv.qn (by decide);clear hd;have HR:=ab hR;have HS:=ab hs;have HQ:=ab hq;have rh:=ab cX;have ri:=ab cM;have rj:=ab dA;have tg:=ab dj;have hl:=h.hold (Obj.cells (cq x ta tc fa fc sa sc pa pc ca cc ra rc ua uc ia ic) 66);have aq:=heap_alloc_new w (Obj.cells (cq x ta tc fa fc sa sc pa pc ca cc ra rc ua uc ia ic) 66);have c0:=af _ w 0 _ _ _ aq;clear hR hs hq h cX cM dA dj;go_enter func23,ntmps23;go_upto_region 1 with fail
 generalize w.alloc (Obj.cells (cq x ta tc fa fc sa sc pa pc ca cc ra rc ua uc ia ic) 66)=w1 at hl aq c0⊢;obtain ⟨K,hK⟩:=ai w.heap.size;rw [hK] at hl aq c0⊢;have HL:=ab hl;have aU:=ab aq;clear hl aq hK;go_upto_region 29 with (first
  |(go_at_call 20;go_must (refine mv x.d 0 12 _ (by decide) (by decide) (by decide) _ ?_);rw [HQ.o_]))
 clear c0;have k0:=af (w1.drew) K 2 _ _ _ ((HL.o_.below (Below.refl _ _).drew).row rfl aU.o_);have kz:=af w1 K 2 _ _ _ aU.o_;go_region_held3 (fun y=>y.cell? ⟨K,2,none⟩=some (.int .i64 x.m))
  (first|with_reducible exact k0|with_reducible exact k1|with_reducible exact k2|go_keep)
  (first
   |(go_at_call 81;refine aks (HL.o_.below (Below.refl _ _).drew) x.m d HD.o_ fy.o_ _ ?_;intro w3 h3;have iP:=ab h3;have k1:=af w3 K 2 _ _ _ (h3.row rfl aU.o_);clear h3)
   |(go_at_call 82;refine akt iP.o_ x.m d HD.o_ fy.o_ _ ?_;intro w4 h4;have jH:=ab h4;have k2:=af w4 K 2 _ _ _ (h4.row rfl aU.o_);clear h4))
 all_goals
  clear k0 kz k1 k2;go_wp2_with fail;exact HR.o_ _ {s with queue:=oA s.queue x.m} (HS.o_.old x.m) (jH.o_.plain _)
theorem ak6:ur 10:=by
 intro x ta fa sa pa ca ra ua ia tc fc sc pc cc rc uc ic S Rb s hs hq W V w Q h cX cM dA dj R hR
 obtain ⟨b,hb⟩:=ai (kV s x.n);have cK:=ab hb;have fy:Hid (s.queue.length≤100000):=Nat.le_trans hs.inv.qn (by decide);clear hb;have HR:=ab hR;have HS:=ab hs;have HQ:=ab hq;have rh:=ab cX;have ri:=ab cM;have rj:=ab dA;have tg:=ab dj;have hl:=h.hold (Obj.cells (cq x ta tc fa fc sa sc pa pc ca cc ra rc ua uc ia ic) 66);have aq:=heap_alloc_new w (Obj.cells (cq x ta tc fa fc sa sc pa pc ca cc ra rc ua uc ia ic) 66);have c0:=af _ w 0 _ _ _ aq;clear hR hs hq h cX cM dA dj;go_enter func23,ntmps23;go_upto_region 1 with fail
 generalize w.alloc (Obj.cells (cq x ta tc fa fc sa sc pa pc ca cc ra rc ua uc ia ic) 66)=w1 at hl aq c0⊢;obtain ⟨K,hK⟩:=ai w.heap.size;rw [hK] at hl aq c0⊢;have HL:=ab hl;have aU:=ab aq;clear hl aq hK;go_upto_region 31 with (first
  |(go_at_call 20;go_must (refine mv x.d 0 12 _ (by decide) (by decide) (by decide) _ ?_);rw [HQ.o_]))
 clear c0;have k0:=af (w1.drew) K 1 _ _ _ ((HL.o_.below (Below.refl _ _).drew).row rfl aU.o_);have kz:=af w1 K 1 _ _ _ aU.o_;go_region_held3 (fun y=>y.cell? ⟨K,1,none⟩=some (.int .i64 x.n))
  (first|with_reducible exact k0|go_keep)
  (first
   |(go_at_call 40;refine aku (HL.o_.below (Below.refl _ _).drew) x.n b cK.o_ fy.o_ _ ?_)
   |(go_at_call 83;refine akv (HL.o_.below (Below.refl _ _).drew) x.n b cK.o_ fy.o_ _ ?_))
 all_goals
  clear k0 kz;go_wp2_with fail;exact HR.o_ _ s HS.o_ ((HL.o_.below (Below.refl _ _).drew).plain _)
end Go.Proofs.YtgimbocoamnkjaaGreatDoor
