/- A part of the proof of SessionReads; no conditions. -/
import Derived.Test.YtgimbocoamnkjaaGreatDoorM34
import Derived.Test.YtgimbocoamnkjaaGreatDoorM21
import Derived.Test.YtgimbocoamnkjaaGreatDoorM19
import Derived.Test.YtgimbocoamnkjaaGreatDoorM15
import Derived.BigRegion
set_option maxRecDepth 100000
set_option maxHeartbeats 16000000
namespace Go.Proofs.YtgimbocoamnkjaaGreatDoor
open _root_.Go.Proofs.Tryz
open Int (toNat_natCast)
open List (mem_cons_self)
open Nat (lt_irrefl)
variable{ok:Bool}{x:Im}{id:Int}{K Rb S:Nat}{M M' Mr Ms Q:Nat→Prop}{o:Obj}{s s':az}{aw1 aw4 w w':World}
open Go.RowKit
theorem SR.apart{t:az}(h:SR w Ms S s)(k:RR w Ms M Rb t)(W:Sep M M' w w'):SR w' Ms S s:=by
 obtain⟨NB,MB,GB,GM,sv,qv,fv,F⟩:=h;obtain⟨rv,rq,rf,rg,hr⟩:=k;exact⟨NB,MB,GB,GM,sv,qv,fv,F.apart hr.kd hr.lo hr.qG W⟩
structure LX(aw4 aw1:World)(Q:Nat→Prop)(w:World)(Ms Mr:Nat→Prop)(S Rb:Nat)(s t:az):Prop where
 sr:SR w Ms S s
 rr:RR w Ms Mr Rb t
 ms:∀b,Ms b→aw4.heap.size≤b
 mr:∀b,Mr b→aw4.heap.size≤b
 low:Below aw4 aw4 w
 q1:∀b,Q b→b<w.heap.size∧w.heap[b]? =aw1.heap[b]?
 q2:∀b,Q b→¬Ms b∧¬Mr b
def LW(aw4 aw1:World)(Q:Nat→Prop)(w:World)(S Rb:Nat)(s t:az):Prop:=∃Ms Mr,LX aw4 aw1 Q w Ms Mr S Rb s t
theorem LX.prog{B9:Nat→Prop}{S':Nat}{t:az}(h:LX aw4 aw1 Q w Ms Mr S Rb s t)(hr:SR w' B9 S' s')(W:Sep Ms B9 w w'):LX aw4 aw1 Q w' B9 Mr S' Rb s' t:=by
 have hl:=h.low.size;refine⟨hr,h.rr.sep W,fun b U=> ?_,h.mr,cz h.low (W.low hl h.ms) bj,fun b U=> ?_,fun b U=>⟨fun hm=> ?_,(h.q2 b U).2⟩⟩
 ·rcases W.new b U with h1|h1
  ·exact h.ms b h1
  ·omega
 ·obtain⟨h1,h2⟩:=h.q1 b U;exact⟨eV h1 W.size,(W.block b h1 (h.q2 b U).1).trans h2⟩
 rcases W.new b hm with h1|h1
 ·exact(h.q2 b U).1 h1
 have:=(h.q1 b U).1
 omega
theorem LX.doc{Gc:Nat→Prop}{t t':az}(h:LX aw4 aw1 Q w Ms Mr S Rb s t)(hr:RR w' Ms Gc Rb t')(W:Sep Mr Gc w w'):LX aw4 aw1 Q w' Ms Gc S Rb s t':=by
 have hl:=h.low.size;refine⟨h.sr.apart h.rr W,hr,h.ms,fun b U=> ?_,cz h.low (W.low hl h.mr) bj,fun b U=> ?_,fun b U=>⟨(h.q2 b U).1,fun hm=> ?_⟩⟩
 ·rcases W.new b U with h1|h1
  ·exact h.mr b h1
  ·omega
 ·obtain⟨h1,h2⟩:=h.q1 b U;exact⟨eV h1 W.size,(W.block b h1 (h.q2 b U).2).trans h2⟩
 rcases W.new b hm with h1|h1
 ·exact(h.q2 b U).2 h1
 have:=(h.q1 b U).1
 omega
theorem LX.below{t:az}(h:LX aw4 aw1 Q w Ms Mr S Rb s t)(U:Below w w w'):LX aw4 aw1 Q w' Ms Mr S Rb s t:=h.prog (h.sr.below U) (.cL U)
theorem LW.below{t:az}(h:LW aw4 aw1 Q w S Rb s t)(U:Below w w w'):LW aw4 aw1 Q w' S Rb s t:=by
 obtain⟨Ms,Mr,F⟩:=h;exact⟨Ms,Mr,F.below U⟩
theorem LW.low{t:az}(h:LW aw4 aw1 Q w S Rb s t):Below aw4 aw4 w:=by
 obtain⟨Ms,Mr,F⟩:=h;exact F.low
theorem LW.row{t:az}(h:LW aw4 aw1 Q w S Rb s t)(hQ:Q K)(ho:aw1.heap[K]? =some o):w.heap[K]? =some o:=by
 obtain⟨Ms,Mr,F⟩:=h;exact(F.q1 K hQ).2.trans ho
theorem LW.hold{t:az}(h:LW aw4 aw1 Q w S Rb s t)(o:Obj):LW aw4 (w.alloc o) (fun b=>b=w.heap.size) (w.alloc o) S Rb s t:=by
 obtain⟨Ms,Mr,F⟩:=h;have U:Below w w (w.alloc o):=aD _ _;have h2:=F.below U;refine⟨Ms,Mr,h2.sr,h2.rr,h2.ms,h2.mr,h2.low,fun b U=> ?_,fun b U=>⟨fun hm=> ?_,fun hm=> ?_⟩⟩
 ·subst U;exact⟨(eI.1 (aH w o)).1,rfl⟩
 ·subst U;exact lt_irrefl _ (F.sr.lt _ hm)
 subst U;obtain⟨rv,rq,rf,rg,hr⟩:=F.rr;exact lt_irrefl _ (hr.lt _ hm)
theorem LW.plain{t:az}(h:LW aw4 aw1 Q w S Rb s t)(V':World):LW aw4 V' (fun _=>False) w S Rb s t:=by
 obtain⟨Ms,Mr,F⟩:=h;exact⟨Ms,Mr,F.sr,F.rr,F.ms,F.mr,F.low,fun b U=>U.elim,fun b U=>U.elim⟩
theorem LW.F5{t:az}(h:LW aw4 aw1 Q w S Rb s t)(n:List Int):LW aw4 aw1 Q w S Rb s {t with bJ:=n}:=by
 obtain⟨Ms,Mr,F⟩:=h;exact⟨Ms,Mr,F.sr,F.rr.F5 n,F.ms,F.mr,F.low,F.q1,F.q2⟩
theorem Sep.lt{P:Nat→Prop}(h:Sep M M' w w')(hl:∀b,P b→b<w.heap.size):∀b,P b→b<w'.heap.size:=fun b U=>eV (hl b U) h.size
section
variable {aw4 aw1 w:World} {Q:Nat→Prop} {S Rb:Nat} {s t:az}
theorem am9(h:LW aw4 aw1 Q w S Rb s t)(hi:gg s)(id z:Int)(hz:dE (mv id [1]) s.ag=z)(R:ak)(I:∀w',LW aw4 aw1 Q w' S Rb (kM s z) t→R (.returned (.bool (decide (0≤z)))) w'):
 Calls prog 12 #[zq S,E id] w R:=by
 obtain⟨Ms,Mr,F⟩:=h;exact Zy S s id z hz hi.i64 (aJ hi.fn (by decide)) w Ms F.sr R fun M' w' h1 h2=>I w' ⟨_,_,F.prog h1 h2⟩
theorem ana(h:LW aw4 aw1 Q w S Rb s t)(hi:gg s)(id z:Int)(hz:dE (mv id [3]) s.ag=z)(R:ak)(I:∀w',LW aw4 aw1 Q w' S Rb (kM s z) t→R (.returned (.bool (decide (0≤z)))) w'):
 Calls prog 18 #[zq S,E id] w R:=by
 obtain⟨Ms,Mr,F⟩:=h;exact ajy S s id z hz hi.i64 (aJ hi.fn (by decide)) w Ms F.sr R fun M' w' h1 h2=>I w' ⟨_,_,F.prog h1 h2⟩
theorem anb(h:LW aw4 aw1 Q w S Rb s t)(hi:gg s)(id z:Int)(fine:Bool)(hz:dE (mv id [2,3]) s.ag=z)(s':az)(a b:Bool)(hr:BW s z fine=(s',a,b))(R:ak)(I:∀w',LW aw4 aw1 Q w' S Rb s' t→R (.returned (.tuple #[.bool a,.bool b])) w'):
 Calls prog 11 #[zq S,E id,.bool fine] w R:=by
 obtain⟨Ms,Mr,F⟩:=h;exact ajE S s id fine z hz hi.i64 (aJ hi.fn (by decide)) s' a b hr w Ms F.sr R fun M' w' h1 h2=>I w' ⟨_,_,F.prog h1 h2⟩
theorem anc(h:LW aw4 aw1 Q w S Rb s t)(hl:t.ag.length≤100000)(id z:Int)(hz:dE (fun f:Fl=>f.id==id) t.ag=z)(t':az)(b:Bool)(ht:Cb t z 1=(t',b))(R:ak)(I:∀w',LW aw4 aw1 Q w' S Rb s t'→R (.returned (.bool b)) w'):
 Calls prog 71 #[zq Rb,E id] w R:=by
 obtain⟨Ms,Mr,F⟩:=h;exact akO Rb t id z hz hl t' b ht w Ms Mr F.rr F.sr.lt R fun M' w' h1 h2=>I w' ⟨_,_,F.doc h1 h2⟩
theorem ane(h:LW aw4 aw1 Q w S Rb s t)(hl:t.ag.length≤100000)(id z:Int)(hz:dE (fun f:Fl=>f.id==id) t.ag=z)(t':az)(b:Bool)(ht:Cb t z 3=(t',b))(R:ak)(I:∀w',LW aw4 aw1 Q w' S Rb s t'→R (.returned (.bool b)) w'):
 Calls prog 73 #[zq Rb,E id] w R:=by
 obtain⟨Ms,Mr,F⟩:=h;exact akP Rb t id z hz hl t' b ht w Ms Mr F.rr F.sr.lt R fun M' w' h1 h2=>I w' ⟨_,_,F.doc h1 h2⟩
theorem anf(h:LW aw4 aw1 Q w S Rb s t)(hl:t.ag.length≤100000)(id z:Int)(fine:Bool)(hz:dE (fun f:Fl=>f.id==id) t.ag=z)(t':az)(a b:Bool)(ht:FM t z fine=(t',a,b))(R:ak)(I:∀w',LW aw4 aw1 Q w' S Rb s t'→R (.returned (.tuple #[.bool a,.bool b])) w'):
 Calls prog 72 #[zq Rb,E id,.bool fine] w R:=by
 obtain⟨Ms,Mr,F⟩:=h;exact akS Rb t id z fine hz hl t' a b ht w Ms Mr F.rr F.sr.lt R fun M' w' h1 h2=>I w' ⟨_,_,F.doc h1 h2⟩
theorem ang(h:LW aw4 aw1 Q w S Rb s t)(id:Int)(hid:iR id)(s':az)(a b:Bool)(J:pU s id=(s',a,b))(R:ak)(I:∀w',LW aw4 aw1 Q w' S Rb s' t→R (.returned (.tuple #[.bool a,.bool b])) w'):
 Calls prog 52 #[zq S,E id] w R:=by
 obtain⟨Ms,Mr,F⟩:=h;exact akH S s id hid s' a b J w Ms F.sr R fun w' h1 h2=>I w' ⟨_,_,F.prog h1 h2⟩
theorem anh(h:LW aw4 aw1 Q w S Rb s t)(hl:t.aB.length≤100000)(id:Int)(t':az)(a b:Bool)(J:pU t id=(t',a,b))(R:ak)(I:∀w',LW aw4 aw1 Q w' S Rb s t'→R (.returned (.tuple #[.bool a,.bool b])) w'):
 Calls prog 74 #[zq Rb,E id] w R:=by
 obtain⟨Ms,Mr,F⟩:=h;exact alm Rb t id t' a b J hl w Ms Mr F.rr F.sr.lt R fun M' w' h1 h2=>I w' ⟨_,_,F.doc h1 h2⟩
theorem ani(h:LW aw4 aw1 Q w S Rb s t)(id:Int)(hid:iR id)(b:Bool)(U:s.aB.contains id=b)(R:ak)(I:∀w',LW aw4 aw1 Q w' S Rb {s with aB:=s.aB.erase id} t→R (.returned (.bool b)) w'):
 Calls prog 75 #[zq S,E id] w R:=by
 obtain⟨Ms,Mr,F⟩:=h;exact akI S s id hid b U w Ms F.sr R fun w' h1 h2=>I w' ⟨_,_,F.prog h1 h2⟩
theorem anj(h:LW aw4 aw1 Q w S Rb s t)(hl:t.aB.length≤100000)(id:Int)(b:Bool)(U:t.aB.contains id=b)(R:ak)(I:∀w',LW aw4 aw1 Q w' S Rb s {t with aB:=t.aB.erase id}→R (.returned (.bool b)) w'):
 Calls prog 76 #[.pointer (some ⟨Rb,7,none⟩),E id] w R:=by
 obtain⟨Ms,Mr,F⟩:=h;exact alf Rb t id b U hl w Ms Mr F.rr F.sr.lt R fun M' w' h1 h2=>I w' ⟨_,_,F.doc h1 h2⟩
theorem ank(h:LW aw4 aw1 Q w S Rb s t)(x:Sb)(s':az)(a b:Bool)(J:om s x=(s',a,b))(W:j7 s.al)(hl:s.al.length≤100000)(R:ak)(I:∀w',LW aw4 aw1 Q w' S Rb s' t→R (.returned (.tuple #[.bool a,.bool b])) w'):
 Calls prog 47 #[zq S,.agg (bH x)] w R:=by
 obtain⟨Ms,Mr,F⟩:=h;obtain⟨NB,MB,GB,GM,sv,qv,fv,hr⟩:=F.sr;exact ace S NB MB GB GM sv qv fv s x s' a b J W hl w Ms hr R fun M' dG w' h1 h2 _ _=>I w' ⟨_,_,F.prog ⟨_,_,_,_,_,_,_,h1⟩ h2⟩
theorem anl(h:LW aw4 aw1 Q w S Rb s t)(x:Sb)(t':az)(a b:Bool)(J:om t x=(t',a,b))(W:j7 t.al)(hl:t.al.length≤100000)(R:ak)(I:∀w',LW aw4 aw1 Q w' S Rb s t'→R (.returned (.tuple #[.bool a,.bool b])) w'):
 Calls prog 78 #[zq Rb,.agg (bH x)] w R:=by
 obtain⟨Ms,Mr,F⟩:=h;have pV:∀j,j<gH t.al x.filter→∀(gA:j<t.al.length),wZ (t.al[j]).filter x.filter=true:=fun j hj gA=>by
  rw[abr,decide_eq_true_eq];exact(C9 t.al x.filter W j gA).2 hj
 have xY:∀(h:gH t.al x.filter<t.al.length),wZ (t.al[gH t.al x.filter]).filter x.filter=false:=fun hj=>by
  rw[abr,decide_eq_false_iff_not];exact fun h=>lt_irrefl _ ((C9 t.al x.filter W _ hj).1 h)
 unfold om at J
 split at J
 ·rename_i hi
  obtain⟨G,e⟩:=EI hi;simp only[Prod.mk.injEq] at J;obtain⟨rfl,rfl,rfl⟩:=J;exact akX Rb t x _ (EH _ _) pV xY G (fun _=>e) hl w Ms Mr F.rr F.sr.lt R fun M' w' h1 h2=>I w' ⟨_,_,F.doc h1 h2⟩
 rename_i hi
 have bf:∀(h:gH t.al x.filter<t.al.length),(t.al[gH t.al x.filter]).filter≠x.filter:=fun G e=>hi (by
  unfold sm;rw[dW G];simp[e])
 split at J
 ·rename_i h8
  simp only[Prod.mk.injEq] at J;obtain⟨rfl,rfl,rfl⟩:=J;exact akV Rb t x _ (EH _ _) pV xY bf h8 hl w Ms Mr F.rr F.sr.lt R fun w' U=>I w' ⟨_,_,F.below U⟩
 rename_i h8
 simp only[Prod.mk.injEq] at J;obtain⟨rfl,rfl,rfl⟩:=J;exact akZ Rb t x _ (EH _ _) pV xY bf h8 hl w Ms Mr F.rr F.sr.lt R fun M' w' h1 h2=>I w' ⟨_,_,F.doc h1 h2⟩
theorem anm(h:LW aw4 aw1 Q w S Rb s t)(f:List UInt8)(s':az)(b:Bool)(J:C_ s f=(s',b))(W:j7 s.al)(hl:s.al.length≤100000)(R:ak)(I:∀w',LW aw4 aw1 Q w' S Rb s' t→R (.returned (.bool b)) w'):
 Calls prog 79 #[zq S,.string (str f)] w R:=by
 obtain⟨Ms,Mr,F⟩:=h;obtain⟨NB,MB,GB,GM,sv,qv,fv,hr⟩:=F.sr;exact amU S NB MB GB GM sv qv fv s f s' b J W hl w Ms hr R fun M' dG w' h1 h2=>I w' ⟨_,_,F.prog ⟨_,_,_,_,_,_,_,h1⟩ h2⟩
theorem ann(h:LW aw4 aw1 Q w S Rb s t)(f:List UInt8)(t':az)(b:Bool)(J:C_ t f=(t',b))(W:j7 t.al)(hl:t.al.length≤100000)(R:ak)(I:∀w',LW aw4 aw1 Q w' S Rb s t'→R (.returned (.bool b)) w'):
 Calls prog 80 #[zq Rb,.string (str f)] w R:=by
 obtain⟨Ms,Mr,F⟩:=h;refine akL Rb t f _ (ahI W) hl w Ms Mr F.rr F.sr.lt R fun M' w' h1 h2=> ?_;unfold C_ at J
 split at J
 ·rename_i hi
  simp only[Prod.mk.injEq] at J;obtain⟨rfl,rfl⟩:=J;rw[if_pos hi,if_neg (by omega),toNat_natCast] at h1;rw[if_pos hi,eN (by omega)];exact I w' ⟨_,_,F.doc h1 h2⟩
 rename_i hi
 simp only[Prod.mk.injEq] at J;obtain⟨rfl,rfl⟩:=J;rw[if_neg hi,if_pos (by decide)] at h1;rw[if_neg hi];exact I w' ⟨_,_,F.doc h1 h2⟩
theorem ano(h:LW aw4 aw1 Q w S Rb s t)(now d:Int)(hd:(s.queue.length:Int) - ((qK s.queue now).length:Int)=d)(hl:s.queue.length≤100000)(R:ak)(I:∀w',LW aw4 aw1 Q w' S Rb {s with queue:=qK s.queue now} t→R (.returned (E d)) w'):
 Calls prog 81 #[zq S,E now] w R:=by
 obtain⟨Ms,Mr,F⟩:=h;exact am6 S s now d hd hl w Ms F.sr R fun M' w' h1 h2=>I w' ⟨_,_,F.prog h1 h2⟩
theorem anp(h:LW aw4 aw1 Q w S Rb s t)(now d:Int)(hd:(t.queue.length:Int) - ((qK t.queue now).length:Int)=d)(hl:t.queue.length≤100000)(R:ak)(I:∀w',LW aw4 aw1 Q w' S Rb s {t with queue:=qK t.queue now}→R (.returned (E d)) w'):
 Calls prog 82 #[zq Rb,E now] w R:=by
 obtain⟨Ms,Mr,F⟩:=h;exact ak6 Rb t now d hd hl w Ms Mr F.rr F.sr.lt R fun M' w' h1 h2=>I w' ⟨_,_,F.doc h1 h2⟩
theorem anq(h:LW aw4 aw1 Q w S Rb s t)(cu:Int)(b:Bool)(U:mQ s cu=b)(hl:s.queue.length≤100000)(R:ak)(I:R (.returned (.bool b)) w):
 Calls prog 40 #[zq S,E cu] w R:=by
 obtain⟨Ms,Mr,F⟩:=h;exact OC S s cu b U w Ms F.sr hl R I
theorem anr(h:LW aw4 aw1 Q w S Rb s t)(cu:Int)(b:Bool)(U:mQ t cu=b)(hl:t.queue.length≤100000)(R:ak)(I:R (.returned (.bool b)) w):
 Calls prog 83 #[zq Rb,E cu] w R:=by
 obtain⟨Ms,Mr,F⟩:=h;exact OW Rb t cu b U w Ms Mr F.rr hl R I
theorem ans(h:LW aw4 aw1 Q w S Rb s t)(x y:Int)(b:Bool)(R:ak)(I:∀w',LW aw4 aw1 Q w' S Rb {s with cI:=x,ends:=y,ej:=b} t→R (.returned (.tuple #[])) w'):
 Calls prog 46 #[zq S,E x,E y,.bool b] w R:=by
 obtain⟨Ms,Mr,F⟩:=h;exact aki S s x y b w Ms F.sr R fun w' h1 h2=>I w' ⟨_,_,F.prog h1 h2⟩
theorem LW.ant(h:LW aw4 aw1 Q w S Rb s t)(x y:Int)(b:Bool):LW aw4 aw1 Q (((w.setCell ⟨Rb,1,none⟩ (E x)).setCell ⟨Rb,2,none⟩ (E y)).setCell ⟨Rb,3,none⟩ (.bool b)) S Rb s {t with cI:=x,ends:=y,ej:=b}∧
 (w.cell? ⟨Rb,1,none⟩=some (.int .i64 t.cI)∧w.frozen? ⟨Rb,1,none⟩=false)∧((w.setCell ⟨Rb,1,none⟩ (E x)).cell? ⟨Rb,2,none⟩=some (.int .i64 t.ends)∧(w.setCell ⟨Rb,1,none⟩ (E x)).frozen? ⟨Rb,2,none⟩=false)∧
 (((w.setCell ⟨Rb,1,none⟩ (E x)).setCell ⟨Rb,2,none⟩ (E y)).cell? ⟨Rb,3,none⟩=some (.bool t.ej)∧((w.setCell ⟨Rb,1,none⟩ (E x)).setCell ⟨Rb,2,none⟩ (E y)).frozen? ⟨Rb,3,none⟩=false):=by
 obtain⟨Ms,Mr,F⟩:=h;obtain⟨sv,qv,fv,gv,hr⟩:=F.rr;have k1:=hr.cell F.sr.lt 1 (E x) {t with cI:=x} (by rw[bm w Rb 1 _ _ _ hr.hS];rfl) rfl rfl rfl rfl;have k2:=k1.1.cell (k1.2.lt F.sr.lt) 2 (E y) {t with cI:=x,ends:=y} (by rw[bm _ Rb 2 _ _ _ k1.1.hS];rfl) rfl rfl rfl rfl;have k3:=k2.1.cell (k2.2.lt (k1.2.lt F.sr.lt)) 3 (.bool b) {t with cI:=x,ends:=y,ej:=b} (by rw[bm _ Rb 3 _ _ _ k2.1.hS];rfl) rfl rfl rfl rfl;exact⟨⟨_,_,((F.doc ⟨_,_,_,_,k1.1⟩ k1.2).doc ⟨_,_,_,_,k2.1⟩ k2.2).doc ⟨_,_,_,_,k3.1⟩ k3.2⟩,⟨D 1 hr.hS,aC hr.hS 1⟩,⟨D 2 k1.1.hS,aC k1.1.hS 2⟩,D 3 k2.1.hS,aC k2.1.hS 3⟩
theorem anu(h:LW aw4 aw1 Q w S Rb s t)(hi:gg s)(x:Im)(pv qw ev:Value)(J:ie w pv qw ev x)(hB:fX x)(s':az)(b:Bool)(cK:kk s x=(s',b))(R:ak)(I:∀w',LW aw4 aw1 Q w' S Rb s' t→R (.returned (.bool b)) w'):
 Calls prog 8 #[zq S,(Value.agg (qi x pv qw ev))] w R:=by
 obtain⟨Ms,Mr,F⟩:=h;exact aaq S s x b s' cK hi pv qw ev w Ms F.sr J hB R fun M' w' h1 h2=>I w' ⟨_,_,F.prog h1 h2⟩
theorem anv(h:LW aw4 aw1 Q w S Rb s t)(hq:t.queue.length≤8)(x:Im)(V:av)(X:Nat)(qa:av)(qc:Nat)(ea:av)(ec:Nat)(w1:World)(U:Below w w w1)(hit:DU aw4 w.heap.size w1 (.slice V x.note.ay.length X) (.slice qa x.note.props.length qc) (.slice ea x.ids.length ec) x)(hB:fX x)(t':az)(b:Bool)(cK:kk t x=(t',b))(R:ak)
 (I:∀w',LW aw4 aw1 Q w' S Rb s t'→R (.returned (.bool b)) w'):
 Calls prog 68 #[zq Rb,(Value.agg (aG x V X qa qc ea ec))] w1 R:=by
 obtain⟨Ms,Mr,F⟩:=h;have aO:=F.below U;have J:dk w1 Ms (.slice V x.note.ay.length X,.slice qa x.note.props.length qc,.slice ea x.ids.length ec) x:=⟨hit.wr fun b U=>⟨F.ms b U,F.sr.lt b U⟩,hB⟩
 unfold kk at cK;by_cases hl:t.queue.length<8
 ·rw[if_pos hl] at cK;cases cK;exact ak4 Rb t x V X qa qc ea ec w1 Ms Mr aO.rr aO.sr.lt hl J R fun M' w' h1 h2=>I w' ⟨_,_,aO.doc h1 h2⟩
 rw[if_neg hl] at cK;cases cK;exact ak3 Rb t _ w1 Ms Mr aO.rr (by omega) (by omega) R fun w' ri=>I w' ⟨_,_,aO.below ri⟩
def LI(aw4 aw1:World)(Q:Nat→Prop)(w:World)(S Rb:Nat)(s t:az)(c:V3)(x:Im):Prop:=∃Ms Mr,LX aw4 aw1 Q w Ms Mr S Rb s t∧dk w Ms c x
theorem LI.lw{c:V3}(h:LI aw4 aw1 Q w S Rb s t c x):LW aw4 aw1 Q w S Rb s t:=by
 obtain⟨Ms,Mr,F,_⟩:=h;exact⟨Ms,Mr,F⟩
theorem LI.im{c:V3}(h:LI aw4 aw1 Q w S Rb s t c x):ie w c.1 c.2.1 c.2.2 x:=by
 obtain⟨Ms,Mr,_,hi⟩:=h;exact hi.1.O
theorem LI.below{c:V3}(h:LI aw4 aw1 Q w S Rb s t c x)(U:Below w w w'):LI aw4 aw1 Q w' S Rb s t c x:=by
 obtain⟨Ms,Mr,F,hi⟩:=h;exact⟨Ms,Mr,F.below U,hi.sep (.cL U)⟩
theorem anw(h:LW aw4 aw1 Q w S Rb s t)(hi:gg s)(cu:Int)(R:ak)
 (I:∀x id ok s' V X qa qc ea ec w',zD s cu x id ok s'→LI aw4 aw1 Q w' S Rb s' t (.slice V x.note.ay.length X,.slice qa x.note.props.length qc,.slice ea x.ids.length ec) x→
   R (.returned (.tuple #[(Value.agg (aG x V X qa qc ea ec)),E id,.bool ok])) w'):
 Calls prog 10 #[zq S,E cu] w R:=by
 obtain⟨Ms,Mr,F⟩:=h;exact aao S s cu hi w Ms F.sr R fun x id ok s' B M' V X qa qc ea ec w' hn h1 h2 h3 h4 h5 h6=>I x id ok s' V X qa qc ea ec w' hn ⟨_,_,F.prog h1 h2,⟨(h3.wr h5).imp fun y hy=>hy.c h6,h6⟩⟩
theorem Z0.Ca:dk w M (.slice none 0 0,.slice none 0 0,.slice none 0 0) ⟨⟨[],[],0,false,[],0,[],0,0,0⟩,0,false,[],[]⟩:=
 ⟨fun _ y _=>⟨Z0.nil.bs y,Z0.nil.ps y,Z0.nil.is y⟩,X1⟩
theorem anx{c:V3}(h:LI aw4 aw1 Q w S Rb s' s c x)(W:fg s)(cu:Int)(hn:zD s cu x id ok s')(R:ak)
 (I:∀V X qa qc ea ec w',LI aw4 aw1 Q w' S Rb s' s' c x→ie w' (.slice V x.note.ay.length X) (.slice qa x.note.props.length qc) (.slice ea x.ids.length ec) x→
   R (.returned (.tuple #[(Value.agg (aG x V X qa qc ea ec)),E id,.bool ok])) w'):
 Calls prog 69 #[zq Rb,E cu] w R:=by
 obtain⟨Ms,Mr,F,hi⟩:=h;have hq:=aJ W.inv.qn (by decide:8≤100000);have hf:=aJ W.inv.fn (by decide:8≤100000);have au:=F.sr.lt;have PU:=F.rr;obtain⟨rv,rq,rf,rg,hr⟩:=PU;cases hn with
 |no U=>exact amh Rb _ cu U w Ms Mr F.rr hq R fun w' jg=>I none 0 none 0 none 0 w' ⟨_,_,F.below jg,hi.sep (.cL jg)⟩ (Z0.Ca (M:=Ms)).1.O
 |out x rest LK U hz=>
  exact ami Rb s x rest LK cu U hz w Ms Mr F.rr au hq R fun M' V X qa qc ea ec w' h1 h2 h3=>I V X qa qc ea ec w' ⟨_,_,F.doc h1 h2,hi.apart hr.kd hr.lo h2⟩ h3.1.O
 |mP x rest d LK U hz h1 h2 J ha=>
  have anz:=W.qk x (by rw[LK];exact mem_cons_self);have gJ:=anz.k.q1;have hid:=fun d:Int=>alP W.inv (d:=d);have lO:s.bJ.length≤8:=by rw[W.inv.eq,j0];exact W.inv.fn
  exact amm Rb s x rest LK cu U (by omega) d h1 (by omega) ((hid d).1 J) (fun j LF gA=>(hid j).2 (ha j LF gA)) hf w Ms Mr F.rr au hq R fun M' V X qa qc ea ec w' k1 k2 k3=>I V X qa qc ea ec w' ⟨_,_,F.doc (k1.F5 _) k2,hi.apart hr.kd hr.lo k2⟩ k3.1.O
end
open List (getElem_map getElem_mem)
variable{ec g k n:Nat}{Y V:av}
structure zX(w:World)(Y:av)(n:Nat)(l:List Im):Prop where
 ex:∃qs:List (V3×Im),qs.map (·.2)=l∧Rd w 14 Y n (qs.flatMap dX)∧∀p∈qs,ie w p.1.1 p.1.2.1 p.1.2.2 p.2
 len:n=l.length
structure Cr(w:World)(Y:av)(n:Nat)(l:List Fl):Prop where
 ex:∃qs:List (V3×Fl),qs.map (·.2)=l∧Rd w 16 Y n (qs.flatMap bV)∧∀p∈qs,ie w p.1.1 p.1.2.1 p.1.2.2 p.2.item
 len:n=l.length
theorem zX.below{l:List Im}(h:zX w Y n l)(U:Below w w w'):zX w' Y n l:=by
 obtain⟨qs,h1,h2,h3⟩:=h.ex;exact⟨⟨qs,h1,h2.below U,fun p hp=>(h3 p hp).below U⟩,h.len⟩
theorem Cr.below{l:List Fl}(h:Cr w Y n l)(U:Below w w w'):Cr w' Y n l:=by
 obtain⟨qs,h1,h2,h3⟩:=h.ex;exact⟨⟨qs,h1,h2.below U,fun p hp=>(h3 p hp).below U⟩,h.len⟩
theorem zX.at{l:List Im}(h:zX w Y n l)(G:k<n)(hl:k<l.length):∃g o V X qa qc ea ec,Y=some ⟨g,o,none⟩∧(∀j,j<14→w.cell? ⟨g,o+k*14+j,none⟩= [.string (str l[k].note.aF),(.slice V l[k].note.ay.length X),.int .i64 l[k].note.ah,.bool l[k].note.aL,.string (str l[k].note.src),.int .i64 l[k].note.aP,(.slice qa l[k].note.props.length qc),.int .i64 l[k].note.origin,.int .i64 l[k].note.number,.int .i64 l[k].note.aW,.int .i64 l[k].ah,.bool l[k].aI,(.slice ea l[k].ids.length ec),.string (str l[k].share)][j]?)∧ie w (.slice V l[k].note.ay.length X) (.slice qa l[k].note.props.length qc) (.slice ea l[k].ids.length ec) l[k]:=by
 obtain⟨qs,h1,h2,h3⟩:=h.ex;subst h1;have pM:k<qs.length:=by simpa using hl
 obtain⟨g,o,rfl,J⟩:=h2.2 (by omega);obtain⟨⟨⟨v1,v2,v3⟩,x⟩,jV⟩:∃p,qs[k]=p:=⟨_,rfl⟩
 have hm:(((v1,v2,v3),x):V3×Im)∈qs:=by rw[←jV];exact getElem_mem pM
 have hC:=h3 _ hm;simp only at hC;obtain⟨⟨V,X,e1⟩,⟨qa,qc,e2⟩,ea,ec,e3⟩:=hC.shape;subst e1 e2 e3;have F:(qs.map (·.2))[k]=x:=by rw[getElem_map,jV]
 rw[F];refine⟨g,o,V,X,qa,qc,ea,ec,rfl,fun j hj=> ?_,hC⟩;rw[oO,J (k*14+j) (by omega),kY 14 dX oS qs k j pM hj,jV]
 rfl
theorem Cr.at{l:List Fl}(h:Cr w Y n l)(G:k<n)(hl:k<l.length):∃g o V X qa qc ea ec,Y=some ⟨g,o,none⟩∧(∀j,j<16→w.cell? ⟨g,o+k*16+j,none⟩= [.int .i64 l[k].id,.int .i64 l[k].state,.string (str l[k].item.note.aF),(.slice V l[k].item.note.ay.length X),.int .i64 l[k].item.note.ah,.bool l[k].item.note.aL,.string (str l[k].item.note.src),.int .i64 l[k].item.note.aP,(.slice qa l[k].item.note.props.length qc),.int .i64 l[k].item.note.origin,.int .i64 l[k].item.note.number,.int .i64 l[k].item.note.aW,.int .i64 l[k].item.ah,.bool l[k].item.aI,(.slice ea l[k].item.ids.length ec),.string (str l[k].item.share)][j]?)∧ie w (.slice V l[k].item.note.ay.length X) (.slice qa l[k].item.note.props.length qc) (.slice ea l[k].item.ids.length ec) l[k].item:=by
 obtain⟨qs,h1,h2,h3⟩:=h.ex;subst h1;have pM:k<qs.length:=by simpa using hl
 obtain⟨g,o,rfl,J⟩:=h2.2 (by omega);obtain⟨⟨⟨v1,v2,v3⟩,x⟩,jV⟩:∃p,qs[k]=p:=⟨_,rfl⟩
 have hm:(((v1,v2,v3),x):V3×Fl)∈qs:=by rw[←jV];exact getElem_mem pM
 have hC:=h3 _ hm;simp only at hC;obtain⟨⟨V,X,e1⟩,⟨qa,qc,e2⟩,ea,ec,e3⟩:=hC.shape;subst e1 e2 e3;have F:(qs.map (·.2))[k]=x:=by rw[getElem_map,jV]
 rw[F];refine⟨g,o,V,X,qa,qc,ea,ec,rfl,fun j hj=> ?_,hC⟩;rw[oO,J (k*16+j) (by omega),kY 16 bV j5 qs k j pM hj,jV]
 rfl
theorem acx{P:Prop}(h:P:=by
 obtain⟨h0,h1,h2,h3,h4,h5,h6,h7,h8,h9,h10,h11,h12,h13⟩:=h;exact⟨cell_later U h0,cell_later U h1,cell_later U h2,cell_later U h3,cell_later U h4,cell_later U h5,cell_later U h6,cell_later U h7,cell_later U h8,cell_later U h9,cell_later U h10,cell_later U h11,cell_later U h12,cell_later U h13⟩):P:=h
theorem acy{b:Nat}{qa ea:av}{X qc:Nat}(U:Below w w w')(h:w.cell? ⟨g,b,none⟩=some (.string (str x.note.aF))∧w.cell? ⟨g,b+1,none⟩=some (.slice V x.note.ay.length X)∧w.cell? ⟨g,b+2,none⟩=some (.int .i64 x.note.ah)∧w.cell? ⟨g,b+3,none⟩=some (.bool x.note.aL)∧w.cell? ⟨g,b+4,none⟩=some (.string (str x.note.src))∧w.cell? ⟨g,b+5,none⟩=some (.int .i64 x.note.aP)∧w.cell? ⟨g,b+6,none⟩=some (.slice qa x.note.props.length qc)∧w.cell? ⟨g,b+7,none⟩=some (.int .i64 x.note.origin)∧w.cell? ⟨g,b+8,none⟩=some (.int .i64 x.note.number)∧w.cell? ⟨g,b+9,none⟩=some (.int .i64 x.note.aW)∧w.cell? ⟨g,b+10,none⟩=some (.int .i64 x.ah)∧w.cell? ⟨g,b+11,none⟩=some (.bool x.aI)∧w.cell? ⟨g,b+12,none⟩=some (.slice ea x.ids.length ec)∧w.cell? ⟨g,b+13,none⟩=some (.string (str x.share))):w'.cell? ⟨g,b,none⟩=some (.string (str x.note.aF))∧w'.cell? ⟨g,b+1,none⟩=some (.slice V x.note.ay.length X)∧w'.cell? ⟨g,b+2,none⟩=some (.int .i64 x.note.ah)∧w'.cell? ⟨g,b+3,none⟩=some (.bool x.note.aL)∧w'.cell? ⟨g,b+4,none⟩=some (.string (str x.note.src))∧w'.cell? ⟨g,b+5,none⟩=some (.int .i64 x.note.aP)∧w'.cell? ⟨g,b+6,none⟩=some (.slice qa x.note.props.length qc)∧w'.cell? ⟨g,b+7,none⟩=some (.int .i64 x.note.origin)∧w'.cell? ⟨g,b+8,none⟩=some (.int .i64 x.note.number)∧w'.cell? ⟨g,b+9,none⟩=some (.int .i64 x.note.aW)∧w'.cell? ⟨g,b+10,none⟩=some (.int .i64 x.ah)∧w'.cell? ⟨g,b+11,none⟩=some (.bool x.aI)∧w'.cell? ⟨g,b+12,none⟩=some (.slice ea x.ids.length ec)∧w'.cell? ⟨g,b+13,none⟩=some (.string (str x.share)):=by
 exact acx
theorem acz{b:Nat}{qa ea:av}{X qc:Nat}(U:Below w w w')(h:w.cell? ⟨g,b+2,none⟩=some (.string (str x.note.aF))∧w.cell? ⟨g,b+3,none⟩=some (.slice V x.note.ay.length X)∧w.cell? ⟨g,b+4,none⟩=some (.int .i64 x.note.ah)∧w.cell? ⟨g,b+5,none⟩=some (.bool x.note.aL)∧w.cell? ⟨g,b+6,none⟩=some (.string (str x.note.src))∧w.cell? ⟨g,b+7,none⟩=some (.int .i64 x.note.aP)∧w.cell? ⟨g,b+8,none⟩=some (.slice qa x.note.props.length qc)∧w.cell? ⟨g,b+9,none⟩=some (.int .i64 x.note.origin)∧w.cell? ⟨g,b+10,none⟩=some (.int .i64 x.note.number)∧w.cell? ⟨g,b+11,none⟩=some (.int .i64 x.note.aW)∧w.cell? ⟨g,b+12,none⟩=some (.int .i64 x.ah)∧w.cell? ⟨g,b+13,none⟩=some (.bool x.aI)∧w.cell? ⟨g,b+14,none⟩=some (.slice ea x.ids.length ec)∧w.cell? ⟨g,b+15,none⟩=some (.string (str x.share))):w'.cell? ⟨g,b+2,none⟩=some (.string (str x.note.aF))∧w'.cell? ⟨g,b+3,none⟩=some (.slice V x.note.ay.length X)∧w'.cell? ⟨g,b+4,none⟩=some (.int .i64 x.note.ah)∧w'.cell? ⟨g,b+5,none⟩=some (.bool x.note.aL)∧w'.cell? ⟨g,b+6,none⟩=some (.string (str x.note.src))∧w'.cell? ⟨g,b+7,none⟩=some (.int .i64 x.note.aP)∧w'.cell? ⟨g,b+8,none⟩=some (.slice qa x.note.props.length qc)∧w'.cell? ⟨g,b+9,none⟩=some (.int .i64 x.note.origin)∧w'.cell? ⟨g,b+10,none⟩=some (.int .i64 x.note.number)∧w'.cell? ⟨g,b+11,none⟩=some (.int .i64 x.note.aW)∧w'.cell? ⟨g,b+12,none⟩=some (.int .i64 x.ah)∧w'.cell? ⟨g,b+13,none⟩=some (.bool x.aI)∧w'.cell? ⟨g,b+14,none⟩=some (.slice ea x.ids.length ec)∧w'.cell? ⟨g,b+15,none⟩=some (.string (str x.share)):=by
 exact acx
theorem acA(l:List Im)(n:Nat)(hn:n≤100000)(a1 a2:av)(c1 c2:Nat)(w:World)(h1:zX w a1 n l)(h2:zX w a2 n l)(R:ak)
 (I:∀w',Below w w w'→R (.returned (.bool true)) w'):
 Calls prog 84 #[.slice a1 n c1,.slice a2 n c2] w R:=by
 obtain⟨HR,H1,H2⟩:=bX I h1 h2;have HN:=Z h1.len;clear I h1 h2;go_enter func84,ntmps84;go_wp2;go_loopg [5] n (fun gn i wr=>∃k:Nat,k≤n∧gn=n - k∧i= .int .i64 k∧Hid (Below w w wr))
 case atStart=>exact⟨0,bP _,by omega,rfl,Z dg⟩
 case round=>
  obtain⟨k,G,rfl,rfl,HB⟩:=hrel;obtain⟨wo,rfl⟩:∃x,x=wr:=⟨_,rfl⟩
  by_cases au:k<n
  ·have bo:(k:Int)<(n:Int):=by omega
   have gq:k<l.length:=by have:=HN.O;omega
   have hd:Below wo wo wo.drew:=bq _;obtain⟨g1,o1,V,X,qa,qc,ea,ec,e1,eD,dJ⟩:=(H1.O.below HB.O).at au gq;obtain⟨g2,o2,ra,rc,sa,sc,ta,tc,e2,bM,fV⟩:=(H2.O.below HB.O).at au gq;obtain⟨x,F⟩:=ai (l[k]);rw[F] at eD dJ bM fV;subst e1 e2;have IC:=Z dJ;have UG:=Z fV;have k0:(wo.cell? ⟨g1,o1+k*14,none⟩=some (.string (str x.note.aF))∧wo.cell? ⟨g1,o1+k*14+1,none⟩=some (.slice V x.note.ay.length X)∧wo.cell? ⟨g1,o1+k*14+2,none⟩=some (.int .i64 x.note.ah)∧wo.cell? ⟨g1,o1+k*14+3,none⟩=some (.bool x.note.aL)∧wo.cell? ⟨g1,o1+k*14+4,none⟩=some (.string (str x.note.src))∧wo.cell? ⟨g1,o1+k*14+5,none⟩=some (.int .i64 x.note.aP)∧wo.cell? ⟨g1,o1+k*14+6,none⟩=some (.slice qa x.note.props.length qc)∧wo.cell? ⟨g1,o1+k*14+7,none⟩=some (.int .i64 x.note.origin)∧wo.cell? ⟨g1,o1+k*14+8,none⟩=some (.int .i64 x.note.number)∧wo.cell? ⟨g1,o1+k*14+9,none⟩=some (.int .i64 x.note.aW)∧wo.cell? ⟨g1,o1+k*14+10,none⟩=some (.int .i64 x.ah)∧wo.cell? ⟨g1,o1+k*14+11,none⟩=some (.bool x.aI)∧wo.cell? ⟨g1,o1+k*14+12,none⟩=some (.slice ea x.ids.length ec)∧wo.cell? ⟨g1,o1+k*14+13,none⟩=some (.string (str x.share)))∧(wo.cell? ⟨g2,o2+k*14,none⟩=some (.string (str x.note.aF))∧wo.cell? ⟨g2,o2+k*14+1,none⟩=some (.slice ra x.note.ay.length rc)∧wo.cell? ⟨g2,o2+k*14+2,none⟩=some (.int .i64 x.note.ah)∧wo.cell? ⟨g2,o2+k*14+3,none⟩=some (.bool x.note.aL)∧wo.cell? ⟨g2,o2+k*14+4,none⟩=some (.string (str x.note.src))∧wo.cell? ⟨g2,o2+k*14+5,none⟩=some (.int .i64 x.note.aP)∧wo.cell? ⟨g2,o2+k*14+6,none⟩=some (.slice sa x.note.props.length sc)∧wo.cell? ⟨g2,o2+k*14+7,none⟩=some (.int .i64 x.note.origin)∧wo.cell? ⟨g2,o2+k*14+8,none⟩=some (.int .i64 x.note.number)∧wo.cell? ⟨g2,o2+k*14+9,none⟩=some (.int .i64 x.note.aW)∧wo.cell? ⟨g2,o2+k*14+10,none⟩=some (.int .i64 x.ah)∧wo.cell? ⟨g2,o2+k*14+11,none⟩=some (.bool x.aI)∧wo.cell? ⟨g2,o2+k*14+12,none⟩=some (.slice ta x.ids.length tc)∧wo.cell? ⟨g2,o2+k*14+13,none⟩=some (.string (str x.share))):=⟨⟨eD 0 (by decide),eD 1 (by decide),eD 2 (by decide),eD 3 (by decide),eD 4 (by decide),eD 5 (by decide),eD 6 (by decide),eD 7 (by decide),eD 8 (by decide),eD 9 (by decide),eD 10 (by decide),eD 11 (by decide),eD 12 (by decide),eD 13 (by decide)⟩,bM 0 (by decide),bM 1 (by decide),bM 2 (by decide),bM 3 (by decide),bM 4 (by decide),bM 5 (by decide),bM 6 (by decide),bM 7 (by decide),bM 8 (by decide),bM 9 (by decide),bM 10 (by decide),bM 11 (by decide),bM 12 (by decide),bM 13 (by decide)⟩
   clear eD bM dJ fV F hd;go_upto_region 6 with fail
   go_region_held3 (fun y=>(y.cell? ⟨g1,o1+k*14,none⟩=some (.string (str x.note.aF))∧y.cell? ⟨g1,o1+k*14+1,none⟩=some (.slice V x.note.ay.length X)∧y.cell? ⟨g1,o1+k*14+2,none⟩=some (.int .i64 x.note.ah)∧y.cell? ⟨g1,o1+k*14+3,none⟩=some (.bool x.note.aL)∧y.cell? ⟨g1,o1+k*14+4,none⟩=some (.string (str x.note.src))∧y.cell? ⟨g1,o1+k*14+5,none⟩=some (.int .i64 x.note.aP)∧y.cell? ⟨g1,o1+k*14+6,none⟩=some (.slice qa x.note.props.length qc)∧y.cell? ⟨g1,o1+k*14+7,none⟩=some (.int .i64 x.note.origin)∧y.cell? ⟨g1,o1+k*14+8,none⟩=some (.int .i64 x.note.number)∧y.cell? ⟨g1,o1+k*14+9,none⟩=some (.int .i64 x.note.aW)∧y.cell? ⟨g1,o1+k*14+10,none⟩=some (.int .i64 x.ah)∧y.cell? ⟨g1,o1+k*14+11,none⟩=some (.bool x.aI)∧y.cell? ⟨g1,o1+k*14+12,none⟩=some (.slice ea x.ids.length ec)∧y.cell? ⟨g1,o1+k*14+13,none⟩=some (.string (str x.share)))∧(y.cell? ⟨g2,o2+k*14,none⟩=some (.string (str x.note.aF))∧y.cell? ⟨g2,o2+k*14+1,none⟩=some (.slice ra x.note.ay.length rc)∧y.cell? ⟨g2,o2+k*14+2,none⟩=some (.int .i64 x.note.ah)∧y.cell? ⟨g2,o2+k*14+3,none⟩=some (.bool x.note.aL)∧y.cell? ⟨g2,o2+k*14+4,none⟩=some (.string (str x.note.src))∧y.cell? ⟨g2,o2+k*14+5,none⟩=some (.int .i64 x.note.aP)∧y.cell? ⟨g2,o2+k*14+6,none⟩=some (.slice sa x.note.props.length sc)∧y.cell? ⟨g2,o2+k*14+7,none⟩=some (.int .i64 x.note.origin)∧y.cell? ⟨g2,o2+k*14+8,none⟩=some (.int .i64 x.note.number)∧y.cell? ⟨g2,o2+k*14+9,none⟩=some (.int .i64 x.note.aW)∧y.cell? ⟨g2,o2+k*14+10,none⟩=some (.int .i64 x.ah)∧y.cell? ⟨g2,o2+k*14+11,none⟩=some (.bool x.aI)∧y.cell? ⟨g2,o2+k*14+12,none⟩=some (.slice ta x.ids.length tc)∧y.cell? ⟨g2,o2+k*14+13,none⟩=some (.string (str x.share))))
    (first|with_reducible exact k0|with_reducible exact k1|go_keep)
    (first
     |(go_at_call 70;refine PZ x _ _ _ _ _ _ _ (IC.O.below (bq _)) (UG.O.below (bq _)) _ ?_;intro w4 ao;have dj:=Z (HB.O.trans (((bq wo).trans ao).mono HB.O.size));have aE:=(bq wo).trans ao;have k1:=And.intro (acy aE k0.1) (acy aE k0.2);clear ao aE))
   all_goals
    clear k0 k1;go_wp2;exact P6
  have bo:¬(k:Int)<(n:Int):=by omega
  go_wp2;exact HR.O _ HB.O
theorem an7(l:List Fl)(n:Nat)(hn:n≤100000)(a1 a2:av)(c1 c2:Nat)(w:World)(h1:Cr w a1 n l)(h2:Cr w a2 n l)(R:ak)
 (I:∀w',Below w w w'→R (.returned (.bool true)) w'):
 Calls prog 89 #[.slice a1 n c1,.slice a2 n c2] w R:=by
 obtain⟨HR,H1,H2⟩:=bX I h1 h2;have HN:=Z h1.len;clear I h1 h2;go_enter func89,ntmps89;go_wp2;go_loopg [5] n (fun gn i wr=>∃k:Nat,k≤n∧gn=n - k∧i= .int .i64 k∧Hid (Below w w wr))
 case atStart=>exact⟨0,bP _,by omega,rfl,Z dg⟩
 case round=>
  obtain⟨k,G,rfl,rfl,HB⟩:=hrel;obtain⟨wo,rfl⟩:∃x,x=wr:=⟨_,rfl⟩
  by_cases au:k<n
  ·have bo:(k:Int)<(n:Int):=by omega
   have gq:k<l.length:=by have:=HN.O;omega
   obtain⟨g1,o1,V,X,qa,qc,ea,ec,e1,eD,dJ⟩:=(H1.O.below HB.O).at au gq;obtain⟨g2,o2,ra,rc,sa,sc,ta,tc,e2,bM,fV⟩:=(H2.O.below HB.O).at au gq;obtain⟨⟨fi,fs,x⟩,F⟩:∃x,l[k]=x:=⟨_,rfl⟩
   rw[F] at eD dJ bM fV;simp only at eD dJ bM fV;subst e1 e2;have IC:=Z dJ;have UG:=Z fV;have k0:((wo.cell? ⟨g1,o1+k*16,none⟩=some (.int .i64 fi)∧wo.cell? ⟨g1,o1+k*16+1,none⟩=some (.int .i64 fs))∧wo.cell? ⟨g2,o2+k*16,none⟩=some (.int .i64 fi)∧wo.cell? ⟨g2,o2+k*16+1,none⟩=some (.int .i64 fs))∧(wo.cell? ⟨g1,o1+k*16+2,none⟩=some (.string (str x.note.aF))∧wo.cell? ⟨g1,o1+k*16+3,none⟩=some (.slice V x.note.ay.length X)∧wo.cell? ⟨g1,o1+k*16+4,none⟩=some (.int .i64 x.note.ah)∧wo.cell? ⟨g1,o1+k*16+5,none⟩=some (.bool x.note.aL)∧wo.cell? ⟨g1,o1+k*16+6,none⟩=some (.string (str x.note.src))∧wo.cell? ⟨g1,o1+k*16+7,none⟩=some (.int .i64 x.note.aP)∧wo.cell? ⟨g1,o1+k*16+8,none⟩=some (.slice qa x.note.props.length qc)∧wo.cell? ⟨g1,o1+k*16+9,none⟩=some (.int .i64 x.note.origin)∧wo.cell? ⟨g1,o1+k*16+10,none⟩=some (.int .i64 x.note.number)∧wo.cell? ⟨g1,o1+k*16+11,none⟩=some (.int .i64 x.note.aW)∧wo.cell? ⟨g1,o1+k*16+12,none⟩=some (.int .i64 x.ah)∧wo.cell? ⟨g1,o1+k*16+13,none⟩=some (.bool x.aI)∧wo.cell? ⟨g1,o1+k*16+14,none⟩=some (.slice ea x.ids.length ec)∧wo.cell? ⟨g1,o1+k*16+15,none⟩=some (.string (str x.share)))∧(wo.cell? ⟨g2,o2+k*16+2,none⟩=some (.string (str x.note.aF))∧wo.cell? ⟨g2,o2+k*16+3,none⟩=some (.slice ra x.note.ay.length rc)∧wo.cell? ⟨g2,o2+k*16+4,none⟩=some (.int .i64 x.note.ah)∧wo.cell? ⟨g2,o2+k*16+5,none⟩=some (.bool x.note.aL)∧wo.cell? ⟨g2,o2+k*16+6,none⟩=some (.string (str x.note.src))∧wo.cell? ⟨g2,o2+k*16+7,none⟩=some (.int .i64 x.note.aP)∧wo.cell? ⟨g2,o2+k*16+8,none⟩=some (.slice sa x.note.props.length sc)∧wo.cell? ⟨g2,o2+k*16+9,none⟩=some (.int .i64 x.note.origin)∧wo.cell? ⟨g2,o2+k*16+10,none⟩=some (.int .i64 x.note.number)∧wo.cell? ⟨g2,o2+k*16+11,none⟩=some (.int .i64 x.note.aW)∧wo.cell? ⟨g2,o2+k*16+12,none⟩=some (.int .i64 x.ah)∧wo.cell? ⟨g2,o2+k*16+13,none⟩=some (.bool x.aI)∧wo.cell? ⟨g2,o2+k*16+14,none⟩=some (.slice ta x.ids.length tc)∧wo.cell? ⟨g2,o2+k*16+15,none⟩=some (.string (str x.share))):=⟨⟨⟨eD 0 (by decide),eD 1 (by decide)⟩,bM 0 (by decide),bM 1 (by decide)⟩,⟨eD 2 (by decide),eD 3 (by decide),eD 4 (by decide),eD 5 (by decide),eD 6 (by decide),eD 7 (by decide),eD 8 (by decide),eD 9 (by decide),eD 10 (by decide),eD 11 (by decide),eD 12 (by decide),eD 13 (by decide),eD 14 (by decide),eD 15 (by decide)⟩,bM 2 (by decide),bM 3 (by decide),bM 4 (by decide),bM 5 (by decide),bM 6 (by decide),bM 7 (by decide),bM 8 (by decide),bM 9 (by decide),bM 10 (by decide),bM 11 (by decide),bM 12 (by decide),bM 13 (by decide),bM 14 (by decide),bM 15 (by decide)⟩
   clear eD bM dJ fV F;go_upto_region 6 with fail
   go_region_held3 (fun y=>((y.cell? ⟨g1,o1+k*16,none⟩=some (.int .i64 fi)∧y.cell? ⟨g1,o1+k*16+1,none⟩=some (.int .i64 fs))∧y.cell? ⟨g2,o2+k*16,none⟩=some (.int .i64 fi)∧y.cell? ⟨g2,o2+k*16+1,none⟩=some (.int .i64 fs))∧(y.cell? ⟨g1,o1+k*16+2,none⟩=some (.string (str x.note.aF))∧y.cell? ⟨g1,o1+k*16+3,none⟩=some (.slice V x.note.ay.length X)∧y.cell? ⟨g1,o1+k*16+4,none⟩=some (.int .i64 x.note.ah)∧y.cell? ⟨g1,o1+k*16+5,none⟩=some (.bool x.note.aL)∧y.cell? ⟨g1,o1+k*16+6,none⟩=some (.string (str x.note.src))∧y.cell? ⟨g1,o1+k*16+7,none⟩=some (.int .i64 x.note.aP)∧y.cell? ⟨g1,o1+k*16+8,none⟩=some (.slice qa x.note.props.length qc)∧y.cell? ⟨g1,o1+k*16+9,none⟩=some (.int .i64 x.note.origin)∧y.cell? ⟨g1,o1+k*16+10,none⟩=some (.int .i64 x.note.number)∧y.cell? ⟨g1,o1+k*16+11,none⟩=some (.int .i64 x.note.aW)∧y.cell? ⟨g1,o1+k*16+12,none⟩=some (.int .i64 x.ah)∧y.cell? ⟨g1,o1+k*16+13,none⟩=some (.bool x.aI)∧y.cell? ⟨g1,o1+k*16+14,none⟩=some (.slice ea x.ids.length ec)∧y.cell? ⟨g1,o1+k*16+15,none⟩=some (.string (str x.share)))∧(y.cell? ⟨g2,o2+k*16+2,none⟩=some (.string (str x.note.aF))∧y.cell? ⟨g2,o2+k*16+3,none⟩=some (.slice ra x.note.ay.length rc)∧y.cell? ⟨g2,o2+k*16+4,none⟩=some (.int .i64 x.note.ah)∧y.cell? ⟨g2,o2+k*16+5,none⟩=some (.bool x.note.aL)∧y.cell? ⟨g2,o2+k*16+6,none⟩=some (.string (str x.note.src))∧y.cell? ⟨g2,o2+k*16+7,none⟩=some (.int .i64 x.note.aP)∧y.cell? ⟨g2,o2+k*16+8,none⟩=some (.slice sa x.note.props.length sc)∧y.cell? ⟨g2,o2+k*16+9,none⟩=some (.int .i64 x.note.origin)∧y.cell? ⟨g2,o2+k*16+10,none⟩=some (.int .i64 x.note.number)∧y.cell? ⟨g2,o2+k*16+11,none⟩=some (.int .i64 x.note.aW)∧y.cell? ⟨g2,o2+k*16+12,none⟩=some (.int .i64 x.ah)∧y.cell? ⟨g2,o2+k*16+13,none⟩=some (.bool x.aI)∧y.cell? ⟨g2,o2+k*16+14,none⟩=some (.slice ta x.ids.length tc)∧y.cell? ⟨g2,o2+k*16+15,none⟩=some (.string (str x.share))))
    (first|with_reducible exact k0|with_reducible exact k1|go_keep)
    (first
     |(go_at_call 70;refine PZ x _ _ _ _ _ _ _ (IC.O.below (bq _)) (UG.O.below (bq _)) _ ?_;intro w4 ao;have dj:=Z (HB.O.trans (((bq wo).trans ao).mono HB.O.size));have aE:=(bq wo).trans ao;have k1:=And.intro (And.intro (And.intro (cell_later aE k0.1.1.1) (cell_later aE k0.1.1.2)) (And.intro (cell_later aE k0.1.2.1) (cell_later aE k0.1.2.2))) (And.intro (acz aE k0.2.1) (acz aE k0.2.2));clear ao aE))
   all_goals
    clear k0 k1;go_wp2;exact P6
  have bo:¬(k:Int)<(n:Int):=by omega
  go_wp2;exact HR.O _ HB.O
theorem an8(l:List Sb)(n:Nat)(hl:n=l.length)(hn:n≤100000)(a1 a2:av)(c1 c2:Nat)(w:World)(h1:Rd w 6 a1 n (l.flatMap aT))(h2:Rd w 6 a2 n (l.flatMap aT))(R:ak)
 (I:∀w',Below w w w'→R (.returned (.bool true)) w'):
 Calls prog 87 #[.slice a1 n c1,.slice a2 n c2] w R:=by
 obtain⟨HR,H1,H2,HN⟩:=cF I h1 h2 hl;clear I h1 h2 hl;go_enter func87,ntmps87;go_wp2;go_loopg [5] n (fun gn i wr=>∃k:Nat,k≤n∧gn=n - k∧i= .int .i64 k∧Hid (Below w w wr))
 case atStart=>exact⟨0,bP _,by omega,rfl,Z dg⟩
 case round=>
  obtain⟨k,G,rfl,rfl,HB⟩:=hrel;obtain⟨wo,rfl⟩:∃x,x=wr:=⟨_,rfl⟩
  by_cases au:k<n
  ·have bo:(k:Int)<(n:Int):=by omega
   have gq:k<l.length:=by have:=HN.O;omega
   obtain⟨g1,o1,e1,eD⟩:=(H1.O.below HB.O).2 (by omega);obtain⟨g2,o2,e2,bM⟩:=(H2.O.below HB.O).2 (by omega);obtain⟨x,F⟩:=ai (l[k]);have hv:∀j,j<6→(l.flatMap aT)[k*6+j]? =(aT x)[j]?:=fun j hj=>by rw[kY 6 aT ij l k j gq hj,F]
   subst e1 e2;have d1:∀j,j<6→wo.cell? ⟨g1,o1+k*6+j,none⟩=(aT x)[j]?:=fun j hj=>by rw[oO,eD (k*6+j) (by omega),hv j hj]
   have d2:∀j,j<6→wo.cell? ⟨g2,o2+k*6+j,none⟩=(aT x)[j]?:=fun j hj=>by rw[oO,bM (k*6+j) (by omega),hv j hj]
   have p0:wo.cell? ⟨g1,o1+k*6,none⟩=some (.string (str x.filter)):=d1 0 (by decide);have p1:wo.cell? ⟨g1,o1+k*6+1,none⟩=some (.int .i64 x.ah):=d1 1 (by decide);have p2:wo.cell? ⟨g1,o1+k*6+2,none⟩=some (.bool x.kn):=d1 2 (by decide);have p3:wo.cell? ⟨g1,o1+k*6+3,none⟩=some (.bool x.kq):=d1 3 (by decide);have p4:wo.cell? ⟨g1,o1+k*6+4,none⟩=some (.int .i64 x.eX):=d1 4 (by decide);have p5:wo.cell? ⟨g1,o1+k*6+5,none⟩=some (.int .i64 x.id):=d1 5 (by decide);have q0:wo.cell? ⟨g2,o2+k*6,none⟩=some (.string (str x.filter)):=d2 0 (by decide);have q1:wo.cell? ⟨g2,o2+k*6+1,none⟩=some (.int .i64 x.ah):=d2 1 (by decide);have q2:wo.cell? ⟨g2,o2+k*6+2,none⟩=some (.bool x.kn):=d2 2 (by decide);have q3:wo.cell? ⟨g2,o2+k*6+3,none⟩=some (.bool x.kq):=d2 3 (by decide);have q4:wo.cell? ⟨g2,o2+k*6+4,none⟩=some (.int .i64 x.eX):=d2 4 (by decide);have q5:wo.cell? ⟨g2,o2+k*6+5,none⟩=some (.int .i64 x.id):=d2 5 (by decide);have dj:=Z (HB.O.drew);clear eD bM hv F d1 d2;go_wp2;go_region
   all_goals go_wp2_with fail
   exact P6
  have bo:¬(k:Int)<(n:Int):=by omega
  go_wp2;exact HR.O _ HB.O
open List (nil_append)
variable{B:Nat}{fv gv qv sv:Value}
theorem LX.Ep{t:az}(h:LX aw4 aw1 Q w Ms Mr S Rb s t)(U:Below w w w'):LX aw4 aw1 Q w' Ms Mr S Rb s t:=h.below U
theorem RX.atA{qa:av}{qc:Nat}(h:RX w Ms M Rb sv (.slice qa s.queue.length qc) fv gv s):zX w qa s.queue.length s.queue:=by
 obtain⟨ps,h1,h2,h3⟩:=h.hq;exact⟨⟨ps,h1,h2.rd,fun p hp=>(h3 p hp).1.O⟩,rfl⟩
theorem RX.atB{fa:av}{fc:Nat}(h:RX w Ms M Rb sv qv (.slice fa s.ag.length fc) gv s):Cr w fa s.ag.length s.ag:=by
 obtain⟨ps,h1,h2,h3⟩:=h.hf;exact⟨⟨ps,h1,wv h2,fun p hp=>(h3 p hp).1.O⟩,rfl⟩
theorem atC{ya:av}{yc:Nat}{qs:List (V3×Im)}{l:List Im}(h1:qs.map (·.2)=l)(h2:w'.ownsRow B 36 14 (.slice ya l.length yc) l.length (qs.flatMap dX))(h3:∀p∈qs,ft w' w.heap.size p.1.1 p.1.2.1 p.1.2.2 p.2)(h4:∀p∈qs,fX p.2):zX w' ya l.length l:=
 ⟨⟨qs,h1,wv h2,fun p hp=>(h3 p hp).c (h4 p hp)⟩,rfl⟩
theorem atD{ya:av}{yc:Nat}{qs:List (V3×Fl)}{l:List Fl}(h1:qs.map (·.2)=l)(h2:w'.ownsRow B 51 16 (.slice ya l.length yc) l.length (qs.flatMap bV))(h3:∀(j:Nat)(h:j<qs.length),ft w' w.heap.size (qs[j]).1.1 (qs[j]).1.2.1 (qs[j]).1.2.2 (qs[j]).2.item)(h4:∀p∈qs,fX p.2.item):Cr w' ya l.length l:=
 ⟨⟨qs,h1,wv h2,fun p hp=>by
  obtain⟨j,hj,e⟩:=lD hp;subst e;exact(h3 j hj).c (h4 _ hp)⟩,rfl⟩
theorem atE(S Rb:Nat)(s:az)(W:s.al.length≤100000∧s.queue.length≤100000∧s.ag.length≤100000∧s.aB.length≤100000)(aw4 aw1 w:World)(Q:Nat→Prop)(h:LW aw4 aw1 Q w S Rb s s)(R:ak)
 (I:∀w',Below w w w'→R (.returned (.bool true)) w'):
 Calls prog 24 #[zq S,zq Rb] w R:=by
 have HR:=Z I;obtain⟨Ms,Mr,F⟩:=h;obtain⟨sv,qv,fv,gv,hr⟩:=F.rr;obtain⟨sa,sc,rfl⟩:=cR hr.W;obtain⟨fa,fc,rfl⟩:∃a c,fv= .slice a s.ag.length c:=by
  obtain⟨ps,h1,h2,h3⟩:=hr.hf;exact cR h2
 obtain⟨qa,qc,rfl⟩:∃a c,qv= .slice a s.queue.length c:=by
  obtain⟨ps,h1,h2,h3⟩:=hr.hq;exact h2.shape
 obtain⟨ga,gc,rfl⟩:=cR hr.A;have qI:Hid (s.al.length≤100000):=W.1;have nK:Hid (s.queue.length≤100000):=W.2.1;have iu:Hid (s.ag.length≤100000):=W.2.2.1;have mF:Hid (s.aB.length≤100000):=W.2.2.2;have HX:=Z F;have agq:=Z hr;clear I W F hr;go_enter func24,ntmps24;go_wp2_with (first
  |(go_at_call 86;go_must(refine akJ S s _ Ms HX.O.sr _ ?_);intro w1 aw;have jm:=Z ((HX.O.Ep aw).Ep (bq _));have DO:=Z ((agq.O.below aw).below (bq _));have bn:=Z aw.drew;have kz:=(agq.O.below aw).cells;clear aw))
 have k0:=DO.O.cells;simp only[List.append_eq,List.cons_append,nil_append];go_region_held3 (fun y=>y.cell? ⟨Rb,0,none⟩=some (.string (str s.gF))∧y.cell? ⟨Rb,1,none⟩=some (.int .i64 s.cI)∧y.cell? ⟨Rb,2,none⟩=some (.int .i64 s.ends)∧y.cell? ⟨Rb,3,none⟩=some (.bool s.ej)∧y.cell? ⟨Rb,4,none⟩=some (.slice sa s.al.length sc)∧y.cell? ⟨Rb,5,none⟩=some (.slice qa s.queue.length qc)∧y.cell? ⟨Rb,6,none⟩=some (.slice fa s.ag.length fc)∧y.cell? ⟨Rb,7,none⟩=some (.slice ga s.aB.length gc))
  (first|with_reducible exact k0|with_reducible exact kz|with_reducible exact k3|with_reducible exact k4|with_reducible exact k5|with_reducible exact k6|with_reducible exact k7|with_reducible exact k8|with_reducible exact k9|with_reducible exact WA|go_keep)
  (first
   |(go_at_call 36;refine aai S s _ Ms jm.O.sr _ ?_)
   |(go_at_call 88;refine an5 S s qI.O _ Ms jm.O.sr _ ?_;intro xa xc w3 bN an;have ji:=Z (jm.O.Ep an);have LU:=Z (DO.O.below an);have cq:=Z (aQ bn.O an);have iF:=Z bN;have k3:=LU.O.cells;clear an bN)
   |(go_at_call 87;refine an8 s.al s.al.length rfl qI.O _ _ _ _ _ (wv iF.O) (wv LU.O.W) _ ?_;intro w4 ao;have DB:=Z (ji.O.Ep ao);have Gr:=Z (LU.O.below ao);have dj:=Z (aQ cq.O ao);have k4:=Gr.O.cells;clear ao)
   |(go_at_call 25;refine aj0 S s nK.O _ Ms DB.O.sr _ ?_;intro ya yc qs w5 agr gC uI IG aE;have ff:=Z (DB.O.Ep aE);have Me:=Z (Gr.O.below aE);have ib:=Z (aQ dj.O aE);have kW:=Z (atC agr gC uI IG);have k5:=Me.O.cells;clear aE gC agr uI IG)
   |(go_at_call 84;refine acA s.queue s.queue.length nK.O _ _ _ _ _ kW.O Me.O.atA _ ?_;intro w6 bd;have ags:=Z (ff.O.Ep bd);have xl:=Z (Me.O.below bd);have rO:=Z (aQ ib.O bd);have k6:=xl.O.cells;clear bd)
   |(go_at_call 16;refine aag S s iu.O _ Ms ags.O.sr _ ?_;intro za zc awR w7 agt gD agu qh bp;have B3:=Z (ags.O.Ep bp);have Bz:=Z (xl.O.below bp);have gE:=Z (aQ rO.O bp);have th:=Z (atD agt gD agu qh);have k7:=Bz.O.cells;clear bp gD agt agu qh)
   |(go_at_call 89;refine an7 s.ag s.ag.length iu.O _ _ _ _ _ th.O Bz.O.atB _ ?_;intro w8 iA;have FD:=Z (B3.O.Ep iA);have C1:=Z (Bz.O.below iA);have jI:=Z (aQ gE.O iA);have k8:=C1.O.cells;clear iA)
   |(go_at_call 61;refine aaJ S s mF.O _ Ms FD.O.sr _ ?_;intro ua uc w9 Dq cw;have Ji:=Z (C1.O.below cw);have nG:=Z (aQ jI.O cw);have vH:=Z Dq;have k9:=Ji.O.cells;clear cw Dq)
   |(go_at_call 90;refine an6 (bA s.aB) s.aB.length mF.O _ _ _ _ _ (wv vH.O) (wv Ji.O.A) _ ?_;intro df lB;have nO:=Z (aQ nG.O lB);have WA:=(Ji.O.below lB).cells;clear lB))
 all_goals
  clear k0 kz k3 k4 k5 k6 k7 k8 k9 WA;go_wp2_with fail;exact HR.O _ nO.O
variable{held:Bool}{cs:List Value}{base CU:Nat}{v:Value}
open Go.ChangeShapes Go.WideShapes Go.ChangeAt
def anF(aw4:World)(cs:List Value)(m:Md):Prop:=∃a0 a1 a2 a3 b1 b2 b3 b4,cs= [a0,a1,a2,a3,.int .i64 m.ah,.int .i64 m.sub,.bool m.aL,.bool m.aI,.int .i64 m.fM,.int .i64 m.fm,b1,b2,b3,b4,.int .i64 m.origin,.int .i64 m.number]∧A1 aw4 a0 a1 a2 a3 b1 b2 b3 b4 m∧F8 m
theorem LL{x:Int}(h:(Lit.int .i64 x).wf=true):iR x:=by
 simp[Lit.wf,IntKind.min,IntKind.max,IntKind.signed,IntKind.bits] at h;exact⟨h.1,by omega⟩
theorem Us{H:Type}{enc:TypeId×Value→H}{P:Program}{spare:Nat→Bool}{fs:Array Field}{xs:List (DataW H×List MemPlace)}
 (A:∀(i:Nat)(f:Field),fs[i]? =some f→DataW.trod enc P aw4 base spare held n f.type ((cs.drop f.offset).take (P.cellsOf f.type))=xs[i]?)
 (i t off c:Nat) (l:List Value) (hf:fs[i]?.map (fun f=>(f.type,f.offset))=some (t,off)) (J:P.cellsOf t=c) (hv:(cs.drop off).take c=l):DataW.trod enc P aw4 base spare held n t l=xs[i]?:=by
 cases h:fs[i]? with
 |none=>rw[h] at hf;simp at hf
 |some f=>
  rw[h] at hf;simp only[Option.map_some,Option.some.injEq,Prod.mk.injEq] at hf;obtain⟨rfl,rfl⟩:=hf;have h1:=A i f h;rw[J,hv] at h1;exact h1
theorem anG{H:Type}{enc:TypeId×Value→H}{spare:Nat→Bool}{d:DataW H}{p:List MemPlace}(fW:∀b,spare b=true)
 (hf:DataW.trod enc prog aw4 base spare held CU 25 [v]=some (d,p)):∃l:List Int,Is aw4 v l∧∀n∈l,(Lit.int .i64 n).wf=true:=by
 rcases open_ints underlying25 underlying3 (by kernel_rfl) hf with⟨dQ,F⟩|⟨a,len,cap,zs,dQ,_,hl,hm,hz,F,bg,CV⟩
 ·simp only[List.cons.injEq,and_true] at dQ;rw[dQ];exact⟨[],⟨none,0,rfl,Rd.nil _ _ _,Nat.le_refl _,by omega,fun _=>rfl⟩,fun n hn=>by cases hn⟩
 simp only[List.cons.injEq,and_true] at dQ;rw[dQ];rw[fW] at hz;simp only[if_true] at hz;unfold maxLen at hm;have bk:(zs.take len).length=len:=by rw[bS];omega
 refine⟨zs.take len,⟨some a,cap,by rw[bk],⟨by simp,fun hn=> ?_⟩,by rw[bk];exact hl,by omega,fun h=>by cases h⟩,fun n hn=>CV n (List.mem_of_mem_take hn)⟩;rw[bk] at hn⊢;have CW:=RA (bg 0 (by omega));refine⟨a.block,a.off,by rw[←CW],fun j hj=> ?_⟩;have gA:=bg j (by omega);have e1:a.add j=⟨a.block,a.off+j,none⟩:=by
  conv=>lhs;rw[CW]
  rw[Addr.add_lit]
 rw[e1] at gA;rw[gA];have anH:j<zs.length:=by omega
 simp[List.getD,anH,show j<len by omega]
theorem anI{H:Type}{enc:TypeId×Value→H}{spare:Nat→Bool}(fW:∀b,spare b=true)(c0 c1 c2 c3:Value)(d:DataW H)(p:List MemPlace)(hf:DataW.trod enc prog aw4 base spare held n 24 [c0,c1,c2,c3]=some (d,p))(hw:Fits prog 24 d):
 ∃(fm:Int)(C R awT:List UInt8),c0= .int .i64 fm∧iR fm∧Bs aw4 c1 C∧Bs aw4 c2 R∧Bs aw4 c3 awT:=by
 obtain⟨xs,n',_,F,_,oG,A⟩:=DataW.trod_struct underlying24 hf;simp only[Prod.mk.injEq] at F
 match xs,oG with
 |[y0,y1,y2,y3],_=>
  rw[F.1] at hw;have g0:=l_ A 0 3 0 c0 rfl (by kernel_rfl) rfl;have g1:=l_ A 1 22 1 c1 rfl (by kernel_rfl) rfl;have g2:=l_ A 2 22 2 c2 rfl (by kernel_rfl) rfl;have g3:=l_ A 3 22 3 c3 rfl (by kernel_rfl) rfl;obtain⟨a,e0,_,ha⟩:=DataW.trod_int underlying3 (x:=y0) g0;obtain⟨C,hC,_⟩:=Ge underlying22 underlying5 (by kernel_rfl) (by kernel_rfl) (d:=y1.1) (p:=y1.2) g1 fW (hw.field underlying24 (j:=1) rfl rfl);obtain⟨R,I,_⟩:=Ge underlying22 underlying5 (by kernel_rfl) (by kernel_rfl) (d:=y2.1) (p:=y2.2) g2 fW (hw.field underlying24 (j:=2) rfl rfl);obtain⟨awT,hU,_⟩:=Ge underlying22 underlying5 (by kernel_rfl) (by kernel_rfl) (d:=y3.1) (p:=y3.2) g3 fW (hw.field underlying24 (j:=3) rfl rfl);exact⟨a,C,R,awT,by simpa using e0,LL ha,hC,I,hU⟩
theorem anJ{H:Type}{enc:TypeId×Value→H}{spare:Nat→Bool}(fW:∀b,spare b=true)(cs:List Value)(d:DataW H)(p:List MemPlace)(hf:DataW.trod enc prog aw4 base spare held n 27 cs=some (d,p))(hw:Fits prog 27 d)(hl:cs.length=16):
 ∃m:Md,anF aw4 cs m:=by
 match cs,hl with
 |[c0,c1,c2,c3,c4,c5,c6,c7,c8,c9,fD,iP,iQ,jN,DW,DX],_=>
  obtain⟨xs,n',_,F,_,oG,A⟩:=DataW.trod_struct underlying27 hf;simp only[Prod.mk.injEq] at F
  match xs,oG with
  |[y0,y1,y2,y3,y4,y5,y6,y7,y8,y9,y10,anK,anL],_=>
   rw[F.1] at hw;have g0:=l_ A 0 22 0 c0 rfl (by kernel_rfl) rfl;have g1:=l_ A 1 22 1 c1 rfl (by kernel_rfl) rfl;have g2:=l_ A 2 22 2 c2 rfl (by kernel_rfl) rfl;have g3:=l_ A 3 22 3 c3 rfl (by kernel_rfl) rfl;have g4:=l_ A 4 3 4 c4 rfl (by kernel_rfl) rfl;have g5:=l_ A 5 3 5 c5 rfl (by kernel_rfl) rfl;have g6:=l_ A 6 4 6 c6 rfl (by kernel_rfl) rfl;have g7:=l_ A 7 4 7 c7 rfl (by kernel_rfl) rfl;have g8:=l_ A 8 3 8 c8 rfl (by kernel_rfl) rfl;have g9:=Us A 9 24 9 4 [c9,fD,iP,iQ] rfl (by kernel_rfl) rfl;have g10:=l_ A 10 25 13 jN rfl (by kernel_rfl) rfl;have g11:=l_ A 11 3 14 DW rfl (by kernel_rfl) rfl;have g12:=l_ A 12 3 15 DX rfl (by kernel_rfl) rfl;obtain⟨T,hT,_⟩:=Ge underlying22 underlying5 (by kernel_rfl) (by kernel_rfl) (d:=y0.1) (p:=y0.2) g0 fW (hw.field underlying27 (j:=0) rfl rfl);obtain⟨awX,hF,_⟩:=Ge underlying22 underlying5 (by kernel_rfl) (by kernel_rfl) (d:=y1.1) (p:=y1.2) g1 fW (hw.field underlying27 (j:=1) rfl rfl);obtain⟨S,hS,_⟩:=Ge underlying22 underlying5 (by kernel_rfl) (by kernel_rfl) (d:=y2.1) (p:=y2.2) g2 fW (hw.field underlying27 (j:=2) rfl rfl);obtain⟨aw0,hY,_⟩:=Ge underlying22 underlying5 (by kernel_rfl) (by kernel_rfl) (d:=y3.1) (p:=y3.2) g3 fW (hw.field underlying27 (j:=3) rfl rfl);obtain⟨fm,C,R,awT,e9,anM,hC,I,hU⟩:=anI (d:=y9.1) (p:=y9.2) fW c9 fD iP iQ g9 (hw.field underlying27 (j:=9) rfl rfl);obtain⟨awU,hI,_⟩:=anG (d:=y10.1) (p:=y10.2) fW g10;obtain⟨q,e4,_,_⟩:=DataW.trod_int underlying3 (x:=y4) g4;obtain⟨s,e5,_,_⟩:=DataW.trod_int underlying3 (x:=y5) g5;obtain⟨rt,e6,_⟩:=DataW.trod_bool underlying4 (x:=y6) g6;obtain⟨kp,e7,_⟩:=DataW.trod_bool underlying4 (x:=y7) g7;obtain⟨li,e8,_,anN⟩:=DataW.trod_int underlying3 (x:=y8) g8;obtain⟨og,JB,_,_⟩:=DataW.trod_int underlying3 (x:=anK) g11;obtain⟨nu,Ew,_,_⟩:=DataW.trod_int underlying3 (x:=anL) g12;have Ut:c4= .int .i64 q:=by simpa using e4
   have Uu:c5= .int .i64 s:=by simpa using e5
   have anO:c6= .bool rt:=by simpa using e6
   have anP:c7= .bool kp:=by simpa using e7
   have anQ:c8= .int .i64 li:=by simpa using e8
   have anR:DW= .int .i64 og:=by simpa using JB
   have anS:DX= .int .i64 nu:=by simpa using Ew
   exact⟨⟨T,awX,S,aw0,q,s,rt,kp,li,fm,C,R,awT,awU,og,nu⟩,c0,c1,c2,c3,fD,iP,iQ,jN,by rw[Ut,Uu,anO,anP,anQ,e9,anR,anS],⟨hT,hF,hS,hY,hC,I,hU,hI⟩,⟨anM,LL anN⟩⟩
structure rV where
 d:Int
 n:Int
 m:Int
 yes:Bool
 it:Md
 sub:Sb
instance:Inhabited Md:=⟨⟨[],[],[],[],0,0,false,false,0,0,[],[],[],[],0,0⟩⟩
instance:Inhabited rV:=⟨⟨0,0,0,false,default,⟨[],0,false,false,0,0⟩⟩⟩
def Uv(a0 a1 a2 a3 b1 b2 b3 b4:Value)(x:rV):List Value:= [.int .i64 x.d,.int .i64 x.n,.int .i64 x.m,.bool x.yes,a0,a1,a2,a3,.int .i64 x.it.ah,.int .i64 x.it.sub,.bool x.it.aL,.bool x.it.aI,.int .i64 x.it.fM,.int .i64 x.it.fm,b1,b2,b3,b4,.int .i64 x.it.origin,.int .i64 x.it.number,.string (str x.sub.filter),.int .i64 x.sub.ah,.bool x.sub.kn,.bool x.sub.kq,.int .i64 x.sub.eX,.int .i64 x.sub.id]
def Uw(aw4:World)(cs:List Value)(x:rV):Prop:=∃a0 a1 a2 a3 b1 b2 b3 b4,cs=Uv a0 a1 a2 a3 b1 b2 b3 b4 x∧A1 aw4 a0 a1 a2 a3 b1 b2 b3 b4 x.it∧F8 x.it∧iR x.d∧iR x.n∧iR x.m
theorem anT{H:Type}{enc:TypeId×Value→H}{spare:Nat→Bool}(c0 c1 c2 c3 c4 c5:Value)(d:DataW H)(p:List MemPlace)(hf:DataW.trod enc prog aw4 base spare held n 64 [c0,c1,c2,c3,c4,c5]=some (d,p)):
 ∃x:Sb,[c0,c1,c2,c3,c4,c5]=aT x:=by
 obtain⟨xs,n',_,F,_,oG,A⟩:=DataW.trod_struct underlying64 hf
 match xs,oG with
 |[y0,y1,y2,y3,y4,y5],_=>
  have g0:=l_ A 0 9 0 c0 rfl (by kernel_rfl) rfl;have g1:=l_ A 1 3 1 c1 rfl (by kernel_rfl) rfl;have g2:=l_ A 2 4 2 c2 rfl (by kernel_rfl) rfl;have g3:=l_ A 3 4 3 c3 rfl (by kernel_rfl) rfl;have g4:=l_ A 4 3 4 c4 rfl (by kernel_rfl) rfl;have g5:=l_ A 5 3 5 c5 rfl (by kernel_rfl) rfl;obtain⟨s,e0,_,_⟩:=DataW.trod_string underlying9 (x:=y0) g0;obtain⟨N,rfl,_⟩:=agR s;obtain⟨q,e1,_,_⟩:=DataW.trod_int underlying3 (x:=y1) g1;obtain⟨nl,e2,_⟩:=DataW.trod_bool underlying4 (x:=y2) g2;obtain⟨ap,e3,_⟩:=DataW.trod_bool underlying4 (x:=y3) g3;obtain⟨h,e4,_,_⟩:=DataW.trod_int underlying3 (x:=y4) g4;obtain⟨i,e5,_,_⟩:=DataW.trod_int underlying3 (x:=y5) g5;have Ux:c0= .string (str N):=by simpa using e0
  have Uy:c1= .int .i64 q:=by simpa using e1
  have Uz:c2= .bool nl:=by simpa using e2
  have UA:c3= .bool ap:=by simpa using e3
  have Ut:c4= .int .i64 h:=by simpa using e4
  have Uu:c5= .int .i64 i:=by simpa using e5
  exact⟨⟨N,q,nl,ap,h,i⟩,by rw[Ux,Uy,Uz,UA,Ut,Uu];rfl⟩
theorem anU{H:Type}{enc:TypeId×Value→H}{spare:Nat→Bool}(fW:∀b,spare b=true)(cs:List Value)(d:DataW H)(p:List MemPlace)(hf:DataW.trod enc prog aw4 base spare held n 66 cs=some (d,p))(hw:Fits prog 66 d)(hl:cs.length=26):
 ∃x:rV,Uw aw4 cs x:=by
 match cs,hl with
 |[c0,c1,c2,c3,c4,c5,c6,c7,c8,c9,fD,iP,iQ,jN,DW,DX,acr,UB,PV,c19,pY,c21,UC,UD,UE,UF],_=>
  obtain⟨xs,n',_,F,_,oG,A⟩:=DataW.trod_struct underlying66 hf;simp only[Prod.mk.injEq] at F
  match xs,oG with
  |[y0,y1,y2,y3,y4,y5],_=>
   rw[F.1] at hw;have g0:=l_ A 0 3 0 c0 rfl (by kernel_rfl) rfl;have g1:=l_ A 1 3 1 c1 rfl (by kernel_rfl) rfl;have g2:=l_ A 2 3 2 c2 rfl (by kernel_rfl) rfl;have g3:=l_ A 3 4 3 c3 rfl (by kernel_rfl) rfl;have g4:=Us A 4 27 4 16 [c4,c5,c6,c7,c8,c9,fD,iP,iQ,jN,DW,DX,acr,UB,PV,c19] rfl (by kernel_rfl) rfl;have g5:=Us A 5 64 20 6 [pY,c21,UC,UD,UE,UF] rfl (by kernel_rfl) rfl;obtain⟨a,e0,_,ha⟩:=DataW.trod_int underlying3 (x:=y0) g0;obtain⟨b,e1,_,U⟩:=DataW.trod_int underlying3 (x:=y1) g1;obtain⟨c,e2,_,J⟩:=DataW.trod_int underlying3 (x:=y2) g2;obtain⟨y,e3,_⟩:=DataW.trod_bool underlying4 (x:=y3) g3;obtain⟨m,a0,a1,a2,a3,b1,b2,b3,b4,hm,anV,dt⟩:=anJ fW _ y4.1 y4.2 g4 (hw.field underlying66 (j:=4) rfl rfl) rfl;obtain⟨u,hu⟩:=anT pY c21 UC UD UE UF y5.1 y5.2 g5;have Ux:c0= .int .i64 a:=by simpa using e0
   have Uy:c1= .int .i64 b:=by simpa using e1
   have Uz:c2= .int .i64 c:=by simpa using e2
   have UA:c3= .bool y:=by simpa using e3
   refine⟨⟨a,b,c,y,m,u⟩,a0,a1,a2,a3,b1,b2,b3,b4,?_,anV,dt,LL ha,LL U,LL J⟩;rw[Ux,Uy,Uz,UA];show _::_::_::_::([c4,c5,c6,c7,c8,c9,fD,iP,iQ,jN,DW,DX,acr,UB,PV,c19]++ [pY,c21,UC,UD,UE,UF])=_;rw[hm,hu]
   rfl
def LM(aw4:World)(v:Value)(l:List rV):Prop:=∃Y c,v= .slice Y l.length c∧l.length≤c∧c≤9223372036854775807∧(Y=none→c=0)∧(0<l.length→∃b o,Y=some ⟨b,o,none⟩∧∀(i:Nat)(h:i<l.length),∃cs,cs.length=26∧(∀j,j<26→aw4.cell? ⟨b,o+i*26+j,none⟩=cs[j]?)∧Uw aw4 cs l[i])
theorem anW{H:Type}{enc:TypeId×Value→H}{spare:Nat→Bool}{d:DataW H}{p:List MemPlace}(fW:∀b,spare b=true)(hf:DataW.trod enc prog aw4 base spare held CU 55 [v]=some (d,p))(hw:Fits prog 55 d):
 ∃l:List rV,LM aw4 v l:=by
 obtain⟨l,Y,c,h1,h2,h3,h4,h6,h5⟩:=anC (α:=rV) (Uw aw4) underlying55 (C:=26) (by kernel_rfl) (by omega)
  (fun n cs d p hf hw hl=>anU fW cs d p hf hw hl) hf fW hw
 exact⟨l,Y,c,h1,h2,h3,h4,h5⟩
theorem LM.at{l:List rV}(h:LM aw4 v l)(U:Below aw4 aw4 w)(i:Nat)(hi:i<l.length):
 ∃g o c,v= .slice (some ⟨g,o,none⟩) l.length c∧∃a0 a1 a2 a3 b1 b2 b3 b4,(∀j,j<(Uv a0 a1 a2 a3 b1 b2 b3 b4 l[i]).length→w.cell? ⟨g,o+i*26+j,none⟩=(Uv a0 a1 a2 a3 b1 b2 b3 b4 l[i])[j]?)∧A1 aw4 a0 a1 a2 a3 b1 b2 b3 b4 l[i].it∧F8 l[i].it∧iR l[i].d∧iR l[i].n∧iR l[i].m:=by
 obtain⟨Y,c,rfl,_,_,_,h5⟩:=h;obtain⟨b,o,rfl,h6⟩:=h5 (by omega);obtain⟨cs,hl,J,a0,a1,a2,a3,b1,b2,b3,b4,rfl,h7⟩:=h6 i hi;refine⟨b,o,c,rfl,a0,a1,a2,a3,b1,b2,b3,b4,fun j hj=> ?_,h7⟩;have:=J j (by rw[←hl];exact hj);rw[dW hj] at this⊢;exact cell_later U this
def cU(_:rV)(_:av)(_:Nat)(_:av)(_:Nat)(_:av)(_:Nat)(_:av)(_:Nat)(_:av)(_:Nat)(_:av)(_:Nat)(_:av)(_:Nat)(_:av)(_:Nat):Zt:=Zt.a
instance avE{x:rV}{a0:av}{a1:Nat}{a2:av}{a3:Nat}{a4:av}{a5:Nat}{a6:av}{a7:Nat}{a8:av}{a9:Nat}{r9:av}{r_:Nat}{a12:av}{sf:Nat}{sg:av}{si:Nat}:CoeDep Zt (cU x a0 a1 a2 a3 a4 a5 a6 a7 a8 a9 r9 r_ a12 sf sg si) (Array Value):=⟨#[.int .i64 x.d,.int .i64 x.n,.int .i64 x.m,.bool x.yes,.slice a0 x.it.aF.length a1,.slice a2 x.it.src.length a3,.slice a4 x.it.share.length a5,.slice a6 x.it.ay.length a7,.int .i64 x.it.ah,.int .i64 x.it.sub,.bool x.it.aL,.bool x.it.aI,.int .i64 x.it.fM,.int .i64 x.it.fm,.slice a8 x.it.co.length a9,.slice r9 x.it.cr.length r_,.slice a12 x.it.us.length sf,.slice sg x.it.ids.length si,.int .i64 x.it.origin,.int .i64 x.it.number,.string (str x.sub.filter),.int .i64 x.sub.ah,.bool x.sub.kn,.bool x.sub.kq,.int .i64 x.sub.eX,.int .i64 x.sub.id]⟩
instance avF{x:rV}{a0:av}{a1:Nat}{a2:av}{a3:Nat}{a4:av}{a5:Nat}{a6:av}{a7:Nat}{a8:av}{a9:Nat}{r9:av}{r_:Nat}{a12:av}{sf:Nat}{sg:av}{si:Nat}:CoeDep Zt (cU x a0 a1 a2 a3 a4 a5 a6 a7 a8 a9 r9 r_ a12 sf sg si) (List Value):=⟨[.int .i64 x.d,.int .i64 x.n,.int .i64 x.m,.bool x.yes,.slice a0 x.it.aF.length a1,.slice a2 x.it.src.length a3,.slice a4 x.it.share.length a5,.slice a6 x.it.ay.length a7,.int .i64 x.it.ah,.int .i64 x.it.sub,.bool x.it.aL,.bool x.it.aI,.int .i64 x.it.fM,.int .i64 x.it.fm,.slice a8 x.it.co.length a9,.slice r9 x.it.cr.length r_,.slice a12 x.it.us.length sf,.slice sg x.it.ids.length si,.int .i64 x.it.origin,.int .i64 x.it.number,.string (str x.sub.filter),.int .i64 x.sub.ah,.bool x.sub.kn,.bool x.sub.kq,.int .i64 x.sub.eX,.int .i64 x.sub.id]⟩
def xh(k:Int):Prop:=∀(x:rV)(ta fa sa V ca ra ua ia:av)(tc fc sc X cc rc uc ic:Nat)(S Rb:Nat)(s:az)(_:fg s)(_:within x.d 0 12=k)(aw4 aw1 w:World)(Q:Nat→Prop)(_:LW aw4 aw1 Q w S Rb s s)(_:A1 aw4 (.slice ta x.it.aF.length tc) (.slice fa x.it.src.length fc) (.slice sa x.it.share.length sc) (.slice V x.it.ay.length X) (.slice ca x.it.co.length cc) (.slice ra x.it.cr.length rc) (.slice ua x.it.us.length uc) (.slice ia x.it.ids.length ic) x.it)(_:F8 x.it)(_:iR x.n)(_:iR x.m)(R:ak)(_:∀w' s',fg s'→LW aw4 w' (fun _=>False) w' S Rb s' s'→R (.returned (.bool true)) w'),Calls prog 23 #[zq S,zq Rb,.agg (cU x ta tc fa fc sa sc V X ca cc ra rc ua uc ia ic)] w R
theorem acs{P:Prop}(h:P:=by
 clear k0 kz k1 k2;go_wp2_with fail;exact HR.O _ (kM s z) (HS.O.land HZ.O) ((mF.O.F5 (kM s z).bJ).plain _)):P:=h
theorem anX:xh 2:=by
 intro x ta fa sa V ca ra ua ia tc fc sc X cc rc uc ic S Rb s W hq aw4 aw1 w Q h dV dt et ei R I;obtain⟨z,hz⟩:=ai (dE (mv x.n [1]) s.ag);obtain⟨z',kx⟩:∃z,dE (fun f:Fl=>f.id==x.n) s.ag=z:=⟨_,rfl⟩
 obtain⟨b,U⟩:∃b,decide (0≤z)=b:=⟨_,rfl⟩
 have ht:=abu W.inv hz kx;rw[U] at ht;obtain⟨HZ,LN,HT,cT⟩:=cF hz kx ht U;have iM:Hid (s.ag.length≤100000):=aJ W.inv.fn (by decide);clear hz kx ht U;obtain⟨HR,HS,HQ,pZ,tP,tQ,vU⟩:=qV I W hq dV dt et ei;have hl:=h.hold (.cells (cU x ta tc fa fc sa sc V X ca cc ra rc ua uc ia ic) 66);have aq:=aH w (.cells (cU x ta tc fa fc sa sc V X ca cc ra rc ua uc ia ic) 66);have c0:=D 0 aq;clear I W hq h dV dt et ei;go_enter func23,ntmps23;go_upto_region 1 with fail
 generalize w.alloc (.cells (cU x ta tc fa fc sa sc V X ca cc ra rc ua uc ia ic) 66)=w1 at hl aq c0⊢;obtain⟨K,hK⟩:=ai w.heap.size;rw[hK] at hl aq c0⊢;have HL:=Z hl;have aV:=Z aq;clear hl aq hK;go_upto_region 9 with(first
  |(go_at_call 20;go_must(refine py x.d 0 12 _ (by decide) (by decide) (by decide) _ ?_);rw[HQ.O]))
 clear c0;have k0:=D 1 ((HL.O.below (bq _)).row rfl aV.O);have kz:=D 1 aV.O;go_region_held3 (fun y=>y.cell? ⟨K,1,none⟩=some (.int .i64 x.n))
  (first|with_reducible exact k0|with_reducible exact k1|with_reducible exact k2|go_keep)
  (first
   |(go_at_call 12;refine am9 (HL.O.below (bq _)) HS.O.inv x.n z HZ.O _ ?_;rw[cT.O];intro w3 h3;have iu:=Z h3;have k1:=D 1 (h3.row rfl aV.O);clear h3)
   |(go_at_call 71;refine anc iu.O iM.O x.n z' LN.O _ b HT.O _ ?_;intro w4 h4;have mF:=Z h4;have k2:=D 1 (h4.row rfl aV.O);clear h4))
 all_goals
  exact acs
theorem anY:xh 4:=by
 intro x ta fa sa V ca ra ua ia tc fc sc X cc rc uc ic S Rb s W hq aw4 aw1 w Q h dV dt et ei R I;obtain⟨z,hz⟩:=ai (dE (mv x.n [3]) s.ag);obtain⟨z',kx⟩:∃z,dE (fun f:Fl=>f.id==x.n) s.ag=z:=⟨_,rfl⟩
 obtain⟨b,U⟩:∃b,decide (0≤z)=b:=⟨_,rfl⟩
 have ht:=abu W.inv hz kx;rw[U] at ht;obtain⟨HZ,LN,HT,cT⟩:=cF hz kx ht U;have iM:Hid (s.ag.length≤100000):=aJ W.inv.fn (by decide);clear hz kx ht U;obtain⟨HR,HS,HQ,pZ,tP,tQ,vU⟩:=qV I W hq dV dt et ei;have hl:=h.hold (.cells (cU x ta tc fa fc sa sc V X ca cc ra rc ua uc ia ic) 66);have aq:=aH w (.cells (cU x ta tc fa fc sa sc V X ca cc ra rc ua uc ia ic) 66);have c0:=D 0 aq;clear I W hq h dV dt et ei;go_enter func23,ntmps23;go_upto_region 1 with fail
 generalize w.alloc (.cells (cU x ta tc fa fc sa sc V X ca cc ra rc ua uc ia ic) 66)=w1 at hl aq c0⊢;obtain⟨K,hK⟩:=ai w.heap.size;rw[hK] at hl aq c0⊢;have HL:=Z hl;have aV:=Z aq;clear hl aq hK;go_upto_region 15 with(first
  |(go_at_call 20;go_must(refine py x.d 0 12 _ (by decide) (by decide) (by decide) _ ?_);rw[HQ.O]))
 clear c0;have k0:=D 1 ((HL.O.below (bq _)).row rfl aV.O);have kz:=D 1 aV.O;go_region_held3 (fun y=>y.cell? ⟨K,1,none⟩=some (.int .i64 x.n))
  (first|with_reducible exact k0|with_reducible exact k1|with_reducible exact k2|go_keep)
  (first
   |(go_at_call 18;refine ana (HL.O.below (bq _)) HS.O.inv x.n z HZ.O _ ?_;rw[cT.O];intro w3 h3;have iu:=Z h3;have k1:=D 1 (h3.row rfl aV.O);clear h3)
   |(go_at_call 73;refine ane iu.O iM.O x.n z' LN.O _ b HT.O _ ?_;intro w4 h4;have mF:=Z h4;have k2:=D 1 (h4.row rfl aV.O);clear h4))
 all_goals
  exact acs
theorem anZ:xh 6:=by
 intro x ta fa sa V ca ra ua ia tc fc sc X cc rc uc ic S Rb s W hq aw4 aw1 w Q h dV dt et ei R I;obtain⟨b,U⟩:=ai (s.aB.contains x.n);have cT:=Z U;have iM:Hid (s.aB.length≤100000):=aJ W.gn (by decide);clear U;obtain⟨HR,HS,HQ,pZ,tP,tQ,vU⟩:=qV I W hq dV dt et ei;have hl:=h.hold (.cells (cU x ta tc fa fc sa sc V X ca cc ra rc ua uc ia ic) 66);have aq:=aH w (.cells (cU x ta tc fa fc sa sc V X ca cc ra rc ua uc ia ic) 66);have c0:=D 0 aq;clear I W hq h dV dt et ei;go_enter func23,ntmps23;go_upto_region 1 with fail
 generalize w.alloc (.cells (cU x ta tc fa fc sa sc V X ca cc ra rc ua uc ia ic) 66)=w1 at hl aq c0⊢;obtain⟨K,hK⟩:=ai w.heap.size;rw[hK] at hl aq c0⊢;have HL:=Z hl;have aV:=Z aq;clear hl aq hK;go_upto_region 21 with(first
  |(go_at_call 20;go_must(refine py x.d 0 12 _ (by decide) (by decide) (by decide) _ ?_);rw[HQ.O]))
 clear c0;have k0:=D 1 ((HL.O.below (bq _)).row rfl aV.O);have kz:=D 1 aV.O;go_region_held3 (fun y=>y.cell? ⟨K,1,none⟩=some (.int .i64 x.n))
  (first|with_reducible exact k0|with_reducible exact k1|with_reducible exact k2|go_keep)
  (first
   |(go_at_call 75;refine ani (HL.O.below (bq _)) x.n tQ.O b cT.O _ ?_;intro w3 h3;have iu:=Z h3;have k1:=D 1 (h3.row rfl aV.O);clear h3)
   |(go_at_call 76;refine anj iu.O iM.O x.n b cT.O _ ?_;intro w4 h4;have mF:=Z h4;have k2:=D 1 (h4.row rfl aV.O);clear h4))
 all_goals
  clear k0 kz k1 k2;go_wp2_with fail;exact HR.O _ {s with aB:=s.aB.erase x.n} (HS.O.left x.n) (mF.O.plain _)
theorem an0:xh 9:=by
 intro x ta fa sa V ca ra ua ia tc fc sc X cc rc uc ic S Rb s W hq aw4 aw1 w Q h dV dt et ei R I;obtain⟨d,hd⟩:=ai ((s.queue.length:Int) - ((qK s.queue x.m).length:Int));have HD:=Z hd;have iM:Hid (s.queue.length≤100000):=aJ W.inv.qn (by decide);clear hd;obtain⟨HR,HS,HQ,pZ,tP,tQ,vU⟩:=qV I W hq dV dt et ei;have hl:=h.hold (.cells (cU x ta tc fa fc sa sc V X ca cc ra rc ua uc ia ic) 66);have aq:=aH w (.cells (cU x ta tc fa fc sa sc V X ca cc ra rc ua uc ia ic) 66);have c0:=D 0 aq;clear I W hq h dV dt et ei;go_enter func23,ntmps23;go_upto_region 1 with fail
 generalize w.alloc (.cells (cU x ta tc fa fc sa sc V X ca cc ra rc ua uc ia ic) 66)=w1 at hl aq c0⊢;obtain⟨K,hK⟩:=ai w.heap.size;rw[hK] at hl aq c0⊢;have HL:=Z hl;have aV:=Z aq;clear hl aq hK;go_upto_region 29 with(first
  |(go_at_call 20;go_must(refine py x.d 0 12 _ (by decide) (by decide) (by decide) _ ?_);rw[HQ.O]))
 clear c0;have k0:=D 2 ((HL.O.below (bq _)).row rfl aV.O);have kz:=D 2 aV.O;go_region_held3 (fun y=>y.cell? ⟨K,2,none⟩=some (.int .i64 x.m))
  (first|with_reducible exact k0|with_reducible exact k1|with_reducible exact k2|go_keep)
  (first
   |(go_at_call 81;refine ano (HL.O.below (bq _)) x.m d HD.O iM.O _ ?_;intro w3 h3;have iu:=Z h3;have k1:=D 2 (h3.row rfl aV.O);clear h3)
   |(go_at_call 82;refine anp iu.O x.m d HD.O iM.O _ ?_;intro w4 h4;have mF:=Z h4;have k2:=D 2 (h4.row rfl aV.O);clear h4))
 all_goals
  clear k0 kz k1 k2;go_wp2_with fail;exact HR.O _ {s with queue:=qK s.queue x.m} (HS.O.old x.m) (mF.O.plain _)
theorem an1:xh 10:=by
 intro x ta fa sa V ca ra ua ia tc fc sc X cc rc uc ic S Rb s W hq aw4 aw1 w Q h dV dt et ei R I;obtain⟨b,U⟩:=ai (mQ s x.n);have cT:=Z U;have iM:Hid (s.queue.length≤100000):=aJ W.inv.qn (by decide);clear U;obtain⟨HR,HS,HQ,pZ,tP,tQ,vU⟩:=qV I W hq dV dt et ei;have hl:=h.hold (.cells (cU x ta tc fa fc sa sc V X ca cc ra rc ua uc ia ic) 66);have aq:=aH w (.cells (cU x ta tc fa fc sa sc V X ca cc ra rc ua uc ia ic) 66);have c0:=D 0 aq;clear I W hq h dV dt et ei;go_enter func23,ntmps23;go_upto_region 1 with fail
 generalize w.alloc (.cells (cU x ta tc fa fc sa sc V X ca cc ra rc ua uc ia ic) 66)=w1 at hl aq c0⊢;obtain⟨K,hK⟩:=ai w.heap.size;rw[hK] at hl aq c0⊢;have HL:=Z hl;have aV:=Z aq;clear hl aq hK;go_upto_region 31 with(first
  |(go_at_call 20;go_must(refine py x.d 0 12 _ (by decide) (by decide) (by decide) _ ?_);rw[HQ.O]))
 clear c0;have k0:=D 1 ((HL.O.below (bq _)).row rfl aV.O);have kz:=D 1 aV.O;go_region_held3 (fun y=>y.cell? ⟨K,1,none⟩=some (.int .i64 x.n))
  (first|with_reducible exact k0|go_keep)
  (first
   |(go_at_call 40;refine anq (HL.O.below (bq _)) x.n b cT.O iM.O _ ?_)
   |(go_at_call 83;refine anr (HL.O.below (bq _)) x.n b cT.O iM.O _ ?_))
 all_goals
  clear k0 kz;go_wp2_with fail;exact HR.O _ s HS.O ((HL.O.below (bq _)).plain _)
def IF:List (List UInt8):= [[116],[116,47,43],[35],[97,47,98],[43,47,98],[36,115,104,97,114,101,47,103,47,116],[120],[121],[122],[116,47,35]]
def xj(q:Nat):List UInt8:=IF.getD q []
def LR(x:rV):Sb:=⟨xj (within x.n 0 9).toNat,within x.sub.ah 0 2,x.sub.kn,x.sub.kq,within x.sub.eX 0 2,within x.sub.id 0 300⟩
theorem aov:∀q:Fin 10,eg (xj q.val)=true∧1≤(xj q.val).length∧(xj q.val).length≤64:=by decide+kernel
theorem aow(x:rV):tN (LR x):=by
 have h1:=vj x.n 0 9 (by decide);have h2:=vj x.sub.ah 0 2 (by decide);have h3:=vj x.sub.eX 0 2 (by decide);have h4:=vj x.sub.id 0 300 (by decide);have hf:=aov ⟨(within x.n 0 9).toNat,by omega⟩;refine⟨⟨h2.1,h2.2,h3.1,h3.2,?_⟩,hf.1,hf.2.1,hf.2.2,h4.1,?_⟩
 ·have h5:(xj (within x.n 0 9).toNat).length≤64:=hf.2.2;show(xj (within x.n 0 9).toNat).length≤65535
  omega
 have:=h4.2;show within x.sub.id 0 300≤268435455
 omega
theorem aox(w:World)(e:Nat)(q:Nat)(hq:q<10)(K:Nat)(hK:w.heap[K]? =some (.cells (IF.map fun l=>Value.string (str l)).toArray e)):w.cell? ⟨K,q,none⟩=some (.string (str (xj q))):=by
 rw[D q hK]
 match q,hq with
 |0,_|1,_|2,_|3,_|4,_|5,_|6,_|7,_|8,_|9,_=>rfl
theorem UN(h:Below B w w')(hS:B≤S)(j:Nat)(u:Value):Below B w (w'.setCell ⟨S,j,none⟩ u):=h.setCell hS u
theorem Qb(x:rV)(ta fa sa V ca ra ua ia:av)(tc fc sc X cc rc uc ic:Nat)(y:Sb)(hy:LR x=y)(w:World)(R:ak)
 (I:∀w',Below w w w'→R (.returned (.agg (bH y))) w'):
 Calls prog 77 #[.agg (cU x ta tc fa fc sa sc V X ca cc ra rc ua uc ia ic)] w R:=by
 have HR:=Z I;obtain⟨q,hq⟩:∃q:Nat,within x.n 0 9=(q:Int):=⟨(within x.n 0 9).toNat,by have:=(vj x.n 0 9 (by decide)).1;omega⟩
 have aoy:q<10:=by have:=(vj x.n 0 9 (by decide)).2;omega
 obtain⟨vq,UO⟩:=ai (within x.sub.ah 0 2);obtain⟨vh,UP⟩:=ai (within x.sub.eX 0 2);obtain⟨vi,UQ⟩:=ai (within x.sub.id 0 300);have acP:y=⟨xj q,vq,x.sub.kn,x.sub.kq,vh,vi⟩:=by
  rw[←hy,←UO,←UP,←UQ];unfold LR;rw[hq]
  rfl
 obtain⟨zk,HQ,aoz,rn,aoA⟩:=jq acP hq UO UP UQ;have aw:Below w w ((w.alloc (.cells (cU x ta tc fa fc sa sc V X ca cc ra rc ua uc ia ic) 66)).alloc (.cells gB 64)):=(aD _ _).alloc (aD w _).size _;have jb:=js (o':=(Obj.cells gB 64)) (aH w (.cells (cU x ta tc fa fc sa sc V X ca cc ra rc ua uc ia ic) 66));have cJ:=aH (w.alloc (.cells (cU x ta tc fa fc sa sc V X ca cc ra rc ua uc ia ic) 66)) (.cells gB 64);have bt:(w.alloc (.cells (cU x ta tc fa fc sa sc V X ca cc ra rc ua uc ia ic) 66)).heap.size=w.heap.size+1:=by rw[World.size_alloc]
 rw[bt] at cJ;have bF:((w.alloc (.cells (cU x ta tc fa fc sa sc V X ca cc ra rc ua uc ia ic) 66)).alloc (.cells gB 64)).heap.size=w.heap.size+2:=by rw[World.size_alloc,bt]
 clear I hy hq UO UP UQ acP;go_enter func77,ntmps77;go_upto_region 1 with fail
 generalize ((w.alloc (.cells (cU x ta tc fa fc sa sc V X ca cc ra rc ua uc ia ic) 66)).alloc (.cells gB 64))=w2 at aw jb cJ bF⊢;obtain⟨K,hK⟩:=ai w.heap.size;rw[hK] at jb cJ bF⊢;obtain⟨HK,AY,rL,ct,LS⟩:=jq hK jb cJ aw bF;have HC:Hid (∀j,j<((bH x.sub):List Value).length→w2.cell? ⟨K,20+j,none⟩=((bH x.sub):List Value)[j]?):=aap (a:= (cU x ta tc fa fc sa sc V X ca cc ra rc ua uc ia ic)) 20 6 jb rfl;have NZ:=Z (aH w2 (.cells gB 64));clear hK jb cJ aw bF bt;go_upto_region 2 with(first
  |(refine iT 6 64 5 K 20 ((bH x.sub)) HC.O underlying64 ?_)
  |(refine gw 64 3 6 w2.heap.size NZ.O ?_;rw[World.setRow_alloc_new]))
 have iC:=aH w2 (.cells (bH x.sub) 64);have an:=aD w2 (.cells (bH x.sub) 64);have ik:(w2.alloc (.cells (bH x.sub) 64)).heap.size=K+3:=by rw[World.size_alloc,LS.O]
 have LU:=Z (aA AY.O an);have aoB:=Z (aA rL.O an);have cq:=Z (aQ ct.O an);rw[LS.O] at iC;go_upto_region 3 with fail
 rw[LS.O];have Qc:=aH (w2.alloc (.cells (bH x.sub) 64)) (.cells (IF.map fun l=>Value.string (str l)).toArray 9);have ao:=(Below.refl (w2.alloc (.cells (bH x.sub) 64)).heap.size (w2.alloc (.cells (bH x.sub) 64))).alloc bj (.cells (IF.map fun l=>Value.string (str l)).toArray 9);rw[ik] at Qc;have iq:=aA iC ao;have UR:=aA LU.O ao;have US:=aA aoB.O ao;have UT:=aQ cq.O ao
 change Code.wp _ _ _ _ ((w2.alloc (.cells (bH x.sub) 64)).alloc (.cells (IF.map fun l=>Value.string (str l)).toArray 9))
 generalize (w2.alloc (.cells (bH x.sub) 64)).alloc (.cells (IF.map fun l=>Value.string (str l)).toArray 9)=w4 at Qc iq UR US UT⊢;obtain⟨A_,aoC,dj⟩:=bX iq US UT;have c1:=D 1 UR;have cf:=aox w4 _ q aoy (K+3) Qc;have t0:=D 0 iq;have f0:=aC iq 0;have LK:(q:Int)<10:=by omega
 clear Qc iq UR US UT ao ik iC an;go_upto_region 4 with(first
  |(go_at_call 20;go_must(refine py x.n 0 9 _ (by decide) (by decide) (by decide) _ ?_);rw[HQ.O]))
 have dB:(w4.setCell ⟨K+2,0,none⟩ (.string (str (xj q)))).heap[K+2]? =some (.cells #[.string (str (xj q)),.int .i64 x.sub.ah,.bool x.sub.kn,.bool x.sub.kq,.int .i64 x.sub.eX,.int .i64 x.sub.id] 64):=by
  rw[bm w4 (K+2) 0 _ _ _ A_.O]
  rfl
 have gZ:=br w4 ⟨K+2,0,none⟩ (.string (str (xj q)));have IG:=dI gZ aoC.O (show K+1≠K+2 by omega);have aE:Below w w (w4.setCell ⟨K+2,0,none⟩ (.string (str (xj q)))):=dj.O.setCell (by have:=HK.O;show _≤K+2;omega) _;generalize w4.setCell ⟨K+2,0,none⟩ (.string (str (xj q)))=w5 at dB IG aE⊢;obtain⟨oX,G4,ib⟩:=bX dB IG aE;have wD:=bq w5;have IH:=aA dB wD;have t1:=oP w5.drew (K+2) 1 _ _ _ IH;have t4:=oP w5.drew (K+2) 4 _ _ _ IH;have t5:=oP w5.drew (K+2) 5 _ _ _ IH;have g1:=aC IH 1;have g4:=aC IH 4;have g5:=aC IH 5;have e1:=aC dB 1;have e4:=aC dB 4;have e5:=aC dB 5;have u1:=D 1 dB;have u4:=D 4 dB;have u5:=D 5 dB;clear dB gZ IG aE c1 cf t0 f0;have Dn:Hid ((((w5.setCell ⟨K+2,1,none⟩ (E vq)).setCell ⟨K+2,4,none⟩ (E vh)).setCell ⟨K+2,5,none⟩ (E vi)).drew.heap[K+2]? =some (.cells (bH y) 64)):=by
  show(((w5.setCell ⟨K+2,1,none⟩ (E vq)).setCell ⟨K+2,4,none⟩ (E vh)).setCell ⟨K+2,5,none⟩ (E vi)).heap[K+2]? =_;rw[bm _ (K+2) 5 _ _ _ (bm _ (K+2) 4 _ _ _ (bm w5 (K+2) 1 _ _ _ oX.O)),zk.O]
  rfl
 have Ha:w5.grownBy (((w5.setCell ⟨K+2,1,none⟩ (E vq)).setCell ⟨K+2,4,none⟩ (E vh)).setCell ⟨K+2,5,none⟩ (E vi)) (some (K+2)):=cg (cg (br w5 ⟨K+2,1,none⟩ _) (br _ ⟨K+2,4,none⟩ _)) (br _ ⟨K+2,5,none⟩ _);have BS:Hid ((((w5.setCell ⟨K+2,1,none⟩ (E vq)).setCell ⟨K+2,4,none⟩ (E vh)).setCell ⟨K+2,5,none⟩ (E vi)).drew.heap[K+1]? =some (.cells gB 64)):=Z (show(((w5.setCell ⟨K+2,1,none⟩ (E vq)).setCell ⟨K+2,4,none⟩ (E vh)).setCell ⟨K+2,5,none⟩ (E vi)).heap[K+1]? =_ from dI Ha G4.O (show K+1≠K+2 by omega));have bo:w.heap.size≤K+2:=by have:=HK.O;omega
 have aoD:Hid (Below w w (((w5.setCell ⟨K+2,1,none⟩ (E vq)).setCell ⟨K+2,4,none⟩ (E vh)).setCell ⟨K+2,5,none⟩ (E vi)).drew):=Z (UN (UN (UN ib.O bo _ _) bo _ _) bo _ _).drew;clear Ha bo;go_cut [] from 18 to 29 (fun wx=>Hid (wx.heap[K+2]? =some (.cells (bH y) 64))∧Hid (wx.heap[K+1]? =some (.cells gB 64))∧Hid (Below w w wx))
 case first=>
  go_region_law (first
   |(go_simp;go_at_call_of 20 (Value.int .i64 x.sub.ah);refine py x.sub.ah 0 2 _ ?_ ?_ ?_ _ ?_;decide;decide;decide;rw[aoz.O])
   |(go_simp;go_at_call_of 20 (Value.int .i64 x.sub.eX);refine py x.sub.eX 0 2 _ ?_ ?_ ?_ _ ?_;decide;decide;decide;rw[rn.O])
   |(go_simp;go_at_call_of 20 (Value.int .i64 x.sub.id);refine py x.sub.id 0 300 _ ?_ ?_ ?_ _ ?_;decide;decide;decide;rw[aoA.O]))
  all_goals
   go_wp2_with fail;go_meet;exact⟨Dn,BS,aoD⟩
 obtain⟨oM,OJ,rO⟩:=hcut;go_wp2_with (first
  |(refine kJ 30 64 3 ((K+2)) oM.O underlying64 ?_)
  |(refine gw 64 2 30 ((K+1)) OJ.O ?_))
 refine bodyPost_ret (results_cell_row rfl _ _ (K+1) 64 (bH y) (0,0) _ rfl (setRow_heap _ (K+1) _ _ _ _ OJ.O) underlying64 rfl (by kernel_rfl)) rfl ?_;exact HR.O _ (below_setRow rO.O (by have:=HK.O;omega) _)
theorem LW.acN{t:az}(h:LW aw4 aw1 Q w S Rb s t):w.cell? ⟨Rb,1,none⟩=some (.int .i64 t.cI)∧w.frozen? ⟨Rb,1,none⟩=false∧w.cell? ⟨Rb,2,none⟩=some (.int .i64 t.ends)∧w.frozen? ⟨Rb,2,none⟩=false∧w.cell? ⟨Rb,3,none⟩=some (.bool t.ej)∧w.frozen? ⟨Rb,3,none⟩=false:=by
 obtain⟨Ms,Mr,F⟩:=h;obtain⟨sv,qv,fv,gv,hr⟩:=F.rr;exact⟨D 1 hr.hS,aC hr.hS 1,D 2 hr.hS,aC hr.hS 2,D 3 hr.hS,aC hr.hS 3⟩
theorem LW.aoo{t:az}(h:LW aw4 aw1 (fun b=>b=K) w S Rb s t):K≠Rb:=fun e=>by
 obtain⟨Ms,Mr,F⟩:=h;obtain⟨sv,qv,fv,gv,hr⟩:=F.rr;exact(F.q2 K rfl).2 (by show Mr K;rw[e];exact hr.mR)
theorem aop(h1:s.ag.length≤8)(h2:s.queue.length≤8):(w_ s).length≤100000:=by
 have h3:=List.length_filter_le qL s.ag;have h4:=List.length_filter_le lA s.queue;unfold w_;rw[aK,j0]
 omega
theorem aoq:xh 3:=by
 intro x ta fa sa V ca ra ua ia tc fc sc X cc rc uc ic S Rb s W hq aw4 aw1 w Q h dV dt et ei R I;obtain⟨z,hz⟩:=ai (dE (mv x.n [2,3]) s.ag);obtain⟨z',kx⟩:∃z,dE (fun f:Fl=>f.id==x.n) s.ag=z:=⟨_,rfl⟩
 obtain⟨t,a,b,jb,j2⟩:=alO W (fine:=x.yes) hz kx;obtain⟨HZ,LN,AY,DO⟩:=cF hz kx jb j2;have iM:Hid (s.ag.length≤100000):=aJ W.inv.fn (by decide);clear hz kx jb j2;obtain⟨HR,HS,HQ,pZ,tP,tQ,vU⟩:=qV I W hq dV dt et ei;have hl:=h.hold (.cells (cU x ta tc fa fc sa sc V X ca cc ra rc ua uc ia ic) 66);have aq:=aH w (.cells (cU x ta tc fa fc sa sc V X ca cc ra rc ua uc ia ic) 66);have c0:=D 0 aq;clear I W hq h dV dt et ei;go_enter func23,ntmps23;go_upto_region 1 with fail
 generalize w.alloc (.cells (cU x ta tc fa fc sa sc V X ca cc ra rc ua uc ia ic) 66)=w1 at hl aq c0⊢;obtain⟨K,hK⟩:=ai w.heap.size;rw[hK] at hl aq c0⊢;have HL:=Z hl;have aV:=Z aq;clear hl aq hK;go_upto_region 11 with(first
  |(go_at_call 20;go_must(refine py x.d 0 12 _ (by decide) (by decide) (by decide) _ ?_);rw[HQ.O]))
 clear c0;have c1:=D 1 aV.O;have c3:=D 3 aV.O;go_wp2_with (first
  |(go_at_call 11;go_must(refine anb HL.O HS.O.inv x.n z x.yes HZ.O t a b AY.O _ ?_);intro w3 h3;have iu:=Z h3;have d1:=D 1 (h3.row rfl aV.O);have d3:=D 3 (h3.row rfl aV.O);clear h3 c1 c3)
  |(go_at_call 72;go_must(refine anf iu.O iM.O x.n z' x.yes LN.O _ a b DO.O _ ?_);intro w4 h4;have mF:=Z h4;clear h4))
 exact HR.O _ t (HS.O.S7 HZ.O AY.O) ((mF.O.F5 t.bJ).plain _)
theorem aor:xh 5:=by
 intro x ta fa sa V ca ra ua ia tc fc sc X cc rc uc ic S Rb s W hq aw4 aw1 w Q h dV dt et ei R I;obtain⟨t,a,b,J⟩:∃t a b,pU s x.n=(t,a,b):=⟨_,_,_,rfl⟩
 have HC:=Z J;have iM:Hid (s.aB.length≤100000):=aJ W.gn (by decide);clear J;obtain⟨HR,HS,HQ,pZ,tP,tQ,vU⟩:=qV I W hq dV dt et ei;have hl:=h.hold (.cells (cU x ta tc fa fc sa sc V X ca cc ra rc ua uc ia ic) 66);have aq:=aH w (.cells (cU x ta tc fa fc sa sc V X ca cc ra rc ua uc ia ic) 66);have c0:=D 0 aq;clear I W hq h dV dt et ei;go_enter func23,ntmps23;go_upto_region 1 with fail
 generalize w.alloc (.cells (cU x ta tc fa fc sa sc V X ca cc ra rc ua uc ia ic) 66)=w1 at hl aq c0⊢;obtain⟨K,hK⟩:=ai w.heap.size;rw[hK] at hl aq c0⊢;have HL:=Z hl;have aV:=Z aq;clear hl aq hK;go_upto_region 17 with(first
  |(go_at_call 20;go_must(refine py x.d 0 12 _ (by decide) (by decide) (by decide) _ ?_);rw[HQ.O]))
 clear c0;have c1:=D 1 aV.O;go_wp2_with (first
  |(go_at_call 52;go_must(refine ang HL.O x.n tQ.O t a b HC.O _ ?_);intro w3 h3;have iu:=Z h3;have d1:=D 1 (h3.row rfl aV.O);clear h3 c1)
  |(go_at_call 74;go_must(refine anh iu.O iM.O x.n t a b HC.O _ ?_);intro w4 h4;have mF:=Z h4;clear h4))
 exact HR.O _ t (HS.O.alL HC.O) (mF.O.plain _)
theorem aos:xh 11:=by
 intro x ta fa sa V ca ra ua ia tc fc sc X cc rc uc ic S Rb s W hq aw4 aw1 w Q h dV dt et ei R I;obtain⟨p,hp⟩:=ai (bits .and .i64 x.n 65535);obtain⟨q,pk⟩:=ai (bits .and .i64 x.m 65535);have IE:0≤p∧p≤65535:=by rw[←hp,P9];omega
 have sq:0≤q∧q≤65535:=by rw[←pk,P9];omega
 have jf:=Z IE;have Gf:=Z sq;clear IE sq;obtain⟨HR,HS,HQ,pZ,tP,tQ,vU⟩:=qV I W hq dV dt et ei;have hl:=h.hold (.cells (cU x ta tc fa fc sa sc V X ca cc ra rc ua uc ia ic) 66);have aq:=aH w (.cells (cU x ta tc fa fc sa sc V X ca cc ra rc ua uc ia ic) 66);have c0:=D 0 aq;clear I W hq h dV dt et ei;go_enter func23,ntmps23;go_upto_region 1 with fail
 generalize w.alloc (.cells (cU x ta tc fa fc sa sc V X ca cc ra rc ua uc ia ic) 66)=w1 at hl aq c0⊢;obtain⟨K,hK⟩:=ai w.heap.size;rw[hK] at hl aq c0⊢;have HL:=Z hl;have aV:=Z aq;clear hl aq hK;go_upto_region 33 with(first
  |(go_at_call 20;go_must(refine py x.d 0 12 _ (by decide) (by decide) (by decide) _ ?_);rw[HQ.O]))
 clear c0;have c1:=D 1 aV.O;have c2:=D 2 aV.O;have c3:=D 3 aV.O;go_upto_region 34 with(first
  |(go_at_call 46;go_must(refine ans HL.O p q x.yes _ ?_);intro w3 h3;have iu:=Z h3;clear h3))
 clear c1 c2 c3;have oH:=iu.O.below (bq _);have c1:=oP w3.drew K 1 _ _ _ (oH.row rfl aV.O);have c2:=oP w3.drew K 2 _ _ _ (oH.row rfl aV.O);have c3:=oP w3.drew K 3 _ _ _ (oH.row rfl aV.O);have LP:=Z ((iu.O.ant p q x.yes).1.below (bq _));obtain⟨avK,avL,avM,avN,avO,avP⟩:=iu.O.acN;obtain⟨avQ,avR,avS,avT,avU,avV⟩:=oH.acN;have d1:=D 1 (iu.O.row rfl aV.O);have d2:=D 2 (iu.O.row rfl aV.O);have d3:=D 3 (iu.O.row rfl aV.O);have bf:=iu.O.aoo;have avW:=bf.symm;clear oH;go_region
 all_goals
  go_wp2_with fail;exact HR.O _ _ (HS.O.alM jf.O Gf.O) (LP.O.plain _)
theorem aot:xh 12:=by
 intro x ta fa sa V ca ra ua ia tc fc sc X cc rc uc ic S Rb s W hq aw4 aw1 w Q h dV dt et ei R I;obtain⟨N,hN⟩:=ai ((w_ s).length);have HN:=Z hN;have Gg:Hid (N≤100000):=by
  have h1:=W.inv.fn;have h2:=W.inv.qn;show N≤100000;rw[←hN];exact aop h1 h2
 have iM:Hid (s.ag.length≤100000):=aJ W.inv.fn (by decide);have acO:Hid (s.queue.length≤100000):=aJ W.inv.qn (by decide);clear hN;obtain⟨HR,HS,HQ,pZ,tP,tQ,vU⟩:=qV I W hq dV dt et ei;have hl:=h.hold (.cells (cU x ta tc fa fc sa sc V X ca cc ra rc ua uc ia ic) 66);have aq:=aH w (.cells (cU x ta tc fa fc sa sc V X ca cc ra rc ua uc ia ic) 66);have c0:=D 0 aq;clear I W hq h dV dt et ei;go_enter func23,ntmps23;go_upto_region 1 with fail
 generalize w.alloc (.cells (cU x ta tc fa fc sa sc V X ca cc ra rc ua uc ia ic) 66)=w1 at hl aq c0⊢;obtain⟨K,hK⟩:=ai w.heap.size;rw[hK] at hl aq c0⊢;have HL:=Z hl;have aV:=Z aq;clear hl aq hK;go_upto_region 36 with(first
  |(go_at_call 20;go_must(refine py x.d 0 12 _ (by decide) (by decide) (by decide) _ ?_);rw[HQ.O]))
 clear c0;obtain⟨Ms,Mr,F⟩:=HL.O;have HX:=Z F;clear F;go_wp2_with (first
  |(go_at_call 17;go_must(refine aoa S s N HN.O acO.O iM.O _ Ms HX.O.sr _ ?_);intro xa xc qs w3 h1 h2 h3 h4 an;have ji:=Z (HX.O.below an);have Qa:Hid (zX w3 xa N (w_ s)):=Z ⟨⟨qs,h1,wv h2,fun p hp=>(h3 p hp).c (h4 p hp)⟩,HN.O.symm⟩;clear h1 h2 h3 h4 an)
  |(go_at_call 85;go_must(refine ala Rb s N HN.O acO.O iM.O _ Ms Mr ji.O.rr _ ?_);intro ya yc aou w4 h1 h2 h3 ao;have DB:=Z (ji.O.below ao);have zw:=Z (Qa.O.below ao);have LQ:Hid (zX w4 ya N (w_ s)):=Z ⟨⟨aou,h1,wv h2,fun p hp=>(h3 p hp).1.O⟩,HN.O.symm⟩;clear h1 h2 h3 ao)
  |(go_at_call 84;go_must(refine acA (w_ s) N Gg.O _ _ _ _ _ zw.O LQ.O _ ?_);intro w5 aE;have ff:=Z (DB.O.below aE);clear aE))
 exact HR.O _ s HS.O (LW.plain (Q:=_) ⟨_,_,ff.O⟩ _)
theorem aoF{P:Program}{ty b o:Nat}{L:List Value}{aw0:Sem Nat}(hY:Go.sizeOf ty=aw0)(h:∀j,j<L.length→w.cell? ⟨b,o+j,none⟩=L[j]?)(hi:(P.info? ty).map (·.size)=some L.length):
 ((Sem.run P aw0 w).andThen fun a w'=>(Sem.run P (loadCellsFrom ⟨b,o,none⟩ 0 a #[]) w').andThen fun a w'=>Result.ok (Value.agg a) w')=Result.ok (Value.agg L.toArray) w:=by
 have hl:(loadCells ⟨b,o,none⟩ L.length).run P w= .ok L.toArray w:=
  run_loadCells_list (P:=P) w ⟨b,o,none⟩ L (fun j v hv=>by
   have Py:(⟨b,o,none⟩:Addr).add j=⟨b,o+j,none⟩:=by unfold Addr.add;split<;>simp_all
   rw[Py,h j (qe.1 hv).1];exact hv)
 simp only[loadCells] at hl;subst hY;cases hq:P.info? ty with
 |none=>simp[hq] at hi
 |some i=>
  have W:i.size=L.length:=by simpa [hq] using hi
  simp[Go.sizeOf,typeInfo,hq,W,hl]
structure tT(K:Nat)(o:Obj)(w:World):Prop where
 row:w.heap[K]? =some o
theorem aoG:xh 7:=by
 intro x ta fa sa V ca ra ua ia tc fc sc X cc rc uc ic S Rb s W hq aw4 aw1 w Q h dV dt et ei R I;obtain⟨y,hy⟩:=ai (LR x);obtain⟨t,a,b,J⟩:∃t a b,om s y=(t,a,b):=⟨_,_,_,rfl⟩
 have HY:=Z hy;have HC:=Z J;have aoH:Hid (tN y):=by rw[←hy];exact aow x
 have nD:=Z W.ss;have iM:Hid (s.al.length≤100000):=aJ W.sn (by decide);clear J hy;obtain⟨HR,HS,HQ,pZ,tP,tQ,vU⟩:=qV I W hq dV dt et ei;have hl:=h.hold (.cells (cU x ta tc fa fc sa sc V X ca cc ra rc ua uc ia ic) 66);have aq:=aH w (.cells (cU x ta tc fa fc sa sc V X ca cc ra rc ua uc ia ic) 66);have c0:=D 0 aq;clear I W hq h dV dt et ei;go_enter func23,ntmps23;go_upto_region 1 with fail
 generalize w.alloc (.cells (cU x ta tc fa fc sa sc V X ca cc ra rc ua uc ia ic) 66)=w1 at hl aq c0⊢;obtain⟨K,hK⟩:=ai w.heap.size;rw[hK] at hl aq c0⊢;have HL:=Z hl;have aV:=Z aq;clear hl aq hK;go_upto_region 23 with(first
  |(go_at_call 20;go_must(refine py x.d 0 12 _ (by decide) (by decide) (by decide) _ ?_);rw[HQ.O]))
 clear c0;have fR:Hid True:=trivial;go_wp2_with (first
  |(refine kJ 163 66 5 K aV.O underlying66 ?_)
  |(refine kJ 170 66 5 K Om.O underlying66 ?_)
  |(have gJ:=fR;go_at_call 77;go_must(refine Qb x ta fa sa V ca ra ua ia tc fc sc X cc rc uc ic y HY.O _ _ ?_);intro w2 aj;have nK:=Z (HL.O.below aj);clear aj gJ fR)
  |(go_at_call 47;go_must(refine ank nK.O y t a b HC.O nD.O iM.O _ ?_);intro w3 h3;have iu:=Z h3;have Om:=Z (h3.row rfl aV.O);clear h3)
  |(go_at_call 77;go_must(refine Qb x ta fa sa V ca ra ua ia tc fc sc X cc rc uc ic y HY.O _ _ ?_);intro w4 ao;have mF:=Z (iu.O.below ao);clear ao)
  |(go_at_call 78;go_must(refine anl mF.O y t a b HC.O nD.O iM.O _ ?_);intro w5 h5;have xi:=Z h5;clear h5))
 exact HR.O _ t (HS.O.sub aoH.O HC.O) (xi.O.plain _)
theorem aoI:xh 8:=by
 intro x ta fa sa V ca ra ua ia tc fc sc X cc rc uc ic S Rb s W hq aw4 aw1 w Q h dV dt et ei R I;obtain⟨y,hy⟩:=ai (LR x);obtain⟨t,b,J⟩:∃t b,C_ s y.filter=(t,b):=⟨_,_,rfl⟩
 have HY:=Z hy;have HC:=Z J;have nD:=Z W.ss;have iM:Hid (s.al.length≤100000):=aJ W.sn (by decide);clear J hy;obtain⟨HR,HS,HQ,pZ,tP,tQ,vU⟩:=qV I W hq dV dt et ei;have hl:=h.hold (.cells (cU x ta tc fa fc sa sc V X ca cc ra rc ua uc ia ic) 66);have aq:=aH w (.cells (cU x ta tc fa fc sa sc V X ca cc ra rc ua uc ia ic) 66);have c0:=D 0 aq;clear I W hq h dV dt et ei;go_enter func23,ntmps23;go_upto_region 1 with fail
 generalize w.alloc (.cells (cU x ta tc fa fc sa sc V X ca cc ra rc ua uc ia ic) 66)=w1 at hl aq c0⊢;obtain⟨K,hK⟩:=ai w.heap.size;rw[hK] at hl aq c0⊢;have HL:=Z hl;have aV:=Z aq;clear hl aq hK;go_upto_region 27 with(first
  |(go_at_call 20;go_must(refine py x.d 0 12 _ (by decide) (by decide) (by decide) _ ?_);rw[HQ.O]))
 clear c0;have fR:Hid True:=trivial;obtain⟨YS,LV⟩:=ai (sizeOf 66);have avX:∀w:World,(Instr.field 64 (.agg (bH y)) 0).run prog w= .ok (.string (str y.filter)) w:=fun _=>by kernel_rfl
 have acQ:∀w',tT K (.cells (cU x ta tc fa fc sa sc V X ca cc ra rc ua uc ia ic) 66) w'→((Sem.run prog YS w').andThen fun a w'=>(Sem.run prog (loadCellsFrom ⟨K,0,none⟩ 0 a #[]) w').andThen fun a w'=>Result.ok (Value.agg a) w')=Result.ok (Value.agg (cU x ta tc fa fc sa sc V X ca cc ra rc ua uc ia ic)) w':=fun w' h=>aoE LV h.row (by kernel_rfl);have k0:tT K (.cells (cU x ta tc fa fc sa sc V X ca cc ra rc ua uc ia ic) 66) w1.drew:=⟨(HL.O.below (bq _)).row rfl aV.O⟩
 have kz:tT K (.cells (cU x ta tc fa fc sa sc V X ca cc ra rc ua uc ia ic) 66) w1:=⟨aV.O⟩
 go_region_held3 (fun y=>tT K (.cells (cU x ta tc fa fc sa sc V X ca cc ra rc ua uc ia ic) 66) y)
  (first|with_reducible exact k0|with_reducible exact kz|with_reducible exact k2|with_reducible exact k3|with_reducible exact k4|with_reducible exact k5|go_keep)
  (first
   |(have gJ:=fR;go_at_call 77;refine Qb x ta fa sa V ca ra ua ia tc fc sc X cc rc uc ic y HY.O _ _ ?_;intro w2 aj;have nK:=Z ((HL.O.below (bq _)).below aj);have k2:tT K (.cells (cU x ta tc fa fc sa sc V X ca cc ra rc ua uc ia ic) 66) w2:=⟨nK.O.row rfl aV.O⟩;clear aj gJ fR)
   |(go_at_call 79;refine anm nK.O y.filter t b HC.O nD.O iM.O _ ?_;intro w3 h3;have iu:=Z h3;have k3:tT K (.cells (cU x ta tc fa fc sa sc V X ca cc ra rc ua uc ia ic) 66) w3:=⟨iu.O.row rfl aV.O⟩;clear h3)
   |(go_at_call 77;refine Qb x ta fa sa V ca ra ua ia tc fc sc X cc rc uc ic y HY.O _ _ ?_;intro w4 ao;have mF:=Z (iu.O.below ao);have k4:tT K (.cells (cU x ta tc fa fc sa sc V X ca cc ra rc ua uc ia ic) 66) w4:=⟨mF.O.row rfl aV.O⟩;clear ao)
   |(go_at_call 80;refine ann mF.O y.filter t b HC.O nD.O iM.O _ ?_;intro w5 h5;have xi:=Z h5;have k5:tT K (.cells (cU x ta tc fa fc sa sc V X ca cc ra rc ua uc ia ic) 66) w5:=⟨xi.O.row rfl aV.O⟩;clear h5))
 all_goals
  go_wp2_with fail;exact HR.O _ t (HS.O.alN HC.O) (xi.O.plain _)
open Nat (le_of_lt)
theorem ao7{c:Nat}{aw0:List UInt8}(hn:aw0.length=n)(h:w.ownsRow B 5 1 (.slice Y n c) n (bv aw0)):Bs w (.slice Y n c) aw0:=by
 subst hn;exact b_ h
theorem LW.start{l:List UInt8}(h:SR w M S (cZ l))(hM:∀b,M b→aw4.heap.size≤b)(U:Below aw4 aw4 w)(aw1:World):
 LW aw4 aw1 (fun _=>False) (w.alloc (.cells #[.string (str l),E 0,E 0,.bool false,.slice none 0 0,.slice none 0 0,.slice none 0 0,.slice none 0 0] 62)) S w.heap.size (cZ l) (cZ l):=by
 have aw:Below w w (w.alloc (.cells #[.string (str l),E 0,E 0,.bool false,.slice none 0 0,.slice none 0 0,.slice none 0 0,.slice none 0 0] 62)):=aD _ _;have hn:=aH w (.cells #[.string (str l),E 0,E 0,.bool false,.slice none 0 0,.slice none 0 0,.slice none 0 0,.slice none 0 0] 62);have bt:=U.size;refine⟨M,fun b=>b=w.heap.size,h.below aw,⟨.slice none 0 0,.slice none 0 0,.slice none 0 0,.slice none 0 0,hn,bO _ _ _ _,⟨[],rfl,bh.nil _ _ _,fun p hp=>absurd hp qT⟩,⟨[],rfl,bO _ _ _ _,fun p hp=>absurd hp qT⟩,(by rw[show bA (cZ l).aB= [] from n_ (by rw[tH];rfl)];exact bO _ _ _ _),rfl,fun k G=>by simp[Value.ownBlock] at G,fun k G=>by simp[Value.ownBlock] at G,fun k G=>by simp[Value.ownBlock] at G,fun k G=>by simp[Value.ownBlock] at G,fun b U=> ?_,fun b U=> ?_,fun b U hm=> ?_,fun b U=> ?_⟩,hM,fun b U=> ?_,cz U aw bt,fun b U=>U.elim,fun b U=>U.elim⟩
 ·rw[U];exact .inl (j6 hn)
 ·exact⟨S,h.mS,by rw[U];exact le_of_lt (h.lt S h.mS)⟩
 ·rw[U] at hm;exact lt_irrefl _ (h.lt _ hm)
 ·rw[U];exact(eI.1 hn).1
 rw[U];exact bt
theorem SR.ao8(h:SR w M S s)(hK:M K)(G:bw w K=5+2)(A:w.grownBy w' (some K)):SR w' M S s∧Sep M M w w':=by
 have W:Sep M M w w':= .kV A (fun k G=>by cases G;exact hK);obtain⟨NB,MB,GB,GM,sv,qv,fv,F⟩:=h;obtain⟨p1,p2,p3,p4,p5,p6⟩:=F.parts K A (fun _ hm=>hm) W;have n1:K≠MB:=fun e=>by
  have h1:=F.hn.kinds.2;rw[←e,G] at h1
  revert h1
  decide
 have n2:K≠GM:=fun e=>by
  have h1:=F.A.kinds.2;rw[←e,G] at h1
  revert h1
  decide
 exact⟨⟨NB,MB,GB,GM,sv,qv,fv,⟨(p1 (by rw[G];decide)).trans F.hS,p2 n1 (by rw[G];decide),p3 n2 (by rw[G];decide),p4 (by rw[G];decide),p5 (by rw[G];decide),p6 (by rw[G];decide),F.nb,F.nm,F.mS,F.mN,F.mG,F.ms,F.q_,F.re,fun b U=>eV (F.lt b U) A.size⟩⟩,W⟩
theorem acR(m:Md)(awZ:Im)(hX:jW m=awZ)(U:F8 m)(a0 a1 a2 a3 b1 b2 b3 b4:Value)(aw4 w:World)(hW:Below aw4 aw4 w)(Lu:A1 aw4 a0 a1 a2 a3 b1 b2 b3 b4 m)(R:ak)
 (I:∀V X qa qc ea ec w',DU aw4 w.heap.size w' (.slice V awZ.note.ay.length X) (.slice qa awZ.note.props.length qc) (.slice ea awZ.ids.length ec) awZ→Below w w w'→R (.returned (Value.agg (aG awZ V X qa qc ea ec))) w'):
 Calls prog 9 #[.agg #[a0,a1,a2,a3,.int .i64 m.ah,.int .i64 m.sub,.bool m.aL,.bool m.aI,.int .i64 m.fM,.int .i64 m.fm,b1,b2,b3,b4,.int .i64 m.origin,.int .i64 m.number]] w R:=by
 subst hX;exact amf m U a0 a1 a2 a3 b1 b2 b3 b4 aw4 w hW Lu R I
theorem LI.aoJ{t:az}{c:V3}(h:LI aw4 aw1 Q w S Rb s t c x)(o:Obj):LI aw4 (w.alloc o) (fun b=>Q b∨b=w.heap.size) (w.alloc o) S Rb s t c x:=by
 obtain⟨Ms,Mr,F,hi⟩:=h;have U:Below w w (w.alloc o):=aD _ _;have h2:=F.below U;refine⟨Ms,Mr,⟨h2.sr,h2.rr,h2.ms,h2.mr,h2.low,fun b U=>⟨?_,rfl⟩,fun b U=> ?_⟩,hi.sep (.cL (Below.alloc dg bj _))⟩
 ·rcases U with U|rfl
  ·exact(h2.q1 b U).1
  ·exact(eI.1 (aH w o)).1
 rcases U with U|rfl
 ·exact F.q2 b U
 refine⟨fun hm=>lt_irrefl _ (F.sr.lt _ hm),fun hm=> ?_⟩;obtain⟨rv,rq,rf,rg,hr⟩:=F.rr;exact lt_irrefl _ (hr.lt _ hm)
theorem aoK:xh 0:=by
 intro x ta fa sa V ca ra ua ia tc fc sc X cc rc uc ic S Rb s W hq aw4 aw1 w Q h dV dt et ei R I;obtain⟨awZ,hX⟩:=ai (jW x.it);obtain⟨t,b,hp⟩:∃t b,kk s awZ=(t,b):=⟨_,_,rfl⟩
 have Ht:=Z hX;have HP:=Z hp;have II:Hid (fX awZ):=by rw[←hX];exact abB _
 have Cs:Hid (F4 awZ):=by rw[←hX];exact aon _
 have S4:=Z W.inv.qn;clear hX hp;obtain⟨HR,HS,HQ,pZ,tP,tQ,vU⟩:=qV I W hq dV dt et ei;have hl:=h.hold (.cells (cU x ta tc fa fc sa sc V X ca cc ra rc ua uc ia ic) 66);have aq:=aH w (.cells (cU x ta tc fa fc sa sc V X ca cc ra rc ua uc ia ic) 66);have c0:=D 0 aq;clear I W hq h dV dt et ei;go_enter func23,ntmps23;go_upto_region 1 with fail
 generalize w.alloc (.cells (cU x ta tc fa fc sa sc V X ca cc ra rc ua uc ia ic) 66)=w1 at hl aq c0⊢;obtain⟨K,hK⟩:=ai w.heap.size;rw[hK] at hl aq c0⊢;have HL:=Z hl;have aV:=Z aq;clear hl aq hK;go_upto_region 3 with(first
  |(go_at_call 20;go_must(refine py x.d 0 12 _ (by decide) (by decide) (by decide) _ ?_);rw[HQ.O]))
 clear c0;have fR:Hid True:=trivial;obtain⟨YS,LV⟩:=ai (sizeOf 27);have acQ:∀w',tT K (.cells (cU x ta tc fa fc sa sc V X ca cc ra rc ua uc ia ic) 66) w'→((Sem.run prog YS w').andThen fun a w'=>(Sem.run prog (loadCellsFrom ⟨K,4,none⟩ 0 a #[]) w').andThen fun a w'=>Result.ok (Value.agg a) w')=Result.ok (Value.agg (Pp x.it ta tc fa fc sa sc V X ca cc ra rc ua uc ia ic)) w':=fun w' h=>aoF (L:= (Pp x.it ta tc fa fc sa sc V X ca cc ra rc ua uc ia ic)) LV (aap (a:= (cU x ta tc fa fc sa sc V X ca cc ra rc ua uc ia ic)) 4 16 h.row rfl) (by kernel_rfl);have aoL:∀w':World,((Sem.run prog YS w').andThen fun a w'=>if a=0 then (Sem.run prog (partAt ⟨K,0,none⟩ 4 32) w').andThen fun a w'=>Result.ok (Value.pointer (some a)) w' else Result.ok (Value.pointer (some ⟨K,4,none⟩)) w')=Result.ok (Value.pointer (some ⟨K,4,none⟩)) w':=fun w'=>by rw[←LV];kernel_rfl
 have k0:tT K (.cells (cU x ta tc fa fc sa sc V X ca cc ra rc ua uc ia ic) 66) w1.drew:=⟨(HL.O.below (bq _)).row rfl aV.O⟩
 have kz:tT K (.cells (cU x ta tc fa fc sa sc V X ca cc ra rc ua uc ia ic) 66) w1:=⟨aV.O⟩
 go_region_held3 (fun y=>tT K (.cells (cU x ta tc fa fc sa sc V X ca cc ra rc ua uc ia ic) 66) y)
  (first|with_reducible exact k0|with_reducible exact kz|with_reducible exact k2|with_reducible exact k3|with_reducible exact k4|with_reducible exact k5|go_keep)
  (first
   |(have gJ:=fR;go_at_call 9;refine acR x.it awZ Ht.O tP.O _ _ _ _ _ _ _ _ aw4 _ (HL.O.below (bq _)).low pZ.O _ ?_;intro DZ D0 kD kE SC SD w2 acS aj;have eT:=Z acS.c;have nK:=Z ((HL.O.below (bq _)).below aj);have k2:tT K (.cells (cU x ta tc fa fc sa sc V X ca cc ra rc ua uc ia ic) 66) w2:=⟨nK.O.row rfl aV.O⟩;clear aj acS gJ fR)
   |(go_at_call 8;refine anu nK.O HS.O.inv awZ _ _ _ eT.O II.O t b HP.O _ ?_;intro w3 h3;have iu:=Z h3;have k3:tT K (.cells (cU x ta tc fa fc sa sc V X ca cc ra rc ua uc ia ic) 66) w3:=⟨iu.O.row rfl aV.O⟩;clear h3)
   |(go_at_call 9;refine acR x.it awZ Ht.O tP.O _ _ _ _ _ _ _ _ aw4 _ iu.O.low pZ.O _ ?_;intro aoM aoN aoO aoP aoQ aoR w4 acT ao;have aoS:=Z acT;have dj:=Z ao;have k4:tT K (.cells (cU x ta tc fa fc sa sc V X ca cc ra rc ua uc ia ic) 66) w4:=⟨(iu.O.below ao).row rfl aV.O⟩;clear ao acT)
   |(go_at_call 68;refine anv iu.O S4.O awZ aoM aoN aoO aoP aoQ aoR _ dj.O aoS.O II.O t b HP.O _ ?_;intro w5 h5;have xi:=Z h5;have k5:tT K (.cells (cU x ta tc fa fc sa sc V X ca cc ra rc ua uc ia ic) 66) w5:=⟨xi.O.row rfl aV.O⟩;clear h5))
 all_goals
  clear k0 kz k2 k3 k4 k5 acQ aoL LV;go_wp2_with fail;exact HR.O _ t (by have h1:=HS.O.push Cs.O;rw[HP.O] at h1;exact h1) (xi.O.plain _)
theorem aoT:xh 1:=by
 intro x ta fa sa V ca ra ua ia tc fc sc X cc rc uc ic S Rb s W hq aw4 aw1 w Q h dV dt et ei R I;obtain⟨HR,HS,HQ,pZ,tP,tQ,vU⟩:=qV I W hq dV dt et ei;have hl:=h.hold (.cells (cU x ta tc fa fc sa sc V X ca cc ra rc ua uc ia ic) 66);have aq:=aH w (.cells (cU x ta tc fa fc sa sc V X ca cc ra rc ua uc ia ic) 66);have c0:=D 0 aq;clear I W hq h dV dt et ei;go_enter func23,ntmps23;go_upto_region 1 with fail
 generalize w.alloc (.cells (cU x ta tc fa fc sa sc V X ca cc ra rc ua uc ia ic) 66)=w1 at hl aq c0⊢;obtain⟨K,hK⟩:=ai w.heap.size;rw[hK] at hl aq c0⊢;have HL:=Z hl;have aV:=Z aq;clear hl aq hK;go_upto_region 5 with(first
  |(go_at_call 20;go_must(refine py x.d 0 12 _ (by decide) (by decide) (by decide) _ ?_);rw[HQ.O]))
 clear c0;have c1:=D 1 aV.O;go_upto_region 6 with(first
  |(go_at_call 10;go_must(refine anw HL.O HS.O.inv x.n _ ?_);intro y id ok s' Qd Qe Qf Qg Qh Qi w6 hn h6;have yo:=Z hn;have acU:=Z h6;have M6:=Z (aH w6 (.cells aX 36));clear hn h6 c1)
  |(refine gw 36 7 48 w6.heap.size M6.O ?_;rw[World.setRow_alloc_new];have h4:=acU.O.aoJ (.cells (aG y Qd Qe Qf Qg Qh Qi) 36);have n4:=aH w6 (.cells (aG y Qd Qe Qf Qg Qh Qi) 36);have r4:=js (o':=(Obj.cells (aG y Qd Qe Qf Qg Qh Qi) 36)) (acU.O.lw.row rfl aV.O);generalize w6.alloc (.cells (aG y Qd Qe Qf Qg Qh Qi) 36)=w7 at h4 n4 r4⊢;obtain⟨B4,sS,Bz⟩:=bX h4 n4 r4;clear h4 n4 r4))
 obtain⟨awY,hA⟩:=ai w6.heap.size;rw[hA] at B4 sS⊢;clear hA;have c1:=D 1 Bz.O;go_upto_region 7 with(first
  |(go_at_call 69;go_must(refine anx B4.O HS.O x.n yo.O _ ?_);intro H' Ia Ib Ic Ie Ig w8 h8 kR;have acV:=Z h8;have Eu:=Z kR;have M8:=Z (aH w8 (.cells aX 36));clear h8 kR c1)
  |(refine gw 36 10 56 w8.heap.size M8.O ?_;rw[World.setRow_alloc_new];have cw:=aD w8 (.cells (aG y H' Ia Ib Ic Ie Ig) 36);have h4:=acV.O.below cw;have fy:=Eu.O.below cw;have n4:=aH w8 (.cells (aG y H' Ia Ib Ic Ie Ig) 36);have r4:=js (o':=(Obj.cells (aG y H' Ia Ib Ic Ie Ig) 36)) (acV.O.lw.row (Or.inr rfl) sS.O);generalize w8.alloc (.cells (aG y H' Ia Ib Ic Ie Ig) 36)=w9 at h4 fy n4 r4⊢;obtain⟨acW,aoU,yj,Qj⟩:=cF h4 fy n4 r4;clear h4 fy n4 r4 cw))
 obtain⟨B,hB⟩:=ai w8.heap.size;rw[hB] at yj⊢;clear hB;go_wp2_with (first
  |(refine kJ 59 36 7 awY Qj.O underlying36 ?_)
  |(refine kJ 60 36 10 B yj.O underlying36 ?_)
  |(go_at_call 70;go_must(refine PZ y _ _ _ _ _ _ _ acW.O.im aoU.O _ ?_);intro df lB;have dZ:=Z (acW.O.lw.below lB);clear lB))
 exact HR.O _ s' (HS.O.next yo.O) (dZ.O.plain _)
theorem aoV(x:rV)(ta fa sa V ca ra ua ia:av)(tc fc sc X cc rc uc ic:Nat)(S Rb:Nat)(s:az)(W:fg s)(aw4 aw1 w:World)(Q:Nat→Prop)(h:LW aw4 aw1 Q w S Rb s s)(dV:A1 aw4 (.slice ta x.it.aF.length tc) (.slice fa x.it.src.length fc) (.slice sa x.it.share.length sc) (.slice V x.it.ay.length X) (.slice ca x.it.co.length cc) (.slice ra x.it.cr.length rc) (.slice ua x.it.us.length uc) (.slice ia x.it.ids.length ic) x.it)(dt:F8 x.it)(et:iR x.n)(ei:iR x.m)(R:ak)
 (I:∀w' s',fg s'→LW aw4 w' (fun _=>False) w' S Rb s' s'→R (.returned (.bool true)) w'):
 Calls prog 23 #[zq S,zq Rb,.agg (cU x ta tc fa fc sa sc V X ca cc ra rc ua uc ia ic)] w R:=by
 obtain⟨z,hz⟩:=ai (within x.d 0 12);have U:=vj x.d 0 12 (by decide);rw[hz] at U;have J:z=0∨z=1∨z=2∨z=3∨z=4∨z=5∨z=6∨z=7∨z=8∨z=9∨z=10∨z=11∨z=12:=by omega
 rcases J with rfl|rfl|rfl|rfl|rfl|rfl|rfl|rfl|rfl|rfl|rfl|rfl|rfl
 ·exact aoK x ta fa sa V ca ra ua ia tc fc sc X cc rc uc ic S Rb s W hz aw4 aw1 w Q h dV dt et ei R I
 ·exact aoT x ta fa sa V ca ra ua ia tc fc sc X cc rc uc ic S Rb s W hz aw4 aw1 w Q h dV dt et ei R I
 ·exact anX x ta fa sa V ca ra ua ia tc fc sc X cc rc uc ic S Rb s W hz aw4 aw1 w Q h dV dt et ei R I
 ·exact aoq x ta fa sa V ca ra ua ia tc fc sc X cc rc uc ic S Rb s W hz aw4 aw1 w Q h dV dt et ei R I
 ·exact anY x ta fa sa V ca ra ua ia tc fc sc X cc rc uc ic S Rb s W hz aw4 aw1 w Q h dV dt et ei R I
 ·exact aor x ta fa sa V ca ra ua ia tc fc sc X cc rc uc ic S Rb s W hz aw4 aw1 w Q h dV dt et ei R I
 ·exact anZ x ta fa sa V ca ra ua ia tc fc sc X cc rc uc ic S Rb s W hz aw4 aw1 w Q h dV dt et ei R I
 ·exact aoG x ta fa sa V ca ra ua ia tc fc sc X cc rc uc ic S Rb s W hz aw4 aw1 w Q h dV dt et ei R I
 ·exact aoI x ta fa sa V ca ra ua ia tc fc sc X cc rc uc ic S Rb s W hz aw4 aw1 w Q h dV dt et ei R I
 ·exact an0 x ta fa sa V ca ra ua ia tc fc sc X cc rc uc ic S Rb s W hz aw4 aw1 w Q h dV dt et ei R I
 ·exact an1 x ta fa sa V ca ra ua ia tc fc sc X cc rc uc ic S Rb s W hz aw4 aw1 w Q h dV dt et ei R I
 ·exact aos x ta fa sa V ca ra ua ia tc fc sc X cc rc uc ic S Rb s W hz aw4 aw1 w Q h dV dt et ei R I
 exact aot x ta fa sa V ca ra ua ia tc fc sc X cc rc uc ic S Rb s W hz aw4 aw1 w Q h dV dt et ei R I
theorem ao9(v:Value)(l:List rV)(aw4:World)(hT:dy aw4)(hv:LM aw4 v l)(R:ak)
 (I:∀S Rb s w',fg s→LW aw4 aw4 (fun _=>False) w' S Rb s s→R (.returned (.tuple #[zq S,zq Rb])) w'):
 Calls prog 29 #[v] aw4 R:=by
 obtain⟨HR,HV,HT⟩:=bX I hv hT;obtain⟨va,vc,rfl,_⟩:=hv;obtain⟨N,hN⟩:=ai l.length;have avY:N≤9223372036854775807:=by
  obtain⟨_,_,e,h1,h2,_⟩:=HV.O;simp only[Value.slice.injEq] at e
  omega
 rw[hN];have HN:=Z hN;clear I hN hT;go_enter func29,ntmps29;go_upto_region 4 with(first
  |(go_at_call 6;go_must(refine aah [99] _ _ ?_);intro S M w2 bF ac0 aj;obtain⟨LS,apa,bn⟩:=bX bF ac0 aj;clear bF ac0 aj))
 have LY:=LW.start LS.O apa.O bn.O aw4;have ac1:str [99]=⟨#[99]⟩:=rfl;rw[ac1] at LY;have apb:=Z (fg.new (l:= [99]) (by decide+kernel) (by decide));go_upto_region 5 with fail
 generalize w2.alloc (.cells #[.string ⟨#[99]⟩,E 0,E 0,.bool false,.slice none 0 0,.slice none 0 0,.slice none 0 0,.slice none 0 0] 62)=w4 at LY⊢;obtain⟨Rb,LZ⟩:=ai w2.heap.size;rw[LZ] at LY⊢;have IK:=Z LY;clear LY LZ ac1;go_wp2;go_loopg [6] (min N 60) (fun gn i wr=>∃(k:Nat)(s:az),k≤min N 60∧gn=min N 60 - k∧i= .int .i64 k∧Hid (fg s)∧Hid (LW aw4 aw4 (fun _=>False) wr S Rb s s))
 case atStart=>exact⟨0,_,by omega,by omega,rfl,apb,IK⟩
 case round=>
  obtain⟨k,s,G,rfl,rfl,lC,IK⟩:=hrel;obtain⟨wo,rfl⟩:∃x,x=wr:=⟨_,rfl⟩
  by_cases au:k<min N 60
  ·have apc:k<l.length:=by have:=HN.O;omega
   have bo:(k:Int)<(N:Int):=by omega
   have apd:(k:Int)<60:=by omega
   obtain⟨g,o,c,Qm,a0,a1,a2,a3,b1,b2,b3,b4,bg,dV,dt,ac2,xL,rW⟩:=HV.O.at IK.O.low k apc;rw[HN.O] at Qm;have e1:=congrArg (fun v=>match v with|Value.slice a _ _=>a|_=>none) Qm;have e2:=congrArg (fun v=>match v with|Value.slice _ _ c=>c|_=>0) Qm;simp only at e1 e2;subst e1;subst e2;obtain⟨x,F⟩:=ai (l[k]);rw[F] at bg dV dt ac2 xL rW;obtain⟨⟨ta,tc,rfl,_⟩,⟨fa,fc,rfl,_⟩,⟨sa,sc,rfl,_⟩,⟨V,X,rfl,_⟩,⟨ca,cc,rfl,_⟩,⟨ra,rc,rfl,_⟩,⟨ua,uc,rfl,_⟩,⟨ia,ic,rfl,_⟩⟩:=id dV;obtain⟨m_,pZ,tP,tQ,vU⟩:=jq bg dV dt xL rW;clear Qm F bg dV dt ac2 xL rW;go_wp2_with (first
    |(refine iT 27 66 26 g (o+k*26) ((cU x ta tc fa fc sa sc V X ca cc ra rc ua uc ia ic)) m_.O underlying66 ?_)
    |(go_at_call 23;go_must(refine aoV x ta fa sa V ca ra ua ia tc fc sc X cc rc uc ic S Rb s lC.O aw4 aw4 _ (fun _=>False) IK.O pZ.O tP.O tQ.O vU.O _ ?_);intro w5 s' jj h5;have ape:=Z jj;have xi:=Z (h5.plain aw4);clear jj h5))
   go_roundg (min N 60 - (k+1))
   case measure=>omega
   case rel=>exact⟨k+1,s',by omega,by omega,by go_num,ape,xi⟩
  by_cases ac3:N≤60
  ·have bo:¬(k:Int)<(N:Int):=by omega
   clear au G ac3;go_wp2_with fail;exact HR.O S Rb s _ lC.O IK.O
  have bo:(k:Int)<(N:Int):=by omega
  have apd:¬(k:Int)<60:=by omega
  clear au G ac3;go_wp2_with fail;exact HR.O S Rb s _ lC.O IK.O
