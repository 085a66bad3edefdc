/- A part of the proof of SessionReads; no conditions. -/
import Derived.Test.YtgimbocoamnkjaaGreatDoorM32
import Derived.Test.YtgimbocoamnkjaaGreatDoorM17
set_option maxRecDepth 100000
set_option maxHeartbeats 16000000
namespace Go.Proofs.YtgimbocoamnkjaaGreatDoor
open _root_.Go.Proofs.Tryz
open Nat (le_of_lt lt_succ_self ne_of_lt)
open Go.RowKit
theorem aef{P:Prop}(h:P:=by
 refine bodyPost_ret (Aw rfl _ _ w 36 (qg n.aF da n.ay dc n.ah n.aL n.src n.aP V n.props X n.origin n.number n.aW ah aI ia l ic share) (0,0) _ (E 0) rfl rfl (setRow_heap _ w.heap.size _ _ _ _ CE.O) underlying36 rfl (by kernel_rfl)) rfl ?_;have mE:=BY cY w.heap.size (qg n.aF da n.ay dc n.ah n.aL n.src n.aP V n.props X n.origin n.number n.aW ah aI ia l ic share);have pO:=rX.O;have CF:=QJ.O.below t_.O;exact HR.O da dc V X ia ic _ ⟨cm (j1 CF.p mE (m8 CF.p pO)) bB.O,(CF.q.yK mE pO).mono bB.O,cm (j1 CF.i mE (m8 CF.i pO)) bB.O⟩ (below_setRow mi.O bj _)):P:=h
theorem aeg{P:Prop}(h:P:=by
 have ht:=hZ A h.tr (i_ h.tr h.io (by decide));have bD:=br w' ⟨T,12,none⟩ (.slice Y (l.length+1) c);have J:=h.cr.app h.io (by decide) hN A;have hl:(l++ [x]).length=l.length+1:=by simp
 have e:Go.Proofs.YtgimbocoamnkjaaGreatDoor.iv (l++ [x])=Go.Proofs.YtgimbocoamnkjaaGreatDoor.iv l++ [.int .i64 x]:=by
  unfold Go.Proofs.YtgimbocoamnkjaaGreatDoor.iv;simp
 refine⟨J.other bD zV.symm (J.low.setCell aeh _),?_,dI bD (hZ A h.ar (i_ h.ar h.io (by decide))) aei,iO (KF h.po h.io (by decide) A) ht (by decide) bD,(h.qo.kinds h.io (by decide) (by decide) A).typed ht (by decide) (by decide) bD,?_⟩
 ·rw[bm w' T 12 _ _ _ ht,hl]
  rfl
 rw[e,hl];exact iO ho ht (by decide) bD):P:=h
open Int (toNat_natCast)
open Nat (le_of_eq ne_of_gt)
variable{aI:Bool}{ah:Int}{awY B0 N T dc ic:Nat}{Y da ia V:av}{w w':World}
theorem QK(k:Nat)(s:Cu):fG (k+1) s=((fG k s).1++ [(aN 4 (fG k s).2).1],(aN 4 (fG k s).2).2):=rfl
variable{aw2:List UInt8}{n:Nat}
def yz(s:Cu):List UInt8×Cu:=((dp s.b).1,⟨s.b.drop (dp s.b).2.1.toNat,s.bad || (dp s.b).2.2 != 0⟩)
noncomputable def itemS (s:Cu):Im×Cu:=((rdI (eh s.b).1).1,⟨s.b.drop (eh s.b).2.1.toNat,s.bad || (eh s.b).2.2 != 0 || (rdI (eh s.b).1).2 != 0⟩)
def I5(x:Sb):Bool:=decide (x.ah > 2) || decide (x.eX > 2) || decide (x.id > 268435455) || decide ((x.filter.length:Int)<1) || decide ((x.filter.length:Int) > 64)
def xq(s:Cu):Sb×Cu:=
 let r1:=yz s
 let r2:=aN 1 r1.2
 let r3:=aN 4 r2.2
 let x:Sb:=⟨r1.1,bits .and .i64 r2.1 3,bits .and .i64 r2.1 4 != 0,bits .and .i64 r2.1 8 != 0,r2.1 / 16,r3.1⟩
 (x,⟨r3.2.b,r3.2.bad || I5 x⟩)
def A0(state:Int)(x:Im):Prop:=(state=1∧x.ah=1)∨(state=2∧x.ah=2)∨(state=3∧∃t,x=gI t)
theorem abq{P:Prop}(h:P:=by
 refine⟨h.gd,by simp,fun x F y hy=> ?_⟩;obtain rfl:=dM.1 hy;rintro rfl;exact lI (by simpa using F)):P:=h
variable{f:Fl}{x:Im}{w0:World}
noncomputable def badF (st:Int) (x:Im):Bool:=open Classical in if st=1∨st=2 then x.ah != st else if st=3 then !decide (x=gI x.note.aF) else true
noncomputable def flightC (s:Cu):Fl×Cu:=
 let r1:=aN 2 s
 let r2:=aN 1 r1.2
 let r3:=itemS r2.2
 (⟨r1.1,r2.1,r3.1⟩,⟨r3.2.b,r3.2.bad || badF r2.1 r3.1 || decide (r1.1 > 8)⟩)
theorem aew{b:List UInt8}{e:Int}(h:rdI b=(x,e)):fX x:=by
 rcases Vq h with⟨_,F,_⟩|⟨_,rfl⟩
 ·exact F.b
 exact⟨⟨by simp,by simp,by simp,by simp,by simp,by simp⟩,by simp,by simp,by simp⟩
theorem I7{s S:Cu}(h:itemS s=(x,S)):fX x:=by
 have:x=(rdI (eh s.b).1).1:=by rw[show x=(itemS s).1 by rw[h]];rfl
 rw[this];exact aew (e:=(rdI (eh s.b).1).2) rfl
