/- A part of the proof of SessionReads; no conditions. -/
import Derived.Test.YtgimbocoamnkjaaGreatDoorM09
set_option maxRecDepth 100000
set_option maxHeartbeats 16000000
namespace Go.Proofs.YtgimbocoamnkjaaGreatDoor
open _root_.Go.Proofs.Tryz
open Go.RowKit
theorem aqk(id:Int)(G:aS id≠0)(v:Value)(b:List UInt8)(p:Pr)(u:Int)(hr:eK id b=some (p,u))(w:World)(hv:Bs w v b)(R:ak)
 (I:∀d w',w'.ownsRow w 5 1 d p.data.length (bv p.data)→Below w w w'→R (.returned (.tuple #[.agg (bL p d),E u,.bool true])) w'):
 Calls prog 181 #[E id,v] w R:=by
 refine adb id G v b _ hr w hv R (fun p' u' d w' h h1 h2=> ?_) (fun n s t a m c u q w' h=>by cases h);simp only[Option.some.injEq,Prod.mk.injEq] at h;obtain⟨rfl,rfl⟩:=h;exact I d w' h1 h2
theorem aql(id:Int)(G:aS id≠0)(v:Value)(b:List UInt8)(hr:eK id b=none)(w:World)(hv:Bs w v b)(R:ak)
 (hF:∀n s t a m c u w',Below w w w'→R (.returned (.tuple #[.agg #[E id,E n,.string s,.string t,.slice a m c],E u,.bool false])) w'):
 Calls prog 181 #[E id,v] w R:=by
 refine adb id G v b _ hr w hv R (fun p' u' d w' h=>by cases h) (fun n s t a m c u q w' h hq h1=> ?_);subst hq;exact hF n s t a m c u w' h1
theorem adf{P:Prop}(h:P:=by
 go_wp2_with (first
  |(go_at_call 179;go_must(refine ze _ b' awZ aw0 0 Gh.O _ (cT.O.below U) _ ?_))|(go_at_call 180;go_must(refine IL awZ wh true HM.O _ _ ?_);intro w1 qt;have aO:=aQ U qt)|(go_at_call 181;go_must(refine rn.O _ _ (L4.O.below aO) ?_);intro dv w2 dL aj;obtain⟨eY,eZ,rfl⟩:=cR dL;have zY:=bG qt aj;have nb:=aH w2 (.cells (eA p' eY eZ) 147);have an:=aD w2 (.cells (eA p' eY eZ) 147);have vD:=bG zY an;have iF:=Z (cm (jE:=wo.heap.size) (aR dL an) qt.size);have NB:=Z nb;clear dL aj an nb)|(go_at_call 182;have nb:=NB;go_must(refine Qr awZ _ l' fp true qA.O wM.O _ ((dR.O.ps jf.O).below vD) _ ?_);intro fa fc w4 Gi ao;have nL:=ao.alloc ao.size (.cells (eA fp fa fc) 147);have di:=bG vD nL;have bu:=aQ U di;have n5:=cj nb.O nL;obtain⟨rp,ru,ry,rz,rA,rB,rC,rD,rE,rF⟩:=c5 n5;have kW:=Z (aR iF.O nL);clear Gi ao nL n5 nb;(have fE:=aR aV.O di;have bQ:=dO (w4.alloc (.cells (eA fp fa fc) 147)) (eA p' eY eZ) 147 5 1 rfl;rw[show(w4.alloc (.cells (eA fp fa fc) 147)).heap.size=w4.heap.size+1 by simp] at bQ))|(go_at_call 183;go_must(refine Qq awZ p'.num _ kO.O _ _ ?_))
  |(at_builtin;go_must(refine kU (by rfl) (.tmp 98) (.tmp 100) 32 (by rfl) w 147 (.agg jt) 5 72 underlying32 Tryz.Ar rfl (by decide) _ _ _ _ rfl (World.ownsRow.alloc fE _) _ _ _ _ rfl bQ (Br _ _ _) (by simp) (by unfold maxLen;omega) (by omega) (aJ bu.size (by simp)) ?_)))
 intro fS c6 w6 eo bI;have lJ:iZ 5 (w4.alloc (.cells (eA fp fa fc) 147)) w6:=(iZ.below (aD _ _)).trans (iZ.G1 (fE.alloc _) bI (by decide));have BN:Below w w w6:=bT (bu.alloc bu.size _) bI (aJ bu.size (by simp)) (fE.alloc _);have jG:∀v∈ds,CS v (.slice eY p'.data.length eZ):=by
  intro v hv k G J;obtain⟨i,hi,rfl⟩:=lD hv;have h1:=((AL.O i (by rw[←AK.O];exact hi)).lt k G).2;have h2:=(kW.O.lt k J).1
  omega
 have zm:cE w6 w.heap.size (.slice fS (l'.length+1) c6) (l'++ [p']):=cE.push AK.O (fun i hi=>aR (AL.O i hi) di) lJ eo (cm kW.O U.size) Hp.O jG;have Ff:=Z zm;have J5:Hid (∀q∈l'++ [p'],PB q):=Z fun q hq=>by
  rcases ez.1 hq with h|h
  ·exact jf.O q h
  obtain rfl:=dM.1 h;exact Ss.O
 clear zm jG lJ eo bI fE bQ bu di;go_wp2;go_roundg (b'.drop (aw0+um)).length
 case measure=>rw[dw];omega
 case rel=>exact⟨f',l'++ [p'],b'.drop (aw0+um),Le,rc - (aw0+um),by rw[dw];omega,rfl,by rw[dw],Z (by have:=Fe.O;rw[aK,dw];simp;omega),Ff,J5,by rw[dw];exact adg,BN,Oa⟩):P:=h
theorem Qs{P:Prop}(h:P:=by
 go_wp2_with (first
  |(go_at_call 179;go_must(refine ze _ b' awZ aw0 0 Gh.O _ (cT.O.below U) _ ?_))|(go_at_call 180;go_must(refine IL awZ wh true HM.O _ _ ?_);intro w1 qt;have aO:=aQ U qt)|(go_at_call 181;go_must(refine rn.O _ _ (L4.O.below aO) ?_);intro dv w2 dL aj;obtain⟨eY,eZ,rfl⟩:=cR dL;have zY:=bG qt aj;have nb:=aH w2 (.cells (eA p' eY eZ) 147);have an:=aD w2 (.cells (eA p' eY eZ) 147);have vD:=bG zY an;have iF:=Z (cm (jE:=wo.heap.size) (aR dL an) qt.size);have NB:=Z nb;clear dL aj an nb)|(go_at_call 182;have nb:=NB;go_must(refine Qr awZ _ l' fp true qA.O wM.O _ ((dR.O.ps jf.O).below vD) _ ?_);intro fa fc w4 Gi ao;have nL:=ao.alloc ao.size (.cells (eA fp fa fc) 147);have di:=bG vD nL;have bu:=aQ U di;have n5:=cj nb.O nL;obtain⟨rp,ru,ry,rz,rA,rB,rC,rD,rE,rF⟩:=c5 n5;have kW:=Z (aR iF.O nL);clear Gi ao nL n5 nb;skip)|(go_at_call 183;go_must(refine Qq awZ p'.num _ kO.O _ _ ?_)))
 try go_ret3
 exact ly.O _ bu):P:=h
theorem IN(wh:Int)(v:Value)(b:List UInt8)(out:List Pr)(used:Int)(c:Nat)(h:lf wh b=(out,used,c))(ep:b.length≤100000000)(w:World)(hv:Bs w v b)(hT:dy w)(R:ak)
 (I:∀Y cc w',cE w' w.heap.size (.slice Y out.length cc) out→Below w w w'→R (.returned (.tuple #[.slice Y out.length cc,E used,E c])) w'):
 Calls prog 163 #[E wh,v] w R:=by
 obtain⟨HR,HV,HT⟩:=bX I hv hT;obtain⟨va,vc,rfl,_,N',JT,_⟩:=_root_.id hv;obtain⟨⟨n,y,z⟩,A⟩:∃g,dY b=g:=⟨_,rfl⟩
 unfold lf at h;rw[A] at h;simp only at h;have HG:=Z A;clear I hv hT;by_cases hz:z≠0
 ·rw[if_pos (.inl hz)] at h;simp only[Prod.mk.injEq] at h;obtain⟨rfl,rfl,rfl⟩:=h;have Sp:¬(z:Int)=0:=by omega
  clear A;go_enter func163,ntmps163;go_wp2_with (go_at_call 179;go_must(refine ze _ b n y z HG.O _ HV.O _ ?_))
  try go_ret3
  exact HR.O none 0 _ (cE.nil _ _) dg
 have lV:z=0:=by omega
 subst lV;obtain⟨aiX,kK,_⟩:=Df b n y A;clear A;by_cases y_:b.length<n+y
 ·rw[if_pos (.inr y_)] at h;simp only[Prod.mk.injEq] at h;obtain⟨rfl,rfl,rfl⟩:=h;have Su:(b.length:Int) - (y:Int)<(n:Int):=by omega
  go_enter func163,ntmps163;go_wp2_with (go_at_call 179;go_must(refine ze _ b n y 0 HG.O _ HV.O _ ?_))
  try go_ret3
  exact HR.O none 0 _ (cE.nil _ _) dg
 rw[if_neg (by simpa using y_)] at h;have Su:¬((b.length:Int) - (y:Int)<(n:Int)):=by omega
 obtain⟨⟨o2,c2⟩,hF⟩:∃o,qp n wh [] ((b.drop y).take n)=o:=⟨_,rfl⟩
 rw[hF] at h;simp only at h;have HF:=Z hF;have HH:=Z h;obtain⟨La,dm,bU⟩:=YT (lo:=y) (hi:=y+n) HV.O (by omega) (by omega);rw[Nat.add_sub_cancel_left] at bU;have ov:∀w',(Instr.slice 22 (.slice va b.length vc) (some (E (y:Int))) (some (.int .i64 ((y:Int)+(n:Int)))) none).run prog w'= .ok (.slice La n (vc - y)) w':=by
  exact Y_
 have aM:(b.take (y+n)).drop y=(b.drop y).take n:=by rw[List.drop_take,Nat.add_sub_cancel_left]
 rw[aM] at bU;have J4:((b.drop y).take n).length=n:=by rw[bS,dw];omega
 have eW:=Z bU;have pG:=Z J4;clear h hF dm bU aM J4;go_enter func163,ntmps163;go_wp2_with (go_at_call 179;go_must(refine ze _ b n y 0 HG.O _ HV.O _ ?_));clear ov;go_loopg [10,11] n (fun gn rest L wr=>∃(f:Nat)(l':List Pr)(b':List UInt8)(ra:av)(rc:Nat),b'.length≤f∧gn=b'.length∧rest= .slice ra b'.length rc∧Hid (l'.length+b'.length≤b.length)∧Hid (cE wr w.heap.size L l')∧Hid (∀p∈l',PB p)∧Hid (Bs w (.slice ra b'.length rc) b')∧Below w w wr∧Hid (qp f wh l' b'=(o2,c2)))
 case atStart=>
  exact Y'
 case round=>
  obtain⟨f,l',b',ra,rc,hf,rfl,rfl,Fe,dR,jf,cT,U,ux⟩:=hrel;obtain⟨wo,rfl⟩:∃x,x=wr:=⟨_,rfl⟩
  obtain⟨aiY,Lc,rfl⟩:=cE.shape dR.O;have G_:=U.size;by_cases u_:0<b'.length;rotate_left
  ·have aM:b'= []:=n_ (by omega);subst aM;have iK:=ux.O;rw[Zb] at iK;simp only[Prod.mk.injEq] at iK;obtain⟨rfl,rfl⟩:=iK;have hh:=HH.O;rw[if_neg (by simp)] at hh;simp only[Prod.mk.injEq] at hh;obtain⟨rfl,rfl,rfl⟩:=hh;clear ux;go_wp2
   try go_ret3
   exact HR.O _ _ _ dR.O U
  have aiZ:(0:Int)<(b'.length:Int):=by omega
  obtain⟨f',rfl⟩:∃f',f=f'+1:=⟨f - 1,by omega⟩
  have bf:b'≠ []:=fun J=>by rw[J] at u_;simp at u_
  have iK:=ux.O;unfold qp at iK;rw[if_neg bf] at iK;obtain⟨⟨sc,p,m⟩,W⟩:∃s,rm wh l' b'=s:=⟨_,rfl⟩
  rw[W] at iK;simp only at iK;have iy:=W;unfold rm at W;obtain⟨⟨awZ,aw0,awS⟩,A⟩:∃g,dY b'=g:=⟨_,rfl⟩
  rw[A] at W;simp only at W;have Gh:=Z A;have fb:sc≠0→(o2= []∧c2=sc)∧∀w',Below w w w'→R (.returned (.tuple #[.slice none 0 0,E 0,E sc])) w':=by
   intro j';rw[if_pos j'] at iK;simp only[Prod.mk.injEq] at iK;refine⟨⟨iK.1.symm,iK.2.symm⟩,fun w' U5=> ?_⟩;have hh:=HH.O;rw[←iK.2,if_pos j'] at hh;simp only[Prod.mk.injEq] at hh;obtain⟨rfl,rfl,rfl⟩:=hh;exact HR.O none 0 _ (cE.nil _ _) U5
  by_cases hz:awS≠0
  ·rw[if_pos (.inl hz)] at W;simp only[Prod.mk.injEq] at W;obtain⟨rfl,rfl,rfl⟩:=W;have ly:=Z (fb (by omega)).2;have Sp:¬(awS:Int)=0:=by omega
   clear A iy iK fb ux bf;go_wp2_with (go_at_call 179;go_must(refine ze _ b' awZ aw0 awS Gh.O _ (cT.O.below U) _ ?_))
   try go_ret3
   exact ly.O _ U
  have lV:awS=0:=by omega
  subst lV;obtain⟨_,aqm,_⟩:=Df b' awZ aw0 A;obtain⟨mm,hm⟩:=ai (ch (awZ:Int) wh);rw[hm] at W;have HM:=Z hm;cases mm with
  |false=>
   simp only[ne_eq,not_true_eq_false,or_true,if_true,Prod.mk.injEq] at W;obtain⟨rfl,rfl,rfl⟩:=W;have ly:=Z (fb (by omega)).2;clear A iy iK fb ux bf hm;go_wp2_with (first
    |(go_at_call 179;go_must(refine ze _ b' awZ aw0 0 Gh.O _ (cT.O.below U) _ ?_))
    |(go_at_call 180;go_must(refine IL awZ wh false HM.O _ _ ?_);intro w1 aw;have aO:=aQ U aw))
   try go_ret3
   exact ly.O _ aO
  |true=>
   simp only[ne_eq,not_true_eq_false,Bool.true_eq_false,or_false,if_false] at W;have fF:aS (awZ:Int)≠0:=Sn hm;have JU:=Z fF;obtain⟨Lb,av1,adh⟩:=Hl cT.O aqm;have L4:=Z adh;obtain⟨fp,JV⟩:=ai ((ot awZ l').getD mK);obtain⟨fq,E3⟩:=ai ((ot awZ l').isSome);have Dh:zh awZ l'=fq:=by rw[←E3];exact(Y3 awZ l').symm
   rw[Dh] at W;have qA:=Z JV;have wM:=Z E3;clear JV E3 Dh fF adh hm;obtain⟨r,hr⟩:=ai (eK (awZ:Int) (b'.drop aw0));rw[hr] at W;cases r with
   |none=>
    simp only[Prod.mk.injEq] at W;obtain⟨rfl,rfl,rfl⟩:=W;have ly:=Z (fb (by omega)).2;have JW:∀w' R,Bs w' (Value.slice Lb (b'.length - aw0) (rc - aw0)) (b'.drop aw0)→_→Calls prog 181 #[E awZ,Value.slice Lb (b'.length - aw0) (rc - aw0)] w' R:=fun w' R h1 h3=>aql awZ JU.O _ _ hr w' h1 R h3;have rn:=Z JW;clear A iy iK fb ux bf hr JW;go_wp2_with (first
     |(go_at_call 179;go_must(refine ze _ b' awZ aw0 0 Gh.O _ (cT.O.below U) _ ?_))
     |(go_at_call 180;go_must(refine IL awZ wh true HM.O _ _ ?_);intro w1 aw;have aO:=aQ U aw)
     |(go_at_call 181;go_must(refine rn.O _ _ (L4.O.below aO) ?_);intro vn vs vt JX vm JY vu w2 aj;have bC:=aQ aO aj))
    try go_ret3
    exact ly.O _ (bC.alloc bC.size _)
   |some pm=>
    obtain⟨p',m'⟩:=pm;simp only at W;obtain⟨um,rfl,JZ,Ho,_,Dk,_⟩:=Sg hr;rw[dw] at JZ;have J0:∀w' R,Bs w' (Value.slice Lb (b'.length - aw0) (rc - aw0)) (b'.drop aw0)→_→Calls prog 181 #[E awZ,Value.slice Lb (b'.length - aw0) (rc - aw0)] w' R:=fun w' R h1 h3=>aqk awZ JU.O _ _ p' um hr w' h1 R h3;have rn:=Z J0;obtain⟨nn,kL⟩:=ai (dU p');have adi:dU ⟨awZ,p'.num,[],[],[]⟩=nn:=by rw[←kL,aqc p',Ho]
    obtain⟨kO,Y8,aqn⟩:=bX adi Ho Dk;have aqo:aw0+um≤b'.length:=by omega
    obtain⟨Le,adj,adk⟩:=Hl cT.O aqo;have av2:∀w',(Instr.slice 22 (.slice ra b'.length rc) (some (.int .i64 ((aw0:Int)+(um:Int)))) none none).run prog w'= .ok (.slice Le (b'.length - (aw0+um)) (rc - (aw0+um))) w':=by
     intro w';have:=adj w';rw[show(aw0:Int)+(um:Int)=((aw0+um:Nat):Int) by omega];exact this
    have adg:=Z adk;have av3:(aw0:Int)+(um:Int)≤100000000:=by have:=Fe.O;omega
    have av4:l'.length+1≤100000000:=by have:=Fe.O;omega
    clear J0 hr Dk Ho adi adj adk JZ;have L5:pE (awZ:Int) wh=(!((awZ:Int) != 38) || (((awZ:Int)==11)&&(wh==3))):=by
     unfold pE;by_cases a1:(awZ:Int)=38
     ·simp[a1]
     by_cases a2:(awZ:Int)=11∧wh=3
     ·simp[a2]
     have:¬((awZ:Int)=38∨(awZ:Int)=11∧wh=3):=fun h=>h.elim a1 a2;rw[dN this];by_cases a3:(awZ:Int)=11
     ·have a4:¬wh=3:=fun h=>a2 ⟨a3,h⟩;simp[a3,a4]
     simp[a1,a3]
    obtain⟨L6,h38⟩:∃q,((awZ:Int) != 38)=q:=⟨_,rfl⟩
    obtain⟨L7,h11⟩:∃q,((awZ:Int)==11)=q:=⟨_,rfl⟩
    obtain⟨q3,h3⟩:∃q,(wh==3)=q:=⟨_,rfl⟩
    rw[h38,h11,h3] at L5;rw[L5] at W;have aqp:(fq=true∧(!L6 || (L7&&q3))=false)∨¬(fq=true∧(!L6 || (L7&&q3))=false):=Decidable.em _;rcases aqp with hd|hd
    ·rw[if_pos hd] at W;simp only[Prod.mk.injEq] at W;obtain⟨rfl,rfl,rfl⟩:=W;have ly:=Z (fb (by omega)).2;obtain⟨rfl,Iq⟩:=hd;clear A iy iK fb ux bf kL L5;cases L6 with
     |false=>simp at Iq
     |true=>
      cases L7 with
      |false=>
       clear Iq;exact Qs
      |true=>
       cases q3 with
       |true=>simp at Iq
       |false=>
        clear Iq;exact Qs
    rw[if_neg hd,kL] at W;by_cases mx:nn≠0
    ·rw[if_pos mx] at W;simp only[Prod.mk.injEq] at W;obtain⟨rfl,rfl,rfl⟩:=W;have ly:=Z (fb mx).2;have av5:¬(nn:Int)=0:=by omega
     have av6:((nn:Int) != 0)=true:=by simp;omega
     clear A iy iK fb ux bf kL L5;cases fq with
     |false=>
      clear hd h38 h11 h3;go_wp2_with (first
       |(go_at_call 179;go_must(refine ze _ b' awZ aw0 0 Gh.O _ (cT.O.below U) _ ?_))|(go_at_call 180;go_must(refine IL awZ wh true HM.O _ _ ?_);intro w1 qt;have aO:=aQ U qt)|(go_at_call 181;go_must(refine rn.O _ _ (L4.O.below aO) ?_);intro dv w2 dL aj;obtain⟨eY,eZ,rfl⟩:=cR dL;have zY:=bG qt aj;have nb:=aH w2 (.cells (eA p' eY eZ) 147);have an:=aD w2 (.cells (eA p' eY eZ) 147);have vD:=bG zY an;have iF:=Z (cm (jE:=wo.heap.size) (aR dL an) qt.size);have NB:=Z nb;clear dL aj an nb)|(go_at_call 182;have nb:=NB;go_must(refine Qr awZ _ l' fp false qA.O wM.O _ ((dR.O.ps jf.O).below vD) _ ?_);intro fa fc w4 Gi ao;have nL:=ao.alloc ao.size (.cells (eA fp fa fc) 147);have di:=bG vD nL;have bu:=aQ U di;have n5:=cj nb.O nL;obtain⟨rp,ru,ry,rz,rA,rB,rC,rD,rE,rF⟩:=c5 n5;have kW:=Z (aR iF.O nL);clear Gi ao nL n5 nb;skip)|(go_at_call 183;go_must(refine Qq awZ p'.num _ kO.O _ _ ?_)))
      try go_ret3
      exact ly.O _ bu
     |true=>
      cases L6 with
      |false=>
       clear hd h11 h3;exact Qs
      |true=>
       cases L7 with
       |false=>simp at hd
       |true=>
        cases q3 with
        |false=>simp at hd
        |true=>
         clear hd;exact Qs
    rw[if_neg mx] at W;simp only[Prod.mk.injEq] at W;have dK:nn=0:=by omega
    subst dK;obtain⟨rfl,rfl,rfl⟩:=W;rw[if_neg (by simp),show((aw0:Int)+(um:Int)).toNat=aw0+um by omega] at iK;have Oa:=Z iK;obtain⟨u9,aqq,aqr,_,_,_,_,_,cp,dJ,_,_⟩:=Sh iy;have ai0:1≤aw0+um:=by omega
    have Ss:=Z (aqn.O.pb cp dJ);obtain⟨ds,Es,aq,As,Au⟩:=dR.O;obtain⟨AK,AL,aV,Hp⟩:=cF Es As aq Au;clear As aq Au A iy iK fb ux bf kL L5 aqq aqr cp dJ mx;cases fq with
    |false=>
     clear hd h38 h11 h3;go_wp2_with (first
      |(go_at_call 179;go_must(refine ze _ b' awZ aw0 0 Gh.O _ (cT.O.below U) _ ?_))|(go_at_call 180;go_must(refine IL awZ wh true HM.O _ _ ?_);intro w1 qt;have aO:=aQ U qt)|(go_at_call 181;go_must(refine rn.O _ _ (L4.O.below aO) ?_);intro dv w2 dL aj;obtain⟨eY,eZ,rfl⟩:=cR dL;have zY:=bG qt aj;have nb:=aH w2 (.cells (eA p' eY eZ) 147);have an:=aD w2 (.cells (eA p' eY eZ) 147);have vD:=bG zY an;have iF:=Z (cm (jE:=wo.heap.size) (aR dL an) qt.size);have NB:=Z nb;clear dL aj an nb)|(go_at_call 182;have nb:=NB;go_must(refine Qr awZ _ l' fp false qA.O wM.O _ ((dR.O.ps jf.O).below vD) _ ?_);intro fa fc w4 Gi ao;have nL:=ao.alloc ao.size (.cells (eA fp fa fc) 147);have di:=bG vD nL;have bu:=aQ U di;have n5:=cj nb.O nL;obtain⟨rp,ru,ry,rz,rA,rB,rC,rD,rE,rF⟩:=c5 n5;have kW:=Z (aR iF.O nL);clear Gi ao nL n5 nb;(have fE:=aR aV.O di;have bQ:=dO (w4.alloc (.cells (eA fp fa fc) 147)) (eA p' eY eZ) 147 5 1 rfl;rw[show(w4.alloc (.cells (eA fp fa fc) 147)).heap.size=w4.heap.size+1 by simp] at bQ))|(go_at_call 183;go_must(refine Qq awZ p'.num _ kO.O _ _ ?_))
      |(at_builtin;go_must(refine kU (by rfl) (.tmp 98) (.tmp 100) 32 (by rfl) w 147 (.agg jt) 5 72 underlying32 Tryz.Ar rfl (by decide) _ _ _ _ rfl (World.ownsRow.alloc fE _) _ _ _ _ rfl bQ (Br _ _ _) (by simp) (by unfold maxLen;omega) (by omega) (aJ bu.size (by simp)) ?_)))
     intro fS c6 w6 eo bI;have lJ:iZ 5 (w4.alloc (.cells (eA fp fa fc) 147)) w6:=(iZ.below (aD _ _)).trans (iZ.G1 (fE.alloc _) bI (by decide));have BN:Below w w w6:=bT (bu.alloc bu.size _) bI (aJ bu.size (by simp)) (fE.alloc _);have jG:∀v∈ds,CS v (.slice eY p'.data.length eZ):=by
      intro v hv k G J;obtain⟨i,hi,rfl⟩:=lD hv;have h1:=((AL.O i (by rw[←AK.O];exact hi)).lt k G).2;have h2:=(kW.O.lt k J).1
      omega
     have zm:cE w6 w.heap.size (.slice fS (l'.length+1) c6) (l'++ [p']):=cE.push AK.O (fun i hi=>aR (AL.O i hi) di) lJ eo (cm kW.O U.size) Hp.O jG;have Ff:=Z zm;have J5:Hid (∀q∈l'++ [p'],PB q):=Z fun q hq=>by
      exact Za
     clear zm jG lJ eo bI fE bQ bu di;go_wp2;go_roundg (b'.drop (aw0+um)).length
     case measure=>rw[dw];omega
     case rel=>exact⟨f',l'++ [p'],b'.drop (aw0+um),Le,rc - (aw0+um),by rw[dw];omega,rfl,by rw[dw],Z (by have:=Fe.O;rw[aK,dw];simp;omega),Ff,J5,by rw[dw];exact adg,BN,Oa⟩
    |true=>
     cases L6 with
     |false=>
      clear hd h11 h3;exact adf
     |true=>
      cases L7 with
      |false=>simp at hd
      |true=>
       cases q3 with
       |false=>simp at hd
       |true=>
        clear hd;exact adf
open List (getElem_mem)
open Nat (zero_add)
variable{ok:Bool}{wh:Int}{l:List Pr}{B K e n:Nat}{Y:av}{p:Pr}{w:World}
theorem Cx{P:Prop}(h:P:=by
 go_wp2
 try go_ret2
 exact HR.O _ _ _ (cm cO (by simp)) (bG cM.O (bG (bq _) ao))):P:=h
theorem aqs(d:Value)(p:Pr)(G:aS p.id=1)(aw3:List UInt8)(ok:Bool)(hJ:jX p=(aw3,ok))(w:World)(h:PC w d p)(R:ak)
 (I:∀Y c w',w'.ownsRow w 5 1 (.slice Y aw3.length c) aw3.length (bv aw3)→Below w w w'→R (.returned (.tuple #[.slice Y aw3.length c,.bool ok])) w'):
 Calls prog 203 #[.agg (bL p d)] w R:=by
 obtain⟨HR,HK,HP⟩:=bX I G h;have N0:Hid ((w.alloc (.cells (bL p d) 147)).heap[w.heap.size]? =some (.cells (bL p d) 147)):=Z (aH w _);have cM:Hid (Below w w (w.alloc (.cells (bL p d) 147))):=Z (aD _ _);clear I h;obtain⟨awZ,hX⟩:=ai (u64 p.num);have Fh:IntKind.u64.wrap p.num=(awZ:Int):=by rw[←hX,IntKind.wrap_u64];unfold u64;omega
 have sx:awZ<18446744073709551616:=by rw[←hX];unfold u64;omega
 have sy:=Z sx;have e0:jX p=(eC awZ 1,decide (0≤p.num∧p.num<256)):=by unfold jX;simp only[G,hX,Nat.reduceEqDiff,if_true,if_false]
 rw[e0] at hJ;simp only[Prod.mk.injEq] at hJ;obtain⟨hP,eS⟩:=hJ;have iU:=Z hP;have lC:=Z eS;clear sx hP hX e0 G eS;have c1:(w.alloc (.cells (bL p d) 147)).drew.cell? ⟨w,1,none⟩=some (.int .i64 p.num):=D 1 N0.O;by_cases h0:0≤p.num
 ·by_cases h1:p.num<256
  ·obtain rfl:ok=true:=by rw[←lC.O];exact eN ⟨h0,h1⟩
   have kI:decide (p.num<256)=true:=eN h1;go_enter func203,ntmps203;go_wp2_with (go_at_call 206;go_must(refine mh p.id 1 HK.O _ _ ?_));go_region_held3 (fun x=>x.cell? ⟨w,1,none⟩=some (.int .i64 p.num)) (first|exact c1|exact cell_later ao c1|go_keep) (first|(go_at_call 64;refine yX awZ sy.O 1 aw3 iU.O _ _ ?_;intro V X w4 cO ao))
   all_goals
    exact Cx
  ·obtain rfl:ok=false:=by rw[←lC.O];exact dN fun h=>h1 h.2
   have kI:decide (p.num<256)=false:=dN h1;go_enter func203,ntmps203;go_wp2_with (go_at_call 206;go_must(refine mh p.id 1 HK.O _ _ ?_));go_region_held3 (fun x=>x.cell? ⟨w,1,none⟩=some (.int .i64 p.num)) (first|exact c1|exact cell_later ao c1|go_keep) (first|(go_at_call 64;refine yX awZ sy.O 1 aw3 iU.O _ _ ?_;intro V X w4 cO ao))
   all_goals
    exact Cx
 obtain rfl:ok=false:=by rw[←lC.O];exact dN fun h=>h0 h.1
 have Bu:decide (0≤p.num)=false:=dN h0;go_enter func203,ntmps203;go_wp2_with (go_at_call 206;go_must(refine mh p.id 1 HK.O _ _ ?_))
 first|(go_region_with (first|(go_at_call 64;refine yX awZ sy.O 1 aw3 iU.O _ _ ?_;intro V X w4 cO ao;have c4:=cell_later ao c1)))|fail
 all_goals
  exact Cx
theorem aqt(d:Value)(p:Pr)(G:aS p.id=2)(aw3:List UInt8)(ok:Bool)(hJ:jX p=(aw3,ok))(w:World)(h:PC w d p)(R:ak)
 (I:∀Y c w',w'.ownsRow w 5 1 (.slice Y aw3.length c) aw3.length (bv aw3)→Below w w w'→R (.returned (.tuple #[.slice Y aw3.length c,.bool ok])) w'):
 Calls prog 203 #[.agg (bL p d)] w R:=by
 obtain⟨HR,HK,HP⟩:=bX I G h;have N0:Hid ((w.alloc (.cells (bL p d) 147)).heap[w.heap.size]? =some (.cells (bL p d) 147)):=Z (aH w _);have cM:Hid (Below w w (w.alloc (.cells (bL p d) 147))):=Z (aD _ _);clear I h;obtain⟨awZ,hX⟩:=ai (u64 p.num);have Fh:IntKind.u64.wrap p.num=(awZ:Int):=by rw[←hX,IntKind.wrap_u64];unfold u64;omega
 have sx:awZ<18446744073709551616:=by rw[←hX];unfold u64;omega
 have sy:=Z sx;have e0:jX p=(eC awZ 2,decide (0≤p.num∧p.num<65536)):=by unfold jX;simp only[G,hX,Nat.reduceEqDiff,if_true,if_false]
 rw[e0] at hJ;simp only[Prod.mk.injEq] at hJ;obtain⟨hP,eS⟩:=hJ;have iU:=Z hP;have lC:=Z eS;clear sx hP hX e0 G eS;have c1:(w.alloc (.cells (bL p d) 147)).drew.cell? ⟨w,1,none⟩=some (.int .i64 p.num):=D 1 N0.O;by_cases h0:0≤p.num
 ·by_cases h1:p.num<65536
  ·obtain rfl:ok=true:=by rw[←lC.O];exact eN ⟨h0,h1⟩
   have kI:decide (p.num<65536)=true:=eN h1;go_enter func203,ntmps203;go_wp2_with (go_at_call 206;go_must(refine mh p.id 2 HK.O _ _ ?_));go_region_held3 (fun x=>x.cell? ⟨w,1,none⟩=some (.int .i64 p.num)) (first|exact c1|exact cell_later ao c1|go_keep) (first|(go_at_call 64;refine yX awZ sy.O 2 aw3 iU.O _ _ ?_;intro V X w4 cO ao))
   all_goals
    exact Cx
  ·obtain rfl:ok=false:=by rw[←lC.O];exact dN fun h=>h1 h.2
   have kI:decide (p.num<65536)=false:=dN h1;go_enter func203,ntmps203;go_wp2_with (go_at_call 206;go_must(refine mh p.id 2 HK.O _ _ ?_));go_region_held3 (fun x=>x.cell? ⟨w,1,none⟩=some (.int .i64 p.num)) (first|exact c1|exact cell_later ao c1|go_keep) (first|(go_at_call 64;refine yX awZ sy.O 2 aw3 iU.O _ _ ?_;intro V X w4 cO ao))
   all_goals
    exact Cx
 obtain rfl:ok=false:=by rw[←lC.O];exact dN fun h=>h0 h.1
 have Bu:decide (0≤p.num)=false:=dN h0;go_enter func203,ntmps203;go_wp2_with (go_at_call 206;go_must(refine mh p.id 2 HK.O _ _ ?_))
 first|(go_region_with (first|(go_at_call 64;refine yX awZ sy.O 2 aw3 iU.O _ _ ?_;intro V X w4 cO ao;have c4:=cell_later ao c1)))|fail
 all_goals
  exact Cx
theorem aqu(d:Value)(p:Pr)(G:aS p.id=3)(aw3:List UInt8)(ok:Bool)(hJ:jX p=(aw3,ok))(w:World)(h:PC w d p)(R:ak)
 (I:∀Y c w',w'.ownsRow w 5 1 (.slice Y aw3.length c) aw3.length (bv aw3)→Below w w w'→R (.returned (.tuple #[.slice Y aw3.length c,.bool ok])) w'):
 Calls prog 203 #[.agg (bL p d)] w R:=by
 obtain⟨HR,HK,HP⟩:=bX I G h;have N0:Hid ((w.alloc (.cells (bL p d) 147)).heap[w.heap.size]? =some (.cells (bL p d) 147)):=Z (aH w _);have cM:Hid (Below w w (w.alloc (.cells (bL p d) 147))):=Z (aD _ _);clear I h;obtain⟨awZ,hX⟩:=ai (u64 p.num);have Fh:IntKind.u64.wrap p.num=(awZ:Int):=by rw[←hX,IntKind.wrap_u64];unfold u64;omega
 have sx:awZ<18446744073709551616:=by rw[←hX];unfold u64;omega
 have sy:=Z sx;have e0:jX p=(eC awZ 4,decide (0≤p.num∧p.num<4294967296)):=by unfold jX;simp only[G,hX,Nat.reduceEqDiff,if_true,if_false]
 rw[e0] at hJ;simp only[Prod.mk.injEq] at hJ;obtain⟨hP,eS⟩:=hJ;have iU:=Z hP;have lC:=Z eS;clear sx hP hX e0 G eS;have c1:(w.alloc (.cells (bL p d) 147)).drew.cell? ⟨w,1,none⟩=some (.int .i64 p.num):=D 1 N0.O;by_cases h0:0≤p.num
 ·by_cases h1:p.num<4294967296
  ·obtain rfl:ok=true:=by rw[←lC.O];exact eN ⟨h0,h1⟩
   have kI:decide (p.num<4294967296)=true:=eN h1;go_enter func203,ntmps203;go_wp2_with (go_at_call 206;go_must(refine mh p.id 3 HK.O _ _ ?_));go_region_held3 (fun x=>x.cell? ⟨w,1,none⟩=some (.int .i64 p.num)) (first|exact c1|exact cell_later ao c1|go_keep) (first|(go_at_call 64;refine yX awZ sy.O 4 aw3 iU.O _ _ ?_;intro V X w4 cO ao))
   all_goals
    exact Cx
  ·obtain rfl:ok=false:=by rw[←lC.O];exact dN fun h=>h1 h.2
   have kI:decide (p.num<4294967296)=false:=dN h1;go_enter func203,ntmps203;go_wp2_with (go_at_call 206;go_must(refine mh p.id 3 HK.O _ _ ?_));go_region_held3 (fun x=>x.cell? ⟨w,1,none⟩=some (.int .i64 p.num)) (first|exact c1|exact cell_later ao c1|go_keep) (first|(go_at_call 64;refine yX awZ sy.O 4 aw3 iU.O _ _ ?_;intro V X w4 cO ao))
   all_goals
    exact Cx
 obtain rfl:ok=false:=by rw[←lC.O];exact dN fun h=>h0 h.1
 have Bu:decide (0≤p.num)=false:=dN h0;go_enter func203,ntmps203;go_wp2_with (go_at_call 206;go_must(refine mh p.id 3 HK.O _ _ ?_))
 first|(go_region_with (first|(go_at_call 64;refine yX awZ sy.O 4 aw3 iU.O _ _ ?_;intro V X w4 cO ao;have c4:=cell_later ao c1)))|fail
 all_goals
  exact Cx
theorem aqv(d:Value)(p:Pr)(G:aS p.id=4)(aw3:List UInt8)(ok:Bool)(hJ:jX p=(aw3,ok))(w:World)(h:PC w d p)(R:ak)
 (I:∀Y c w',w'.ownsRow w 5 1 (.slice Y aw3.length c) aw3.length (bv aw3)→Below w w w'→R (.returned (.tuple #[.slice Y aw3.length c,.bool ok])) w'):
 Calls prog 203 #[.agg (bL p d)] w R:=by
 obtain⟨HR,HK,HP⟩:=bX I G h;have N0:Hid ((w.alloc (.cells (bL p d) 147)).heap[w.heap.size]? =some (.cells (bL p d) 147)):=Z (aH w _);have cM:Hid (Below w w (w.alloc (.cells (bL p d) 147))):=Z (aD _ _);clear I h;obtain⟨P,er,hP⟩:∃P er,eE p.num=(P,er):=⟨_,_,rfl⟩
 have e0:jX p=(P,decide (er=0)):=by unfold jX;simp only[G,hP,Nat.reduceEqDiff,if_true,if_false]
 rw[e0] at hJ;simp only[Prod.mk.injEq] at hJ;obtain⟨rfl,eS⟩:=hJ;obtain rfl:ok=(er==0):=by rw[←eS];by_cases h:er=0<;>simp[h]
 have iU:Hid (eE p.num=(P,er)):=Z hP;clear hP e0 G eS;go_enter func203,ntmps203;go_wp2_with (first
  |(go_at_call 206;go_must(refine mh p.id 4 HK.O _ _ ?_))
  |(go_at_call 204;go_must(refine Yz p.num P er iU.O _ _ ?_);intro V X w4 cO ao))
 go_wp2
 try go_ret2
 exact HR.O _ _ _ (cm cO (by simp)) (bG cM.O ao)
theorem aqw(d:Value)(p:Pr)(G:aS p.id=5)(aw3:List UInt8)(ok:Bool)(hJ:jX p=(aw3,ok))(w:World)(h:PC w d p)(R:ak)
 (I:∀Y c w',w'.ownsRow w 5 1 (.slice Y aw3.length c) aw3.length (bv aw3)→Below w w w'→R (.returned (.tuple #[.slice Y aw3.length c,.bool ok])) w'):
 Calls prog 203 #[.agg (bL p d)] w R:=by
 obtain⟨HR,HK,HP⟩:=bX I G h;have N0:Hid ((w.alloc (.cells (bL p d) 147)).heap[w.heap.size]? =some (.cells (bL p d) 147)):=Z (aH w _);have cM:Hid (Below w w (w.alloc (.cells (bL p d) 147))):=Z (aD _ _);clear I h;obtain⟨P,er,hP⟩:∃P er,b9 p.text=(P,er):=⟨_,_,rfl⟩
 have e0:jX p=(P,decide (er=0)):=by unfold jX;simp only[G,hP,Nat.reduceEqDiff,if_true,if_false]
 rw[e0] at hJ;simp only[Prod.mk.injEq] at hJ;obtain⟨rfl,eS⟩:=hJ;obtain rfl:ok=(er==0):=by rw[←eS];by_cases h:er=0<;>simp[h]
 have iU:Hid (b9 p.text=(P,er)):=Z hP;clear hP e0 G eS;go_enter func203,ntmps203;go_wp2_with (first
  |(go_at_call 206;go_must(refine mh p.id 5 HK.O _ _ ?_))
  |(go_at_call 63;go_must(refine Bb p.text P er iU.O _ (by have:=HP.O.lt;omega) _ ?_);intro V X w4 cO ao))
 go_wp2
 try go_ret2
 exact HR.O _ _ _ (cm cO (by simp)) (bG cM.O ao)
theorem aqx(d:Value)(p:Pr)(G:aS p.id=6)(aw3:List UInt8)(ok:Bool)(hJ:jX p=(aw3,ok))(w:World)(h:PC w d p)(R:ak)
 (I:∀Y c w',w'.ownsRow w 5 1 (.slice Y aw3.length c) aw3.length (bv aw3)→Below w w w'→R (.returned (.tuple #[.slice Y aw3.length c,.bool ok])) w'):
 Calls prog 203 #[.agg (bL p d)] w R:=by
 obtain⟨HR,HK,HP⟩:=bX I G h;have N0:Hid ((w.alloc (.cells (bL p d) 147)).heap[w.heap.size]? =some (.cells (bL p d) 147)):=Z (aH w _);have cM:Hid (Below w w (w.alloc (.cells (bL p d) 147))):=Z (aD _ _);clear I h;obtain⟨P,er,hP⟩:∃P er,dn p.data=(P,er):=⟨_,_,rfl⟩
 have e0:jX p=(P,decide (er=0)):=by unfold jX;simp only[G,hP,Nat.reduceEqDiff,if_true,if_false]
 rw[e0] at hJ;simp only[Prod.mk.injEq] at hJ;obtain⟨rfl,eS⟩:=hJ;obtain rfl:ok=(er==0):=by rw[←eS];by_cases h:er=0<;>simp[h]
 have iU:Hid (dn p.data=(P,er)):=Z hP;clear hP e0 G eS;go_enter func203,ntmps203;go_wp2_with (first
  |(go_at_call 206;go_must(refine mh p.id 6 HK.O _ _ ?_))
  |(go_at_call 67;go_must(refine IM _ p.data P er iU.O _ (HP.O.hd.below cM.O) _ ?_);intro V X w4 cO ao))
 go_wp2
 try go_ret2
 exact HR.O _ _ _ (cm cO (by simp)) (bG cM.O ao)
theorem aqy(d:Value)(p:Pr)(G:aS p.id=7)(aw3:List UInt8)(ok:Bool)(hJ:jX p=(aw3,ok))(w:World)(h:PC w d p)(R:ak)
 (I:∀Y c w',w'.ownsRow w 5 1 (.slice Y aw3.length c) aw3.length (bv aw3)→Below w w w'→R (.returned (.tuple #[.slice Y aw3.length c,.bool ok])) w'):
 Calls prog 203 #[.agg (bL p d)] w R:=by
 obtain⟨HR,HK,HP⟩:=bX I G h;have N0:Hid ((w.alloc (.cells (bL p d) 147)).heap[w.heap.size]? =some (.cells (bL p d) 147)):=Z (aH w _);have cM:Hid (Below w w (w.alloc (.cells (bL p d) 147))):=Z (aD _ _);clear I h;obtain⟨P,er,hP⟩:∃P er,b9 p.text=(P,er):=⟨_,_,rfl⟩
 obtain⟨Q,es,hQ⟩:∃Q es,b9 p.pair=(Q,es):=⟨_,_,rfl⟩
 have KH:=Oc p.text;have Ph:=Oc p.pair;rw[hP] at KH;rw[hQ] at Ph;simp only at KH Ph;have e0:jX p=(P++Q,decide (er=0∧es=0)):=by unfold jX;simp only[G,hP,hQ,Nat.reduceEqDiff,if_true,if_false]
 rw[e0] at hJ;simp only[Prod.mk.injEq] at hJ;obtain⟨Gj,eS⟩:=hJ;obtain⟨Bc,iU,DV⟩:=bX Gj hP hQ;clear hP hQ e0 G Gj;by_cases Fj:er=0
 ·subst Fj;obtain rfl:ok=(es==0):=by rw[←eS];by_cases h:es=0<;>simp[h]
  clear eS;go_enter func203,ntmps203;go_wp2_with (first
   |(go_at_call 206;go_must(refine mh p.id 7 HK.O _ _ ?_))
   |(have n0:=N0;go_at_call 63;go_must(refine Bb p.text P 0 iU.O _ (by have:=HP.O.lt;omega) _ ?_);intro V X w4 cO ao;have fZ:=bG cM.O ao;have nr:=cj n0.O ao;obtain⟨gO,gP,gQ,gR,gT,gU,gV,gW,gX,gY⟩:=c5 nr;have oU:=Z (cm (jE:=w.heap.size) cO (by simp));clear cO ao N0 n0 nr)
   |(go_at_call 63;go_must(refine Bb p.pair Q es DV.O _ (by have:=HP.O.lp;omega) _ ?_);intro qa qc w6 eo bd;have fJ:=bG fZ bd;have AM:=aR oU.O bd;obtain⟨s1,s2,se,nh,_,_,Ct⟩:=(fO eo).2;simp only[Value.slice.injEq] at se;obtain⟨rfl,-,rfl⟩:=se)
   |(at_builtin;go_must(refine kU (by rfl) (.tmp 106) (.tmp 107) 22 (by rfl) w 5 (.int .u8 0) 1 1 underlying22 Tryz.cP rfl (by decide) _ _ _ _ rfl AM _ _ _ _ rfl nh (fC _) Ct (by unfold maxLen;omega) (by omega) fJ.size ?_);intro Cv c7 w7 qQ fT;have iz:=bT fJ fT fJ.size AM;have uz:P.length+Q.length=aw3.length:=(by rw[←Bc.O,aK]);have Gk:w7.ownsRow w 5 1 (.slice Cv aw3.length c7) aw3.length (bv aw3):=(by rw[←qf,uz,Bc.O] at qQ;exact qQ);have U6:=Z uz;clear qQ fT uz))
  try go_ret2
  have h9:=HR.O _ _ _ Gk iz;rw[←U6.O] at h9;exact h9
 obtain rfl:ok=false:=by rw[←eS];exact dN fun h=>Fj h.1
 have av7:(er==0)=false:=by simp[Fj]
 clear eS;go_enter func203,ntmps203;go_wp2_with (first
  |(go_at_call 206;go_must(refine mh p.id 7 HK.O _ _ ?_))
  |(have n0:=N0;go_at_call 63;go_must(refine Bb p.text P er iU.O _ (by have:=HP.O.lt;omega) _ ?_);intro V X w4 cO ao;have fZ:=bG cM.O ao;have nr:=cj n0.O ao;obtain⟨gO,gP,gQ,gR,gT,gU,gV,gW,gX,gY⟩:=c5 nr;have oU:=Z (cm (jE:=w.heap.size) cO (by simp));clear cO ao N0 n0 nr)
  |(go_at_call 63;go_must(refine Bb p.pair Q es DV.O _ (by have:=HP.O.lp;omega) _ ?_);intro qa qc w6 eo bd;have fJ:=bG fZ bd;have AM:=aR oU.O bd;obtain⟨s1,s2,se,nh,_,_,Ct⟩:=(fO eo).2;simp only[Value.slice.injEq] at se;obtain⟨rfl,-,rfl⟩:=se)
  |(at_builtin;go_must(refine kU (by rfl) (.tmp 106) (.tmp 107) 22 (by rfl) w 5 (.int .u8 0) 1 1 underlying22 Tryz.cP rfl (by decide) _ _ _ _ rfl AM _ _ _ _ rfl nh (fC _) Ct (by unfold maxLen;omega) (by omega) fJ.size ?_);intro Cv c7 w7 qQ fT;have iz:=bT fJ fT fJ.size AM;have uz:P.length+Q.length=aw3.length:=(by rw[←Bc.O,aK]);have Gk:w7.ownsRow w 5 1 (.slice Cv aw3.length c7) aw3.length (bv aw3):=(by rw[←qf,uz,Bc.O] at qQ;exact qQ);have U6:=Z uz;clear qQ fT uz))
 try go_ret2
 have h9:=HR.O _ _ _ Gk iz;rw[←U6.O] at h9;exact h9
theorem aqz(d:Value)(p:Pr)(G:aS p.id=0)(aw3:List UInt8)(ok:Bool)(hJ:jX p=(aw3,ok))(w:World)(h:PC w d p)(R:ak)
 (I:∀Y c w',w'.ownsRow w 5 1 (.slice Y aw3.length c) aw3.length (bv aw3)→Below w w w'→R (.returned (.tuple #[.slice Y aw3.length c,.bool ok])) w'):
 Calls prog 203 #[.agg (bL p d)] w R:=by
 obtain⟨HR,HK,HP⟩:=bX I G h;have N0:Hid ((w.alloc (.cells (bL p d) 147)).heap[w.heap.size]? =some (.cells (bL p d) 147)):=Z (aH w _);have cM:Hid (Below w w (w.alloc (.cells (bL p d) 147))):=Z (aD _ _);clear I h;have e0:jX p=([],false):=by unfold jX;simp only[G,Nat.reduceEqDiff,if_false]
 rw[e0] at hJ;simp only[Prod.mk.injEq] at hJ;obtain⟨rfl,rfl⟩:=hJ;clear e0 G;go_enter func203,ntmps203;go_wp2_with (go_at_call 206;go_must(refine mh p.id 0 HK.O _ _ ?_))
 try go_ret2
 exact HR.O none 0 _ (bO _ _ _ _) cM.O
theorem adl(d:Value)(p:Pr)(aw3:List UInt8)(ok:Bool)(hJ:jX p=(aw3,ok))(w:World)(h:PC w d p)(R:ak)
 (I:∀Y c w',w'.ownsRow w 5 1 (.slice Y aw3.length c) aw3.length (bv aw3)→Below w w w'→R (.returned (.tuple #[.slice Y aw3.length c,.bool ok])) w'):
 Calls prog 203 #[.agg (bL p d)] w R:=by
 rcases JS p.id with G|G|G|G|G|G|G|G
 ·exact aqz d p G aw3 ok hJ w h R I
 ·exact aqs d p G aw3 ok hJ w h R I
 ·exact aqt d p G aw3 ok hJ w h R I
 ·exact aqu d p G aw3 ok hJ w h R I
 ·exact aqv d p G aw3 ok hJ w h R I
 ·exact aqw d p G aw3 ok hJ w h R I
 ·exact aqx d p G aw3 ok hJ w h R I
 exact aqy d p G aw3 ok hJ w h R I
theorem aqA(h:sV p=false):p.id<1∨127<p.id∨(1≤p.id∧p.id≤127∧(jX p).2=false):=by
 unfold sV at h;by_cases h1:1≤p.id∧p.id≤127
 ·rw[eN h1,Bool.true_and] at h;exact .inr (.inr ⟨h1.1,h1.2,h⟩)
 omega
theorem aqB(h:sV p=true):1≤p.id∧p.id≤127∧jX p=(gx p,true):=by
 unfold sV at h;rw[Bool.and_eq_true,decide_eq_true_eq] at h;refine⟨h.1.1,h.1.2,?_⟩;rw[←aqe p,←h.2]
theorem aqC(awZ:World)(hK:K=awZ.heap.size)(hB:B≤K):(awZ.alloc (.cells #[] e)).ownsRow B e 1 (.slice (some ⟨K,0,none⟩) 0 0) 0 (bv []):=by
 subst hK;exact World.ownsRow_made awZ #[] 0 hB (by unfold maxLen;omega) (by simp)
theorem aqD{c:Nat}{a p:List UInt8}{x:UInt8}(h:w.ownsRow B 5 1 (.slice Y n c) n (bv a++bv [x]++bv p)):w.ownsRow B 5 1 (.slice Y (a++ [x]++p).length c) (a++ [x]++p).length (bv (a++ [x]++p)):=by
 have e1:bv a++bv [x]++bv p=bv (a++ [x]++p):=by simp[bv]
 rw[e1] at h;have h2:=(fO h).1;rw[h2] at h;exact h
theorem adm(x:UInt8)(i:Int)(hi:(x.toNat:Int)=i)(hK:K=w.heap.size):Rd (w.alloc (.cells #[.int .u8 i] e)) 1 (some ⟨K,0,none⟩) 1 (bv [x]):=by
 subst hK;subst hi;exact dO w #[.int .u8 (x.toNat:Int)] e 1 1 rfl
theorem L8(v:Value)(l:List Pr)(aw3:List UInt8)(ok:Bool)(h:vZ l=(aw3,ok))(ep:(l.flatMap bR).length≤90000000)(w:World)(hv:Ps w v l)(R:ak)
 (I:∀Y cc w',w'.ownsRow w 5 1 (.slice Y aw3.length cc) aw3.length (bv aw3)→Below w w w'→R (.returned (.tuple #[.slice Y aw3.length cc,.bool ok])) w'):
 Calls prog 176 #[v] w R:=by
 obtain⟨HR,HV,HH,AN⟩:=cF I hv h ep;obtain⟨va,vc,rfl,_,JT,_⟩:=_root_.id hv;have fb:l.all sV=false→(aw3= []∧ok=false):=by
  intro ha;unfold vZ at h;rw[if_neg (by rw[ha];simp)] at h;simp only[Prod.mk.injEq] at h;exact⟨h.1.symm,h.2.symm⟩
 have ly:=Z fb;clear I hv h ep fb;go_enter func176,ntmps176;go_wp2;go_loopg [4,5,6] l.length (fun gn L i _ wr=>∃(k:Nat)(B:List UInt8)(ba:av)(bc:Nat),k≤l.length∧gn=l.length - k∧i= .int .i64 k∧L= .slice ba B.length bc∧Hid ((l.take k).flatMap bR=B)∧Hid ((l.take k).all sV=true)∧B.length≤90000000∧Hid (wr.ownsRow w 5 1 (.slice ba B.length bc) B.length (bv B))∧Below w w wr)
 case atStart=>exact⟨0,[],none,0,bP _,by omega,rfl,rfl,Z rfl,Z rfl,by simp,Z (bO _ _ _ _),Below.refl _ _⟩
 case round=>
  obtain⟨k,B,ba,bc,G,rfl,rfl,rfl,HB,Hy,BQ,Dm,U⟩:=hrel;obtain⟨wo,rfl⟩:∃y,y=wr:=⟨_,rfl⟩
  by_cases au:k<l.length;rotate_left
  ·have bo:¬(k:Int)<(l.length:Int):=by omega
   have zn:l.flatMap bR=B:=by have:=HB.O;rwa [gy (by omega)] at this
   have j4:l.all sV=true:=by have:=Hy.O;rwa [gy (by omega)] at this
   have hh:=HH.O;unfold vZ at hh;rw[if_pos j4,zn] at hh;obtain⟨aw1,er,hV⟩:∃aw1 er,eE (B.length:Int)=(aw1,er):=⟨_,_,rfl⟩
   rw[hV] at hh;simp only[Prod.mk.injEq] at hh;obtain⟨hJ,eS⟩:=hh;obtain rfl:ok=(er==0):=by rw[←eS];by_cases h:er=0<;>simp[h]
   have Fi:=Z hV;have N':aw1.length≤4:=by have:=J_ (B.length:Int);rw[hV] at this;exact this
   have HJ:=Z hJ;clear HH ly zn j4 hV eS hJ;go_wp2_with (first
    |(go_at_call 204;go_must(refine Yz _ aw1 er Fi.O _ _ ?_);intro Ka Kb w5 fH aE;have bu:=aQ U aE;have kW:=Z (aR Dm.O aE);have uu:=aqC (B:=w5.heap.size) (e:=5) w5 rfl bj;have vC:Below w5 w5 (w5.alloc (.cells #[] 5)):=aD w5 _;obtain⟨s1,s2,se,nh,_,_,Ct⟩:=(fO fH).2.below vC;simp only[Value.slice.injEq] at se;obtain⟨rfl,-,rfl⟩:=se;clear fH aE)
    |(at_builtin;have adn:=uu;go_must(refine kU (by rfl) (.tmp 51) (.tmp 52) 22 (by rfl) w5 5 (.int .u8 0) 1 1 underlying22 Tryz.cP rfl (by decide) _ _ _ _ rfl adn _ _ _ _ rfl nh (fC _) Ct (by unfold maxLen;omega) (by omega) (by simp) ?_);intro Cv c7 w7 qQ fT;rw[zero_add] at qQ;have Cw:=bT vC fT (by simp) uu;obtain⟨s3,s4,se,aqE,_,_,R6⟩:=(fO kW.O).2.below Cw;simp only[Value.slice.injEq] at se;obtain⟨rfl,-,rfl⟩:=se;clear uu adn nh Ct fT)
    |(at_builtin;have aqF:=qQ;go_must(refine kU (by rfl) (.tmp 53) (.tmp 54) 22 (by rfl) w5 5 (.int .u8 0) 1 1 underlying22 Tryz.cP rfl (by decide) _ _ _ _ rfl aqF _ _ _ _ rfl aqE (fC _) R6 (by unfold maxLen;omega) (by omega) Cw.size ?_);intro D1 c8 w8 Cy eL;have tD:=bT Cw eL Cw.size qQ;have rh:=aQ bu tD;have tn:aw1.length+B.length=aw3.length:=(by rw[←HJ.O,aK]);have Qt:w8.ownsRow w 5 1 (.slice D1 aw3.length c8) aw3.length (bv aw3):=(by have e1:bv []++bv aw1++bv B=bv aw3:=(by rw[←HJ.O];simp[bv]);rw[e1,tn] at Cy;exact cm Cy bu.size);have aqG:=Z tn;clear Cy eL tn))
   try go_ret2
   have h9:=HR.O _ _ _ Qt rh;rw[←aqG.O] at h9;exact h9
  have bo:(k:Int)<(l.length:Int):=by omega
  obtain⟨EU,EV,ee,_,_,_,v4⟩:=HV.O;simp only[Value.slice.injEq] at ee;obtain⟨rfl,-,rfl⟩:=ee;obtain⟨vb,vo,rfl,v5⟩:=v4 (by omega);obtain⟨d0,U7,iJ⟩:=v5 k au;have oy:Hid (l.take (k+1)=l.take k++ [l[k]]):=Z (kF au);have ado:Hid (l[k]∈l):=Z (getElem_mem au);obtain⟨y,hy⟩:=ai (l[k]);rw[hy] at U7 iJ oy ado;obtain⟨p0,p1,p2,p3,p4⟩:=U7.below U;obtain⟨d1,d3,rfl,_⟩:=_root_.id iJ.hd;have tm:=Z iJ;have N0:Hid ((wo.alloc (.cells (eA y d1 d3) 147)).heap[wo.heap.size]? =some (.cells (eA y d1 d3) 147)):=Z (aH wo _);have vY:=U.alloc U.size (.cells (eA y d1 d3) 147);have uV:=Z (World.ownsRow.alloc Dm.O (.cells (eA y d1 d3) 147));clear v4 v5 hy iJ U7;obtain⟨q,hq⟩:=ai (sV y);cases q with
  |false=>
   have j4:l.all sV=false:=by
    cases ha:l.all sV with
    |false=>rfl
    |true=>rw[List.all_eq_true] at ha;have:=ha y ado.O;rw[hq] at this;cases this
   obtain⟨rfl,rfl⟩:=ly.O j4;clear j4;rcases aqA hq with h1|h1|⟨h1,h2,h3⟩
   ·clear hq;go_wp2
    try go_ret2
    exact HR.O none 0 _ (bO _ _ _ _) vY
   ·have h2:¬y.id<1:=by omega
    clear hq;go_wp2
    try go_ret2
    exact HR.O none 0 _ (bO _ _ _ _) vY
   have g1:¬y.id<1:=by omega
   have g2:¬127<y.id:=by omega
   obtain⟨⟨P,z⟩,hP⟩:∃r,jX y=r:=⟨_,rfl⟩
   rw[hP] at h3;simp only at h3;subst h3;have HP:=Z hP;clear hq hP;go_wp2_with (first
    |(at_builtin;have n0:=N0;have L9:=adm (w:=wo.alloc (.cells (eA y d1 d3) 147)) (e:=5) (K:=wo.heap.size+1) (b8 y.id) y.id (by rw[xB];omega) (by simp);have Cz:=World.ownsRow.alloc uV.O (.cells #[.int .u8 y.id] 5);go_must(refine kU (by rfl) (.tmp 29) (.tmp 33) 22 (by rfl) w 5 (.int .u8 0) 1 1 underlying22 Tryz.cP rfl (by decide) _ _ _ _ rfl Cz _ _ _ _ rfl L9 (fC _) (fun h=>by cases h) (by unfold maxLen;omega) (by omega) (aJ vY.size (by simp)) ?_);intro fS c6 w6 eo bI;have n6:=hZ bI (js (o':=Obj.cells #[.int .u8 y.id] 5) n0.O) (i_ (js (o':=Obj.cells #[.int .u8 y.id] 5) n0.O) Cz (by decide));obtain⟨gO,gP,gQ,gR,gT,gU,gV,gW,gX,gY⟩:=c5 n6;have fJ:=bT (vY.alloc vY.size (.cells #[.int .u8 y.id] 5)) bI (aJ vY.size (by simp)) Cz;have lH:=Z eo;clear eo bI Cz L9 n6 n0 N0)
    |(go_at_call 203;go_must(refine adl _ y P false HP.O _ (tm.O.below fJ) _ ?_);intro V X w7 qQ bp;have iz:=aQ fJ bp))
   try go_ret2
   exact HR.O none 0 _ (bO _ _ _ _) iz
  |true=>
   obtain⟨h1,h2,hP⟩:=aqB hq;have g1:¬y.id<1:=by omega
   have g2:¬127<y.id:=by omega
   obtain⟨P,wO⟩:=ai (gx y);rw[wO] at hP;have HP:=Z hP;have adp:bR y=b8 y.id::P:=by rw[aqf hq,wO]
   have Hr:(l.take (k+1)).flatMap bR=B++ [b8 y.id]++P:=by rw[oy.O,jZ,HB.O,List.flatMap_singleton,adp];simp
   have adq:(l.take (k+1)).all sV=true:=by rw[oy.O,List.all_append,Hy.O];simp[hq]
   have J':(B++ [b8 y.id]++P).length≤90000000:=by
    exact Zd
   have oR:=Z J';simp only[aK,List.length_singleton] at J';have ct:=Z Hr;have aqH:=Z adq;clear hq wO hP adp Hr adq;go_wp2_with (first
    |(at_builtin;have n0:=N0;have L9:=adm (w:=wo.alloc (.cells (eA y d1 d3) 147)) (e:=5) (K:=wo.heap.size+1) (b8 y.id) y.id (by rw[xB];omega) (by simp);have Cz:=World.ownsRow.alloc uV.O (.cells #[.int .u8 y.id] 5);go_must(refine kU (by rfl) (.tmp 29) (.tmp 33) 22 (by rfl) w 5 (.int .u8 0) 1 1 underlying22 Tryz.cP rfl (by decide) _ _ _ _ rfl Cz _ _ _ _ rfl L9 (fC _) (fun h=>by cases h) (by unfold maxLen;omega) (by omega) (aJ vY.size (by simp)) ?_);intro fS c6 w6 eo bI;have n6:=hZ bI (js (o':=Obj.cells #[.int .u8 y.id] 5) n0.O) (i_ (js (o':=Obj.cells #[.int .u8 y.id] 5) n0.O) Cz (by decide));obtain⟨gO,gP,gQ,gR,gT,gU,gV,gW,gX,gY⟩:=c5 n6;have fJ:=bT (vY.alloc vY.size (.cells #[.int .u8 y.id] 5)) bI (aJ vY.size (by simp)) Cz;have lH:=Z eo;clear eo bI Cz L9 n6 n0 N0)
    |(go_at_call 203;go_must(refine adl _ y P true HP.O _ (tm.O.below fJ) _ ?_);intro V X w7 qQ bp;have iz:=aQ fJ bp;have Gk:=aR lH.O bp;obtain⟨s3,s4,se,adr,_,_,ads⟩:=(fO qQ).2;simp only[Value.slice.injEq] at se;obtain⟨rfl,-,rfl⟩:=se;clear lH qQ bp)
    |(at_builtin;have gD:=Gk;go_must(refine kU (by rfl) (.tmp 42) (.tmp 43) 22 (by rfl) w 5 (.int .u8 0) 1 1 underlying22 Tryz.cP rfl (by decide) _ _ _ _ rfl gD _ _ _ _ rfl adr (fC _) ads (by unfold maxLen;omega) (by omega) iz.size ?_);intro D1 c8 w8 Cy eL;have rh:=bT iz eL iz.size Gk;have Qt:w8.ownsRow w 5 1 (.slice D1 (B++ [b8 y.id]++P).length c8) (B++ [b8 y.id]++P).length (bv (B++ [b8 y.id]++P)):=aqD Cy;have oi:=Z Qt;clear Cy eL Qt Gk gD adr ads iz))
   go_roundg (l.length - (k+1))
   case measure=>omega
   case rel=>exact⟨k+1,B++ [b8 y.id]++P,D1,c8,by omega,rfl,by go_num,by (simp;omega),ct,aqH,oR.O,oi,rh⟩
theorem aqI{b:List UInt8}{m:List Pr}{used:Int}{d:Nat}(h:lf wh b=(m,used,d)):∀p∈m,PB p:=by
 by_cases hd:d=0
 ·subst hd;obtain⟨_,_,_,_,_,_,_,_,_,h8,_⟩:=JQ h;exact fun p hp=>by
   obtain⟨g1,_,_,g4,g5⟩:=h8 p hp;exact g1.pb g4 g5
 have hm:m= []:=by
  unfold lf at h
  split at h
  ·simp only[Prod.mk.injEq] at h;exact h.1.symm
  split at h
  ·simp only[Prod.mk.injEq] at h;exact h.1.symm
  simp only[Prod.mk.injEq] at h
  omega
 subst hm;exact fun p hp=>by cases hp
theorem aqJ{aw3:List UInt8}(h:vZ l=(aw3,ok)):aw3.length≤(l.flatMap bR).length+4:=by
 unfold vZ at h
 split at h
 ·simp only[Prod.mk.injEq] at h;rw[←h.1,aK];have:=J_ ((l.flatMap bR).length:Int)
  omega
 simp only[Prod.mk.injEq] at h;rw[←h.1];simp
theorem aqK(wh:Int)(v:Value)(l:List Pr)(x:List UInt8)(c:Nat)(h:eO wh l=(x,c))(ep:(l.flatMap bR).length≤90000000)(w:World)(hv:Ps w v l)(hT:dy w)(R:ak)
 (I:∀Y cc w',w'.ownsRow w 5 1 (.slice Y x.length cc) x.length (bv x)→Below w w w'→R (.returned (.tuple #[.slice Y x.length cc,E c])) w'):
 Calls prog 159 #[E wh,v] w R:=by
 obtain⟨HR,HV,HT,AN⟩:=cF I hv hT ep;obtain⟨va,vc,rfl,_,JT,_⟩:=_root_.id hv;rw[←aqj] at h;unfold L3 at h;obtain⟨⟨aw3,ok⟩,hJ⟩:∃r,vZ l=r:=⟨_,rfl⟩
 have aqL:=aqJ hJ;rw[hJ] at h;simp only at h;have HJ:=Z hJ;have av8:aw3.length≤90000004:=by omega
 clear I hv hT ep hJ aqL;cases ok with
 |false=>
  rw[if_pos rfl] at h;simp only[Prod.mk.injEq] at h;obtain⟨rfl,rfl⟩:=h;go_enter func159,ntmps159;go_wp2_with (go_at_call 176;go_must(refine L8 _ l aw3 false HJ.O AN.O _ HV.O _ ?_);intro ja jc w1 cS aO)
  try go_ret2
  exact HR.O none 0 _ (bO _ _ _ _) aO
 |true=>
  rw[if_neg (by simp)] at h;obtain⟨⟨m,used,rc⟩,bQ⟩:∃r,lf wh aw3=r:=⟨_,rfl⟩
  rw[bQ] at h;have vE:=Z bQ;have jf:=Z (aqI bQ);clear bQ;by_cases Kc:rc=0;rotate_left
  ·have ajl:¬(rc:Int)=0:=by omega
   rw[if_neg (by simp[Kc])] at h;simp only[Prod.mk.injEq] at h;obtain⟨rfl,rfl⟩:=h;go_enter func159,ntmps159;go_wp2_with (first
    |(go_at_call 176;go_must(refine L8 _ l aw3 true HJ.O AN.O _ HV.O _ ?_);intro ja jc w1 cS aO;have vJ:=Z cS;clear cS)
    |(go_at_call 163;go_must(refine IN wh _ aw3 m used rc vE.O (by omega) _ (fO vJ.O).2 (HT.O.below aO) _ ?_);intro ma mc w2 CA aj;have bC:=aQ aO aj;clear CA aj))
   try go_ret2
   exact HR.O none 0 _ (bO _ _ _ _) bC
  subst Kc;by_cases rH:used=(aw3.length:Int)
  ·subst rH;obtain⟨sr,jT⟩:=ai (Bq l m);have AO:=Z jT;cases sr with
   |true=>
    have j3:l=m:=of_decide_eq_true jT;rw[if_pos (by rw[j3])] at h;simp only[Prod.mk.injEq] at h;obtain⟨rfl,rfl⟩:=h;clear jT j3;go_enter func159,ntmps159;go_wp2_with (first
     |(go_at_call 176;go_must(refine L8 _ l aw3 true HJ.O AN.O _ HV.O _ ?_);intro ja jc w1 cS aO;have vJ:=Z cS;clear cS)
     |(go_at_call 163;go_must(refine IN wh _ aw3 m _ 0 vE.O (by omega) _ (fO vJ.O).2 (HT.O.below aO) _ ?_);intro ma mc w2 CA aj;have bC:=aQ aO aj;have jH:=Z (aR vJ.O aj);have U8:=Z (CA.ps jf.O);clear CA aj)
     |(go_at_call 161;go_must(refine LO _ _ l m true AO.O _ (HV.O.below bC) U8.O _ ?_);intro w3 an;have dq:=aQ bC an;have iF:=Z (aR jH.O an)))
    try go_ret2
    exact HR.O _ _ _ iF.O dq
   |false=>
    have j3:l≠m:=of_decide_eq_false jT;rw[if_neg (by simp[Ne.symm j3])] at h;simp only[Prod.mk.injEq] at h;obtain⟨rfl,rfl⟩:=h;clear jT j3;go_enter func159,ntmps159;go_wp2_with (first
     |(go_at_call 176;go_must(refine L8 _ l aw3 true HJ.O AN.O _ HV.O _ ?_);intro ja jc w1 cS aO;have vJ:=Z cS;clear cS)
     |(go_at_call 163;go_must(refine IN wh _ aw3 m _ 0 vE.O (by omega) _ (fO vJ.O).2 (HT.O.below aO) _ ?_);intro ma mc w2 CA aj;have bC:=aQ aO aj;have U8:=Z (CA.ps jf.O);clear CA aj)
     |(go_at_call 161;go_must(refine LO _ _ l m false AO.O _ (HV.O.below bC) U8.O _ ?_);intro w3 an;have dq:=aQ bC an))
    try go_ret2
    exact HR.O none 0 _ (bO _ _ _ _) dq
  have bf:(used != (aw3.length:Int))=true:=by simp[rH]
  rw[if_neg (by simp[rH])] at h;simp only[Prod.mk.injEq] at h;obtain⟨rfl,rfl⟩:=h;go_enter func159,ntmps159;go_wp2_with (first
   |(go_at_call 176;go_must(refine L8 _ l aw3 true HJ.O AN.O _ HV.O _ ?_);intro ja jc w1 cS aO;have vJ:=Z cS;clear cS)
   |(go_at_call 163;go_must(refine IN wh _ aw3 m used 0 vE.O (by omega) _ (fO vJ.O).2 (HT.O.below aO) _ ?_);intro ma mc w2 CA aj;have bC:=aQ aO aj;clear CA aj))
  try go_ret2
  exact HR.O none 0 _ (bO _ _ _ _) bC
theorem adt{P:Prop}(h:P:=by
 have HM:=Z hm;clear I hm;cases b with
 |true=>
  have hw:IntKind.i64.wrap (q+4)=q+4:=by rw[IntKind.wrap_i64];omega
  have yY:IntKind.u8.wrap (q+4)=q+4:=by rw[IntKind.wrap_u8];omega
  have adu:q+4=m:=by have:=HM.O;rwa [if_pos rfl] at this
  have aqM:=Z adu;clear adu;go_enter func124,ntmps124;go_wp2;rw[aqM.O];exact HR.O
 |false=>
  have yY:IntKind.u8.wrap q=q:=by rw[IntKind.wrap_u8];omega
  obtain rfl:q=m:=by have:=HM.O;rwa [if_neg (by decide)] at this
  go_enter func124,ntmps124;go_wp2;exact HR.O):P:=h
