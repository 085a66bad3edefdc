/- A part of the proof of SessionReads; no conditions. -/
import Derived.Test.YtgimbocoamnkjaaGreatDoorM19
import Derived.Test.YtgimbocoamnkjaaGreatDoorM31
set_option maxRecDepth 100000
set_option maxHeartbeats 16000000
namespace Go.Proofs.YtgimbocoamnkjaaGreatDoor
open _root_.Go.Proofs.Tryz
open Nat (ne_of_gt)
open Go.RowKit
theorem af8{P:Prop}(h:P:=by
 have Jk:=Ai.O.cells.1;have Rq:=Ai.O.cells.2;obtain⟨bad,fb⟩:=ai c'.bad;rw[fb] at Jk;have ly:=Z fb;clear fb;cases bad with
 |true=>
  go_wp2_with fail;go_meet;rw[ly.O];exact Z (Ai.O.mark true)
 |false=>
  go_wp2_with fail;go_meet;rw[ly.O];exact Z (Ai.O.mark (!ok))):P:=h
theorem af9(b:List UInt8)(ep:b.length≤140000000)(v:Value)(w:World)(hv:Bs w v b)(hT:dy w)(E0:Nat→Prop)(hE:∀b,E0 b→b<w.heap.size)(R:ak)
 (lI:rdZ b=none→∀w',Below w w w'→R (.returned (.tuple #[.pointer none,E 200])) w')
 (MS:∀s,rdZ b=some s→∀S M w',SR w' M S s→(∀b,E0 b→M b)→(∀b,M b→E0 b∨w.heap.size≤b)→Below w w w'→R (.returned (.tuple #[zq S,E 0])) w'):
 Calls prog 13 #[v] w R:=by
 obtain⟨eR,WC,HT,HV,HE⟩:=jq lI MS hT hv hE;obtain⟨va,vc,rfl,_⟩:=id hv;obtain⟨cl,c1,k1⟩:∃T s,yz ⟨b,false⟩=(T,s):=⟨_,_,rfl⟩
 obtain⟨ex,c2,k2⟩:∃T s,aN 8 c1=(T,s):=⟨_,_,rfl⟩
 obtain⟨en,c3,k3⟩:∃T s,aN 8 c2=(T,s):=⟨_,_,rfl⟩
 obtain⟨on,c4,k4⟩:∃T s,aN 1 c3=(T,s):=⟨_,_,rfl⟩
 obtain⟨p0,tb⟩:=ai (I_ b);have e0:p0=({cZ cl with cI:=ex,ends:=en,ej:=on==1},⟨c4.b,c4.bad || I9 ex en⟩):=by
  rw[←tb];unfold I_;simp only[k1,k2,k3,k4]
 obtain⟨p1,F7⟩:=ai (mj pq p0);obtain⟨p2,m9⟩:=ai (mj pw p1);obtain⟨p3,sB⟩:=ai (mj qd p2);obtain⟨p4,JM⟩:=ai (mj ue p3);have aga:pS b=p4:=by unfold pS;rw[tb,F7,m9,sB,JM]
 have r0:fU p0.1:=by rw[e0];exact fU.start _ _ _ _
 have r1:=r0.al F7;have r2:=r1.arS m9;have r3:=r2.arT sB;have b1:Below w w (w.alloc (.cells #[.slice va b.length vc,.bool false] 106)):=aD _ _;have fL:CR w 106 w.heap.size ⟨b,false⟩ (w.alloc (.cells #[.slice va b.length vc,.bool false] 106)):=⟨⟨va,vc,aH _ _,hv⟩,b1,Nat.le_refl _,by simp only;omega⟩
 obtain⟨fP,K1,K2,K3,K4,Rr,wW,mU,uC,uK,dR,agb⟩:=Jp fL k1 k2 k3 k4 e0 F7 m9 sB JM aga r0;obtain⟨agc,agd,age⟩:=bX r1 r2 r3;have TA:Hid (p2.1.ag.length=0):=by rw[←m9,←F7,e0];exact arU _ _
 have atm:=Z (QA k2);have atn:=Z (QA k3);have fR:Hid True:=trivial;clear lI MS hT hv hE b1 fL k1 k2 k3 k4 e0 tb F7 m9 sB JM aga r0 r1 r2 r3;go_enter func13,ntmps13;go_upto_region 2 with fail
 generalize w.alloc (.cells #[.slice va b.length vc,.bool false] 106)=w1 at fP⊢;obtain⟨N,hN⟩:=ai w.heap.size;have kO:=Z hN;rw[hN] at fP⊢;have ato:Hid (∀b,(E0 b∨b=N)→b≤N):=Z (fun b U=>by
  rcases U with U|U
  ·have:=HE.O b U;omega
  omega)
 clear hN;go_upto_region 3 with(first
  |(go_at_call 44;go_must(refine aer N _ cl _ K1.O w _ fP.O HT.O _ ?_);intro w2 bM bD;have eT:=Z bM;clear bM bD)
  |(go_at_call 6;go_must(refine arv cl _ _ ?_);intro S M3 awE awF awG awH awI awJ awK w3 nN hM oT k_ an;have xp:Hid (RH w w3 (fun b=>E0 b∨b=N) N S (cZ cl) _):=Z (arQ eT.O an nN hM ato.O (.inr rfl) oT k_);clear nN hM oT k_ an))
 go_upto_region 4 with(first
  |(have hq:=fR;go_at_call 45;go_must(refine yA N 8 _ ex _ K2.O w _ xp.O.cr _ ?_);intro w4 fy cV;have oD:=Z (xp.O.cur fy cV);clear hq fR fy cV)
  |(go_at_call 45;go_must(refine yA N 8 _ en _ K3.O w _ oD.O.cr _ ?_);intro w5 pP gZ;have wS:=Z (oD.O.cur pP gZ);clear pP gZ))
 go_upto_region 5 with(first
  |(go_at_call 45;go_must(refine yA N 1 _ on _ K4.O w _ wS.O.cr _ ?_);intro w6 rP bI;have DY:=Z (wS.O.cur rP bI);clear rP bI)
  |(go_at_call 46;go_must(refine arO w _ _ N S (cZ cl) _ DY.O ex en _ p0.1 (by rw[Rr.O]) _ ?_);intro w7 fT;have I6:=Z fT;clear fT))
 have Jk:=I6.O.cells.1;have Rq:=I6.O.cells.2;obtain⟨bad,fb⟩:=ai c4.bad;rw[fb] at Jk;have ly:=Z fb;clear fb;go_cut [50] from 30 to 52 (fun _ wx=>wx=w7.setCell ⟨N,1,none⟩ (.bool p0.2.bad))
 case first=>
  have dQ:bad=true∨(bad=false∧ex<0)∨(bad=false∧¬ex<0∧ex > 4611686018427387904)∨(bad=false∧¬ex<0∧¬ex > 4611686018427387904∧en<0)∨(bad=false∧¬ex<0∧¬ex > 4611686018427387904∧¬en<0∧en > 4611686018427387904)∨(bad=false∧¬ex<0∧¬ex > 4611686018427387904∧¬en<0∧¬en > 4611686018427387904):=by
   cases bad
   ·simp only[Bool.false_eq_true,false_or,true_and]
    omega
   exact .inl rfl
  rcases dQ with rfl|⟨rfl,q1⟩|⟨rfl,q1,q2⟩|⟨rfl,q1,q2,q3⟩|⟨rfl,q1,q2,q3,q4⟩|⟨rfl,q1,q2,q3,q4⟩
  all_goals
   go_wp2_with fail;go_meet;rw[Rr.O];simp only[ly.O];unfold I9
   first
    |(simp only[*,decide_true,Bool.or_true,Bool.true_or,Bool.false_or];done)
    |(rw[dN (show¬ex<0 by omega),dN (show¬ex > 4611686018427387904 by omega),dN (show¬en<0 by omega),dN (show¬en > 4611686018427387904 by omega)];rfl)
 obtain rfl:=hcut;have eL:=I6.O.mark p0.2.bad;have e8:(⟨c4.b,p0.2.bad⟩:Cu)=p0.2:=by rw[Rr.O]
 rw[e8] at eL;generalize w7.setCell ⟨N,1,none⟩ (.bool p0.2.bad)=w8 at eL⊢;have zp:=Z eL;clear eL Jk Rq e8 xp oD wS DY I6 fP eT K1 K2 K3 K4 Rr ly atm atn;obtain⟨n1,d1,k1⟩:∃n d,aN 1 p0.2=(n,d):=⟨_,_,rfl⟩
 obtain⟨m1,rfl,fR⟩:=kS (by decide) k1;have gJ:jC pq m1 (p0.1,d1)=p1:=by
  have:=wW.O;unfold mj at this;rw[k1] at this;exact this
 have K1:=Z k1;have uZ:=Z gJ;obtain⟨q0,kr⟩:=ai ((p0.1,d1));rw[kr] at uZ;have mW:=Z kr;clear k1 gJ kr;go_wp2_with (first
  |(go_at_call 45;go_must(refine yA N 1 _ _ _ K1.O w _ zp.O.cr _ ?_);intro w9 lX bW;have Ap:=zp.O.cur lX bW;clear lX bW))
 have nR:Hid (RH w w9 (fun b=>E0 b∨b=N) N S q0.1 q0.2):=by rw[←mW.O];exact Ap
 have Aq:Hid (∀k,fU (jC pq k q0).1):=Z fun k=>Ah (f:=pq) (P:=fun _ (q:az×Cu)=>fU q.1) q0 (by rw[←mW.O];exact agb.O) (fun _ y (hy:fU y.1)=>hy.sub _) k;clear Ap zp;go_loopg [55] m1 (fun gn i wr=>∃k:Nat,k≤m1∧gn=m1 - k∧i= .int .i64 k∧Hid (RH w wr (fun b=>E0 b∨b=N) N S (jC pq k q0).1 (jC pq k q0).2))
 case atStart=>exact⟨0,bP _,by omega,rfl,nR⟩
 case round=>
  obtain⟨k,G,rfl,rfl,HG⟩:=hrel;obtain⟨wo,rfl⟩:∃x,x=wr:=⟨_,rfl⟩
  by_cases au:k<m1
  ·
   have bo:(k:Int)<(m1:Int):=by omega
   obtain⟨⟨s,c⟩,j'⟩:∃q,jC pq k q0=q:=⟨_,rfl⟩
   have qR:=Aq.O k;rw[j'] at HG qR;simp only at HG qR;obtain⟨x,c',F⟩:∃x c',xq c=(x,c'):=⟨_,_,rfl⟩
   obtain⟨s',fr,ok,cK⟩:∃s' a b,om s x=(s',a,b):=⟨_,_,_,rfl⟩
   have yo:Hid (jC pq (k+1) q0=(s',⟨c'.b,c'.bad || !ok⟩)):=by
    show pq (jC pq k q0)=_;rw[j'];unfold pq;simp only[F,cK]
   obtain⟨HX,HS,GN⟩:=bX F cK qR;clear j' F cK qR nR;go_upto_block 1 with fail
   go_cut [57] from 57 to 74 (fun _ wx=>Hid (RH w wx (fun b=>E0 b∨b=N) N S s' ⟨c'.b,c'.bad || !ok⟩))
   case first=>
    go_upto_region 9 with(first
     |(go_at_call 48;go_must(refine arH N _ x _ HX.O w _ HG.O.cr HT.O _ ?_);intro df jk eU;have GO:=Z (HG.O.cur jk eU);clear jk eU)
     |(go_at_call 47;go_must(refine arN w _ _ N S s _ GO.O x s' fr ok HS.O GN.O.ss (aJ GN.O.sn (by decide)) _ ?_);intro du fN;have Ai:=Z fN;clear fN))
    exact af8
   have Cj:=hcut;go_wp2;go_roundg (m1 - (k+1))
   case measure=>omega
   case rel=>exact⟨k+1,by omega,rfl,by go_num,by rw[yo.O];exact Cj⟩
  have GP:k=m1:=by omega
  subst GP;have bo:¬(k:Int)<(k:Int):=by omega
  rw[uZ.O] at HG;clear nR Aq uZ mW wW agb;obtain⟨n1,d1,k1⟩:∃n d,aN 1 p1.2=(n,d):=⟨_,_,rfl⟩
  obtain⟨m2,rfl,fR⟩:=kS (by decide) k1;have gJ:jC pw m2 (p1.1,d1)=p2:=by
   have:=mU.O;unfold mj at this;rw[k1] at this;exact this
  have K1:=Z k1;have uZ:=Z gJ;obtain⟨q0,kr⟩:=ai ((p1.1,d1));rw[kr] at uZ;have mW:=Z kr;clear k1 gJ kr;go_wp2_with (first
   |(go_at_call 45;go_must(refine yA N 1 _ _ _ K1.O w _ HG.O.cr _ ?_);intro w9 lX bW;have Ap:=HG.O.cur lX bW;clear lX bW))
  have nR:Hid (RH w w9 (fun b=>E0 b∨b=N) N S q0.1 q0.2):=by rw[←mW.O];exact Ap
  have Aq:Hid (∀k,fU (jC pw k q0).1):=Z fun k=>Ah (f:=pw) (P:=fun _ (q:az×Cu)=>fU q.1) q0 (by rw[←mW.O];exact agc.O) (fun _ y (hy:fU y.1)=>hy.push _) k;clear Ap HG;go_loopg [78] m2 (fun gn i wr=>∃k:Nat,k≤m2∧gn=m2 - k∧i= .int .i64 k∧Hid (RH w wr (fun b=>E0 b∨b=N) N S (jC pw k q0).1 (jC pw k q0).2))
  case atStart=>exact⟨0,bP _,by omega,rfl,nR⟩
  case round=>
   clear G au bo;obtain⟨k,G,rfl,rfl,HG⟩:=hrel;obtain⟨wo,rfl⟩:∃x,x=wr:=⟨_,rfl⟩
   by_cases au:k<m2
   ·
    have bo:(k:Int)<(m2:Int):=by omega
    obtain⟨⟨s,c⟩,j'⟩:∃q,jC pw k q0=q:=⟨_,rfl⟩
    have qR:=Aq.O k;rw[j'] at HG qR;simp only at HG qR;obtain⟨x,c',F⟩:∃x c',itemS c=(x,c'):=⟨_,_,rfl⟩
    obtain⟨s',ok,cK⟩:∃s' b,kk s x=(s',b):=⟨_,_,rfl⟩
    have yo:Hid (jC pw (k+1) q0=(s',⟨c'.b,!ok || c'.bad⟩)):=by
     show pw (jC pw k q0)=_;rw[j'];unfold pw;simp only[F,cK]
    obtain⟨HX,HS,GN⟩:=bX F cK qR;clear j' F cK qR nR;go_upto_block 3 with fail
    go_cut [91] from 80 to 93 (fun _ wx=>Hid (RH w wx (fun b=>E0 b∨b=N) N S s' ⟨c'.b,!ok || c'.bad⟩))
    case first=>
     cases ok with
     |true=>
      go_wp2_with (first
       |(go_at_call 49;go_must(refine VK N _ x _ HX.O w _ HG.O.cr HT.O _ ?_);intro da dc V X ia ic df rW jk eU;have uH:=Z rW;have GO:=Z (HG.O.cur jk eU);clear rW jk eU)
       |(go_at_call 8;go_must(refine aey w _ _ N S s _ GO.O x _ _ _ (aJ GN.O.qn (by decide)) (uH.O.c (I7 HX.O)) (I7 HX.O) s' _ HS.O _ ?_);intro du fN;have Ai:=Z fN;have Jk:=fN.cells.1;have Rq:=fN.cells.2;clear fN))
      go_meet;exact Z (Ai.O.mark (c'.bad))
     |false=>
      go_wp2_with (first
       |(go_at_call 49;go_must(refine VK N _ x _ HX.O w _ HG.O.cr HT.O _ ?_);intro da dc V X ia ic df rW jk eU;have uH:=Z rW;have GO:=Z (HG.O.cur jk eU);clear rW jk eU)
       |(go_at_call 8;go_must(refine aey w _ _ N S s _ GO.O x _ _ _ (aJ GN.O.qn (by decide)) (uH.O.c (I7 HX.O)) (I7 HX.O) s' _ HS.O _ ?_);intro du fN;have Ai:=Z fN;have Jk:=fN.cells.1;have Rq:=fN.cells.2;clear fN))
      go_meet;exact Z (Ai.O.mark (true))
    have Cj:=hcut;go_wp2;go_roundg (m2 - (k+1))
    case measure=>omega
    case rel=>exact⟨k+1,by omega,rfl,by go_num,by rw[yo.O];exact Cj⟩
   have GP:k=m2:=by omega
   subst GP;have bo:¬(k:Int)<(k:Int):=by omega
   rw[uZ.O] at HG;clear nR Aq uZ mW mU agc;obtain⟨n1,d1,k1⟩:∃n d,aN 1 p2.2=(n,d):=⟨_,_,rfl⟩
   obtain⟨m3,rfl,fR⟩:=kS (by decide) k1;have gJ:jC qd m3 (p2.1,d1)=p3:=by
    have:=uC.O;unfold mj at this;rw[k1] at this;exact this
   have K1:=Z k1;have uZ:=Z gJ;obtain⟨q0,kr⟩:=ai ((p2.1,d1));rw[kr] at uZ;have mW:=Z kr;clear k1 gJ kr;go_wp2_with (first
    |(go_at_call 45;go_must(refine yA N 1 _ _ _ K1.O w _ HG.O.cr _ ?_);intro w9 lX bW;have Ap:=HG.O.cur lX bW;clear lX bW))
   have nR:Hid (RH w w9 (fun b=>E0 b∨b=N) N S q0.1 q0.2):=by rw[←mW.O];exact Ap
   have Aq:Hid (∀k,fU (jC qd k q0).1∧(jC qd k q0).1.ag.length≤p2.1.ag.length+k):=Z fun k=>Ah (f:=qd) (P:=fun k (q:az×Cu)=>fU q.1∧q.1.ag.length≤p2.1.ag.length+k) q0 (by rw[←mW.O];exact⟨agd.O,Nat.le_refl _⟩) (fun k y hy=>⟨hy.1.mP _,by unfold qd;simp only[aK,ey,gi];omega⟩) k;have awL:=TA.O;have lP:m3<256:=fR;clear Ap HG;go_loopg [97] m3 (fun gn i wr=>∃k:Nat,k≤m3∧gn=m3 - k∧i= .int .i64 k∧Hid (RH w wr (fun b=>E0 b∨b=N) N S (jC qd k q0).1 (jC qd k q0).2))
   case atStart=>exact⟨0,bP _,by omega,rfl,nR⟩
   case round=>
    clear G au bo;obtain⟨k,G,rfl,rfl,HG⟩:=hrel;obtain⟨wo,rfl⟩:∃x,x=wr:=⟨_,rfl⟩
    by_cases au:k<m3
    ·
     have bo:(k:Int)<(m3:Int):=by omega
     obtain⟨⟨s,c⟩,j'⟩:∃q,jC qd k q0=q:=⟨_,rfl⟩
     obtain⟨qR,qH⟩:=Aq.O k;rw[j'] at HG qR qH;simp only at HG qR qH;obtain⟨f,c',F⟩:∃x c',flightC c=(x,c'):=⟨_,_,rfl⟩
     obtain⟨l',ok,cK⟩:∃s' b,nX s.bJ f.id=(s',b):=⟨_,_,rfl⟩
     have yo:Hid (jC qd (k+1) q0=({s with bJ:=l',ag:=s.ag++ [f]},⟨c'.b,!ok || c'.bad⟩)):=by
      show qd (jC qd k q0)=_;rw[j'];unfold qd;simp only[F,cK]
     obtain⟨tM,agf⟩:=arV F;obtain⟨HX,HH,Kz,Ja⟩:=cF F cK tM agf;obtain⟨nf,pf⟩:=ai s.ag.length;have pT:=Z pf;have lO:s.bJ.length≤100000:=by have:=qR.nn;omega
     have zt:=Z lO;have awM:nf≤1000:=by omega
     obtain⟨M,NB,MB,GB,GM,sv,qv,fv,ud⟩:=HG.O.ex;have agh:=Z ud;clear j' F cK qR nR qH tM agf pf lO ud;go_upto_block 5 with fail
     go_cut [116] from 99 to 128 (fun _ wx=>Hid (RH w wx (fun b=>E0 b∨b=N) N S {s with bJ:=l',ag:=s.ag++ [f]} ⟨c'.b,!ok || c'.bad⟩))
     case first=>
      obtain⟨id,state,x⟩:=f;simp only at Kz Ja HH;go_upto_region 18 with(first
       |(go_at_call 50;go_must(refine arL N _ ⟨id,state,x⟩ _ HX.O w _ HG.O.cr HT.O _ ?_);intro da dc V X ia ic cY rW Dv BZ;have vS:Hid (dk cY M (.slice da x.note.ay.length dc,.slice V x.note.props.length X,.slice ia x.ids.length ic) x):=Z ⟨(rW.wr agh.O.F.lt).imp fun y hy=>hy.c Kz.O,Kz.O⟩;have agi:=Z (agh.O.cur (Or.inr rfl) BZ HG.O.cr.kind);have MR:=Z Dv;clear rW Dv BZ))
      have Em:=aH cY (.cells (cA id state x da dc V X ia ic) 51);have M_:=aD cY (.cells (cA id state x da dc V X ia ic) 51);have W4:∀b,M b→b<cY.heap.size:=agi.O.F.lt;have W5:=MR.O.lt;generalize cY.alloc (.cells (cA id state x da dc V X ia ic) 51)=mD at Em M_⊢;obtain⟨T,cQ⟩:=ai cY.heap.size;have Jl:=Z (agi.O.below M_);have agj:=Z (MR.O.below M_);have agk:=Z (vS.O.sep (.cL M_));rw[cQ] at Em W4 W5⊢;have MV:=Z Em;have agl:Hid (∀b,M b→T≠b):=fun b U=>by have h1:=W4 b U;omega
      have eM:Hid (T≠N):=ne_of_gt W5;have awN:Hid (S≠N):=ne_of_gt Jl.O.s1;have CM:=bq mD;have Eo:=Jl.O.below CM;have Jm:=agj.O.below CM;have W6:=agk.O.sep (.cL CM);have Rs:=aA MV.O CM;obtain⟨awO,awP,Rt,_⟩:=Jm.row;obtain⟨bad,fb⟩:=ai c'.bad;rw[fb] at Rt;have ly:=Z fb;have W7:=And.intro (ef Eo.F.hS).1.1 (And.intro (oP mD.drew T 0 _ _ _ Rs) (And.intro (oP mD.drew N 1 _ _ _ Rt) (aC Rt 1)));clear CM Rt Em M_ cQ W4 W5 fb;go_cut [] from 101 to 118 (fun wx=>Hid (CR w 106 N ⟨c'.b,!ok || c'.bad⟩ wx)∧Hid (sW wx (fun b=>E0 b∨b=N) N S M NB MB GB GM sv qv fv {s with bJ:=l'})∧Hid (dk wx M (.slice da x.note.ay.length dc,.slice V x.note.props.length X,.slice ia x.ids.length ic) x)∧Hid (wx.heap[T]? =some (.cells (cA id state x da dc V X ia ic) 51)))
      case first=>
       cases ok with
       |true=>
        go_region_held3 (fun x=>x.cell? ⟨S,0,none⟩=some (.pointer (some ⟨NB,0,none⟩))∧x.cell? ⟨T,0,none⟩=some (.int .i64 id)∧x.cell? ⟨N,1,none⟩=some (.bool bad)∧x.frozen? ⟨N,1,none⟩=false)
         (first|with_reducible exact W7|with_reducible exact W8|with_reducible exact xn|go_keep)
         (first
          |(go_at_call 51;refine V1 NB MB _ id Ja.O zt.O l' true HH.O _ Eo.F.hn _ ?_;intro rM W9 CK;obtain⟨GQ,W_,GR⟩:=Eo.hold Jm.lt CK W9 (s':={s with bJ:=l'}) rfl;have Bk:=Jm.over GR;have Xa:=W6.sep W_;have Bl:=dI CK Rs (agl.O MB Eo.F.mN);obtain⟨atp,atq,GS,_⟩:=Bk.row;rw[ly.O] at GS;have W8:=And.intro (ef GQ.F.hS).1.1 (And.intro (D 0 Bl) (And.intro (D 1 GS) (aC GS 1)));have jA:=br rM ⟨N,1,none⟩ (.bool bad);have Na:=GQ.cur (Or.inr rfl) jA Bk.kind;have Nb:=CR.mark (x:=c'.bad) Bk bad;have Xb:=Xa.sep (.kV jA (fun j hj=>by cases hj;exact GQ.em N (Or.inr rfl)));have Nc:=dI jA Bl eM.O;obtain⟨atr,ats,Nd,_⟩:=Nb.row;have xn:=And.intro (ef Na.F.hS).1.1 (And.intro (D 0 Nc) (And.intro (D 1 Nd) (aC Nd 1)))))
        all_goals
         go_wp2_with fail;go_meet;rw[ly.O];exact⟨Z Nb,Z Na,Z Xb,Z Nc⟩
       |false=>
        obtain⟨a1,a2,a3,a4⟩:=W7
        first
         |go_region_law (first|(go_simp;(go_at_call 51;refine V1 NB MB _ id Ja.O zt.O l' false HH.O _ Eo.F.hn _ ?_;intro rM W9 CK;obtain⟨GQ,W_,GR⟩:=Eo.hold Jm.lt CK W9 (s':={s with bJ:=l'}) rfl;have Bk:=Jm.over GR;have Xa:=W6.sep W_;have Bl:=dI CK Rs (agl.O MB Eo.F.mN);obtain⟨atp,atq,GS,_⟩:=Bk.row;rw[ly.O] at GS;have W8:=And.intro (ef GQ.F.hS).1.1 (And.intro (D 0 Bl) (And.intro (D 1 GS) (aC GS 1)));have jA:=br rM ⟨N,1,none⟩ (.bool true);have Na:=GQ.cur (Or.inr rfl) jA Bk.kind;have Nb:=CR.mark (x:=c'.bad) Bk true;have Xb:=Xa.sep (.kV jA (fun j hj=>by cases hj;exact GQ.em N (Or.inr rfl)));have Nc:=dI jA Bl eM.O;obtain⟨atr,ats,Nd,_⟩:=Nb.row;have xn:=And.intro (ef Na.F.hS).1.1 (And.intro (D 0 Nc) (And.intro (D 1 Nd) (aC Nd 1))));obtain⟨b1,b2,b3,b4⟩:=W8))
         |fail
        all_goals
         go_wp2_with fail;go_meet;exact⟨Z Nb,Z Na,Z Xb,Z Nc⟩
      obtain⟨att,atu,atv,MW⟩:=hcut;obtain⟨oF,rfl⟩:∃x,x=wc:=⟨_,rfl⟩
      clear Jl agj agk MV Eo Jm W6 Rs W7 ly;go_upto_region 19 with fail
      have Nf:=bq oF;have Xc:=atu.O.below Nf;have agm:=aA MW.O Nf;have di:Below oF.drew.heap.size oF.drew (oF.drew.alloc (.cells (cA id state x da dc V X ia ic) 51)):=aD _ _;have ff:=Z (Xc.below di);have nw:=Z ((att.O.below Nf).below di);have pR:=Z ((atv.O.sep (.cL Nf)).sep (.cL di));obtain⟨gf,jM,fz,lz,_⟩:=ff.O.F.hf;simp only at jM fz;rw[pT.O] at fz;obtain⟨fa,fc,oV⟩:=cR fz;subst oV;obtain⟨oY,wT,vK⟩:=bX fz jM lz;have c7:oF.drew.cell? ⟨S,7,none⟩=some (.slice fa nf fc):=by have:=(ef Xc.F.hS).2.2.2.1;simpa only[pT.O] using this
      have Fp:(oF.alloc (.cells (cA id state x da dc V X ia ic) 51)).drew.cell? ⟨S,7,none⟩=some (.slice fa nf fc):=cell_later di c7;obtain⟨t0,t1,t2,t3,t4,t5,t6,t7,t8,t9,t10,t11,t12,t13,t14,t15⟩:=jU agm;clear Xc agm jM fz lz Nf di;go_region_law (first
       |refine ig (by rfl) (.tmp 123) (.tmp 125) 48 (by rfl) 0 51 (Value.agg mo) 16 200 underlying48 yS rfl (by decide) fa nf fc _ (by rfl) oY.O (some ⟨oF,0,none⟩) 1 1 (cA id state x da dc V X ia ic) (by rfl) (dO oF.drew (cA id state x da dc V X ia ic) 51 16 1 rfl) (KA _ _ _ _ _ _ _) (fun h=>by cases h) (by unfold maxLen;omega) (by omega) (bP _) ?_;intro fS wU w6 ky bI B2;have r6:=hZ bI ff.O.F.hS (i_ ff.O.F.hS oY.O (by decide));have e7:=(ef r6).2.2.2.1;have f7:=aC r6 7)
      all_goals
       obtain⟨⟨M7,iz⟩,bp⟩:=ff.O.mP (fs:=s.ag++ [⟨id,state,x⟩]) (ps:=gf++ [((.slice da x.note.ay.length dc,.slice V x.note.props.length X,.slice ia x.ids.length ic),⟨id,state,x⟩)]) nw.O.lt (by rw[nv,wT.O];rfl) (fun p hp=>by
        rcases ez.1 hp with hp|hp
        ·exact vK.O p hp
        ·obtain rfl:=dM.1 hp;exact pR.O) (by
        have e:(s.ag++ [(⟨id,state,x⟩:Fl)]).length=nf+1:=by rw[aK,pT.O];rfl
        rw[e,jZ]
        simpa [bV,dX] using ky) bI B2 rfl
       have atw:Hid (RH w _ (fun b=>E0 b∨b=N) N S {s with bJ:=l',ag:=s.ag++ [⟨id,state,x⟩]} ⟨c'.b,!ok || c'.bad⟩):=Z ⟨nw.O.over bp,.inr rfl,_,_,_,_,_,_,_,_,iz⟩;clear iz bp ky bI B2 r6 t0 t1 t2 t3 t4 t5 t6 t7 t8 t9 t10 t11 t12 t13 t14 t15;go_wp2_with fail;go_meet;exact atw
     have Cj:=hcut;go_wp2;go_roundg (m3 - (k+1))
     case measure=>omega
     case rel=>exact⟨k+1,by omega,rfl,by go_num,by rw[yo.O];exact Cj⟩
    have GP:k=m3:=by omega
    subst GP;have bo:¬(k:Int)<(k:Int):=by omega
    rw[uZ.O] at HG;clear nR Aq uZ mW uC agd;obtain⟨n1,d1,k1⟩:∃n d,aN 1 p3.2=(n,d):=⟨_,_,rfl⟩
    obtain⟨m4,rfl,fR⟩:=kS (by decide) k1;have gJ:jC ue m4 (p3.1,d1)=p4:=by
     have:=uK.O;unfold mj at this;rw[k1] at this;exact this
    have K1:=Z k1;have uZ:=Z gJ;obtain⟨q0,kr⟩:=ai ((p3.1,d1));rw[kr] at uZ;have mW:=Z kr;clear k1 gJ kr;go_wp2_with (first
     |(go_at_call 45;go_must(refine yA N 1 _ _ _ K1.O w _ HG.O.cr _ ?_);intro w9 lX bW;have Ap:=HG.O.cur lX bW;clear lX bW))
    have nR:Hid (RH w w9 (fun b=>E0 b∨b=N) N S q0.1 q0.2):=by rw[←mW.O];exact Ap
    have Aq:Hid (∀k,fU (jC ue k q0).1):=Z fun k=>Ah (f:=ue) (P:=fun _ (q:az×Cu)=>fU q.1) q0 (by rw[←mW.O];exact age.O) (fun _ y (hy:fU y.1)=>hy.MA _) k;clear Ap HG;go_loopg [132] m4 (fun gn i wr=>∃k:Nat,k≤m4∧gn=m4 - k∧i= .int .i64 k∧Hid (RH w wr (fun b=>E0 b∨b=N) N S (jC ue k q0).1 (jC ue k q0).2))
    case atStart=>exact⟨0,bP _,by omega,rfl,nR⟩
    case round=>
     clear G au bo;obtain⟨k,G,rfl,rfl,HG⟩:=hrel;obtain⟨wo,rfl⟩:∃x,x=wr:=⟨_,rfl⟩
     by_cases au:k<m4
     ·have bo:(k:Int)<(m4:Int):=by omega
      obtain⟨⟨s,c⟩,j'⟩:∃q,jC ue k q0=q:=⟨_,rfl⟩
      have qR:=Aq.O k;rw[j'] at HG qR;simp only at HG qR;obtain⟨x,c',F⟩:∃x c',aN 2 c=(x,c'):=⟨_,_,rfl⟩
      obtain⟨s',fr,ok,cK⟩:∃s' a b,pU s x=(s',a,b):=⟨_,_,_,rfl⟩
      have yo:Hid (jC ue (k+1) q0=(s',⟨c'.b,c'.bad || !ok⟩)):=by
       show ue (jC ue k q0)=_;rw[j'];unfold ue;simp only[F,cK]
      obtain⟨HX,HS,GN⟩:=bX F cK qR;clear j' F cK qR nR;go_upto_block 7 with fail
      go_cut [134] from 134 to 151 (fun _ wx=>Hid (RH w wx (fun b=>E0 b∨b=N) N S s' ⟨c'.b,c'.bad || !ok⟩))
      case first=>
       go_upto_region 24 with(first
        |(go_at_call 45;go_must(refine yA N 2 _ x _ HX.O w _ HG.O.cr _ ?_);intro df jk eU;have GO:=Z (HG.O.cur jk eU);clear jk eU)
        |(go_at_call 52;go_must(refine arP w _ _ N S s _ GO.O x (QA HX.O) s' fr ok HS.O GN.O.gn _ ?_);intro du fN;have Ai:=Z fN;clear fN))
       exact af8
      have Cj:=hcut;go_wp2;go_roundg (m4 - (k+1))
      case measure=>omega
      case rel=>exact⟨k+1,by omega,rfl,by go_num,by rw[yo.O];exact Cj⟩
     have GP:k=m4:=by omega
     subst GP;have bo:¬(k:Int)<(k:Int):=by omega
     rw[uZ.O] at HG;clear nR Aq uZ mW uK age;obtain⟨s,⟨left,bad⟩⟩:=p4;simp only at HG;obtain⟨M,jT,agn,ago⟩:=HG.O.sr;obtain⟨la,lc,yZ,_⟩:=HG.O.cr.row;have c1:wo.cell? ⟨N,1,none⟩=some (.bool bad):=D 1 yZ;have c0:wo.cell? ⟨N,0,none⟩=some (.slice la left.length lc):=D 0 yZ;obtain⟨AO,atx,Rn⟩:=bX jT agn ago;have rX:=Z HG.O.cr.low;clear HG jT agn ago yZ;cases bad with
     |true=>
      go_wp2;exact eR.O (V2 dR.O (fun h=>by cases h.1)) _ rX.O
     |false=>
     by_cases hl:left= []
     ·subst hl;have eS:=aeM dR.O rfl;obtain⟨aw0,hY⟩:=ai (kP s);obtain⟨g,A⟩:∃g:Bool,(aw0==b)=g:=⟨_,rfl⟩
      obtain⟨lC,Xd,xJ⟩:=bX eS hY A;clear eS hY A;go_wp2_with (first
       |(go_at_call 14;go_must(refine aeW S s lC.O _ M AO.O (HT.O.below rX.O) aw0 Xd.O _ ?_);intro ya yc awQ agp Xe;have aty:=Z (b_ agp);have atz:=Z (AO.O.below Xe);have Xf:=Z (aQ rX.O Xe);clear agp Xe)
       |(go_at_call 53;go_must(refine Dy _ _ aw0 b _ aty.O (HV.O.below Xf.O) _ ?_);rw[xJ.O];cases g))
      ·exact eR.O (V2 dR.O (fun h=>by have:=xJ.O;rw[←Xd.O,h.2.2] at this;simp at this)) _ Xf.O
      ·exact WC.O s (ar4 dR.O rfl (by rw[Xd.O];exact eq_of_beq xJ.O)) S M _ atz.O (fun b U=>atx.O b (.inl U)) (fun b U=>by
        have h1:=kO.O;rcases Rn.O b U with(h2|h2)|h2
        ·exact .inl h2
        ·exact .inr (by omega)
        exact .inr (by omega)) Xf.O
     have ox:(0:Int)<(left.length:Int):=by
      have:=List.length_pos_iff.2 hl
      omega
     go_wp2;exact eR.O (V2 dR.O (fun h=>hl h.2.1)) _ rX.O
