/- A part of the proof of SessionPlays, printed small; no conditions of its own. -/
import Derived.Test.YtgimbocoamnkjaaGreatDoorM14
import Derived.Deep.CutBlock
set_option maxRecDepth 100000
set_option maxHeartbeats 16000000
namespace Go.Proofs.YtgimbocoamnkjaaGreatDoor
open _root_.Go.Proofs.Tryz
variable{T t:Nat}{fr:Nat×Nat}{ad:Option Addr}{a d f:Value}{w:World}
open Go.RowKit
def dS(x:Sb):List UInt8:=(b5 x.filter).1++ [b8 (x.al+(if x.lE then 4 else 0)+(if x.lF then 8 else 0)+x.jx*16)]++aR (bj x.id) 4
def eW(x:Im):List UInt8:=(cS (jf x)).1
def gE(f:Fl):List UInt8:=aR (bj f.id) 2++ [b8 f.state]++(cS (jf f.item)).1
def kN(n:Int):List UInt8:=aR (bj n) 2
def Fm(dC:List UInt8)(cP ends:Int)(eB:Bool)(n:Nat):List UInt8:=(b5 dC).1++aR (bj cP) 8++aR (bj ends) 8++ [b8 (if eB then 1 else 0)]++ [b8 (n:Int)]
def r8(s:aF):List UInt8:=
 Fm s.dC s.cP s.ends s.eB s.ay.length++s.ay.flatMap dS++ [b8 (s.queue.length:Int)]++s.queue.flatMap eW++ [b8 (s.aj.length:Int)]++s.aj.flatMap gE++ [b8 (s.aH.length:Int)]++(bE s.aH).flatMap kN
theorem Bx{α:Type}(f:α→List UInt8)(l:List α)(k:Nat):((l.take k).flatMap f).length≤(l.flatMap f).length:=by
 conv=>rhs;rw [←List.take_append_drop k l,List.flatMap_append,List.length_append]
 omega
theorem By{α:Type}(f:α→List UInt8)(l:List α)(k:Nat)(hk:k<l.length):(l.take (k+1)).flatMap f=(l.take k).flatMap f++f l[k]:=by
 rw [List.take_succ_eq_append_getElem hk,List.flatMap_append];simp
structure X_(x:Sb):Prop where
 q0:0≤x.al
 q1:x.al≤2
 h0:0≤x.jx
 h1:x.jx≤2
 f:x.filter.length≤65535
theorem Bz{b c e:Value}(h:w.heap[T]? =some (.cells #[a,b,c,d,e,f] t fr)):w.cell? ⟨T,1,none⟩=some b∧w.cell? ⟨T,2,none⟩=some c∧w.cell? ⟨T,3,none⟩=some d∧w.cell? ⟨T,4,none⟩=some e∧w.cell? ⟨T,5,none⟩=some f:=
 ⟨af w T 1 _ _ _ h,af w T 2 _ _ _ h,af w T 3 _ _ _ h,af w T 4 _ _ _ h,af w T 5 _ _ _ h⟩
structure LB(w wr:World)(v:Value)(P:List UInt8):Prop where
 own:wr.ownsRow w 5 1 v P.length (bv P)
 low:Below w w wr
theorem LB.byte{w9:World}{c:Nat}{P:List UInt8}{n:Int}(ho:w9.ownsRow w 5 1 (.slice ad (P.length+1) c) (P.length+1) (bv P++ [Value.int .u8 (IntKind.u8.wrap n)]))(hb:Below w w w9):LB w w9 (.slice ad (P++ [b8 n]).length c) (P++ [b8 n]):=by
 rw [wu] at ho;refine ⟨?_,hb⟩;rw [List.length_append,oK];exact ho
theorem LB.list{w9:World}{c:Nat}{P Q:List UInt8}(ho:w9.ownsRow w 5 1 (.slice ad (P.length+Q.length) c) (P.length+Q.length) (bv P++bv Q))(hb:Below w w w9):LB w w9 (.slice ad (P++Q).length c) (P++Q):=by
 refine ⟨?_,hb⟩;rw [List.length_append,oK];exact ho
theorem ahz(S:Nat)(s:aF)(j3:s.dC.length≤100000)(lN:∀x∈s.ay,X_ x)(hq:∀x∈s.queue,(eK x.note).length≤65535∧(jf x).length≤65535∧(x.note.props.flatMap bV).length≤65535∧x.ids.length≤255)(hf:∀f∈s.aj,(eK f.item.note).length≤65535∧(jf f.item).length≤65535∧(f.item.note.props.flatMap bV).length≤65535∧f.item.ids.length≤255)
 (hn:s.ay.length≤100000∧s.queue.length≤100000∧s.aj.length≤100000∧s.aH.length≤100000) (w:World) (M:Nat→Prop) (h:SR w M S s) (hT:di w)
 (Y:List UInt8) (hY:r8 s=Y) (je:Y.length≤140000000) (R:Ending→World→Prop)
 (hR:∀ad c w',w'.ownsRow w 5 1 (.slice ad Y.length c) Y.length (bv Y)→Below w w w'→R (.returned (.slice ad Y.length c)) w'):
 Calls prog 14 #[.pointer (some ⟨S,0,none⟩)] w R:=by
 have HR:=ab hR;have HT:=ab hT;have yp:=ab h;obtain ⟨dC,cP,ends,eB,ay,queue,aj,cj,aH⟩:=s;simp only at j3 lN hq hf hn;obtain ⟨NB,MB,GB,GM,sv,qv,fv,hx⟩:=h;obtain ⟨b9,t_⟩:=ai ay.length;have xp:=hx.hs;simp only at xp;rw [t_] at xp;obtain ⟨sa,sc,vY⟩:=bF xp;subst vY;have pI:=ab hx.hS;have Lq:=ab xp;have BA:=ab t_;have HX:=ab hx;have vg:=ab lN;have HQ:=ab hq;have HF:=ab hf;have HN:=ab hn;have c1:=(dy hx.hS).1.2.1;obtain ⟨⟨CC,ce⟩,BC⟩:∃q,b5 dC=q:=⟨_,rfl⟩
 obtain ⟨P1,xq⟩:=ai (aR (bj cP) 8);obtain ⟨P2,vE⟩:=ai (aR (bj ends) 8);obtain ⟨HH,Dm⟩:=ai (Fm dC cP ends eB b9);obtain ⟨ON,vF⟩:∃z:Int,(if eB then 1 else 0)=z:=⟨_,rfl⟩
 have Fo: [CC,P1,P2,[b8 ON],[b8 (b9:Int)]].flatten=HH:=by
  rw [←Dm];unfold Fm;simp only [BC,xq,vE,vF];simp
 have Dn:HH++ay.flatMap dS++ [b8 (queue.length:Int)]++queue.flatMap eW++ [b8 (aj.length:Int)]++aj.flatMap gE++ [b8 (aH.length:Int)]++(bE aH).flatMap kN=Y:=by
  rw [←hY,←Dm];unfold r8;simp only [t_]
 have Hp:HH.length+(ay.flatMap dS).length+(queue.flatMap eW).length+(aj.flatMap gE).length+((bE aH).flatMap kN).length+3=Y.length:=by
  rw [←Dn];simp only [List.length_append,List.length_cons,List.length_nil]
  omega
 have X':HH.length≤140000000:=by omega
 have zE:=ab vF;have yB:=ab BC;have yH:Hid (dE (bj cP) 8=P1):=by show _=_;rw [←xq];rfl
 have nh:Hid (dE (bj ends) 8=P2):=by show _=_;rw [←vE];rfl
 have Dp:=ab Fo;have wG:=ab Dn;have vv:=ab Hp;have mC:=ab je;have ahA:=ab X';have ahB:IntKind.u64.wrap cP=(bj cP:Int):=by have:=A1 cP;simpa using this
 have Ya:IntKind.u64.wrap ends=(bj ends:Int):=by have:=A1 ends;simpa using this
 clear vF hR hT hx BC xq vE Dm Fo X' xp t_ lN hq hf hn Dn Hp je hY;go_enter func14,ntmps14;go_wp2_with (first
  |(go_at_call 54;go_must (refine A0 dC CC ce yB.o_ _ (by omega) HT.o_ _ ?_);intro ta tc w2 gO ah;have ix:=ab (cp gO);have aY:=ab ah;have N2:=ab (aA pI.o_ ah);clear gO ah))
 have gA:Below w2 w2 w2.drew:=(Below.refl _ _).drew;have dh:=aA N2.o_ gA;have ef:=ix.o_.below gA;go_cut [5] from 17 to 168 (fun sb wx=>∃(ja:Option Addr)(jc:Nat),sb= .slice ja HH.length jc∧Hid (wx.ownsRow w 5 1 (.slice ja HH.length jc) HH.length (bv HH))∧Hid (Below w2 w2 wx))
 case first=>
  go_region_held3 (fun x=>x.cell? ⟨S,2,none⟩=some (.int .i64 cP)∧x.cell? ⟨S,3,none⟩=some (.int .i64 ends)∧x.cell? ⟨S,4,none⟩=some (.bool eB)∧x.cell? ⟨S,5,none⟩=some (.slice sa b9 sc))
   (first|with_reducible exact ES dh|with_reducible exact ES jF|with_reducible exact ES gZ|with_reducible exact ES dz|with_reducible exact ES iA|with_reducible exact ES jD|go_keep)
   (first
    |(have hq:=gA;go_at_call_of 56 (Value.int .u64 (bj cP:Int));refine wi (bj cP) (A2 _) 8 P1 yH.o_ _ _ ?_;intro aa ac w3 bD an;have h1:=cp bD;have j5:=ef.below an;have jF:=aA dh an;have js:=dw gA an;clear hq gA)
    |(go_at_call_of 56 (Value.int .u64 (bj ends:Int));refine wi (bj ends) (A2 _) 8 P2 nh.o_ _ _ ?_;intro ba bc w4 eh ak;have h2:=cp eh;replace h1:=h1.below ak;have iq:=j5.below ak;have gZ:=aA jF ak;have kZ:=dw js ak)
    |(go_at_call 58;refine OW eB 1 ON zE.o_ _ _ ?_)
    |(have hq:=kZ;go_at_call 57;refine J4 ON _ _ ?_;intro ca cc w5 ez aC;have h3:=cp ez;replace h1:=h1.below aC;replace h2:=h2.below aC;have qe:=iq.below aC;have dz:=aA gZ aC;have vr:=dw kZ aC;clear hq kZ)
    |(go_at_call 57;refine J4 (b9:Int) _ _ ?_;intro da dc w6 p7 bg;have h4:=cp p7;replace h1:=h1.below bg;replace h2:=h2.below bg;replace h3:=h3.below bg;have oC:=qe.below bg;have iA:=aA dz bg;have lD:=dw vr bg)
    |(go_at_call 55;have kf:=ab (fun o=>dw lD ((Below.refl w6 w6).alloc (Nat.le_refl _) o):∀o:Obj,Below w2 w2 (w6.alloc o));have nw:=afk (e:=22) (g:=w6.heap.size) rfl oC h1 h2 h3 h4;refine m_ _ _ HH Dp.o_ _ nw (by have:=ahA.o_;omega) _ ?_;clear nw;intro ja jc w7 e_ aZ;have HZ:=ab (fun o=>Nat.le_trans aY.o_.size (kf.o_ o).size);have gf:=ab (dw (kf.o_ _) aZ);have jD:=aA N2.o_ gf.o_;have mx:=ab e_;clear aZ e_ kf lD oC h1 h2 h3 h4 iA))
  all_goals
   go_wp2_with fail;go_meet;exact ⟨ja,jc,rfl,ab (bN mx.o_ (HZ.o_ _)),gf⟩
 obtain ⟨ja,jc,rfl,wY,tS⟩:=hcut;obtain ⟨w8,rfl⟩:∃x,x=wc:=⟨_,rfl⟩
 have tM:Hid (LB w w8 (.slice ja HH.length jc) HH):=ab ⟨wY.o_,aD aY.o_ tS.o_ aY.o_.size⟩;have c5:=af w8 S 5 _ _ _ (aA N2.o_ tS.o_);clear gA dh ef ahB Ya wY tS ix aY N2 Dp yH nh yB zE;go_wp2_with fail;have Lr:=ab (fun (k:Nat)(_:k≤b9)(P:List UInt8) (hP:P=HH++(ay.take k).flatMap dS)=>(by
  have h1:=congrArg List.length hP;have h2:=Bx dS ay k;have h3:=vv.o_;have h4:=mC.o_;rw [List.length_append] at h1
  omega:P.length≤140000000))
 go_loopg [5,7,8,9,57] b9 (fun gn b _ _ _ i wr=>∃(k:Nat)(P:List UInt8)(ba:Option Addr)(bc:Nat),k≤b9∧gn=b9 - k∧b= .slice ba P.length bc∧i= .int .i64 k∧Hid (P=HH++(ay.take k).flatMap dS)∧Hid (LB w wr (.slice ba P.length bc) P))
 case atStart=>exact ⟨0,HH,ja,jc,Nat.zero_le _,by omega,rfl,rfl,ab (by simp),tM⟩
 case round=>
  obtain ⟨k,P,ba,bc,hk,rfl,rfl,rfl,HP,gi⟩:=hrel;obtain ⟨wo,rfl⟩:∃x,x=wr:=⟨_,rfl⟩
  clear tM c5;by_cases ao:k<b9
  ·have bd:(k:Int)<(b9:Int):=by omega
   have jk:k<ay.length:=by have:=BA.o_;omega
   have r_:=aK Lq.o_ gi.o_.low;obtain ⟨g,rfl⟩:=et r_ (by omega);have bJ:∀j,j<6→wo.cell? ⟨g,k*6+j,none⟩=(aP ay[k])[j]?:=fun j hj=>by
    have h1:=BA.o_;rw [r_.cellAt (k*6+j) (by omega),jQ 6 aP fT ay k j jk hj]
   have hO:=By dS ay k jk;have nM:=vg.o_ _ (List.getElem_mem jk);obtain ⟨x,hx⟩:=ai (ay[k]);rw [hx] at bJ hO nM;have HC:Hid (∀j,j< (bB x:List Value).length→wo.cell? ⟨g,k*6+j,none⟩= (bB x:List Value)[j]?):=bJ;obtain ⟨⟨FF,fe⟩,kI⟩:∃q,b5 x.filter=q:=⟨_,rfl⟩
   obtain ⟨P4,mO⟩:=ai (aR (bj x.id) 4);obtain ⟨R1,ud⟩:∃z:Int,(if x.lE then 4 else 0)=z:=⟨_,rfl⟩
   obtain ⟨R2,rE⟩:∃z:Int,(if x.lF then 8 else 0)=z:=⟨_,rfl⟩
   have Qx:0≤R1∧R1≤4:=by rw [←ud];split<;>omega
   have Qy:0≤R2∧R2≤8:=by rw [←rE];split<;>omega
   obtain ⟨N1,ue⟩:∃z:Int,x.al+R1=z:=⟨_,rfl⟩
   obtain ⟨N2,yL⟩:∃z:Int,N1+R2=z:=⟨_,rfl⟩
   obtain ⟨N3,Br⟩:∃z:Int,x.jx*16=z:=⟨_,rfl⟩
   obtain ⟨N4,rJ⟩:∃z:Int,N2+N3=z:=⟨_,rfl⟩
   obtain ⟨J,hJ⟩:=ai ([P,FF,[b8 N4],P4].flatten);have Dq:J=HH++(ay.take (k+1)).flatMap dS:=by
    rw [hO,←hJ,HP.o_];unfold dS;simp only [kI,mO,ud,rE,ue,yL,Br,rJ];simp
   have vG:=Lr.o_ (k+1) (by omega) J Dq;have e1:=nM.q0;have e2:=nM.q1;have e3:=nM.h0;have e4:=nM.h1;have nX:IntKind.i64.wrap (x.al+R1)=N1:=by rw [IntKind.wrap_i64];omega
   have wk:IntKind.i64.wrap (N1+R2)=N2:=by rw [IntKind.wrap_i64];omega
   have pJ:IntKind.i64.wrap (x.jx*16)=N3:=by rw [IntKind.wrap_i64];omega
   have Ls:IntKind.i64.wrap (N2+N3)=N4:=by rw [IntKind.wrap_i64];omega
   have pF:IntKind.u64.wrap x.id=(bj x.id:Int):=by have:=A1 x.id;simpa using this
   have G6:Hid (dE (bj x.id) 4=P4):=by show _=_;rw [←mO];rfl
   have tK:=ab kI;have fy:=ab nM.f;have mo:=ab ud;have yM:=ab rE;have HJ:=ab hJ;have Qz:=ab Dq;have lY:=ab vG;clear r_ bJ hO nM hx kI mO ud rE Qx Qy ue yL Br rJ hJ Dq vG e1 e2 e3 e4;go_upto_block 1 with fail
   go_cut [5,7,8,9] from 59 to 89 (fun sb _ _ _ wx=>∃(ja:Option Addr)(jc:Nat),sb= .slice ja J.length jc∧Hid (LB w wx (.slice ja J.length jc) J))
   case first=>
    go_upto_region 6 with (first
     |(refine ie (o:=⟨some 60,.load 64 (.tmp 59),_,_,_,_⟩) (by rfl) 64 (.tmp 59) (by rfl) (g) (k*6) (by rfl) ((bB x)) _ (HC.o_) (underlying64) (by rfl) (by kernel_rfl) ?_))
    have iL:=heap_alloc_new wo (Obj.cells (bB x) 64);have cx:=(Below.refl wo wo).alloc (Nat.le_refl _) (Obj.cells (bB x) 64);generalize wo.alloc (Obj.cells (bB x) 64)=w9 at iL cx⊢;obtain ⟨T,dN⟩:=ai wo.heap.size;rw [dN] at iL⊢;have c0:=af w9 T 0 _ _ _ iL;have qW:=ab iL;have ki:=ab (aD gi.o_.low cx gi.o_.low.size);have ahC:=ab ((cp gi.o_.own).below cx);clear iL cx dN;go_upto_region 7 with (first
     |(go_at_call 54;go_must (refine A0 x.filter FF fe tK.o_ _ (by have:=fy.o_;omega) (HT.o_.below ki.o_) _ ?_);intro xa xc eo Ad nN;have Dr:=ab (cp Ad);have xr:=ab (aD ki.o_ nN ki.o_.size);have ahD:=ab (ahC.o_.below nN);have tU:=ab (aA qW.o_ nN);clear Ad nN c0))
    have gA:Below eo eo eo.drew:=(Below.refl _ _).drew;have dh:=aA tU.o_ gA;have ef:=ahD.o_.below gA;have h10:=Dr.o_.below gA;go_region_held3 (fun z=>z.cell? ⟨T,1,none⟩=some (.int .i64 x.al)∧z.cell? ⟨T,2,none⟩=some (.bool x.lE)∧z.cell? ⟨T,3,none⟩=some (.bool x.lF)∧z.cell? ⟨T,4,none⟩=some (.int .i64 x.jx)∧z.cell? ⟨T,5,none⟩=some (.int .i64 x.id))
     (first|with_reducible exact Bz dh|with_reducible exact Bz jF|with_reducible exact Bz gZ|with_reducible exact Bz dz|go_keep)
     (first
      |(have hq:=gA;go_at_call_of 58 (Value.int .i64 4);refine OW x.lE 4 R1 mo.o_ _ _ ?_)
      |(go_at_call_of 58 (Value.int .i64 8);refine OW x.lF 8 R2 yM.o_ _ _ ?_)
      |(go_at_call 57;refine J4 N4 _ _ ?_;intro ca cc w3 bD an;have h3:=cp bD;have j5:=ef.below an;have h13:=h10.below an;have jF:=aA dh an;have js:=dw gA an;clear gA)
      |(go_at_call 56;refine wi (bj x.id) (A2 _) 4 P4 G6.o_ _ _ ?_;intro da dc w4 eh ak;have h4:=cp eh;have h34:=h3.below ak;have iq:=j5.below ak;have h14:=h13.below ak;have gZ:=aA jF ak;have kZ:=dw js ak)
      |(go_at_call 55;have kf:=ab (fun o=>dw kZ ((Below.refl w4 w4).alloc (Nat.le_refl _) o):∀o:Obj,Below eo eo (w4.alloc o));have nw:=V1 (e:=22) (g:=w4.heap.size) rfl iq h14 h34 h4;refine m_ _ _ J HJ.o_ _ nw (by have:=lY.o_;omega) _ ?_;clear nw;intro ja jc w5 ez aC;have HZ:=ab (fun o=>Nat.le_trans xr.o_.size (kf.o_ o).size);have eb:=ab (dw (kf.o_ _) aC);have dz:=aA tU.o_ eb.o_;have iy:=ab ez;clear aC ez kf kZ iq h14 h34 h4 gZ))
    all_goals
     go_wp2_with fail;go_meet;exact ⟨ja,jc,rfl,ab ⟨bN iy.o_ (HZ.o_ _),aD xr.o_ eb.o_ xr.o_.size⟩⟩
   obtain ⟨ahE,ahF,rfl,Hq⟩:=hcut;have rQ:=HN.o_.1;go_wp2_with fail;go_roundg (b9 - (k+1))
   case measure=>omega
   case rel=>exact ⟨k+1,J,ahE,ahF,by omega,rfl,rfl,by go_num,Qz,Hq⟩
  ·have iC:k=b9:=by omega
   have bd:¬(k:Int)<(b9:Int):=by omega
   have yH:Hid (P=HH++ay.flatMap dS):=by
    show _=_;rw [HP.o_,List.take_of_length_le (by have:=BA.o_;omega)]
   clear iC HP;obtain ⟨uf,Ae,xt,Ds,_⟩:=HX.o_.hq;obtain ⟨nq,ug⟩:=ai queue.length;simp only at Ae xt Ds;rw [ug] at xt;obtain ⟨qa,qc,C8⟩:=xt.shape;subst C8;have Hr:uf.length=nq:=by rw [←ug,←Ae];simp
   have Hs:=ab xt;have Ht:=ab Ds;have Hu:=ab Ae;have rW:=ab ug;have Dt:=ab Hr;have ahG:P.length≤130000000∨P.length≤140000000:= .inr (by
    have h1:=congrArg List.length yH.o_;have h3:=vv.o_;have h4:=mC.o_;rw [List.length_append] at h1
    omega)
   have Du:P.length+1≤140000000:=by
    exact Xy
   have c6:=af wo S 6 _ _ _ (aA pI.o_ gi.o_.low);have ahH:=af wo S 5 _ _ _ (aA pI.o_ gi.o_.low);clear Ae xt Ds ug Hr ahG;go_wp2_with (first
    |((at_builtin;go_must (refine gj (by rfl) (.tmp 91) (.tmp 98) 22 (by rfl) w 5 (.int .u8 0) 1 1 underlying22 Tryz.cJ rfl (by decide) ba P.length bc _ (by rfl) (gi.o_.own.alloc (Obj.cells #[Value.int .u8 (IntKind.u8.wrap ((nq:Int)))] 5)) (some ⟨wo,0,none⟩) 1 1 [Value.int .u8 (IntKind.u8.wrap ((nq:Int)))] (by rfl) (cO wo #[Value.int .u8 (IntKind.u8.wrap ((nq:Int)))] 5 1 1 rfl) (nQ _ _) (fun h=>by cases h) (by unfold maxLen;omega) (by omega) (Nat.le_trans gi.o_.low.size (by simp)) ?_);intro eC c9 w9 cI bo _;have cx:=bC (gi.o_.low.alloc gi.o_.low.size (Obj.cells #[Value.int .u8 (IntKind.u8.wrap ((nq:Int)))] 5)) bo (Nat.le_trans gi.o_.low.size (by simp)) (gi.o_.own.alloc (Obj.cells #[Value.int .u8 (IntKind.u8.wrap ((nq:Int)))] 5));have iK:=ab (LB.byte cI cx);clear cI bo cx);have ahI:=af w9 S 6 _ _ _ (aA pI.o_ iK.o_.low)))
   have Lt:=ab (fun (k:Nat)(P2:List UInt8) (vE:P2=HH++ay.flatMap dS++ [b8 (nq:Int)]++(queue.take k).flatMap eW)=>(by
    have h1:=congrArg List.length vE;have h2:=Bx eW queue k;have h3:=vv.o_;have h4:=mC.o_;simp only [List.length_append,List.length_cons,List.length_nil] at h1
    omega:P2.length+2≤140000000))
   clear c6 ahH Du;go_loopg [5,11,105] nq (fun gn b _ i wr=>∃(k:Nat)(P2:List UInt8)(qX:Option Addr)(qY:Nat),k≤nq∧gn=nq - k∧b= .slice qX P2.length qY∧i= .int .i64 k∧Hid (P2=HH++ay.flatMap dS++ [b8 (nq:Int)]++(queue.take k).flatMap eW)∧Hid (LB w wr (.slice qX P2.length qY) P2))
   case atStart=>exact ⟨0,P++ [b8 (nq:Int)],eC,c9,Nat.zero_le _,by omega,by rw [List.length_append];rfl,rfl,ab (by rw [yH.o_];simp),iK⟩
   case round=>
    obtain ⟨k2,P2,qX,qY,fA,rfl,rfl,rfl,nh,jK⟩:=hrel;obtain ⟨wq,rfl⟩:∃x,x=wr:=⟨_,rfl⟩
    clear gi iK ahI;by_cases ij:k2<nq
    ·have Gr:(k2:Int)<(nq:Int):=by omega
     have dM:k2<uf.length:=by have:=Dt.o_;omega
     have mF:k2<queue.length:=by have:=rW.o_;omega
     obtain ⟨g,o,kK,aW,_⟩:=(Hs.o_.below jK.o_.low).at (by omega);subst kK;have oq:queue[k2]=(uf[k2]).2:=by
      have h2:=congrArg (fun l=>l[k2]?) Hu.o_;exact GK
     have aS:=Ht.o_ _ (List.getElem_mem dM);have bJ:∀j,j<14→wq.cell? ⟨g,o+k2*14+j,none⟩=(cL uf[k2])[j]?:=fun j hj=>by
      have:=Dt.o_;rw [Nat.add_assoc,aW (k2*14+j) (by omega),jQ 14 cL my uf k2 j dM hj]
     have hO:=By eW queue k2 mF;have lH:=HQ.o_ _ (List.getElem_mem mF);obtain ⟨⟨⟨v1,v2,v3⟩,x⟩,hp⟩:∃p,uf[k2]=p:=⟨_,rfl⟩
     rw [hp] at oq aS bJ;rw [oq] at hO lH;simp only at hO lH;obtain ⟨⟨lj,lk,e1⟩,⟨ll,ln,e2⟩,lq,lr,e3⟩:=aS.1.o_.shape;simp only at e1 e2 e3;subst e1 e2 e3;have HC:Hid (∀j,j< (aG x lj lk ll ln lq lr:List Value).length→wq.cell? ⟨g,o+k2*14+j,none⟩= (aG x lj lk ll ln lq lr:List Value)[j]?):=bJ;obtain ⟨IY,oD⟩:=ai (jf x);obtain ⟨⟨DI,de⟩,mU⟩:∃q,cS IY=q:=⟨_,rfl⟩
     have lP:P2++DI=HH++ay.flatMap dS++ [b8 (nq:Int)]++(queue.take (k2+1)).flatMap eW:=by
      rw [hO,nh.o_];unfold eW;simp only [oD,mU];simp
     have mu:=Lt.o_ (k2+1) _ lP;rw [List.length_append] at mu;have xu:=ab lP;have fU:=ab mu;have Dv:=ab oD;have Dw:=ab mU;have bP:Hid ((eK x.note).length≤140737488355328):=Nat.le_trans lH.1 (by decide);have aY:Hid (IY.length≤140737488355328):=by rw [←oD];exact Nat.le_trans lH.2.1 (by decide)
     have bU:Hid ((x.note.props.flatMap bV).length≤90000000):=Nat.le_trans lH.2.2.1 (by decide);have b6:Hid (x.ids.length≤100000):=Nat.le_trans lH.2.2.2 (by decide);have ow:=ab aS.2;have Dx:=ab (aS.1.o_.below jK.o_.low);clear aW oq aS bJ hp hO lH oD mU lP mu;go_upto_region 13 with (first
      |(refine ie (o:=⟨some 108,.load 36 (.tmp 107),_,_,_,_⟩) (by rfl) 36 (.tmp 107) (by rfl) (g) (o+k2*14) (by rfl) ((aG x lj lk ll ln lq lr)) _ (HC.o_) (underlying36) (by rfl) (by kernel_rfl) ?_))
     have iL:=heap_alloc_new wq (Obj.cells (aG x lj lk ll ln lq lr) 36);have cx:=(Below.refl wq wq).alloc (Nat.le_refl _) (Obj.cells (aG x lj lk ll ln lq lr) 36);generalize wq.alloc (Obj.cells (aG x lj lk ll ln lq lr) 36)=ahJ at iL cx⊢;obtain ⟨T,dN⟩:=ai wq.heap.size;rw [dN] at iL⊢;have qW:=ab iL;have jJ:Hid (LB w ahJ (.slice qX P2.length qY) P2):=⟨aK jK.o_.own cx,aD jK.o_.low cx jK.o_.low.size⟩
     have ahK:=ab (Dx.o_.below cx);clear iL cx dN;have fg:nq≤100000:=by have:=HN.o_.2.1;have:=rW.o_;omega
     go_wp2_with (first
      |(refine wpList_load_row (o:=⟨some 110,.load 36 (.tmp 11),_,_,_,_⟩) (by rfl) 36 (.tmp 11) (by rfl) (T) (by rfl) 36 _ (0,0) _ (qW).o_ (underlying36) (by rfl) (by kernel_rfl) ?_)
      |(go_at_call 60;go_must (refine Pk x _ _ _ _ ahK.o_ ow.o_ bU.o_ (HT.o_.below jJ.o_.low) IY Dv.o_ bP.o_ aY.o_ b6.o_ _ ?_);intro ya yc dR BD gS;have Af:=ab (cp BD);have sV:Hid (LB w dR (.slice qX P2.length qY) P2):=ab ⟨aK jJ.o_.own gS,aD jJ.o_.low gS jJ.o_.low.size⟩;clear BD gS)
      |(go_at_call 59;go_must (refine UF _ IY DI de Dw.o_ _ Af.o_ _ ?_);intro da dc fP mT iN;have pK:=ab (cp mT);have gT:Hid (LB w fP (.slice qX P2.length qY) P2):=ab ⟨aK sV.o_.own iN,aD sV.o_.low iN sV.o_.low.size⟩;clear mT iN)
      |(at_builtin;go_must (refine gj (by rfl) (.tmp 109) (.tmp 112) 22 (by rfl) w 5 (.int .u8 0) 1 1 underlying22 Tryz.cJ rfl (by decide) qX P2.length qY _ (by rfl) gT.o_.own da DI.length dc (bv DI) (by rfl) pK.o_.parts.2.1 (eX _) pK.o_.parts.2.2.2.2 (by have:=fU.o_;unfold maxLen;omega) (by have:=fU.o_;omega) gT.o_.low.size ?_);intro eC c9 w9 cI bo _;have cx:=bC gT.o_.low bo gT.o_.low.size gT.o_.own;have iK:=ab (LB.list cI cx);clear cI bo cx))
     go_roundg (nq - (k2+1))
     case measure=>omega
     case rel=>exact ⟨k2+1,P2++DI,eC,c9,by omega,rfl,by rw [List.length_append],by go_num,xu,iK⟩
    ·have QA:k2=nq:=by omega
     have Gr:¬(k2:Int)<(nq:Int):=by omega
     have Hv:Hid (P2=HH++ay.flatMap dS++ [b8 (nq:Int)]++queue.flatMap eW):=by
      show _=_;rw [nh.o_,List.take_of_length_le (by have:=rW.o_;omega)]
     clear QA nh;obtain ⟨fQ,jG,fx,kL,_⟩:=HX.o_.hf;obtain ⟨nf,mn⟩:=ai aj.length;simp only at jG fx kL;rw [mn] at fx;obtain ⟨fa,fc,mD⟩:=bF fx;subst mD;have xm:fQ.length=nf:=by rw [←mn,←jG];simp
     have tX:=ab fx;have Hw:=ab kL;have od:=ab jG;have oy:=ab mn;have sY:=ab xm;have Du:P2.length+1≤140000000:=by
      have h1:=congrArg List.length Hv.o_;exact KZ
     have c7:=af wq S 7 _ _ _ (aA pI.o_ jK.o_.low);clear jG fx kL mn xm Hs Ht Hu Dt;go_wp2_with (first
      |((at_builtin;go_must (refine gj (by rfl) (.tmp 115) (.tmp 122) 22 (by rfl) w 5 (.int .u8 0) 1 1 underlying22 Tryz.cJ rfl (by decide) qX P2.length qY _ (by rfl) (jK.o_.own.alloc (Obj.cells #[Value.int .u8 (IntKind.u8.wrap ((nf:Int)))] 5)) (some ⟨wq,0,none⟩) 1 1 [Value.int .u8 (IntKind.u8.wrap ((nf:Int)))] (by rfl) (cO wq #[Value.int .u8 (IntKind.u8.wrap ((nf:Int)))] 5 1 1 rfl) (nQ _ _) (fun h=>by cases h) (by unfold maxLen;omega) (by omega) (Nat.le_trans jK.o_.low.size (by simp)) ?_);intro eC c9 w9 cI bo _;have cx:=bC (jK.o_.low.alloc jK.o_.low.size (Obj.cells #[Value.int .u8 (IntKind.u8.wrap ((nf:Int)))] 5)) bo (Nat.le_trans jK.o_.low.size (by simp)) (jK.o_.own.alloc (Obj.cells #[Value.int .u8 (IntKind.u8.wrap ((nf:Int)))] 5));have iK:=ab (LB.byte cI cx);clear cI bo cx);have ahL:=af w9 S 7 _ _ _ (aA pI.o_ iK.o_.low)))
     have Lu:=ab (fun (k:Nat)(P3:List UInt8) (QC:P3=HH++ay.flatMap dS++ [b8 (nq:Int)]++queue.flatMap eW++ [b8 (nf:Int)]++(aj.take k).flatMap gE)=>(by
      have h1:=congrArg List.length QC;have h2:=Bx gE aj k;have h3:=vv.o_;have h4:=mC.o_;simp only [List.length_append,List.length_cons,List.length_nil] at h1
      omega:P3.length+1≤140000000))
     clear c7 Du;go_loopg [5,13,129] nf (fun gn b _ i wr=>∃(k:Nat)(P3:List UInt8)(pL:Option Addr)(pM:Nat),k≤nf∧gn=nf - k∧b= .slice pL P3.length pM∧i= .int .i64 k∧Hid (P3=HH++ay.flatMap dS++ [b8 (nq:Int)]++queue.flatMap eW++ [b8 (nf:Int)]++(aj.take k).flatMap gE)∧Hid (LB w wr (.slice pL P3.length pM) P3))
     case atStart=>exact ⟨0,P2++ [b8 (nf:Int)],eC,c9,Nat.zero_le _,by omega,by rw [List.length_append];rfl,rfl,ab (by rw [Hv.o_];simp),iK⟩
     case round=>
      obtain ⟨k3,P3,pL,pM,js,rfl,rfl,rfl,u_,kO⟩:=hrel;obtain ⟨wf,rfl⟩:∃x,x=wr:=⟨_,rfl⟩
      clear jK iK ahL;by_cases Dy:k3<nf
      ·have QD:(k3:Int)<(nf:Int):=by omega
       have dM:k3<fQ.length:=by have:=sY.o_;omega
       have yI:k3<aj.length:=by have:=oy.o_;omega
       have r_:=aK tX.o_ kO.o_.low;obtain ⟨g,rfl⟩:=et r_ (by omega);have lx:aj[k3]=(fQ[k3]).2:=by
        have h2:=congrArg (fun l=>l[k3]?) od.o_;exact K0
       have aS:=Hw.o_ _ (List.getElem_mem dM);have bJ:∀j,j<16→wf.cell? ⟨g,k3*16+j,none⟩=(bH fQ[k3])[j]?:=fun j hj=>by
        have:=sY.o_;rw [r_.cellAt (k3*16+j) (by omega),jQ 16 bH iY fQ k3 j dM hj]
       have hO:=By gE aj k3 yI;have uh:=HF.o_ _ (List.getElem_mem yI);obtain ⟨⟨⟨v1,v2,v3⟩,f⟩,hp⟩:∃p,fQ[k3]=p:=⟨_,rfl⟩
       rw [hp] at lx aS bJ;rw [lx] at hO uh;simp only at hO uh aS;obtain ⟨⟨pa,pc,e1⟩,⟨oE,oF,e2⟩,ea,ec,e3⟩:=aS.1.o_.shape;simp only at e1 e2 e3;subst e1 e2 e3;have HC:Hid (∀j,j< (cD f.id f.state f.item pa pc oE oF ea ec:List Value).length→wf.cell? ⟨g,k3*16+j,none⟩= (cD f.id f.state f.item pa pc oE oF ea ec:List Value)[j]?):=bJ;obtain ⟨mV,Dz⟩:=ai (aR (bj f.id) 2);obtain ⟨IY,oD⟩:=ai (jf f.item);obtain ⟨⟨DI,de⟩,mU⟩:∃q,cS IY=q:=⟨_,rfl⟩
       obtain ⟨J2,BE⟩:=ai ([P3,mV,[b8 f.state],DI].flatten);have lP:J2=HH++ay.flatMap dS++ [b8 (nq:Int)]++queue.flatMap eW++ [b8 (nf:Int)]++(aj.take (k3+1)).flatMap gE:=by
        rw [hO,←BE,u_.o_];unfold gE;simp only [oD,mU,Dz];simp
       have mu:=Lu.o_ (k3+1) _ lP;have xu:=ab lP;have lY:=ab mu;have Dv:=ab oD;have Dw:=ab mU;have QE:=ab BE;have Lv:Hid (dE (bj f.id) 2=mV):=by show _=_;rw [←Dz];rfl
       have pF:IntKind.u64.wrap f.id=(bj f.id:Int):=by have:=A1 f.id;simpa using this
       have bP:Hid ((eK f.item.note).length≤140737488355328):=Nat.le_trans uh.1 (by decide);have aY:Hid (IY.length≤140737488355328):=by rw [←oD];exact Nat.le_trans uh.2.1 (by decide)
       have bU:Hid ((f.item.note.props.flatMap bV).length≤90000000):=Nat.le_trans uh.2.2.1 (by decide);have b6:Hid (f.item.ids.length≤100000):=Nat.le_trans uh.2.2.2 (by decide);have ow:=ab aS.2;have Dx:=ab (aS.1.o_.below kO.o_.low);have fg:nf≤100000:=by have:=HN.o_.2.2.1;have:=oy.o_;omega
       clear r_ lx aS bJ hp hO uh Dz oD mU BE lP mu;go_upto_block 5 with fail
       go_cut [5,13] from 131 to 146 (fun sb _ wx=>∃(ja:Option Addr)(jc:Nat),sb= .slice ja J2.length jc∧Hid (LB w wx (.slice ja J2.length jc) J2))
       case first=>
        go_upto_region 19 with (first
         |(refine ie (o:=⟨some 132,.load 51 (.tmp 131),_,_,_,_⟩) (by rfl) 51 (.tmp 131) (by rfl) (g) (k3*16) (by rfl) ((cD f.id f.state f.item pa pc oE oF ea ec)) _ (HC.o_) (underlying51) (by rfl) (by kernel_rfl) ?_))
        have gS:=(Below.refl wf wf).alloc (Nat.le_refl _) (Obj.cells (cD f.id f.state f.item pa pc oE oF ea ec) 51);have sZ:=heap_alloc_new wf (Obj.cells (cD f.id f.state f.item pa pc oE oF ea ec) 51);generalize wf.alloc (Obj.cells (cD f.id f.state f.item pa pc oE oF ea ec) 51)=dR at gS sZ⊢;have BF:=ab (aD kO.o_.low gS kO.o_.low.size);have ahM:=ab (HT.o_.below BF.o_);have DA:=ab (Dx.o_.below gS);have eZ:=ab ((cp kO.o_.own).below gS);obtain ⟨T,dN⟩:=ai wf.heap.size;rw [dN] at sZ⊢;have Lw:=ab sZ;clear gS sZ dN;have gA:Below dR dR dR.drew:=(Below.refl _ _).drew;have dh:=aA Lw.o_ gA;have ef:=eZ.o_.below gA;go_region_held3 (fun x=>x.cell? ⟨T,0,none⟩=some (.int .i64 f.id)∧x.cell? ⟨T,1,none⟩=some (.int .i64 f.state)∧x.cell? ⟨T,2,none⟩=some (.string (str f.item.note.aJ))∧x.cell? ⟨T,3,none⟩=some (.slice pa f.item.note.az.length pc)∧x.cell? ⟨T,4,none⟩=some (.int .i64 f.item.note.al)∧x.cell? ⟨T,5,none⟩=some (.bool f.item.note.aE)∧x.cell? ⟨T,6,none⟩=some (.string (str f.item.note.src))∧x.cell? ⟨T,7,none⟩=some (.int .i64 f.item.note.aN)∧x.cell? ⟨T,8,none⟩=some (.slice oE f.item.note.props.length oF)∧x.cell? ⟨T,9,none⟩=some (.int .i64 f.item.note.origin)∧x.cell? ⟨T,10,none⟩=some (.int .i64 f.item.note.number)∧x.cell? ⟨T,11,none⟩=some (.int .i64 f.item.note.aQ)∧x.cell? ⟨T,12,none⟩=some (.int .i64 f.item.al)∧x.cell? ⟨T,13,none⟩=some (.bool f.item.aM)∧x.cell? ⟨T,14,none⟩=some (.slice ea f.item.ids.length ec)∧x.cell? ⟨T,15,none⟩=some (.string (str f.item.share)))
         (first|with_reducible exact ji dh|with_reducible exact ji jF|with_reducible exact ji gZ|with_reducible exact ji dz|with_reducible exact ji iA|with_reducible exact ji jD|go_keep)
         (first
          |(have hq:=gA;go_at_call_of 56 (Value.int .u64 (bj f.id:Int));refine wi (bj f.id) (A2 _) 2 mV Lv.o_ _ _ ?_;intro aa ac w3 bD an;have h1:=cp bD;have j5:=ef.below an;have jF:=aA dh an;have js:=dw gA an;clear hq gA)
          |(have hq:=js;go_at_call 57;refine J4 f.state _ _ ?_;intro aqC aqD w4 eh ak;have h2:=cp eh;replace h1:=h1.below ak;have iq:=j5.below ak;have gZ:=aA jF ak;have kZ:=dw js ak;clear hq js)
          |(go_at_call 60;refine Pk f.item _ _ _ _ (DA.o_.below kZ) ow.o_ bU.o_ (ahM.o_.below kZ) IY Dv.o_ bP.o_ aY.o_ b6.o_ _ ?_;intro ca cc w5 ez aC;have h3:=cp ez;replace h1:=h1.below aC;replace h2:=h2.below aC;have qe:=iq.below aC;have dz:=aA gZ aC;have vr:=dw kZ aC)
          |(go_at_call 59;refine UF _ IY DI de Dw.o_ _ h3 _ ?_;intro da dc w6 p7 bg;have h4:=cp p7;replace h1:=h1.below bg;replace h2:=h2.below bg;have oC:=qe.below bg;have iA:=aA dz bg;have lD:=dw vr bg)
          |(go_at_call 55;have kf:=ab (fun o=>dw lD ((Below.refl w6 w6).alloc (Nat.le_refl _) o):∀o:Obj,Below dR dR (w6.alloc o));have nw:=V1 (e:=22) (g:=w6.heap.size) rfl oC h1 h2 h4;refine m_ _ _ J2 QE.o_ _ nw (by have:=lY.o_;omega) _ ?_;clear nw;intro ja jc w7 e_ aZ;have HZ:=ab (fun o=>Nat.le_trans BF.o_.size (kf.o_ o).size);have gf:=ab (dw (kf.o_ _) aZ);have jD:=aA Lw.o_ gf.o_;have mx:=ab e_;clear aZ e_ kf lD oC h1 h2 h3 h4 iA))
        all_goals
         go_wp2_with fail;go_meet;exact ⟨ja,jc,rfl,ab ⟨bN mx.o_ (HZ.o_ _),aD BF.o_ gf.o_ BF.o_.size⟩⟩
       obtain ⟨ahN,ahO,rfl,ahP⟩:=hcut;go_wp2_with fail;go_roundg (nf - (k3+1))
       case measure=>omega
       case rel=>exact ⟨k3+1,J2,ahN,ahO,by omega,rfl,rfl,by go_num,xu,ahP⟩
      ·have QF:k3=nf:=by omega
       have QD:¬(k3:Int)<(nf:Int):=by omega
       have Hx:Hid (P3=HH++ay.flatMap dS++ [b8 (nq:Int)]++queue.flatMap eW++ [b8 (nf:Int)]++aj.flatMap gE):=by
        show _=_;rw [u_.o_,List.take_of_length_le (by have:=oy.o_;omega)]
       clear QF u_;obtain ⟨ng,xv⟩:=ai aH.length;have qm:aH.length≤100000:=HN.o_.2.2.2;have xg:=ab xv;have QG:=ab qm;have QH:P3.length+1≤140000000:=by
        have h1:=congrArg List.length Hx.o_;exact KZ
       have Yb:=ab (yp.o_.below kO.o_.low);clear xv qm tX Hw od sY;go_wp2_with (first
        |(go_at_call 61;go_must (refine Xx S _ QG.o_ _ M Yb.o_ _ ?_);intro ga gc eo Ad nN;simp only [xg.o_] at Ad⊢;have Yc:=ab (bN (gF:=0) Ad (Nat.zero_le _));have jJ:Hid (LB w eo (.slice pL P3.length pM) P3):=ab ⟨aK kO.o_.own nN,aD kO.o_.low nN kO.o_.low.size⟩;clear Ad nN)
        |(have hq:=jJ;at_builtin;have ui:=ab (Yc.o_.alloc (Obj.cells #[Value.int .u8 (IntKind.u8.wrap (ng:Int))] 5));go_must (refine gj (by rfl) (.tmp 150) (.tmp 154) 22 (by rfl) w 5 (.int .u8 0) 1 1 underlying22 Tryz.cJ rfl (by decide) pL P3.length pM _ (by rfl) (jJ.o_.own.alloc (Obj.cells #[Value.int .u8 (IntKind.u8.wrap (ng:Int))] 5)) (some ⟨eo,0,none⟩) 1 1 [Value.int .u8 (IntKind.u8.wrap (ng:Int))] (by rfl) (cO eo #[Value.int .u8 (IntKind.u8.wrap (ng:Int))] 5 1 1 rfl) (nQ _ _) (fun h=>by cases h) (by unfold maxLen;omega) (by omega) (Nat.le_trans jJ.o_.low.size (by simp)) ?_);intro eC c9 w9 cI bo _;have cx:=bC (jJ.o_.low.alloc jJ.o_.low.size (Obj.cells #[Value.int .u8 (IntKind.u8.wrap (ng:Int))] 5)) bo (Nat.le_trans jJ.o_.low.size (by simp)) (jJ.o_.own.alloc (Obj.cells #[Value.int .u8 (IntKind.u8.wrap (ng:Int))] 5));have s_:=ab (G8 ui.o_ (jJ.o_.own.alloc (Obj.cells #[Value.int .u8 (IntKind.u8.wrap (ng:Int))] 5)) (by decide) bo);have iK:=ab (LB.byte cI cx);clear cI bo cx))
       have df:(bE aH).length=ng:=by rw [tW,xg.o_]
       have sS:=ab df;obtain ⟨gl,qm⟩:=ai (bE aH);have KY:=ab qm;rw [qm] at s_ sS;have QI:=ab (fun (k:Nat)(P4:List UInt8) (mO:P4=HH++ay.flatMap dS++ [b8 (nq:Int)]++queue.flatMap eW++ [b8 (nf:Int)]++aj.flatMap gE++ [b8 (ng:Int)]++(gl.take k).flatMap kN)=>(by
        have h1:=congrArg List.length mO;have h2:=Bx kN gl k;have h3:=vv.o_;have h4:=mC.o_;have h5:=KY.o_;rw [h5] at h3;simp only [List.length_append,List.length_cons,List.length_nil] at h1
        omega:P4.length≤140000000))
       clear QH df qm Yc jJ;go_loopg [5,16,158] ng (fun gn b _ i wr=>∃(k:Nat)(P4:List UInt8)(vw:Option Addr)(vx:Nat),k≤ng∧gn=ng - k∧b= .slice vw P4.length vx∧i= .int .i64 k∧Hid (P4=HH++ay.flatMap dS++ [b8 (nq:Int)]++queue.flatMap eW++ [b8 (nf:Int)]++aj.flatMap gE++ [b8 (ng:Int)]++(gl.take k).flatMap kN)∧Hid (LB w wr (.slice vw P4.length vx) P4)∧Hid (wr.ownsRow 0 3 1 (.slice ga ng gc) ng (iv gl)))
       case atStart=>exact ⟨0,P3++ [b8 (ng:Int)],eC,c9,Nat.zero_le _,by omega,by rw [List.length_append];rfl,rfl,ab (by rw [Hx.o_];simp),iK,s_⟩
       case round=>
        obtain ⟨k4,P4,vw,vx,kZ,rfl,rfl,rfl,zN,xh,Yd⟩:=hrel;obtain ⟨wg,rfl⟩:∃x,x=wr:=⟨_,rfl⟩
        clear kO iK s_ Yb;by_cases ahQ:k4<ng
        ·have QJ:(k4:Int)<(ng:Int):=by omega
         have Dd:k4<gl.length:=by have:=sS.o_;omega
         have Hy:Is wg (.slice ga ng gc) gl:=JI Yd.o_ sS.o_;obtain ⟨g,o,rfl,qT⟩:=Hy.at k4 Dd;have hO:=By kN gl k4 Dd;obtain ⟨x,hx⟩:=ai (gl[k4]);rw [hx] at qT hO;obtain ⟨PX,DB⟩:=ai (aR (bj x) 2);have lP:P4++PX=HH++ay.flatMap dS++ [b8 (nq:Int)]++queue.flatMap eW++ [b8 (nf:Int)]++aj.flatMap gE++ [b8 (ng:Int)]++(gl.take (k4+1)).flatMap kN:=by
          rw [hO,zN.o_];unfold kN;simp only [DB];simp
         have mu:=QI.o_ (k4+1) _ lP;rw [List.length_append] at mu;have xu:=ab lP;have fU:=ab mu;have QK:Hid (dE (bj x) 2=PX):=by show _=_;rw [←DB];rfl
         have pF:IntKind.u64.wrap x=(bj x:Int):=by have:=A1 x;simpa using this
         have fg:ng≤100000:=by have:=HN.o_.2.2.2;have:=xg.o_;omega
         clear Hy hO hx DB lP mu;go_wp2_with (first
          |(go_at_call 56;go_must (refine wi (bj x) (A2 _) 2 PX QK.o_ _ _ ?_);intro da dc fP mT iN;have pK:=ab (cp mT);have gT:Hid (LB w fP (.slice vw P4.length vx) P4):=ab ⟨aK xh.o_.own iN,aD xh.o_.low iN xh.o_.low.size⟩;have DC:=ab (aK Yd.o_ iN);clear mT iN qT)
          |(at_builtin;go_must (refine gj (by rfl) (.tmp 162) (.tmp 165) 22 (by rfl) w 5 (.int .u8 0) 1 1 underlying22 Tryz.cJ rfl (by decide) vw P4.length vx _ (by rfl) gT.o_.own da PX.length dc (bv PX) (by rfl) pK.o_.parts.2.1 (eX _) pK.o_.parts.2.2.2.2 (by have:=fU.o_;unfold maxLen;omega) (by have:=fU.o_;omega) gT.o_.low.size ?_);intro eC c9 w9 cI bo _;have cx:=bC gT.o_.low bo gT.o_.low.size gT.o_.own;have s_:=ab (G8 DC.o_ gT.o_.own (by decide) bo);have iK:=ab (LB.list cI cx);clear cI bo cx))
         go_roundg (ng - (k4+1))
         case measure=>omega
         case rel=>exact ⟨k4+1,P4++PX,eC,c9,by omega,rfl,by rw [List.length_append],by go_num,xu,iK,s_⟩
        ·have QJ:¬(k4:Int)<(ng:Int):=by omega
         exact Xz
open Nat (ne_of_gt)
theorem BG(x:Nat)(hx:x<256):IntKind.i64.wrap (cz [b8 (x:Int)])=(x:Int):=by
 have e: [b8 (x:Int)]=aR x 1:=by
  rw [Ob x 0];simp [aR]
 rw [e,Cs 1 x (by decide) (by omega),IntKind.wrap_i64]
 omega
theorem Hz(k:Nat)(hk:k≤8)(x:Int)(h0:0≤x)(h1:x<256 ^ k)(h2:x≤4611686018427387904):IntKind.i64.wrap (cz (aR (bj x) k))=x:=by
 have e:((bj x:Nat):Int)=x:=by
  unfold bj
  omega
 have e2:bj x<256 ^ k:=by
  have:((bj x:Nat):Int)<((256 ^ k:Nat):Int):=by
   rw [e]
   simpa using h1
  omega
 rw [Cs k (bj x) hk e2,IntKind.wrap_i64,e]
 omega
theorem ahR(q h:Int)(nl ap:Bool)(h0:0≤q)(h1:q≤2)(h2:0≤h)(h3:h≤2):∃m:Nat,q+(if nl then 4 else 0)+(if ap then 8 else 0)+h*16=(m:Int)∧m<256∧bits .and .i64 (m:Int) 3=q∧(m:Int) / 16=h∧(bits .and .i64 (m:Int) 4 != 0)=nl∧(bits .and .i64 (m:Int) 8 != 0)=ap:=by
 obtain ⟨a,rfl,ha⟩:∃a:Nat,q=(a:Int)∧a<3:=⟨q.toNat,by omega,by omega⟩
 obtain ⟨b,rfl,hb⟩:∃a:Nat,h=(a:Int)∧a<3:=⟨h.toNat,by omega,by omega⟩
 have key:∀(a b:Fin 3)(nl ap:Bool),bits .and .i64 ((a.val+(if nl then 4 else 0)+(if ap then 8 else 0)+b.val*16:Nat):Int) 3=(a.val:Int)∧(((a.val+(if nl then 4 else 0)+(if ap then 8 else 0)+b.val*16:Nat):Int)) / 16=(b.val:Int)∧(bits .and .i64 ((a.val+(if nl then 4 else 0)+(if ap then 8 else 0)+b.val*16:Nat):Int) 4 != 0)=nl∧(bits .and .i64 ((a.val+(if nl then 4 else 0)+(if ap then 8 else 0)+b.val*16:Nat):Int) 8 != 0)=ap:=by decide+kernel
 refine ⟨a+(if nl then 4 else 0)+(if ap then 8 else 0)+b*16,?_,?_,key ⟨a,ha⟩ ⟨b,hb⟩ nl ap⟩
 ·cases nl<;>cases ap<;>simp
 ·cases nl<;>cases ap<;>simp<;>omega
structure BH(x:Sb):Prop where
 b:X_ x
 t:dV x.filter=true
 l1:1≤x.filter.length
 l2:x.filter.length≤64
 i0:0≤x.id
 i1:x.id≤268435455
theorem ahS(N:Nat)(x:Sb)(hx:BH x)(r:List UInt8)(w0 w:World)(h:CR w0 106 N ⟨dS x++r,false⟩ w)(hT:di w0)(R:Ending→World→Prop)
 (hR:∀w',CR w0 106 N ⟨r,false⟩ w'→w.grownBy w' (some N)→R (.returned (.agg (bB x))) w'):
 Calls prog 48 #[.pointer (some ⟨N,0,none⟩)] w R:=by
 have HR:=ab hR;have HX:=ab hx;have HT:=ab hT;obtain ⟨m,hm,gJ,lM,vd,yA,Fp⟩:=ahR x.al x.jx x.lE x.lF hx.b.q0 hx.b.q1 hx.b.h0 hx.b.h1;have fO:CR w0 106 N ⟨(b5 x.filter).1++([b8 (m:Int)]++(aR (bj x.id) 4++r)),false⟩ w:=by
  have:=h;unfold dS at this;rw [hm] at this
  simpa only [List.append_assoc] using this
 have aw:Below w w (w.alloc (Obj.cells fX 64)):=(Below.refl _ _).alloc (Nat.le_refl _) _;have hA1:=heap_alloc_new w (Obj.cells fX 64);have gg:=ab (fO.below aw);have Ac:N<w.heap.size:=h.lt;have Bv:Hid (w.grownBy (w.alloc (Obj.cells fX 64)) (some N)):=iT aw;have lh:=ab Ac;have DE:=ab gJ;clear hR hx hT h aw Ac fO hm gJ;go_enter func48,ntmps48;go_upto_region 1 with fail
 generalize w.alloc (Obj.cells fX 64)=w1 at gg hA1 Bv⊢;obtain ⟨A,xn⟩:=ai w.heap.size;rw [xn] at hA1 lh⊢;have jj:Hid (A≠N):=ne_of_gt lh.o_;have C4:=ab hA1;have Bw:=ab xn;clear hA1 xn;go_upto_region 2 with (first
  |(go_at_call 44;go_must (refine WE N x.filter _ HX.o_.b.f HX.o_.t w0 _ gg.o_ HT.o_ _ ?_);intro w2 b_ bM;have ek:=ab b_;have pB:=ab (dQ bM C4.o_ jj.o_);have oL:=ab (bO Bv.o_ bM);clear b_ bM))
 have jF:=heap_alloc_new w2 (Obj.cells #[.string (str x.filter),.int .i64 0,.bool false,.bool false,.int .i64 0,.int .i64 0] 64);have an:=(Below.refl w2 w2).alloc (Nat.le_refl _) (Obj.cells #[.string (str x.filter),.int .i64 0,.bool false,.bool false,.int .i64 0,.int .i64 0] 64);generalize w2.alloc (Obj.cells #[.string (str x.filter),.int .i64 0,.bool false,.bool false,.int .i64 0,.int .i64 0] 64)=w3 at jF an⊢;have ao:=ek.o_.lt;obtain ⟨T,dN⟩:=ai w2.heap.size;rw [dN] at jF ao⊢;have lu:Hid (T≠N):=ne_of_gt ao;have zK:Hid (w0.heap.size≤T):=Nat.le_trans ek.o_.nn (Nat.le_of_lt ao);have rR:=ab jF;have tN:=ab (ek.o_.below an);have yF:=ab (aA pB.o_ an);have rO:=ab (bO oL.o_ (iT an));have zV:Hid (A≠T):=by
  have h1:=(Array.getElem?_eq_some_iff.1 pB.o_).1;show _≠_
  omega
 have Ye:Hid (w.heap.size≤T):=by
  have h1:=(Array.getElem?_eq_some_iff.1 pB.o_).1;have h2:=Bw.o_;show _≤_
  omega
 clear jF an dN ao;go_upto_region 3 with (first
  |(go_at_call 45;go_must (refine ve N 1 [b8 (m:Int)] _ rfl (m:Int) (BG m DE.o_) w0 _ tN.o_ _ ?_);intro w4 iq cT;have mH:=ab iq;have gZ:=dQ cT rR.o_ lu.o_;have EV:=ab gZ;have yy:=ab (dQ cT yF.o_ jj.o_);have oj:=ab (bO rO.o_ cT);have c1:=af w4 T 1 _ _ _ gZ;have f1:=aB gZ 1;have c4:=af w4 T 4 _ _ _ gZ;have f4:=aB gZ 4;have c2:=af w4 T 2 _ _ _ gZ;have f2:=aB gZ 2;have c3:=af w4 T 3 _ _ _ gZ;have f3:=aB gZ 3;clear iq cT gZ))
 have cM:=DE.o_;go_upto_region 5 with fail
 have dz:((((w4.setCell ⟨T,1,none⟩ (.int .i64 x.al)).setCell ⟨T,4,none⟩ (.int .i64 x.jx)).setCell ⟨T,2,none⟩ (.bool x.lE)).setCell ⟨T,3,none⟩ (.bool x.lF)).heap[T]? =some (Obj.cells #[.string (str x.filter),.int .i64 x.al,.bool x.lE,.bool x.lF,.int .i64 x.jx,.int .i64 0] 64):=by
  rw [heap_setCell_same _ T 3 _ _ _ (heap_setCell_same _ T 2 _ _ _ (heap_setCell_same _ T 4 _ _ _ (heap_setCell_same w4 T 1 _ _ _ EV.o_)))]
  rfl
 have fo:w4.grownBy ((((w4.setCell ⟨T,1,none⟩ (.int .i64 x.al)).setCell ⟨T,4,none⟩ (.int .i64 x.jx)).setCell ⟨T,2,none⟩ (.bool x.lE)).setCell ⟨T,3,none⟩ (.bool x.lF)) (some T):=bO (bO (bO (bL w4 ⟨T,1,none⟩ _) (bL _ ⟨T,4,none⟩ _)) (bL _ ⟨T,2,none⟩ _)) (bL _ ⟨T,3,none⟩ _);have qe:=mH.o_.other fo lu.o_.symm ((((mH.o_.low.setCell zK.o_ _).setCell zK.o_ _).setCell zK.o_ _).setCell zK.o_ _);have QL:=dQ fo yy.o_ zV.o_;have QM:=zL oj.o_ fo Ye.o_;generalize (((w4.setCell ⟨T,1,none⟩ (.int .i64 x.al)).setCell ⟨T,4,none⟩ (.int .i64 x.jx)).setCell ⟨T,2,none⟩ (.bool x.lE)).setCell ⟨T,3,none⟩ (.bool x.lF)=w5 at dz qe QL QM⊢;have mK:=ab dz;have pR:=ab qe;have Bn:=ab QL;have rM:=ab QM;have Yf:=HX.o_.i0;have ahT:=HX.o_.i1;have Pa:Hid (IntKind.i64.wrap (cz (aR (bj x.id) 4))=x.id):=ab (Hz 4 (by decide) x.id Yf (by omega) (by omega));clear dz fo qe QL QM c1 f1 c2 f2 c3 f3 c4 f4 lM vd yA Fp;go_upto_region 6 with (first
  |(go_at_call 45;go_must (refine ve N 4 (aR (bj x.id) 4) _ (eU _ _) x.id Pa.o_ w0 _ pR.o_ _ ?_);intro w6 oC bI;have mP:=ab oC;have iA:=dQ bI mK.o_ lu.o_;have nB:=ab iA;have xd:=ab (dQ bI Bn.o_ jj.o_);have vD:=ab (bO rM.o_ bI);have c5:=af w6 T 5 _ _ _ iA;have f5:=aB iA 5;clear oC bI iA))
 have jD:(w6.setCell ⟨T,5,none⟩ (.int .i64 x.id)).heap[T]? =some (Obj.cells (bB x) 64):=by
  rw [heap_setCell_same w6 T 5 _ _ _ nB.o_]
  rfl
 have iu:=bL w6 ⟨T,5,none⟩ (.int .i64 x.id);have sO:=mP.o_.other iu lu.o_.symm (mP.o_.low.setCell zK.o_ _);have QN:=dQ iu xd.o_ zV.o_;have QO:=zL vD.o_ iu Ye.o_;generalize w6.setCell ⟨T,5,none⟩ (.int .i64 x.id)=w7 at jD sO QN QO⊢;obtain ⟨la,lc,uV,_⟩:=sO.row;have c1:w7.cell? ⟨N,1,none⟩=some (.bool false):=af w7 N 1 _ _ _ uV;have f1:=aB uV 1;have d0:=af w7 T 0 _ _ _ jD;have d1:=af w7 T 1 _ _ _ jD;have d4:=af w7 T 4 _ _ _ jD;have d5:=af w7 T 5 _ _ _ jD;have q1:¬x.al > 2:=by have:=HX.o_.b.q1;omega
 have q2:¬x.jx > 2:=by have:=HX.o_.b.h1;omega
 have q3:¬x.id > 268435455:=by omega
 have q4:¬(x.filter.length:Int)<1:=by have:=HX.o_.l1;omega
 have q5:¬(x.filter.length:Int) > 64:=by have:=HX.o_.l2;omega
 have qg:=ab jD;have tT:=ab sO;have tO:=ab QN;have vH:=ab QO;clear jD iu sO QN QO uV c5 f5 Yf ahT;go_upto_region 7 with fail
 have dk:=bL w7 ⟨N,1,none⟩ (.bool false);have j6:=tT.o_.mark false;have ig:=dQ dk qg.o_ lu.o_;have ox:=dQ dk tO.o_ jj.o_;have sd:=bO vH.o_ dk;generalize w7.setCell ⟨N,1,none⟩ (.bool false)=w8 at j6 ig ox sd⊢;have yG:=ab ig;have qM:=ab j6;have xf:=ab ox;have p8:=ab sd;clear dk j6 ig ox sd c1 f1 d0 d1 d4 d5 q1 q2 q3 q4 q5;go_wp2_with (first
  |(refine wpList_load_row (o:=⟨some 61,.load 64 (.tmp 3),_,_,_,_⟩) (by rfl) 64 (.tmp 3) (by rfl) (T) (by rfl) 64 _ (0,0) _ (yG).o_ (underlying64) (by rfl) (by kernel_rfl) ?_)
  |(refine wpList_store_row (o:=⟨none,.store 64 (.tmp 2) (.tmp 61),_,_,_,_⟩) (by rfl) 64 (.tmp 2) (.tmp 61) (by rfl) (A) _ (by rfl) (by rfl) 64 _ (xf).o_ (by kernel_rfl) (by rfl) (by simp [Value.oneCell']) ?_))
 refine bodyPost_ret (results_cell_row rfl _ _ A 64 (bB x) (0,0) _ rfl (setRow_heap _ A _ _ _ _ xf.o_) underlying64 rfl (by kernel_rfl)) rfl ?_;have iE:=zM w8 A (bB x);exact HR.o_ _ (qM.o_.other iE jj.o_.symm (below_setRow qM.o_.low (Nat.le_trans qM.o_.nn (Nat.le_of_lt lh.o_)) _)) (zL p8.o_ iE (Nat.le_of_eq Bw.o_))
theorem ahU(x:Nt)(pv qv pu qu:Value)(w:World)(hp:Bs w pv x.az)(hq:Ps w qv x.props)(yw:Bs w pu x.az)(qZ:Ps w qu x.props)(R:Ending→World→Prop)
 (hR:∀w',Below w w w'→R (.returned (.bool true)) w'):
 Calls prog 152 #[(Value.agg (xT x pv qv)),(Value.agg (xT x pu qu))] w R:=by
 obtain ⟨aJ,az,al,aE,src,aN,props,origin,number,aQ⟩:=x;simp only at*;obtain ⟨O0,m9⟩:=ai ((Obj.cells #[.string (str aJ),pv,.int .i64 al,.bool aE,.string (str src),.int .i64 aN,qv,.int .i64 origin,.int .i64 number,.int .i64 aQ] 34));obtain ⟨O1,fh⟩:=ai ((Obj.cells #[.string (str aJ),pu,.int .i64 al,.bool aE,.string (str src),.int .i64 aN,qu,.int .i64 origin,.int .i64 number,.int .i64 aQ] 34));have aL:Below w w ((w.alloc O0).alloc O1):=((Below.refl _ _).alloc (Nat.le_refl _) _).alloc (by simp) _;have n0:=gq (o':=O1) (heap_alloc_new w O0);have n1:=heap_alloc_new (w.alloc O0) O1;rw [show (w.alloc O0).heap.size=w.heap.size+1 by simp] at n1;have bu:=ab aL;have N0:=ab n0;have N1:=ab n1;rw [←m9,←fh] at bu N0 N1;clear aL n0 n1 m9 fh;have HR:=ab hR;have HP:=ab (hp.below bu.o_);have nh:=ab (yw.below bu.o_);have HQ:=ab (hq.below bu.o_);have nL:=ab (qZ.below bu.o_);have mB:Hid (B9 props props=true):=decide_eq_true rfl;clear hp hq yw qZ hR;go_enter func152,ntmps152;go_wp2_with (first
  |(go_at_call 53;go_must (refine KH _ _ az az _ HP.o_ nh.o_ _ ?_);rw [beq_self_eq_true])
  |(go_at_call 169;go_must (refine OF _ _ props props true mB.o_ _ HQ.o_ nL.o_ _ ?_);intro w3 an;have r0:=aA N0.o_ an;have r1:=aA N1.o_ an;have c7:=af w3 _ 7 _ _ _ r0;have c8:=af w3 _ 8 _ _ _ r0;have c9:=af w3 _ 9 _ _ _ r0;have d7:=af w3 _ 7 _ _ _ r1;have d8:=af w3 _ 8 _ _ _ r1;have d9:=af w3 _ 9 _ _ _ r1))
 all_goals exact HR.o_ _ (aD bu.o_ an bu.o_.size)
theorem ahV(a b:Option Addr)(c e:Nat)(w:World)(R:Ending→World→Prop)
 (hR:R (.returned (.bool true)) w):
 Calls prog 153 #[.slice a 0 c,.slice b 0 e] w R:=by
 have HR:=ab hR;clear hR;go_enter func153,ntmps153;go_wp2;refine wp_loop_rounds 1 ?_;rw [rounds_succ];go_wp2;exact HR.o_
theorem ahW(t:List UInt8)(a b d a2 b2 d2:Option Addr)(c e f c2 e2 f2:Nat)(ha:Z0 a c)(hb:Z0 b e)(Yg:Z0 a2 c2)(ah:Z0 b2 e2)(w:World)(R:Ending→World→Prop)
 (hR:∀w',Below w w w'→R (.returned (.bool true)) w'):
 Calls prog 114 #[(Value.agg #[.string (str (gI t).note.aJ),(.slice a 0 c),.int .i64 (gI t).note.al,.bool (gI t).note.aE,.string (str (gI t).note.src),.int .i64 (gI t).note.aN,(.slice b 0 e),.int .i64 (gI t).note.origin,.int .i64 (gI t).note.number,.int .i64 (gI t).note.aQ,.int .i64 (gI t).al,.bool (gI t).aM,(.slice d 0 f),.string (str (gI t).share)]),(Value.agg #[.string (str (gI t).note.aJ),(.slice a2 0 c2),.int .i64 (gI t).note.al,.bool (gI t).note.aE,.string (str (gI t).note.src),.int .i64 (gI t).note.aN,(.slice b2 0 e2),.int .i64 (gI t).note.origin,.int .i64 (gI t).note.number,.int .i64 (gI t).note.aQ,.int .i64 (gI t).al,.bool (gI t).aM,(.slice d2 0 f2),.string (str (gI t).share)])] w R:=by
 have HR:=ab hR;unfold gI gN;simp only;obtain ⟨O0,m9⟩:=ai ((Obj.cells #[.string (str t),.slice a 0 c,.int .i64 0,.bool false,.string (str []),.int .i64 0,.slice b 0 e,.int .i64 0,.int .i64 0,.int .i64 0,.int .i64 2,.bool false,.slice d 0 f,.string (str [])] 36));obtain ⟨O1,fh⟩:=ai ((Obj.cells #[.string (str t),.slice a2 0 c2,.int .i64 0,.bool false,.string (str []),.int .i64 0,.slice b2 0 e2,.int .i64 0,.int .i64 0,.int .i64 0,.int .i64 2,.bool false,.slice d2 0 f2,.string (str [])] 36));have aw:Below w w ((w.alloc O0).alloc O1):=((Below.refl _ _).alloc (Nat.le_refl _) _).alloc (by simp) _;have n0:=gq (o':=O1) (heap_alloc_new w O0);have n1:=heap_alloc_new (w.alloc O0) O1;rw [show (w.alloc O0).heap.size=w.heap.size+1 by simp] at n1;have bP:=ab aw;have N0:=ab n0;have N1:=ab n1;rw [←m9,←fh] at bP N0 N1;have HA:=ab ha;have cK:=ab hb;have pB:=ab Yg;have ahX:=ab ah;clear aw n0 n1 m9 fh hR ha hb Yg ah;go_enter func114,ntmps114;go_wp2_with (first
  |(go_at_call 152;go_must (refine ahU (gN t) _ _ _ _ _ (HA.o_.bs _) (cK.o_.ps _) (pB.o_.bs _) (ahX.o_.ps _) _ ?_);intro w3 an;have r0:=aA N0.o_ an;have r1:=aA N1.o_ an;have gw:=af w3 _ 10 _ _ _ r0;have kq:=af w3 _ 11 _ _ _ r0;have jm:=af w3 _ 12 _ _ _ r0;have jP:=af w3 _ 13 _ _ _ r0;have d10:=af w3 _ 10 _ _ _ r1;have d11:=af w3 _ 11 _ _ _ r1;have d12:=af w3 _ 12 _ _ _ r1;have d13:=af w3 _ 13 _ _ _ r1;have bU:=ab (aD bP.o_ an bP.o_.size);clear an r0 r1)
  |(go_at_call 153;go_must (refine ahV _ _ _ _ _ _ ?_)))
 all_goals exact HR.o_ _ bU.o_
def Yh(state:Int)(x:Im):Prop:=(state=1∧x.al=1)∨(state=2∧x.al=2)∨(state=3∧∃t,x=gI t)
theorem QP{P:Prop}(h:P:=by
 have hA1:A<A+1:=Nat.lt_succ_self _;have Dl:w.heap.size≤A+1:=by have:=Bw.o_;omega
 exact HR.o_ da dc pa pc ia ic _ ⟨bN (cY DF.o_.p iE (ik DF.o_.p hA1)) Dl,(DF.o_.q.qI iE hA1).mono Dl,bN (cY DF.o_.i iE (ik DF.o_.i hA1)) Dl⟩ (DG.o_.other iE jj.o_.symm (below_setRow DG.o_.low (Nat.le_trans DG.o_.nn (Nat.le_of_lt lh.o_)) _)) (zL s_.o_ iE (Nat.le_of_eq Bw.o_))):P:=h
theorem ahY(N:Nat)(id state:Int)(x:Im)(hx:xb x)(hl:(jf x).length≤65535)(bS:0≤id)(cQ:id≤8)(b7:Yh state x)(r:List UInt8)(w0 w:World)(h:CR w0 106 N ⟨gE ⟨id,state,x⟩++r,false⟩ w)(hT:di w0)(R:Ending→World→Prop)
 (hR:∀da dc pa pc ia ic w',dJ w' w.heap.size (.slice da x.note.az.length dc) (.slice pa x.note.props.length pc) (.slice ia x.ids.length ic) x→CR w0 106 N ⟨r,false⟩ w'→w.grownBy w' (some N)→R (.returned (.agg (cD id state x da dc pa pc ia ic))) w'):
 Calls prog 50 #[.pointer (some ⟨N,0,none⟩)] w R:=by
 have HR:=ab hR;have HX:=ab hx;have HL:=ab hl;have ep:=ab b7;obtain ⟨m,hm,fV,lM⟩:∃m:Nat,state=(m:Int)∧1≤m∧m≤3:=by
  rcases b7 with ⟨rfl,_⟩|⟨rfl,_⟩|⟨rfl,_⟩
  ·exact ⟨1,rfl,by decide,by decide⟩
  ·exact ⟨2,rfl,by decide,by decide⟩
  ·exact ⟨3,rfl,by decide,by decide⟩
 have QQ:Hid (IntKind.i64.wrap (cz [b8 state])=state):=by
  show _=_;rw [hm];exact BG m (by omega)
 have QR:Hid (IntKind.i64.wrap (cz (aR (bj id) 2))=id):=ab (Hz 2 (by decide) id bS (by omega) (by omega));have h:CR w0 106 N ⟨aR (bj id) 2++([b8 state]++((cS (jf x)).1++r)),false⟩ w:=by
  have:=h;unfold gE at this
  simpa only [List.append_assoc] using this
 have HT:=ab hT;have aw:Below w w (w.alloc (Obj.cells lT 51)):=(Below.refl _ _).alloc (Nat.le_refl _) _;have hA1:=heap_alloc_new w (Obj.cells lT 51);have gg:=ab (h.below aw);have Ac:N<w.heap.size:=h.lt;have Bv:Hid (w.grownBy (w.alloc (Obj.cells lT 51)) (some N)):=iT aw;have lh:=ab Ac;have fV:Hid True:=trivial;clear hR hx hl b7 hT h aw Ac hm fV lM;go_enter func50,ntmps50;go_upto_region 1 with fail
 generalize w.alloc (Obj.cells lT 51)=w1 at gg hA1 Bv⊢;obtain ⟨A,xn⟩:=ai w.heap.size;rw [xn] at hA1 lh⊢;have jj:Hid (A≠N):=ne_of_gt lh.o_;have C4:=ab hA1;have Bw:=ab xn;clear hA1 xn;go_upto_region 2 with (first
  |(have hq:=fV;go_at_call 45;go_must (refine ve N 2 (aR (bj id) 2) _ (eU _ _) id QR.o_ w0 _ gg.o_ _ ?_);intro w2 b_ bM;have ek:=ab b_;have pB:=ab (dQ bM C4.o_ jj.o_);have oL:=ab (bO Bv.o_ bM);clear hq fV b_ bM)
  |(go_at_call 45;go_must (refine ve N 1 [b8 state] _ rfl state QQ.o_ w0 _ ek.o_ _ ?_);intro w3 j5 cB;have tN:=ab j5;have yF:=ab (dQ cB pB.o_ jj.o_);have rO:=ab (bO oL.o_ cB);have ahZ:Hid (A+1≤w3.heap.size):=ab (Array.getElem?_eq_some_iff.1 yF.o_).1;clear j5 cB)
  |(go_at_call 49;go_must (refine X7 N x HX.o_ HL.o_ _ w0 _ tN.o_ HT.o_ _ ?_);intro da dc pa pc ia ic w4 Ho iq cT;have Qs:=ab (Ho.mono ahZ.o_);have mH:=ab iq;have yy:=ab (dQ cT yF.o_ jj.o_);have oj:=ab (bO rO.o_ cT);clear Ho iq cT))
 have dz:=heap_alloc_new w4 (Obj.cells (cD id state x da dc pa pc ia ic) 51);have aC:=(Below.refl w4 w4).alloc (Nat.le_refl _) (Obj.cells (cD id state x da dc pa pc ia ic) 51);generalize w4.alloc (Obj.cells (cD id state x da dc pa pc ia ic) 51)=w5 at dz aC⊢;have ao:=mH.o_.lt;obtain ⟨T,dN⟩:=ai w4.heap.size;rw [dN] at dz ao⊢;have lu:Hid (T≠N):=ne_of_gt ao;have d2:=af w5 T 2 _ _ _ dz;have mK:=ab dz;have pR:=ab (mH.o_.below aC);have Bn:=ab (aA yy.o_ aC);have Dk:=ab (Qs.o_.below aC);have rM:=ab (bO oj.o_ (iT aC));clear dz aC dN ao;go_upto_region 3 with fail
 have Fp:=heap_alloc_new w5 (Obj.cells #[.string (str x.note.aJ),.slice none 0 0,.int .i64 0,.bool false,.string ⟨#[]⟩,.int .i64 0,.slice none 0 0,.int .i64 0,.int .i64 0,.int .i64 0,.int .i64 2,.bool false,.slice none 0 0,.string ⟨#[]⟩] 36);have bg:=(Below.refl w5 w5).alloc (Nat.le_refl _) (Obj.cells #[.string (str x.note.aJ),.slice none 0 0,.int .i64 0,.bool false,.string ⟨#[]⟩,.int .i64 0,.slice none 0 0,.int .i64 0,.int .i64 0,.int .i64 0,.int .i64 2,.bool false,.slice none 0 0,.string ⟨#[]⟩] 36);generalize w5.alloc (Obj.cells #[.string (str x.note.aJ),.slice none 0 0,.int .i64 0,.bool false,.string ⟨#[]⟩,.int .i64 0,.slice none 0 0,.int .i64 0,.int .i64 0,.int .i64 0,.int .i64 2,.bool false,.slice none 0 0,.string ⟨#[]⟩] 36)=w6 at Fp bg⊢;obtain ⟨G,Yi⟩:=ai w5.heap.size;rw [Yi] at Fp⊢;have iA:=aA mK.o_ bg;obtain ⟨t0,t1,t2,t3,t4,t5,t6,t7,t8,t9,t10,t11,t12,t13,t14,t15⟩:=ji iA;obtain ⟨⟨i0,i1,i2,i3,i4,i5,i6⟩,i7,i8,i9,i10,i11,i12,i13⟩:=sx (w:=w6) Fp;have oC:=pR.o_.below bg;obtain ⟨la,lc,CY,_⟩:=oC.row;have c1:w6.cell? ⟨N,1,none⟩=some (.bool false):=af w6 N 1 _ _ _ CY;have nB:=ab iA;have mP:=ab oC;have xd:=ab (aA Bn.o_ bg);have xo:=ab (Dk.o_.below bg);have vD:=ab (bO rM.o_ (iT bg));clear Fp bg Yi iA oC CY d2;have QS:w6.frozen? ⟨N,1,none⟩=false:=by
  obtain ⟨_,_,hr,_⟩:=mP.o_.row;exact aB hr 1
 have aqE:=cQ;rcases ep.o_ with ⟨rfl,hq⟩|⟨rfl,hq⟩|⟨rfl,t,rfl⟩
 ·have qZ:(x.al != 1)=false:=by rw [hq];rfl
  obtain ⟨w7,rfl⟩:∃y,y=w6:=⟨_,rfl⟩
  have tT:=mP;have qg:=nB;have tO:=xd;have vH:=vD;have qp:=xo;go_upto_region 10 with fail
  clear hq qZ t0 t1 t2 t3 t4 t5 t6 t7 t8 t9 t10 t11 t12 t13 t14 t15 i0 i1 i2 i3 i4 i5 i6 i7 i8 i9 i10 i11 i12 i13 c1 QS;have dk:=bL w7 ⟨N,1,none⟩ (.bool false);have j6:=tT.o_.mark false;have ig:=dQ dk qg.o_ lu.o_;have ox:=dQ dk tO.o_ jj.o_;have sd:=bO vH.o_ dk;have kM:N<A+1:=by have:=lh.o_;omega
  have xw:dJ (w7.setCell ⟨N,1,none⟩ (.bool false)) (A+1) (.slice da x.note.az.length dc) (.slice pa x.note.props.length pc) (.slice ia x.ids.length ic) x:=⟨cY qp.o_.p dk (ik qp.o_.p kM),qp.o_.q.qI dk kM,cY qp.o_.i dk (ik qp.o_.i kM)⟩
  generalize w7.setCell ⟨N,1,none⟩ (.bool false)=w8 at j6 ig ox sd xw⊢;obtain ⟨Yj,Yk,l9,_⟩:=j6.row;have BI:w8.cell? ⟨N,1,none⟩=some (.bool false):=af w8 N 1 _ _ _ l9;have f18:=aB l9 1;have d0:=af w8 T 0 _ _ _ ig;have yG:=ab ig;have qM:=ab j6;have xf:=ab ox;have p8:=ab sd;have qt:=ab xw;clear dk j6 ig ox sd xw l9;have Yl:¬id > 8:=by omega
  go_upto_region 11 with fail
  have bo:=bL w8 ⟨N,1,none⟩ (.bool false);have nA:=qM.o_.mark false;have iL:=dQ bo yG.o_ lu.o_;have xx:=dQ bo xf.o_ jj.o_;have xy:=bO p8.o_ bo;have xz:dJ (w8.setCell ⟨N,1,none⟩ (.bool false)) (A+1) (.slice da x.note.az.length dc) (.slice pa x.note.props.length pc) (.slice ia x.ids.length ic) x:=⟨cY qt.o_.p bo (ik qt.o_.p kM),qt.o_.q.qI bo kM,cY qt.o_.i bo (ik qt.o_.i kM)⟩
  generalize w8.setCell ⟨N,1,none⟩ (.bool false)=w9 at nA iL xx xy xz⊢;have qW:=ab iL;have DG:=ab nA;have yN:=ab xx;have s_:=ab xy;have DF:=ab xz;clear bo nA iL xx xy xz BI f18 d0;go_wp2_with (first
   |(refine wpList_load_row (o:=⟨some 69,.load 51 (.tmp 3),_,_,_,_⟩) (by rfl) 51 (.tmp 3) (by rfl) (T) (by rfl) 51 _ (0,0) _ (qW).o_ (underlying51) (by rfl) (by kernel_rfl) ?_)
   |(refine wpList_store_row (o:=⟨none,.store 51 (.tmp 2) (.tmp 69),_,_,_,_⟩) (by rfl) 51 (.tmp 2) (.tmp 69) (by rfl) (A) _ (by rfl) (by rfl) 51 _ (yN).o_ (by kernel_rfl) (by rfl) (by simp [Value.oneCell']) ?_))
  refine bodyPost_ret (results_cell_row rfl _ _ A 51 (cD id 1 x da dc pa pc ia ic) (0,0) _ rfl (setRow_heap _ A _ _ _ _ yN.o_) underlying51 rfl (by kernel_rfl)) rfl ?_;have iE:=zM w9 A (cD id 1 x da dc pa pc ia ic);exact QP
 ·have qZ:(x.al != 2)=false:=by rw [hq];rfl
  obtain ⟨w7,rfl⟩:∃y,y=w6:=⟨_,rfl⟩
  have tT:=mP;have qg:=nB;have tO:=xd;have vH:=vD;have qp:=xo;go_upto_region 10 with fail
  clear hq qZ t0 t1 t2 t3 t4 t5 t6 t7 t8 t9 t10 t11 t12 t13 t14 t15 i0 i1 i2 i3 i4 i5 i6 i7 i8 i9 i10 i11 i12 i13 c1 QS;have dk:=bL w7 ⟨N,1,none⟩ (.bool false);have j6:=tT.o_.mark false;have ig:=dQ dk qg.o_ lu.o_;have ox:=dQ dk tO.o_ jj.o_;have sd:=bO vH.o_ dk;have kM:N<A+1:=by have:=lh.o_;omega
  have xw:dJ (w7.setCell ⟨N,1,none⟩ (.bool false)) (A+1) (.slice da x.note.az.length dc) (.slice pa x.note.props.length pc) (.slice ia x.ids.length ic) x:=⟨cY qp.o_.p dk (ik qp.o_.p kM),qp.o_.q.qI dk kM,cY qp.o_.i dk (ik qp.o_.i kM)⟩
  generalize w7.setCell ⟨N,1,none⟩ (.bool false)=w8 at j6 ig ox sd xw⊢;obtain ⟨Yj,Yk,l9,_⟩:=j6.row;have BI:w8.cell? ⟨N,1,none⟩=some (.bool false):=af w8 N 1 _ _ _ l9;have f18:=aB l9 1;have d0:=af w8 T 0 _ _ _ ig;have yG:=ab ig;have qM:=ab j6;have xf:=ab ox;have p8:=ab sd;have qt:=ab xw;clear dk j6 ig ox sd xw l9;have Yl:¬id > 8:=by omega
  go_upto_region 11 with fail
  have bo:=bL w8 ⟨N,1,none⟩ (.bool false);have nA:=qM.o_.mark false;have iL:=dQ bo yG.o_ lu.o_;have xx:=dQ bo xf.o_ jj.o_;have xy:=bO p8.o_ bo;have xz:dJ (w8.setCell ⟨N,1,none⟩ (.bool false)) (A+1) (.slice da x.note.az.length dc) (.slice pa x.note.props.length pc) (.slice ia x.ids.length ic) x:=⟨cY qt.o_.p bo (ik qt.o_.p kM),qt.o_.q.qI bo kM,cY qt.o_.i bo (ik qt.o_.i kM)⟩
  generalize w8.setCell ⟨N,1,none⟩ (.bool false)=w9 at nA iL xx xy xz⊢;have qW:=ab iL;have DG:=ab nA;have yN:=ab xx;have s_:=ab xy;have DF:=ab xz;clear bo nA iL xx xy xz BI f18 d0;go_wp2_with (first
   |(refine wpList_load_row (o:=⟨some 69,.load 51 (.tmp 3),_,_,_,_⟩) (by rfl) 51 (.tmp 3) (by rfl) (T) (by rfl) 51 _ (0,0) _ (qW).o_ (underlying51) (by rfl) (by kernel_rfl) ?_)
   |(refine wpList_store_row (o:=⟨none,.store 51 (.tmp 2) (.tmp 69),_,_,_,_⟩) (by rfl) 51 (.tmp 2) (.tmp 69) (by rfl) (A) _ (by rfl) (by rfl) 51 _ (yN).o_ (by kernel_rfl) (by rfl) (by simp [Value.oneCell']) ?_))
  refine bodyPost_ret (results_cell_row rfl _ _ A 51 (cD id 2 x da dc pa pc ia ic) (0,0) _ rfl (setRow_heap _ A _ _ _ _ yN.o_) underlying51 rfl (by kernel_rfl)) rfl ?_;have iE:=zM w9 A (cD id 2 x da dc pa pc ia ic);exact QP
 ·have cm:Z0 da dc:=afH (cp (l:= []) xo.o_.p);have kF:Z0 pa pc:=afI (xo.o_.q.ps (fun _ h=>by cases h));have sN:=ab cm;have ah0:=ab kF;clear cm kF;go_upto_region 10 with (first
   |(go_at_call 114;go_must (refine ahW t da pa ia none none none dc pc ic 0 0 0 sN.o_ ah0.o_ Z0.nil Z0.nil _ _ ?_);intro w7 aZ;have sO:=mP.o_.below aZ;have tT:=ab sO;have qg:=ab (aA nB.o_ aZ);have tO:=ab (aA xd.o_ aZ);have vH:=ab (bO vD.o_ (iT aZ));have qp:=ab (xo.o_.below aZ);obtain ⟨aqF,aqG,uV,_⟩:=sO.row;have f17:=aB uV 1;have Ly:w7.cell? ⟨N,1,none⟩=some (.bool false):=af w7 N 1 _ _ _ uV;clear aZ sO uV c1 QS t0 t1 t2 t3 t4 t5 t6 t7 t8 t9 t10 t11 t12 t13 t14 t15 i0 i1 i2 i3 i4 i5 i6 i7 i8 i9 i10 i11 i12 i13))
  clear Ly f17;have dk:=bL w7 ⟨N,1,none⟩ (.bool false);have j6:=tT.o_.mark false;have ig:=dQ dk qg.o_ lu.o_;have ox:=dQ dk tO.o_ jj.o_;have sd:=bO vH.o_ dk;have kM:N<A+1:=by have:=lh.o_;omega
  have xw:dJ (w7.setCell ⟨N,1,none⟩ (.bool false)) (A+1) (.slice da (gI t).note.az.length dc) (.slice pa (gI t).note.props.length pc) (.slice ia (gI t).ids.length ic) (gI t):=⟨cY qp.o_.p dk (ik qp.o_.p kM),qp.o_.q.qI dk kM,cY qp.o_.i dk (ik qp.o_.i kM)⟩
  generalize w7.setCell ⟨N,1,none⟩ (.bool false)=w8 at j6 ig ox sd xw⊢;obtain ⟨Yj,Yk,l9,_⟩:=j6.row;have BI:w8.cell? ⟨N,1,none⟩=some (.bool false):=af w8 N 1 _ _ _ l9;have f18:=aB l9 1;have d0:=af w8 T 0 _ _ _ ig;have yG:=ab ig;have qM:=ab j6;have xf:=ab ox;have p8:=ab sd;have qt:=ab xw;clear dk j6 ig ox sd xw l9;have Yl:¬id > 8:=by omega
  go_upto_region 11 with fail
  have bo:=bL w8 ⟨N,1,none⟩ (.bool false);have nA:=qM.o_.mark false;have iL:=dQ bo yG.o_ lu.o_;have xx:=dQ bo xf.o_ jj.o_;have xy:=bO p8.o_ bo;have xz:dJ (w8.setCell ⟨N,1,none⟩ (.bool false)) (A+1) (.slice da (gI t).note.az.length dc) (.slice pa (gI t).note.props.length pc) (.slice ia (gI t).ids.length ic) (gI t):=⟨cY qt.o_.p bo (ik qt.o_.p kM),qt.o_.q.qI bo kM,cY qt.o_.i bo (ik qt.o_.i kM)⟩
  generalize w8.setCell ⟨N,1,none⟩ (.bool false)=w9 at nA iL xx xy xz⊢;have qW:=ab iL;have DG:=ab nA;have yN:=ab xx;have s_:=ab xy;have DF:=ab xz;clear bo nA iL xx xy xz BI f18 d0;go_wp2_with (first
   |(refine wpList_load_row (o:=⟨some 69,.load 51 (.tmp 3),_,_,_,_⟩) (by rfl) 51 (.tmp 3) (by rfl) (T) (by rfl) 51 _ (0,0) _ (qW).o_ (underlying51) (by rfl) (by kernel_rfl) ?_)
   |(refine wpList_store_row (o:=⟨none,.store 51 (.tmp 2) (.tmp 69),_,_,_,_⟩) (by rfl) 51 (.tmp 2) (.tmp 69) (by rfl) (A) _ (by rfl) (by rfl) 51 _ (yN).o_ (by kernel_rfl) (by rfl) (by simp [Value.oneCell']) ?_))
  refine bodyPost_ret (results_cell_row rfl _ _ A 51 (cD id 3 (gI t) da dc pa pc ia ic) (0,0) _ rfl (setRow_heap _ A _ _ _ _ yN.o_) underlying51 rfl (by kernel_rfl)) rfl ?_;have iE:=zM w9 A (cD id 3 (gI t) da dc pa pc ia ic);exact QP
end Go.Proofs.YtgimbocoamnkjaaGreatDoor
