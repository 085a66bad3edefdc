/- A part of the proof of SessionReads; no conditions. -/
import Derived.Test.YtgimbocoamnkjaaGreatDoorM12
import Derived.Deep.CutBlock
set_option maxRecDepth 100000
set_option maxHeartbeats 16000000
namespace Go.Proofs.YtgimbocoamnkjaaGreatDoor
open _root_.Go.Proofs.Tryz
open List (getElem_mem)
variable{T t:Nat}{fr:Nat×Nat}{Y:av}{a d:Value}{w:World}
open Go.RowKit
def dF(x:Sb):List UInt8:=(b9 x.filter).1++ [b8 (x.ah+(if x.kn then 4 else 0)+(if x.kq then 8 else 0)+x.eX*16)]++aY (bz x.id) 4
def d_(x:Im):List UInt8:=(dn (db x)).1
def fB(f:Fl):List UInt8:=aY (bz f.id) 2++ [b8 f.state]++(dn (db f.item)).1
def iD(n:Int):List UInt8:=aY (bz n) 2
def Ir(gF:List UInt8)(cI ends:Int)(ej:Bool)(n:Nat):List UInt8:=(b9 gF).1++aY (bz cI) 8++aY (bz ends) 8++ [b8 (if ej then 1 else 0)]++ [b8 (n:Int)]
def kP(s:az):List UInt8:=
 Ir s.gF s.cI s.ends s.ej s.al.length++s.al.flatMap dF++ [b8 (s.queue.length:Int)]++s.queue.flatMap d_++ [b8 (s.ag.length:Int)]++s.ag.flatMap fB++ [b8 (s.aB.length:Int)]++(bA s.aB).flatMap iD
theorem DJ{α:Type}(f:α→List UInt8)(l:List α)(k:Nat):((l.take k).flatMap f).length≤(l.flatMap f).length:=by
 conv=>rhs;rw[←yI k l,jZ,aK]
 omega
theorem DK{α:Type}(f:α→List UInt8)(l:List α)(k:Nat)(G:k<l.length):(l.take (k+1)).flatMap f=(l.take k).flatMap f++f l[k]:=by
 rw[kF G,jZ];simp
structure abj(x:Sb):Prop where
 q0:0≤x.ah
 q1:x.ah≤2
 h0:0≤x.eX
 h1:x.eX≤2
 f:x.filter.length≤65535
theorem Cc{b c e f:Value}(h:w.heap[T]? =some (.cells #[a,b,c,d,e,f] t fr)):w.cell? ⟨T,1,none⟩=some b∧w.cell? ⟨T,2,none⟩=some c∧w.cell? ⟨T,3,none⟩=some d∧w.cell? ⟨T,4,none⟩=some e∧w.cell? ⟨T,5,none⟩=some f:=
 ⟨D 1 h,D 2 h,D 3 h,D 4 h,D 5 h⟩
structure LB(w wr:World)(v:Value)(P:List UInt8):Prop where
 own:wr.ownsRow w 5 1 v P.length (bv P)
 low:Below w w wr
theorem LB.byte{w9:World}{c:Nat}{P:List UInt8}{n:Int}(ho:w9.ownsRow w 5 1 (.slice Y (P.length+1) c) (P.length+1) (bv P++ [Value.int .u8 (IntKind.u8.wrap n)]))(U:Below w w w9):LB w w9 (.slice Y (P++ [b8 n]).length c) (P++ [b8 n]):=by
 rw[zb] at ho;refine⟨?_,U⟩;rw[aK,qf];exact ho
theorem LB.list{w9:World}{c:Nat}{P Q:List UInt8}(ho:w9.ownsRow w 5 1 (.slice Y (P.length+Q.length) c) (P.length+Q.length) (bv P++bv Q))(U:Below w w w9):LB w w9 (.slice Y (P++Q).length c) (P++Q):=by
 refine⟨?_,U⟩;rw[aK,qf];exact ho
theorem aln(S:Nat)(s:az)(mz:s.gF.length≤100000)(x_:∀x∈s.al,abj x)(hq:∀x∈s.queue,(eG x.note).length≤65535∧(db x).length≤65535∧(x.note.props.flatMap bR).length≤65535∧x.ids.length≤255)(hf:∀f∈s.ag,(eG f.item.note).length≤65535∧(db f.item).length≤65535∧(f.item.note.props.flatMap bR).length≤65535∧f.item.ids.length≤255)
 (hn:s.al.length≤100000∧s.queue.length≤100000∧s.ag.length≤100000∧s.aB.length≤100000) (w:World) (M:Nat→Prop) (h:SR w M S s) (hT:dy w)
 (aw0:List UInt8) (hY:kP s=aw0) (kK:aw0.length≤140000000) (R:ak)
 (I:∀Y c w',w'.ownsRow w 5 1 (.slice Y aw0.length c) aw0.length (bv aw0)→Below w w w'→R (.returned (.slice Y aw0.length c)) w'):
 Calls prog 14 #[zq S] w R:=by
 obtain⟨HR,HT,AO⟩:=bX I hT h;obtain⟨gF,cI,ends,ej,al,queue,ag,bJ,aB⟩:=s;simp only at mz x_ hq hf hn;obtain⟨NB,MB,GB,GM,sv,qv,fv,F⟩:=h;obtain⟨jn,Cd⟩:=ai al.length;have pg:=F.W;simp only at pg;rw[Cd] at pg;obtain⟨sa,sc,yT⟩:=cR pg;subst yT;have nj:=Z F.hS;obtain⟨O_,Ce,HX,DL,HQ,HF,HN⟩:=qV pg Cd F x_ hq hf hn;have c1:=(ef F.hS).1.2.1;obtain⟨⟨CC,ce⟩,DM⟩:∃q,b9 gF=q:=⟨_,rfl⟩
 obtain⟨P1,zM⟩:=ai (aY (bz cI) 8);obtain⟨P2,yd⟩:=ai (aY (bz ends) 8);obtain⟨HH,FO⟩:=ai (Ir gF cI ends ej jn);obtain⟨ON,FP⟩:∃z:Int,(if ej then 1 else 0)=z:=⟨_,rfl⟩
 have It: [CC,P1,P2,[b8 ON],[b8 (jn:Int)]].flatten=HH:=by
  rw[←FO];unfold Ir;simp only[DM,zM,yd,FP];simp
 have FQ:HH++al.flatMap dF++ [b8 (queue.length:Int)]++queue.flatMap d_++ [b8 (ag.length:Int)]++ag.flatMap fB++ [b8 (aB.length:Int)]++(bA aB).flatMap iD=aw0:=by
  rw[←hY,←FO];unfold kP;simp only[Cd]
 have KW:HH.length+(al.flatMap dF).length+(queue.flatMap d_).length+(ag.flatMap fB).length+((bA aB).flatMap iD).length+3=aw0.length:=by
  rw[←FQ];simp only[aK,ey,gi]
  omega
 have abk:HH.length≤140000000:=by omega
 have BT:=Z FP;have AV:=Z DM;have wW:Hid (eC (bz cI) 8=P1):=by show _=_;rw[←zM];rfl
 have mU:Hid (eC (bz ends) 8=P2):=by show _=_;rw[←yd];rfl
 obtain⟨FR,zk,xS,lv,alo⟩:=jq It FQ KW kK abk;have alp:IntKind.u64.wrap cI=(bz cI:Int):=by have:=Dc cI;simpa using this
 have abl:IntKind.u64.wrap ends=(bz ends:Int):=by have:=Dc ends;simpa using this
 clear FP I hT F DM zM yd FO It abk pg Cd x_ hq hf hn FQ KW kK hY;go_enter func14,ntmps14;go_wp2_with (first
  |(go_at_call 54;go_must(refine Db gF CC ce AV.O _ (by omega) HT.O _ ?_);intro ta tc w2 jx aj;have jH:=Z (b_ jx);have bn:=Z aj;have N2:=Z (aA nj.O aj);clear jx aj))
 have gL:Below w2 w2 w2.drew:=bq _;have dK:=aA N2.O gL;have fI:=jH.O.below gL;go_cut [5] from 17 to 168 (fun sb wx=>∃(ja:av)(jc:Nat),sb= .slice ja HH.length jc∧Hid (wx.ownsRow w 5 1 (.slice ja HH.length jc) HH.length (bv HH))∧Hid (Below w2 w2 wx))
 case first=>
  go_region_held3 (fun x=>x.cell? ⟨S,2,none⟩=some (.int .i64 cI)∧x.cell? ⟨S,3,none⟩=some (.int .i64 ends)∧x.cell? ⟨S,4,none⟩=some (.bool ej)∧x.cell? ⟨S,5,none⟩=some (.slice sa jn sc))
   (first|with_reducible exact Hv dK|with_reducible exact Hv iC|with_reducible exact Hv iq|with_reducible exact Hv dB|with_reducible exact Hv jy|with_reducible exact Hv iV|go_keep)
   (first
    |(have hq:=gL;go_at_call_of 56 (Value.int .u64 (bz cI:Int));refine yW (bz cI) (Dd _) 8 P1 wW.O _ _ ?_;intro aa ac w3 bN an;have h1:=b_ bN;have iB:=fI.below an;have iC:=aA dK an;have o_:=ed gL an;clear hq gL)
    |(go_at_call_of 56 (Value.int .u64 (bz ends:Int));refine yW (bz ends) (Dd _) 8 P2 mU.O _ _ ?_;intro ba bc w4 eQ ao;have h2:=b_ eQ;replace h1:=h1.below ao;have fy:=iB.below ao;have iq:=aA iC ao;have rl:=ed o_ ao)
    |(go_at_call 58;refine SL ej 1 ON BT.O _ _ ?_)
    |(have hq:=rl;go_at_call 57;refine NH ON _ _ ?_;intro ca cc w5 gC aE;have h3:=b_ gC;replace h1:=h1.below aE;replace h2:=h2.below aE;have pP:=fy.below aE;have dB:=aA iq aE;have xQ:=ed rl aE;clear hq rl)
    |(go_at_call 57;refine NH (jn:Int) _ _ ?_;intro da dc w6 nF bd;have h4:=b_ nF;replace h1:=h1.below bd;replace h2:=h2.below bd;replace h3:=h3.below bd;have rP:=pP.below bd;have jy:=aA dB bd;have lJ:=ed xQ bd)
    |(go_at_call 55;have my:=Z (fun o=>ed lJ (aD w6 o):∀o:Obj,Below w2 w2 (w6.alloc o));have pK:=ajH (e:=22) (g:=w6.heap.size) rfl rP h1 h2 h3 h4;refine pC _ _ HH FR.O _ pK (by have:=alo.O;omega) _ ?_;clear pK;intro ja jc w7 gD bp;have HZ:=Z (fun o=>aJ bn.O.size (my.O o).size);have gE:=Z (ed (my.O _) bp);have iV:=aA N2.O gE.O;have th:=Z gD;clear bp gD my lJ rP h1 h2 h3 h4 jy))
  all_goals
   go_wp2_with fail;go_meet;exact⟨ja,jc,rfl,Z (cm th.O (HZ.O _)),gE⟩
 obtain⟨ja,jc,rfl,zF,wV⟩:=hcut;obtain⟨w8,rfl⟩:∃x,x=wc:=⟨_,rfl⟩
 have oE:Hid (LB w w8 (.slice ja HH.length jc) HH):=Z ⟨zF.O,aQ bn.O wV.O⟩;have c5:=D 5 (aA N2.O wV.O);clear gL dK fI alp abl zF wV jH bn N2 FR wW mU AV BT;go_wp2_with fail;have O':=Z (fun (k:Nat)(_:k≤jn)(P:List UInt8) (hP:P=HH++(al.take k).flatMap dF)=>(by
  have h1:=congrArg List.length hP;have h2:=DJ dF al k;have h3:=xS.O;have h4:=lv.O;rw[aK] at h1
  omega:P.length≤140000000))
 go_loopg [5,7,8,9,57] jn (fun gn b _ _ _ i wr=>∃(k:Nat)(P:List UInt8)(ba:av)(bc:Nat),k≤jn∧gn=jn - k∧b= .slice ba P.length bc∧i= .int .i64 k∧Hid (P=HH++(al.take k).flatMap dF)∧Hid (LB w wr (.slice ba P.length bc) P))
 case atStart=>exact⟨0,HH,ja,jc,bP _,by omega,rfl,rfl,Z (by simp),oE⟩
 case round=>
  obtain⟨k,P,ba,bc,G,rfl,rfl,rfl,HP,eb⟩:=hrel;obtain⟨wo,rfl⟩:∃x,x=wr:=⟨_,rfl⟩
  clear oE c5;by_cases au:k<jn
  ·have bo:(k:Int)<(jn:Int):=by omega
   have DN:k<al.length:=by have:=Ce.O;omega
   have uQ:=aR O_.O eb.O.low;obtain⟨g,rfl⟩:=jF uQ (by omega);have bZ:∀j,j<6→wo.cell? ⟨g,k*6+j,none⟩=(aT al[k])[j]?:=fun j hj=>by
    have h1:=Ce.O;rw[uQ.cellAt (k*6+j) (by omega),kY 6 aT ij al k j DN hj]
   have jo:=DK dF al k DN;have nN:=DL.O _ (getElem_mem DN);obtain⟨x,F⟩:=ai (al[k]);rw[F] at bZ jo nN;have HC:Hid (∀j,j< (bH x:List Value).length→wo.cell? ⟨g,k*6+j,none⟩= (bH x:List Value)[j]?):=bZ;obtain⟨⟨FF,fe⟩,lM⟩:∃q,b9 x.filter=q:=⟨_,rfl⟩
   obtain⟨P4,oZ⟩:=ai (aY (bz x.id) 4);obtain⟨R1,ye⟩:∃z:Int,(if x.kn then 4 else 0)=z:=⟨_,rfl⟩
   obtain⟨R2,vz⟩:∃z:Int,(if x.kq then 8 else 0)=z:=⟨_,rfl⟩
   have TI:0≤R1∧R1≤4:=by rw[←ye];split<;>omega
   have TJ:0≤R2∧R2≤8:=by rw[←vz];split<;>omega
   obtain⟨N1,xb⟩:∃z:Int,x.ah+R1=z:=⟨_,rfl⟩
   obtain⟨N2,AX⟩:∃z:Int,N1+R2=z:=⟨_,rfl⟩
   obtain⟨N3,DF⟩:∃z:Int,x.eX*16=z:=⟨_,rfl⟩
   obtain⟨N4,uy⟩:∃z:Int,N2+N3=z:=⟨_,rfl⟩
   obtain⟨aw3,hJ⟩:=ai ([P,FF,[b8 N4],P4].flatten);have FT:aw3=HH++(al.take (k+1)).flatMap dF:=by
    rw[jo,←hJ,HP.O];unfold dF;simp only[lM,oZ,ye,vz,xb,AX,DF,uy];simp
   have yg:=O'.O (k+1) (by omega) aw3 FT;have e1:=nN.q0;have e2:=nN.q1;have e3:=nN.h0;have e4:=nN.h1;have qm:IntKind.i64.wrap (x.ah+R1)=N1:=by rw[IntKind.wrap_i64];omega
   have yY:IntKind.i64.wrap (N1+R2)=N2:=by rw[IntKind.wrap_i64];omega
   have Pa:IntKind.i64.wrap (x.eX*16)=N3:=by rw[IntKind.wrap_i64];omega
   have Pb:IntKind.i64.wrap (N2+N3)=N4:=by rw[IntKind.wrap_i64];omega
   have l8:IntKind.u64.wrap x.id=(bz x.id:Int):=by have:=Dc x.id;simpa using this
   have KD:Hid (eC (bz x.id) 4=P4):=by show _=_;rw[←oZ];rfl
   have vF:=Z lM;have iM:=Z nN.f;obtain⟨AY,DO,HJ,TK,oz⟩:=jq ye vz hJ FT yg;clear uQ bZ jo nN F lM oZ ye vz TI TJ xb AX DF uy hJ FT yg e1 e2 e3 e4;go_upto_block 1 with fail
   go_cut [5,7,8,9] from 59 to 89 (fun sb _ _ _ wx=>∃(ja:av)(jc:Nat),sb= .slice ja aw3.length jc∧Hid (LB w wx (.slice ja aw3.length jc) aw3))
   case first=>
    go_upto_region 6 with(first
     |(refine iT 60 64 59 g (k*6) ((bH x)) HC.O underlying64 ?_))
    have lN:=aH wo (.cells (bH x) 64);have cw:=aD wo (.cells (bH x) 64);generalize wo.alloc (.cells (bH x) 64)=w9 at lN cw⊢;obtain⟨T,cQ⟩:=ai wo.heap.size;rw[cQ] at lN⊢;have c0:=D 0 lN;have yj:=Z lN;have nG:=Z (cz eb.O.low cw eb.O.low.size);have alq:=Z ((b_ eb.O.own).below cw);clear lN cw cQ;go_upto_region 7 with(first
     |(go_at_call 54;go_must(refine Db x.filter FF fe vF.O _ (by have:=iM.O;omega) (HT.O.below nG.O) _ ?_);intro xa xc df oK lB;have uR:=Z (b_ oK);have nO:=Z (aQ nG.O lB);have alr:=Z (alq.O.below lB);have DP:=Z (aA yj.O lB);clear oK lB c0))
    have gL:Below df df df.drew:=bq _;have dK:=aA DP.O gL;have fI:=alr.O.below gL;have h10:=uR.O.below gL;go_region_held3 (fun z=>z.cell? ⟨T,1,none⟩=some (.int .i64 x.ah)∧z.cell? ⟨T,2,none⟩=some (.bool x.kn)∧z.cell? ⟨T,3,none⟩=some (.bool x.kq)∧z.cell? ⟨T,4,none⟩=some (.int .i64 x.eX)∧z.cell? ⟨T,5,none⟩=some (.int .i64 x.id))
     (first|with_reducible exact Cc dK|with_reducible exact Cc iC|with_reducible exact Cc iq|with_reducible exact Cc dB|go_keep)
     (first
      |(have hq:=gL;go_at_call_of 58 (Value.int .i64 4);refine SL x.kn 4 R1 AY.O _ _ ?_)
      |(go_at_call_of 58 (Value.int .i64 8);refine SL x.kq 8 R2 DO.O _ _ ?_)
      |(go_at_call 57;refine NH N4 _ _ ?_;intro ca cc w3 bN an;have h3:=b_ bN;have iB:=fI.below an;have h13:=h10.below an;have iC:=aA dK an;have o_:=ed gL an;clear gL)
      |(go_at_call 56;refine yW (bz x.id) (Dd _) 4 P4 KD.O _ _ ?_;intro da dc w4 eQ ao;have h4:=b_ eQ;have h34:=h3.below ao;have fy:=iB.below ao;have h14:=h13.below ao;have iq:=aA iC ao;have rl:=ed o_ ao)
      |(go_at_call 55;have my:=Z (fun o=>ed rl (aD w4 o):∀o:Obj,Below df df (w4.alloc o));have pK:=ZG (e:=22) (g:=w4.heap.size) rfl fy h14 h34 h4;refine pC _ _ aw3 HJ.O _ pK (by have:=oz.O;omega) _ ?_;clear pK;intro ja jc w5 gC aE;have HZ:=Z (fun o=>aJ nO.O.size (my.O o).size);have ib:=Z (ed (my.O _) aE);have dB:=aA DP.O ib.O;have kW:=Z gC;clear aE gC my rl fy h14 h34 h4 iq))
    all_goals
     go_wp2_with fail;go_meet;exact⟨ja,jc,rfl,Z ⟨cm kW.O (HZ.O _),aQ nO.O ib.O⟩⟩
   obtain⟨als,alu,rfl,KX⟩:=hcut;have Cf:=HN.O.1;go_wp2_with fail;go_roundg (jn - (k+1))
   case measure=>omega
   case rel=>exact⟨k+1,aw3,als,alu,by omega,rfl,rfl,by go_num,TK,KX⟩
  have jh:k=jn:=by omega
  have bo:¬(k:Int)<(jn:Int):=by omega
  have wW:Hid (P=HH++al.flatMap dF):=by
   show _=_;rw[HP.O,gy (by have:=Ce.O;omega)]
  clear jh HP;obtain⟨xd,Cg,zN,FU,_⟩:=HX.O.hq;obtain⟨nq,Ch⟩:=ai queue.length;simp only at Cg zN FU;rw[Ch] at zN;obtain⟨qa,qc,Kw⟩:=zN.shape;subst Kw;have KY:xd.length=nq:=by rw[←Ch,←Cg];simp
  obtain⟨KZ,K0,K_,zI,FV⟩:=jq zN FU Cg Ch KY;have alv:P.length≤130000000∨P.length≤140000000:= .inr (by
   have h1:=congrArg List.length wW.O;have h3:=xS.O;have h4:=lv.O;rw[aK] at h1
   omega)
  have FW:P.length+1≤140000000:=by
   exact aaK
  have c6:=D 6 (aA nj.O eb.O.low);have alw:=D 5 (aA nj.O eb.O.low);clear Cg zN FU Ch KY alv;go_wp2_with (first
   |((at_builtin;go_must(refine jr (by rfl) (.tmp 91) (.tmp 98) 22 (by rfl) w 5 (.int .u8 0) 1 1 underlying22 Tryz.cP rfl (by decide) ba P.length bc _ (by rfl) (eb.O.own.alloc (.cells #[Value.int .u8 (IntKind.u8.wrap ((nq:Int)))] 5)) (some ⟨wo,0,none⟩) 1 1 [Value.int .u8 (IntKind.u8.wrap ((nq:Int)))] (by rfl) (dO wo #[Value.int .u8 (IntKind.u8.wrap ((nq:Int)))] 5 1 1 rfl) (px _ _) (fun h=>by cases h) (by unfold maxLen;omega) (by omega) (aJ eb.O.low.size (by simp)) ?_);intro fK c9 w9 dA bW _;have cw:=bT (eb.O.low.alloc eb.O.low.size (.cells #[Value.int .u8 (IntKind.u8.wrap ((nq:Int)))] 5)) bW (aJ eb.O.low.size (by simp)) (eb.O.own.alloc (.cells #[Value.int .u8 (IntKind.u8.wrap ((nq:Int)))] 5));have jw:=Z (LB.byte dA cw);clear dA bW cw);have alx:=D 6 (aA nj.O jw.O.low)))
  have Pc:=Z (fun (k:Nat)(P2:List UInt8) (yd:P2=HH++al.flatMap dF++ [b8 (nq:Int)]++(queue.take k).flatMap d_)=>(by
   have h1:=congrArg List.length yd;have h2:=DJ d_ queue k;have h3:=xS.O;have h4:=lv.O;simp only[aK,ey,gi] at h1
   omega:P2.length+2≤140000000))
  clear c6 alw FW;go_loopg [5,11,105] nq (fun gn b _ i wr=>∃(k:Nat)(P2:List UInt8)(tI:av)(tJ:Nat),k≤nq∧gn=nq - k∧b= .slice tI P2.length tJ∧i= .int .i64 k∧Hid (P2=HH++al.flatMap dF++ [b8 (nq:Int)]++(queue.take k).flatMap d_)∧Hid (LB w wr (.slice tI P2.length tJ) P2))
  case atStart=>exact⟨0,P++ [b8 (nq:Int)],fK,c9,bP _,by omega,by rw[aK];rfl,rfl,Z (by rw[wW.O];simp),jw⟩
  case round=>
   obtain⟨k2,P2,tI,tJ,eB,rfl,rfl,rfl,mU,kQ⟩:=hrel;obtain⟨wq,rfl⟩:∃x,x=wr:=⟨_,rfl⟩
   clear eb jw alx;by_cases jK:k2<nq
   ·have J6:(k2:Int)<(nq:Int):=by omega
    have fF:k2<xd.length:=by have:=FV.O;omega
    have pM:k2<queue.length:=by have:=zI.O;omega
    obtain⟨g,o,nJ,bg,_⟩:=(KZ.O.below kQ.O.low).at (by omega);subst nJ;have uF:queue[k2]=(xd[k2]).2:=by
     have h2:=congrArg (fun l=>l[k2]?) K_.O;exact Oq
    have a_:=K0.O _ (getElem_mem fF);have bZ:∀j,j<14→wq.cell? ⟨g,o+k2*14+j,none⟩=(dX xd[k2])[j]?:=fun j hj=>by
     have:=FV.O;rw[oO,bg (k2*14+j) (by omega),kY 14 dX oS xd k2 j fF hj]
    have jo:=DK d_ queue k2 pM;have sq:=HQ.O _ (getElem_mem pM);obtain⟨⟨⟨v1,v2,v3⟩,x⟩,hp⟩:∃p,xd[k2]=p:=⟨_,rfl⟩
    rw[hp] at uF a_ bZ;rw[uF] at jo sq;simp only at jo sq;obtain⟨⟨sC,sD,e1⟩,⟨sE,sF,e2⟩,sG,sH,e3⟩:=a_.1.O.shape;simp only at e1 e2 e3;subst e1 e2 e3;have HC:Hid (∀j,j< (aG x sC sD sE sF sG sH:List Value).length→wq.cell? ⟨g,o+k2*14+j,none⟩= (aG x sC sD sE sF sG sH:List Value)[j]?):=bZ;obtain⟨IY,qM⟩:=ai (db x);obtain⟨⟨DI,de⟩,ph⟩:∃q,dn IY=q:=⟨_,rfl⟩
    have nP:P2++DI=HH++al.flatMap dF++ [b8 (nq:Int)]++(queue.take (k2+1)).flatMap d_:=by
     rw[jo,mU.O];unfold d_;simp only[qM,ph];simp
    have oL:=Pc.O (k2+1) _ nP;rw[aK] at oL;obtain⟨zO,jf,FX,FY⟩:=cF nP oL qM ph;have ct:Hid ((eG x.note).length≤140737488355328):=aJ sq.1 (by decide);have bn:Hid (IY.length≤140737488355328):=by rw[←qM];exact aJ sq.2.1 (by decide)
    have cq:Hid ((x.note.props.flatMap bR).length≤90000000):=aJ sq.2.2.1 (by decide);have dj:Hid (x.ids.length≤100000):=aJ sq.2.2.2 (by decide);have tK:=Z a_.2;have zP:=Z (a_.1.O.below kQ.O.low);clear bg uF a_ bZ hp jo sq qM ph nP oL;go_upto_region 13 with(first
     |(refine iT 108 36 107 g (o+k2*14) ((aG x sC sD sE sF sG sH)) HC.O underlying36 ?_))
    have lN:=aH wq (.cells (aG x sC sD sE sF sG sH) 36);have cw:=aD wq (.cells (aG x sC sD sE sF sG sH) 36);generalize wq.alloc (.cells (aG x sC sD sE sF sG sH) 36)=aly at lN cw⊢;obtain⟨T,cQ⟩:=ai wq.heap.size;rw[cQ] at lN⊢;have yj:=Z lN;have dZ:Hid (LB w aly (.slice tI P2.length tJ) P2):=⟨aR kQ.O.own cw,cz kQ.O.low cw kQ.O.low.size⟩
    have alz:=Z (zP.O.below cw);clear lN cw cQ;have gM:nq≤100000:=by have:=HN.O.2.1;have:=zI.O;omega
    go_wp2_with (first
     |(refine kJ 110 36 11 T yj.O underlying36 ?_)
     |(go_at_call 60;go_must(refine OF x _ _ _ _ alz.O tK.O cq.O (HT.O.below dZ.O.low) IY FX.O ct.O bn.O dj.O _ ?_);intro ya yc du zQ eH;have uS:=Z (b_ zQ);have tL:Hid (LB w du (.slice tI P2.length tJ) P2):=Z ⟨aR dZ.O.own eH,cz dZ.O.low eH dZ.O.low.size⟩;clear zQ eH)
     |(go_at_call 59;go_must(refine Yp _ IY DI de FY.O _ uS.O _ ?_);intro da dc cY lR dC;have mH:=Z (b_ lR);have iE:Hid (LB w cY (.slice tI P2.length tJ) P2):=Z ⟨aR tL.O.own dC,cz tL.O.low dC tL.O.low.size⟩;clear lR dC)
     |(at_builtin;go_must(refine jr (by rfl) (.tmp 109) (.tmp 112) 22 (by rfl) w 5 (.int .u8 0) 1 1 underlying22 Tryz.cP rfl (by decide) tI P2.length tJ _ (by rfl) iE.O.own da DI.length dc (bv DI) (by rfl) mH.O.parts.2.1 (fC _) mH.O.parts.2.2.2.2 (by have:=jf.O;unfold maxLen;omega) (by have:=jf.O;omega) iE.O.low.size ?_);intro fK c9 w9 dA bW _;have cw:=bT iE.O.low bW iE.O.low.size iE.O.own;have jw:=Z (LB.list dA cw);clear dA bW cw))
    go_roundg (nq - (k2+1))
    case measure=>omega
    case rel=>exact⟨k2+1,P2++DI,fK,c9,by omega,rfl,by rw[aK],by go_num,zO,jw⟩
   have TL:k2=nq:=by omega
   have J6:¬(k2:Int)<(nq:Int):=by omega
   have Ld:Hid (P2=HH++al.flatMap dF++ [b8 (nq:Int)]++queue.flatMap d_):=by
    show _=_;rw[mU.O,gy (by have:=zI.O;omega)]
   clear TL mU;obtain⟨gf,jM,fz,lz,_⟩:=HX.O.hf;obtain⟨nf,pf⟩:=ai ag.length;simp only at jM fz lz;rw[pf] at fz;obtain⟨fa,fc,oV⟩:=cR fz;subst oV;have zL:gf.length=nf:=by rw[←pf,←jM];simp
   obtain⟨sM,Ci,qA,pT,vQ⟩:=jq fz lz jM pf zL;have FW:P2.length+1≤140000000:=by
    have h1:=congrArg List.length Ld.O;exact OM
   have c7:=D 7 (aA nj.O kQ.O.low);clear jM fz lz pf zL KZ K0 K_ FV;go_wp2_with (first
    |((at_builtin;go_must(refine jr (by rfl) (.tmp 115) (.tmp 122) 22 (by rfl) w 5 (.int .u8 0) 1 1 underlying22 Tryz.cP rfl (by decide) tI P2.length tJ _ (by rfl) (kQ.O.own.alloc (.cells #[Value.int .u8 (IntKind.u8.wrap ((nf:Int)))] 5)) (some ⟨wq,0,none⟩) 1 1 [Value.int .u8 (IntKind.u8.wrap ((nf:Int)))] (by rfl) (dO wq #[Value.int .u8 (IntKind.u8.wrap ((nf:Int)))] 5 1 1 rfl) (px _ _) (fun h=>by cases h) (by unfold maxLen;omega) (by omega) (aJ kQ.O.low.size (by simp)) ?_);intro fK c9 w9 dA bW _;have cw:=bT (kQ.O.low.alloc kQ.O.low.size (.cells #[Value.int .u8 (IntKind.u8.wrap ((nf:Int)))] 5)) bW (aJ kQ.O.low.size (by simp)) (kQ.O.own.alloc (.cells #[Value.int .u8 (IntKind.u8.wrap ((nf:Int)))] 5));have jw:=Z (LB.byte dA cw);clear dA bW cw);have alA:=D 7 (aA nj.O jw.O.low)))
   have Pd:=Z (fun (k:Nat)(P3:List UInt8) (TM:P3=HH++al.flatMap dF++ [b8 (nq:Int)]++queue.flatMap d_++ [b8 (nf:Int)]++(ag.take k).flatMap fB)=>(by
    have h1:=congrArg List.length TM;have h2:=DJ fB ag k;have h3:=xS.O;have h4:=lv.O;simp only[aK,ey,gi] at h1
    omega:P3.length+1≤140000000))
   clear c7 FW;go_loopg [5,13,129] nf (fun gn b _ i wr=>∃(k:Nat)(P3:List UInt8)(rQ:av)(rR:Nat),k≤nf∧gn=nf - k∧b= .slice rQ P3.length rR∧i= .int .i64 k∧Hid (P3=HH++al.flatMap dF++ [b8 (nq:Int)]++queue.flatMap d_++ [b8 (nf:Int)]++(ag.take k).flatMap fB)∧Hid (LB w wr (.slice rQ P3.length rR) P3))
   case atStart=>exact⟨0,P2++ [b8 (nf:Int)],fK,c9,bP _,by omega,by rw[aK];rfl,rfl,Z (by rw[Ld.O];simp),jw⟩
   case round=>
    obtain⟨k3,P3,rQ,rR,o_,rfl,rfl,rfl,uC,mI⟩:=hrel;obtain⟨wf,rfl⟩:∃x,x=wr:=⟨_,rfl⟩
    clear kQ jw alA;by_cases FZ:k3<nf
    ·have TN:(k3:Int)<(nf:Int):=by omega
     have fF:k3<gf.length:=by have:=vQ.O;omega
     have wX:k3<ag.length:=by have:=pT.O;omega
     have uQ:=aR sM.O mI.O.low;obtain⟨g,rfl⟩:=jF uQ (by omega);have qH:ag[k3]=(gf[k3]).2:=by
      have h2:=congrArg (fun l=>l[k3]?) qA.O;exact OO
     have a_:=Ci.O _ (getElem_mem fF);have bZ:∀j,j<16→wf.cell? ⟨g,k3*16+j,none⟩=(bV gf[k3])[j]?:=fun j hj=>by
      have:=vQ.O;rw[uQ.cellAt (k3*16+j) (by omega),kY 16 bV j5 gf k3 j fF hj]
     have jo:=DK fB ag k3 wX;have tM:=HF.O _ (getElem_mem wX);obtain⟨⟨⟨v1,v2,v3⟩,f⟩,hp⟩:∃p,gf[k3]=p:=⟨_,rfl⟩
     rw[hp] at qH a_ bZ;rw[qH] at jo tM;simp only at jo tM a_;obtain⟨⟨V,X,e1⟩,⟨kD,kE,e2⟩,ea,ec,e3⟩:=a_.1.O.shape;simp only at e1 e2 e3;subst e1 e2 e3;have HC:Hid (∀j,j< (cA f.id f.state f.item V X kD kE ea ec:List Value).length→wf.cell? ⟨g,k3*16+j,none⟩= (cA f.id f.state f.item V X kD kE ea ec:List Value)[j]?):=bZ;obtain⟨pj,F0⟩:=ai (aY (bz f.id) 2);obtain⟨IY,qM⟩:=ai (db f.item);obtain⟨⟨DI,de⟩,ph⟩:∃q,dn IY=q:=⟨_,rfl⟩
     obtain⟨J2,DQ⟩:=ai ([P3,pj,[b8 f.state],DI].flatten);have nP:J2=HH++al.flatMap dF++ [b8 (nq:Int)]++queue.flatMap d_++ [b8 (nf:Int)]++(ag.take (k3+1)).flatMap fB:=by
      rw[jo,←DQ,uC.O];unfold fB;simp only[qM,ph,F0];simp
     have oL:=Pd.O (k3+1) _ nP;obtain⟨zO,oz,FX,FY,F1⟩:=jq nP oL qM ph DQ;have Pe:Hid (eC (bz f.id) 2=pj):=by show _=_;rw[←F0];rfl
     have l8:IntKind.u64.wrap f.id=(bz f.id:Int):=by have:=Dc f.id;simpa using this
     have ct:Hid ((eG f.item.note).length≤140737488355328):=aJ tM.1 (by decide);have bn:Hid (IY.length≤140737488355328):=by rw[←qM];exact aJ tM.2.1 (by decide)
     have cq:Hid ((f.item.note.props.flatMap bR).length≤90000000):=aJ tM.2.2.1 (by decide);have dj:Hid (f.item.ids.length≤100000):=aJ tM.2.2.2 (by decide);have tK:=Z a_.2;have zP:=Z (a_.1.O.below mI.O.low);have gM:nf≤100000:=by have:=HN.O.2.2.1;have:=pT.O;omega
     clear uQ qH a_ bZ hp jo tM F0 qM ph DQ nP oL;go_upto_block 5 with fail
     go_cut [5,13] from 131 to 146 (fun sb _ wx=>∃(ja:av)(jc:Nat),sb= .slice ja J2.length jc∧Hid (LB w wx (.slice ja J2.length jc) J2))
     case first=>
      go_upto_region 19 with(first
       |(refine iT 132 51 131 g (k3*16) ((cA f.id f.state f.item V X kD kE ea ec)) HC.O underlying51 ?_))
      have eH:=aD wf (.cells (cA f.id f.state f.item V X kD kE ea ec) 51);have nQ:=aH wf (.cells (cA f.id f.state f.item V X kD kE ea ec) 51);generalize wf.alloc (.cells (cA f.id f.state f.item V X kD kE ea ec) 51)=du at eH nQ⊢;have sO:=Z (cz mI.O.low eH mI.O.low.size);have alB:=Z (HT.O.below sO.O);have AZ:=Z (zP.O.below eH);have eW:=Z ((b_ mI.O.own).below eH);obtain⟨T,cQ⟩:=ai wf.heap.size;rw[cQ] at nQ⊢;have Pf:=Z nQ;clear eH nQ cQ;have gL:Below du du du.drew:=bq _;have dK:=aA Pf.O gL;have fI:=eW.O.below gL;go_region_held3 (fun x=>x.cell? ⟨T,0,none⟩=some (.int .i64 f.id)∧x.cell? ⟨T,1,none⟩=some (.int .i64 f.state)∧x.cell? ⟨T,2,none⟩=some (.string (str f.item.note.aF))∧x.cell? ⟨T,3,none⟩=some (.slice V f.item.note.ay.length X)∧x.cell? ⟨T,4,none⟩=some (.int .i64 f.item.note.ah)∧x.cell? ⟨T,5,none⟩=some (.bool f.item.note.aL)∧x.cell? ⟨T,6,none⟩=some (.string (str f.item.note.src))∧x.cell? ⟨T,7,none⟩=some (.int .i64 f.item.note.aP)∧x.cell? ⟨T,8,none⟩=some (.slice kD f.item.note.props.length kE)∧x.cell? ⟨T,9,none⟩=some (.int .i64 f.item.note.origin)∧x.cell? ⟨T,10,none⟩=some (.int .i64 f.item.note.number)∧x.cell? ⟨T,11,none⟩=some (.int .i64 f.item.note.aW)∧x.cell? ⟨T,12,none⟩=some (.int .i64 f.item.ah)∧x.cell? ⟨T,13,none⟩=some (.bool f.item.aI)∧x.cell? ⟨T,14,none⟩=some (.slice ea f.item.ids.length ec)∧x.cell? ⟨T,15,none⟩=some (.string (str f.item.share)))
       (first|with_reducible exact jU dK|with_reducible exact jU iC|with_reducible exact jU iq|with_reducible exact jU dB|with_reducible exact jU jy|with_reducible exact jU iV|go_keep)
       (first
        |(have hq:=gL;go_at_call_of 56 (Value.int .u64 (bz f.id:Int));refine yW (bz f.id) (Dd _) 2 pj Pe.O _ _ ?_;intro aa ac w3 bN an;have h1:=b_ bN;have iB:=fI.below an;have iC:=aA dK an;have o_:=ed gL an;clear hq gL)
        |(have hq:=o_;go_at_call 57;refine NH f.state _ _ ?_;intro avv avw w4 eQ ao;have h2:=b_ eQ;replace h1:=h1.below ao;have fy:=iB.below ao;have iq:=aA iC ao;have rl:=ed o_ ao;clear hq o_)
        |(go_at_call 60;refine OF f.item _ _ _ _ (AZ.O.below rl) tK.O cq.O (alB.O.below rl) IY FX.O ct.O bn.O dj.O _ ?_;intro ca cc w5 gC aE;have h3:=b_ gC;replace h1:=h1.below aE;replace h2:=h2.below aE;have pP:=fy.below aE;have dB:=aA iq aE;have xQ:=ed rl aE)
        |(go_at_call 59;refine Yp _ IY DI de FY.O _ h3 _ ?_;intro da dc w6 nF bd;have h4:=b_ nF;replace h1:=h1.below bd;replace h2:=h2.below bd;have rP:=pP.below bd;have jy:=aA dB bd;have lJ:=ed xQ bd)
        |(go_at_call 55;have my:=Z (fun o=>ed lJ (aD w6 o):∀o:Obj,Below du du (w6.alloc o));have pK:=ZG (e:=22) (g:=w6.heap.size) rfl rP h1 h2 h4;refine pC _ _ J2 F1.O _ pK (by have:=oz.O;omega) _ ?_;clear pK;intro ja jc w7 gD bp;have HZ:=Z (fun o=>aJ sO.O.size (my.O o).size);have gE:=Z (ed (my.O _) bp);have iV:=aA Pf.O gE.O;have th:=Z gD;clear bp gD my lJ rP h1 h2 h3 h4 jy))
      all_goals
       go_wp2_with fail;go_meet;exact⟨ja,jc,rfl,Z ⟨cm th.O (HZ.O _),aQ sO.O gE.O⟩⟩
     obtain⟨alC,alD,rfl,alE⟩:=hcut;go_wp2_with fail;go_roundg (nf - (k3+1))
     case measure=>omega
     case rel=>exact⟨k3+1,J2,alC,alD,by omega,rfl,rfl,by go_num,zO,alE⟩
    have TO:k3=nf:=by omega
    have TN:¬(k3:Int)<(nf:Int):=by omega
    have Lf:Hid (P3=HH++al.flatMap dF++ [b8 (nq:Int)]++queue.flatMap d_++ [b8 (nf:Int)]++ag.flatMap fB):=by
     show _=_;rw[uC.O,gy (by have:=pT.O;omega)]
    clear TO uC;obtain⟨ng,F2⟩:=ai aB.length;have xf:aB.length≤100000:=HN.O.2.2.2;have DE:=Z F2;have TQ:=Z xf;have TR:P3.length+1≤140000000:=by
     have h1:=congrArg List.length Lf.O;exact OM
    have abm:=Z (AO.O.below mI.O.low);clear F2 xf sM Ci qA vQ;go_wp2_with (first
     |(go_at_call 61;go_must(refine aaJ S _ TQ.O _ M abm.O _ ?_);intro ga gc df oK lB;simp only[DE.O] at oK⊢;have abn:=Z (cm (jE:=0) oK (bP _));have dZ:Hid (LB w df (.slice rQ P3.length rR) P3):=Z ⟨aR mI.O.own lB,cz mI.O.low lB mI.O.low.size⟩;clear oK lB)
     |(have hq:=dZ;at_builtin;have alF:=Z (abn.O.alloc (.cells #[Value.int .u8 (IntKind.u8.wrap (ng:Int))] 5));go_must(refine jr (by rfl) (.tmp 150) (.tmp 154) 22 (by rfl) w 5 (.int .u8 0) 1 1 underlying22 Tryz.cP rfl (by decide) rQ P3.length rR _ (by rfl) (dZ.O.own.alloc (.cells #[Value.int .u8 (IntKind.u8.wrap (ng:Int))] 5)) (some ⟨df,0,none⟩) 1 1 [Value.int .u8 (IntKind.u8.wrap (ng:Int))] (by rfl) (dO df #[Value.int .u8 (IntKind.u8.wrap (ng:Int))] 5 1 1 rfl) (px _ _) (fun h=>by cases h) (by unfold maxLen;omega) (by omega) (aJ dZ.O.low.size (by simp)) ?_);intro fK c9 w9 dA bW _;have cw:=bT (dZ.O.low.alloc dZ.O.low.size (.cells #[Value.int .u8 (IntKind.u8.wrap (ng:Int))] 5)) bW (aJ dZ.O.low.size (by simp)) (dZ.O.own.alloc (.cells #[Value.int .u8 (IntKind.u8.wrap (ng:Int))] 5));have nR:=Z (KF alF.O (dZ.O.own.alloc (.cells #[Value.int .u8 (IntKind.u8.wrap (ng:Int))] 5)) (by decide) bW);have jw:=Z (LB.byte dA cw);clear dA bW cw))
    have dm:(bA aB).length=ng:=by rw[tH,DE.O]
    have iL:=Z dm;obtain⟨gl,xf⟩:=ai (bA aB);have OK:=Z xf;rw[xf] at nR iL;have TS:=Z (fun (k:Nat)(P4:List UInt8) (oZ:P4=HH++al.flatMap dF++ [b8 (nq:Int)]++queue.flatMap d_++ [b8 (nf:Int)]++ag.flatMap fB++ [b8 (ng:Int)]++(gl.take k).flatMap iD)=>(by
     have h1:=congrArg List.length oZ;have h2:=DJ iD gl k;have h3:=xS.O;have h4:=lv.O;have h5:=OK.O;rw[h5] at h3;simp only[aK,ey,gi] at h1
     omega:P4.length≤140000000))
    clear TR dm xf abn dZ;go_loopg [5,16,158] ng (fun gn b _ i wr=>∃(k:Nat)(P4:List UInt8)(xT:av)(xU:Nat),k≤ng∧gn=ng - k∧b= .slice xT P4.length xU∧i= .int .i64 k∧Hid (P4=HH++al.flatMap dF++ [b8 (nq:Int)]++queue.flatMap d_++ [b8 (nf:Int)]++ag.flatMap fB++ [b8 (ng:Int)]++(gl.take k).flatMap iD)∧Hid (LB w wr (.slice xT P4.length xU) P4)∧Hid (wr.ownsRow 0 3 1 (.slice ga ng gc) ng (iv gl)))
    case atStart=>exact⟨0,P3++ [b8 (ng:Int)],fK,c9,bP _,by omega,by rw[aK];rfl,rfl,Z (by rw[Lf.O];simp),jw,nR⟩
    case round=>
     obtain⟨k4,P4,xT,xU,rl,rfl,rfl,rfl,uK,zJ,abo⟩:=hrel;obtain⟨wg,rfl⟩:∃x,x=wr:=⟨_,rfl⟩
     clear mI jw nR abm;by_cases alG:k4<ng
     ·have TU:(k4:Int)<(ng:Int):=by omega
      have FG:k4<gl.length:=by have:=iL.O;omega
      have Lg:Is wg (.slice ga ng gc) gl:=Jv abo.O iL.O;obtain⟨g,o,rfl,tF⟩:=Lg.at k4 FG;have jo:=DK iD gl k4 FG;obtain⟨x,F⟩:=ai (gl[k4]);rw[F] at tF jo;obtain⟨PX,F3⟩:=ai (aY (bz x) 2);have nP:P4++PX=HH++al.flatMap dF++ [b8 (nq:Int)]++queue.flatMap d_++ [b8 (nf:Int)]++ag.flatMap fB++ [b8 (ng:Int)]++(gl.take (k4+1)).flatMap iD:=by
       rw[jo,uK.O];unfold iD;simp only[F3];simp
      have oL:=TS.O (k4+1) _ nP;rw[aK] at oL;have zO:=Z nP;have jf:=Z oL;have TV:Hid (eC (bz x) 2=PX):=by show _=_;rw[←F3];rfl
      have l8:IntKind.u64.wrap x=(bz x:Int):=by have:=Dc x;simpa using this
      have gM:ng≤100000:=by have:=HN.O.2.2.2;have:=DE.O;omega
      clear Lg jo F F3 nP oL;go_wp2_with (first
       |(go_at_call 56;go_must(refine yW (bz x) (Dd _) 2 PX TV.O _ _ ?_);intro da dc cY lR dC;have mH:=Z (b_ lR);have iE:Hid (LB w cY (.slice xT P4.length xU) P4):=Z ⟨aR zJ.O.own dC,cz zJ.O.low dC zJ.O.low.size⟩;have Cj:=Z (aR abo.O dC);clear lR dC tF)
       |(at_builtin;go_must(refine jr (by rfl) (.tmp 162) (.tmp 165) 22 (by rfl) w 5 (.int .u8 0) 1 1 underlying22 Tryz.cP rfl (by decide) xT P4.length xU _ (by rfl) iE.O.own da PX.length dc (bv PX) (by rfl) mH.O.parts.2.1 (fC _) mH.O.parts.2.2.2.2 (by have:=jf.O;unfold maxLen;omega) (by have:=jf.O;omega) iE.O.low.size ?_);intro fK c9 w9 dA bW _;have cw:=bT iE.O.low bW iE.O.low.size iE.O.own;have nR:=Z (KF Cj.O iE.O.own (by decide) bW);have jw:=Z (LB.list dA cw);clear dA bW cw))
      go_roundg (ng - (k4+1))
      case measure=>omega
      case rel=>exact⟨k4+1,P4++PX,fK,c9,by omega,rfl,by rw[aK],by go_num,zO,jw,nR⟩
     have TU:¬(k4:Int)<(ng:Int):=by omega
     exact aaL
theorem alH(k:Nat)(G:k≤8)(x:Int)(h0:0≤x)(h1:x<256 ^ k)(h2:x≤4611686018427387904):IntKind.i64.wrap (cX (aY (bz x) k))=x:=by
 have e:((bz x:Nat):Int)=x:=by
  unfold bz
  omega
 have e2:bz x<256 ^ k:=by
  have:((bz x:Nat):Int)<((256 ^ k:Nat):Int):=by
   rw[e]
   simpa using h1
  omega
 rw[Hi k (bz x) G e2,IntKind.wrap_i64,e]
 omega
theorem abp(q h:Int)(nl ap:Bool)(h0:0≤q)(h1:q≤2)(h2:0≤h)(h3:h≤2):∃m:Nat,q+(if nl then 4 else 0)+(if ap then 8 else 0)+h*16=(m:Int)∧m<256∧bits .and .i64 (m:Int) 3=q∧(m:Int) / 16=h∧(bits .and .i64 (m:Int) 4 != 0)=nl∧(bits .and .i64 (m:Int) 8 != 0)=ap:=by
 obtain⟨a,rfl,ha⟩:∃a:Nat,q=(a:Int)∧a<3:=⟨q.toNat,by omega,by omega⟩
 obtain⟨b,rfl,U⟩:∃a:Nat,h=(a:Int)∧a<3:=⟨h.toNat,by omega,by omega⟩
 have key:∀(a b:Fin 3)(nl ap:Bool),bits .and .i64 ((a.val+(if nl then 4 else 0)+(if ap then 8 else 0)+b.val*16:Nat):Int) 3=(a.val:Int)∧(((a.val+(if nl then 4 else 0)+(if ap then 8 else 0)+b.val*16:Nat):Int)) / 16=(b.val:Int)∧(bits .and .i64 ((a.val+(if nl then 4 else 0)+(if ap then 8 else 0)+b.val*16:Nat):Int) 4 != 0)=nl∧(bits .and .i64 ((a.val+(if nl then 4 else 0)+(if ap then 8 else 0)+b.val*16:Nat):Int) 8 != 0)=ap:=by decide+kernel
 refine⟨a+(if nl then 4 else 0)+(if ap then 8 else 0)+b*16,?_,?_,key ⟨a,ha⟩ ⟨b,U⟩ nl ap⟩
 ·cases nl<;>cases ap<;>simp
 cases nl<;>cases ap<;>simp<;>omega
structure tN(x:Sb):Prop where
 b:abj x
 t:eg x.filter=true
 l1:1≤x.filter.length
 l2:x.filter.length≤64
 i0:0≤x.id
 i1:x.id≤268435455
