/- A part of the proof of SessionReads; no conditions. -/
import Derived.Test.YtgimbocoamnkjaaGreatDoorM32
set_option maxRecDepth 100000
set_option maxHeartbeats 16000000
namespace Go.Proofs.YtgimbocoamnkjaaGreatDoor
open _root_.Go.Proofs.Tryz
open List (getElem_mem nil_append)
open Nat (zero_add)
variable{x:Im}
open Go.RowKit
theorem afb(h:gh x):Vr x:=⟨h.n,h.nb,h.nl,h.pl,h.q0,by have:=h.q1;omega,h.ni,fun i hi=>⟨by have:=(h.ir i hi).1;omega,by have:=(h.ir i hi).2;omega⟩,h.sl⟩
theorem afc{P:Prop}(h:P:=by
 cases awX with
 |true=>
  go_wp2_with fail;go_meet;exact⟨rfl,rfl⟩
 |false=>
  go_wp2_with fail;go_meet;exact⟨rfl,rfl⟩):P:=h
theorem afd(S:Nat)(s:az)(W:Q5 s)(awX:Bool)(hF:awX=true↔Eg s)(w:World)(Ms M:Nat→Prop)(h:RR w Ms M S s)(hT:dy w)
 (aw0:List UInt8) (hY:kP s=aw0) (kK:aw0.length≤140000000) (R:ak)
 (I:∀Y c w',w'.ownsRow w 5 1 (.slice Y aw0.length c) aw0.length (bv aw0)→Below w w w'→R (.returned (.tuple #[.slice Y aw0.length c,.bool awX])) w'):
 Calls prog 21 #[zq S] w R:=by
 obtain⟨HR,HT,HS⟩:=bX I hT W;have mz:=W.cn;have Q1:=W.sn;obtain⟨gF,cI,ends,ej,al,queue,ag,bJ,aB⟩:=s;simp only at mz Q1;unfold Eg at hF;simp only at hF;obtain⟨sv,qv,fv,gv,F⟩:=h;obtain⟨jn,Cd⟩:=ai al.length;have pg:=F.W;simp only at pg;rw[Cd] at pg;obtain⟨sa,sc,yT⟩:=cR pg;subst yT;have nj:=Z F.hS;obtain⟨O_,Ce,HX⟩:=bX pg Cd F;have c0:=F.cells.1;have c1:=F.cells.2.1;have c2:=F.cells.2.2.1;simp only at c0 c1 c2;obtain⟨⟨CC,ce⟩,DM⟩:∃q,b9 gF=q:=⟨_,rfl⟩
 have afe:eg gF=true↔ce=0:=by have:=Ma gF mz;rw[DM] at this;exact this.symm
 obtain⟨f1,qF⟩:∃f:Bool,f=true↔(ce=0∧0≤cI∧cI≤4611686018427387904∧0≤ends∧ends≤4611686018427387904):=⟨decide (ce=0∧0≤cI∧cI≤4611686018427387904∧0≤ends∧ends≤4611686018427387904),by simp only[decide_eq_true_eq]⟩
 have aff:awX=true↔(f1=true∧∀x∈al,tN x):=by
  rw[hF,qF,afe];simp only[and_assoc]
 have HF:=Z aff;have vL:=Z qF;obtain⟨E1,wP⟩:=ai (aY (bz cI) 8);obtain⟨E2,wQ⟩:=ai (aY (bz ends) 8);obtain⟨HH,FO⟩:=ai (Ir gF cI ends ej jn);obtain⟨ON,FP⟩:∃z:Int,(if ej then 1 else 0)=z:=⟨_,rfl⟩
 have It:CC++E1++E2++ [b8 ON]++ [b8 (jn:Int)]=HH:=by
  rw[←FO];unfold Ir;simp only[DM,wP,wQ,FP]
 have FQ:HH++al.flatMap dF++ [b8 (queue.length:Int)]++queue.flatMap d_++ [b8 (ag.length:Int)]++ag.flatMap fB++ [b8 (aB.length:Int)]++(bA aB).flatMap iD=aw0:=by
  rw[←hY,←FO];unfold kP;simp only[Cd]
 have KW:HH.length+(al.flatMap dF).length+(queue.flatMap d_).length+(ag.flatMap fB).length+((bA aB).flatMap iD).length+3=aw0.length:=by
  rw[←FQ];simp only[aK,ey,gi]
  omega
 have Mb:CC.length≤140000000∧E1.length≤8∧E2.length≤8∧CC.length+E1.length+E2.length+2=HH.length:=by
  have:=congrArg List.length It;simp only[aK,ey,gi] at this;refine⟨by omega,by rw[←wP,fQ];decide,by rw[←wQ,fQ];decide,by omega⟩
 obtain⟨l1,l2,l3,l4⟩:=Mb;obtain⟨BT,AV,Dn,BS,FR,zk,xS,lv,mF⟩:=CO FP DM wP wQ It FQ KW kK l4;clear afe hF aff qF FP I hT F DM wP wQ FO It pg Cd FQ KW kK hY W l4 Q1;go_enter func21,ntmps21;go_upto_region 2 with(first
  |(go_at_call 63;go_must(refine Bb gF CC ce AV.O _ (by omega) _ ?_);intro ta tc w2 jx aj;have jH:=Z (b_ jx);have bn:=Z aj;have N2:=Z (aA nj.O aj);clear jx aj c0 c1 c2))
 have c1:=D 1 N2.O;have c2:=D 2 N2.O;go_cut [6] from 31 to 60 (fun s6 wx=>s6= .bool f1∧wx=w2)
 case first=>as_aux_lemma=>
  by_cases h1:ce=0
  ·subst h1;by_cases h2:0≤cI
   ·by_cases h3:cI≤4611686018427387904
    ·by_cases h4:0≤ends
     ·by_cases h5:ends≤4611686018427387904
      ·obtain rfl:f1=true:=vL.O.2 ⟨rfl,h2,h3,h4,h5⟩;go_wp2_with fail;go_meet;exact⟨rfl,rfl⟩
      ·obtain rfl:f1=false:=ns.2 (fun h=>h5 (vL.O.1 h).2.2.2.2);go_wp2_with fail;go_meet;exact⟨rfl,rfl⟩
     ·obtain rfl:f1=false:=ns.2 (fun h=>h4 (vL.O.1 h).2.2.2.1);go_wp2_with fail;go_meet;exact⟨rfl,rfl⟩
    ·obtain rfl:f1=false:=ns.2 (fun h=>h3 (vL.O.1 h).2.2.1);go_wp2_with fail;go_meet;exact⟨rfl,rfl⟩
   ·obtain rfl:f1=false:=ns.2 (fun h=>h2 (vL.O.1 h).2.1);go_wp2_with fail;go_meet;exact⟨rfl,rfl⟩
  obtain rfl:f1=false:=ns.2 (fun h=>h1 (vL.O.1 h).1);have zj:(ce==0)=false:=by simpa using h1
  go_wp2_with fail;go_meet;exact⟨rfl,rfl⟩
 obtain⟨rfl,nW⟩:=hcut;have nW:=nW.symm;subst nW;clear c1 c2 vL;go_upto_region 3 with fail
 go_cut [4] from 61 to 77 (fun s4 wx=>∃(Y:av)(c:Nat),s4= .slice Y (CC.length+E1.length+E2.length) c∧Hid (wx.ownsRow w2 5 1 (.slice Y (CC.length+E1.length+E2.length) c) (CC.length+E1.length+E2.length) (bv CC++bv E1++bv E2))∧Hid (Below w2 w2 wx))
 case first=>as_aux_lemma=>
  have hd:Below w2 w2 w2.drew:=bq _;have hE:=hd.alloc hd.size (.cells #[] 5);have k0:=Bd (aA N2.O hd);have D6:Hid ((w2.alloc (.cells #[] 5)).drew.ownsRow w2 5 1 (.slice (some ⟨w2,0,none⟩) 0 0) 0 []):=Z (World.ownsRow_made (base:=w2.heap.size) (e:=5) (size:=1) w2.drew #[] 0 bj (by unfold maxLen;omega) rfl);have jL:Hid (Below w2 w2 (w2.alloc (.cells #[] 5)).drew):=Z hE;have kX:=Bd (aA N2.O jL.O);obtain⟨w,rfl⟩:∃x,x=w2:=⟨_,rfl⟩
  have mY:Hid True:=trivial;clear hd hE;go_region_held3 (fun x=>x.cell? ⟨S,1,none⟩=some (.int .i64 cI)∧x.cell? ⟨S,2,none⟩=some (.int .i64 ends)∧x.cell? ⟨S,3,none⟩=some (.bool ej)∧x.cell? ⟨S,4,none⟩=some (.slice sa jn sc))
   (first|with_reducible exact k0|with_reducible exact kX|with_reducible exact xn|with_reducible exact kA|with_reducible exact CD|with_reducible exact kC|with_reducible exact V9|go_keep)
   (first
    |((have hq:=mY;refine ig ?_ (.tmp 61) (.tmp 62) 22 ?_ w 5 (.int .u8 0) 1 1 underlying22 Tryz.cP rfl ?_ (some ⟨w,0,none⟩) 0 0 [] ?_ ?_ ta CC.length tc (bv CC) ?_ ?_ ?_ ?_ ?_ ?_ ?_ ?_;rfl;rfl;decide;rfl;exact D6.O;rfl;exact(jH.O.below jL.O).parts.2.1;exact(fC _);exact jH.O.parts.2.2.2.2;unfold maxLen;omega;omega;exact jL.O.size;intro tV pY tW nU jA _;have jB:=Z (bT jL.O jA jL.O.size D6.O);have nk:=Z nU;clear hq mY nU jA);have xo:=nk.O;rw[zero_add,nil_append] at xo;have xn:=Bd (aA N2.O jB.O);have fR:Hid True:=trivial)
    |(have hq:=fR;go_at_call 64;refine CB cI 8 (by decide) (by decide) E1 Dn.O _ _ ?_;intro Qv Qw wA D4 c_;clear hq fR;have uV:=Z (aR xo c_);have cM:=Z (aQ jB.O c_);have z_:=Z (b_ D4);have afg:Hid True:=trivial;have kA:=Bd (aA N2.O cM.O))
    |((have hq:=afg;refine ig ?_ (.tmp 63) (.tmp 69) 22 ?_ w 5 (.int .u8 0) 1 1 underlying22 Tryz.cP rfl ?_ tV CC.length pY (bv CC) ?_ ?_ Qv E1.length Qw (bv E1) ?_ ?_ ?_ ?_ ?_ ?_ ?_ ?_;rfl;rfl;decide;rfl;exact uV.O;rfl;exact z_.O.parts.2.1;exact(fC _);exact z_.O.parts.2.2.2.2;unfold maxLen;omega;omega;exact cM.O.size;intro yr yt Gn nV lS _;have tX:=Z (bT cM.O lS cM.O.size uV.O);have wj:=Z nV;clear hq afg nV lS);have CD:=Bd (aA N2.O tX.O);have lP:Hid True:=trivial)
    |(have hq:=lP;go_at_call 64;refine CB ends 8 (by decide) (by decide) E2 BS.O _ _ ?_;intro DZ D0 wC Gm Aa;clear hq lP;have tf:=Z (aR wj.O Aa);have wi:=Z (aQ tX.O Aa);have AJ:=Z (b_ Gm);have afh:Hid True:=trivial;have kC:=Bd (aA N2.O wi.O))
    |((have hq:=afh;refine ig ?_ (.tmp 70) (.tmp 76) 22 ?_ w 5 (.int .u8 0) 1 1 underlying22 Tryz.cP rfl ?_ yr (CC.length+E1.length) yt (bv CC++bv E1) ?_ ?_ DZ E2.length D0 (bv E2) ?_ ?_ ?_ ?_ ?_ ?_ ?_ ?_;rfl;rfl;decide;rfl;exact tf.O;rfl;exact AJ.O.parts.2.1;exact(fC _);exact AJ.O.parts.2.2.2.2;unfold maxLen;omega;omega;exact wi.O.size;intro IQ IS Vm Ab yu _;have Ac:=Z (bT wi.O yu wi.O.size tf.O);have D5:=Z Ab;clear hq afh Ab yu);have V9:=Bd (aA N2.O Ac.O)))
  all_goals
   go_wp2_with fail;go_meet;exact⟨IQ,IS,rfl,D5,Ac⟩
 obtain⟨ja,jc,rfl,zF,wV⟩:=hcut;obtain⟨w3,rfl⟩:∃x,x=wc:=⟨_,rfl⟩
 obtain⟨P0,Q7⟩:=ai (CC++E1++E2);have V_:CC.length+E1.length+E2.length=P0.length:=by rw[←Q7];simp only[aK]
 have afi:bv CC++bv E1++bv E2=bv P0:=by rw[←Q7];simp only[qf]
 have asF:P0.length≤140000016:=by omega
 rw[V_,afi] at zF;rw[Q7] at FR;rw[V_];have oE:Hid (LB w w3 (.slice ja P0.length jc) P0):=Z ⟨cm zF.O bn.O.size,aQ bn.O wV.O⟩;clear V_ afi Q7 zF wV jH bn N2 l1 l2 l3;go_upto_region 4 with fail
 go_cut [4] from 78 to 92 (fun s4 wx=>∃(Y:av)(c:Nat),s4= .slice Y HH.length c∧Hid (LB w wx (.slice Y HH.length c) HH))
 case first=>as_aux_lemma=>
  have hE:Below w w (w3.alloc (.cells #[.int .u8 (IntKind.u8.wrap ON),.int .u8 (IntKind.u8.wrap (jn:Int))] 5)).drew:=oE.O.low.drew.alloc oE.O.low.size _;have k0:=Bd (aA nj.O oE.O.low.drew);have kX:=Bd (aA nj.O hE);have jL:=Z hE;have D6:Hid ((w3.alloc (.cells #[.int .u8 (IntKind.u8.wrap ON),.int .u8 (IntKind.u8.wrap (jn:Int))] 5)).drew.ownsRow w 5 1 (.slice ja P0.length jc) P0.length (bv P0)):=Z (oE.O.own.drew.alloc _);have Mh:Hid (Rd (w3.alloc (.cells #[.int .u8 (IntKind.u8.wrap ON),.int .u8 (IntKind.u8.wrap (jn:Int))] 5)).drew 1 (some ⟨w3,0,none⟩) 2 [.int .u8 (IntKind.u8.wrap ON),.int .u8 (IntKind.u8.wrap (jn:Int))]):=Z (dO w3.drew #[.int .u8 (IntKind.u8.wrap ON),.int .u8 (IntKind.u8.wrap (jn:Int))] 5 1 2 rfl);have mY:Hid True:=trivial;clear hE;go_region_held3 (fun x=>x.cell? ⟨S,1,none⟩=some (.int .i64 cI)∧x.cell? ⟨S,2,none⟩=some (.int .i64 ends)∧x.cell? ⟨S,3,none⟩=some (.bool ej)∧x.cell? ⟨S,4,none⟩=some (.slice sa jn sc))
   (first|with_reducible exact k0|with_reducible exact kX|with_reducible exact xn|go_keep)
   (first
    |(go_at_call 65;refine Vw ej 1 ON BT.O _ _ ?_)
    |((have hq:=mY;refine ig ?_ (.tmp 78) (.tmp 91) 22 ?_ w 5 (.int .u8 0) 1 1 underlying22 Tryz.cP rfl ?_ ja P0.length jc (bv P0) ?_ ?_ (some ⟨w3,0,none⟩) 2 2 [.int .u8 (IntKind.u8.wrap ON),.int .u8 (IntKind.u8.wrap (jn:Int))] ?_ ?_ ?_ ?_ ?_ ?_ ?_ ?_;rfl;rfl;decide;rfl;exact D6.O;rfl;exact Mh.O;exact(adx _ _);exact(fun h=>by cases h);unfold maxLen;omega;omega;exact jL.O.size;intro tV pY tW nU jA _;have jB:=Z (bT jL.O jA jL.O.size D6.O);have nk:=Z nU;clear hq mY nU jA);have xn:=Bd (aA nj.O jB.O)))
  all_goals
   go_wp2_with fail;go_meet;have hl:P0.length+2=HH.length:=by rw[←FR.O];simp
   have U:bv P0++ [.int .u8 (IntKind.u8.wrap ON),.int .u8 (IntKind.u8.wrap (jn:Int))]=bv HH:=by
    rw[←FR.O,zb,zb];simp only[qf,kT]
    rfl
   have ho:=nk.O;rw[hl,U] at ho;rw[hl];exact⟨tV,pY,rfl,Z ⟨ho,jB.O⟩⟩
 clear oE asF FR BT AV Dn BS mz;obtain⟨ja,jc,rfl,oE⟩:=hcut;obtain⟨w3,rfl⟩:∃x,x=wc:=⟨_,rfl⟩
 have DL:Hid (∀x∈al,Q4 x):=Z HS.O.sb;go_upto_region 6 with fail
 have O':=Z (fun (k:Nat)(_:k≤jn)(P:List UInt8) (hP:P=HH++(al.take k).flatMap dF)=>(by
  have h1:=congrArg List.length hP;have h2:=DJ dF al k;have h3:=xS.O;have h4:=lv.O;rw[aK] at h1
  omega:P.length≤140000000))
 go_loopg [4,6,7,8,9,10] jn (fun gn b ok i _ _ _ wr=>∃(k:Nat)(f:Bool)(P:List UInt8)(ba:av)(bc:Nat),k≤jn∧gn=jn - k∧b= .slice ba P.length bc∧ok= .bool f∧i= .int .i64 k∧Hid (f=true↔(f1=true∧∀x∈al.take k,tN x))∧Hid (P=HH++(al.take k).flatMap dF)∧Hid (LB w wr (.slice ba P.length bc) P))
 case atStart=>exact⟨0,f1,HH,ja,jc,bP _,by omega,rfl,rfl,rfl,Z (by simp),Z (by simp),oE⟩
 case round=>
  obtain⟨k,f,P,ba,bc,G,rfl,rfl,rfl,rfl,IW,HP,eb⟩:=hrel;obtain⟨wo,rfl⟩:∃x,x=wr:=⟨_,rfl⟩
  clear oE;have c4:=D 4 (aA nj.O eb.O.low);by_cases au:k<jn
  ·as_aux_lemma=>
   have bo:(k:Int)<(jn:Int):=by omega
   have DN:k<al.length:=by have:=Ce.O;omega
   have uQ:=aR O_.O eb.O.low;obtain⟨g,rfl⟩:=jF uQ (by omega);have bZ:∀j,j<6→wo.cell? ⟨g,k*6+j,none⟩=(aT al[k])[j]?:=fun j hj=>by
    have h1:=Ce.O;rw[uQ.cellAt (k*6+j) (by omega),kY 6 aT ij al k j DN hj]
   have jo:=DK dF al k DN;have nN:=DL.O _ (getElem_mem DN);obtain⟨x,F⟩:=ai (al[k]);rw[F] at bZ jo nN;have HC:Hid (∀j,j< (bH x:List Value).length→wo.cell? ⟨g,k*6+j,none⟩= (bH x:List Value)[j]?):=bZ;obtain⟨⟨FF,fe⟩,lM⟩:∃q,b9 x.filter=q:=⟨_,rfl⟩
   have Wa:eg x.filter=true↔fe=0:=by have:=Ma x.filter nN.f;rw[lM] at this;exact this.symm
   obtain⟨f',B5⟩:∃z:Bool,z=true↔(f=true∧fe=0∧1≤x.filter.length∧x.filter.length≤64∧x.ah≤2∧x.eX≤2∧x.id≤268435455):=⟨decide (f=true∧fe=0∧1≤x.filter.length∧x.filter.length≤64∧x.ah≤2∧x.eX≤2∧x.id≤268435455),by simp only[decide_eq_true_eq]⟩
   have Vv:Hid (f'=true↔(f1=true∧∀y∈al.take (k+1),tN y)):=Z (by
    rw[kF DN,F,B5,IW.O];have cH:tN x↔(fe=0∧1≤x.filter.length∧x.filter.length≤64∧x.ah≤2∧x.eX≤2∧x.id≤268435455):=⟨fun h=>⟨Wa.1 h.t,h.l1,h.l2,h.b.q1,h.b.h1,h.i1⟩,fun h=>⟨⟨nN.q0,h.2.2.2.1,nN.h0,h.2.2.2.2.1,nN.f⟩,Wa.2 h.1,h.2.1,h.2.2.1,nN.i0,h.2.2.2.2.2⟩⟩
    rw[←cH];refine⟨fun h=>⟨h.1.1,fun y hy=> ?_⟩,fun h=>⟨⟨h.1,fun y hy=>h.2 y (List.mem_append_left _ hy)⟩,h.2 x (List.mem_append_right _ (dM.2 rfl))⟩⟩;rcases ez.1 hy with hy|hy
    ·exact h.1.2 y hy
    obtain rfl:=dM.1 hy;exact h.2)
   have yE:=Z B5;obtain⟨P4,oZ⟩:=ai (aY (bz x.id) 4);obtain⟨R1,ye⟩:∃z:Int,(if x.kn then 4 else 0)=z:=⟨_,rfl⟩
   obtain⟨R2,vz⟩:∃z:Int,(if x.kq then 8 else 0)=z:=⟨_,rfl⟩
   have TI:0≤R1∧R1≤4:=by rw[←ye];split<;>omega
   have TJ:0≤R2∧R2≤8:=by rw[←vz];split<;>omega
   obtain⟨N1,xb⟩:∃z:Int,x.ah+R1=z:=⟨_,rfl⟩
   obtain⟨N2,AX⟩:∃z:Int,N1+R2=z:=⟨_,rfl⟩
   obtain⟨N3,DF⟩:∃z:Int,x.eX*16=z:=⟨_,rfl⟩
   obtain⟨N4,uy⟩:∃z:Int,N2+N3=z:=⟨_,rfl⟩
   obtain⟨J1,Gj⟩:=ai (P++FF++ [b8 N4]);obtain⟨aw3,hJ⟩:=ai (J1++P4);have FT:aw3=HH++(al.take (k+1)).flatMap dF:=by
    rw[jo,←hJ,←Gj,HP.O];unfold dF;simp only[lM,oZ,ye,vz,xb,AX,DF,uy];simp
   have yg:=O'.O (k+1) (by omega) aw3 FT;have Wb:J1.length+P4.length≤140000000:=by rw[←aK,hJ];exact yg
   have Q8:P.length+FF.length+1=J1.length:=by rw[←Gj];simp only[aK,ey,gi]
   have q0:=nN.q0;have q1:=nN.q1;have h0:=nN.h0;have h1:=nN.h1;have qm:IntKind.i64.wrap (x.ah+R1)=N1:=by rw[IntKind.wrap_i64];omega
   have yY:IntKind.i64.wrap (N1+R2)=N2:=by rw[IntKind.wrap_i64];omega
   have Pa:IntKind.i64.wrap (16*x.eX)=N3:=by rw[IntKind.wrap_i64];omega
   have Pb:IntKind.i64.wrap (N2+N3)=N4:=by rw[IntKind.wrap_i64];omega
   have HW:=Z (And.intro qm (And.intro yY (And.intro Pa Pb)));obtain⟨vF,Q9,AY,DO,uK,HJ,Bc,TK,afj,asG⟩:=Jn lM nN ye vz oZ hJ Gj FT Wb Q8;clear B5 Wa uQ bZ jo nN F lM oZ ye vz TI TJ xb AX DF uy hJ Gj FT yg Wb Q8 qm yY Pa Pb;go_upto_region 9 with(first
    |(refine iT 108 64 107 g (k*6) ((bH x)) HC.O underlying64 ?_))
   have lN:=aH wo (.cells (bH x) 64);have cw:=aD wo (.cells (bH x) 64);generalize wo.alloc (.cells (bH x) 64)=w9 at lN cw⊢;obtain⟨T,cQ⟩:=ai wo.heap.size;rw[cQ] at lN⊢;have c0:=D 0 lN;have yj:=Z lN;have Wc:Hid (LB w w9 (.slice ba P.length bc) P):=Z ⟨aR eb.O.own cw,cz eb.O.low cw eb.O.low.size⟩;clear lN cw cQ c4;go_upto_region 10 with(first
    |(go_at_call 63;go_must(refine Bb x.filter FF fe vF.O _ (by have:=Q9.O.f;omega) _ ?_);intro xa xc df oK lB;have uR:=Z (b_ oK);have Wd:Hid (LB w df (.slice ba P.length bc) P):=Z ⟨aR Wc.O.own lB,cz Wc.O.low lB Wc.O.low.size⟩;have DP:=Z (aA yj.O lB);clear oK lB c0))
   have c0:=D 0 DP.O;have c1:=D 1 DP.O;have c4:=D 4 DP.O;have c5:=D 5 DP.O;have i0:=Q9.O.i0;go_cut [6] from 115 to 161 (fun s6 wx=>s6= .bool f'∧wx=df)
   case first=>as_aux_lemma=>
    cases f with
    |false=>
     obtain rfl:f'=false:=ns.2 (fun h=>by have:=(yE.O.1 h).1;cases this);go_wp2_with fail;go_meet;exact⟨rfl,rfl⟩
    |true=>
     by_cases h1:fe=0
     ·subst h1;by_cases h2:1≤x.filter.length
      ·have wK:(1:Int)≤(x.filter.length:Int):=by omega
       by_cases h3:x.filter.length≤64
       ·have su:(x.filter.length:Int)≤64:=by omega
        by_cases h4:x.ah≤2
        ·by_cases h5:x.eX≤2
         ·by_cases h6:x.id≤268435455
          ·obtain rfl:f'=true:=yE.O.2 ⟨rfl,rfl,h2,h3,h4,h5,h6⟩;go_wp2_with fail;go_meet;exact⟨rfl,rfl⟩
          ·obtain rfl:f'=false:=ns.2 (fun h=>h6 (yE.O.1 h).2.2.2.2.2.2);go_wp2_with fail;go_meet;exact⟨rfl,rfl⟩
         ·obtain rfl:f'=false:=ns.2 (fun h=>h5 (yE.O.1 h).2.2.2.2.2.1);go_wp2_with fail;go_meet;exact⟨rfl,rfl⟩
        obtain rfl:f'=false:=ns.2 (fun h=>h4 (yE.O.1 h).2.2.2.2.1);go_wp2_with fail;go_meet;exact⟨rfl,rfl⟩
       obtain rfl:f'=false:=ns.2 (fun h=>h3 (yE.O.1 h).2.2.2.1);have su:¬(x.filter.length:Int)≤64:=by omega
       go_wp2_with fail;go_meet;exact⟨rfl,rfl⟩
      ·obtain rfl:f'=false:=ns.2 (fun h=>h2 (yE.O.1 h).2.2.1);have wK:¬(1:Int)≤(x.filter.length:Int):=by omega
       go_wp2_with fail;go_meet;exact⟨rfl,rfl⟩
     obtain rfl:f'=false:=ns.2 (fun h=>h1 (yE.O.1 h).2.1);have zj:(fe==0)=false:=by simpa using h1
     go_wp2_with fail;go_meet;exact⟨rfl,rfl⟩
   obtain⟨rfl,nW⟩:=hcut;have nW:=nW.symm;subst nW;clear c0 c1 c4 c5 i0 yE;go_upto_region 11 with fail
   go_cut [4] from 162 to 181 (fun s4 wx=>∃(Y:av)(c:Nat),s4= .slice Y J1.length c∧Hid (LB w wx (.slice Y J1.length c) J1)∧Hid (wx.heap[T]? =some (.cells (bH x) 64)))
   case first=>
    have NT:=Z (aA DP.O (bq df));have k0:=Cc NT.O;have uW:Hid (LB w df.drew (.slice ba P.length bc) P):=Z ⟨Wd.O.own.drew,Wd.O.low.drew⟩;have zZ:=Z (uR.O.below (bq df));have mY:Hid True:=trivial;have fR:Hid True:=trivial;have Q8:=asG.O;have Wb:=afj.O;obtain⟨qm,yY,Pa,Pb⟩:=HW.O;go_region_held3 (fun z=>z.cell? ⟨T,1,none⟩=some (.int .i64 x.ah)∧z.cell? ⟨T,2,none⟩=some (.bool x.kn)∧z.cell? ⟨T,3,none⟩=some (.bool x.kq)∧z.cell? ⟨T,4,none⟩=some (.int .i64 x.eX)∧z.cell? ⟨T,5,none⟩=some (.int .i64 x.id))
     (first|with_reducible exact k0|with_reducible exact xn|with_reducible exact Mi|with_reducible exact CD|go_keep)
     (first
      |((have hq:=mY;refine ig ?_ (.tmp 162) (.tmp 163) 22 ?_ w 5 (.int .u8 0) 1 1 underlying22 Tryz.cP rfl ?_ ba P.length bc (bv P) ?_ ?_ xa FF.length xc (bv FF) ?_ ?_ ?_ ?_ ?_ ?_ ?_ ?_;rfl;rfl;decide;rfl;exact uW.O.own;rfl;exact zZ.O.parts.2.1;exact(fC _);exact zZ.O.parts.2.2.2.2;unfold maxLen;omega;omega;exact uW.O.low.size;intro tV pY tW nU jA _;have jB:=Z (bT uW.O.low jA uW.O.low.size uW.O.own);have nk:=Z nU;have CI:=Z jA;clear hq mY nU jA);have xt:=Z (hZ CI.O NT.O (i_ NT.O uW.O.own (by decide)));have xn:=Cc xt.O;have xo:=Z (nk.O.alloc (.cells #[.int .u8 (IntKind.u8.wrap N4)] 5));have qb:=Z (jB.O.alloc jB.O.size (.cells #[.int .u8 (IntKind.u8.wrap N4)] 5));have Mh:=Z (dO tW #[.int .u8 (IntKind.u8.wrap N4)] 5 1 1 rfl);have Eh:=Z (aA xt.O (aD tW (.cells #[.int .u8 (IntKind.u8.wrap N4)] 5)));have Mi:=Cc Eh.O)
      |(go_at_call_of 65 (Value.int .i64 4);refine Vw x.kn 4 R1 AY.O _ _ ?_)
      |(go_at_call_of 65 (Value.int .i64 8);refine Vw x.kq 8 R2 DO.O _ _ ?_)
      |((have hq:=fR;refine ig ?_ (.tmp 164) (.tmp 180) 22 ?_ w 5 (.int .u8 0) 1 1 underlying22 Tryz.cP rfl ?_ tV (P.length+FF.length) pY (bv P++bv FF) ?_ ?_ (some ⟨tW,0,none⟩) 1 1 [.int .u8 (IntKind.u8.wrap N4)] ?_ ?_ ?_ ?_ ?_ ?_ ?_ ?_;rfl;rfl;decide;rfl;exact xo.O;rfl;exact Mh.O;exact(px _ _);exact(fun h=>by cases h);unfold maxLen;omega;omega;exact qb.O.size;intro yr yt Gn nV lS _;have tX:=Z (bT qb.O lS qb.O.size xo.O);have wj:=Z nV;have Bi:=Z lS;clear hq fR nV lS);have xu:=Z (hZ Bi.O Eh.O (i_ Eh.O xo.O (by decide)));have CD:=Cc xu.O))
    all_goals
     go_wp2_with fail;go_meet;have ho:=wj.O;have U:bv P++bv FF++ [.int .u8 (IntKind.u8.wrap N4)]=bv J1:=by
      rw[←Bc.O,zb];simp only[qf]
      rfl
     rw[Q8,U] at ho;exact⟨yr,yt,rfl,Z ⟨ho,tX.O⟩,xu⟩
   clear Wd;obtain⟨afk,afl,rfl,KX,asH⟩:=hcut;obtain⟨du,rfl⟩:∃x,x=wc:=⟨_,rfl⟩
   have c5:=D 5 asH.O;have i0:=Q9.O.i0;have i1:=Q9.O.i1;have tE:Hid True:=trivial;go_wp2_with (first
    |(go_at_call 64;go_must(refine adz x.id (by omega) (by omega) 4 (by decide) (by decide) P4 uK.O _ _ ?_);intro da dc cY lR dC;have mH:=Z (b_ lR);have iE:Hid (LB w cY (.slice afk J1.length afl) J1):=Z ⟨aR KX.O.own dC,cz KX.O.low dC KX.O.low.size⟩;have asI:=afj.O;clear lR dC c5)
    |(have hq:=tE;at_builtin;go_must(refine jr (by rfl) (.tmp 182) (.tmp 186) 22 (by rfl) w 5 (.int .u8 0) 1 1 underlying22 Tryz.cP rfl (by decide) afk J1.length afl _ (by rfl) iE.O.own da P4.length dc _ (by rfl) mH.O.parts.2.1 (fC _) mH.O.parts.2.2.2.2 (by unfold maxLen;omega) (by omega) iE.O.low.size ?_);intro MH jN mD Ei mE _;have Bj:=Z (bT iE.O.low mE iE.O.low.size iE.O.own);have MI:=Z Ei;clear hq tE Ei mE))
   have cD:=LB.list MI.O Bj.O;rw[HJ.O] at cD;have asJ:J1.length+P4.length=aw3.length:=by rw[←HJ.O,aK]
   have Q1:jn≤255:=by rw[←Ce.O];exact HS.O.sn
   have l8:Value.int .i64 (wrap64 ((k:Int)+1))= .int .i64 ((k+1:Nat):Int):=by
    have:wrap64 ((k:Int)+1)=(k:Int)+1:=by unfold wrap64;omega
    rw[this];simp
   clear asI;go_roundg (jn - (k+1))
   case measure=>omega
   case rel=>exact⟨k+1,f',aw3,MH,jN,by omega,rfl,by rw[asJ],rfl,(by first|exact l8|(push_cast;rfl)),Vv,TK,Z cD⟩
  have jh:k=jn:=by omega
  have bo:¬(k:Int)<(jn:Int):=by omega
  have wW:Hid (P=HH++al.flatMap dF):=by
   show _=_;rw[HP.O,gy (by have:=Ce.O;omega)]
  obtain rfl:awX=f:=by
   have h1:=IW.O;rw[gy (by have:=Ce.O;omega)] at h1;rw[Bool.eq_iff_iff,h1,HF.O]
  clear jh HP IW HF;obtain⟨xd,Cg,zN,FU⟩:=HX.O.hq;obtain⟨nq,Ch⟩:=ai queue.length;simp only at Cg zN FU;rw[Ch] at zN;obtain⟨qa,qc,Kw⟩:=zN.shape;subst Kw;have KY:xd.length=nq:=by rw[←Ch,←Cg];simp
  obtain⟨KZ,K0,K_,zI,FV⟩:=jq zN FU Cg Ch KY;have afm:Hid (∀x∈queue,gh x∧(db x).length≤65535):=Z HS.O.qk;have FW:P.length+1≤140000000:=by
   exact aaK
  have c5:=D 5 (aA nj.O eb.O.low);clear Cg zN FU Ch KY O_ O';go_upto_region 15 with(first
   |((at_builtin;go_must(refine jr (by rfl) (.tmp 188) (.tmp 195) 22 (by rfl) w 5 (.int .u8 0) 1 1 underlying22 Tryz.cP rfl (by decide) ba P.length bc _ (by rfl) (eb.O.own.alloc (.cells #[Value.int .u8 (IntKind.u8.wrap ((nq:Int)))] 5)) (some ⟨wo,0,none⟩) 1 1 [Value.int .u8 (IntKind.u8.wrap ((nq:Int)))] (by rfl) (dO wo #[Value.int .u8 (IntKind.u8.wrap ((nq:Int)))] 5 1 1 rfl) (px _ _) (fun h=>by cases h) (by unfold maxLen;omega) (by omega) (aJ eb.O.low.size (by simp)) ?_);intro fK c9 w9 dA bW _;have cw:=bT (eb.O.low.alloc eb.O.low.size (.cells #[Value.int .u8 (IntKind.u8.wrap ((nq:Int)))] 5)) bW (aJ eb.O.low.size (by simp)) (eb.O.own.alloc (.cells #[Value.int .u8 (IntKind.u8.wrap ((nq:Int)))] 5));have jw:=Z (LB.byte dA cw);clear dA bW cw)))
  have Pc:=Z (fun (k:Nat)(P2:List UInt8) (yd:P2=HH++al.flatMap dF++ [b8 (nq:Int)]++(queue.take k).flatMap d_)=>(by
   have h1:=congrArg List.length yd;have h2:=DJ d_ queue k;have h3:=xS.O;have h4:=lv.O;simp only[aK,ey,gi] at h1
   omega:P2.length+2≤140000000))
  clear c4 c5 FW;go_loopg [4,6,11,12,13,14,15] nq (fun gn b ok i _ _ _ _ wr=>∃(k:Nat)(P2:List UInt8)(tI:av)(tJ:Nat),k≤nq∧gn=nq - k∧b= .slice tI P2.length tJ∧ok= .bool awX∧i= .int .i64 k∧Hid (P2=HH++al.flatMap dF++ [b8 (nq:Int)]++(queue.take k).flatMap d_)∧Hid (LB w wr (.slice tI P2.length tJ) P2))
  case atStart=>exact⟨0,P++ [b8 (nq:Int)],fK,c9,bP _,by omega,by rw[aK];rfl,rfl,rfl,Z (by rw[wW.O];simp),jw⟩
  case round=>
   obtain⟨k2,P2,tI,tJ,eB,rfl,rfl,rfl,rfl,mU,kQ⟩:=hrel;obtain⟨wq,rfl⟩:∃x,x=wr:=⟨_,rfl⟩
   clear eb jw;have c5:=D 5 (aA nj.O kQ.O.low);by_cases jK:k2<nq
   ·as_aux_lemma=>
    have J6:(k2:Int)<(nq:Int):=by omega
    have fF:k2<xd.length:=by have:=FV.O;omega
    have pM:k2<queue.length:=by have:=zI.O;omega
    obtain⟨g,o,nJ,bg,_⟩:=(KZ.O.below kQ.O.low).at (by omega);subst nJ;have uF:queue[k2]=(xd[k2]).2:=by
     have h2:=congrArg (fun l=>l[k2]?) K_.O;exact Oq
    have a_:=K0.O _ (getElem_mem fF);have bZ:∀j,j<14→wq.cell? ⟨g,o+k2*14+j,none⟩=(dX xd[k2])[j]?:=fun j hj=>by
     have:=FV.O;rw[oO,bg (k2*14+j) (by omega),kY 14 dX oS xd k2 j fF hj]
    have jo:=DK d_ queue k2 pM;have sq:=afm.O _ (getElem_mem pM);obtain⟨⟨⟨v1,v2,v3⟩,x⟩,hp⟩:∃p,xd[k2]=p:=⟨_,rfl⟩
    rw[hp] at uF a_ bZ;rw[uF] at jo sq;simp only at jo sq;obtain⟨⟨sC,sD,e1⟩,⟨sE,sF,e2⟩,sG,sH,e3⟩:=a_.1.O.shape;simp only at e1 e2 e3;subst e1 e2 e3;have HC:Hid (∀j,j< (aG x sC sD sE sF sG sH:List Value).length→wq.cell? ⟨g,o+k2*14+j,none⟩= (aG x sC sD sE sF sG sH:List Value)[j]?):=bZ;obtain⟨IY,qM⟩:=ai (db x);obtain⟨⟨DI,de⟩,ph⟩:∃q,dn IY=q:=⟨_,rfl⟩
    have MJ:IY.length≤65535:=by rw[←qM];exact sq.2
    obtain rfl:de=0:=by
     unfold dn at ph;rw[if_neg (by omega)] at ph;exact(Prod.mk.inj ph).2.symm
    have nP:P2++DI=HH++al.flatMap dF++ [b8 (nq:Int)]++(queue.take (k2+1)).flatMap d_:=by
     rw[jo,mU.O];unfold d_;simp only[qM,ph];simp
    have oL:=Pc.O (k2+1) _ nP;rw[aK] at oL;obtain⟨zO,jf,FX,FY,Gf,asK⟩:=CN nP oL qM ph sq MJ;have zP:=Z (a_.1.O.below kQ.O.low);have fh:Hid True:=trivial;clear bg uF a_ bZ hp jo sq qM ph nP oL MJ;go_upto_region 19 with(first
     |(refine iT 213 36 212 g (o+k2*14) ((aG x sC sD sE sF sG sH)) HC.O underlying36 ?_)
     |(go_at_call 66;go_must(refine Vs x (afb Gf.O.1) true (by simp[Gf.O.1]) _ _ _ _ zP.O (HT.O.below kQ.O.low) IY FX.O _ ?_);intro ya yc du zQ eH;have uS:=Z (b_ zQ);have tL:Hid (LB w du (.slice tI P2.length tJ) P2):=Z ⟨aR kQ.O.own eH,cz kQ.O.low eH kQ.O.low.size⟩;clear zQ eH c5)
     |(go_at_call 67;go_must(refine IM _ IY DI 0 FY.O _ uS.O _ ?_);intro da dc cY lR dC;have mH:=Z (b_ lR);have iE:Hid (LB w cY (.slice tI P2.length tJ) P2):=Z ⟨aR tL.O.own dC,cz tL.O.low dC tL.O.low.size⟩;have IE:=jf.O;clear lR dC))
    go_cut [6] from 222 to 229 (fun s6 wx=>s6= .bool awX∧wx=cY)
    case first=>
     exact afc
    obtain⟨rfl,nW⟩:=hcut;have nW:=nW.symm;subst nW;go_wp2_with (have hq:=fh;at_builtin;go_must(refine jr (by rfl) (.tmp 230) (.tmp 231) 22 (by rfl) w 5 (.int .u8 0) 1 1 underlying22 Tryz.cP rfl (by decide) tI P2.length tJ _ (by rfl) iE.O.own da DI.length dc _ (by rfl) mH.O.parts.2.1 (fC _) mH.O.parts.2.2.2.2 (by unfold maxLen;omega) (by omega) iE.O.low.size ?_);intro MH jN mD Ei mE _;have Bj:=Z (bT iE.O.low mE iE.O.low.size iE.O.own);have MI:=Z Ei;clear hq fh Ei mE);have cD:=LB.list MI.O Bj.O;have Kv:nq≤255:=by rw[←zI.O];exact HS.O.qn
    have l8:Value.int .i64 (wrap64 ((k2:Int)+1))= .int .i64 ((k2+1:Nat):Int):=by
     have:wrap64 ((k2:Int)+1)=(k2:Int)+1:=by unfold wrap64;omega
     rw[this];simp
    clear IE;go_roundg (nq - (k2+1))
    case measure=>omega
    case rel=>exact⟨k2+1,P2++DI,MH,jN,by omega,rfl,by rw[aK],rfl,(by first|exact l8|(push_cast;rfl)),zO,Z cD⟩
   have TL:k2=nq:=by omega
   have J6:¬(k2:Int)<(nq:Int):=by omega
   have Ld:Hid (P2=HH++al.flatMap dF++ [b8 (nq:Int)]++queue.flatMap d_):=by
    show _=_;rw[mU.O,gy (by have:=zI.O;omega)]
   clear TL mU;obtain⟨gf,jM,fz,lz⟩:=HX.O.hf;obtain⟨nf,pf⟩:=ai ag.length;simp only at jM fz lz;rw[pf] at fz;obtain⟨fa,fc,oV⟩:=cR fz;subst oV;have zL:gf.length=nf:=by rw[←pf,←jM];simp
   obtain⟨sM,Ci,qA,pT,vQ⟩:=jq fz lz jM pf zL;have Ja:Hid (∀f∈ag,gh f.item∧(db f.item).length≤65535):=Z HS.O.fk;have FW:P2.length+1≤140000000:=by
    have h1:=congrArg List.length Ld.O;exact OM
   have c6:=D 6 (aA nj.O kQ.O.low);clear jM fz lz pf zL KZ K0 K_ FV afm Pc;go_upto_region 23 with(first
    |((at_builtin;go_must(refine jr (by rfl) (.tmp 233) (.tmp 240) 22 (by rfl) w 5 (.int .u8 0) 1 1 underlying22 Tryz.cP rfl (by decide) tI P2.length tJ _ (by rfl) (kQ.O.own.alloc (.cells #[Value.int .u8 (IntKind.u8.wrap ((nf:Int)))] 5)) (some ⟨wq,0,none⟩) 1 1 [Value.int .u8 (IntKind.u8.wrap ((nf:Int)))] (by rfl) (dO wq #[Value.int .u8 (IntKind.u8.wrap ((nf:Int)))] 5 1 1 rfl) (px _ _) (fun h=>by cases h) (by unfold maxLen;omega) (by omega) (aJ kQ.O.low.size (by simp)) ?_);intro fK c9 w9 dA bW _;have cw:=bT (kQ.O.low.alloc kQ.O.low.size (.cells #[Value.int .u8 (IntKind.u8.wrap ((nf:Int)))] 5)) bW (aJ kQ.O.low.size (by simp)) (kQ.O.own.alloc (.cells #[Value.int .u8 (IntKind.u8.wrap ((nf:Int)))] 5));have jw:=Z (LB.byte dA cw);clear dA bW cw)))
   have Pd:=Z (fun (k:Nat)(P3:List UInt8) (TM:P3=HH++al.flatMap dF++ [b8 (nq:Int)]++queue.flatMap d_++ [b8 (nf:Int)]++(ag.take k).flatMap fB)=>(by
    have h1:=congrArg List.length TM;have h2:=DJ fB ag k;have h3:=xS.O;have h4:=lv.O;simp only[aK,ey,gi] at h1
    omega:P3.length+1≤140000000))
   clear c5 c6 FW;go_loopg [4,6,16,17,18,19,20,21] nf (fun gn b ok i _ _ _ _ _ wr=>∃(k:Nat)(P3:List UInt8)(rQ:av)(rR:Nat),k≤nf∧gn=nf - k∧b= .slice rQ P3.length rR∧ok= .bool awX∧i= .int .i64 k∧Hid (P3=HH++al.flatMap dF++ [b8 (nq:Int)]++queue.flatMap d_++ [b8 (nf:Int)]++(ag.take k).flatMap fB)∧Hid (LB w wr (.slice rQ P3.length rR) P3))
   case atStart=>exact⟨0,P2++ [b8 (nf:Int)],fK,c9,bP _,by omega,by rw[aK];rfl,rfl,rfl,Z (by rw[Ld.O];simp),jw⟩
   case round=>
    obtain⟨k3,P3,rQ,rR,o_,rfl,rfl,rfl,rfl,uC,mI⟩:=hrel;obtain⟨wf,rfl⟩:∃x,x=wr:=⟨_,rfl⟩
    clear kQ jw;have c6:=D 6 (aA nj.O mI.O.low);by_cases FZ:k3<nf;rotate_left
    ·have TO:k3=nf:=by omega
     have TN:¬(k3:Int)<(nf:Int):=by omega
     have Lf:Hid (P3=HH++al.flatMap dF++ [b8 (nq:Int)]++queue.flatMap d_++ [b8 (nf:Int)]++ag.flatMap fB):=by
      show _=_;rw[uC.O,gy (by have:=pT.O;omega)]
     clear TO uC;obtain⟨ng,F2⟩:=ai aB.length;have xN:=HX.O.A;simp only at xN;rw[F2] at xN;obtain⟨ga,gc,PN⟩:=cR xN;subst PN;have dm:(bA aB).length=ng:=by rw[tH,F2]
     obtain⟨gl,xf⟩:=ai (bA aB);rw[xf] at xN dm;obtain⟨asL,DE,OK,iL⟩:=cF xN F2 xf dm;have TR:P3.length+1≤140000000:=by
      have h1:=congrArg List.length Lf.O;exact OM
     have c7:=D 7 (aA nj.O mI.O.low);clear xN F2 xf dm sM Ci qA vQ Ja Pd;go_upto_region 32 with(first
      |((at_builtin;go_must(refine jr (by rfl) (.tmp 290) (.tmp 298) 22 (by rfl) w 5 (.int .u8 0) 1 1 underlying22 Tryz.cP rfl (by decide) rQ P3.length rR _ (by rfl) (mI.O.own.alloc (.cells #[Value.int .u8 (IntKind.u8.wrap ((ng:Int)))] 5)) (some ⟨wf,0,none⟩) 1 1 [Value.int .u8 (IntKind.u8.wrap ((ng:Int)))] (by rfl) (dO wf #[Value.int .u8 (IntKind.u8.wrap ((ng:Int)))] 5 1 1 rfl) (px _ _) (fun h=>by cases h) (by unfold maxLen;omega) (by omega) (aJ mI.O.low.size (by simp)) ?_);intro fK c9 w9 dA bW _;have cw:=bT (mI.O.low.alloc mI.O.low.size (.cells #[Value.int .u8 (IntKind.u8.wrap ((ng:Int)))] 5)) bW (aJ mI.O.low.size (by simp)) (mI.O.own.alloc (.cells #[Value.int .u8 (IntKind.u8.wrap ((ng:Int)))] 5));have jw:=Z (LB.byte dA cw);clear dA bW cw)))
     have TS:=Z (fun (k:Nat)(P4:List UInt8) (oZ:P4=HH++al.flatMap dF++ [b8 (nq:Int)]++queue.flatMap d_++ [b8 (nf:Int)]++ag.flatMap fB++ [b8 (ng:Int)]++(gl.take k).flatMap iD)=>(by
      have h1:=congrArg List.length oZ;have h2:=DJ iD gl k;have h3:=xS.O;have h4:=lv.O;have h5:=OK.O;rw[h5] at h3;simp only[aK,ey,gi] at h1
      omega:P4.length≤140000000))
     clear c6 c7 TR;go_loopg [4,22] ng (fun gn b i wr=>∃(k:Nat)(P4:List UInt8)(xT:av)(xU:Nat),k≤ng∧gn=ng - k∧b= .slice xT P4.length xU∧i= .int .i64 k∧Hid (P4=HH++al.flatMap dF++ [b8 (nq:Int)]++queue.flatMap d_++ [b8 (nf:Int)]++ag.flatMap fB++ [b8 (ng:Int)]++(gl.take k).flatMap iD)∧Hid (LB w wr (.slice xT P4.length xU) P4))
     case atStart=>exact⟨0,P3++ [b8 (ng:Int)],fK,c9,bP _,by omega,by rw[aK];rfl,rfl,Z (by rw[Lf.O];simp),jw⟩
     case round=>
      obtain⟨k4,P4,xT,xU,rl,rfl,rfl,rfl,uK,zJ⟩:=hrel;obtain⟨wg,rfl⟩:∃x,x=wr:=⟨_,rfl⟩
      clear mI jw;have c7:=D 7 (aA nj.O zJ.O.low);by_cases alG:k4<ng
      ·as_aux_lemma=>
       have TU:(k4:Int)<(ng:Int):=by omega
       have FG:k4<gl.length:=by have:=iL.O;omega
       have Lg:Is wg (.slice ga ng gc) gl:=Jv (aR asL.O zJ.O.low) iL.O;obtain⟨g,o,asM,tF⟩:=Lg.at k4 FG;subst asM;have jo:=DK iD gl k4 FG;obtain⟨x,F⟩:=ai (gl[k4]);rw[F] at tF jo;obtain⟨PX,F3⟩:=ai (aY (bz x) 2);have nP:P4++PX=HH++al.flatMap dF++ [b8 (nq:Int)]++queue.flatMap d_++ [b8 (nf:Int)]++ag.flatMap fB++ [b8 (ng:Int)]++(gl.take (k4+1)).flatMap iD:=by
        rw[jo,uK.O];unfold iD;simp only[F3];simp
       have oL:=TS.O (k4+1) _ nP;rw[aK] at oL;obtain⟨zO,jf,TV⟩:=bX nP oL F3;have tv:Hid True:=trivial;clear Lg jo F F3 nP oL;go_wp2_with (first
        |(go_at_call 64;go_must(refine CB x 2 (by decide) (by decide) PX TV.O _ _ ?_);intro da dc cY lR dC;have mH:=Z (b_ lR);have iE:Hid (LB w cY (.slice xT P4.length xU) P4):=Z ⟨aR zJ.O.own dC,cz zJ.O.low dC zJ.O.low.size⟩;have IE:=jf.O;clear lR dC tF c7)
        |(have hq:=tv;at_builtin;go_must(refine jr (by rfl) (.tmp 310) (.tmp 320) 22 (by rfl) w 5 (.int .u8 0) 1 1 underlying22 Tryz.cP rfl (by decide) xT P4.length xU _ (by rfl) iE.O.own da PX.length dc _ (by rfl) mH.O.parts.2.1 (fC _) mH.O.parts.2.2.2.2 (by unfold maxLen;omega) (by omega) iE.O.low.size ?_);intro MH jN mD Ei mE _;have Bj:=Z (bT iE.O.low mE iE.O.low.size iE.O.own);have MI:=Z Ei;clear hq tv Ei mE))
       have cD:=LB.list MI.O Bj.O;have ar2:ng≤255:=by rw[←DE.O];exact HS.O.gn
       have l8:Value.int .i64 (wrap64 ((k4:Int)+1))= .int .i64 ((k4+1:Nat):Int):=by
        have:wrap64 ((k4:Int)+1)=(k4:Int)+1:=by unfold wrap64;omega
        rw[this];simp
       clear IE;go_roundg (ng - (k4+1))
       case measure=>omega
       case rel=>exact⟨k4+1,P4++PX,MH,jN,by omega,rfl,by rw[aK],(by first|exact l8|(push_cast;rfl)),zO,Z cD⟩
      have TU:¬(k4:Int)<(ng:Int):=by omega
      exact aaL
    as_aux_lemma=>
    have TN:(k3:Int)<(nf:Int):=by omega
    have fF:k3<gf.length:=by have:=vQ.O;omega
    have wX:k3<ag.length:=by have:=pT.O;omega
    have uQ:=aR sM.O mI.O.low;obtain⟨g,rfl⟩:=jF uQ (by omega);have qH:ag[k3]=(gf[k3]).2:=by
     have h2:=congrArg (fun l=>l[k3]?) qA.O;exact OO
    have a_:=Ci.O _ (getElem_mem fF);have bZ:∀j,j<16→wf.cell? ⟨g,k3*16+j,none⟩=(bV gf[k3])[j]?:=fun j hj=>by
     have:=vQ.O;rw[uQ.cellAt (k3*16+j) (by omega),kY 16 bV j5 gf k3 j fF hj]
    have jo:=DK fB ag k3 wX;have tM:=Ja.O _ (getElem_mem wX);obtain⟨⟨⟨v1,v2,v3⟩,f⟩,hp⟩:∃p,gf[k3]=p:=⟨_,rfl⟩
    rw[hp] at qH a_ bZ;rw[qH] at jo tM;simp only at jo tM a_;obtain⟨⟨V,X,e1⟩,⟨kD,kE,e2⟩,ea,ec,e3⟩:=a_.1.O.shape;simp only at e1 e2 e3;subst e1 e2 e3;have HC:Hid (∀j,j< (cA f.id f.state f.item V X kD kE ea ec:List Value).length→wf.cell? ⟨g,k3*16+j,none⟩= (cA f.id f.state f.item V X kD kE ea ec:List Value)[j]?):=bZ;obtain⟨pj,F0⟩:=ai (aY (bz f.id) 2);obtain⟨IY,qM⟩:=ai (db f.item);obtain⟨⟨DI,de⟩,ph⟩:∃q,dn IY=q:=⟨_,rfl⟩
    have MJ:IY.length≤65535:=by rw[←qM];exact tM.2
    obtain rfl:de=0:=by
     unfold dn at ph;rw[if_neg (by omega)] at ph;exact(Prod.mk.inj ph).2.symm
    obtain⟨J2,DQ⟩:=ai (P3++pj++ [b8 f.state]++DI);have nP:J2=HH++al.flatMap dF++ [b8 (nq:Int)]++queue.flatMap d_++ [b8 (nf:Int)]++(ag.take (k3+1)).flatMap fB:=by
     rw[jo,←DQ,uC.O];unfold fB;simp only[qM,ph,F0];simp
    have oL:=Pd.O (k3+1) _ nP;have yg:P3.length+pj.length+1+DI.length=J2.length:=by rw[←DQ];simp only[aK,ey,gi]
    obtain⟨zO,jf,oz,FX,FY,F1,Pe,Gf,asK⟩:=CO nP oL yg qM ph DQ F0 tM MJ;have zP:=Z (a_.1.O.below mI.O.low);clear uQ qH a_ bZ hp jo tM F0 qM ph DQ nP oL MJ yg;go_upto_region 26 with(first
     |(refine iT 257 51 256 g (k3*16) ((cA f.id f.state f.item V X kD kE ea ec)) HC.O underlying51 ?_))
    have eH:=aD wf (.cells (cA f.id f.state f.item V X kD kE ea ec) 51);have nQ:=aH wf (.cells (cA f.id f.state f.item V X kD kE ea ec) 51);generalize wf.alloc (.cells (cA f.id f.state f.item V X kD kE ea ec) 51)=df at eH nQ⊢;obtain⟨T,cQ⟩:=ai wf.heap.size;rw[cQ] at nQ⊢;have dZ:Hid (LB w df (.slice rQ P3.length rR) P3):=Z ⟨aR mI.O.own eH,cz mI.O.low eH mI.O.low.size⟩;have Iw:=Z (zP.O.below eH);have asN:=Z nQ;have xZ:Hid (∀j,j<14→df.cell? ⟨T,2+j,none⟩= (aG f.item V X kD kE ea ec:List Value)[j]?):=Z (fun j hj=>by
     rw[D (2+j) nQ]
     match j,hj with
     |0,_|1,_|2,_|3,_|4,_|5,_|6,_|7,_|8,_|9,_|10,_|11,_|12,_|13,_=>rfl)
    clear eH nQ cQ c6;go_upto_region 28 with(first
     |(refine iT 260 36 259 T 2 ((aG f.item V X kD kE ea ec)) xZ.O underlying36 ?_)
     |(go_at_call 66;go_must(refine Vs f.item (afb Gf.O.1) true (by simp[Gf.O.1]) _ _ _ _ Iw.O (HT.O.below dZ.O.low) IY FX.O _ ?_);intro ya yc du zQ eH;have uS:=Z (b_ zQ);have tL:Hid (LB w du (.slice rQ P3.length rR) P3):=Z ⟨aR dZ.O.own eH,cz dZ.O.low eH dZ.O.low.size⟩;have Pf:=Z (aA asN.O eH);clear zQ eH)
     |(go_at_call 67;go_must(refine IM _ IY DI 0 FY.O _ uS.O _ ?_);intro da dc cY lR dC;have mH:=Z (b_ lR);have iE:Hid (LB w cY (.slice rQ P3.length rR) P3):=Z ⟨aR tL.O.own dC,cz tL.O.low dC tL.O.low.size⟩;have asO:=Z (aA Pf.O dC);have asP:=Z lR;have afn:=Z dC.size;have fx:Hid (∀k,(Value.slice rQ P3.length rR).ownBlock=some k→k<du.heap.size):=Z (fun k G=>(tL.O.own.lt k G).2);clear lR dC))
    go_cut [6] from 269 to 276 (fun s6 wx=>s6= .bool awX∧wx=cY)
    case first=>
     exact afc
    obtain⟨rfl,nW⟩:=hcut;have nW:=nW.symm;subst nW;go_upto_region 29 with fail
    have NT:=Z (aA asO.O (bq cY));have k0:=jU NT.O;have uW:Hid (LB w cY.drew (.slice rQ P3.length rR) P3):=Z ⟨iE.O.own.drew,iE.O.low.drew⟩;have AW:=Z asP.O.drew;have mY:Hid True:=trivial;have fR:Hid True:=trivial;have fh:Hid True:=trivial;have lP:Hid True:=trivial;have yg:=oz.O;have oL:=jf.O;have c0:=And.intro k0.1 k0.2.1;clear k0;have wi:Hid (Below w w (cY.alloc (.cells #[.int .u8 (IntKind.u8.wrap f.state)] 5)).drew):=Z (uW.O.low.alloc uW.O.low.size (.cells #[.int .u8 (IntKind.u8.wrap f.state)] 5));have tf:Hid ((cY.alloc (.cells #[.int .u8 (IntKind.u8.wrap f.state)] 5)).drew.ownsRow w 5 1 (.slice rQ P3.length rR) P3.length (bv P3)):=Z (uW.O.own.alloc (.cells #[.int .u8 (IntKind.u8.wrap f.state)] 5));have asQ:Hid ((cY.alloc (.cells #[.int .u8 (IntKind.u8.wrap f.state)] 5)).drew.ownsRow du 5 1 (.slice da DI.length dc) DI.length (bv DI)):=Z (AW.O.alloc (.cells #[.int .u8 (IntKind.u8.wrap f.state)] 5));have We:Hid ((cY.alloc (.cells #[.int .u8 (IntKind.u8.wrap f.state)] 5)).drew.heap[T]? =_):=Z (aA NT.O ((Below.refl cY.drew.heap.size cY.drew).alloc bj (.cells #[.int .u8 (IntKind.u8.wrap f.state)] 5)));have MK:Hid ((cY.alloc (.cells #[.int .u8 (IntKind.u8.wrap f.state)] 5)).drew.ownsRow du 5 1 (.slice (some ⟨cY,0,none⟩) 1 1) 1 (bv [b8 f.state])):=Z (EK cY.drew f.state (afn.O));have cC:=And.intro (jU We.O).1 (jU We.O).2.1;go_region_held3 (fun z=>z.cell? ⟨T,0,none⟩=some (.int .i64 f.id)∧z.cell? ⟨T,1,none⟩=some (.int .i64 f.state))
     (first|with_reducible exact c0|with_reducible exact cC|with_reducible exact kA|with_reducible exact kB|with_reducible exact xn|with_reducible exact Mi|with_reducible exact CD|with_reducible exact V9|go_keep)
     (first
      |(have hq:=mY;go_at_call 64;refine CB f.id 2 (by decide) (by decide) pj Pe.O _ _ ?_;intro xa xc wA D4 c_;clear hq mY;have uV:=Z (aR uW.O.own c_);have cM:=Z (cz uW.O.low c_ uW.O.low.size);have z_:=Z (b_ D4);have GD:=Z (aR AW.O c_);have NA:=Z (aA NT.O c_);have kA:=And.intro (jU NA.O).1 (jU NA.O).2.1;have Ai:=Z (aJ afn.O c_.size);have cT:=Z (cM.O.alloc cM.O.size (.cells #[.int .u8 (IntKind.u8.wrap f.state)] 5));have Fz:=Z (uV.O.alloc (.cells #[.int .u8 (IntKind.u8.wrap f.state)] 5));have afo:=Z (GD.O.alloc (.cells #[.int .u8 (IntKind.u8.wrap f.state)] 5));have Q_:=Z (aA NA.O (aD wA (.cells #[.int .u8 (IntKind.u8.wrap f.state)] 5)));have kB:=And.intro (jU Q_.O).1 (jU Q_.O).2.1;have afp:=Z (z_.O.below (aD wA (.cells #[.int .u8 (IntKind.u8.wrap f.state)] 5)));have asR:=Z (EK wA f.state Ai.O))
      |(have hq:=mY;go_at_call 64;refine CB f.id 2 (by decide) (by decide) pj Pe.O _ _ ?_;intro xa xc wA D4 c_;clear hq mY;have uV:=Z (aR tf.O c_);have cM:=Z (aQ wi.O c_);have z_:=Z (b_ D4);have GD:=Z (aR asQ.O c_);have NA:=Z (aA We.O c_);have kA:=And.intro (jU NA.O).1 (jU NA.O).2.1;have Ej:=Z (aR MK.O c_))
      |((have hq:=fR;refine ig ?_ (.tmp 277) (.tmp 281) 22 ?_ w 5 (.int .u8 0) 1 1 underlying22 Tryz.cP rfl ?_ rQ P3.length rR (bv P3) ?_ ?_ xa pj.length xc (bv pj) ?_ ?_ ?_ ?_ ?_ ?_ ?_ ?_;rfl;rfl;decide;rfl;exact uV.O;rfl;exact z_.O.parts.2.1;exact(fC _);exact z_.O.parts.2.2.2.2;unfold maxLen;omega;omega;exact cM.O.size;intro tV pY tW nU jA Wf;have jB:=Z (bT cM.O jA cM.O.size uV.O);have nk:=Z nU;have CI:=Z jA;clear hq fR nU jA);have xt:=Z (hZ CI.O NA.O (i_ NA.O uV.O (by decide)));have xn:=And.intro (jU xt.O).1 (jU xt.O).2.1;have Q':=Z (QG GD.O CI.O fx.O);have Ra:=Z (ad9 fx.O Wf);have xo:=Z (nk.O.alloc (.cells #[.int .u8 (IntKind.u8.wrap f.state)] 5));have qb:=Z (jB.O.alloc jB.O.size (.cells #[.int .u8 (IntKind.u8.wrap f.state)] 5));have asS:=Z (Q'.O.alloc (.cells #[.int .u8 (IntKind.u8.wrap f.state)] 5));have asT:=Z (b_ (EK (B:=0) tW f.state (bP _)));have Eh:=Z (aA xt.O (aD tW (.cells #[.int .u8 (IntKind.u8.wrap f.state)] 5)));have Mi:=And.intro (jU Eh.O).1 (jU Eh.O).2.1)
      |((have hq:=fR;refine ig ?_ (.tmp 277) (.tmp 281) 22 ?_ w 5 (.int .u8 0) 1 1 underlying22 Tryz.cP rfl ?_ rQ P3.length rR (bv P3) ?_ ?_ xa pj.length xc (bv pj) ?_ ?_ ?_ ?_ ?_ ?_ ?_ ?_;rfl;rfl;decide;rfl;exact Fz.O;rfl;exact afp.O.parts.2.1;exact(fC _);exact afp.O.parts.2.2.2.2;unfold maxLen;omega;omega;exact cT.O.size;intro tV pY tW nU jA Wf;have jB:=Z (bT cT.O jA cT.O.size Fz.O);have nk:=Z nU;have CI:=Z jA;clear hq fR nU jA);have xt:=Z (hZ CI.O Q_.O (i_ Q_.O Fz.O (by decide)));have xn:=And.intro (jU xt.O).1 (jU xt.O).2.1;have GD:=afo;have Q':=Z (QG afo.O CI.O fx.O);have Ra:=Z (ad9 fx.O Wf);have Ej:=asR)
      |((have hq:=fh;refine ig ?_ (.tmp 282) (.tmp 286) 22 ?_ w 5 (.int .u8 0) 1 1 underlying22 Tryz.cP rfl ?_ tV (P3.length+pj.length) pY (bv P3++bv pj) ?_ ?_ (some ⟨tW,0,none⟩) 1 1 (bv [b8 f.state]) ?_ ?_ ?_ ?_ ?_ ?_ ?_ ?_;rfl;rfl;decide;rfl;exact xo.O;rfl;exact asT.O.parts.2.1;exact(fC _);exact(fun h=>by cases h);unfold maxLen;omega;omega;exact qb.O.size;intro yr yt Gn nV lS afq;have tX:=Z (bT qb.O lS qb.O.size xo.O);have wj:=Z nV;have Bi:=Z lS;clear hq fh nV lS);have xu:=Z (hZ Bi.O Eh.O (i_ Eh.O xo.O (by decide)));have CD:=And.intro (jU xu.O).1 (jU xu.O).2.1;have Rc:=Z (b_ (Vx asS.O GD.O Bi.O Ra.O)))
      |(have Wg:=b_ (QG Ej.O CI.O fx.O);(have hq:=fh;refine ig ?_ (.tmp 282) (.tmp 286) 22 ?_ w 5 (.int .u8 0) 1 1 underlying22 Tryz.cP rfl ?_ tV (P3.length+pj.length) pY (bv P3++bv pj) ?_ ?_ (some ⟨wA,0,none⟩) 1 1 (bv [b8 f.state]) ?_ ?_ ?_ ?_ ?_ ?_ ?_ ?_;rfl;rfl;decide;rfl;exact nk.O;rfl;exact Wg.parts.2.1;exact(fC _);exact(fun h=>by cases h);unfold maxLen;omega;omega;exact jB.O.size;intro yr yt Gn nV lS afq;have tX:=Z (bT jB.O lS jB.O.size nk.O);have wj:=Z nV;have Bi:=Z lS;clear hq fh nV lS);have xu:=Z (hZ Bi.O xt.O (i_ xt.O nk.O (by decide)));have CD:=And.intro (jU xu.O).1 (jU xu.O).2.1;have Rc:=Z (b_ (Vx Q'.O GD.O Bi.O Ra.O)))
      |(have Wg:=b_ (QG Ej.O CI.O fx.O);(have hq:=fh;refine ig ?_ (.tmp 282) (.tmp 286) 22 ?_ w 5 (.int .u8 0) 1 1 underlying22 Tryz.cP rfl ?_ tV (P3.length+pj.length) pY (bv P3++bv pj) ?_ ?_ (some ⟨cY,0,none⟩) 1 1 (bv [b8 f.state]) ?_ ?_ ?_ ?_ ?_ ?_ ?_ ?_;rfl;rfl;decide;rfl;exact nk.O;rfl;exact Wg.parts.2.1;exact(fC _);exact(fun h=>by cases h);unfold maxLen;omega;omega;exact jB.O.size;intro yr yt Gn nV lS afq;have tX:=Z (bT jB.O lS jB.O.size nk.O);have wj:=Z nV;have Bi:=Z lS;clear hq fh nV lS);have xu:=Z (hZ Bi.O xt.O (i_ xt.O nk.O (by decide)));have CD:=And.intro (jU xu.O).1 (jU xu.O).2.1;have Rc:=Z (b_ (Vx Q'.O GD.O Bi.O Ra.O)))
      |((have hq:=lP;refine ig ?_ (.tmp 287) (.tmp 288) 22 ?_ w 5 (.int .u8 0) 1 1 underlying22 Tryz.cP rfl ?_ yr (P3.length+pj.length+1) yt (bv P3++bv pj++bv [b8 f.state]) ?_ ?_ da DI.length dc (bv DI) ?_ ?_ ?_ ?_ ?_ ?_ ?_ ?_;rfl;rfl;decide;rfl;exact wj.O;rfl;exact Rc.O.parts.2.1;exact(fC _);exact Rc.O.parts.2.2.2.2;unfold maxLen;omega;omega;exact tX.O.size;intro IQ IS Vm Ab yu awu;have Ac:=Z (bT tX.O yu tX.O.size wj.O);have D5:=Z Ab;have asU:=Z yu;clear hq lP Ab yu);have afr:=Z (hZ asU.O xu.O (i_ xu.O wj.O (by decide)));have V9:=And.intro (jU afr.O).1 (jU afr.O).2.1))
    all_goals
     have cD:=D5.O;have Gb:bv P3++bv pj++bv [b8 f.state]++bv DI=bv J2:=by
      rw[←F1.O];simp only[qf]
     rw[Gb,yg] at cD;have afs:nf≤255:=by rw[←pT.O];exact HS.O.fn
     have l8:Value.int .i64 (wrap64 ((k3:Int)+1))= .int .i64 ((k3+1:Nat):Int):=by
      have:wrap64 ((k3:Int)+1)=(k3:Int)+1:=by unfold wrap64;omega
      rw[this];simp
     go_wp2_with fail;go_roundg (nf - (k3+1))
     case measure=>omega
     case rel=>exact⟨k3+1,J2,IQ,IS,by omega,rfl,(by first|rfl|rw[yg]),rfl,(by first|exact l8|(push_cast;rfl)),zO,Z ⟨cD,Ac.O⟩⟩
