/- A part of the proof of SessionReads; no conditions. -/
import Derived.Test.YtgimbocoamnkjaaGreatDoorM27
import Derived.Test.YtgimbocoamnkjaaGreatDoorM26
import Derived.Test.YtgimbocoamnkjaaGreatDoorM24
set_option maxRecDepth 100000
set_option maxHeartbeats 16000000
namespace Go.Proofs.YtgimbocoamnkjaaGreatDoor
open _root_.Go.Proofs.Tryz
open List (eraseIdx_eq_take_drop_succ length_eraseIdx_of_lt mem_of_mem_drop)
variable{xs:List Value}{B e g k n size:Nat}{s:az}{w:World}
open Go.RowKit
theorem fg.lg(h:fg s):Q5 s:=
 ⟨aJ h.cn (by decide),aJ h.sn (by decide),fun x F=>by
  have k:=h.sb x F;have:=k.b.q1;have:=k.b.h1;have:=k.i1;exact⟨k.b.f,k.b.q0,by omega,k.b.h0,by omega,k.i0,by omega⟩,aJ h.inv.qn (by decide),fun x F=>⟨(h.qk x F).k,(h.qk x F).l⟩,aJ h.inv.fn (by decide),fun f hf=>⟨(h.fk f hf).1.k,(h.fk f hf).1.l⟩,aJ h.gn (by decide)⟩
theorem atF(s:az):∃awX:Bool,awX=true↔Eg s:=by
 by_cases h:Eg s
 ·exact⟨true,by simp[h]⟩
 exact⟨false,by simp[h]⟩
theorem atG{c:Nat}(h:w.ownsRow B e size (.slice (some ⟨g,0,none⟩) n c) n xs)(G:k≤n):w.ownsRow B e size (.slice (some ⟨g,0,none⟩) k c) k (xs.take (k*size)):=by
 have xE:=uh size G;refine⟨by rw[bS,h.1];omega,?_⟩;rcases h.2 with⟨h1,_⟩|⟨g',cap,cur,h1,h2,h3,h4,h5,h6,h7⟩
 ·cases h1
 cases h1;exact .inr ⟨g,c,cur,rfl,h2,h3,by omega,h5,h6,by rw[←h7,List.take_take,Nat.min_eq_left xE]⟩
theorem atH(a b:Int):∃c:UInt8,bits .xor .u8 a b=(c.toNat:Int):=by
 refine⟨b8 (bits .xor .u8 a b),?_⟩;have h:bits .xor .u8 a b=IntKind.u8.wrap ((BitVec.ofInt 8 a ^^^ BitVec.ofInt 8 b).toNat:Int):=rfl;have h2:=IntKind.wrap_u8 ((BitVec.ofInt 8 a ^^^ BitVec.ofInt 8 b).toNat:Int);have h3:bits .xor .u8 a b=((BitVec.ofInt 8 a ^^^ BitVec.ofInt 8 b).toNat:Int) % 256:=h.trans h2;have h4:=ady (bits .xor .u8 a b) (by omega) (by omega);exact(Value.int.inj h4).2
theorem atI(b:List UInt8)(ep:b.length≤140000000)(v:Value)(w:World)(hv:Bs w v b)(hT:dy w)(hz:rdZ b=none)(R:ak)
 (I:∀w',Below w w w'→R (.returned (.tuple #[.pointer none,E 200])) w'):
 Calls prog 13 #[v] w R:=
 af9 b ep v w hv hT (fun _=>False) (fun _ h=>h.elim) R (fun _=>I) (fun s h=>by rw[hz] at h;cases h)
theorem atJ(b:List UInt8)(ep:b.length≤140000000)(v:Value)(w:World)(hv:Bs w v b)(hT:dy w)(s:az)(hz:rdZ b=some s)(awV:Nat)(hG:awV<w.heap.size)(R:ak)
 (I:∀S M w',SR w' M S s→M awV→(∀b,M b→b=awV∨w.heap.size≤b)→Below w w w'→R (.returned (.tuple #[zq S,E 0])) w'):
 Calls prog 13 #[v] w R:=
 af9 b ep v w hv hT (fun b=>b=awV) (fun _ h=>by rw[h];exact hG) R (fun h=>by rw[hz] at h;cases h) (fun t h S M w' h1 h2 h3 h4=>by
  rw[hz] at h;cases h;exact I S M w' h1 (h2 awV rfl) h3 h4)
theorem atK(b:List UInt8)(ep:b.length≤140000000)(v:Value)(w:World)(hv:Bs w v b)(hT:dy w)(hz:rdZ b=none)(hp:0<w.heap.size)(R:ak)
 (I:∀w',Below w w w'→R (.returned (.tuple #[.pointer none,E 200])) w'):
 Calls prog 33 #[v] w R:=
 afL b ep v w hv hT (fun b=>b=0) (fun _ h=>by rw[h];exact hp) ⟨0,rfl⟩ R (fun _=>I) (fun s h=>by rw[hz] at h;cases h)
theorem atL(b:List UInt8)(ep:b.length≤140000000)(v:Value)(w:World)(hv:Bs w v b)(hT:dy w)(s:az)(hz:rdZ b=some s)(Ms:Nat→Prop)(S:Nat)(hr:SR w Ms S s)(R:ak)
 (I:∀Rb M w',RR w' Ms M Rb s→(∀x,M x→w.heap.size≤x)→Below w w w'→R (.returned (.tuple #[zq Rb,E 0])) w'):
 Calls prog 33 #[v] w R:=
 afL b ep v w hv hT Ms hr.lt (by
  obtain⟨NB,MB,GB,GM,sv,qv,fv,F⟩:=hr;exact⟨S,F.mS⟩) R (fun h=>by rw[hz] at h;cases h) (fun t h Rb M w' h1 h2 h3=>by
  rw[hz] at h;cases h;exact I Rb M w' h1 h2 h3)
theorem atM(l:List rV)(v u:Value)(bb:List UInt8)(at_ Bn:Int)(agv:0≤Bn)(qt:Bn≤255)(aw4:World)(hT:dy aw4)(hv:LM aw4 v l)(hu:Bs aw4 u bb)(R:ak)
 (I:∀w',Below aw4 aw4 w'→R (.returned (.bool true)) w'):
 Calls prog 5 #[v,u,E at_,.int .u8 Bn] aw4 R:=by
 obtain⟨HR,HV,HU,HT⟩:=cF I hv hu hT;obtain⟨C,hC⟩:=ai (bb.take 400);have agw:C.length≤400:=by rw[←hC,bS];omega
 have HC:=Z hC;have mB:=Z agw;clear I hT hv hu hC agw;go_enter func5,ntmps5;go_upto_region 4 with(first
  |(go_at_call 29;go_must(refine ao9 v l aw4 HT.O HV.O _ ?_);intro S Rb s w2 bF kZ;have lC:=Z bF;have nK:=Z kZ;clear bF kZ)
  |(go_at_call 7;go_must(refine ao0 _ _ ?_);intro w3 an;have iu:=Z (nK.O.below an);clear an))
 obtain⟨Ms,Mr,F⟩:=iu.O;have HX:=Z F;have cq:=Z iu.O.low;have Jh:=Z (HT.O.below cq.O);obtain⟨aw0,hY⟩:=ai (kP s);have kK:=arR lC.O;have Xg:0<(kP s).length:=by
  rw[MC];simp only[aK,ey,gi,fQ]
  omega
 rw[hY] at kK Xg;obtain⟨awX,hF⟩:=atF s;obtain⟨HY,lv,atN,HF⟩:=cF hY kK Xg hF;clear F hY kK Xg hF nK iu;go_upto_region 7 with(first
  |(go_at_call 30;go_must(refine ag1 u bb C 400 HC.O _ (HU.O.below cq.O) (by decide) _ ?_);intro ca cc fy;have jz:=Z fy;clear fy)
  |(go_at_call 21;go_must(refine afd Rb s lC.O.lg awX HF.O _ Ms Mr HX.O.rr Jh.O aw0 HY.O lv.O _ ?_);intro ya yc w5 gC aE;have Xh:=Z (b_ gC);have ib:=Z aE;have nw:=Z (jz.O.below aE);clear gC aE)
  |(go_at_call 31;go_must(refine ag2 _ aw0 _ Xh.O (by have:=lv.O;omega) _ ?_);intro da dc w6 nF bd;have lH:=Z nF;have rO:=Z bd;clear nF bd))
 obtain⟨n,hn⟩:=ai aw0.length;have HN:=Z hn;have nF:=lH.O;have oT:1≤n:=by have:=atN.O;omega
 have k_:n≤140000000:=by have:=lv.O;omega
 rw[hn] at nF⊢;obtain⟨g,A⟩:=jF nF oT;subst A;have jv:=xA nF;unfold maxLen at jv;have zZ:=Z nF;have Ul:IntKind.i64.wrap ((n:Int) - 1)=(n:Int) - 1:=by rw[IntKind.wrap_i64];omega
 obtain⟨z,hz⟩:=ai (within at_ 0 ((n:Int) - 1));have A8:=vj at_ 0 ((n:Int) - 1) (by omega);rw[hz] at A8;obtain⟨k,rfl⟩:∃k:Nat,z=(k:Int):=⟨z.toNat,by omega⟩
 have jh:k<n:=by omega
 have HZ:=Z hz;clear nF hn hz A8 lH;go_upto_region 8 with(first
  |(go_at_call 20;go_must(refine py at_ 0 ((n:Int) - 1) _ (by decide) (by omega) (by omega) _ ?_);rw[HZ.O]))
 clear Ul;go_upto_if 48 with fail
 go_cut [13] from 49 to 65 (fun Vh wx=>∃(aw2:List UInt8)(Y:av)(c:Nat),Vh= .slice Y aw2.length c∧Hid (Bs wx (.slice Y aw2.length c) aw2)∧Hid (aw2.length≤140000000)∧Hid (Below w5 w5 wx))
 case first=>
  by_cases h0:Bn=0
  ·subst h0;obtain⟨i0,cp,lV,cJ,tk⟩:=info_parts Tryz.cP;have Ru:=zZ.O.drew;obtain⟨FL,-⟩:=bh.upto (k:=k) (bh.iG Ru) underlying22 cp cJ (by omega);obtain⟨ax,ov,bE,-⟩:=bh.from (k:=k+1) (bh.iG Ru) underlying22 cp cJ (by omega);have Tj:∀w',(Instr.slice 22 (.slice (some ⟨g,0,none⟩) n dc) (some (.int .i64 ((k:Int)+1))) none none).run prog w'= .ok (.slice ax (n - (k+1)) (dc - (k+1))) w':=ov;have OU:IntKind.i64.wrap ((k:Int)+1)=(k:Int)+1:=by rw[IntKind.wrap_i64];omega
   have uN:=atG (k:=k) Ru (by omega);have sM:=Z uN;have vE:=Z bE.rd;have eT:=Z bE.cap;have uA:∀x∈(bv aw0).drop ((k+1) *1),x.oneCell'=true:=fun x F=>fC _ x (mem_of_mem_drop F);have OT:=Z uA;have agx:Hid (w5.heap.size≤w6.drew.heap.size):=rO.O.size;clear Ru ov bE uN uA cp lV cJ tk;go_upto_region 9 with fail
   go_region_law (first
    |(refine ig (by rfl) (.tmp 51) (.tmp 55) 22 (by rfl) w5 5 (.int .u8 0) 1 1 underlying22 Tryz.cP rfl (by decide) (some ⟨g,0,none⟩) k dc _ (by rfl) sM.O ax (n - (k+1)) (dc - (k+1)) _ (by rfl) vE.O OT.O eT.O.2.2 (by unfold maxLen;omega) (by omega) agx.O ?_;intro oq c4 w8 wR eL _))
   all_goals
    go_wp2_with fail;go_meet;have hl:k+(n - (k+1))=(aw0.eraseIdx k).length:=by rw[length_eraseIdx_of_lt (by have:=HN.O;omega),HN.O];omega
    have Vn:(bv aw0).take (k*1)++(bv aw0).drop ((k+1) *1)=bv (aw0.eraseIdx k):=by
     rw[Nat.mul_one,Nat.mul_one,eraseIdx_eq_take_drop_succ];unfold bv;rw[nv,List.map_take,List.map_drop]
    rw[hl,Vn] at wR;rw[hl];exact⟨_,oq,c4,rfl,Z (b_ wR),Z (by rw[←hl];show _≤_;omega),Z (bT (ed rO.O (bq w6)) eL agx.O sM.O)⟩
  have XM:(Bn==0)=false:=by simpa using h0
  have atO:k<aw0.length:=by have:=HN.O;omega
  have bg:=Jt zZ.O k atO;have qW:=zZ.O.frozenAt k;obtain⟨cx,atP⟩:=atH (aw0[k].toNat:Int) Bn;have cB:=Rx zZ.O k cx;have jl:=Z cB;obtain⟨yk,agy⟩:∃q:Int,(aw0[k].toNat:Int)=q:=⟨_,rfl⟩
  rw[agy] at atP bg;have bo:(k:Int)<(n:Int):=by omega
  clear cB agy;go_wp2_with fail;go_meet;have hl:n=(aw0.set k cx).length:=by rw[qU];exact HN.O.symm
  have ho:=jl.O.1;generalize w6.setCell ⟨g,k,none⟩ (.int .u8 (cx.toNat:Int))=w8 at ho jl⊢;have A:=jl.O.2;refine⟨aw0.set k cx,some ⟨g,0,none⟩,dc,by rw[←hl],Z (by rw[←hl];exact ao7 hl.symm ho),Z (by show _≤_;omega),Z (rO.O.grown A rO.O.size (fun k G=>by cases G;exact(zZ.O.lt g rfl).1))⟩
 obtain⟨aw2,Y,c,rfl,agz,En,gE⟩:=hcut;obtain⟨w7,rfl⟩:∃x,x=wc:=⟨_,rfl⟩
 have Et:=nw.O.below gE.O;have agA:=Xh.O.below gE.O;have agB:=Z (cz (aQ cq.O ib.O) gE.O (aJ cq.O.size ib.O.size));obtain rfl:aw0.length=n:=HN.O;go_upto_region 12 with fail
 have cw:=aD w7 (.cells #[.slice ca C.length cc,.slice ya aw0.length yc,.slice Y aw2.length c] 22);have lN:=aH w7 (.cells #[.slice ca C.length cc,.slice ya aw0.length yc,.slice Y aw2.length c] 22);generalize w7.alloc (.cells #[.slice ca C.length cc,.slice ya aw0.length yc,.slice Y aw2.length c] 22)=w9 at cw lN⊢;obtain⟨K,hK⟩:=ai w7.heap.size;rw[hK] at lN⊢;have HE:Hid (∀k,k<3→∃(awZ:List UInt8)(a:av)(c:Nat),w9.cell? ⟨K,k,none⟩=some (.slice a awZ.length c)∧Bs w9 (.slice a awZ.length c) awZ∧awZ.length≤140000000):=Z (fun k G=>by
  match k,G with
  |0,_=>exact⟨C,ca,cc,D 0 lN,Et.below cw,by have:=mB.O;omega⟩
  |1,_=>exact⟨aw0,ya,yc,D 1 lN,agA.below cw,lv.O⟩
  |2,_=>exact⟨aw2,Y,c,D 2 lN,agz.O.below cw,En.O⟩)
 have agC:=Z (aQ agB.O cw);have Jc:Hid (K<w9.heap.size):=(eI.1 lN).1;have m7:Hid (Below w9 w9 w9):=Z dg;clear cw lN hK Et agA agB agz En gE nw Xh jz ib rO zZ jv cq Jh HX;go_wp2;go_loopg [16,17,18,19,20,21] 3 (fun gn i _ _ _ _ _ wr=>∃k:Nat,k≤3∧gn=3 - k∧i= .int .i64 k∧Hid (Below w9 w9 wr))
 case atStart=>exact⟨0,by omega,rfl,rfl,m7⟩
 case round=>
  clear m7;obtain⟨k,G,rfl,rfl,HB⟩:=hrel;obtain⟨wo,rfl⟩:∃x,x=wr:=⟨_,rfl⟩
  by_cases au:k<3;rotate_left
  ·have o_:¬(k:Int)<3:=by omega
   go_wp2;exact HR.O _ (aQ agC.O HB.O)
  have o_:(k:Int)<3:=by omega
  obtain⟨awZ,xa,xc,bg,bU,oG⟩:=HE.O k au;have c0:=cell_later HB.O bg;have Cs:=Z (bU.below HB.O);have xR:=Z oG;have m_:=Z bg;have Ng:=Z (HT.O.below (aQ agC.O HB.O));have bt:w9.heap.size≤wo.heap.size:=HB.O.size;have yO:=Z bt;clear bg bU;obtain⟨atQ,hz⟩:=ai (rdZ awZ);cases atQ with
  |none=>
   have HZ:=Z hz;clear hz;go_upto_region 18 with(first
    |(go_at_call 32;go_must(refine Xy _ awZ _ Cs.O (by have:=xR.O;omega) _ ?_);intro awV gc df oK lB;have yP:(awZ++ [165,90]).length=awZ.length+2:=(by rw[aK];rfl);have GU:=Bs.cut (b_ oK) (k:=awZ.length) (by rw[yP];omega);rw[List.take_left] at GU;have II:=Z GU;rw[yP] at oK;have uR:=Z oK;have nO:=Z lB;have fD:=cell_later (aQ HB.O lB) m_.O;clear oK lB yP GU c0)
    |(go_at_call 13;go_must(refine atI awZ xR.O _ _ II.O (Ng.O.below nO.O) HZ.O _ ?_);intro du eH;have sO:=Z (aQ nO.O eH);have uS:=Z (aR uR.O eH);have iP:=cell_later (aQ HB.O sO.O) m_.O;clear eH fD)
    |(go_at_call 33;go_must(refine atK awZ xR.O _ _ (Cs.O.below sO.O) (Ng.O.below sO.O) HZ.O (by have:=sO.O.size;have:=yO.O;have:=Jc.O;omega) _ ?_);intro cY dC;have mi:=Z (aQ sO.O dC);have mH:=Z (aR uS.O dC);have iQ:=cell_later (aQ HB.O mi.O) m_.O;clear dC iP))
   go_wp2_with (first
    |(go_at_call 15;go_in)
    |(go_at_call 34;go_must(refine XA awV awZ.length gc wo.heap.size _ awZ _ rfl mH.O (Cs.O.below mi.O) _ ?_);intro mD mE;have Bj:Hid (Below w9 w9 mD):=Z ((aQ HB.O mi.O).grown mE (aJ yO.O mi.O.size) (fun k G=>by cases G;exact aJ yO.O (mH.O.lt awV rfl).1));clear mE iQ))
   go_quiet (fail);go_wp2;go_roundg (3 - (k+1))
   case measure=>omega
   case rel=>exact⟨k+1,by omega,rfl,by go_num,Z (Go.below_drewN Bj.O _)⟩
  |some t=>
   obtain⟨h1,h2,h3⟩:=aeU hz;obtain⟨HZ,uW,DL⟩:=bX hz h1 h3;have oR:Hid (t.al.length≤100000∧t.queue.length≤100000∧t.ag.length≤100000∧t.aB.length≤100000):=Z ⟨aJ h1.sn (by decide),aJ h1.qn (by decide),aJ h1.fn (by decide),aJ h1.gn (by decide)⟩;clear hz h1 h2 h3;go_upto_region 18 with(first
    |(go_at_call 32;go_must(refine Xy _ awZ _ Cs.O (by have:=xR.O;omega) _ ?_);intro awV gc df oK lB;have yP:(awZ++ [165,90]).length=awZ.length+2:=(by rw[aK];rfl);have GU:=Bs.cut (b_ oK) (k:=awZ.length) (by rw[yP];omega);rw[List.take_left] at GU;have II:=Z GU;rw[yP] at oK;have uR:=Z oK;have nO:=Z lB;have fD:=cell_later (aQ HB.O lB) m_.O;clear oK lB yP GU c0)
    |(go_at_call 13;go_must(refine atJ awZ xR.O _ _ II.O (Ng.O.below nO.O) t HZ.O awV (uR.O.lt awV rfl).2 _ ?_);intro S' M' du agD agE agF eH;have sO:=Z (aQ nO.O eH);have uS:=Z (aR uR.O eH);have agG:=Z agD;have atS:=Z agE;have Ki:Hid (∀b,M' b→wo.heap.size≤b):=Z (fun b U=>by
       rcases agF b U with e|e
       ·rw[e];exact(uR.O.lt awV rfl).1
       exact aJ nO.O.size e);have iP:=cell_later (aQ HB.O sO.O) m_.O;clear eH fD agD agE agF)
    |(go_at_call 33;go_must(refine atL awZ xR.O _ _ (Cs.O.below sO.O) (Ng.O.below sO.O) t HZ.O M' S' agG.O _ ?_);intro agH Gc cY agI Mf dC;have mi:=Z (aQ sO.O dC);have mH:=Z (aR uS.O dC);have atT:=Z (agG.O.below dC);have atU:=Z agI;have atV:Hid (∀b,Gc b→wo.heap.size≤b):=Z (fun b U=>aJ sO.O.size (Mf b U));have iQ:=cell_later (aQ HB.O mi.O) m_.O;clear dC iP agI Mf))
   go_upto_region 20 with(first
    |(go_at_call 15;go_in)
    |(go_at_call 34;go_must(refine XA awV awZ.length gc wo.heap.size _ awZ _ rfl mH.O (Cs.O.below mi.O) _ ?_);intro mD mE;have Bj:Hid (Below wo wo mD):=Z (mi.O.grown mE mi.O.size (fun k G=>by cases G;exact(mH.O.lt awV rfl).1));have Xi:=atT.O.ao8 atS.O (eJ mH.O awV rfl) mE;have atW:Hid (LX wo mD (fun _=>False) mD M' Gc S' agH t t):=Z ⟨Xi.1,atU.O.sep Xi.2,Ki.O,atV.O,Bj.O,fun b U=>U.elim,fun b U=>U.elim⟩;clear mE iQ Xi))
   go_cut [131] from 114 to 131 (fun atX wx=>atX= .bool false∧Hid (Below wo wo wx))
   case first=>
    have CM:=bq mD;have Jl:=Z (atW.O.below CM);have agJ:=Z (aQ Bj.O CM);have atY:mD.drew.cell? ⟨K,k,none⟩=some (.slice xa awZ.length xc):=cell_later (aQ HB.O agJ.O) m_.O;clear CM;go_region_held3 (fun x=>x.cell? ⟨K,k,none⟩=some (.slice xa awZ.length xc))
     (first|with_reducible exact atY|with_reducible exact atZ|with_reducible exact at0|go_keep)
     (first
      |(go_at_call 24;refine atE S' agH t oR.O wo mD _ (fun _=>False) ⟨M',Gc,Jl.O⟩ _ ?_;intro rM GR;have Xj:=Z (aQ agJ.O GR);have at1:=Z (Jl.O.sr.below GR);have atZ:rM.cell? ⟨K,k,none⟩=some (.slice xa awZ.length xc):=cell_later (aQ HB.O Xj.O) m_.O;clear GR)
      |(go_at_call 14;refine aeW S' t uW.O _ M' at1.O (Ng.O.below Xj.O) awZ DL.O _ ?_;intro la lc oF agK Dx;have GG:=Z (aQ Xj.O Dx);have at2:=Z (b_ agK);have at0:oF.cell? ⟨K,k,none⟩=some (.slice xa awZ.length xc):=cell_later (aQ HB.O GG.O) m_.O;clear Dx agK)
      |(go_at_call 22;refine Xx _ _ awZ awZ _ at2.O (Cs.O.below GG.O) _ ?_;rw[beq_self_eq_true]))
    all_goals
     go_wp2_with fail;go_meet;exact⟨rfl,GG⟩
   obtain⟨rfl,Eb⟩:=hcut;go_wp2;go_roundg (3 - (k+1))
   case measure=>omega
   case rel=>exact⟨k+1,by omega,rfl,by go_num,Z (aQ HB.O Eb.O)⟩
