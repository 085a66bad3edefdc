/- A part of the proof of SessionReads; no conditions. -/
import Derived.Test.YtgimbocoamnkjaaGreatDoorM33
set_option maxRecDepth 100000
set_option maxHeartbeats 16000000
namespace Go.Proofs.YtgimbocoamnkjaaGreatDoor
open _root_.Go.Proofs.Tryz
open Nat (le_of_lt lt_succ_self ne_of_lt)
open Go.RowKit
theorem arw(b:List UInt8)(x:Nt)(er:Int)(F:rdN b=(x,er))(v:Value)(w:World)(hv:Bs w v b)(ep:b.length≤65535)(hT:dy w)(R:ak)
 (I:∀da dc V X w',w'.ownsRow w 5 1 (.slice da x.ay.length dc) x.ay.length (bv x.ay)→cE w' w.heap.size (.slice V x.props.length X) x.props→Below w w w'→R (.returned (.tuple #[(Value.agg (oh x da dc V X)),E er])) w'):
 Calls prog 147 #[v] w R:=by
 have HR:=Z I;have HV:=Z hv;obtain⟨T1,s1,k1⟩:∃T s,mZ ⟨b,false⟩=(T,s):=⟨_,_,rfl⟩
 obtain⟨D2,s2,k2⟩:∃T s,m6 s1=(T,s):=⟨_,_,rfl⟩
 obtain⟨x3,s3,k3⟩:∃T s,aN 1 s2=(T,s):=⟨_,_,rfl⟩
 obtain⟨T4,s4,k4⟩:∃T s,mZ s3=(T,s):=⟨_,_,rfl⟩
 obtain⟨x5,s5,k5⟩:∃T s,aN 8 s4=(T,s):=⟨_,_,rfl⟩
 obtain⟨x6,s6,k6⟩:∃T s,aN 8 s5=(T,s):=⟨_,_,rfl⟩
 obtain⟨x7,s7,k7⟩:∃T s,aN 1 s6=(T,s):=⟨_,_,rfl⟩
 obtain⟨x8,s8,k8⟩:∃T s,aN 1 s7=(T,s):=⟨_,_,rfl⟩
 obtain⟨L,u,cd,k9⟩:∃l u c,lf 3 s8.b=(l,u,c):=⟨_,_,_,rfl⟩
 obtain⟨q,hq⟩:=ai (bits .and .i64 x3 3);obtain⟨rt,Gq⟩:∃q,(bits .and .i64 x3 4 != 0)=q:=⟨_,rfl⟩
 obtain⟨sh,lW⟩:∃z,(s8.bad || (cd:Int) != 0 || u != (s8.b.length:Int))=z:=⟨_,rfl⟩
 have hp:pN b=((⟨T1,D2,q,rt,T4,x5,L,x7,x6,x8⟩:Nt),sh):=by
  show(_,_)=_;simp only[k1,k2,k3,k4,k5,k6,k7,k8,k9,hq,Gq,lW]
 have zC:s8.b.length≤b.length:=by
  have:=(IT k1).2;have:=(IU k2).2.1;have:=Ad k3;have:=(IT k4).2;have:=Ad k5;have:=Ad k6;have:=Ad k7;have:=Ad k8;simp only at*
  omega
 obtain⟨g1,g2,g3,g4⟩:=QB k9;have sj:0≤q∧q≤3:=by
  obtain⟨m,rfl,hm⟩:=kS (by decide) k3;rw[←hq];exact Gp m hm
 have hB:xC (⟨T1,D2,q,rt,T4,x5,L,x7,x6,x8⟩:Nt):=⟨aJ (IT k1).1 (by decide),aJ (IU k2).1 (by decide),aJ (IT k4).1 (by decide),by show L.length≤100000;omega,g1,by show -9223372036854775808≤q∧q≤9223372036854775807;omega⟩
 have pA:(L.flatMap bR).length≤90000000:=by omega
 have lI:∀z,lZ z→eG z=b→z=(⟨T1,D2,q,rt,T4,x5,L,x7,x6,x8⟩:Nt)∧sh=false:=fun z hz U=>by
  rw[←U,Vo hz] at hp;cases hp;exact⟨rfl,rfl⟩
 obtain⟨va,vc,rfl,_⟩:=id hv;have b1:Below w w (w.alloc (.cells dP 34)):=aD _ _;have b2:Below w w ((w.alloc (.cells dP 34)).alloc (.cells #[.slice va b.length vc,.bool false] 189)):=b1.alloc b1.size _;have fL:CR w 189 (w.alloc (.cells dP 34)).heap.size ⟨b,false⟩ ((w.alloc (.cells dP 34)).alloc (.cells #[.slice va b.length vc,.bool false] 189)):=⟨⟨va,vc,aH _ _,hv⟩,b2,b1.size,by simp only;omega⟩
 have hz:(w.alloc (.cells dP 34)).heap.size=w.heap.size+1:=(AP w _).symm;rw[hz] at fL;obtain⟨oW,bn,HT,eR,HP,cT,Ay,HX,HQ,VB,Cq⟩:=Xk fL b2 hT lI hp hB pA F hq Gq lW;have hA2:=aA (aH w (.cells dP 34)) ((Below.refl (w.alloc (.cells dP 34)).heap.size (w.alloc (.cells dP 34))).alloc bj (.cells #[.slice va b.length vc,.bool false] 189));clear I hv fL b1 b2 hz hT lI hp hB F g1 g2 g3 g4 hq Gq lW sj;go_enter func147,ntmps147;go_upto_region 2 with fail
 generalize (w.alloc (.cells dP 34)).alloc (.cells #[.slice va b.length vc,.bool false] 189)=w2 at oW bn hA2⊢;have qP:=Z hA2;clear hA2;go_upto_region 3 with(first
  |(go_at_call 166;go_must(refine ajM _ _ _ _ _ _ _ _ _ _ _ _ _ _ _ _ _ _ _ k1 k2 k3 k4 k5 k6 k7 k8 _ _ _ k9 (by omega) w _ oW.O HT.O _ ?_);intro da dc V X w3 bN sB iB dz;rw[HQ.O,VB.O];obtain⟨iF,uC,np,xp⟩:=cF bN sB iB dz;clear bN sB iB dz))
 have iB:=np.O;rw[Cq.O] at iB;have iq:=aH w3 (.cells (fj T1 da D2 dc q rt T4 x5 V L X x7 x6 x8) 34);have ao:=aD w3 (.cells (fj T1 da D2 dc q rt T4 x5 V L X x7 x6 x8) 34);generalize w3.alloc (.cells (fj T1 da D2 dc q rt T4 x5 V L X x7 x6 x8) 34)=w4 at iq ao⊢;have fy:=iB.below ao;have aea:=(b_ iF.O).below ao;have aeb:=(uC.O.ps cT.O.e).below ao;obtain⟨T,cQ⟩:=ai w3.heap.size;rw[cQ] at iq⊢;obtain⟨la,lc,VC,_⟩:=fy.row;have l9:dy w4:=(HT.O.below iB.low).below ao;have aec:Bs w4 (.slice va b.length vc) b:=(HV.O.below iB.low).below ao;obtain⟨u0,u1,u2,u3,u4,u5,u6,u7,u8,u9,u10⟩:=Fw VC iq;have rY:=Z (aA (dI xp.O qP.O (ne_of_lt (lt_succ_self _))) ao);obtain⟨A_,Gr,uK,Mj,IX,aed,dj,aee⟩:=Nh iq VC aea aeb l9 aec ao iB;have ox:L.length≤1000000:=aJ cT.O.l (by decide);have Cn:Hid (∀aw0:List UInt8,eG (⟨T1,D2,q,rt,T4,x5,L,x7,x6,x8⟩:Nt)=aw0→aw0.length≤140737488355328):=Z fun aw0 hY=>by
  have h1:=arj (⟨T1,D2,q,rt,T4,x5,L,x7,x6,x8⟩:Nt) (by have:=(IT k1).1;exact this) (IU k2).1 (IT k4).1 pA;rw[hY] at h1
  omega
 have Gs:Hid (¬(sh=false∧Dz (⟨T1,D2,q,rt,T4,x5,L,x7,x6,x8⟩:Nt)∧eG (⟨T1,D2,q,rt,T4,x5,L,x7,x6,x8⟩:Nt)=b)→x=⟨[],[],0,false,[],0,[],0,0,0⟩∧er=190):=Z fun J=>by
  have h1:=HX.O;rw[adV fun z hz U=>J (by
   obtain⟨rfl,e⟩:=eR.O z hz U;exact⟨e,hz.may,U⟩)] at h1
  cases h1;exact⟨rfl,rfl⟩
 clear pA iq aea aeb VC fy cQ l9 aec ao iB k1 k2 k3 k4 k5 k6 k7 k8 k9;have QI:Hid (Below w w w4):=Z (cz aee.O.low dj.O aee.O.low.size);cases sh with
 |true=>
  obtain⟨rfl,rfl⟩:=Gs.O (fun h=>by cases h.1);go_wp2_with (refine gw 34 2 29 w.heap.size rY.O ?_);refine bodyPost_ret (Aw rfl _ _ w 34 dP (0,0) _ (E 190) rfl rfl (setRow_heap w4 w.heap.size _ _ _ _ rY.O) underlying34 rfl (by kernel_rfl)) rfl ?_;exact HR.O none 0 none 0 _ (bO _ _ _ _) (cE.nil _ _) (below_setRow QI.O bj dP)
 |false=>
  obtain⟨z,hz⟩:∃z:Bool,z=true↔Dz (⟨T1,D2,q,rt,T4,x5,L,x7,x6,x8⟩:Nt):=by
   by_cases h:Dz (⟨T1,D2,q,rt,T4,x5,L,x7,x6,x8⟩:Nt)
   ·exact⟨true,by simp[h]⟩
   exact⟨false,by simp[h]⟩
  have HZ:=Z hz;clear hz;cases z with
  |false=>
   obtain⟨rfl,rfl⟩:=Gs.O (fun h=>by cases HZ.O.2 h.2.1);go_wp2_with (first
    |(go_at_call 167;go_must(refine VA (⟨T1,D2,q,rt,T4,x5,L,x7,x6,x8⟩:Nt) false HZ.O _ _ _ uK.O Mj.O ox _ ?_);intro w6 bd;have yv:=Z (aA rY.O bd);have arx:=Z (aQ QI.O bd);clear bd)
    |(refine gw 34 2 29 w.heap.size yv.O ?_))
   refine bodyPost_ret (Aw rfl _ _ w 34 dP (0,0) _ (E 190) rfl rfl (setRow_heap w6 w.heap.size _ _ _ _ yv.O) underlying34 rfl (by kernel_rfl)) rfl ?_;exact HR.O none 0 none 0 _ (bO _ _ _ _) (cE.nil _ _) (below_setRow arx.O bj dP)
  |true=>
   have hm:=HZ.O.1 rfl;have eS:=arh HP.O hm;obtain⟨aw0,hY⟩:=ai (eG (⟨T1,D2,q,rt,T4,x5,L,x7,x6,x8⟩:Nt));have HY:=Z hY;have lv:=Z (Cn.O aw0 hY);obtain⟨g,A⟩:∃g:Bool,(aw0==b)=g:=⟨_,rfl⟩
   have HG:=Z A;have lC:=Z eS;clear hm eS hY A;cases g with
   |false=>
    obtain⟨rfl,rfl⟩:=Gs.O (fun h=>by have:=HG.O;rw[←HY.O,h.2.2] at this;simp at this);go_wp2_with (first
     |(go_at_call 167;go_must(refine VA (⟨T1,D2,q,rt,T4,x5,L,x7,x6,x8⟩:Nt) true HZ.O _ _ _ uK.O Mj.O ox _ ?_);intro w6 bd;obtain⟨t0,t1,t2,t3,t4,t5,t6,t7,t8,t9,t10⟩:=Fw (aA Gr.O bd) (aA A_.O bd);have oM:=Z (aA A_.O bd);have tZ:=Z bd;clear bd u0 u1 u2 u3 u4 u5 u6 u7 u8 u9 u10)|(go_at_call 119;go_must(refine Sz (⟨T1,D2,q,rt,T4,x5,L,x7,x6,x8⟩:Nt) _ _ _ (uK.O.below tZ.O) (Mj.O.below tZ.O) cT.O Ay.O (IX.O.below tZ.O) aw0 HY.O lv.O _ ?_);intro ya yc w7 gD bp;have sS:=Z (aA oM.O bp);have Ae:=Z (ed tZ.O bp);have VD:=Z (b_ gD);clear bp gD t0 t1 t2 t3 t4 t5 t6 t7 t8 t9 t10)|(go_at_call 53;go_must(refine Dy _ _ aw0 b _ VD.O (aed.O.below Ae.O) _ ?_);rw[HG.O];have D7:=Z (aA rY.O Ae.O);have VE:Hid (Below w w w7):=Z (aQ QI.O Ae.O);obtain⟨u0,u1,u2,u3,u4,u5,u6,u7,u8,u9,u10⟩:=Fw (aA Gr.O Ae.O) sS.O)
     |(refine gw 34 2 29 w.heap.size D7.O ?_))
    refine bodyPost_ret (Aw rfl _ _ w 34 dP (0,0) _ (E 190) rfl rfl (setRow_heap w7 w.heap.size _ _ _ _ D7.O) underlying34 rfl (by kernel_rfl)) rfl ?_;exact HR.O none 0 none 0 _ (bO _ _ _ _) (cE.nil _ _) (below_setRow VE.O bj dP)
   |true=>
    have F:=HX.O;have jS:eG (⟨T1,D2,q,rt,T4,x5,L,x7,x6,x8⟩:Nt)=b:=by rw[HY.O];exact eq_of_beq HG.O
    rw[←jS,QC lC.O] at F;cases F;clear jS;go_wp2_with (first
     |(go_at_call 167;go_must(refine VA (⟨T1,D2,q,rt,T4,x5,L,x7,x6,x8⟩:Nt) true HZ.O _ _ _ uK.O Mj.O ox _ ?_);intro w6 bd;obtain⟨t0,t1,t2,t3,t4,t5,t6,t7,t8,t9,t10⟩:=Fw (aA Gr.O bd) (aA A_.O bd);have oM:=Z (aA A_.O bd);have tZ:=Z bd;clear bd u0 u1 u2 u3 u4 u5 u6 u7 u8 u9 u10)|(go_at_call 119;go_must(refine Sz (⟨T1,D2,q,rt,T4,x5,L,x7,x6,x8⟩:Nt) _ _ _ (uK.O.below tZ.O) (Mj.O.below tZ.O) cT.O Ay.O (IX.O.below tZ.O) aw0 HY.O lv.O _ ?_);intro ya yc w7 gD bp;have sS:=Z (aA oM.O bp);have Ae:=Z (ed tZ.O bp);have VD:=Z (b_ gD);clear bp gD t0 t1 t2 t3 t4 t5 t6 t7 t8 t9 t10)|(go_at_call 53;go_must(refine Dy _ _ aw0 b _ VD.O (aed.O.below Ae.O) _ ?_);rw[HG.O];have D7:=Z (aA rY.O Ae.O);have VE:Hid (Below w w w7):=Z (aQ QI.O Ae.O);obtain⟨u0,u1,u2,u3,u4,u5,u6,u7,u8,u9,u10⟩:=Fw (aA Gr.O Ae.O) sS.O)
     |(refine gw 34 2 30 w.heap.size D7.O ?_))
    have bt:w.heap.size<w2.heap.size+1:=Nat.lt_succ_of_le bn.O.size;have ho:=aR (aR iF.O dj.O) Ae.O;have aU:=cm (jE:=w.heap.size) (j1 ho (BY w7 w.heap.size (fj T1 da D2 dc q rt T4 x5 V L X x7 x6 x8)) (m8 ho bt)) (le_of_lt bt);have aZ:=(((uC.O.below dj.O).below Ae.O).yK (BY w7 w.heap.size (fj T1 da D2 dc q rt T4 x5 V L X x7 x6 x8)) bt).mono (B':=w.heap.size) (le_of_lt bt);have HF:=Z (HR.O da dc V X _ aU aZ (below_setRow VE.O bj (fj T1 da D2 dc q rt T4 x5 V L X x7 x6 x8)));clear aU aZ bt ho;refine bodyPost_ret (Aw rfl _ _ w 34 (fj T1 da D2 dc q rt T4 x5 V L X x7 x6 x8) (0,0) _ (E 0) rfl rfl (setRow_heap w7 w.heap.size _ _ _ _ D7.O) underlying34 rfl (by kernel_rfl)) rfl ?_;exact HF.O
open Int (toNat_natCast)
open Nat (le_of_eq ne_of_gt)
variable{aI:Bool}{ah:Int}{awY B0 N T dc ic:Nat}{Y da ia V:av}{w w':World}
structure IA(w wr:World)(N awY T B0:Nat)(n:Nt)(ah:Int)(aI:Bool)(da:av)(dc:Nat)(V:av)(X:Nat)(s:Cu)(l:List Int)(ia:av)(ic:Nat):Prop where
 cr:CR w 189 N s wr
 tr:wr.heap[T]? =some (.cells #[.string (str n.aF),.slice da n.ay.length dc,.int .i64 n.ah,.bool n.aL,.string (str n.src),.int .i64 n.aP,.slice V n.props.length X,.int .i64 n.origin,.int .i64 n.number,.int .i64 n.aW,E ah,.bool aI,.slice ia l.length ic,.string ⟨#[]⟩] 36)
 ar:wr.heap[awY]? =some (.cells aX 36)
 po:wr.ownsRow B0 5 1 (.slice da n.ay.length dc) n.ay.length (bv n.ay)
 qo:cE wr B0 (.slice V n.props.length X) n.props
 io:wr.ownsRow B0 3 1 (.slice ia l.length ic) l.length (Go.Proofs.YtgimbocoamnkjaaGreatDoor.iv l)
theorem IA.cur{wr:World}{n:Nt}{X:Nat}{s s':Cu}{l:List Int}(h:IA w wr N awY T B0 n ah aI da dc V X s l ia ic)(J:CR w 189 N s' w')(A:wr.grownBy w' (some N))(hN:N<B0)(hT:T≠N)(hA:awY≠N):IA w w' N awY T B0 n ah aI da dc V X s' l ia ic:=
 ⟨J,dI A h.tr hT,dI A h.ar hA,j1 h.po A (m8 h.po hN),h.qo.yK A hN,j1 h.io A (m8 h.io hN)⟩
theorem IA.below{wr:World}{n:Nt}{X:Nat}{s:Cu}{l:List Int}(h:IA w wr N awY T B0 n ah aI da dc V X s l ia ic)(U:Below wr wr w'):IA w w' N awY T B0 n ah aI da dc V X s l ia ic:=
 ⟨h.cr.below U,aA h.tr U,aA h.ar U,aR h.po U,h.qo.below U,aR h.io U⟩
theorem IA.app{wr:World}{n:Nt}{X:Nat}{s:Cu}{l:List Int}{c:Nat}(h:IA w wr N awY T B0 n ah aI da dc V X s l ia ic)(x:Int)(A:wr.grownBy w' (Value.slice ia l.length ic).ownBlock)(ho:w'.ownsRow B0 3 1 (.slice Y (l.length+1) c) (l.length+1) (Go.Proofs.YtgimbocoamnkjaaGreatDoor.iv l++ [.int .i64 x]))(hN:w.heap.size≤B0)(zV:T≠N)(aei:awY≠T)(aeh:w.heap.size≤T):
 IA w (w'.setCell ⟨T,12,none⟩ (.slice Y (l.length+1) c)) N awY T B0 n ah aI da dc V X s (l++ [x]) Y c:=by
 exact aeg
theorem aej{P:Prop}(h:P:=by
 go_wp2_with (refine gw 36 2 85 (w.heap.size) IZ.O ?_);refine bodyPost_ret (Aw rfl _ _ w 36 aX (0,0) _ (E 190) rfl rfl (setRow_heap du w.heap.size _ _ _ _ IZ.O) underlying36 rfl (by kernel_rfl)) rfl ?_;exact HR.O none 0 none 0 none 0 _ ⟨bO _ _ _ _,cE.nil _ _,bO _ _ _ _⟩ (below_setRow (Be.O.low) bj aX)):P:=h
theorem ary(b:List UInt8)(x:Im)(er:Int)(F:rdI b=(x,er))(v:Value)(w:World)(hv:Bs w v b)(ep:b.length≤65535)(hT:dy w)(R:ak)
 (I:∀da dc V X ia ic w',ft w' w.heap.size (.slice da x.note.ay.length dc) (.slice V x.note.props.length X) (.slice ia x.ids.length ic) x→Below w w w'→R (.returned (.tuple #[(Value.agg (aG x da dc V X ia ic)),E er])) w'):
 Calls prog 113 #[v] w R:=by
 have HR:=Z I;obtain⟨aw2,s1,k1⟩:∃T s,m6 ⟨b,false⟩=(T,s):=⟨_,_,rfl⟩
 obtain⟨n,e,k6⟩:∃T s,rdN aw2=(T,s):=⟨_,_,rfl⟩
 obtain⟨x2,s2,k2⟩:∃T s,aN 1 s1=(T,s):=⟨_,_,rfl⟩
 obtain⟨x3,s3,k3⟩:∃T s,aN 1 s2=(T,s):=⟨_,_,rfl⟩
 obtain⟨m,rfl,hm⟩:=kS (by decide) k3;obtain⟨awU,s4,k4⟩:∃T s,fG m s3=(T,s):=⟨_,_,rfl⟩
 obtain⟨share,s5,k5⟩:∃T s,mZ s4=(T,s):=⟨_,_,rfl⟩
 obtain⟨ah,hq⟩:=ai (bits .and .i64 x2 3);obtain⟨aI,G⟩:∃q,(bits .and .i64 x2 4 != 0)=q:=⟨_,rfl⟩
 have hp:pI b=(⟨n,ah,aI,awU,share⟩,s5.bad,e):=by
  show(_,_)=_;simp only[k1,k2,k3,toNat_natCast,k4,k5,k6,hq,G]
 have bU:=(IU k1)
 simp only at bU;have gK:aw2.length≤65535:=bU.1;have aek:awU.length=m:=by have:=adX m s3;rw[k4] at this;exact this
 obtain⟨f0,I1⟩:∃z,(decide (ah<3)&&(e==0))=z:=⟨_,rfl⟩
 obtain⟨fin,cD⟩:=ai ((f0&&tY awU));have lI:¬(s5.bad=false∧fin=true∧db ⟨n,ah,aI,awU,share⟩=b)→x=⟨⟨[],[],0,false,[],0,[],0,0,0⟩,0,false,[],[]⟩∧er=190:=fun J=>by
  rw[ad0 fun z hz U=>J (by
   have h2:=Vp hz;rw[U,hp] at h2;simp only[Prod.mk.injEq] at h2;obtain⟨rfl,h3,rfl⟩:=h2;refine⟨h3,?_,U⟩;rw[←cD,←I1,(QD _).2 hz.ir];have:=hz.q1;simp only at this;simp
   omega)] at F
  cases F;exact⟨rfl,rfl⟩
 have eS:s5.bad=false→fin=true→gh ⟨n,ah,aI,awU,share⟩:=fun h1 h2=>by
  rw[←cD,←I1,Bool.and_eq_true,Bool.and_eq_true,decide_eq_true_eq,beq_iff_eq] at h2;rw[h1,h2.1.2] at hp;exact arl hp h2.1.1 h2.2
 have HV:=Z hv;have HT:=Z hT;obtain⟨va,vc,rfl,_⟩:=id hv;have b1:Below w w (w.alloc (.cells aX 36)):=aD _ _;have b2:Below w w ((w.alloc (.cells aX 36)).alloc (.cells #[.slice va b.length vc,.bool false] 189)):=b1.alloc b1.size _;have fL:CR w 189 (w.alloc (.cells aX 36)).heap.size ⟨b,false⟩ ((w.alloc (.cells aX 36)).alloc (.cells #[.slice va b.length vc,.bool false] 189)):=⟨⟨va,vc,aH _ _,hv⟩,b2,b1.size,by simp only;omega⟩
 have hz:(w.alloc (.cells aX 36)).heap.size=w.heap.size+1:=(AP w _).symm;rw[hz] at fL;have hA2:=aA (aH w (.cells aX 36)) ((Below.refl (w.alloc (.cells aX 36)).heap.size (w.alloc (.cells aX 36))).alloc bj (.cells #[.slice va b.length vc,.bool false] 189));obtain⟨K1,K2,K3,K4,K5,K6,HQ,HK,HX,eR,lC,Fx⟩:=Jp k1 k2 k3 k4 k5 k6 hq G F lI eS I1;obtain⟨lL,Lp,oW,bn⟩:=cF cD aek fL b2;clear I hv hT k1 k2 k3 k4 k5 k6 hq G F lI eS I1 cD hp b1 b2 fL hz bU aek;go_enter func113,ntmps113;go_upto_region 2 with fail
 generalize (w.alloc (.cells aX 36)).alloc (.cells #[.slice va b.length vc,.bool false] 189)=w2 at oW bn hA2⊢;have qP:=Z hA2;have Mk:w.heap.size≠w.heap.size+1:=ne_of_lt (lt_succ_self _);have fA:=Z Mk;clear hA2 Mk;go_upto_region 3 with(first
  |(go_at_call 148;go_must(refine ZM _ _ _ _ _ K1.O w _ oW.O _ ?_);intro xa xc w3 bN iB dz;have iF:=Z (b_ bN);have np:=Z iB;have wk:=Z (dI dz qP.O fA.O);clear bN iB dz)
  |(go_at_call 147;go_must(refine arw aw2 n e K6.O _ _ iF.O gK (HT.O.below np.O.low) _ ?_);intro da dc V X w4 Ml Mm ao;have Hz:=Z ao.size;have QL:=Z Ml;have QM:=Z Mm;have jz:=Z (np.O.below ao);have rY:=Z (aA wk.O ao);clear Ml Mm ao))
 have dB:=aH w4 (.cells (oh n da dc V X) 34);have aE:=aD w4 (.cells (oh n da dc V X) 34);generalize w4.alloc (.cells (oh n da dc V X) 34)=w5 at dB aE⊢;have nH:=Z aE.size;obtain⟨T5,pd⟩:=ai w4.heap.size;rw[pd] at dB⊢;have oX:=Z dB;have nw:=Z (jz.O.below aE);have D8:=Z (aA rY.O aE);have QN:=Z (aR QL.O aE);have QO:=Z (QM.O.below aE);have eW:Hid (w.heap.size+1<w3.heap.size):=np.O.lt;clear dB aE pd;go_upto_region 4 with(first
  |(refine kJ 22 34 5 T5 oX.O underlying34 ?_))
 have jy:=aH w5 (.cells #[.string (str n.aF),.slice da n.ay.length dc,.int .i64 n.ah,.bool n.aL,.string (str n.src),.int .i64 n.aP,.slice V n.props.length X,.int .i64 n.origin,.int .i64 n.number,.int .i64 n.aW,E 0,.bool false,.slice none 0 0,.string ⟨#[]⟩] 36);have bd:=aD w5 (.cells #[.string (str n.aF),.slice da n.ay.length dc,.int .i64 n.ah,.bool n.aL,.string (str n.src),.int .i64 n.aP,.slice V n.props.length X,.int .i64 n.origin,.int .i64 n.number,.int .i64 n.aW,E 0,.bool false,.slice none 0 0,.string ⟨#[]⟩] 36);generalize w5.alloc (.cells #[.string (str n.aF),.slice da n.ay.length dc,.int .i64 n.ah,.bool n.aL,.string (str n.src),.int .i64 n.aP,.slice V n.props.length X,.int .i64 n.origin,.int .i64 n.number,.int .i64 n.aW,E 0,.bool false,.slice none 0 0,.string ⟨#[]⟩] 36)=w6 at jy bd⊢;have au:=nw.O.lt;have jj:w3.heap.size≤w5.heap.size:=aJ Hz.O nH.O;obtain⟨T,cQ⟩:=ai w5.heap.size;rw[cQ] at jj;have jl:=Z jj;have bB:=Z np.O.low.size;clear jj;rw[cQ] at jy au⊢;have zV:T≠w.heap.size+1:=ne_of_gt au;obtain⟨eM,fx,oM⟩:=bX zV au jy;have tU:=Z (nw.O.below bd);have yv:=Z (aA D8.O bd);have I2:=Z (aR QN.O bd);have QP:=Z (QO.O.below bd);clear jy bd cQ zV au;go_upto_region 5 with(first
  |(go_at_call 149;go_must(refine ZN _ _ _ _ _ K2.O w _ tU.O _ ?_);intro w7 tu fT;rw[HQ.O,HK.O];have iV:=dI fT oM.O eM.O;have sS:=Z iV;have xm:=Z tu;have I3:=Z (dI fT yv.O fA.O);have QQ:=Z (j1 I2.O fT (m8 I2.O eW.O));have QR:=Z (QP.O.yK fT eW.O);have fD:=D 10 iV;have f10:=aC iV 10;have iP:=D 11 iV;have f11:=aC iV 11;clear tu fT iV))
 have fw:w.heap.size≤T:=by have:=fx.O;omega
 have mT:((w7.setCell ⟨T,10,none⟩ (E ah)).setCell ⟨T,11,none⟩ (.bool aI)).heap[T]? =some (.cells #[.string (str n.aF),.slice da n.ay.length dc,.int .i64 n.ah,.bool n.aL,.string (str n.src),.int .i64 n.aP,.slice V n.props.length X,.int .i64 n.origin,.int .i64 n.number,.int .i64 n.aW,E ah,.bool aI,.slice none 0 0,.string ⟨#[]⟩] 36):=by
  rw[bm _ T 11 _ _ _ (bm w7 T 10 _ _ _ sS.O)]
  rfl
 have eL:=cg (br w7 ⟨T,10,none⟩ (E ah)) (br _ ⟨T,11,none⟩ (.bool aI));have kR:=xm.O.other eL eM.O.symm ((xm.O.low.setCell fw _).setCell fw _);have Gt:w.heap.size≠T:=by have:=fx.O;omega
 have Af:=dI eL I3.O Gt;have Gu:=iO QQ.O sS.O (by decide) eL;have Gv:=QR.O.typed sS.O (by decide) (by decide) eL;generalize (w7.setCell ⟨T,10,none⟩ (E ah)).setCell ⟨T,11,none⟩ (.bool aI)=w8 at mT kR Af Gu Gv⊢;have VF:=D 10 mT;have Fo:=Z fw;have x9:=Z Gt;have I4:Hid (IA w w8 (w.heap.size+1) w.heap.size T w3.heap.size n ah aI da dc V X s2 [] none 0):=Z ⟨kR,mT,Af,Gu,Gv,bO _ _ _ _⟩;clear mT eL kR Af Gu Gv fD iP f10 f11 fw Gt xm sS I3 QQ QR tU oM yv I2 QP QN QO nw D8 oX QL QM jz rY wk;go_cut [8] from 31 to 37 (fun s8 wx=>s8= .bool f0∧wx=w8)
 case first=>
  have hf:=Fx.O;by_cases h1:ah<3
  ·by_cases h2:e=0
   ·have h3:(e==0)=true:=by simpa using h2
    rw[h3,eN h1] at hf;go_wp2_with fail;go_meet;exact⟨by rw[←hf];rfl,rfl⟩
   ·have h3:(e==0)=false:=by simpa using h2
    rw[h3,eN h1] at hf;go_wp2_with fail;go_meet;exact⟨by rw[←hf];rfl,rfl⟩
  have h3:decide (ah<3)=false:=dN h1;rw[h3] at hf;go_wp2_with fail;go_meet;exact⟨by rw[←hf];rfl,rfl⟩
 obtain⟨rfl,rfl⟩:=hcut;clear VF;go_wp2_with (first
  |(go_at_call 150;go_must(refine Ft _ _ _ _ _ _ K3.O (by decide) w _ I4.O.cr _ ?_);intro w9 lX bW;have jw:Hid (IA w w9 (w.heap.size+1) w.heap.size T w3.heap.size n ah aI da dc V X s3 [] none 0):=Z (I4.O.cur lX bW eW.O eM.O fA.O);clear lX bW))
 go_loopg [8,9,42] m (fun gn f _ i wr=>∃(k:Nat)(l:List Int)(ia:av)(ic:Nat),k≤m∧gn=m - k∧f= .bool (f0&&tY l)∧i= .int .i64 k∧Hid (l=(fG k s3).1)∧l.length≤k∧Hid (IA w wr (w.heap.size+1) w.heap.size T w3.heap.size n ah aI da dc V X (fG k s3).2 l ia ic))
 case atStart=>exact⟨0,[],none,0,bP _,by omega,by simp[tY],rfl,rfl,Nat.le_refl _,jw⟩
 case round=>
  obtain⟨k,l,ia,ic,G,rfl,rfl,rfl,HL,B8,eb⟩:=hrel;obtain⟨wo,rfl⟩:∃x,x=wr:=⟨_,rfl⟩
  clear I4 jw;have VG:Hid (w3.heap.size≤wo.heap.size):=le_of_lt (Nat.lt_of_le_of_lt jl.O (eI.1 eb.O.tr).1);by_cases au:k<m
  ·have bo:(k:Int)<(m:Int):=by omega
   obtain⟨x,s',pg⟩:∃x s',aN 4 (fG k s3).2=(x,s'):=⟨_,_,rfl⟩
   have nj:=Z pg;have qI:Hid (l++ [x]=(fG (k+1) s3).1):=by
    show _=_;rw[QK,pg,HL.O]
   have iH:Hid (s'=(fG (k+1) s3).2):=by
    show _=_;rw[QK,pg]
   have l8:Value.int .i64 (wrap64 ((k:Int)+1))= .int .i64 ((k+1:Nat):Int):=by
    have:wrap64 ((k:Int)+1)=(k:Int)+1:=by unfold wrap64;omega
    rw[this];simp
   have VH:=Z l8;clear pg l8;go_upto_region 9 with(first
    |(go_at_call 150;go_must(refine Ft _ _ _ _ _ _ nj.O (by decide) w _ eb.O.cr _ ?_);intro df jk eU;have dZ:=Z (eb.O.cur jk eU eW.O eM.O fA.O);have yO:Hid (w3.heap.size≤(df.alloc (.cells #[Value.int .i64 x] 3)).heap.size):=Z (aJ (aJ VG.O eU.size) (le_of_lt (eV (lt_succ_self _) (le_of_eq (AP df _)))));clear jk eU))
   obtain⟨fo,VI⟩:=ai ((f0&&tY l));obtain⟨f1,qF⟩:=ai ((f0&&tY (l++ [x])));have ael:f1=(fo&&(decide (1≤x)&&decide (x≤268435455))):=by rw[←qF,adZ,←Bool.and_assoc,VI]
   rw[VI];have vL:=Z qF;have vF:=Z ael;clear VI qF ael;go_cut [8] from 48 to 56 (fun s8 wx=>s8= .bool f1∧wx=df)
   case first=>
    have hf:=vF.O;cases fo with
    |false=>
     go_wp2_with fail;go_meet;exact⟨by rw[hf];rfl,rfl⟩
    |true=>
     by_cases h1:1≤x
     ·by_cases h2:x≤268435455
      ·rw[eN h1,eN h2] at hf;go_wp2_with fail;go_meet;exact⟨by rw[hf];rfl,rfl⟩
      ·have h3:decide (x≤268435455)=false:=dN h2;rw[eN h1,h3] at hf;go_wp2_with fail;go_meet;exact⟨by rw[hf];rfl,rfl⟩
     have h3:decide (1≤x)=false:=dN h1;rw[h3] at hf;go_wp2_with fail;go_meet;exact⟨by rw[hf];rfl,rfl⟩
   obtain⟨rfl,rfl⟩:=hcut;have iQ:=D 12 dZ.O.tr;go_wp2_with (first
    |(at_builtin;go_must(refine jr (by rfl) (.tmp 58) (.tmp 60) 25 (by rfl) w3 3 (E 0) 1 8 underlying25 sK rfl (by decide) ia l.length ic _ (by rfl) (dZ.O.below (aD wc (.cells #[Value.int .i64 x] 3))).io (some ⟨wc,0,none⟩) 1 1 [Value.int .i64 x] (by rfl) (dO wc #[Value.int .i64 x] 3 1 1 rfl) (px _ _) (fun h=>by cases h) (by unfold maxLen;omega) (by omega) yO.O ?_);intro IP iP du D3 fN _;have Mn:=(dZ.O.below (aD wc (.cells #[Value.int .i64 x] 3))).app x fN D3 bB.O eM.O x9.O Fo.O;have tL:=Z Mn;have QS:=dZ.O.below (aD wc (.cells #[Value.int .i64 x] 3));have Gw:=hZ fN QS.tr (i_ QS.tr QS.io (by decide));have arz:=D 12 Gw;have f12:=aC Gw 12;clear QS Gw D3 fN Mn))
   have l8:=VH.O;go_roundg (m - (k+1))
   case measure=>omega
   case rel=>exact⟨k+1,l++ [x],IP,iP,by omega,rfl,by rw[vL.O],(by first|exact l8|go_num),qI,by rw[aK];simp;omega,by rw[←iH.O];exact tL⟩
  have jh:k=m:=by omega
  subst jh;have bo:¬(k:Int)<(k:Int):=by omega
  have hL:=HL.O;have hS:=K4.O;obtain⟨rfl,h4⟩:l=awU∧(fG k s3).2=s4:=by rw[hS] at hL;exact⟨hL,by rw[hS]⟩
  rw[h4] at eb;rw[lL.O];clear hL hS h4 HL;go_upto_region 13 with(first
   |(go_at_call 151;go_must(refine SQ _ _ _ _ _ K5.O w _ eb.O.cr HT.O _ ?_);intro df jk eU;have dZ:=Z (eb.O.cur jk eU eW.O eM.O fA.O);have jN:=D 13 dZ.O.tr;have f13:=aC dZ.O.tr 13;clear jk eU))
  have yw:(df.setCell ⟨T,13,none⟩ (.string (str share))).heap[T]? =some (.cells (qg n.aF da n.ay dc n.ah n.aL n.src n.aP V n.props X n.origin n.number n.aW ah aI ia l ic share) 36):=by
   rw[bm df T 13 _ _ _ dZ.O.tr]
   rfl
  have fN:=br df ⟨T,13,none⟩ (.string (str share));have yx:=dZ.O.cr.other fN eM.O.symm (dZ.O.cr.low.setCell Fo.O _);have Gx:=dI fN dZ.O.ar x9.O;have Gy:=iO dZ.O.po dZ.O.tr (by decide) fN;have Gz:=dZ.O.qo.typed dZ.O.tr (by decide) (by decide) fN;have GA:=iO dZ.O.io dZ.O.tr (by decide) fN;generalize df.setCell ⟨T,13,none⟩ (.string (str share))=du at yw yx Gx Gy Gz GA⊢;obtain⟨la,lc,D9,_⟩:=yx.row;have c1:du.cell? ⟨w.heap.size+1,1,none⟩=some (.bool s5.bad):=D 1 D9;have Mo:ft du w3.heap.size (.slice da n.ay.length dc) (.slice V n.props.length X) (.slice ia l.length ic) ⟨n,ah,aI,l,share⟩:=⟨Gy,Gz,GA⟩
  obtain⟨QJ,Bf,Be,IZ⟩:=cF Mo yw yx Gx;have rX:Hid (w.heap.size<w3.heap.size):=by have:=eW.O;show _<_;omega
  obtain⟨⟨i0,i1,i2,i3,i4,i5,i6⟩,i7,i8,i9,i10,i11,i12,i13⟩:=tg (w:=du) Bf.O;clear yw fN yx Gx Gy Gz GA Mo jN f13 D9 eb dZ bo au B8 hm;obtain⟨sh,lW⟩:=ai s5.bad;rw[lW] at c1 eR lC;clear lW;cases sh with
  |true=>
   obtain⟨rfl,rfl⟩:=eR.O (fun h=>by cases h.1);exact aej
  |false=>
   cases fin with
   |false=>
    obtain⟨rfl,rfl⟩:=eR.O (fun h=>by cases h.2.1);exact aej
   |true=>
    have eS:=lC.O rfl rfl;obtain⟨aw0,hY⟩:=ai (db ⟨n,ah,aI,l,share⟩);have HY:=Z hY;have lv:Hid (aw0.length≤140737488355328):=by have:=eS.il;rw[hY] at this;exact aJ this (by decide)
    have aem:=Z (QJ.O.c eS.b);obtain⟨g,A⟩:∃g:Bool,(aw0==b)=g:=⟨_,rfl⟩
    have HG:=Z A;have CG:=Z eS;clear eS hY A lC;cases g with
    |false=>
     obtain⟨rfl,rfl⟩:=eR.O (fun h=>by have:=HG.O;rw[←HY.O,h.2.2] at this;simp at this);go_wp2_with (first
      |(go_at_call 60;go_must(refine OF ⟨n,ah,aI,l,share⟩ _ _ _ _ aem.O CG.O.b (aJ CG.O.pl (by decide)) (HT.O.below Be.O.low) aw0 HY.O (aJ CG.O.nl (by decide)) lv.O (aJ (le_of_lt CG.O.ni) (by decide)) _ ?_);intro ya yc cY lR dC;have Mp:=Z (b_ lR);have yy:=Z (aA Bf.O dC);have CE:=Z (aA IZ.O dC);have mi:=Z (cz Be.O.low dC Be.O.low.size);have t_:=Z dC;clear lR dC i0 i1 i2 i3 i4 i5 i6 i7 i8 i9 i10 i11 i12 i13 c1)|(go_at_call 53;go_must(refine Dy _ _ aw0 b _ Mp.O (HV.O.below mi.O) _ ?_);rw[HG.O])
      |(refine gw 36 2 85 (w.heap.size) CE.O ?_))
     refine bodyPost_ret (Aw rfl _ _ w 36 aX (0,0) _ (E 190) rfl rfl (setRow_heap cY w.heap.size _ _ _ _ CE.O) underlying36 rfl (by kernel_rfl)) rfl ?_;exact HR.O none 0 none 0 none 0 _ ⟨bO _ _ _ _,cE.nil _ _,bO _ _ _ _⟩ (below_setRow (mi.O) bj aX)
    |true=>
     have F:=HX.O;have jS:db ⟨n,ah,aI,l,share⟩=b:=by rw[HY.O];exact eq_of_beq HG.O
     rw[←jS,QE CG.O] at F;cases F;clear jS eR;go_wp2_with (first
      |(go_at_call 60;go_must(refine OF ⟨n,ah,aI,l,share⟩ _ _ _ _ aem.O CG.O.b (aJ CG.O.pl (by decide)) (HT.O.below Be.O.low) aw0 HY.O (aJ CG.O.nl (by decide)) lv.O (aJ (le_of_lt CG.O.ni) (by decide)) _ ?_);intro ya yc cY lR dC;have Mp:=Z (b_ lR);have yy:=Z (aA Bf.O dC);have CE:=Z (aA IZ.O dC);have mi:=Z (cz Be.O.low dC Be.O.low.size);have t_:=Z dC;clear lR dC i0 i1 i2 i3 i4 i5 i6 i7 i8 i9 i10 i11 i12 i13 c1)|(go_at_call 53;go_must(refine Dy _ _ aw0 b _ Mp.O (HV.O.below mi.O) _ ?_);rw[HG.O])
      |(refine kJ 86 36 7 T yy.O underlying36 ?_)
      |(refine gw 36 2 86 (w.heap.size) CE.O ?_))
     exact aef
variable{aw2:List UInt8}{n:Nat}
theorem aen{s:Cu}(h:(s.bad || decide (s.b.length<n))=true):aN n s=(0,⟨s.b,true⟩):=by
 unfold aN takeC;rw[if_pos h]
 rfl
theorem QT(t N n:Nat)(sb:List UInt8)(bad:Bool)(hn:n≤sb.length)(w0 w:World)(Y:av)(c:Nat)(aq:w.heap[N]? =some (.cells #[.slice Y sb.length c,.bool bad] t (0,0)))(bU:Bs w0 (.slice Y sb.length c) sb)(pO:Below w0 w0 w)(kL:w0.heap.size≤N)(bk:sb.length≤140737488355328):
 ∃Lx,(∀w,(Instr.slice 22 (.slice Y sb.length c) (some (E (n:Int))) none none).run prog w= .ok (.slice Lx (sb.length - n) (c - n)) w)∧CR w0 t N ⟨sb.drop n,bad⟩ (w.setCell ⟨N,0,none⟩ (.slice Lx (sb.length - n) (c - n)))∧Bs w0 (.slice Y n c) (sb.take n):=by
 have hp:=bU.parts;obtain⟨Lx,dm,so,Km⟩:=SO (P:=prog) (j:=n) underlying22 Tryz.cP hn hp.2.2.1 hp.2.2.2.2;have bQ:Rd w0 1 Lx (sb.length - n) (bv (sb.drop n)):=by
  exact SM
 obtain⟨gK,Fs⟩:=SN (c:=c - n) bQ (by have:=hp.2.2.1;omega) (by have:=hp.2.2.2.1;omega) so;refine⟨Lx,dm,⟨⟨Lx,c - n,?_,?_⟩,pO.setCell kL _,kL,by simp only[dw];omega⟩,Bs.cut bU hn⟩
 ·rw[bm w N 0 _ _ _ aq,gK]
  rfl
 simp only;rw[←gK];exact Fs
theorem aeo{P:Prop}(h:P:=by
 cases F;clear I aq bU pO;go_enter func45,ntmps45;go_wp2;exact HR.O _ (HC.O.mark true) (br w ⟨N,1,none⟩ _)):P:=h
theorem yA(N n:Nat)(s:Cu)(x:Int)(S:Cu)(F:aN n s=(x,S))(w0 w:World)(h:CR w0 106 N s w)(R:ak)
 (I:∀w',CR w0 106 N S w'→w.grownBy w' (some N)→R (.returned (E x)) w'):
 Calls prog 45 #[zq N,E n] w R:=by
 have HR:=Z I;have HC:=Z h;obtain⟨sb,bad⟩:=s;obtain⟨⟨Y,c,aq,bU⟩,pO,kL,bk⟩:=h;simp only at aq bU bk;have c0:=D 0 aq;have c1:w.cell? ⟨N,1,none⟩=some (.bool bad):=D 1 aq;have f0:=aC aq 0;have f1:=aC aq 1;cases bad with
 |true=>
  rw[aen rfl] at F;exact aeo
 |false=>
 by_cases hl:sb.length<n
 ·have BX:(sb.length:Int)<(n:Int):=by omega
  rw[aen (by simp[hl])] at F;exact aeo
 obtain⟨Lx,dm,fL,jg⟩:=QT 106 N n sb false (by omega) w0 w Y c aq bU pO kL bk;have BX:¬(sb.length:Int)<(n:Int):=by omega
 have Ot:(n:Int)≤(c:Int):=by have:=bU.parts.2.2.1;omega
 obtain⟨a,ha⟩:=ai (sb.take n);obtain⟨g,A⟩:=ai (cX a);have e:aN n ⟨sb,false⟩=(IntKind.i64.wrap (g:Int),⟨sb.drop n,false⟩):=by
  unfold aN takeC;rw[if_neg (by simp;omega),ha,A]
 rw[e] at F;rw[ha] at jg;have NI:a.length=n:=by rw[←ha,bS];omega
 cases F;have HG:=Z A;have oW:=Z fL;have aep:=jg.below pO;have m7:=Z aep;have awo:=Z NI;clear I aq bU pO jg aep fL A ha e NI f1 hl;go_enter func45,ntmps45;go_wp2_with (first
  |(go_at_call 109;go_must(refine get_at _ a g HG.O _ (by have:=m7.O;exact this) _ ?_)))
 have e2:IntKind.i64.wrap (g:Int)=wrap64 (g:Int):=by rw[IntKind.wrap_i64];unfold wrap64;omega
 have hr:=HR.O _ oW.O (br w ⟨N,0,none⟩ _);rw[e2] at hr;exact hr
theorem aeq{l:List UInt8}{u er:Int}(h:eh l=(aw2,u,er)):∃n:Nat,u=(n:Int)∧n≤l.length:=by
 rcases EL l with⟨_,e⟩|⟨n,hn,k_,kZ,⟨_,e⟩|⟨h2,e⟩⟩<;>rw[h] at e<;>cases e
 ·exact⟨0,rfl,by omega⟩
 ·exact⟨0,rfl,by omega⟩
 exact⟨2+n,by omega,h2⟩
theorem arA{l:List UInt8}{u er:Int}(h:dp l=(aw2,u,er)):∃n:Nat,u=(n:Int)∧n≤l.length:=by
 obtain⟨D',u',ZK,hd⟩:∃aw2 u er,eh l=(aw2,u,er):=⟨_,_,_,rfl⟩
 have:=aeq hd;unfold dp at h;rw[hd] at h;simp only at h
 split at h
 ·cases h;exact⟨0,rfl,by omega⟩
 split at h<;>cases h
 ·exact this
 exact⟨0,rfl,by omega⟩
theorem aer(N:Nat)(s:Cu)(T:List UInt8)(S:Cu)(F:yz s=(T,S))(w0 w:World)(h:CR w0 106 N s w)(hT:dy w0)(R:ak)
 (I:∀w',CR w0 106 N S w'→w.grownBy w' (some N)→R (.returned (.string (str T))) w'):
 Calls prog 44 #[zq N] w R:=by
 have HR:=Z I;have HC:=Z h;obtain⟨sb,bad⟩:=s;obtain⟨aw2,u,er,hD⟩:∃aw2 u er,dp sb=(aw2,u,er):=⟨_,_,_,rfl⟩
 obtain⟨n,rfl,hn⟩:=arA hD;unfold yz at F;simp only[hD,toNat_natCast,Prod.mk.injEq] at F;obtain⟨rfl,rfl⟩:=F;obtain⟨⟨Y,c,aq,bU⟩,pO,kL,bk⟩:=h;simp only at aq bU bk;have Ot:(n:Int)≤(c:Int):=by have:=bU.parts.2.2.1;omega
 have BX:(n:Int)≤(sb.length:Int):=by omega
 have c0:=D 0 aq;have HD:=Z hD;have bB:=Z bU;have EJ:=bU.below pO;have eW:=Z EJ;have Hs:=Z (hT.below pO);obtain⟨aV,kO,HN⟩:=bX aq kL hn;clear I hD bU EJ pO hT aq hn;cases bad with
 |true=>
  go_enter func44,ntmps44;go_wp2_with (first
   |(go_at_call 108;go_must(refine De _ sb aw2 n er HD.O _ eW.O Hs.O _ ?_);intro w2 aj;have bE:=aA aV.O aj;have VJ:=D 0 bE;have c1:w2.cell? ⟨N,1,none⟩=some (.bool true):=D 1 bE;have f1:=aC bE 1;have f0:=aC bE 0;have wY:=Z bE;have bn:=Z aj;obtain⟨Lx,dm,hcut,_⟩:=QT 106 N n sb true HN.O w0 (w2.setCell ⟨N,1,none⟩ (.bool true)) Y c (by rw[bm w2 N 1 _ _ _ wY.O];rfl) bB.O ((HC.O.below aj).low.setCell HC.O.nn _) HC.O.nn HC.O.len;have Mq:=Z hcut;clear hcut aj bE c0))
  exact HR.O _ Mq.O (cg (ju bn.O) (cg (br w2 ⟨N,1,none⟩ (.bool true)) (br _ ⟨N,0,none⟩ _)))
 |false=>
  go_enter func44,ntmps44;go_wp2_with (first
   |(go_at_call 108;go_must(refine De _ sb aw2 n er HD.O _ eW.O Hs.O _ ?_);intro w2 aj;have bE:=aA aV.O aj;have VJ:=D 0 bE;have c1:w2.cell? ⟨N,1,none⟩=some (.bool false):=D 1 bE;have f1:=aC bE 1;have f0:=aC bE 0;have wY:=Z bE;have bn:=Z aj;obtain⟨Lx,dm,hcut,_⟩:=QT 106 N n sb (er != 0) HN.O w0 (w2.setCell ⟨N,1,none⟩ (.bool (er != 0))) Y c (by rw[bm w2 N 1 _ _ _ wY.O];rfl) bB.O ((HC.O.below aj).low.setCell HC.O.nn _) HC.O.nn HC.O.len;have Mq:=Z hcut;clear hcut aj bE c0))
  exact HR.O _ Mq.O (cg (ju bn.O) (cg (br w2 ⟨N,1,none⟩ (.bool (er != 0))) (br _ ⟨N,0,none⟩ _)))
theorem VK(N:Nat)(s:Cu)(x:Im)(S:Cu)(F:itemS s=(x,S))(w0 w:World)(h:CR w0 106 N s w)(hT:dy w0)(R:ak)
 (I:∀da dc V X ia ic w',ft w' w.heap.size (.slice da x.note.ay.length dc) (.slice V x.note.props.length X) (.slice ia x.ids.length ic) x→CR w0 106 N S w'→w.grownBy w' (some N)→R (.returned (Value.agg (aG x da dc V X ia ic))) w'):
 Calls prog 49 #[zq N] w R:=by
 have HR:=Z I;have HT:=Z hT;obtain⟨sb,bad⟩:=s;obtain⟨aw0,u,er,hG⟩:∃aw2 u er,eh sb=(aw2,u,er):=⟨_,_,_,rfl⟩
 obtain⟨n,rfl,hn⟩:=aeq hG;obtain⟨x',e,hI⟩:∃x e,rdI aw0=(x,e):=⟨_,_,rfl⟩
 unfold itemS at F;simp only[hG,hI,toNat_natCast,Prod.mk.injEq] at F;obtain⟨rfl,rfl⟩:=F;obtain⟨bb,yl⟩:∃z,(bad || er != 0 || e != 0)=z:=⟨_,rfl⟩
 rw[yl] at HR;have arB:aw0.length≤65535:=by have:=(Mg sb).1;rw[hG] at this;exact this
 have aw:Below w w (w.alloc (.cells aX 36)):=aD _ _;have hA1:=aH w (.cells aX 36);have fP:=Z (h.below aw);have CH:N<w.heap.size:=h.lt;have D_:Hid (w.grownBy (w.alloc (.cells aX 36)) (some N)):=ju aw;have mC:=Z CH;have fA:Hid (w.heap.size≠N):=ne_of_gt CH;obtain⟨HG,HI,VL,cT⟩:=cF hG hI hn yl;clear I hT h aw CH hG hI hn yl;go_enter func49,ntmps49;go_upto_region 1 with fail
 generalize w.alloc (.cells aX 36)=w1 at fP hA1 D_⊢;obtain⟨awY,Ag⟩:=ai w.heap.size;rw[Ag] at hA1 mC fA⊢;have Fu:=Z hA1;have Ea:=Z Ag;obtain⟨Y,c,aq,bU⟩:=fP.O.row;simp only at aq bU;have c0:=D 0 aq;have arC:=Z (bU.below fP.O.low);have arD:=Z bU;have arE:=Z aq;have Ot:(n:Int)≤(c:Int):=by have:=bU.parts.2.2.1;have:=VL.O;omega
 have BX:(n:Int)≤(sb.length:Int):=by have:=VL.O;omega
 clear hA1 aq bU Ag;go_upto_region 3 with(first
  |(go_at_call 112;go_must(refine EN _ sb aw0 n er HG.O _ arC.O _ ?_);intro xa xc w2 jx aj;have bE:=aA arE.O aj;have VJ:=D 0 bE;have f0:=aC bE 0;have qP:=Z (aA Fu.O aj);have jH:=Z jx;have lG:=Z (cg D_.O (ju aj));have Gg:=Z (fP.O.lt);obtain⟨Lx,dm,hcut,_⟩:=QT 106 N n sb bad VL.O w0 w2 Y c bE arD.O (fP.O.below aj).low fP.O.nn fP.O.len;have Mq:=Z hcut;clear hcut jx aj bE c0))
 have dz:=br w2 ⟨N,0,none⟩ (.slice Lx (sb.length - n) (c - n));have VM:=Mq.O;have VN:Bs (w2.setCell ⟨N,0,none⟩ (.slice Lx (sb.length - n) (c - n))) (.slice xa aw0.length xc) aw0:=by
  exact b_ (j1 jH.O dz (m8 jH.O Gg.O))
 have VO:=dI dz qP.O fA.O;have VP:=cg lG.O dz;generalize w2.setCell ⟨N,0,none⟩ (.slice Lx (sb.length - n) (c - n))=w3 at VM VN VO VP⊢;obtain⟨np,arF,wk,xp⟩:=cF VM VN VO VP;have arG:Hid (awY+1≤w3.heap.size):=by have h1:=(eI.1 wk.O).1;show _≤_;omega
 clear dz VM VN VO VP VJ f0 dm;go_upto_region 4 with(first
  |(go_at_call 113;go_must(refine ary aw0 x' e HI.O _ _ arF.O arB (HT.O.below np.O.low) _ ?_);intro da dc V X ia ic w4 Mt ao;have VQ:=Z (Mt.mono arG.O);have jz:=Z (np.O.below ao);have rY:=Z (aA wk.O ao);have oD:=Z (cg xp.O (ju ao));clear Mt ao))
 have dB:=aH w4 (.cells (aG x' da dc V X ia ic) 36);have aE:=aD w4 (.cells (aG x' da dc V X ia ic) 36);generalize w4.alloc (.cells (aG x' da dc V X ia ic) 36)=w5 at dB aE⊢;have au:=jz.O.lt;obtain⟨T,cQ⟩:=ai w4.heap.size;rw[cQ] at dB au⊢;have eM:Hid (T≠N):=ne_of_gt au;have pP:=jz.O.below aE;obtain⟨la,lc,VR,_⟩:=pP.row;have c1:w5.cell? ⟨N,1,none⟩=some (.bool bad):=D 1 VR;have f1:=aC VR 1;have oX:=Z dB;have nw:=Z pP;have D8:=Z (aA rY.O aE);have Mu:=Z (VQ.O.below aE);have wS:=Z (cg oD.O (ju aE));clear dB aE cQ au pP VR;go_cut [43] from 31 to 45 (fun _ wx=>wx=w5.setCell ⟨N,1,none⟩ (.bool bb))
 case first=>
  cases bad with
  |true=>
   go_wp2_with fail;go_meet;rw[←cT.O]
   rfl
  |false=>
   obtain⟨g,A⟩:∃g,(er != 0)=g:=⟨_,rfl⟩
   cases g with
   |true=>
    go_wp2_with fail;go_meet;rw[←cT.O,A]
    rfl
   |false=>
    go_wp2_with fail;go_meet;rw[←cT.O,A]
    rfl
 obtain rfl:=hcut;have bI:=br w5 ⟨N,1,none⟩ (.bool bb);have rP:=nw.O.mark bb;have jy:=dI bI oX.O eM.O;have VS:=dI bI D8.O fA.O;have VT:=cg wS.O bI;have QU:N<awY+1:=by have:=mC.O;omega
 have VU:ft (w5.setCell ⟨N,1,none⟩ (.bool bb)) (awY+1) (.slice da x'.note.ay.length dc) (.slice V x'.note.props.length X) (.slice ia x'.ids.length ic) x':=⟨j1 Mu.O.p bI (m8 Mu.O.p QU),Mu.O.q.yK bI QU,j1 Mu.O.i bI (m8 Mu.O.i QU)⟩
 generalize w5.setCell ⟨N,1,none⟩ (.bool bb)=w6 at rP jy VS VT VU⊢;obtain⟨oM,tU,yv,DY,Mv⟩:=jq jy rP VS VT VU;clear bI rP jy VS VT VU QU c1 f1;go_wp2_with (first
  |(refine kJ 46 36 6 T oM.O underlying36 ?_)
  |(refine gw 36 2 46 awY yv.O ?_))
 refine bodyPost_ret (results_cell_row rfl _ _ awY 36 (aG x' da dc V X ia ic) (0,0) _ rfl (setRow_heap _ awY _ _ _ _ yv.O) underlying36 rfl (by kernel_rfl)) rfl ?_;have fT:=BY w6 awY (aG x' da dc V X ia ic);have hA1:awY<awY+1:=lt_succ_self _;have GC:w.heap.size≤awY+1:=by have:=Ea.O;omega
 exact HR.O da dc V X ia ic _ ⟨cm (j1 Mv.O.p fT (m8 Mv.O.p hA1)) GC,(Mv.O.q.yK fT hA1).mono GC,cm (j1 Mv.O.i fT (m8 Mv.O.i hA1)) GC⟩ (tU.O.other fT fA.O.symm (below_setRow tU.O.low (aJ tU.O.nn (le_of_lt mC.O)) _)) (AT DY.O fT (le_of_eq Ea.O))
theorem arH(N:Nat)(s:Cu)(x:Sb)(S:Cu)(F:xq s=(x,S))(w0 w:World)(h:CR w0 106 N s w)(hT:dy w0)(R:ak)
 (I:∀w',CR w0 106 N S w'→w.grownBy w' (some N)→R (.returned (.agg (bH x))) w'):
 Calls prog 48 #[zq N] w R:=by
 have HR:=Z I;have HT:=Z hT;obtain⟨awX,s1,k1⟩:∃T s',yz s=(T,s'):=⟨_,_,rfl⟩
 obtain⟨o,s2,k2⟩:∃T s',aN 1 s1=(T,s'):=⟨_,_,rfl⟩
 obtain⟨ID,s3,k3⟩:∃T s',aN 4 s2=(T,s'):=⟨_,_,rfl⟩
 obtain⟨m,rfl,hm⟩:=kS (by decide) k2;unfold xq at F;simp only[k1,k2,k3,Prod.mk.injEq] at F;obtain⟨F,hS⟩:=F;rw[F] at hS;have mY:awX=x.filter:=by rw[←F]
 have lP:bits .and .i64 (m:Int) 3=x.ah:=by rw[←F]
 have tE:(bits .and .i64 (m:Int) 4 != 0)=x.kn:=by rw[←F]
 have yB:(bits .and .i64 (m:Int) 8 != 0)=x.kq:=by rw[←F]
 have tv:(m:Int) / 16=x.eX:=by rw[←F]
 have xP:ID=x.id:=by rw[←F]
 subst mY xP;clear F;obtain⟨sX,bad⟩:=s3;simp only at hS;obtain⟨bb,yl⟩:=ai ((bad || I5 x));rw[yl] at hS;subst hS;have aw:Below w w (w.alloc (.cells gB 64)):=aD _ _;have hA1:=aH w (.cells gB 64);have fP:=Z (h.below aw);have CH:N<w.heap.size:=h.lt;have D_:Hid (w.grownBy (w.alloc (.cells gB 64)) (some N)):=ju aw;obtain⟨mC,K1,K2,K3,cT⟩:=jq CH k1 k2 k3 yl;have dt:m<256:=hm;clear I hT h aw CH k1 k2 k3 yl hm;go_enter func48,ntmps48;go_upto_region 1 with fail
 generalize w.alloc (.cells gB 64)=w1 at fP hA1 D_⊢;obtain⟨awY,Ag⟩:=ai w.heap.size;rw[Ag] at hA1 mC⊢;have fA:Hid (awY≠N):=ne_of_gt mC.O;have Fu:=Z hA1;have Ea:=Z Ag;clear hA1 Ag;go_upto_region 2 with(first
  |(go_at_call 44;go_must(refine aer N _ _ _ K1.O w0 _ fP.O HT.O _ ?_);intro w2 bM bD;have eT:=Z bM;have qP:=Z (dI bD Fu.O fA.O);have lG:=Z (cg D_.O bD);clear bM bD))
 have iC:=aH w2 (.cells #[.string (str x.filter),E 0,.bool false,.bool false,E 0,E 0] 64);have an:=aD w2 (.cells #[.string (str x.filter),E 0,.bool false,.bool false,E 0,E 0] 64);generalize w2.alloc (.cells #[.string (str x.filter),E 0,.bool false,.bool false,E 0,E 0] 64)=w3 at iC an⊢;have au:=eT.O.lt;obtain⟨T,cQ⟩:=ai w2.heap.size;rw[cQ] at iC au⊢;have eM:Hid (T≠N):=ne_of_gt au;have vI:Hid (w0.heap.size≤T):=aJ eT.O.nn (le_of_lt au);have sI:=Z iC;have np:=Z (eT.O.below an);have wk:=Z (aA qP.O an);have xp:=Z (cg lG.O (ju an));have x9:Hid (awY≠T):=by
  have h1:=(eI.1 qP.O).1;show _≠_
  omega
 have aes:Hid (w.heap.size≤T):=by
  have h1:=(eI.1 qP.O).1;have h2:=Ea.O;show _≤_
  omega
 clear iC an cQ au;go_upto_region 3 with(first
  |(go_at_call 45;go_must(refine yA N 1 _ _ _ K2.O w0 _ np.O _ ?_);intro w4 fy cV;have jz:=Z fy;have iq:=dI cV sI.O eM.O;have A_:=Z iq;have rY:=Z (dI cV wk.O fA.O);have oD:=Z (cg xp.O cV);have c1:=D 1 iq;have f1:=aC iq 1;have c4:=D 4 iq;have f4:=aC iq 4;have c2:=D 2 iq;have f2:=aC iq 2;have c3:=D 3 iq;have f3:=aC iq 3;clear fy cV iq))
 go_upto_region 5 with fail
 have dB:((((w4.setCell ⟨T,1,none⟩ (.int .i64 x.ah)).setCell ⟨T,4,none⟩ (.int .i64 x.eX)).setCell ⟨T,2,none⟩ (.bool x.kn)).setCell ⟨T,3,none⟩ (.bool x.kq)).heap[T]? =some (.cells #[.string (str x.filter),.int .i64 x.ah,.bool x.kn,.bool x.kq,.int .i64 x.eX,E 0] 64):=by
  rw[bm _ T 3 _ _ _ (bm _ T 2 _ _ _ (bm _ T 4 _ _ _ (bm w4 T 1 _ _ _ A_.O)))]
  rfl
 have gZ:w4.grownBy ((((w4.setCell ⟨T,1,none⟩ (.int .i64 x.ah)).setCell ⟨T,4,none⟩ (.int .i64 x.eX)).setCell ⟨T,2,none⟩ (.bool x.kn)).setCell ⟨T,3,none⟩ (.bool x.kq)) (some T):=cg (cg (cg (br w4 ⟨T,1,none⟩ _) (br _ ⟨T,4,none⟩ _)) (br _ ⟨T,2,none⟩ _)) (br _ ⟨T,3,none⟩ _);have pP:=jz.O.other gZ eM.O.symm ((((jz.O.low.setCell vI.O _).setCell vI.O _).setCell vI.O _).setCell vI.O _);have VV:=dI gZ rY.O x9.O;have VW:=AT oD.O gZ aes.O;generalize (((w4.setCell ⟨T,1,none⟩ (.int .i64 x.ah)).setCell ⟨T,4,none⟩ (.int .i64 x.eX)).setCell ⟨T,2,none⟩ (.bool x.kn)).setCell ⟨T,3,none⟩ (.bool x.kq)=w5 at dB pP VV VW⊢;obtain⟨oX,nw,D8,wS⟩:=cF dB pP VV VW;clear dB gZ pP VV VW c1 f1 c2 f2 c3 f3 c4 f4 lP tv tE yB;go_upto_region 6 with(first
  |(go_at_call 45;go_must(refine yA N 4 _ _ _ K3.O w0 _ nw.O _ ?_);intro w6 rP bI;have tU:=Z rP;have jy:=dI bI oX.O eM.O;have oM:=Z jy;have yv:=Z (dI bI D8.O fA.O);have DY:=Z (cg wS.O bI);have c5:=D 5 jy;have f5:=aC jy 5;clear rP bI jy))
 have iV:(w6.setCell ⟨T,5,none⟩ (.int .i64 x.id)).heap[T]? =some (.cells (bH x) 64):=by
  rw[bm w6 T 5 _ _ _ oM.O]
  rfl
 have fT:=br w6 ⟨T,5,none⟩ (.int .i64 x.id);have tu:=tU.O.other fT eM.O.symm (tU.O.low.setCell vI.O _);have VX:=dI fT yv.O x9.O;have VY:=AT DY.O fT aes.O;generalize w6.setCell ⟨T,5,none⟩ (.int .i64 x.id)=w7 at iV tu VX VY⊢;obtain⟨la,lc,xK,_⟩:=tu.row;have c1:w7.cell? ⟨N,1,none⟩=some (.bool bad):=D 1 xK;have f1:=aC xK 1;have d0:=D 0 iV;have d1:=D 1 iV;have d4:=D 4 iV;have d5:=D 5 iV;obtain⟨sS,xm,I3,I6⟩:=cF iV tu VX VY;clear iV fT tu VX VY xK c5 f5;go_cut [58] from 27 to 60 (fun _ wx=>wx=w7.setCell ⟨N,1,none⟩ (.bool bb))
 case first=>
  have dQ:bad=true∨(bad=false∧x.ah > 2)∨(bad=false∧¬x.ah > 2∧x.eX > 2)∨(bad=false∧¬x.ah > 2∧¬x.eX > 2∧x.id > 268435455)∨(bad=false∧¬x.ah > 2∧¬x.eX > 2∧¬x.id > 268435455∧(x.filter.length:Int)<1)∨(bad=false∧¬x.ah > 2∧¬x.eX > 2∧¬x.id > 268435455∧¬(x.filter.length:Int)<1∧(x.filter.length:Int) > 64)∨(bad=false∧¬x.ah > 2∧¬x.eX > 2∧¬x.id > 268435455∧¬(x.filter.length:Int)<1∧¬(x.filter.length:Int) > 64):=by
   cases bad
   ·simp only[Bool.false_eq_true,false_or,true_and]
    omega
   exact .inl rfl
  rcases dQ with rfl|⟨rfl,q1⟩|⟨rfl,q1,q2⟩|⟨rfl,q1,q2,q3⟩|⟨rfl,q1,q2,q3,q4⟩|⟨rfl,q1,q2,q3,q4,q5⟩|⟨rfl,q1,q2,q3,q4,q5⟩
  all_goals
   go_wp2_with fail;go_meet;rw[←cT.O];unfold I5
   first
    |(simp only[*,decide_true,Bool.or_true,Bool.true_or,Bool.false_or];done)
    |(rw[dN (show¬x.ah > 2 by omega),dN (show¬x.eX > 2 by omega),dN (show¬x.id > 268435455 by omega),dN (show¬(x.filter.length:Int)<1 by omega),dN (show¬(x.filter.length:Int) > 64 by omega)];rfl)
 obtain rfl:=hcut;have eL:=br w7 ⟨N,1,none⟩ (.bool bb);have kR:=xm.O.mark bb;have mT:=dI eL sS.O eM.O;have Af:=dI eL I3.O fA.O;have VZ:=cg I6.O eL;generalize w7.setCell ⟨N,1,none⟩ (.bool bb)=w8 at kR mT Af VZ⊢;obtain⟨arI,Eu,D7,zp⟩:=cF mT kR Af VZ;clear eL kR mT Af VZ c1 f1 d0 d1 d4 d5;go_wp2_with (first
  |(refine kJ 61 64 3 T arI.O underlying64 ?_)
  |(refine gw 64 2 61 awY D7.O ?_))
 refine bodyPost_ret (results_cell_row rfl _ _ awY 64 (bH x) (0,0) _ rfl (setRow_heap _ awY _ _ _ _ D7.O) underlying64 rfl (by kernel_rfl)) rfl ?_;have eU:=BY w8 awY (bH x);exact HR.O _ (Eu.O.other eU fA.O.symm (below_setRow Eu.O.low (aJ Eu.O.nn (le_of_lt mC.O)) _)) (AT zp.O eU (le_of_eq Ea.O))
variable{f:Fl}{x:Im}{w0:World}
structure FK(w0 w:World)(N awY T:Nat)(f:Fl)(da:av)(dc:Nat)(V:av)(X:Nat)(ia:av)(ic:Nat)(s:Cu)(wr:World):Prop where
 cr:CR w0 106 N s wr
 tr:wr.heap[T]? =some (.cells (cA f.id f.state f.item da dc V X ia ic) 51)
 ar:wr.heap[awY]? =some (.cells mo 51)
 im:ft wr (awY+1) (.slice da f.item.note.ay.length dc) (.slice V f.item.note.props.length X) (.slice ia f.item.ids.length ic) f.item
 gr:w.grownBy wr (some N)
theorem FK.below{wr:World}{X:Nat}{s:Cu}(h:FK w0 w N awY T f da dc V X ia ic s wr)(U:Below wr wr w'):FK w0 w N awY T f da dc V X ia ic s w':=
 ⟨h.cr.below U,aA h.tr U,aA h.ar U,h.im.below U,cg h.gr (ju U)⟩
theorem FK.mark{wr:World}{X:Nat}{sb:List UInt8}{x:Bool}(h:FK w0 w N awY T f da dc V X ia ic ⟨sb,x⟩ wr)(hT:T≠N)(hA:awY≠N)(hN:N<awY+1)(y:Bool):FK w0 w N awY T f da dc V X ia ic ⟨sb,y⟩ (wr.setCell ⟨N,1,none⟩ (.bool y)):=by
 have A:=br wr ⟨N,1,none⟩ (.bool y);exact⟨h.cr.mark y,dI A h.tr hT,dI A h.ar hA,⟨j1 h.im.p A (m8 h.im.p hN),h.im.q.yK A hN,j1 h.im.i A (m8 h.im.i hN)⟩,cg h.gr A⟩
theorem V0{P:Prop}(h:P:=by
 go_wp2_with fail;go_meet;rw[←Eb.O];exact Z (v_.O.mark eM.O fA.O I8.O true)):P:=h
theorem arL(N:Nat)(s:Cu)(f:Fl)(S:Cu)(F:flightC s=(f,S))(w0 w:World)(h:CR w0 106 N s w)(hT:dy w0)(R:ak)
 (I:∀da dc V X ia ic w',ft w' w.heap.size (.slice da f.item.note.ay.length dc) (.slice V f.item.note.props.length X) (.slice ia f.item.ids.length ic) f.item→CR w0 106 N S w'→w.grownBy w' (some N)→R (.returned (.agg (cA f.id f.state f.item da dc V X ia ic))) w'):
 Calls prog 50 #[zq N] w R:=by
 have HR:=Z I;have HT:=Z hT;obtain⟨id,s1,k1⟩:∃T s',aN 2 s=(T,s'):=⟨_,_,rfl⟩
 obtain⟨state,s2,k2⟩:∃T s',aN 1 s1=(T,s'):=⟨_,_,rfl⟩
 obtain⟨x,s3,k3⟩:∃T s',itemS s2=(T,s'):=⟨_,_,rfl⟩
 obtain⟨sX,bad⟩:=s3;unfold flightC at F;simp only[k1,k2,k3,Prod.mk.injEq] at F;obtain⟨rfl,rfl⟩:=F;obtain⟨b1,aw⟩:=ai ((bad || badF state x));obtain⟨b2,aj⟩:=ai ((b1 || decide (id > 8)));rw[aw,aj] at HR;have jg:Below w w (w.alloc (.cells mo 51)):=aD _ _;have hA1:=aH w (.cells mo 51);have fP:=Z (h.below jg);have CH:N<w.heap.size:=h.lt;have D_:Hid (w.grownBy (w.alloc (.cells mo 51)) (some N)):=ju jg;obtain⟨mC,K1,K2,K3,ct,bn⟩:=CN CH k1 k2 k3 aw aj;have fR:Hid True:=trivial;clear I hT h jg CH k1 k2 k3 aw aj;go_enter func50,ntmps50;go_upto_region 1 with fail
 generalize w.alloc (.cells mo 51)=w1 at fP hA1 D_⊢;obtain⟨awY,Ag⟩:=ai w.heap.size;rw[Ag] at hA1 mC⊢;have fA:Hid (awY≠N):=ne_of_gt mC.O;have Fu:=Z hA1;have Ea:=Z Ag;clear hA1 Ag;go_upto_region 2 with(first
  |(have hq:=fR;go_at_call 45;go_must(refine yA N 2 _ _ _ K1.O w0 _ fP.O _ ?_);intro w2 bM bD;have eT:=Z bM;have qP:=Z (dI bD Fu.O fA.O);have lG:=Z (cg D_.O bD);clear hq fR bM bD)
  |(go_at_call 45;go_must(refine yA N 1 _ _ _ K2.O w0 _ eT.O _ ?_);intro w3 iB dz;have np:=Z iB;have wk:=Z (dI dz qP.O fA.O);have xp:=Z (cg lG.O dz);have arM:Hid (awY+1≤w3.heap.size):=Z (eI.1 wk.O).1;clear iB dz)
  |(go_at_call 49;go_must(refine VK N _ x _ K3.O w0 _ np.O HT.O _ ?_);intro da dc V X ia ic w4 Mt fy cV;have VQ:=Z (Mt.mono arM.O);have jz:=Z fy;have rY:=Z (dI cV wk.O fA.O);have oD:=Z (cg xp.O cV);clear Mt fy cV))
 have dB:=aH w4 (.cells (cA id state x da dc V X ia ic) 51);have aE:=aD w4 (.cells (cA id state x da dc V X ia ic) 51);generalize w4.alloc (.cells (cA id state x da dc V X ia ic) 51)=w5 at dB aE⊢;have au:=jz.O.lt;obtain⟨T,cQ⟩:=ai w4.heap.size;rw[cQ] at dB au⊢;have eM:Hid (T≠N):=ne_of_gt au;have d2:=D 2 dB;have tS:Hid (FK w0 w N awY T ⟨id,state,x⟩ da dc V X ia ic ⟨sX,bad⟩ w5):=Z ⟨jz.O.below aE,dB,aA rY.O aE,VQ.O.below aE,cg oD.O (ju aE)⟩;clear dB aE cQ au;go_upto_region 3 with fail
 have yB:=aH w5 (.cells #[.string (str x.note.aF),.slice none 0 0,E 0,.bool false,.string ⟨#[]⟩,E 0,.slice none 0 0,E 0,E 0,E 0,E 2,.bool false,.slice none 0 0,.string ⟨#[]⟩] 36);have bd:=aD w5 (.cells #[.string (str x.note.aF),.slice none 0 0,E 0,.bool false,.string ⟨#[]⟩,E 0,.slice none 0 0,E 0,E 0,E 0,E 2,.bool false,.slice none 0 0,.string ⟨#[]⟩] 36);generalize w5.alloc (.cells #[.string (str x.note.aF),.slice none 0 0,E 0,.bool false,.string ⟨#[]⟩,E 0,.slice none 0 0,E 0,E 0,E 0,E 2,.bool false,.slice none 0 0,.string ⟨#[]⟩] 36)=w6 at yB bd⊢;obtain⟨awV,aex⟩:=ai w5.heap.size;rw[aex] at yB⊢;have QX:=tS.O.below bd;obtain⟨t0,t1,t2,t3,t4,t5,t6,t7,t8,t9,t10,t11,t12,t13,t14,t15⟩:=jU QX.tr;obtain⟨⟨i0,i1,i2,i3,i4,i5,i6⟩,i7,i8,i9,i10,i11,i12,i13⟩:=tg (w:=w6) yB;obtain⟨la,lc,oA,_⟩:=QX.cr.row;have c1:w6.cell? ⟨N,1,none⟩=some (.bool bad):=D 1 oA;have f1:=aC oA 1;have v_:=Z QX;have I8:Hid (N<awY+1):=by have:=mC.O;show _<_;omega
 clear yB bd aex oA QX d2;go_upto_block 0 with fail
 go_cut [23] from 20 to 56 (fun _ wx=>Hid (FK w0 w N awY T ⟨id,state,x⟩ da dc V X ia ic ⟨sX,b1⟩ wx))
 case first=>
  by_cases s1:state=1
  ·subst s1;have Eb:Hid ((bad || x.ah != 1)=b1):=by
    show _=_;rw[←ct.O];unfold badF;rw[if_pos (.inl rfl)]
   cases bad with
   |true=>
    exact V0
   |false=>
    go_wp2_with fail;go_meet;rw[←Eb.O];exact Z (v_.O.mark eM.O fA.O I8.O (x.ah != 1))
  by_cases s2:state=2
  ·subst s2;have Eb:Hid ((bad || x.ah != 2)=b1):=by
    show _=_;rw[←ct.O];unfold badF;rw[if_pos (.inr rfl)]
   cases bad with
   |true=>
    exact V0
   |false=>
    go_wp2_with fail;go_meet;rw[←Eb.O];exact Z (v_.O.mark eM.O fA.O I8.O (x.ah != 2))
  have n1:(state==1)=false:=by simpa using s1
  have n2:(state==2)=false:=by simpa using s2
  by_cases s3:state=3
  ·subst s3;clear s1 s2 n1 n2;obtain⟨z,hz⟩:∃z:Bool,z=true↔x=gI x.note.aF:=by
    by_cases h:x=gI x.note.aF
    ·exact⟨true,by simp[←h]⟩
    exact⟨false,by simp[h]⟩
   have HZ:=Z hz;have Eb:Hid ((bad || !z)=b1):=by
    show _=_;rw[←ct.O];unfold badF;rw[if_neg (by decide),if_pos rfl]
    congr 2
    rw[Bool.eq_iff_iff,hz,decide_eq_true_iff]
   clear hz;cases bad with
   |true=>
    exact V0
   |false=>
    go_wp2_with (first
     |(go_at_call 114;go_must(refine arK x z HZ.O _ _ _ _ (v_.O.im.c (I7 K3.O)) _ ?_);intro w7 bp;have Fy:=Z (v_.O.below bp);obtain⟨awp,awq,xK,_⟩:=Fy.O.cr.row;have f17:=aC xK 1;have UB:w7.cell? ⟨N,1,none⟩=some (.bool false):=D 1 xK;clear bp xK))
    go_meet;rw[←Eb.O];exact Z ((Fy.O).mark eM.O fA.O I8.O (!z))
  have n3:(state==3)=false:=by simpa using s3
  have U:b1=true:=by
   rw[←ct.O];unfold badF;rw[if_neg (by rintro(h|h);exact s1 h;exact s2 h),if_neg s3,Bool.or_true]
  clear s1 s2 s3;go_wp2_with fail;go_meet;rw[U];exact Z (v_.O.mark eM.O fA.O I8.O true)
 have Ci:=hcut;clear hcut t0 t1 t2 t3 t4 t5 t6 t7 t8 t9 t10 t11 t12 t13 t14 t15 i0 i1 i2 i3 i4 i5 i6 i7 i8 i9 i10 i11 i12 i13 c1 f1;obtain⟨w8,rfl⟩:∃y,y=wc:=⟨_,rfl⟩
 obtain⟨awr,aws,vG,_⟩:=Ci.O.cr.row;have PV:w8.cell? ⟨N,1,none⟩=some (.bool b1):=D 1 vG;have f18:=aC vG 1;have d0:=D 0 Ci.O.tr;clear vG;go_upto_region 10 with fail
 go_cut [66] from 57 to 68 (fun _ wx=>wx=w8.setCell ⟨N,1,none⟩ (.bool b2))
 case first=>
  cases b1 with
  |true=>
   go_wp2_with fail;go_meet;rw[←bn.O]
   rfl
  |false=>
   go_wp2_with fail;go_meet;rw[←bn.O]
   rfl
 obtain rfl:=hcut;have Mz:=Ci.O.mark eM.O fA.O I8.O b2;generalize w8.setCell ⟨N,1,none⟩ (.bool b2)=w9 at Mz⊢;have zx:=Z Mz;have yj:=Z Mz.tr;have Qj:=Z Mz.ar;clear Mz PV f18 d0;go_wp2_with (first
  |(refine kJ 69 51 3 T yj.O underlying51 ?_)
  |(refine gw 51 2 69 awY Qj.O ?_))
 refine bodyPost_ret (results_cell_row rfl _ _ awY 51 (cA id state x da dc V X ia ic) (0,0) _ rfl (setRow_heap _ awY _ _ _ _ Qj.O) underlying51 rfl (by kernel_rfl)) rfl ?_;have eU:=BY w9 awY (cA id state x da dc V X ia ic);have hA1:awY<awY+1:=lt_succ_self _;have GC:w.heap.size≤awY+1:=by have:=Ea.O;omega
 have rW:=zx.O.im;exact HR.O da dc V X ia ic _ ⟨cm (j1 rW.p eU (m8 rW.p hA1)) GC,(rW.q.yK eU hA1).mono GC,cm (j1 rW.i eU (m8 rW.i hA1)) GC⟩ (zx.O.cr.other eU fA.O.symm (below_setRow zx.O.cr.low (aJ zx.O.cr.nn (le_of_lt mC.O)) _)) (AT zx.O.gr eU (le_of_eq Ea.O))
