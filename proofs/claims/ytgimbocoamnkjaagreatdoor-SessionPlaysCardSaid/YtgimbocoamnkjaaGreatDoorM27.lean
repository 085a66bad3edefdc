/- A part of the proof of SessionPlays, printed small; no conditions of its own. -/
import Derived.Test.YtgimbocoamnkjaaGreatDoorM26
set_option maxRecDepth 100000
set_option maxHeartbeats 16000000
namespace Go.Proofs.YtgimbocoamnkjaaGreatDoor
open _root_.Go.Proofs.Tryz
open List (nil_append)
open Nat (zero_add)
variable{T t:Nat}{fr:Nat×Nat}{a d f h:Value}
open Go.RowKit
theorem aa1(i j:Int):∀u∈ [Value.int .u8 i,Value.int .u8 j],u.oneCell'=true:=fun u hu=>by
 simp only [List.mem_cons,List.not_mem_nil,or_false] at hu;rcases hu with rfl|rfl<;>rfl
theorem an3(i:Int)(h0:0≤i)(h1:i<256):Value.int .u8 i=Value.int .u8 ((b8 i).toNat:Int):=by
 rw [←wu,IntKind.wrap_u8,show i % 256=i by omega]
theorem Jb{x:World}{b c e g i j k l m n:Value}(q:x.heap[T]? =some (.cells #[a,b,c,d,e,f,g,h,i,j,k,l,m,n] t fr)):x.cell? ⟨T,10,none⟩=some k∧x.cell? ⟨T,11,none⟩=some l∧x.cell? ⟨T,12,none⟩=some m:=
 ⟨af x _ 10 _ _ _ q,af x _ 11 _ _ _ q,af x _ 12 _ _ _ q⟩
theorem aa2(n:Int)(h0:0≤n)(h1:n<18446744073709551616)(k:Nat)(hk:1≤k)(Fx:k≤8)(P:List UInt8)(hP:aR (bj n) k=P)(w:World)(R:Ending→World→Prop)
 (hR:∀ad c w',w'.ownsRow w 5 1 (.slice ad P.length c) P.length (bv P)→Below w w w'→R (.returned (.slice ad P.length c)) w'):
 Calls prog 64 #[.int .u64 n,.int .i64 k] w R:=by
 have h:=Au n k hk Fx P hP w R hR
 rwa [show IntKind.u64.wrap n=n by rw [IntKind.wrap_u64];omega] at h
theorem aa3(x:Im)(hx:xb x)(pv qv ev:Value)(W:World)(hc:gH W pv qv ev x)(hT:di W)(Y:List UInt8)(hY:jf x=Y)(je:Y.length≤100000)(R:Ending→World→Prop)
 (hR:∀ad c w',w'.ownsRow W 5 1 (.slice ad Y.length c) Y.length (bv Y)→Below W W w'→R (.returned (.tuple #[.slice ad Y.length c,.bool true])) w'):
 Calls prog 66 #[(Value.agg (pS x pv qv ev))] W R:=by
 have HR:=ab hR;have HX:=ab hx;have HC:=ab hc;obtain ⟨⟨pa,pc,rfl⟩,⟨qa,qc,rfl⟩,ea,ec,rfl⟩:=hc.shape;have q0:=hx.q0;have q1:=hx.q1;have rQ:=hx.ni;obtain ⟨⟨aJ,az,c_,aE,src,aN,props,origin,number,aQ⟩,al,aM,ids,share⟩:=x;simp only at*;clear hR hx hc;obtain ⟨NY,zT⟩:=ai (eK ⟨aJ,az,c_,aE,src,aN,props,origin,number,aQ⟩);have lg:NY.length≤65535:=by rw [←zT];exact HX.o_.nl
 obtain ⟨⟨DD,de⟩,yD⟩:∃q,cS NY=q:=⟨_,rfl⟩
 obtain ⟨⟨SS,se⟩,wX⟩:∃q,b5 share=q:=⟨_,rfl⟩
 obtain rfl:de=0:=by
  unfold cS at yD;rw [if_neg (by omega)] at yD;exact (Prod.mk.inj yD).2.symm
 have df:share.length≤65535:=HX.o_.sl;obtain rfl:se=0:=by have:=wE share df HX.o_.st;rw [wX] at this;exact (Prod.mk.inj this).2
 obtain ⟨mk,gP⟩:=ai (kr al aM);have SE:0≤mk∧mk<256:=by
  have:=SA al aM q0 q1;rw [gP] at this;rw [this]
  split<;>omega
 obtain ⟨nI,Jc⟩:=ai ids.length;rw [Jc] at rQ;obtain ⟨FF,kI⟩:∃q,ids.flatMap (fun i=>aR (bj i) 4)=q:=⟨_,rfl⟩
 have Bm:DD++ [b8 mk]++ [b8 (nI:Int)]++FF++SS=Y:=by
  rw [←hY];unfold jf;simp only [zT,yD,wX,kI,gP,Jc]
 have I_:DD.length≤100000∧FF.length≤100000∧SS.length≤100000:=by
  have:=congrArg List.length Bm;simp only [List.length_append,List.length_cons,List.length_nil] at this;exact ⟨by omega,by omega,by omega⟩
 have aL:Below W W (W.alloc (Obj.cells (qJ aJ pa az pc c_ aE src aN qa props qc origin number aQ al aM ea ids ec share) 36)):=(Below.refl _ _).alloc (Nat.le_refl _) _;have xE:=heap_alloc_new W (Obj.cells (qJ aJ pa az pc c_ aE src aN qa props qc origin number aQ al aM ea ids ec share) 36);have l8:=ab (hT.below aL);have mj:=ab (HC.o_.below aL);have an4:Hid (Is W (.slice ea ids.length ec) ids):=ab HC.o_.i;have bu:=ab aL;have Pn:=ab zT;have yE:=ab yD;have jo:=ab wX;have KP:=ab Bm;have tK:=ab kI;have MT:=ab gP;have Pu:=ab Jc;obtain ⟨l1,l2,l3⟩:=I_;have rR:=ab Jc;clear hT hY zT yD wX Bm kI gP aL Jc;go_enter func66,ntmps66;go_upto_region 1 with fail
 generalize W.alloc (Obj.cells (qJ aJ pa az pc c_ aE src aN qa props qc origin number aQ al aM ea ids ec share) 36)=u at bu xE l8 mj⊢;obtain ⟨T,I'⟩:=ai W.heap.size;rw [I'] at xE⊢;rw [Pu.o_] at xE mj⊢;have Aa:Hid (∀j,j<10→u.cell? ⟨T,0+j,none⟩= (gV aJ pa az pc c_ aE src aN qa props qc origin number aQ:List Value)[j]?):=ab (fun j hj=>by
  rw [zero_add,af _ T j _ _ _ xE]
  match j,hj with
  |0,_|1,_|2,_|3,_|4,_|5,_|6,_|7,_|8,_|9,_=>rfl)
 have N0:=ab xE;clear xE I';go_upto_region 5 with (first
  |(refine ie (o:=⟨some 14,.load 34 (.tmp 13),_,_,_,_⟩) (by rfl) 34 (.tmp 13) (by rfl) (T) (0) (by rfl) ((gV aJ pa az pc c_ aE src aN qa props qc origin number aQ)) _ (Aa.o_) (underlying34) (by rfl) (by kernel_rfl) ?_)
  |(go_at_call 123;go_must (refine anN ⟨aJ,az,c_,aE,src,aN,props,origin,number,aQ⟩ HX.o_.n _ _ _ mj.o_.p mj.o_.q HX.o_.nb HX.o_.pl l8.o_ NY Pn.o_ (Nat.le_trans lg (by decide)) _ ?_);intro na nc w2 gO ah;have ix:=ab (cp gO);have aY:=ab ah;have N2:=ab (aA N0.o_ ah);clear gO ah)
  |(go_at_call 67;go_must (refine FH _ NY DD 0 yE.o_ _ ix.o_ _ ?_);intro da dc w3 bD an;have eH:=ab (cp bD);have bU:=ab an;have N3:=ab (aA N2.o_ an);have jP:=af w3 _ 13 _ _ _ N3.o_;clear bD an)
  |(go_at_call 63;go_must (refine yY share SS 0 jo.o_ _ (by omega) _ ?_);intro ta tc w4 eh ak;have px:=ab (cp eh);have b6:=ab ak;have N4:=ab (aA N3.o_ ak);have gw:=af w4 _ 10 _ _ _ N4.o_;have jm:=af w4 _ 12 _ _ _ N4.o_;have arQ:(nI:Int)<256:=(by omega);clear eh ak))
 have vL:Hid (Below W W w4):=by
  exact VL
 have aa4:=ab (eH.o_.below b6.o_);obtain ⟨w,rfl⟩:∃x,x=w4:=⟨_,rfl⟩
 clear gw jm bu aY bU b6 ix eH N0 N2 N3 Aa l8 mj;go_cut [10] from 54 to 67 (fun QV wx=>∃(ad:Option Addr)(c:Nat),QV= .slice ad (DD.length+2) c∧Hid (wx.ownsRow w 5 1 (.slice ad (DD.length+2) c) (DD.length+2) (bv DD++ [Value.int .u8 mk,.int .u8 (IntKind.u8.wrap (nI:Int))]))∧Hid (Below w w wx))
 case first=>
  have hd:Below w w w.drew:=(Below.refl _ _).drew;have hE:=hd.alloc hd.size (Obj.cells #[] 5);have hL:=hd.alloc hd.size (Obj.cells #[.int .u8 mk,.int .u8 (IntKind.u8.wrap (nI:Int))] 5);have gw:=af _ T 10 _ _ _ (aA N4.o_ hd);have kq:=af _ T 11 _ _ _ (aA N4.o_ hd);have jm:=af _ T 12 _ _ _ (aA N4.o_ hd);have NJ:(w.alloc (Obj.cells #[] 5)).drew.cell? ⟨T,10,none⟩=_:=af _ T 10 _ _ _ (aA N4.o_ hE);have F0:(w.alloc (Obj.cells #[] 5)).drew.cell? ⟨T,11,none⟩=_:=af _ T 11 _ _ _ (aA N4.o_ hE);have Cc:(w.alloc (Obj.cells #[] 5)).drew.cell? ⟨T,12,none⟩=_:=af _ T 12 _ _ _ (aA N4.o_ hE);have B1:Hid ((w.alloc (Obj.cells #[] 5)).drew.ownsRow w 5 1 (.slice (some ⟨w,0,none⟩) 0 0) 0 []):=ab (World.ownsRow_made (base:=w.heap.size) (e:=5) (size:=1) w.drew #[] 0 (Nat.le_refl _) (by unfold maxLen;omega) rfl);have gR:Hid (Below w w (w.alloc (Obj.cells #[] 5)).drew):=ab hE;have ns:Hid True:=trivial;clear hd hL hE;have Jd:Hid (∀y:World,Rd (y.alloc (Obj.cells #[.int .u8 mk,.int .u8 (IntKind.u8.wrap (nI:Int))] 5)) 1 (some ⟨y,0,none⟩) 2 [.int .u8 mk,.int .u8 (IntKind.u8.wrap (nI:Int))]):=ab (fun y=>cO y #[.int .u8 mk,.int .u8 (IntKind.u8.wrap (nI:Int))] 5 1 2 rfl);have k0:=Jb (aA N4.o_ (Below.refl w w).drew);have kX:=Jb (aA N4.o_ gR.o_);clear gw kq jm NJ F0 Cc;go_region_held3 (fun x=>x.cell? ⟨T,10,none⟩=some (.int .i64 al)∧x.cell? ⟨T,11,none⟩=some (.bool aM)∧x.cell? ⟨T,12,none⟩=some (.slice ea nI ec))
   (first|with_reducible exact k0|with_reducible exact kX|with_reducible exact vK|with_reducible exact Je|with_reducible exact Av|go_keep)
   (first
    |(go_at_call 124;refine aaJ al aM q0 q1 mk MT.o_ _ _ ?_)
    |((have hq:=ns;refine gx ?_ (.tmp 54) (.tmp 55) 22 ?_ w 5 (.int .u8 0) 1 1 underlying22 Tryz.cJ rfl ?_ (some ⟨w,0,none⟩) 0 0 [] ?_ ?_ da DD.length dc (bv DD) ?_ ?_ ?_ ?_ ?_ ?_ ?_ ?_;rfl;rfl;decide;rfl;exact B1.o_;rfl;exact (aa4.o_.below gR.o_).parts.2.1;exact (eX _);exact aa4.o_.parts.2.2.2.2;unfold maxLen;omega;omega;exact gR.o_.size;intro rm nO lQ lR iG _;have jl:=ab (bC gR.o_ iG gR.o_.size B1.o_);have mW:=ab lR;clear hq ns lR iG);have vK:=Jb (aA N4.o_ jl.o_);have SK:=mW.o_;rw [zero_add,nil_append] at SK;have uy:=ab (SK.alloc (Obj.cells #[.int .u8 mk,.int .u8 (IntKind.u8.wrap (nI:Int))] 5));clear SK;have vP:=ab (jl.o_.alloc jl.o_.size (Obj.cells #[.int .u8 mk,.int .u8 (IntKind.u8.wrap (nI:Int))] 5));have Je:=Jb (aA N4.o_ vP.o_);have aa5:Hid True:=trivial)
    |((have hq:=aa5;refine gx ?_ (.tmp 56) (.tmp 66) 22 ?_ w 5 (.int .u8 0) 1 1 underlying22 Tryz.cJ rfl ?_ rm DD.length nO (bv DD) ?_ ?_ (some ⟨lQ,0,none⟩) 2 2 [.int .u8 mk,.int .u8 (IntKind.u8.wrap (nI:Int))] ?_ ?_ ?_ ?_ ?_ ?_ ?_ ?_;rfl;rfl;decide;rfl;exact uy.o_;rfl;exact (Jd.o_ lQ);exact (aa1 _ _);exact (fun h=>by cases h);unfold maxLen;omega;omega;exact vP.o_.size;intro vN vO Ah lS jt _;have qF:=ab (bC vP.o_ jt vP.o_.size uy.o_);have tm:=ab lS;clear hq aa5 lS jt);have Av:=Jb (aA N4.o_ qF.o_)))
  all_goals
   go_wp2_with fail;go_meet;exact ⟨vN,vO,rfl,tm,qF⟩
 obtain ⟨ja,jc,rfl,wY,tS⟩:=hcut;obtain ⟨w7,rfl⟩:∃x,x=wc:=⟨_,rfl⟩
 obtain ⟨J,hJ⟩:=ai (DD++ [b8 mk]++ [b8 (nI:Int)]);have cE:DD.length+2=J.length:=by rw [←hJ];simp
 have aa6:bv DD++ [Value.int .u8 mk,.int .u8 (IntKind.u8.wrap (nI:Int))]=bv J:=by
  rw [←hJ,an3 mk SE.1 SE.2,wu];simp only [oK,List.append_assoc]
  rfl
 have vG:J.length≤100002:=by omega
 rw [aa6,cE] at wY;rw [hJ] at KP;rw [cE];have KO:=px;have an5:Hid (Is w (.slice ea nI ec) ids):=by
  have:=an4.o_.below vL.o_
  rwa [rR.o_] at this
 clear aa6 cE hJ;obtain rfl:ids.length=nI:=rR.o_;have KQ:Hid (∀j,((ids.take j).flatMap (fun i=>aR (bj i) 4)).length≤FF.length):=fun j=>by
  exact VK
 have Pv:Hid (∀i∈ids,1≤i∧i≤268435455):=ab HX.o_.ir;go_upto_region 7 with fail
 go_loopg [5,10,11] ids.length (fun gn k5 b i wr=>∃(k:Nat)(P:List UInt8)(wZ:Option Addr)(w_:Nat),k≤ids.length∧gn=ids.length - k∧k5= .bool true∧b= .slice wZ P.length w_∧i= .int .i64 k∧Hid (P=J++(ids.take k).flatMap (fun i=>aR (bj i) 4))∧Hid (wr.ownsRow w 5 1 (.slice wZ P.length w_) P.length (bv P))∧Hid (Below w w wr))
 case atStart=>exact ⟨0,J,ja,jc,Nat.zero_le _,by omega,rfl,rfl,rfl,ab (by simp),wY,tS⟩
 case round=>
  obtain ⟨k,P,wZ,w_,hk,rfl,rfl,rfl,rfl,HP,HO,HB⟩:=hrel;obtain ⟨wo,rfl⟩:∃x,x=wr:=⟨_,rfl⟩
  have fz:Hid (P.length≤200002):=by
   have h1:=congrArg List.length HP.o_;have h3:=KQ.o_ k;rw [List.length_append] at h1;show _≤_
   omega
  have jm:=af wo _ 12 _ _ _ (aA N4.o_ HB.o_);by_cases ao:k<ids.length
  ·have bd:(k:Int)<(ids.length:Int):=by omega
   obtain ⟨g,o,Da,qT⟩:=(an5.o_.below HB.o_).at k ao;subst Da;have qU:ids.take (k+1)=ids.take k++ [ids[k]]:=List.take_succ_eq_append_getElem ao;have aa7:=Pv.o_ _ (List.getElem_mem ao);obtain ⟨x,hx⟩:=ai (ids[k]);rw [hx] at qT qU aa7;obtain ⟨x1,x2⟩:=aa7;obtain ⟨P4,mO⟩:=ai (aR (bj x) 4);have E_:Hid (P++P4=J++(ids.take (k+1)).flatMap (fun i=>aR (bj i) 4)):=by
    show _=_;rw [qU,List.flatMap_append,HP.o_,←mO];simp
   have G6:Hid (aR (bj x) 4=P4):=mO;have jH:Hid (P4.length=4):=by show _=_;rw [←mO,eU]
   have aa8:Hid True:=trivial;clear hx qU mO;go_wp2_with (first
    |(go_at_call 64;go_must (refine aa2 x (by omega) (by omega) 4 (by decide) (by decide) P4 G6.o_ _ _ ?_);intro xa xc w8 yu gh;have fS:=ab (aD HB.o_ gh HB.o_.size);have kD:=ab (aK HO.o_ gh);have Db:=ab (cp yu);have arR:P4.length≤4:=Nat.le_of_eq jH.o_;have G_:=fz.o_;clear yu gh)
    |(have hq:=aa8;at_builtin;go_must (refine gj (by rfl) (.tmp 92) (.tmp 99) 22 (by rfl) w 5 (.int .u8 0) 1 1 underlying22 Tryz.cJ rfl (by decide) wZ P.length w_ _ (by rfl) kD.o_ xa P4.length xc _ (by rfl) Db.o_.parts.2.1 (eX _) Db.o_.parts.2.2.2.2 (by unfold maxLen;omega) (by omega) fS.o_.size ?_);intro eC c9 w9 cI bo _;have ki:=ab (bC fS.o_ bo fS.o_.size kD.o_);have rL:=ab cI;clear hq aa8 cI bo))
   have pF:Value.int .i64 (wrap64 ((k:Int)+1))= .int .i64 ((k+1:Nat):Int):=by
    have:wrap64 ((k:Int)+1)=(k:Int)+1:=by unfold wrap64;omega
    rw [this];simp
   have aa9:=rL.o_;rw [←oK] at aa9;go_roundg (ids.length - (k+1))
   case measure=>omega
   case rel=>exact ⟨k+1,P++P4,eC,c9,by omega,rfl,rfl,by rw [List.length_append],(by first|exact pF|(push_cast;rfl)),E_,by rw [List.length_append];exact ab aa9,ki⟩
  ·have bd:¬(k:Int)<(ids.length:Int):=by omega
   have G7:Hid (P++SS=Y):=by
    have fA:k=ids.length:=by omega
    show _=_;rw [←KP.o_,HP.o_,fA,List.take_length,tK.o_]
   have aba:Hid True:=trivial;have G_:=fz.o_;have vg:=ab (px.o_.below HB.o_);go_wp2_with (have hq:=aba;at_builtin;go_must (refine gj (by rfl) (.tmp 101) (.tmp 102) 22 (by rfl) w 5 (.int .u8 0) 1 1 underlying22 Tryz.cJ rfl (by decide) wZ P.length w_ _ (by rfl) HO.o_ ta SS.length tc _ (by rfl) vg.o_.parts.2.1 (eX _) vg.o_.parts.2.2.2.2 (by unfold maxLen;omega) (by omega) HB.o_.size ?_);intro FJ FK LU xM sg _;have xN:=ab (bC HB.o_ sg HB.o_.size HO.o_);have BZ:=ab xM;clear hq aba xM sg);have cw:=BZ.o_;have aX:P.length+SS.length=Y.length:=by rw [←G7.o_,List.length_append]
   rw [←oK,G7.o_,aX] at cw;rw [aX];exact HR.o_ _ _ _ (bN cw vL.o_.size) (aD vL.o_ xN.o_ vL.o_.size)
variable{xs:List Value}{B N S e n size:Nat}{v:Value}{w w':World}
theorem SL(b:Bool)(n r:Int)(hr:(if b then n else 0)=r)(w:World)(R:Ending→World→Prop)
 (hR:R (.returned (.int .i64 r)) w):
 Calls prog 65 #[.bool b,.int .i64 n] w R:=by
 subst hr;cases b with
 |false=>
  have HR:=ab (show R (.returned (.int .i64 0)) w from hR);clear hR;go_enter func65,ntmps65;go_wp2;exact HR.o_
 |true=>
  have HR:=ab (show R (.returned (.int .i64 n)) w from hR);clear hR;go_enter func65,ntmps65;go_wp2;exact HR.o_
theorem yZ{x:World}{b c e g:Value}(q:x.heap[S]? =some (.cells #[a,b,c,d,e,f,g,h] t fr)):x.cell? ⟨S,1,none⟩=some b∧x.cell? ⟨S,2,none⟩=some c∧x.cell? ⟨S,3,none⟩=some d∧x.cell? ⟨S,4,none⟩=some e:=
 ⟨af x S 1 _ _ _ q,af x S 2 _ _ _ q,af x S 3 _ _ _ q,af x S 4 _ _ _ q⟩
theorem MY{b:Value}(h:w.ownsRow B e size v n xs)(hg:w.grownBy w' b.ownBlock)(ao:∀k,b.ownBlock=some k→k<B):w'.ownsRow B e size v n xs:=
 cY h hg fun k hk hc=>by
  have h1:=ao k hc.symm;have h2:=(h.lt k hk).1
  omega
theorem abb{b b':Value}(ao:∀k,b.ownBlock=some k→k<B)(hz:b'.ownBlock=b.ownBlock∨b'.ownBlock=some N):∀k,b'.ownBlock=some k→k<B∨k=N:=fun k hk=>by
 rcases hz with h|h
 ·exact .inl (ao k (h.symm.trans hk))
 ·exact .inr (Option.some.inj (hk.symm.trans h))
theorem SM{wA:World}{b:Value}(h:w.ownsRow B e size v n xs)(hA:wA.ownsRow B e size v n xs)(hg:w.grownBy w' b.ownBlock)(hz:∀k,b.ownBlock=some k→k<B∨k=wA.heap.size):w'.ownsRow B e size v n xs:=
 cY h hg fun k hk hc=>by
  have h3:=(hA.lt k hk).1;have h4:=(hA.lt k hk).2;rcases hz k hc.symm with h|h<;>omega
theorem an6(S:Nat)(s:aF)(hs:du s)(w:World)(Ms M:Nat→Prop)(h:RR w Ms M S s)(hT:di w)
 (Y:List UInt8) (hY:r8 s=Y) (je:Y.length≤140000000) (R:Ending→World→Prop)
 (hR:∀ad c w',w'.ownsRow w 5 1 (.slice ad Y.length c) Y.length (bv Y)→Below w w w'→R (.returned (.tuple #[.slice ad Y.length c,.bool true])) w'):
 Calls prog 21 #[.pointer (some ⟨S,0,none⟩)] w R:=by
 have HR:=ab hR;have HT:=ab hT;have HS:=ab hs;have j3:=hs.cn;have SN:=hs.cl;obtain ⟨e0,e1⟩:=And.intro hs.e0 hs.e1;obtain ⟨d0,d1⟩:=And.intro hs.d0 hs.d1;have SO:=hs.sn;obtain ⟨dC,cP,ends,eB,ay,queue,aj,cj,aH⟩:=s;simp only at j3 SN e0 e1 d0 d1 SO;obtain ⟨sv,qv,fv,gv,hx⟩:=h;obtain ⟨b9,t_⟩:=ai ay.length;have xp:=hx.hs;simp only at xp;rw [t_] at xp;obtain ⟨sa,sc,vY⟩:=bF xp;subst vY;have pI:=ab hx.hS;have Lq:=ab xp;have BA:=ab t_;have HX:=ab hx;have c0:=hx.cells.1;have c1:=hx.cells.2.1;have c2:=hx.cells.2.2.1;simp only at c0 c1 c2;obtain ⟨⟨CC,ce⟩,BC⟩:∃q,b5 dC=q:=⟨_,rfl⟩
 obtain rfl:ce=0:=by have:=wE dC (by omega) SN;rw [BC] at this;exact (Prod.mk.inj this).2
 obtain ⟨E1,pq⟩:=ai (aR (bj cP) 8);obtain ⟨E2,pw⟩:=ai (aR (bj ends) 8);obtain ⟨HH,Dm⟩:=ai (Fm dC cP ends eB b9);obtain ⟨ON,vF⟩:∃z:Int,(if eB then 1 else 0)=z:=⟨_,rfl⟩
 have Fo:CC++E1++E2++ [b8 ON]++ [b8 (b9:Int)]=HH:=by
  rw [←Dm];unfold Fm;simp only [BC,pq,pw,vF]
 have Dn:HH++ay.flatMap dS++ [b8 (queue.length:Int)]++queue.flatMap eW++ [b8 (aj.length:Int)]++aj.flatMap gE++ [b8 (aH.length:Int)]++(bE aH).flatMap kN=Y:=by
  rw [←hY,←Dm];unfold r8;simp only [t_]
 have Hp:HH.length+(ay.flatMap dS).length+(queue.flatMap eW).length+(aj.flatMap gE).length+((bE aH).flatMap kN).length+3=Y.length:=by
  rw [←Dn];simp only [List.length_append,List.length_cons,List.length_nil]
  omega
 have I_:CC.length≤140000000∧E1.length≤8∧E2.length≤8∧CC.length+E1.length+E2.length+2=HH.length:=by
  have:=congrArg List.length Fo;simp only [List.length_append,List.length_cons,List.length_nil] at this;refine ⟨by omega,by rw [←pq,eU];decide,by rw [←pw,eU];decide,by omega⟩
 obtain ⟨l1,l2,l3,l4⟩:=I_;have zE:=ab vF;have yB:=ab BC;have wK:=ab pq;have uU:=ab pw;have Dp:=ab Fo;have wG:=ab Dn;have vv:=ab Hp;have mC:=ab je;have jH:=ab l4;clear vF hR hT hx BC pq pw Dm Fo xp t_ Dn Hp je hY hs l4 SO;go_enter func21,ntmps21;go_upto_region 2 with (first
  |(go_at_call 63;go_must (refine yY dC CC 0 yB.o_ _ (by omega) _ ?_);intro ta tc w2 gO ah;have ix:=ab (cp gO);have aY:=ab ah;have N2:=ab (aA pI.o_ ah);clear gO ah c0 c1 c2))
 have c1:=af w2 S 1 _ _ _ N2.o_;have c2:=af w2 S 2 _ _ _ N2.o_;have DV:cP≤4611686018427387904:=by omega
 have XY:ends≤4611686018427387904:=by omega
 go_upto_region 3 with fail
 clear c1 c2;go_cut [4] from 61 to 77 (fun s4 wx=>∃(ad:Option Addr)(c:Nat),s4= .slice ad (CC.length+E1.length+E2.length) c∧Hid (wx.ownsRow w2 5 1 (.slice ad (CC.length+E1.length+E2.length) c) (CC.length+E1.length+E2.length) (bv CC++bv E1++bv E2))∧Hid (Below w2 w2 wx))
 case first=>
  have hd:Below w2 w2 w2.drew:=(Below.refl _ _).drew;have hE:=hd.alloc hd.size (Obj.cells #[] 5);have k0:=yZ (aA N2.o_ hd);have B1:Hid ((w2.alloc (Obj.cells #[] 5)).drew.ownsRow w2 5 1 (.slice (some ⟨w2,0,none⟩) 0 0) 0 []):=ab (World.ownsRow_made (base:=w2.heap.size) (e:=5) (size:=1) w2.drew #[] 0 (Nat.le_refl _) (by unfold maxLen;omega) rfl);have gR:Hid (Below w2 w2 (w2.alloc (Obj.cells #[] 5)).drew):=ab hE;have kX:=yZ (aA N2.o_ gR.o_);obtain ⟨w,rfl⟩:∃x,x=w2:=⟨_,rfl⟩
  have ns:Hid True:=trivial;clear hd hE;go_region_held3 (fun x=>x.cell? ⟨S,1,none⟩=some (.int .i64 cP)∧x.cell? ⟨S,2,none⟩=some (.int .i64 ends)∧x.cell? ⟨S,3,none⟩=some (.bool eB)∧x.cell? ⟨S,4,none⟩=some (.slice sa b9 sc))
   (first|with_reducible exact k0|with_reducible exact kX|with_reducible exact vK|with_reducible exact kA|with_reducible exact Av|with_reducible exact kC|with_reducible exact SQ|go_keep)
   (first
    |((have hq:=ns;refine gx ?_ (.tmp 61) (.tmp 62) 22 ?_ w 5 (.int .u8 0) 1 1 underlying22 Tryz.cJ rfl ?_ (some ⟨w,0,none⟩) 0 0 [] ?_ ?_ ta CC.length tc (bv CC) ?_ ?_ ?_ ?_ ?_ ?_ ?_ ?_;rfl;rfl;decide;rfl;exact B1.o_;rfl;exact (ix.o_.below gR.o_).parts.2.1;exact (eX _);exact ix.o_.parts.2.2.2.2;unfold maxLen;omega;omega;exact gR.o_.size;intro rm nO lQ lR iG _;have jl:=ab (bC gR.o_ iG gR.o_.size B1.o_);have mW:=ab lR;clear hq ns lR iG);have uy:=mW.o_;rw [zero_add,nil_append] at uy;have vK:=yZ (aA N2.o_ jl.o_);have fV:Hid True:=trivial)
    |(have hq:=fV;go_at_call 64;refine Au cP 8 (by decide) (by decide) E1 wK.o_ _ _ ?_;intro MW MX wA BY cF;clear hq fV;have sj:=ab (aK uy cF);have cb:=ab (aD jl.o_ cF jl.o_.size);have xK:=ab (cp BY);have abc:Hid True:=trivial;have kA:=yZ (aA N2.o_ cb.o_))
    |((have hq:=abc;refine gx ?_ (.tmp 63) (.tmp 69) 22 ?_ w 5 (.int .u8 0) 1 1 underlying22 Tryz.cJ rfl ?_ rm CC.length nO (bv CC) ?_ ?_ MW E1.length MX (bv E1) ?_ ?_ ?_ ?_ ?_ ?_ ?_ ?_;rfl;rfl;decide;rfl;exact sj.o_;rfl;exact xK.o_.parts.2.1;exact (eX _);exact xK.o_.parts.2.2.2.2;unfold maxLen;omega;omega;exact cb.o_.size;intro vN vO Ah lS jt _;have qF:=ab (bC cb.o_ jt cb.o_.size sj.o_);have tm:=ab lS;clear hq abc lS jt);have Av:=yZ (aA N2.o_ qF.o_);have lM:Hid True:=trivial)
    |(have hq:=lM;go_at_call 64;refine Au ends 8 (by decide) (by decide) E2 uU.o_ _ _ ?_;intro BS BT wC D1 xL;clear hq lM;have qK:=ab (aK tm.o_ xL);have pQ:=ab (aD qF.o_ xL qF.o_.size);have yj:=ab (cp D1);have abd:Hid True:=trivial;have kC:=yZ (aA N2.o_ pQ.o_))
    |((have hq:=abd;refine gx ?_ (.tmp 70) (.tmp 76) 22 ?_ w 5 (.int .u8 0) 1 1 underlying22 Tryz.cJ rfl ?_ vN (CC.length+E1.length) vO (bv CC++bv E1) ?_ ?_ BS E2.length BT (bv E2) ?_ ?_ ?_ ?_ ?_ ?_ ?_ ?_;rfl;rfl;decide;rfl;exact qK.o_;rfl;exact yj.o_.parts.2.1;exact (eX _);exact yj.o_.parts.2.2.2.2;unfold maxLen;omega;omega;exact pQ.o_.size;intro FJ FK LU xM sg _;have xN:=ab (bC pQ.o_ sg pQ.o_.size qK.o_);have BZ:=ab xM;clear hq abd xM sg);have SQ:=yZ (aA N2.o_ xN.o_)))
  all_goals
   go_wp2_with fail;go_meet;exact ⟨FJ,FK,rfl,BZ,xN⟩
 obtain ⟨ja,jc,rfl,wY,tS⟩:=hcut;obtain ⟨w3,rfl⟩:∃x,x=wc:=⟨_,rfl⟩
 obtain ⟨P0,MZ⟩:=ai (CC++E1++E2);have SU:CC.length+E1.length+E2.length=P0.length:=by rw [←MZ];simp only [List.length_append]
 have abe:bv CC++bv E1++bv E2=bv P0:=by rw [←MZ];simp only [oK]
 have an7:P0.length≤140000016:=by omega
 rw [SU,abe] at wY;rw [MZ] at Dp;rw [SU];have tM:Hid (LB w w3 (.slice ja P0.length jc) P0):=ab ⟨bN wY.o_ aY.o_.size,aD aY.o_ tS.o_ aY.o_.size⟩;clear SU abe MZ wY tS ix aY N2 DV XY l1 l2 l3 e0 e1 d0 d1;go_upto_region 4 with fail
 go_cut [4] from 78 to 92 (fun s4 wx=>∃(ad:Option Addr)(c:Nat),s4= .slice ad HH.length c∧Hid (LB w wx (.slice ad HH.length c) HH))
 case first=>
  have hE:Below w w (w3.alloc (Obj.cells #[.int .u8 (IntKind.u8.wrap ON),.int .u8 (IntKind.u8.wrap (b9:Int))] 5)).drew:=tM.o_.low.drew.alloc tM.o_.low.size _;have k0:=yZ (aA pI.o_ tM.o_.low.drew);have kX:=yZ (aA pI.o_ hE);have gR:=ab hE;have B1:Hid ((w3.alloc (Obj.cells #[.int .u8 (IntKind.u8.wrap ON),.int .u8 (IntKind.u8.wrap (b9:Int))] 5)).drew.ownsRow w 5 1 (.slice ja P0.length jc) P0.length (bv P0)):=ab (tM.o_.own.drew.alloc _);have Jd:Hid (Rd (w3.alloc (Obj.cells #[.int .u8 (IntKind.u8.wrap ON),.int .u8 (IntKind.u8.wrap (b9:Int))] 5)).drew 1 (some ⟨w3,0,none⟩) 2 [.int .u8 (IntKind.u8.wrap ON),.int .u8 (IntKind.u8.wrap (b9:Int))]):=ab (cO w3.drew #[.int .u8 (IntKind.u8.wrap ON),.int .u8 (IntKind.u8.wrap (b9:Int))] 5 1 2 rfl);have ns:Hid True:=trivial;clear hE;go_region_held3 (fun x=>x.cell? ⟨S,1,none⟩=some (.int .i64 cP)∧x.cell? ⟨S,2,none⟩=some (.int .i64 ends)∧x.cell? ⟨S,3,none⟩=some (.bool eB)∧x.cell? ⟨S,4,none⟩=some (.slice sa b9 sc))
   (first|with_reducible exact k0|with_reducible exact kX|with_reducible exact vK|go_keep)
   (first
    |(go_at_call 65;refine SL eB 1 ON zE.o_ _ _ ?_)
    |((have hq:=ns;refine gx ?_ (.tmp 78) (.tmp 91) 22 ?_ w 5 (.int .u8 0) 1 1 underlying22 Tryz.cJ rfl ?_ ja P0.length jc (bv P0) ?_ ?_ (some ⟨w3,0,none⟩) 2 2 [.int .u8 (IntKind.u8.wrap ON),.int .u8 (IntKind.u8.wrap (b9:Int))] ?_ ?_ ?_ ?_ ?_ ?_ ?_ ?_;rfl;rfl;decide;rfl;exact B1.o_;rfl;exact Jd.o_;exact (aa1 _ _);exact (fun h=>by cases h);unfold maxLen;omega;omega;exact gR.o_.size;intro rm nO lQ lR iG _;have jl:=ab (bC gR.o_ iG gR.o_.size B1.o_);have mW:=ab lR;clear hq ns lR iG);have vK:=yZ (aA pI.o_ jl.o_)))
  all_goals
   go_wp2_with fail;go_meet;have hl:P0.length+2=HH.length:=by rw [←Dp.o_];simp
   have hb:bv P0++ [.int .u8 (IntKind.u8.wrap ON),.int .u8 (IntKind.u8.wrap (b9:Int))]=bv HH:=by
    rw [←Dp.o_,wu,wu];simp only [oK,List.append_assoc]
    rfl
   have ho:=mW.o_;rw [hl,hb] at ho;rw [hl];exact ⟨rm,nO,rfl,ab ⟨ho,jl.o_⟩⟩
 clear tM an7 Dp zE yB wK uU j3 SN;obtain ⟨ja,jc,rfl,tM⟩:=hcut;obtain ⟨w3,rfl⟩:∃x,x=wc:=⟨_,rfl⟩
 have vg:Hid (∀x∈ay,BH x):=ab HS.o_.sb;go_upto_region 6 with fail
 have Lr:=ab (fun (k:Nat)(_:k≤b9)(P:List UInt8) (hP:P=HH++(ay.take k).flatMap dS)=>(by
  have h1:=congrArg List.length hP;have h2:=Bx dS ay k;have h3:=vv.o_;have h4:=mC.o_;rw [List.length_append] at h1
  omega:P.length≤140000000))
 go_loopg [4,6,7,8,9,10] b9 (fun gn b ok i _ _ _ wr=>∃(k:Nat)(P:List UInt8)(ba:Option Addr)(bc:Nat),k≤b9∧gn=b9 - k∧b= .slice ba P.length bc∧ok= .bool true∧i= .int .i64 k∧Hid (P=HH++(ay.take k).flatMap dS)∧Hid (LB w wr (.slice ba P.length bc) P))
 case atStart=>exact ⟨0,HH,ja,jc,Nat.zero_le _,by omega,rfl,rfl,rfl,ab (by simp),tM⟩
 case round=>
  obtain ⟨k,P,ba,bc,hk,rfl,rfl,rfl,rfl,HP,gi⟩:=hrel;obtain ⟨wo,rfl⟩:∃x,x=wr:=⟨_,rfl⟩
  clear tM;have c4:=af wo S 4 _ _ _ (aA pI.o_ gi.o_.low);by_cases ao:k<b9
  ·
   have bd:(k:Int)<(b9:Int):=by omega
   have jk:k<ay.length:=by have:=BA.o_;omega
   have r_:=aK Lq.o_ gi.o_.low;obtain ⟨g,rfl⟩:=et r_ (by omega);have bJ:∀j,j<6→wo.cell? ⟨g,k*6+j,none⟩=(aP ay[k])[j]?:=fun j hj=>by
    have h1:=BA.o_;rw [r_.cellAt (k*6+j) (by omega),jQ 6 aP fT ay k j jk hj]
   have hO:=By dS ay k jk;have nM:=vg.o_ _ (List.getElem_mem jk);obtain ⟨x,hx⟩:=ai (ay[k]);rw [hx] at bJ hO nM;have HC:Hid (∀j,j< (bB x:List Value).length→wo.cell? ⟨g,k*6+j,none⟩= (bB x:List Value)[j]?):=bJ;obtain ⟨⟨FF,fe⟩,kI⟩:∃q,b5 x.filter=q:=⟨_,rfl⟩
   obtain rfl:fe=0:=by have:=wE x.filter nM.b.f nM.t;rw [kI] at this;exact (Prod.mk.inj this).2
   obtain ⟨P4,mO⟩:=ai (aR (bj x.id) 4);obtain ⟨R1,ud⟩:∃z:Int,(if x.lE then 4 else 0)=z:=⟨_,rfl⟩
   obtain ⟨R2,rE⟩:∃z:Int,(if x.lF then 8 else 0)=z:=⟨_,rfl⟩
   have Qx:0≤R1∧R1≤4:=by rw [←ud];split<;>omega
   have Qy:0≤R2∧R2≤8:=by rw [←rE];split<;>omega
   obtain ⟨N1,ue⟩:∃z:Int,x.al+R1=z:=⟨_,rfl⟩
   obtain ⟨N2,yL⟩:∃z:Int,N1+R2=z:=⟨_,rfl⟩
   obtain ⟨N3,Br⟩:∃z:Int,x.jx*16=z:=⟨_,rfl⟩
   obtain ⟨N4,rJ⟩:∃z:Int,N2+N3=z:=⟨_,rfl⟩
   obtain ⟨J1,DZ⟩:=ai (P++FF++ [b8 N4]);obtain ⟨J,hJ⟩:=ai (J1++P4);have Dq:J=HH++(ay.take (k+1)).flatMap dS:=by
    rw [hO,←hJ,←DZ,HP.o_];unfold dS;simp only [kI,mO,ud,rE,ue,yL,Br,rJ];simp
   have vG:=Lr.o_ (k+1) (by omega) J Dq;have SV:J1.length+P4.length≤140000000:=by rw [←List.length_append,hJ];exact vG
   have M4:P.length+FF.length+1=J1.length:=by rw [←DZ];simp only [List.length_append,List.length_cons,List.length_nil]
   have q0:=nM.b.q0;have q1:=nM.b.q1;have h0:=nM.b.h0;have h1:=nM.b.h1;have nX:IntKind.i64.wrap (x.al+R1)=N1:=by rw [IntKind.wrap_i64];omega
   have wk:IntKind.i64.wrap (N1+R2)=N2:=by rw [IntKind.wrap_i64];omega
   have pJ:IntKind.i64.wrap (16*x.jx)=N3:=by rw [IntKind.wrap_i64];omega
   have Ls:IntKind.i64.wrap (N2+N3)=N4:=by rw [IntKind.wrap_i64];omega
   have HW:=ab (And.intro nX (And.intro wk (And.intro pJ Ls)));have tK:=ab kI;have D3:=ab nM;have mo:=ab ud;have yM:=ab rE;have zN:=ab mO;have HJ:=ab hJ;have FI:=ab DZ;have Qz:=ab Dq;have abf:=ab SV;have an8:=ab M4;clear r_ bJ hO nM hx kI mO ud rE Qx Qy ue yL Br rJ hJ DZ Dq vG SV M4 nX wk pJ Ls;go_upto_region 9 with (first
    |(refine ie (o:=⟨some 108,.load 64 (.tmp 107),_,_,_,_⟩) (by rfl) 64 (.tmp 107) (by rfl) (g) (k*6) (by rfl) ((bB x)) _ (HC.o_) (underlying64) (by rfl) (by kernel_rfl) ?_))
   have iL:=heap_alloc_new wo (Obj.cells (bB x) 64);have cx:=(Below.refl wo wo).alloc (Nat.le_refl _) (Obj.cells (bB x) 64);generalize wo.alloc (Obj.cells (bB x) 64)=w9 at iL cx⊢;obtain ⟨T,dN⟩:=ai wo.heap.size;rw [dN] at iL⊢;have c0:=af w9 T 0 _ _ _ iL;have qW:=ab iL;have SY:Hid (LB w w9 (.slice ba P.length bc) P):=ab ⟨aK gi.o_.own cx,aD gi.o_.low cx gi.o_.low.size⟩;clear iL cx dN c4;go_upto_region 10 with (first
    |(go_at_call 63;go_must (refine yY x.filter FF 0 tK.o_ _ (by have:=D3.o_.l2;omega) _ ?_);intro xa xc eo Ad nN;have Dr:=ab (cp Ad);have SZ:Hid (LB w eo (.slice ba P.length bc) P):=ab ⟨aK SY.o_.own nN,aD SY.o_.low nN SY.o_.low.size⟩;have tU:=ab (aA qW.o_ nN);clear Ad nN c0))
   have c0:=af eo T 0 _ _ _ tU.o_;have c1:=af eo T 1 _ _ _ tU.o_;have c4:=af eo T 4 _ _ _ tU.o_;have c5:=af eo T 5 _ _ _ tU.o_;have f1:(1:Int)≤(x.filter.length:Int):=by have:=D3.o_.l1;omega
   have f2:(x.filter.length:Int)≤64:=by have:=D3.o_.l2;omega
   have i0:=D3.o_.i0;have i1:=D3.o_.i1;go_upto_region 11 with fail
   clear c0 c1 c4 c5 f1 f2 i0 i1;go_cut [4] from 162 to 181 (fun s4 wx=>∃(ad:Option Addr)(c:Nat),s4= .slice ad J1.length c∧Hid (LB w wx (.slice ad J1.length c) J1)∧Hid (wx.heap[T]? =some (Obj.cells (bB x) 64)))
   case first=>
    have NT:=ab (aA tU.o_ (Below.refl eo eo).drew);have k0:=Bz NT.o_;have uz:Hid (LB w eo.drew (.slice ba P.length bc) P):=ab ⟨SZ.o_.own.drew,SZ.o_.low.drew⟩;have MV:=ab (Dr.o_.below (Below.refl eo eo).drew);have ns:Hid True:=trivial;have fV:Hid True:=trivial;have M4:=an8.o_;have SV:=abf.o_;obtain ⟨nX,wk,pJ,Ls⟩:=HW.o_;go_region_held3 (fun z=>z.cell? ⟨T,1,none⟩=some (.int .i64 x.al)∧z.cell? ⟨T,2,none⟩=some (.bool x.lE)∧z.cell? ⟨T,3,none⟩=some (.bool x.lF)∧z.cell? ⟨T,4,none⟩=some (.int .i64 x.jx)∧z.cell? ⟨T,5,none⟩=some (.int .i64 x.id))
     (first|with_reducible exact k0|with_reducible exact vK|with_reducible exact Je|with_reducible exact Av|go_keep)
     (first
      |((have hq:=ns;refine gx ?_ (.tmp 162) (.tmp 163) 22 ?_ w 5 (.int .u8 0) 1 1 underlying22 Tryz.cJ rfl ?_ ba P.length bc (bv P) ?_ ?_ xa FF.length xc (bv FF) ?_ ?_ ?_ ?_ ?_ ?_ ?_ ?_;rfl;rfl;decide;rfl;exact uz.o_.own;rfl;exact MV.o_.parts.2.1;exact (eX _);exact MV.o_.parts.2.2.2.2;unfold maxLen;omega;omega;exact uz.o_.low.size;intro rm nO lQ lR iG _;have jl:=ab (bC uz.o_.low iG uz.o_.low.size uz.o_.own);have mW:=ab lR;have vJ:=ab iG;clear hq ns lR iG);have uA:=ab (eG vJ.o_ NT.o_ (dU NT.o_ uz.o_.own (by decide)));have vK:=Bz uA.o_;have uy:=ab (mW.o_.alloc (Obj.cells #[.int .u8 (IntKind.u8.wrap N4)] 5));have vP:=ab (jl.o_.alloc jl.o_.size (Obj.cells #[.int .u8 (IntKind.u8.wrap N4)] 5));have Jd:=ab (cO lQ #[.int .u8 (IntKind.u8.wrap N4)] 5 1 1 rfl);have B2:=ab (aA uA.o_ ((Below.refl lQ lQ).alloc (Nat.le_refl _) (Obj.cells #[.int .u8 (IntKind.u8.wrap N4)] 5)));have Je:=Bz B2.o_)
      |(go_at_call_of 65 (Value.int .i64 4);refine SL x.lE 4 R1 mo.o_ _ _ ?_)
      |(go_at_call_of 65 (Value.int .i64 8);refine SL x.lF 8 R2 yM.o_ _ _ ?_)
      |((have hq:=fV;refine gx ?_ (.tmp 164) (.tmp 180) 22 ?_ w 5 (.int .u8 0) 1 1 underlying22 Tryz.cJ rfl ?_ rm (P.length+FF.length) nO (bv P++bv FF) ?_ ?_ (some ⟨lQ,0,none⟩) 1 1 [.int .u8 (IntKind.u8.wrap N4)] ?_ ?_ ?_ ?_ ?_ ?_ ?_ ?_;rfl;rfl;decide;rfl;exact uy.o_;rfl;exact Jd.o_;exact (nQ _ _);exact (fun h=>by cases h);unfold maxLen;omega;omega;exact vP.o_.size;intro vN vO Ah lS jt _;have qF:=ab (bC vP.o_ jt vP.o_.size uy.o_);have tm:=ab lS;have uj:=ab jt;clear hq fV lS jt);have uB:=ab (eG uj.o_ B2.o_ (dU B2.o_ uy.o_ (by decide)));have Av:=Bz uB.o_))
    all_goals
     go_wp2_with fail;go_meet;have ho:=tm.o_;have hb:bv P++bv FF++ [.int .u8 (IntKind.u8.wrap N4)]=bv J1:=by
      rw [←FI.o_,wu];simp only [oK]
      rfl
     rw [M4,hb] at ho;exact ⟨vN,vO,rfl,ab ⟨ho,qF.o_⟩,uB⟩
   clear SZ;obtain ⟨abg,abh,rfl,Hq,an9⟩:=hcut;obtain ⟨dR,rfl⟩:∃x,x=wc:=⟨_,rfl⟩
   have c5:=af dR T 5 _ _ _ an9.o_;have i0:=D3.o_.i0;have i1:=D3.o_.i1;have yA:Hid True:=trivial;go_wp2_with (first
    |(go_at_call 64;go_must (refine aa2 x.id (by omega) (by omega) 4 (by decide) (by decide) P4 zN.o_ _ _ ?_);intro da dc fP mT iN;have pK:=ab (cp mT);have gT:Hid (LB w fP (.slice abg J1.length abh) J1):=ab ⟨aK Hq.o_.own iN,aD Hq.o_.low iN Hq.o_.low.size⟩;have aoa:=abf.o_;clear mT iN c5)
    |(have hq:=yA;at_builtin;go_must (refine gj (by rfl) (.tmp 182) (.tmp 186) 22 (by rfl) w 5 (.int .u8 0) 1 1 underlying22 Tryz.cJ rfl (by decide) abg J1.length abh _ (by rfl) gT.o_.own da P4.length dc _ (by rfl) pK.o_.parts.2.1 (eX _) pK.o_.parts.2.2.2.2 (by unfold maxLen;omega) (by omega) gT.o_.low.size ?_);intro Jf jP Bj B3 rN _;have Jg:=ab (bC gT.o_.low rN gT.o_.low.size gT.o_.own);have Jh:=ab B3;clear hq yA B3 rN))
   have cw:=LB.list Jh.o_ Jg.o_;rw [HJ.o_] at cw;have aob:J1.length+P4.length=J.length:=by rw [←HJ.o_,List.length_append]
   have SO:b9≤8:=by rw [←BA.o_];exact HS.o_.sn
   have pF:Value.int .i64 (wrap64 ((k:Int)+1))= .int .i64 ((k+1:Nat):Int):=by
    have:wrap64 ((k:Int)+1)=(k:Int)+1:=by unfold wrap64;omega
    rw [this];simp
   clear aoa;go_roundg (b9 - (k+1))
   case measure=>omega
   case rel=>exact ⟨k+1,J,Jf,jP,by omega,rfl,by rw [aob],rfl,(by first|exact pF|(push_cast;rfl)),Qz,ab cw⟩
  ·have iC:k=b9:=by omega
   have bd:¬(k:Int)<(b9:Int):=by omega
   have yH:Hid (P=HH++ay.flatMap dS):=by
    show _=_;rw [HP.o_,List.take_of_length_le (by have:=BA.o_;omega)]
   clear iC HP;obtain ⟨uf,Ae,xt,Ds⟩:=HX.o_.hq;obtain ⟨nq,ug⟩:=ai queue.length;simp only at Ae xt Ds;rw [ug] at xt;obtain ⟨qa,qc,C8⟩:=xt.shape;subst C8;have Hr:uf.length=nq:=by rw [←ug,←Ae];simp
   have Hs:=ab xt;have Ht:=ab Ds;have Hu:=ab Ae;have rW:=ab ug;have Dt:=ab Hr;have abi:Hid (∀x∈queue,xA x):=ab HS.o_.qk;have Du:P.length+1≤140000000:=by
    exact Xy
   have c5:=af wo S 5 _ _ _ (aA pI.o_ gi.o_.low);clear Ae xt Ds ug Hr Lq Lr;go_upto_region 15 with (first
    |((at_builtin;go_must (refine gj (by rfl) (.tmp 188) (.tmp 195) 22 (by rfl) w 5 (.int .u8 0) 1 1 underlying22 Tryz.cJ rfl (by decide) ba P.length bc _ (by rfl) (gi.o_.own.alloc (Obj.cells #[Value.int .u8 (IntKind.u8.wrap ((nq:Int)))] 5)) (some ⟨wo,0,none⟩) 1 1 [Value.int .u8 (IntKind.u8.wrap ((nq:Int)))] (by rfl) (cO wo #[Value.int .u8 (IntKind.u8.wrap ((nq:Int)))] 5 1 1 rfl) (nQ _ _) (fun h=>by cases h) (by unfold maxLen;omega) (by omega) (Nat.le_trans gi.o_.low.size (by simp)) ?_);intro eC c9 w9 cI bo _;have cx:=bC (gi.o_.low.alloc gi.o_.low.size (Obj.cells #[Value.int .u8 (IntKind.u8.wrap ((nq:Int)))] 5)) bo (Nat.le_trans gi.o_.low.size (by simp)) (gi.o_.own.alloc (Obj.cells #[Value.int .u8 (IntKind.u8.wrap ((nq:Int)))] 5));have iK:=ab (LB.byte cI cx);clear cI bo cx)))
   have Lt:=ab (fun (k:Nat)(P2:List UInt8) (vE:P2=HH++ay.flatMap dS++ [b8 (nq:Int)]++(queue.take k).flatMap eW)=>(by
    have h1:=congrArg List.length vE;have h2:=Bx eW queue k;have h3:=vv.o_;have h4:=mC.o_;simp only [List.length_append,List.length_cons,List.length_nil] at h1
    omega:P2.length+2≤140000000))
   clear c4 c5 Du;go_loopg [4,6,11,12,13,14,15] nq (fun gn b ok i _ _ _ _ wr=>∃(k:Nat)(P2:List UInt8)(qX:Option Addr)(qY:Nat),k≤nq∧gn=nq - k∧b= .slice qX P2.length qY∧ok= .bool true∧i= .int .i64 k∧Hid (P2=HH++ay.flatMap dS++ [b8 (nq:Int)]++(queue.take k).flatMap eW)∧Hid (LB w wr (.slice qX P2.length qY) P2))
   case atStart=>exact ⟨0,P++ [b8 (nq:Int)],eC,c9,Nat.zero_le _,by omega,by rw [List.length_append];rfl,rfl,rfl,ab (by rw [yH.o_];simp),iK⟩
   case round=>
    obtain ⟨k2,P2,qX,qY,fA,rfl,rfl,rfl,rfl,nh,jK⟩:=hrel;obtain ⟨wq,rfl⟩:∃x,x=wr:=⟨_,rfl⟩
    clear gi iK;have c5:=af wq S 5 _ _ _ (aA pI.o_ jK.o_.low);by_cases ij:k2<nq
    ·
     have Gr:(k2:Int)<(nq:Int):=by omega
     have dM:k2<uf.length:=by have:=Dt.o_;omega
     have mF:k2<queue.length:=by have:=rW.o_;omega
     obtain ⟨g,o,kK,aW,_⟩:=(Hs.o_.below jK.o_.low).at (by omega);subst kK;have oq:queue[k2]=(uf[k2]).2:=by
      have h2:=congrArg (fun l=>l[k2]?) Hu.o_;exact GK
     have aS:=Ht.o_ _ (List.getElem_mem dM);have bJ:∀j,j<14→wq.cell? ⟨g,o+k2*14+j,none⟩=(cL uf[k2])[j]?:=fun j hj=>by
      have:=Dt.o_;rw [Nat.add_assoc,aW (k2*14+j) (by omega),jQ 14 cL my uf k2 j dM hj]
     have hO:=By eW queue k2 mF;have lH:=abi.o_ _ (List.getElem_mem mF);obtain ⟨⟨⟨v1,v2,v3⟩,x⟩,hp⟩:∃p,uf[k2]=p:=⟨_,rfl⟩
     rw [hp] at oq aS bJ;rw [oq] at hO lH;simp only at hO lH;obtain ⟨⟨lj,lk,e1⟩,⟨ll,ln,e2⟩,lq,lr,e3⟩:=aS.1.o_.shape;simp only at e1 e2 e3;subst e1 e2 e3;have HC:Hid (∀j,j< (aG x lj lk ll ln lq lr:List Value).length→wq.cell? ⟨g,o+k2*14+j,none⟩= (aG x lj lk ll ln lq lr:List Value)[j]?):=bJ;obtain ⟨IY,oD⟩:=ai (jf x);obtain ⟨⟨DI,de⟩,mU⟩:∃q,cS IY=q:=⟨_,rfl⟩
     have Ji:IY.length≤65535:=by rw [←oD];exact lH.l
     obtain rfl:de=0:=by
      unfold cS at mU;rw [if_neg (by omega)] at mU;exact (Prod.mk.inj mU).2.symm
     have lP:P2++DI=HH++ay.flatMap dS++ [b8 (nq:Int)]++(queue.take (k2+1)).flatMap eW:=by
      rw [hO,nh.o_];unfold eW;simp only [oD,mU];simp
     have mu:=Lt.o_ (k2+1) _ lP;rw [List.length_append] at mu;have xu:=ab lP;have fU:=ab mu;have Dv:=ab oD;have Dw:=ab mU;have th:=ab lH;have S0:=ab Ji;have Dx:=ab (aS.1.o_.below jK.o_.low);have gJ:Hid True:=trivial;clear aW oq aS bJ hp hO lH oD mU lP mu Ji;go_wp2_with (first
      |(refine ie (o:=⟨some 213,.load 36 (.tmp 212),_,_,_,_⟩) (by rfl) 36 (.tmp 212) (by rfl) (g) (o+k2*14) (by rfl) ((aG x lj lk ll ln lq lr)) _ (HC.o_) (underlying36) (by rfl) (by kernel_rfl) ?_)
      |(go_at_call 66;go_must (refine aa3 x th.o_.k _ _ _ _ Dx.o_ (HT.o_.below jK.o_.low) IY Dv.o_ (Nat.le_trans S0.o_ (by decide)) _ ?_);intro ya yc dR BD gS;have Af:=ab (cp BD);have sV:Hid (LB w dR (.slice qX P2.length qY) P2):=ab ⟨aK jK.o_.own gS,aD jK.o_.low gS jK.o_.low.size⟩;clear BD gS c5)
      |(go_at_call 67;go_must (refine FH _ IY DI 0 Dw.o_ _ Af.o_ _ ?_);intro da dc fP mT iN;have pK:=ab (cp mT);have gT:Hid (LB w fP (.slice qX P2.length qY) P2):=ab ⟨aK sV.o_.own iN,aD sV.o_.low iN sV.o_.low.size⟩;have FA:=fU.o_;clear mT iN)
      |(have hq:=gJ;at_builtin;go_must (refine gj (by rfl) (.tmp 230) (.tmp 231) 22 (by rfl) w 5 (.int .u8 0) 1 1 underlying22 Tryz.cJ rfl (by decide) qX P2.length qY _ (by rfl) gT.o_.own da DI.length dc _ (by rfl) pK.o_.parts.2.1 (eX _) pK.o_.parts.2.2.2.2 (by unfold maxLen;omega) (by omega) gT.o_.low.size ?_);intro Jf jP Bj B3 rN _;have Jg:=ab (bC gT.o_.low rN gT.o_.low.size gT.o_.own);have Jh:=ab B3;clear hq gJ B3 rN))
     have cw:=LB.list Jh.o_ Jg.o_;have KK:nq≤8:=by rw [←rW.o_];exact HS.o_.inv.qn
     have pF:Value.int .i64 (wrap64 ((k2:Int)+1))= .int .i64 ((k2+1:Nat):Int):=by
      have:wrap64 ((k2:Int)+1)=(k2:Int)+1:=by unfold wrap64;omega
      rw [this];simp
     clear FA;go_roundg (nq - (k2+1))
     case measure=>omega
     case rel=>exact ⟨k2+1,P2++DI,Jf,jP,by omega,rfl,by rw [List.length_append],rfl,(by first|exact pF|(push_cast;rfl)),xu,ab cw⟩
    ·have QA:k2=nq:=by omega
     have Gr:¬(k2:Int)<(nq:Int):=by omega
     have Hv:Hid (P2=HH++ay.flatMap dS++ [b8 (nq:Int)]++queue.flatMap eW):=by
      show _=_;rw [nh.o_,List.take_of_length_le (by have:=rW.o_;omega)]
     clear QA nh;obtain ⟨fQ,jG,fx,kL⟩:=HX.o_.hf;obtain ⟨nf,mn⟩:=ai aj.length;simp only at jG fx kL;rw [mn] at fx;obtain ⟨fa,fc,mD⟩:=bF fx;subst mD;have xm:fQ.length=nf:=by rw [←mn,←jG];simp
     have tX:=ab fx;have Hw:=ab kL;have od:=ab jG;have oy:=ab mn;have sY:=ab xm;have abj:Hid (∀f∈aj,xA f.item):=ab (fun f hf=>(HS.o_.fk f hf).1);have Du:P2.length+1≤140000000:=by
      have h1:=congrArg List.length Hv.o_;exact KZ
     have c6:=af wq S 6 _ _ _ (aA pI.o_ jK.o_.low);clear jG fx kL mn xm Hs Ht Hu Dt abi Lt;go_upto_region 23 with (first
      |((at_builtin;go_must (refine gj (by rfl) (.tmp 233) (.tmp 240) 22 (by rfl) w 5 (.int .u8 0) 1 1 underlying22 Tryz.cJ rfl (by decide) qX P2.length qY _ (by rfl) (jK.o_.own.alloc (Obj.cells #[Value.int .u8 (IntKind.u8.wrap ((nf:Int)))] 5)) (some ⟨wq,0,none⟩) 1 1 [Value.int .u8 (IntKind.u8.wrap ((nf:Int)))] (by rfl) (cO wq #[Value.int .u8 (IntKind.u8.wrap ((nf:Int)))] 5 1 1 rfl) (nQ _ _) (fun h=>by cases h) (by unfold maxLen;omega) (by omega) (Nat.le_trans jK.o_.low.size (by simp)) ?_);intro eC c9 w9 cI bo _;have cx:=bC (jK.o_.low.alloc jK.o_.low.size (Obj.cells #[Value.int .u8 (IntKind.u8.wrap ((nf:Int)))] 5)) bo (Nat.le_trans jK.o_.low.size (by simp)) (jK.o_.own.alloc (Obj.cells #[Value.int .u8 (IntKind.u8.wrap ((nf:Int)))] 5));have iK:=ab (LB.byte cI cx);clear cI bo cx)))
     have Lu:=ab (fun (k:Nat)(P3:List UInt8) (QC:P3=HH++ay.flatMap dS++ [b8 (nq:Int)]++queue.flatMap eW++ [b8 (nf:Int)]++(aj.take k).flatMap gE)=>(by
      have h1:=congrArg List.length QC;have h2:=Bx gE aj k;have h3:=vv.o_;have h4:=mC.o_;simp only [List.length_append,List.length_cons,List.length_nil] at h1
      omega:P3.length+1≤140000000))
     clear c5 c6 Du;go_loopg [4,6,16,17,18,19,20,21] nf (fun gn b ok i _ _ _ _ _ wr=>∃(k:Nat)(P3:List UInt8)(pL:Option Addr)(pM:Nat),k≤nf∧gn=nf - k∧b= .slice pL P3.length pM∧ok= .bool true∧i= .int .i64 k∧Hid (P3=HH++ay.flatMap dS++ [b8 (nq:Int)]++queue.flatMap eW++ [b8 (nf:Int)]++(aj.take k).flatMap gE)∧Hid (LB w wr (.slice pL P3.length pM) P3))
     case atStart=>exact ⟨0,P2++ [b8 (nf:Int)],eC,c9,Nat.zero_le _,by omega,by rw [List.length_append];rfl,rfl,rfl,ab (by rw [Hv.o_];simp),iK⟩
     case round=>
      obtain ⟨k3,P3,pL,pM,js,rfl,rfl,rfl,rfl,u_,kO⟩:=hrel;obtain ⟨wf,rfl⟩:∃x,x=wr:=⟨_,rfl⟩
      clear jK iK;have c6:=af wf S 6 _ _ _ (aA pI.o_ kO.o_.low);by_cases Dy:k3<nf
      ·
       have QD:(k3:Int)<(nf:Int):=by omega
       have dM:k3<fQ.length:=by have:=sY.o_;omega
       have yI:k3<aj.length:=by have:=oy.o_;omega
       have r_:=aK tX.o_ kO.o_.low;obtain ⟨g,rfl⟩:=et r_ (by omega);have lx:aj[k3]=(fQ[k3]).2:=by
        have h2:=congrArg (fun l=>l[k3]?) od.o_;exact K0
       have aS:=Hw.o_ _ (List.getElem_mem dM);have bJ:∀j,j<16→wf.cell? ⟨g,k3*16+j,none⟩=(bH fQ[k3])[j]?:=fun j hj=>by
        have:=sY.o_;rw [r_.cellAt (k3*16+j) (by omega),jQ 16 bH iY fQ k3 j dM hj]
       have hO:=By gE aj k3 yI;have uh:=abj.o_ _ (List.getElem_mem yI);obtain ⟨⟨⟨v1,v2,v3⟩,f⟩,hp⟩:∃p,fQ[k3]=p:=⟨_,rfl⟩
       rw [hp] at lx aS bJ;rw [lx] at hO uh;simp only at hO uh aS;obtain ⟨⟨pa,pc,e1⟩,⟨oE,oF,e2⟩,ea,ec,e3⟩:=aS.1.o_.shape;simp only at e1 e2 e3;subst e1 e2 e3;have HC:Hid (∀j,j< (cD f.id f.state f.item pa pc oE oF ea ec:List Value).length→wf.cell? ⟨g,k3*16+j,none⟩= (cD f.id f.state f.item pa pc oE oF ea ec:List Value)[j]?):=bJ;obtain ⟨mV,Dz⟩:=ai (aR (bj f.id) 2);obtain ⟨IY,oD⟩:=ai (jf f.item);obtain ⟨⟨DI,de⟩,mU⟩:∃q,cS IY=q:=⟨_,rfl⟩
       have Ji:IY.length≤65535:=by rw [←oD];exact uh.l
       obtain rfl:de=0:=by
        unfold cS at mU;rw [if_neg (by omega)] at mU;exact (Prod.mk.inj mU).2.symm
       obtain ⟨J2,BE⟩:=ai (P3++mV++ [b8 f.state]++DI);have lP:J2=HH++ay.flatMap dS++ [b8 (nq:Int)]++queue.flatMap eW++ [b8 (nf:Int)]++(aj.take (k3+1)).flatMap gE:=by
        rw [hO,←BE,u_.o_];unfold gE;simp only [oD,mU,Dz];simp
       have mu:=Lu.o_ (k3+1) _ lP;have vG:P3.length+mV.length+1+DI.length=J2.length:=by rw [←BE];simp only [List.length_append,List.length_cons,List.length_nil]
       have xu:=ab lP;have fU:=ab mu;have lY:=ab vG;have Dv:=ab oD;have Dw:=ab mU;have QE:=ab BE;have Lv:=ab Dz;have th:=ab uh;have S0:=ab Ji;have Dx:=ab (aS.1.o_.below kO.o_.low);clear r_ lx aS bJ hp hO uh Dz oD mU BE lP mu Ji vG;go_upto_region 26 with (first
        |(refine ie (o:=⟨some 257,.load 51 (.tmp 256),_,_,_,_⟩) (by rfl) 51 (.tmp 256) (by rfl) (g) (k3*16) (by rfl) ((cD f.id f.state f.item pa pc oE oF ea ec)) _ (HC.o_) (underlying51) (by rfl) (by kernel_rfl) ?_))
       have gS:=(Below.refl wf wf).alloc (Nat.le_refl _) (Obj.cells (cD f.id f.state f.item pa pc oE oF ea ec) 51);have sZ:=heap_alloc_new wf (Obj.cells (cD f.id f.state f.item pa pc oE oF ea ec) 51);generalize wf.alloc (Obj.cells (cD f.id f.state f.item pa pc oE oF ea ec) 51)=eo at gS sZ⊢;obtain ⟨T,dN⟩:=ai wf.heap.size;rw [dN] at sZ⊢;have jJ:Hid (LB w eo (.slice pL P3.length pM) P3):=ab ⟨aK kO.o_.own gS,aD kO.o_.low gS kO.o_.low.size⟩;have Ru:=ab (Dx.o_.below gS);have aoc:=ab sZ;have Aa:Hid (∀j,j<14→eo.cell? ⟨T,2+j,none⟩= (aG f.item pa pc oE oF ea ec:List Value)[j]?):=ab (fun j hj=>by
        rw [af _ T (2+j) _ _ _ sZ]
        match j,hj with
        |0,_|1,_|2,_|3,_|4,_|5,_|6,_|7,_|8,_|9,_|10,_|11,_|12,_|13,_=>rfl)
       clear gS sZ dN c6;go_upto_region 29 with (first
        |(refine ie (o:=⟨some 260,.load 36 (.tmp 259),_,_,_,_⟩) (by rfl) 36 (.tmp 259) (by rfl) (T) (2) (by rfl) ((aG f.item pa pc oE oF ea ec)) _ (Aa.o_) (underlying36) (by rfl) (by kernel_rfl) ?_)
        |(go_at_call 66;go_must (refine aa3 f.item th.o_.k _ _ _ _ Ru.o_ (HT.o_.below jJ.o_.low) IY Dv.o_ (Nat.le_trans S0.o_ (by decide)) _ ?_);intro ya yc dR BD gS;have Af:=ab (cp BD);have sV:Hid (LB w dR (.slice pL P3.length pM) P3):=ab ⟨aK jJ.o_.own gS,aD jJ.o_.low gS jJ.o_.low.size⟩;have Lw:=ab (aA aoc.o_ gS);clear BD gS)
        |(go_at_call 67;go_must (refine FH _ IY DI 0 Dw.o_ _ Af.o_ _ ?_);intro da dc fP mT iN;have pK:=ab (cp mT);have gT:Hid (LB w fP (.slice pL P3.length pM) P3):=ab ⟨aK sV.o_.own iN,aD sV.o_.low iN sV.o_.low.size⟩;have aod:=ab (aA Lw.o_ iN);have aoe:=ab mT;have abk:=ab iN.size;have ft:Hid (∀k,(Value.slice pL P3.length pM).ownBlock=some k→k<dR.heap.size):=ab (fun k hk=>(sV.o_.own.lt k hk).2);clear mT iN))
       have NT:=ab (aA aod.o_ (Below.refl fP fP).drew);have k0:=ji NT.o_;have uz:Hid (LB w fP.drew (.slice pL P3.length pM) P3):=ab ⟨gT.o_.own.drew,gT.o_.low.drew⟩;have yE:=ab aoe.o_.drew;have ns:Hid True:=trivial;have fV:Hid True:=trivial;have gJ:Hid True:=trivial;have lM:Hid True:=trivial;have vG:=lY.o_;have mu:=fU.o_;have c0:=And.intro k0.1 k0.2.1;clear k0;have pQ:Hid (Below w w (fP.alloc (Obj.cells #[.int .u8 (IntKind.u8.wrap f.state)] 5)).drew):=ab (uz.o_.low.alloc uz.o_.low.size (Obj.cells #[.int .u8 (IntKind.u8.wrap f.state)] 5));have qK:Hid ((fP.alloc (Obj.cells #[.int .u8 (IntKind.u8.wrap f.state)] 5)).drew.ownsRow w 5 1 (.slice pL P3.length pM) P3.length (bv P3)):=ab (uz.o_.own.alloc (Obj.cells #[.int .u8 (IntKind.u8.wrap f.state)] 5));have aof:Hid ((fP.alloc (Obj.cells #[.int .u8 (IntKind.u8.wrap f.state)] 5)).drew.ownsRow dR 5 1 (.slice da DI.length dc) DI.length (bv DI)):=ab (yE.o_.alloc (Obj.cells #[.int .u8 (IntKind.u8.wrap f.state)] 5));have S1:Hid ((fP.alloc (Obj.cells #[.int .u8 (IntKind.u8.wrap f.state)] 5)).drew.heap[T]? =_):=ab (aA NT.o_ ((Below.refl fP.drew.heap.size fP.drew).alloc (Nat.le_refl _) (Obj.cells #[.int .u8 (IntKind.u8.wrap f.state)] 5)));have aog:Hid ((fP.alloc (Obj.cells #[.int .u8 (IntKind.u8.wrap f.state)] 5)).drew.ownsRow dR 5 1 (.slice (some ⟨fP,0,none⟩) 1 1) 1 (bv [b8 f.state])):=ab (Cm fP.drew f.state (abk.o_));have cC:=And.intro (ji S1.o_).1 (ji S1.o_).2.1;go_region_held3 (fun z=>z.cell? ⟨T,0,none⟩=some (.int .i64 f.id)∧z.cell? ⟨T,1,none⟩=some (.int .i64 f.state))
        (first|with_reducible exact c0|with_reducible exact cC|with_reducible exact kA|with_reducible exact kB|with_reducible exact vK|with_reducible exact Je|with_reducible exact Av|with_reducible exact SQ|go_keep)
        (first
         |(have hq:=ns;go_at_call 64;refine Au f.id 2 (by decide) (by decide) mV Lv.o_ _ _ ?_;intro xa xc wA BY cF;clear hq ns;have sj:=ab (aK uz.o_.own cF);have cb:=ab (aD uz.o_.low cF uz.o_.low.size);have xK:=ab (cp BY);have D4:=ab (aK yE.o_ cF);have NA:=ab (aA NT.o_ cF);have kA:=And.intro (ji NA.o_).1 (ji NA.o_).2.1;have DL:=ab (Nat.le_trans abk.o_ cF.size);have cK:=ab (cb.o_.alloc cb.o_.size (Obj.cells #[.int .u8 (IntKind.u8.wrap f.state)] 5));have C9:=ab (sj.o_.alloc (Obj.cells #[.int .u8 (IntKind.u8.wrap f.state)] 5));have abl:=ab (D4.o_.alloc (Obj.cells #[.int .u8 (IntKind.u8.wrap f.state)] 5));have M_:=ab (aA NA.o_ ((Below.refl wA wA).alloc (Nat.le_refl _) (Obj.cells #[.int .u8 (IntKind.u8.wrap f.state)] 5)));have kB:=And.intro (ji M_.o_).1 (ji M_.o_).2.1;have abm:=ab (xK.o_.below ((Below.refl wA wA).alloc (Nat.le_refl _) (Obj.cells #[.int .u8 (IntKind.u8.wrap f.state)] 5)));have aoh:=ab (Cm wA f.state DL.o_))
         |(have hq:=ns;go_at_call 64;refine Au f.id 2 (by decide) (by decide) mV Lv.o_ _ _ ?_;intro xa xc wA BY cF;clear hq ns;have sj:=ab (aK qK.o_ cF);have cb:=ab (aD pQ.o_ cF pQ.o_.size);have xK:=ab (cp BY);have D4:=ab (aK aof.o_ cF);have NA:=ab (aA S1.o_ cF);have kA:=And.intro (ji NA.o_).1 (ji NA.o_).2.1;have S2:=ab (aK aog.o_ cF))
         |((have hq:=fV;refine gx ?_ (.tmp 277) (.tmp 281) 22 ?_ w 5 (.int .u8 0) 1 1 underlying22 Tryz.cJ rfl ?_ pL P3.length pM (bv P3) ?_ ?_ xa mV.length xc (bv mV) ?_ ?_ ?_ ?_ ?_ ?_ ?_ ?_;rfl;rfl;decide;rfl;exact sj.o_;rfl;exact xK.o_.parts.2.1;exact (eX _);exact xK.o_.parts.2.2.2.2;unfold maxLen;omega;omega;exact cb.o_.size;intro rm nO lQ lR iG S3;have jl:=ab (bC cb.o_ iG cb.o_.size sj.o_);have mW:=ab lR;have vJ:=ab iG;clear hq fV lR iG);have uA:=ab (eG vJ.o_ NA.o_ (dU NA.o_ sj.o_ (by decide)));have vK:=And.intro (ji uA.o_).1 (ji uA.o_).2.1;have Na:=ab (MY D4.o_ vJ.o_ ft.o_);have Nb:=ab (abb ft.o_ S3);have uy:=ab (mW.o_.alloc (Obj.cells #[.int .u8 (IntKind.u8.wrap f.state)] 5));have vP:=ab (jl.o_.alloc jl.o_.size (Obj.cells #[.int .u8 (IntKind.u8.wrap f.state)] 5));have aoi:=ab (Na.o_.alloc (Obj.cells #[.int .u8 (IntKind.u8.wrap f.state)] 5));have aoj:=ab (cp (Cm (B:=0) lQ f.state (Nat.zero_le _)));have B2:=ab (aA uA.o_ ((Below.refl lQ lQ).alloc (Nat.le_refl _) (Obj.cells #[.int .u8 (IntKind.u8.wrap f.state)] 5)));have Je:=And.intro (ji B2.o_).1 (ji B2.o_).2.1)
         |((have hq:=fV;refine gx ?_ (.tmp 277) (.tmp 281) 22 ?_ w 5 (.int .u8 0) 1 1 underlying22 Tryz.cJ rfl ?_ pL P3.length pM (bv P3) ?_ ?_ xa mV.length xc (bv mV) ?_ ?_ ?_ ?_ ?_ ?_ ?_ ?_;rfl;rfl;decide;rfl;exact C9.o_;rfl;exact abm.o_.parts.2.1;exact (eX _);exact abm.o_.parts.2.2.2.2;unfold maxLen;omega;omega;exact cK.o_.size;intro rm nO lQ lR iG S3;have jl:=ab (bC cK.o_ iG cK.o_.size C9.o_);have mW:=ab lR;have vJ:=ab iG;clear hq fV lR iG);have uA:=ab (eG vJ.o_ M_.o_ (dU M_.o_ C9.o_ (by decide)));have vK:=And.intro (ji uA.o_).1 (ji uA.o_).2.1;have D4:=abl;have Na:=ab (MY abl.o_ vJ.o_ ft.o_);have Nb:=ab (abb ft.o_ S3);have S2:=aoh)
         |((have hq:=gJ;refine gx ?_ (.tmp 282) (.tmp 286) 22 ?_ w 5 (.int .u8 0) 1 1 underlying22 Tryz.cJ rfl ?_ rm (P3.length+mV.length) nO (bv P3++bv mV) ?_ ?_ (some ⟨lQ,0,none⟩) 1 1 (bv [b8 f.state]) ?_ ?_ ?_ ?_ ?_ ?_ ?_ ?_;rfl;rfl;decide;rfl;exact uy.o_;rfl;exact aoj.o_.parts.2.1;exact (eX _);exact (fun h=>by cases h);unfold maxLen;omega;omega;exact vP.o_.size;intro vN vO Ah lS jt abn;have qF:=ab (bC vP.o_ jt vP.o_.size uy.o_);have tm:=ab lS;have uj:=ab jt;clear hq gJ lS jt);have uB:=ab (eG uj.o_ B2.o_ (dU B2.o_ uy.o_ (by decide)));have Av:=And.intro (ji uB.o_).1 (ji uB.o_).2.1;have Nc:=ab (cp (SM aoi.o_ D4.o_ uj.o_ Nb.o_)))
         |(have S4:=cp (MY S2.o_ vJ.o_ ft.o_);(have hq:=gJ;refine gx ?_ (.tmp 282) (.tmp 286) 22 ?_ w 5 (.int .u8 0) 1 1 underlying22 Tryz.cJ rfl ?_ rm (P3.length+mV.length) nO (bv P3++bv mV) ?_ ?_ (some ⟨wA,0,none⟩) 1 1 (bv [b8 f.state]) ?_ ?_ ?_ ?_ ?_ ?_ ?_ ?_;rfl;rfl;decide;rfl;exact mW.o_;rfl;exact S4.parts.2.1;exact (eX _);exact (fun h=>by cases h);unfold maxLen;omega;omega;exact jl.o_.size;intro vN vO Ah lS jt abn;have qF:=ab (bC jl.o_ jt jl.o_.size mW.o_);have tm:=ab lS;have uj:=ab jt;clear hq gJ lS jt);have uB:=ab (eG uj.o_ uA.o_ (dU uA.o_ mW.o_ (by decide)));have Av:=And.intro (ji uB.o_).1 (ji uB.o_).2.1;have Nc:=ab (cp (SM Na.o_ D4.o_ uj.o_ Nb.o_)))
         |(have S4:=cp (MY S2.o_ vJ.o_ ft.o_);(have hq:=gJ;refine gx ?_ (.tmp 282) (.tmp 286) 22 ?_ w 5 (.int .u8 0) 1 1 underlying22 Tryz.cJ rfl ?_ rm (P3.length+mV.length) nO (bv P3++bv mV) ?_ ?_ (some ⟨fP,0,none⟩) 1 1 (bv [b8 f.state]) ?_ ?_ ?_ ?_ ?_ ?_ ?_ ?_;rfl;rfl;decide;rfl;exact mW.o_;rfl;exact S4.parts.2.1;exact (eX _);exact (fun h=>by cases h);unfold maxLen;omega;omega;exact jl.o_.size;intro vN vO Ah lS jt abn;have qF:=ab (bC jl.o_ jt jl.o_.size mW.o_);have tm:=ab lS;have uj:=ab jt;clear hq gJ lS jt);have uB:=ab (eG uj.o_ uA.o_ (dU uA.o_ mW.o_ (by decide)));have Av:=And.intro (ji uB.o_).1 (ji uB.o_).2.1;have Nc:=ab (cp (SM Na.o_ D4.o_ uj.o_ Nb.o_)))
         |((have hq:=lM;refine gx ?_ (.tmp 287) (.tmp 288) 22 ?_ w 5 (.int .u8 0) 1 1 underlying22 Tryz.cJ rfl ?_ vN (P3.length+mV.length+1) vO (bv P3++bv mV++bv [b8 f.state]) ?_ ?_ da DI.length dc (bv DI) ?_ ?_ ?_ ?_ ?_ ?_ ?_ ?_;rfl;rfl;decide;rfl;exact tm.o_;rfl;exact Nc.o_.parts.2.1;exact (eX _);exact Nc.o_.parts.2.2.2.2;unfold maxLen;omega;omega;exact qF.o_.size;intro FJ FK LU xM sg arS;have xN:=ab (bC qF.o_ sg qF.o_.size tm.o_);have BZ:=ab xM;have LV:=ab sg;clear hq lM xM sg);have abo:=ab (eG LV.o_ uB.o_ (dU uB.o_ tm.o_ (by decide)));have SQ:=And.intro (ji abo.o_).1 (ji abo.o_).2.1))
       all_goals
        have cw:=BZ.o_;have DJ:bv P3++bv mV++bv [b8 f.state]++bv DI=bv J2:=by
         rw [←QE.o_];simp only [oK]
        rw [DJ,vG] at cw;have abp:nf≤8:=by rw [←oy.o_];exact HS.o_.inv.fn
        have pF:Value.int .i64 (wrap64 ((k3:Int)+1))= .int .i64 ((k3+1:Nat):Int):=by
         have:wrap64 ((k3:Int)+1)=(k3:Int)+1:=by unfold wrap64;omega
         rw [this];simp
        go_wp2_with fail;go_roundg (nf - (k3+1))
        case measure=>omega
        case rel=>exact ⟨k3+1,J2,FJ,FK,by omega,rfl,(by first|rfl|rw [vG]),rfl,(by first|exact pF|(push_cast;rfl)),xu,ab ⟨cw,xN.o_⟩⟩
      ·have QF:k3=nf:=by omega
       have QD:¬(k3:Int)<(nf:Int):=by omega
       have Hx:Hid (P3=HH++ay.flatMap dS++ [b8 (nq:Int)]++queue.flatMap eW++ [b8 (nf:Int)]++aj.flatMap gE):=by
        show _=_;rw [u_.o_,List.take_of_length_le (by have:=oy.o_;omega)]
       clear QF u_;obtain ⟨ng,xv⟩:=ai aH.length;have uZ:=HX.o_.hg;simp only at uZ;rw [xv] at uZ;obtain ⟨ga,gc,Mn⟩:=bF uZ;subst Mn;have df:(bE aH).length=ng:=by rw [tW,xv]
       obtain ⟨gl,qm⟩:=ai (bE aH);rw [qm] at uZ df;have Aw:=ab uZ;have xg:=ab xv;have KY:=ab qm;have sS:=ab df;have QH:P3.length+1≤140000000:=by
        have h1:=congrArg List.length Hx.o_;exact KZ
       have c7:=af wf S 7 _ _ _ (aA pI.o_ kO.o_.low);clear uZ xv qm df tX Hw od sY abj Lu;go_upto_region 32 with (first
        |((at_builtin;go_must (refine gj (by rfl) (.tmp 290) (.tmp 298) 22 (by rfl) w 5 (.int .u8 0) 1 1 underlying22 Tryz.cJ rfl (by decide) pL P3.length pM _ (by rfl) (kO.o_.own.alloc (Obj.cells #[Value.int .u8 (IntKind.u8.wrap ((ng:Int)))] 5)) (some ⟨wf,0,none⟩) 1 1 [Value.int .u8 (IntKind.u8.wrap ((ng:Int)))] (by rfl) (cO wf #[Value.int .u8 (IntKind.u8.wrap ((ng:Int)))] 5 1 1 rfl) (nQ _ _) (fun h=>by cases h) (by unfold maxLen;omega) (by omega) (Nat.le_trans kO.o_.low.size (by simp)) ?_);intro eC c9 w9 cI bo _;have cx:=bC (kO.o_.low.alloc kO.o_.low.size (Obj.cells #[Value.int .u8 (IntKind.u8.wrap ((ng:Int)))] 5)) bo (Nat.le_trans kO.o_.low.size (by simp)) (kO.o_.own.alloc (Obj.cells #[Value.int .u8 (IntKind.u8.wrap ((ng:Int)))] 5));have iK:=ab (LB.byte cI cx);clear cI bo cx)))
       have QI:=ab (fun (k:Nat)(P4:List UInt8) (mO:P4=HH++ay.flatMap dS++ [b8 (nq:Int)]++queue.flatMap eW++ [b8 (nf:Int)]++aj.flatMap gE++ [b8 (ng:Int)]++(gl.take k).flatMap kN)=>(by
        have h1:=congrArg List.length mO;have h2:=Bx kN gl k;have h3:=vv.o_;have h4:=mC.o_;have h5:=KY.o_;rw [h5] at h3;simp only [List.length_append,List.length_cons,List.length_nil] at h1
        omega:P4.length≤140000000))
       clear c6 c7 QH;go_loopg [4,22] ng (fun gn b i wr=>∃(k:Nat)(P4:List UInt8)(vw:Option Addr)(vx:Nat),k≤ng∧gn=ng - k∧b= .slice vw P4.length vx∧i= .int .i64 k∧Hid (P4=HH++ay.flatMap dS++ [b8 (nq:Int)]++queue.flatMap eW++ [b8 (nf:Int)]++aj.flatMap gE++ [b8 (ng:Int)]++(gl.take k).flatMap kN)∧Hid (LB w wr (.slice vw P4.length vx) P4))
       case atStart=>exact ⟨0,P3++ [b8 (ng:Int)],eC,c9,Nat.zero_le _,by omega,by rw [List.length_append];rfl,rfl,ab (by rw [Hx.o_];simp),iK⟩
       case round=>
        obtain ⟨k4,P4,vw,vx,kZ,rfl,rfl,rfl,zN,xh⟩:=hrel;obtain ⟨wg,rfl⟩:∃x,x=wr:=⟨_,rfl⟩
        clear kO iK;have c7:=af wg S 7 _ _ _ (aA pI.o_ xh.o_.low);by_cases ahQ:k4<ng
        ·
         have QJ:(k4:Int)<(ng:Int):=by omega
         have Dd:k4<gl.length:=by have:=sS.o_;omega
         have Hy:Is wg (.slice ga ng gc) gl:=JI (aK Aw.o_ xh.o_.low) sS.o_;obtain ⟨g,o,aok,qT⟩:=Hy.at k4 Dd;subst aok;have hO:=By kN gl k4 Dd;obtain ⟨x,hx⟩:=ai (gl[k4]);rw [hx] at qT hO;obtain ⟨PX,DB⟩:=ai (aR (bj x) 2);have lP:P4++PX=HH++ay.flatMap dS++ [b8 (nq:Int)]++queue.flatMap eW++ [b8 (nf:Int)]++aj.flatMap gE++ [b8 (ng:Int)]++(gl.take (k4+1)).flatMap kN:=by
          rw [hO,zN.o_];unfold kN;simp only [DB];simp
         have mu:=QI.o_ (k4+1) _ lP;rw [List.length_append] at mu;have xu:=ab lP;have fU:=ab mu;have QK:=ab DB;have vd:Hid True:=trivial;clear Hy hO hx DB lP mu;go_wp2_with (first
          |(go_at_call 64;go_must (refine Au x 2 (by decide) (by decide) PX QK.o_ _ _ ?_);intro da dc fP mT iN;have pK:=ab (cp mT);have gT:Hid (LB w fP (.slice vw P4.length vx) P4):=ab ⟨aK xh.o_.own iN,aD xh.o_.low iN xh.o_.low.size⟩;have FA:=fU.o_;clear mT iN qT c7)
          |(have hq:=vd;at_builtin;go_must (refine gj (by rfl) (.tmp 310) (.tmp 320) 22 (by rfl) w 5 (.int .u8 0) 1 1 underlying22 Tryz.cJ rfl (by decide) vw P4.length vx _ (by rfl) gT.o_.own da PX.length dc _ (by rfl) pK.o_.parts.2.1 (eX _) pK.o_.parts.2.2.2.2 (by unfold maxLen;omega) (by omega) gT.o_.low.size ?_);intro Jf jP Bj B3 rN _;have Jg:=ab (bC gT.o_.low rN gT.o_.low.size gT.o_.own);have Jh:=ab B3;clear hq vd B3 rN))
         have cw:=LB.list Jh.o_ Jg.o_;have arT:ng≤8:=by rw [←xg.o_];exact HS.o_.gn
         have pF:Value.int .i64 (wrap64 ((k4:Int)+1))= .int .i64 ((k4+1:Nat):Int):=by
          have:wrap64 ((k4:Int)+1)=(k4:Int)+1:=by unfold wrap64;omega
          rw [this];simp
         clear FA;go_roundg (ng - (k4+1))
         case measure=>omega
         case rel=>exact ⟨k4+1,P4++PX,Jf,jP,by omega,rfl,by rw [List.length_append],(by first|exact pF|(push_cast;rfl)),xu,ab cw⟩
        ·have QJ:¬(k4:Int)<(ng:Int):=by omega
         exact Xz
end Go.Proofs.YtgimbocoamnkjaaGreatDoor
