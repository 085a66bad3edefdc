/- A part of the proof of SessionReads; no conditions. -/
import Derived.Test.YtgimbocoamnkjaaGreatDoorM02
set_option maxRecDepth 100000
set_option maxHeartbeats 16000000
namespace Go.Proofs.YtgimbocoamnkjaaGreatDoor
open _root_.Go.Proofs.Tryz
open List (drop_append drop_of_length_le drop_zero mem_cons_self nil_append)
open Nat (le_of_lt)
variable{ec:Nat}
open Go.RowKit
theorem aj2(S:Nat)(s:az)(cu:Int)(U:mQ s cu=false)(w:World)(M:Nat→Prop)(h:SR w M S s)(qD:s.queue.length≤100000)(R:ak)
 (I:∀w',Below w w w'→R (.returned (.tuple #[(Value.agg aX),E 0,.bool false])) w'):
 Calls prog 10 #[zq S,E cu] w R:=by
 have HR:=Z I;have aM:Below w w (w.alloc (.cells aX 36)):=aD _ _;have bB:=Z aM;have H0:=Z (h.below aM);have HN:=Z (aH w (.cells aX 36));have HB:=Z U;clear I h aM U;go_enter func10,ntmps10;go_wp2_with (first
  |(go_at_call 40;go_must(refine OC S s cu false HB.O _ M H0.O qD _ ?_))
  |(refine kJ 11 36 4 w.heap.size HN.O underlying36 ?_)
  |(refine gw 36 4 11 (w.heap.size) HN.O ?_))
 exact aak
theorem aj3(S:Nat)(s:az)(x:Im)(rest:List Im)(hq:s.queue=x::rest)(cu:Int)(U:mQ s cu=true)(hz:x.ah=0)(w:World)(M:Nat→Prop)(h:SR w M S s)(qD:s.queue.length≤100000)(R:ak)
 (I:∀B M' V X qa qc ea ec w',SR w' M' S {s with queue:=rest}→Sep M M' w w'→ft w' B (.slice V x.note.ay.length X) (.slice qa x.note.props.length qc) (.slice ea x.ids.length ec) x→w.heap.size≤B→(∀b,M' b→b<B)→fX x→
   R (.returned (.tuple #[(Value.agg (aG x V X qa qc ea ec)),E 0,.bool true])) w'):
 Calls prog 10 #[zq S,E cu] w R:=by
 obtain⟨NB,MB,GB,GM,sv,qv,fv,F⟩:=h;have HR:=Z I;obtain⟨ps,aZ,aq,a_,aU⟩:=id F.hq;obtain⟨va,vc,rfl⟩:=aq.shape;obtain⟨n,hn⟩:=ai s.queue.length;have dK:0<n:=by rw[←hn,hq];simp
 have oT:(0:Int)<(n:Int):=by omega
 have qE:n - 1=rest.length:=by rw[←hn,hq];simp
 rw[hn] at F aq qD;rw[hq] at aZ;obtain⟨⟨c,y⟩,pr,rfl⟩:∃p pr,ps=p::pr:=by
  cases ps with
  |nil=>simp at aZ
  |cons p pr=>exact⟨p,pr,rfl⟩
 obtain⟨rfl,zy⟩:y=x∧pr.map (·.2)=rest:=by simpa using aZ
 obtain⟨⟨V,X,zz⟩,⟨qa,qc,zA⟩,ea,ec,zB⟩:=(a_ (c,y) (mem_cons_self ..)).1.O.shape;obtain⟨p1,p2,p3⟩:=c;simp only at zz zA zB;subst zz zA zB;have aM:Below w w (w.alloc (.cells aX 36)):=aD _ _;have aj:Below w w (w.alloc (.cells (aG y V X qa qc ea ec) 36)):=aD _ _;have H1:Hid (SR (w.alloc (.cells aX 36)) M S s):=⟨NB,MB,GB,GM,sv,_,fv,F.below aM⟩
 obtain⟨bC,bF⟩:=F.EG (.cells (aG y V X qa qc ea ec) 36);have uG:∀p∈((Value.slice V y.note.ay.length X,Value.slice qa y.note.props.length qc,Value.slice ea y.ids.length ec),y)::pr,dk (w.alloc (.cells (aG y V X qa qc ea ec) 36)) (fun b=>M b∨b=w.heap.size) p.1 p.2:=fun p hp=>(a_ p hp).sep bF;have sA:=aq.below aM;have bE:=aq.below aj;obtain⟨g,o,nJ,bg,qW⟩:=sA.at dK;subst nJ;obtain⟨i,cp,_,dJ,_⟩:=info_parts vr;obtain⟨ax,dm,rJ,kt⟩:=bh.from (k:=1) bE underlying52 cp dJ (by omega);replace dm:∀w',(Instr.slice 52 (.slice (some ⟨g,o,none⟩) n vc) (some (E 1)) none none).run prog w'= .ok (.slice ax rest.length (vc - 1)) w':=by rw[qE] at dm;exact dm
 rw[lT,Nat.one_mul,drop_append,drop_of_length_le (by rw[oS];omega),oS,Nat.sub_self,drop_zero,nil_append,qE] at rJ;rw[qE] at kt;obtain⟨dq,ik⟩:=SX.pop bC zy uG rJ kt;have m_:Hid (∀j,j<14→(w.alloc (.cells aX 36)).cell? ⟨g,o+j,none⟩= (aG y V X qa qc ea ec:List Value)[j]?):=fun j hj=>by
  exact OD
 have N1:=Z (aH w (.cells aX 36));have c6:=(ef (F.below aM).hS).2.2.1;have d6:=(ef bC.hS).2.2.1;have f6:=aC bC.hS 6;have G8:S≠w.heap.size:=fun e=>by have:=F.lt S F.mS;omega
 have N3:Hid (((w.alloc (.cells (aG y V X qa qc ea ec) 36)).setCell ⟨S,6,none⟩ (.slice ax rest.length (vc - 1))).heap[w.heap.size]? =some (.cells (aG y V X qa qc ea ec) 36)):=(heap_setCell_other _ _ _ _ (fun e=>G8 e.symm)).trans (aH w (.cells (aG y V X qa qc ea ec) 36));have ji:=Z dq;have ku:=Z (bF.trans ik);have uH:=Z ((uG _ (mem_cons_self ..)).sep ik);have Fz:=Z (show(Value.slice ax rest.length (vc - 1)).ownBlock≠some w.heap.size from fun e=>by
  rw[kt] at e;have h1:=F.lt _ (aU _ e)
  omega)
 have Kz:=Z (show fv.ownBlock≠some w.heap.size from fun e=>by
  have h1:=F.lt _ (F.hf.own _ e)
  omega)
 have B1:=Z F;have HB:=Z U;have nK:Hid (s.queue.length≤100000):=by show _≤_;rw[hn];exact qD
 clear I aZ aq a_ aU bC bF uG sA bE rJ bg qW zy U hn hq cp dJ kt dq ik G8 F aM aj qE;have lV:¬(0:Int)<y.ah:=by omega
 clear hz;go_enter func10,ntmps10;go_wp2_with (first
  |(go_at_call 40;go_must(refine OC S s cu true HB.O _ _ H1.O nK.O _ ?_))
  |(refine iT 17 36 16 g o ((aG y V X qa qc ea ec)) m_.O underlying36 ?_)
  |(refine gw 36 4 17 w.heap.size N1.O ?_;rw[World.setRow_alloc_new];have fD:=(tg N3.O).2.2.2.2.1)
  |(refine kJ 52 36 4 w.heap.size N3.O underlying36 ?_)
  |(go_at_call 37;go_must(refine Ev y _ _ _ _ uH.O.1.O uH.O.2 _ ?_);intro aj4 aj5 aj6 aj7 G5 G6 w5 gC aE;have N5:=Z (aA N3.O aE);have kW:=Z gC;have ib:=Z aE;clear gC aE)
  |(refine gw 36 4 53 (w.heap.size) N5.O ?_))
 obtain⟨a0,a1,a2,a3,a4,a5,_,a7⟩:=B1.O.RV;have bu:=ji.O.below ib.O;have eL:=ui w5 w.heap.size (aG y aj4 aj5 aj6 aj7 G5 G6);obtain⟨rh,zC⟩:=bu.X_ (.inr rfl) (le_of_lt (B1.O.lt S B1.O.mS)) eL a0 a1 a2 a3 a4 a5 Fz.O a7;refine bodyPost_ret (Jw rfl _ _ w 36 _ (0,0) _ (E 0) (.bool true) rfl rfl rfl (setRow_heap _ w.heap.size _ _ _ _ N5.O) underlying36 rfl (by kernel_rfl)) rfl ?_;refine HR.O _ _ _ _ _ _ _ _ _ ⟨NB,MB,GB,GM,sv,_,fv,rh⟩ ((ku.O.below ib.O).trans zC) (kW.O.typed N5.O (by decide) (by decide) (by decide) eL) ?_ ?_ uH.O.2
 ·simp[World.setCell]
 rintro b ⟨U|U,aj⟩
 ·have:=B1.O.lt b U;simp[World.setCell]
  omega
 exact absurd U aj
theorem KA{a c e:ByteArray}{f h i j k l m n:Int}{b q:Bool}(V qa ea:av)(pn X qn qc:Nat){en:Nat}:∀u∈ [Value.int .i64 f,E h,Value.string a,.slice V pn X,E i,.bool b,.string c,E j,.slice qa qn qc,E k,E l,E m,E n,.bool q,.slice ea en ec,.string e],u.oneCell'=true:=by
 intro u hu;simp only[List.mem_cons,qT,or_false] at hu;rcases hu with rfl|rfl|rfl|rfl|rfl|rfl|rfl|rfl|rfl|rfl|rfl|rfl|rfl|rfl|rfl|rfl<;>rfl
theorem aj8(S:Nat)(s:az)(x:Im)(rest:List Im)(hq:s.queue=x::rest)(cu:Int)(U:mQ s cu=true)(hz:0<x.ah)(d:Nat)(h1:1≤d)(h2:d≤65535)(J:s.bJ.contains (d:Int)=false)(j4:∀j:Nat,1≤j→j<d→s.bJ.contains (j:Int)=true)(hl:s.bJ.length≤100000)(rN:s.ag.length≤100000)
 (w:World) (M:Nat→Prop) (h:SR w M S s) (qD:s.queue.length≤100000) (R:ak)
 (I:∀B M' V X qa qc ea ec w',SR w' M' S {s with queue:=rest,bJ:=s.bJ++ [(d:Int)],ag:=s.ag++ [⟨d,x.ah,x⟩]}→Sep M M' w w'→ft w' B (.slice V x.note.ay.length X) (.slice qa x.note.props.length qc) (.slice ea x.ids.length ec) x→w.heap.size≤B→(∀b,M' b→b<B)→fX x→
   R (.returned (.tuple #[(Value.agg (aG x V X qa qc ea ec)),E d,.bool true])) w'):
 Calls prog 10 #[zq S,E cu] w R:=by
 obtain⟨NB,MB,GB,GM,sv,qv,fv,F⟩:=h;have HR:=Z I;obtain⟨ps,aZ,aq,a_,aU⟩:=id F.hq;obtain⟨va,vc,rfl⟩:=aq.shape;obtain⟨n,hn⟩:=ai s.queue.length;have dK:0<n:=by rw[←hn,hq];simp
 have oT:(0:Int)<(n:Int):=by omega
 have qE:n - 1=rest.length:=by rw[←hn,hq];simp
 rw[hn] at F aq qD;rw[hq] at aZ;obtain⟨⟨c,y⟩,pr,rfl⟩:∃p pr,ps=p::pr:=by
  cases ps with
  |nil=>simp at aZ
  |cons p pr=>exact⟨p,pr,rfl⟩
 obtain⟨rfl,zy⟩:y=x∧pr.map (·.2)=rest:=by simpa using aZ
 obtain⟨⟨V,X,zz⟩,⟨qa,qc,zA⟩,ea,ec,zB⟩:=(a_ (c,y) (mem_cons_self ..)).1.O.shape;obtain⟨p1,p2,p3⟩:=c;simp only at zz zA zB;subst zz zA zB;have aM:Below w w (w.alloc (.cells aX 36)):=aD _ _;have aj:Below w w (w.alloc (.cells (aG y V X qa qc ea ec) 36)):=aD _ _;have H1:Hid (SR (w.alloc (.cells aX 36)) M S s):=⟨NB,MB,GB,GM,sv,_,fv,F.below aM⟩
 obtain⟨bC,bF⟩:=F.EG (.cells (aG y V X qa qc ea ec) 36);have uG:∀p∈((Value.slice V y.note.ay.length X,Value.slice qa y.note.props.length qc,Value.slice ea y.ids.length ec),y)::pr,dk (w.alloc (.cells (aG y V X qa qc ea ec) 36)) (fun b=>M b∨b=w.heap.size) p.1 p.2:=fun p hp=>(a_ p hp).sep bF;have sA:=aq.below aM;have bE:=aq.below aj;obtain⟨g,o,nJ,bg,qW⟩:=sA.at dK;subst nJ;obtain⟨i,cp,_,dJ,_⟩:=info_parts vr;obtain⟨ax,dm,rJ,kt⟩:=bh.from (k:=1) bE underlying52 cp dJ (by omega);replace dm:∀w',(Instr.slice 52 (.slice (some ⟨g,o,none⟩) n vc) (some (E 1)) none none).run prog w'= .ok (.slice ax rest.length (vc - 1)) w':=by rw[qE] at dm;exact dm
 rw[lT,Nat.one_mul,drop_append,drop_of_length_le (by rw[oS];omega),oS,Nat.sub_self,drop_zero,nil_append,qE] at rJ;rw[qE] at kt;obtain⟨dq,ik⟩:=SX.pop bC zy uG rJ kt;have m_:Hid (∀j,j<14→(w.alloc (.cells aX 36)).cell? ⟨g,o+j,none⟩= (aG y V X qa qc ea ec:List Value)[j]?):=fun j hj=>by
  exact OD
 have N1:=Z (aH w (.cells aX 36));have c6:=(ef (F.below aM).hS).2.2.1;have d6:=(ef bC.hS).2.2.1;have f6:=aC bC.hS 6;have G8:S≠w.heap.size:=fun e=>by have:=F.lt S F.mS;omega
 have N3:Hid (((w.alloc (.cells (aG y V X qa qc ea ec) 36)).setCell ⟨S,6,none⟩ (.slice ax rest.length (vc - 1))).heap[w.heap.size]? =some (.cells (aG y V X qa qc ea ec) 36)):=(heap_setCell_other _ _ _ _ (fun e=>G8 e.symm)).trans (aH w (.cells (aG y V X qa qc ea ec) 36));have ji:=Z dq;have ku:=Z (bF.trans ik);have uH:=Z ((uG _ (mem_cons_self ..)).sep ik);have Fz:=Z (show(Value.slice ax rest.length (vc - 1)).ownBlock≠some w.heap.size from fun e=>by
  rw[kt] at e;have h1:=F.lt _ (aU _ e)
  omega)
 have Kz:=Z (show fv.ownBlock≠some w.heap.size from fun e=>by
  have h1:=F.lt _ (F.hf.own _ e)
  omega)
 have B1:=Z F;have HB:=Z U;have nK:Hid (s.queue.length≤100000):=by show _≤_;rw[hn];exact qD
 clear I aZ aq a_ aU bC bF uG sA bE rJ bg qW zy U hn hq cp dJ kt dq ik G8 F aM aj qE;have AV:=Z J;have Hy:=Z j4;have c0:=(ef ji.O.hS).1.1;have fD:=(tg N3.O).2.2.2.2.1;clear J j4;go_enter func10,ntmps10;go_wp2_with (first
  |(go_at_call 40;go_must(refine OC S s cu true HB.O _ _ H1.O nK.O _ ?_))
  |(refine iT 17 36 16 g o ((aG y V X qa qc ea ec)) m_.O underlying36 ?_)
  |(refine gw 36 4 17 w.heap.size N1.O ?_;rw[World.setRow_alloc_new])
  |(go_at_call 41;go_must(refine aht NB MB s.bJ d h1 h2 AV.O Hy.O hl _ ji.O.hn _ ?_);intro w4 aal cV;have fZ:=SX.RT ji.O cV aal;have DB:=Z fZ.1;have Hz:=Z (ku.O.trans fZ.2);have N4:=Z (hZ cV N3.O (fun e=>by have h1:=B1.O.RV.2.2.1;exact h1 (Option.some.inj e).symm));have zw:=Z (uH.O.sep fZ.2);clear aal cV fZ))
 have aam:=Z (DB.O.below (bq w4));have di:Below w4.drew.heap.size w4.drew (w4.drew.alloc (.cells (cA (d:Int) y.ah y V X qa qc ea ec) 51)):=aD _ _;have ff:=Z (aam.O.below di);have oX:Hid ((w4.drew.alloc (.cells (cA (d:Int) y.ah y V X qa qc ea ec) 51)).heap[w.heap.size]? =some (.cells (aG y V X qa qc ea ec) 36)):=aA N4.O (ed (bq w4) di);have uI:dk (w4.drew.alloc (.cells (cA (d:Int) y.ah y V X qa qc ea ec) 51)) (fun b=>M b∨b=w.heap.size) (.slice V y.note.ay.length X,.slice qa y.note.props.length qc,.slice ea y.ids.length ec) y:=(zw.O.sep (.cL (bq w4))).sep (.cL di);have pR:=Z uI;obtain⟨gf,jM,fz,lz,_⟩:=ff.O.hf;obtain⟨m,hm⟩:=ai s.ag.length;obtain⟨fa,fc,oV⟩:∃a c,fv= .slice a m c:=by
  rw[←hm];exact cR fz
 subst oV;have xO:({s with queue:=rest,bJ:=s.bJ++ [(d:Int)]}:az).ag.length=m:=hm;rw[hm] at rN;rw[xO] at fz;obtain⟨HM,wT,oY,vK⟩:=cF hm jM fz lz;have c7:w4.drew.cell? ⟨S,7,none⟩=some (.slice fa m fc):=by
  exact(ef aam.O.hS).2.2.2.1
 have Fp:(w4.alloc (.cells (cA (d:Int) y.ah y V X qa qc ea ec) 51)).drew.cell? ⟨S,7,none⟩=some (.slice fa m fc):=cell_later di c7;obtain⟨⟨i0,i1,i2,i3,i4,i5,i6⟩,i7,i8,i9,i10,i11,i12,i13⟩:=tg (w:=w4.drew) N4.O;clear jM fz lz hm uI xO c0 fD c6 d6 f6;go_region_law (first
  |refine ig (by rfl) (.tmp 42) (.tmp 48) 48 (by rfl) 0 51 (Value.agg mo) 16 200 underlying48 yS rfl (by decide) fa m fc _ (by rfl) oY.O (some ⟨w4,0,none⟩) 1 1 (cA (d:Int) y.ah y V X qa qc ea ec) (by rfl) (dO w4.drew (cA (d:Int) y.ah y V X qa qc ea ec) 51 16 1 rfl) (KA _ _ _ _ _ _ _) (fun h=>by cases h) (by unfold maxLen;omega) (by omega) (bP _) ?_;intro fS wU w6 ky bI B2;have r6:=hZ bI ff.O.hS (i_ ff.O.hS oY.O (by decide));have e7:=(ef r6).2.2.2.1;have f7:=aC r6 7)
 all_goals
  obtain⟨a0,a1,a2,a3,a4,a5,_,a7⟩:=B1.O.RV;have H_:∀k,(Value.slice fS (m+1) wU).ownBlock=some k→k≠w.heap.size:=fun k G=>by
   rcases B2 with e|e
   ·exact fun h=>a7 (e.symm.trans (G.trans (by rw[h])))
   rw[e] at G;have h0:=(eI.1 N4.O).1;have h1:=Option.some.inj G;simp at h1
   omega
  obtain⟨M7,iz,xM,xP⟩:=SX.mP (fs:=s.ag++ [⟨d,y.ah,y⟩]) (ps:=gf++ [((.slice V y.note.ay.length X,.slice qa y.note.props.length qc,.slice ea y.ids.length ec),⟨d,y.ah,y⟩)]) ff.O (by rw[nv,wT.O];rfl) (fun p hp=>by
   rcases ez.1 hp with hp|hp
   ·exact vK.O p hp
   obtain rfl:=dM.1 hp;exact pR.O) (by rw[jZ,aK,HM.O];exact ky) bI B2
  have N7:Hid ((w6.setCell ⟨S,7,none⟩ (.slice fS (m+1) wU)).heap[w.heap.size]? =some (.cells (aG y V X qa qc ea ec) 36)):=(heap_setCell_other _ _ _ _ (fun e=>a0 e)).trans (hZ bI oX.O (i_ oX.O oY.O (by decide)));have B3:=Z iz;have KB:=Z (((Hz.O.below (bq w4)).below di).trans xM);have B4:=Z (pR.O.sep xM);have aj9:=Z H_;clear iz xM H_ B2 bI ky r6 e7 f7 c7 Fp i0 i1 i2 i3 i4 i5 i6 i7 i8 i9 i10 i11 i12 i13 di;go_wp2_with (first
   |(refine kJ 52 36 4 w.heap.size N7.O underlying36 ?_)
   |(go_at_call 37;go_must(refine Ev y _ _ _ _ B4.O.1.O B4.O.2 _ ?_);intro H' Ia Ib Ic Ie Ig w8 wR iA;have N8:=Z (aA N7.O iA);have oi:=Z wR;have jI:=Z iA;clear wR iA)
   |(refine gw 36 4 53 (w.heap.size) N8.O ?_))
  have rh:=B3.O.below jI.O;have bW:=ui w8 w.heap.size (aG y H' Ia Ib Ic Ie Ig);have OE:M7 w.heap.size:=xP _ (.inr rfl);obtain⟨jP,jQ⟩:=rh.X_ OE (le_of_lt (B1.O.lt S B1.O.mS)) bW a0 a1 a2 a3 a4 a5 Fz.O (fun e=>aj9.O _ e rfl);refine bodyPost_ret (Jw rfl _ _ w 36 _ (0,0) _ (E d) (.bool true) rfl rfl rfl (setRow_heap _ w.heap.size _ _ _ _ N8.O) underlying36 rfl (by kernel_rfl)) rfl ?_;refine HR.O _ _ _ _ _ _ _ _ _ ⟨NB,MB,GB,GM,sv,_,_,jP⟩ ((KB.O.below jI.O).trans jQ) (oi.O.typed N8.O (by decide) (by decide) (by decide) bW) ?_ ?_ B4.O.2
  ·have h1:=KB.O.size
   simpa [World.setCell] using h1
  rintro b ⟨U,aj⟩;exact B3.O.lt b U
