/- A part of the proof of SessionPlays, printed small; no conditions of its own. -/
import Derived.Test.YtgimbocoamnkjaaGreatDoorM16
set_option maxRecDepth 100000
set_option maxHeartbeats 16000000
namespace Go.Proofs.YtgimbocoamnkjaaGreatDoor
open _root_.Go.Proofs.Tryz
open List (drop_of_length_le)
open Nat (lt_irrefl)
variable{GB GM MB NB S g j:Nat}{M:Nat→Prop}{s:aF}{fv qv sv eN v v':Value}{w w1:World}
open Go.RowKit
theorem Lo.aiD(hg:w.grownBy w1 v.ownBlock)(bJ:v'.ownBlock=v.ownBlock∨(∃k,v'.ownBlock=some k∧w.heap.size≤k))(S:Nat)(u:Value):Lo S w (w1.setCell ⟨S,j,none⟩ u) v v':=fun B h1 h2 h3=>by
 have bM:=ry (B:=B) (bL w1 ⟨S,j,none⟩ u);have hb:=ry hg h2 h3;refine ⟨hb.trans (bM (Nat.le_trans h2 hg.size) (fun k hk=>by cases hk;exact h1)),fun k hk=> ?_⟩;rcases bJ with e|⟨k',e,gy⟩
 ·exact h3 k (e▸hk)
 ·rw [e] at hk;cases hk;exact Nat.le_trans h2 gy
theorem Lo.kn(hg:w.grownBy w1 v.ownBlock)(S:Nat):Lo S w w1 v v:=fun _ _ h2 h3=>⟨ry hg h2 h3,h3⟩
theorem SX.Hd{ss:List Sb}(h:SX w M S NB MB GB GM sv qv fv s)
 (hr:w1.ownsRow 0 64 6 eN ss.length (ss.flatMap aP)) (lK:w.grownBy w1 sv.ownBlock) (bJ:eN.ownBlock=sv.ownBlock∨(∃k,eN.ownBlock=some k∧w.heap.size≤k)):
 ∃M',SX (w1.setCell ⟨S,5,none⟩ eN) M' S NB MB GB GM eN qv fv {s with ay:=ss}∧Sep M M' w (w1.setCell ⟨S,5,none⟩ eN)∧(∀b,M b→M' b)∧Lo S w (w1.setCell ⟨S,5,none⟩ eN) sv eN:=by
 obtain ⟨K,hg,hK⟩:∃K,w.grownBy w1 (some K)∧(M K∧bA w K=64+2∨w.heap.size≤K):=by
  have hg:=lK;cases hv:sv.ownBlock with
  |none=>exact ⟨w.heap.size,uK (by rw [hv] at hg;exact hg),.inr (Nat.le_refl _)⟩
  |some k=>exact ⟨k,by rw [hv] at hg;exact hg,.inl ⟨h.ms k hv,eI h.hs k hv⟩⟩
 have ju:∀k,eN.ownBlock=some k→M k∨w.heap.size≤k:=fun k hk=>by
  rcases bJ with e|e
  ·exact .inl (h.ms k (e▸hk))
  ·obtain ⟨k',e,gy⟩:=e;rw [e] at hk;cases hk;exact .inr gy
 have Cf:∀k,eN.ownBlock=some k→k<w1.heap.size:=fun k hk=>(hr.lt k hk).2
 let M':Nat→Prop:=fun b=>M b∨eN.ownBlock=some b
 have ch:Sep M M' w w1:=⟨hg.os,hg.tape,hg.output,hg.size,fun b hb hM=>hg.block b hb (fun e=>by
  have e:=Option.some.inj e;rcases hK with ⟨hk,_⟩|hk
  ·exact hM (e▸hk)
  ·omega),fun b hb=>by
  rcases hb with hb|hb
  ·exact .inl hb
  ·exact ju b hb,fun F ⟨m,hm,hl⟩=>⟨m,.inl hm,hl⟩⟩
 have bh:∀b,b<w.heap.size→bA w b≠64+2→w1.heap[b]? =w.heap[b]?:=fun b hb hk=>hg.block b hb (fun e=>by
  have e:=Option.some.inj e;rcases hK with ⟨_,fA⟩|fA
  ·exact hk (e▸fA)
  ·omega)
 have eJ:∀{b t:Nat}{fr:Nat×Nat}{cs:Array Value},w.heap[b]? =some (.cells cs t fr)→b<w.heap.size:=fun h=>(Array.getElem?_eq_some_iff.1 h).1;have iz:=(bh S (eJ h.hS) (by rw [jR h.hS];decide)).trans h.hS;have ib:bA w1 S=94+2:=jR iz;have bM:=bL w1 ⟨S,5,none⟩ eN;have bt:Sep M' M' w1 (w1.setCell ⟨S,5,none⟩ eN):= .kn bM (fun k hk=>by cases hk;exact .inl h.mS);have aM:∀b,b<w1.heap.size→bA w1 b≠94+2→(w1.setCell ⟨S,5,none⟩ eN).heap[b]? =w1.heap[b]?:=fun b hb hk=>bM.block b hb (fun e=>hk (Option.some.inj e▸ib));have both:∀b,b<w.heap.size→bA w b≠64+2→bA w b≠94+2→(w1.setCell ⟨S,5,none⟩ eN).heap[b]? =w.heap[b]?:=fun b hb k1 k2=>by
  exact Es
 refine ⟨M',⟨?_,h.hn.sB (both _ (eJ h.hn.1) (by rw [h.hn.kinds.1];decide) (by rw [h.hn.kinds.1];decide)) (both _ h.hn.2.lt (by rw [h.hn.kinds.2];decide) (by rw [h.hn.kinds.2];decide)),
  h.hg.sB (both _ (eJ h.hg.1) (by rw [h.hg.kinds.1];decide) (by rw [h.hg.kinds.1];decide)) (both _ h.hg.2.lt (by rw [h.hg.kinds.2];decide) (by rw [h.hg.kinds.2];decide)),
  jv hr iz (by decide) bM,
  h.hq.sep (ch.trans bt) (fun k hk=>both k (h.lt k (h.hq.own k hk)) (by rw [h.hq.kind k hk];decide) (by rw [h.hq.kind k hk];decide)) (fun k hk=> .inl (h.hq.own k hk)),
  h.hf.sep (ch.trans bt) (fun k hk=>both k (h.lt k (h.hf.own k hk)) (by rw [h.hf.kind k hk];decide) (by rw [h.hf.kind k hk];decide)) (fun k hk=> .inl (h.hf.own k hk)),
  h.nb,h.nm,.inl h.mS,.inl h.mN,.inl h.mG,fun k hk=> .inr hk,?_,?_,?_⟩,ch.trans bt,fun b hb=> .inl hb,Lo.aiD lK bJ S eN⟩
 ·rw [heap_setCell_same w1 S 5 _ _ _ iz]
  rfl
 ·rintro (hm|hm)
  ·exact h.oP hm
  ·have h1:=eI hr NB hm;exact JT
 ·rintro (hm|hm)
  ·exact h.oQ hm
  ·have h1:=eI hr GB hm;exact JS
 ·rintro b (hb|hb)
  ·have:=h.lt b hb;have:=hg.size;simp only [World.setCell,Array.size_modify]
   omega
  ·have:=Cf b hb
   simpa [World.setCell] using this
theorem SX.P_{ss:List Sb}(h:SX w M S NB MB GB GM sv qv fv s)(hv:sv.ownBlock=some g)
 (hr:w1.ownsRow 0 64 6 sv ss.length (ss.flatMap aP)) (hg:w.grownBy w1 (some g)):SX w1 M S NB MB GB GM sv qv fv {s with ay:=ss}∧Sep M M w w1:=by
 have hk:bA w g=64+2:=eI h.hs g hv;have hs:Sep M M w w1:= .kn hg (fun k hk=>by cases hk;exact h.ms g hv);obtain ⟨p1,p2,p3,_,p5,p6⟩:=h.parts g hg (fun _ hm=>hm) hs;refine ⟨⟨(p1 (by rw [hk];decide)).trans h.hS,p2 (fun e=> ?_) (by rw [hk];decide),p3 (fun e=> ?_) (by rw [hk];decide),hr,p5 (by rw [hk];decide),p6 (by rw [hk];decide),h.nb,h.nm,h.mS,h.mN,h.mG,h.ms,h.oP,h.oQ,fun b hb=>Nat.lt_of_lt_of_le (h.lt b hb) hg.size⟩,hs⟩
 ·have:=h.hn.kinds.2;rw [←e,hk] at this
  revert this
  decide
 ·have:=h.hg.kinds.2;rw [←e,hk] at this
  revert this
  decide
theorem aiE(l:List Sb)(x:Sb)(n:Nat)(hn:l.length=n)(hl:n≤100000)(i:Nat)(hi:i≤n)(sv:Value)(w:World)(ho:w.ownsRow 0 64 6 sv n (l.flatMap aP))(vb:Nat)(hv:w.heap[vb]? =some (Obj.cells (bB x) 64))(bh:sv.ownBlock≠some vb)(R:Ending→World→Prop)
 (hR:∀ad c w',w'.ownsRow 0 64 6 (.slice ad (n+1) c) (n+1) ((l.take i++ [x]++l.drop i).flatMap aP)→w.grownBy w' sv.ownBlock→((Value.slice ad (n+1) c).ownBlock=sv.ownBlock∨(∃k,(Value.slice ad (n+1) c).ownBlock=some k∧w.heap.size≤k))→R (.returned (.slice ad (n+1) c)) w'):
 Calls prog 111 #[sv,.int .i64 i,.slice (some ⟨vb,0,none⟩) 1 1] w R:=by
 by_cases h:i=n
 ·subst h;refine aim l x i hl sv w ho vb hv R fun ad c w' h1 h2 h3=>hR ad c w' ?_ h2 (h3.imp id fun e=>⟨_,e,Nat.le_refl _⟩);rw [List.take_of_length_le (by omega),drop_of_length_le (by omega),List.append_nil,List.flatMap_append,List.flatMap_singleton];exact h1
 ·obtain ⟨a,c,rfl⟩:=bF ho;obtain ⟨g,rfl⟩:=et ho (by omega);by_cases hc:n+1≤c
  ·exact aio l x n hn hl i (by omega) g c hc w ho vb hv (fun e=>bh (by rw [e];rfl)) R fun w' h1 h2=>hR _ c w' h1 h2 (.inl rfl)
  ·exact aix l x n hn hl i (by omega) g c (by omega) w ho vb hv R fun N c' w' h1 h2 h3=>hR _ c' w' h1 h2 (.inr ⟨N,rfl,by omega⟩)
theorem YH(S NB MB GB GM:Nat)(sv qv fv:Value)(s:aF)(x:Sb)(s':aF)(a b:Bool)(hc:v_ s x=(s',a,b))(hs:ke s.ay)(hl:s.ay.length≤100000)(w:World)(M:Nat→Prop)(hx:SX w M S NB MB GB GM sv qv fv s)(R:Ending→World→Prop)
 (hR:∀M' eN w',SX w' M' S NB MB GB GM eN qv fv s'→Sep M M' w w'→(∀b,M b→M' b)→Lo S w w' sv eN→R (.returned (.tuple #[.bool a,.bool b])) w'):
 Calls prog 47 #[.pointer (some ⟨S,0,none⟩),.agg (bB x)] w R:=by
 have HR:=ab hR;have aw:Below w w (w.alloc (Obj.cells (bB x) 64)):=(Below.refl _ _).alloc (Nat.le_refl _) _;have hT:=heap_alloc_new w (Obj.cells (bB x) 64);have HX:=ab (hx.below aw);have jo:=ab hs;obtain ⟨k,hk⟩:=ai (fB s.ay x.filter);obtain ⟨q,hq⟩:=ai (pW s.ay x.filter);have f_:k≤s.ay.length:=hk▸Cl _ _;have yP:q=true→k<s.ay.length:=fun e=>by
  obtain ⟨h1,_⟩:=Ew (hq.trans e);rw [hk] at h1;exact h1
 unfold v_ at hc;rw [hq,hk] at hc;have HK:=ab hk;have HQ:=ab hq;have bP:=ab aw;obtain ⟨n,hn⟩:=ai s.ay.length;rw [hn] at hc f_ yP hl;have HN:=ab hn;have ku:Hid (s.ay.length≤100000):=by show _≤_;omega
 obtain ⟨ga,gc,vY⟩:=bF hx.hs;rw [hn] at vY;subst vY;clear hR hs hk hq aw hx hn;obtain ⟨w1,nX⟩:=ai (w.alloc (Obj.cells (bB x) 64));rw [nX] at HX bP hT;have t0:=af _ w 0 _ _ _ hT;have HT:=ab hT;clear hT;cases q with
 |true=>
  have iC:=yP rfl;rw [if_pos rfl] at hc;simp only [Prod.mk.injEq] at hc;obtain ⟨rfl,rfl,rfl⟩:=hc;have ae8:(k:Int)<(n:Int):=by omega
  clear yP;go_enter func47,ntmps47;go_upto_region 1 with fail
  clear nX;go_upto_region 3 with (go_at_call 110;go_must (refine Ia S NB MB GB GM _ qv fv s x.filter k HK.o_ true HQ.o_ jo.o_ ku.o_ _ M HX.o_ _ ?_);intro w2 ah;have aY:=ab ah;clear ah)
  have ak:Below w1 w1 w2.drew:=aY.o_.drew;have eT:=HX.o_.below ak;have c5:=(dy eT.hS).2.1;have kt:=aA HT.o_ ak;have t0:=af _ w 0 _ _ _ kt;have t1:=af _ w 1 _ _ _ kt;have t2:=af _ w 2 _ _ _ kt;have t3:=af _ w 3 _ _ _ kt;have t4:=af _ w 4 _ _ _ kt;have t5:=af _ w 5 _ _ _ kt;have rA:w2.drew.ownsRow 0 64 6 (.slice ga n gc) n (s.ay.flatMap aP):=by
   have:=eT.hs;rw [HN.o_] at this;exact this
  obtain ⟨g,rfl⟩:=et rA (by omega);have Bt:∀i,i<6→(w2.drew.cell? ⟨g,k*6+i,none⟩).isSome=true:=fun i hi=>by
   have:=HN.o_;have dI:=eS 6 aP fT s.ay;rw [rA.cellAt (k*6+i) (by omega),List.getElem?_eq_getElem (by omega)]
   rfl
  have nK:∀i,i<6→w2.drew.frozen? ⟨g,k*6+i,none⟩=false:=fun i _=>rA.frozenAt _;have b6:=ab ak;have Bk:=ab eT;have Qa:=ab rA;have lJ:=ab Bt;have tX:=ab nK;clear ak eT kt rA Bt nK;go_still_tail 7,(by kernel_rfl)
  change wpList _ _ _ _ _ w2.drew
  go_wp2_with (refine Et (o:=⟨none,.store 64 (.tmp 23) (.tmp 22),_,_,_,_⟩) (by rfl) 64 (.tmp 23) (.tmp 22) (by rfl) g (k*6) (bB x) (by rfl) (by rfl) lJ.o_ tX.o_ (by kernel_rfl) (by simp [Value.oneCell']) ?_);have kJ:=P7 aP fT (by decide) HN.o_ (k:=k) iC Qa.o_ x;have gy:(s.ay.set k x).length=n:=by rw [List.length_set,HN.o_]
  obtain ⟨bp,jh⟩:=SX.P_ Bk.o_ rfl (by rw [gy];exact kJ) (pU _ _ _ _);refine HR.o_ M _ _ bp (((Sep.cU bP.o_).trans (.cU b6.o_)).trans jh) (fun _ h=>h) ?_;exact Lo.below (aD bP.o_ b6.o_ bP.o_.size) (.kn (pU _ _ _ _) S)
 |false=>
  rw [if_neg (by decide)] at hc;by_cases h8:n=8
  ·rw [if_pos h8] at hc;simp only [Prod.mk.injEq] at hc;obtain ⟨rfl,rfl,rfl⟩:=hc;have ig:((n:Int)==8)=true:=by simp [h8]
   clear yP h8;go_enter func47,ntmps47;go_upto_region 1 with fail
   clear nX;go_wp2_with (go_at_call 110;go_must (refine Ia S NB MB GB GM _ qv fv s x.filter k HK.o_ false HQ.o_ jo.o_ ku.o_ _ M HX.o_ _ ?_);intro w2 ah;have c5:=(dy (HX.o_.below ah).hS).2.1;have aY:=ab ah;clear ah);have ak:=aD bP.o_ aY.o_ bP.o_.size;exact HR.o_ M _ _ (HX.o_.below aY.o_) (.cU ak) (fun _ h=>h) (Lo.below ak (.refl _ _ _))
  ·rw [if_neg h8] at hc;simp only [Prod.mk.injEq] at hc;obtain ⟨rfl,rfl,rfl⟩:=hc;have ig:((n:Int)==8)=false:=by simp;omega
   have aqI:¬(n:Int)=8:=by omega
   clear yP h8;go_enter func47,ntmps47;go_upto_region 1 with fail
   clear nX;go_upto_region 7 with (go_at_call 110;go_must (refine Ia S NB MB GB GM _ qv fv s x.filter k HK.o_ false HQ.o_ jo.o_ ku.o_ _ M HX.o_ _ ?_);intro w2 ah;have c5:=(dy (HX.o_.below ah).hS).2.1;have aY:=ab ah;clear ah)
   clear c5;have ak:Below w1 w1 w2.drew:=aY.o_.drew;have eT:=HX.o_.below ak;have c5:=(dy eT.hS).2.1;have kt:=aA HT.o_ ak;have t0:=af _ w 0 _ _ _ kt;have t1:=af _ w 1 _ _ _ kt;have t2:=af _ w 2 _ _ _ kt;have t3:=af _ w 3 _ _ _ kt;have t4:=af _ w 4 _ _ _ kt;have t5:=af _ w 5 _ _ _ kt;have dW:Below w2 w2 (w2.alloc (Obj.cells (bB x) 64)).drew:=((Below.refl w2 w2).alloc (Nat.le_refl _) _).drew;have bp:=(HX.o_.below aY.o_).below dW;have Qg:=(dy bp.hS).2.1;have rD:(w2.alloc (Obj.cells (bB x) 64)).drew.heap[w2.heap.size]? =some (Obj.cells (bB x) 64):=heap_alloc_new w2 _;have ed:(w2.alloc (Obj.cells (bB x) 64)).drew.ownsRow 0 64 6 (.slice ga n gc) n (s.ay.flatMap aP):=by
    have:=bp.hs;rw [HN.o_] at this;exact this
   have YI:(Value.slice ga n gc).ownBlock≠some w2.heap.size:=fun e=>by
    have h1:=eT.lt _ (eT.ms _ e);exact absurd h1 (lt_irrefl _)
   have gQ:=ab bp;have mE:Hid (Below w w (w2.alloc (Obj.cells (bB x) 64)).drew):=ab (aD (aD bP.o_ aY.o_ bP.o_.size) dW (Nat.le_trans bP.o_.size aY.o_.size));have iy:=ab ed;have aiF:=ab rD;have aiG:=ab YI;clear ak eT kt dW bp ed rD YI;go_region_law (first
    |(go_simp;go_at_call 111;refine aiE s.ay x n HN.o_ hl k f_ _ _ iy.o_ w2.heap.size aiF.o_ aiG.o_ _ ?_;intro fM c6 w6 mM bI zR;have r6:=eG bI gQ.o_.hS (dU gQ.o_.hS iy.o_ (by decide));have e6:=(dy r6).2.1;have f6:=aB r6 5))
   all_goals
    have ql:(s.ay.take k++ [x]++s.ay.drop k).length=n+1:=by
     have:=HN.o_;rw [List.length_append,List.length_append,List.length_take,List.length_drop,List.length_singleton]
     omega
    obtain ⟨M9,iI,iJ,AS,F4⟩:=SX.Hd (ss:=s.ay.take k++ [x]++s.ay.drop k) gQ.o_ (by rw [ql];exact mM) bI zR;have pV:=ab iI;have rY:=ab ((Sep.cU mE.o_).trans iJ);have NQ:=ab AS;have iK:=ab (Lo.below mE.o_ F4);clear iI iJ AS F4 mM bI zR r6 e6 f6 ql c5 Qg t0 t1 t2 t3 t4 t5;go_wp2_with fail;exact HR.o_ M9 _ _ pV.o_ rY.o_ NQ.o_ iK.o_
theorem aiH(S NB MB GB GM:Nat)(sv qv fv:Value)(s:aF)(f:List UInt8)(s':aF)(b:Bool)(hc:AW s f=(s',b))(hs:ke s.ay)(hl:s.ay.length≤100000)(w:World)(M:Nat→Prop)(hx:SX w M S NB MB GB GM sv qv fv s)(R:Ending→World→Prop)
 (hR:∀M' eN w',SX w' M' S NB MB GB GM eN qv fv s'→Sep M M' w w'→R (.returned (.bool b)) w'):
 Calls prog 79 #[.pointer (some ⟨S,0,none⟩),.string (str f)] w R:=by
 have HR:=ab hR;have HX:=ab hx;have jo:=ab hs;obtain ⟨k,hk⟩:=ai (fB s.ay f);obtain ⟨q,hq⟩:=ai (pW s.ay f);have yP:q=true→k<s.ay.length:=fun e=>by
  obtain ⟨h1,_⟩:=Ew (hq.trans e);rw [hk] at h1;exact h1
 unfold AW at hc;rw [hq,hk] at hc;have HK:=ab hk;have HQ:=ab hq;obtain ⟨n,hn⟩:=ai s.ay.length;rw [hn] at yP hl;have HN:=ab hn;have ku:Hid (s.ay.length≤100000):=by show _≤_;omega
 obtain ⟨ga,gc,vY⟩:=bF hx.hs;rw [hn] at vY;subst vY;clear hR hs hk hq hx hn;cases q with
 |false=>
  rw [if_neg (by decide)] at hc;simp only [Prod.mk.injEq] at hc;obtain ⟨rfl,rfl⟩:=hc;clear yP;go_enter func79,ntmps79;go_wp2_with (go_at_call 110;go_must (refine Ia S NB MB GB GM _ qv fv s f k HK.o_ false HQ.o_ jo.o_ ku.o_ _ M HX.o_ _ ?_);intro w2 ah;have aY:=ab ah;clear ah);exact HR.o_ M _ _ (HX.o_.below aY.o_) (.cU aY.o_)
 |true=>
  have iC:=yP rfl;rw [if_pos rfl] at hc;simp only [Prod.mk.injEq] at hc;obtain ⟨rfl,rfl⟩:=hc;have aiC:IntKind.i64.wrap ((k:Int)+1)=(k:Int)+1:=by rw [IntKind.wrap_i64];omega
  clear yP;go_enter func79,ntmps79;go_upto_region 3 with (go_at_call 110;go_must (refine Ia S NB MB GB GM _ qv fv s f k HK.o_ true HQ.o_ jo.o_ ku.o_ _ M HX.o_ _ ?_);intro w2 ah;have g_:=ab (HX.o_.below ah);have aY:=ab ah;clear ah)
  have c5:=(dy g_.o_.hS).2.1;have iH:w2.ownsRow 0 64 6 (.slice ga s.ay.length gc) s.ay.length (s.ay.flatMap aP):=by
   have:=g_.o_.hs;rw [HN.o_] at this⊢;exact this
  obtain ⟨g,rfl⟩:=et iH (by have:=HN.o_;omega);have eH:=ab iH;have Li:Hid (k<s.ay.length):=by have:=HN.o_;show _<_;omega
  clear iH;rw [←HN.o_] at c5;go_wp2_with (go_at_call 129;go_must (refine aif g gc s.ay k Li.o_ ku.o_ w2 (sE _) eH.o_ _ ?_);intro w6 mM bI;have r6:=eG bI g_.o_.hS (dU g_.o_.hS eH.o_ (by decide));have e6:=(dy r6).2.1;have f6:=aB r6 5;have P9:=ab mM;have vD:=ab bI;clear mM bI r6);have ql:(s.ay.eraseIdx k).length=s.ay.length - 1:=by rw [List.length_eraseIdx,if_pos Li.o_]
  obtain ⟨M9,iI,iJ,_,_⟩:=SX.Hd (eN:= .slice (some ⟨g,0,none⟩) (s.ay.length - 1) gc) (ss:=s.ay.eraseIdx k) g_.o_ (by rw [ql];exact P9.o_) vD.o_ (.inl rfl);exact HR.o_ M9 _ _ iI ((Sep.cU aY.o_).trans iJ)
variable{r:List UInt8}{B N t:Nat}{E M':Nat→Prop}{s':aF}{dp bK:Value}{W w':World}
theorem LH(h:Below B w w')(hS:B≤S)(j:Nat)(u:Value):Below B w (w'.setCell ⟨S,j,none⟩ u):=h.setCell hS u
structure qx(w:World)(E:Nat→Prop)(N S:Nat)(M:Nat→Prop)(NB MB GB GM:Nat)(sv qv fv:Value)(s:aF):Prop where
 hx:SX w M S NB MB GB GM sv qv fv s
 em:∀b,E b→M b
 me:∀b,M b→E b∨N<b
 s1:N<S
 mb:N<MB
 gm:N<GM
 vs:∀k,sv.ownBlock=some k→N<k
 vq:∀k,qv.ownBlock=some k→N<k
 vf:∀k,fv.ownBlock=some k→N<k
structure RG(W w:World)(E:Nat→Prop)(N S:Nat)(s:aF)(r:List UInt8):Prop where
 cr:CR W 106 N ⟨r,false⟩ w
 en:E N
 ex:∃M NB MB GB GM sv qv fv,qx w E N S M NB MB GB GM sv qv fv s
theorem qx.cur(h:qx w E N S M NB MB GB GM sv qv fv s)(en:E N)(hg:w.grownBy w' (some N))(hk:bA w N=106+2):qx w' E N S M NB MB GB GM sv qv fv s:=by
 have hs:Sep M M w w':= .kn hg (fun k hk=>by cases hk;exact h.em N en);obtain ⟨p1,p2,p3,p4,p5,p6⟩:=h.hx.parts N hg (fun _ hm=>hm) hs;refine ⟨⟨(p1 (by rw [hk];decide)).trans h.hx.hS,p2 (Nat.ne_of_lt h.mb) (by rw [hk];decide),p3 (Nat.ne_of_lt h.gm) (by rw [hk];decide),p4 (by rw [hk];decide),p5 (by rw [hk];decide),p6 (by rw [hk];decide),h.hx.nb,h.hx.nm,h.hx.mS,h.hx.mN,h.hx.mG,h.hx.ms,h.hx.oP,h.hx.oQ,fun b hb=>Nat.lt_of_lt_of_le (h.hx.lt b hb) hg.size⟩,h.em,h.me,h.s1,h.mb,h.gm,h.vs,h.vq,h.vf⟩
theorem qx.below(h:qx w E N S M NB MB GB GM sv qv fv s)(hb:Below w w w'):qx w' E N S M NB MB GB GM sv qv fv s:=
 ⟨h.hx.below hb,h.em,h.me,h.s1,h.mb,h.gm,h.vs,h.vq,h.vf⟩
theorem qx.step(h:qx w E N S M NB MB GB GM sv qv fv s)(hN:N<w.heap.size)(hx:SX w' M' S NB MB GB GM eN bK dp s')(hs:Sep M M' w w')(hm:∀b,M b→M' b)
 (vs:∀k,eN.ownBlock=some k→N<k) (vq:∀k,bK.ownBlock=some k→N<k) (vf:∀k,dp.ownBlock=some k→N<k):qx w' E N S M' NB MB GB GM eN bK dp s':=
 ⟨hx,fun b hb=>hm b (h.em b hb),fun b hb=>by
  rcases hs.new b hb with h1|h1
  ·exact h.me b h1
  ·exact .inr (by omega),h.s1,h.mb,h.gm,vs,vq,vf⟩
theorem CR.over{s:Cu}(h:CR W t N s w)(hb:Below (N+1) w w'):CR W t N s w':=by
 obtain ⟨ad,c,hr,hs⟩:=h.row;have lf:=h.nn;exact ⟨⟨ad,c,(hb.block N (Nat.lt_succ_self N)).trans hr,hs⟩,aD h.low (hb.mono (by omega)) (Nat.le_refl _),h.nn,h.len⟩
theorem CR.kind{s:Cu}(h:CR W t N s w):bA w N=t+2:=by
 obtain ⟨ad,c,hr,hs⟩:=h.row;exact jR hr
theorem RG.cur{r':List UInt8}(h:RG W w E N S s r)(hc:CR W 106 N ⟨r',false⟩ w')(hg:w.grownBy w' (some N)):RG W w' E N S s r':=by
 obtain ⟨M,NB,MB,GB,GM,sv,qv,fv,hx⟩:=h.ex;exact ⟨hc,h.en,M,NB,MB,GB,GM,sv,qv,fv,hx.cur h.en hg h.cr.kind⟩
theorem RG.sr(h:RG W w E N S s r):∃M,SR w M S s∧(∀b,E b→M b)∧∀b,M b→E b∨N<b:=by
 obtain ⟨M,NB,MB,GB,GM,sv,qv,fv,hx⟩:=h.ex;exact ⟨M,⟨NB,MB,GB,GM,sv,qv,fv,hx.hx⟩,hx.em,hx.me⟩
theorem RG.cells(h:RG W w E N S s r):w.cell? ⟨N,1,none⟩=some (.bool false)∧w.frozen? ⟨N,1,none⟩=false:=by
 obtain ⟨ad,c,hr,_⟩:=h.cr.row;exact ⟨af w N 1 _ _ _ hr,aB hr 1⟩
theorem RG.mark(h:RG W w E N S s r):RG W (w.setCell ⟨N,1,none⟩ (.bool false)) E N S s r:=
 h.cur (h.cr.mark false) (bL w ⟨N,1,none⟩ (.bool false))
theorem aiI(W w:World)(E:Nat→Prop)(N S:Nat)(s:aF)(r:List UInt8)(hG:RG W w E N S s r)(x:Sb)(s':aF)(a b:Bool)(hc:v_ s x=(s',a,b))(hs:ke s.ay)(hl:s.ay.length≤100000)(R:Ending→World→Prop)
 (hR:∀w',RG W w' E N S s' r→R (.returned (.tuple #[.bool a,.bool b])) w'):
 Calls prog 47 #[.pointer (some ⟨S,0,none⟩),.agg (bB x)] w R:=by
 obtain ⟨M,NB,MB,GB,GM,sv,qv,fv,hx⟩:=hG.ex;refine YH S NB MB GB GM sv qv fv s x s' a b hc hs hl w M hx.hx R fun M' eN w' zI dX vj nH=> ?_;obtain ⟨hb,hv⟩:=nH (N+1) hx.s1 hG.cr.lt hx.vs;exact hR w' ⟨hG.cr.over hb,hG.en,M',NB,MB,GB,GM,eN,qv,fv,hx.step hG.cr.lt zI dX vj hv hx.vq hx.vf⟩
theorem aiJ(W w:World)(E:Nat→Prop)(N S:Nat)(s:aF)(r:List UInt8)(hG:RG W w E N S s r)(x:Im)(pv qw ev:Value)(hl:s.queue.length<8)(hc:gH w pv qw ev x)(hB:gb x)(s':aF)(dX:{s with queue:=s.queue++ [x]}=s')(R:Ending→World→Prop)
 (hR:∀w',RG W w' E N S s' r→R (.returned (.bool true)) w'):
 Calls prog 8 #[.pointer (some ⟨S,0,none⟩),(Value.agg (pS x pv qw ev))] w R:=by
 subst dX;obtain ⟨M,NB,MB,GB,GM,sv,qv,fv,hx⟩:=hG.ex;refine Um S NB MB GB GM sv qv fv s x pv qw ev w M hx.hx hl hc hB R fun M' bK w' zI dX vj nH=> ?_;obtain ⟨hb,hv⟩:=nH (N+1) hx.s1 hG.cr.lt hx.vq;exact hR w' ⟨hG.cr.over hb,hG.en,M',NB,MB,GB,GM,sv,bK,fv,hx.step hG.cr.lt zI dX vj hx.vs hv hx.vf⟩
theorem aiK(W w:World)(E:Nat→Prop)(N S:Nat)(s:aF)(r:List UInt8)(hG:RG W w E N S s r)(x y:Int)(b:Bool)(s':aF)(dX:{s with cP:=x,ends:=y,eB:=b}=s')(R:Ending→World→Prop)
 (hR:∀w',RG W w' E N S s' r→R (.returned (.tuple #[])) w'):
 Calls prog 46 #[.pointer (some ⟨S,0,none⟩),.int .i64 x,.int .i64 y,.bool b] w R:=by
 have HR:=ab hR;have HG:=ab hG;obtain ⟨M,NB,MB,GB,GM,sv,qv,fv,q_⟩:=hG.ex;have hx:=q_.hx;have k1:=hx.cell 2 (.int .i64 x) {s with cP:=x} (by rw [heap_setCell_same w S 2 _ _ _ hx.hS];rfl) rfl rfl rfl rfl rfl;have k2:=k1.1.cell 3 (.int .i64 y) {s with cP:=x,ends:=y} (by rw [heap_setCell_same _ S 3 _ _ _ k1.1.hS];rfl) rfl rfl rfl rfl rfl;have k3:=k2.1.cell 4 (.bool b) {s with cP:=x,ends:=y,eB:=b} (by rw [heap_setCell_same _ S 4 _ _ _ k2.1.hS];rfl) rfl rfl rfl rfl rfl;have c2:=af w S 2 _ _ _ hx.hS;have f2:=aB hx.hS 2;have c3:=af _ S 3 _ _ _ k1.1.hS;have f3:=aB k1.1.hS 3;have c4:=af _ S 4 _ _ _ k2.1.hS;have f4:=aB k2.1.hS 4;have hb:Below (N+1) w (((w.setCell ⟨S,2,none⟩ (.int .i64 x)).setCell ⟨S,3,none⟩ (.int .i64 y)).setCell ⟨S,4,none⟩ (.bool b)):=LH (LH (LH (Below.refl (N+1) w) q_.s1 _ _) q_.s1 _ _) q_.s1 _ _;have cw:RG W (((w.setCell ⟨S,2,none⟩ (.int .i64 x)).setCell ⟨S,3,none⟩ (.int .i64 y)).setCell ⟨S,4,none⟩ (.bool b)) E N S s' r:=by
  subst dX;exact ⟨HG.o_.cr.over hb,HG.o_.en,M,NB,MB,GB,GM,sv,qv,fv,q_.step HG.o_.cr.lt k3.1 (k1.2.trans (k2.2.trans k3.2)) (fun _ h=>h) q_.vs q_.vq q_.vf⟩
 have HF:=ab cw;clear hR k1 k2 k3 hx hG dX q_ hb cw;go_enter func46,ntmps46;go_wp2;refine bodyPost_ret (results_none rfl _ _ _) rfl ?_;exact HR.o_ _ HF.o_
theorem aiL(W w:World)(E:Nat→Prop)(N S:Nat)(s:aF)(r:List UInt8)(hG:RG W w E N S s r)(id:Int)(h1:s.aH.contains id=false)(h2:s.aH.length<8)(h4:1≤id)(h5:id≤65535)(s':aF)(dX:{s with aH:=s.aH++ [id]}=s')(R:Ending→World→Prop)
 (hR:∀w',RG W w' E N S s' r→R (.returned (.tuple #[.bool false,.bool true])) w'):
 Calls prog 52 #[.pointer (some ⟨S,0,none⟩),.int .i64 id] w R:=by
 have HR:=ab hR;have HG:=ab hG;obtain ⟨M,NB,MB,GB,GM,sv,qv,fv,q_⟩:=hG.ex;have HX:=ab q_;have c8:=(dy q_.hx.hS).2.2.2.2;have H1:=ab h1;have HS:=ab dX;have hid:h_ id:=⟨by omega,by omega⟩
 have aiM:=ab hid;obtain ⟨n,hn⟩:=ai s.aH.length;have HN:=ab hn;rw [hn] at h2;have wF:(n:Int)<8:=by omega
 have HL:Hid (s.aH.length≤100000):=by show _≤_;omega
 clear hR q_ hG dX h1 hn hid;go_enter func52,ntmps52;go_wp2_with (first
  |(go_at_call 115;go_must (refine AP GB GM s.aH id false H1.o_ _ HX.o_.hx.hg aiM.o_ _ ?_);intro w2 ah;have g_:=ab (HX.o_.below ah);have oL:=ab (HG.o_.cr.below ah);have PQ:=(dy g_.o_.hx.hS).2.2.2.2;clear ah c8)
  |(go_at_call 116;go_must (refine K5 GB GM s.aH n HN.o_ _ g_.o_.hx.hg _ ?_))
  |(go_at_call 51;go_must (refine JQ GB GM s.aH id h4 h5 H1.o_ HL.o_ _ g_.o_.hx.hg _ ?_);intro w3 wN cB;have cG:=SX.NV g_.o_.hx cB wN;have gY:=ab cG.1;have iD:=ab cG.2;have rO:=ab cB;clear wN cB cG))
 have hb:Below (N+1) w2 w3:=ry rO.o_ oL.o_.lt (fun k hk=>by cases hk;exact g_.o_.gm);have cw:RG W w3 E N S {s with aH:=s.aH++ [id]} r:=⟨oL.o_.over hb,HG.o_.en,M,NB,MB,GB,GM,sv,qv,fv,g_.o_.step oL.o_.lt gY.o_ iD.o_ (fun _ h=>h) g_.o_.vs g_.o_.vq g_.o_.vf⟩
 rw [HS.o_] at cw;exact HR.o_ _ cw
theorem qx.hold{l:List Int}(h:qx w E N S M NB MB GB GM sv qv fv s)(hN:N<w.heap.size)(hg:w.grownBy w' (some MB))(b7:St w' NB MB l)(dX:{s with cj:=l}=s'):
 qx w' E N S M NB MB GB GM sv qv fv s'∧Sep M M w w'∧Below (N+1) w w':=by
 subst dX;have h1:=SX.NU h.hx hg b7;exact ⟨h.step hN h1.1 h1.2 (fun _ h=>h) h.vs h.vq h.vf,h1.2,ry hg hN (fun k hk=>by cases hk;exact h.mb)⟩
theorem qx.qN{ps:List (V3×Fl)}{fs:List Fl}(hx:qx w E N S M NB MB GB GM sv qv fv s)(hN:N<w.heap.size)(aT:ps.map (·.2)=fs)(aS:∀p∈ps,db w M p.1 p.2.item)
 (hr:w1.ownsRow 0 51 16 dp fs.length (ps.flatMap bH)) (hg:w.grownBy w1 fv.ownBlock) (bJ:dp.ownBlock=fv.ownBlock∨dp.ownBlock=some w.heap.size) (dX:{s with aj:=fs}=s'):
 (∃M',qx (w1.setCell ⟨S,7,none⟩ dp) E N S M' NB MB GB GM sv qv dp s')∧Below (N+1) w (w1.setCell ⟨S,7,none⟩ dp):=by
 subst dX;obtain ⟨M',h1,h2,h3⟩:=SX.qN hx.hx aT aS hr hg bJ;have hb:Below (N+1) w (w1.setCell ⟨S,7,none⟩ dp):=LH (ry hg hN (fun k hk=>hx.vf k hk)) hx.s1 _ _;refine ⟨⟨M',hx.step hN h1 h2 h3 hx.vs hx.vq fun k hk=> ?_⟩,hb⟩;rcases bJ with e|e
 ·exact hx.vf k (e▸hk)
 ·rw [e] at hk;cases hk;exact hN
theorem aiN(l:List UInt8)(w:World)(R:Ending→World→Prop)
 (hR:∀S M NB MB GB GM sv qv fv w',SX w' M S NB MB GB GM sv qv fv (fw l)→(∀b,M b→w.heap.size≤b)→w.heap.size≤NB→w.heap.size≤GB→Below w w w'→R (.returned (.pointer (some ⟨S,0,none⟩))) w'):
 Calls prog 6 #[.string (str l)] w R:=by
 have HR:=ab hR;clear hR;have G1:Hid True:=trivial;go_enter func6,ntmps6;go_wp2_with (first
  |(have hq:=G1;go_at_call 35;go_must (refine JR _ _ ?_;intro NB MB w3 fj jF lM an;have iD:=ab fj;have rR:=ab jF;have G2:=ab lM;have bU:=ab an;clear hq G1 fj jF lM an))
  |(go_at_call 35;go_must (refine JR _ _ ?_;intro GB GM w5 jh dz yA aC;have mE:=ab jh;have mK:=ab dz;have Ph:=ab yA;have eb:=ab aC;clear jh dz yA aC)))
 have hy:Below w5 w5 (w5.alloc (Obj.cells #[.pointer (some ⟨NB,0,none⟩),.string (str (fw l).dC),.int .i64 (fw l).cP,.int .i64 (fw l).ends,.bool (fw l).eB,(.slice none 0 0),(.slice none 0 0),(.slice none 0 0),.pointer (some ⟨GB,0,none⟩)] 94)):=(Below.refl _ _).alloc (Nat.le_refl _) _;have bm:=bU.o_.size;have FX:=eb.o_.size;have h3:=(iD.o_.below eb.o_).below hy;have h5:=mE.o_.below hy;have eJ:∀{x:World}{b t:Nat}{fr:Nat×Nat}{cs:Array Value},x.heap[b]? =some (.cells cs t fr)→b<x.heap.size:=fun h=>(Array.getElem?_eq_some_iff.1 h).1;have l1:=eJ iD.o_.1;have l2:=iD.o_.2.lt;have l3:=eJ mE.o_.1;have l4:=mE.o_.2.lt;have n5:=mK.o_;have m5:=Ph.o_;have n3:=rR.o_;have m3:=G2.o_;have e3:=iD.o_.ne;have e5:=mE.o_.ne;refine HR.o_ w5.heap.size (fun b=>b=w5.heap.size∨b=MB∨b=GM) NB MB GB GM _ _ _ _ ⟨heap_alloc_new w5 (Obj.cells #[.pointer (some ⟨NB,0,none⟩),.string (str (fw l).dC),.int .i64 (fw l).cP,.int .i64 (fw l).ends,.bool (fw l).eB,(.slice none 0 0),(.slice none 0 0),(.slice none 0 0),.pointer (some ⟨GB,0,none⟩)] 94),h3,h5,World.ownsRow_nil _ _ _ _,⟨[],rfl,bf.nil _ _ _,fun p hp=>by simp at hp,fun k hk=>by simp [Value.ownBlock] at hk⟩,⟨[],rfl,World.ownsRow_nil _ _ _ _,fun p hp=>by simp at hp,fun k hk=>by simp [Value.ownBlock] at hk⟩,by omega,by omega,.inl rfl,.inr (.inl rfl),.inr (.inr rfl),fun k hk=>by simp [Value.ownBlock] at hk,?_,?_,?_⟩ ?_ (by omega) (by omega) (aD (aD bU.o_ eb.o_ bm) hy (by omega))
 ·rintro (h|h|h)<;>omega
 ·rintro (h|h|h)<;>omega
 ·rintro b (h|h|h)<;>simp<;>omega
 ·rintro b (h|h|h)<;>omega
theorem YJ{P:Prop}(h:P:=by
 have:ps= []:=by
  cases ps with
  |nil=>rfl
  |cons a b=>cases e1
 subst this;exact ⟨[],e1,e2,fun p hp=>absurd hp List.not_mem_nil,fun k hk=>Or.inl (e4 k hk)⟩):P:=h
theorem aiO{l:List UInt8}(hc:CR W 106 N ⟨r,false⟩ w)(hb:Below w w w')(hx:SX w' M S NB MB GB GM sv qv fv (fw l))(hM:∀b,M b→w.heap.size≤b)(hE:∀b,E b→b≤N)(en:E N)
 (h1:w.heap.size≤NB) (h2:w.heap.size≤GB):RG W w' E N S (fw l) r:=by
 have hN:=hc.lt;have h1:N<NB:=by omega
 have h2:N<GB:=by omega
 have lt:∀b,M b→N<b:=fun b hb=>by have:=hM b hb;omega
 have YK:∀{b},N<b→¬E b:=fun h he=>by have:=hE _ he;omega
 refine ⟨hc.below hb,en,fun b=>M b∨E b,NB,MB,GB,GM,sv,qv,fv,⟨hx.hS,hx.hn,hx.hg,hx.hs,?_,?_,hx.nb,hx.nm,.inl hx.mS,.inl hx.mN,.inl hx.mG,fun k hk=> .inl (hx.ms k hk),?_,?_,?_⟩,fun b hb=> .inr hb,?_,lt _ hx.mS,lt _ hx.mN,lt _ hx.mG,fun k hk=>lt _ (hx.ms k hk),fun k hk=>lt _ (hx.hq.own k hk),fun k hk=>lt _ (hx.hf.own k hk)⟩
 ·obtain ⟨ps,e1,e2,e3,e4⟩:=hx.hq;exact YJ
 ·obtain ⟨ps,e1,e2,e3,e4⟩:=hx.hf;exact YJ
 ·rintro (hm|hm)
  ·exact hx.oP hm
  ·exact YK h1 hm
 ·rintro (hm|hm)
  ·exact hx.oQ hm
  ·exact YK h2 hm
 ·rintro b (hm|hm)
  ·exact hx.lt b hm
  ·have:=hE b hm;have:=hb.size
   omega
 ·rintro b (hm|hm)
  ·exact .inr (lt b hm)
  ·exact .inl hm
open List (drop_eq_getElem_cons getElem_map getElem_take mem_cons_of_mem mem_cons_self)
open Nat (succ_mul)
variable{k:Nat}
def rS(s:aF)(a b c d:Nat):aF:=⟨s.dC,s.cP,s.ends,s.eB,s.ay.take a,s.queue.take b,s.aj.take c,(s.aj.take c).map (·.id),(bE s.aH).take d⟩
theorem aiP(s:aF):{fw s.dC with cP:=s.cP,ends:=s.ends,eB:=s.eB}=rS s 0 0 0 0:=rfl
theorem aiQ(h:eL s){a b c d:Nat}(ha:s.ay.length≤a)(hb:s.queue.length≤b)(hc:s.aj.length≤c)(hd:s.aH.length≤d):rS s a b c d={s with aH:=bE s.aH}:=by
 unfold rS;rw [List.take_of_length_le ha,List.take_of_length_le hb,List.take_of_length_le hc,List.take_of_length_le (by rw [tW];exact hd),←h.eq]
theorem Q3(s:aF):r8 s=(b5 s.dC).1++(aR (bj s.cP) 8++(aR (bj s.ends) 8++([b8 (if s.eB then 1 else 0)]++([b8 (s.ay.length:Int)]++(s.ay.flatMap dS++([b8 (s.queue.length:Int)]++(s.queue.flatMap eW++([b8 (s.aj.length:Int)]++(s.aj.flatMap gE++([b8 (s.aH.length:Int)]++((bE s.aH).flatMap kN++ []))))))))))):=by
 unfold r8 Fm;simp only [List.append_assoc,List.append_nil]
theorem LJ{α:Type}(f:α→List UInt8)(l:List α)(k:Nat)(h:k<l.length)(R:List UInt8):(l.drop k).flatMap f++R=f l[k]++((l.drop (k+1)).flatMap f++R):=by
 rw [drop_eq_getElem_cons h,List.flatMap_cons,List.append_assoc]
theorem LK{α:Type}(f:α→List UInt8)(l:List α)(k:Nat)(h:l.length≤k)(R:List UInt8):(l.drop k).flatMap f++R=R:=by
 rw [drop_of_length_le h]
 rfl
theorem aiR(s:aF):r8 {s with aH:=bE s.aH}=r8 s:=by
 unfold r8;simp only [tW];rw [PN (rV s.aH)]
theorem aiS(h:ke s.ay)(k:Nat):ke (s.ay.take k):=h.sublist (List.take_sublist _ _)
theorem aiT{l:List Sb}(h:ke l)(hk:k<l.length):∀y∈l.take k,Lib.compareBytes y.filter (l[k]).filter<0:=fun y hy=>by
 obtain ⟨i,hi,rfl⟩:=List.getElem_of_mem hy;rw [List.length_take] at hi;rw [getElem_take];exact List.pairwise_iff_getElem.1 h i k (by omega) hk (by omega)
theorem aiU(h:du s)(hk:k<s.ay.length):v_ (rS s k 0 0 0) s.ay[k]=(rS s (k+1) 0 0 0,true,true):=by
 have hl:=aiT h.ss hk;have hp:fB (s.ay.take k) (s.ay[k]).filter=k:=by
  unfold fB;rw [List.countP_eq_length.2 (fun y hy=>by simpa using hl y hy),List.length_take]
  omega
 have hi:pW (s.ay.take k) (s.ay[k]).filter=false:=by
  unfold pW;rw [hp,List.getElem?_eq_none (by rw [List.length_take];omega)]
 have h8:=h.sn;unfold v_;show (if pW (s.ay.take k) (s.ay[k]).filter=true then _ else if (s.ay.take k).length=8 then _ else ({rS s k 0 0 0 with ay:=(s.ay.take k).take (fB (s.ay.take k) (s.ay[k]).filter)++ [s.ay[k]]++(s.ay.take k).drop (fB (s.ay.take k) (s.ay[k]).filter)},true,true))=_;rw [if_neg (by rw [hi];decide),if_neg (by rw [List.length_take];omega),hp];have e:(s.ay.take k).take k++ [s.ay[k]]++(s.ay.take k).drop k=s.ay.take (k+1):=by
  rw [List.take_of_length_le (by rw [List.length_take];omega),drop_of_length_le (by rw [List.length_take];omega),List.append_nil,List.take_succ_eq_append_getElem hk]
 rw [e]
 rfl
theorem aiV(s:aF)(a:Nat)(hk:k<s.queue.length):{rS s a k 0 0 with queue:=(rS s a k 0 0).queue++ [s.queue[k]]}=rS s a (k+1) 0 0:=by
 unfold rS;simp only [List.take_succ_eq_append_getElem hk]
def rH(s:aF)(a b k:Nat):aF:={rS s a b k 0 with cj:=(s.aj.take (k+1)).map (·.id)}
theorem aiW(s:aF)(a b:Nat)(hk:k<s.aj.length):{rS s a b k 0 with cj:=(rS s a b k 0).cj++ [(s.aj[k]).id]}=rH s a b k:=by
 unfold rH rS;simp only [List.take_succ_eq_append_getElem hk,List.map_append,List.map_cons,List.map_nil]
theorem aiX(s:aF)(a b:Nat):{rH s a b k with aj:=s.aj.take (k+1)}=rS s a b (k+1) 0:=rfl
theorem aiY(h:eL s)(a b:Nat)(hk:k<s.aj.length):(rS s a b k 0).cj.contains (s.aj[k]).id=false:=by
 have hn:=h.nd;rw [h.eq] at hn;show ((s.aj.take k).map (·.id)).contains _=false;rw [List.contains_eq_any_beq,List.any_eq_false];intro x hx;obtain ⟨f,hf,rfl⟩:=List.mem_map.1 hx;obtain ⟨i,hi,rfl⟩:=List.getElem_of_mem hf;rw [List.length_take] at hi;rw [getElem_take];have h1:=List.pairwise_iff_getElem.1 hn i k (by simp;omega) (by simp;omega) (by omega);rw [getElem_map,getElem_map] at h1
 simpa using fun e=>h1 e.symm
theorem aiZ(s:aF)(a b c:Nat)(hk:k<(bE s.aH).length):{rS s a b c k with aH:=(rS s a b c k).aH++ [(bE s.aH)[k]]}=rS s a b c (k+1):=by
 unfold rS;simp only [List.take_succ_eq_append_getElem hk]
theorem ai0(h:du s)(a b c:Nat)(hk:k<(bE s.aH).length):(rS s a b c k).aH.contains (bE s.aH)[k]=false:=by
 have hn:(bE s.aH).Nodup:=(rV s.aH).nodup_iff.2 h.gd;show ((bE s.aH).take k).contains _=false;rw [List.contains_eq_any_beq,List.any_eq_false];intro x hx;obtain ⟨i,hi,rfl⟩:=List.getElem_of_mem hx;rw [List.length_take] at hi;rw [getElem_take];have h1:=List.pairwise_iff_getElem.1 hn i k (by omega) hk (by omega)
 simpa using fun e=>h1 e.symm
theorem LL(s:aF)(a b c d:Nat):(rS s a b c d).ay.length≤a∧(rS s a b c d).queue.length≤b∧(rS s a b c d).aj.length≤c∧(rS s a b c d).cj.length≤c∧(rS s a b c d).aH.length≤d:=by
 unfold rS;refine ⟨?_,?_,?_,?_,?_⟩<;>simp only [List.length_map,List.length_take]<;>omega
theorem Ig{α:Type}(f:α→List UInt8)(n:Nat):∀(l:List α),(∀x∈l,(f x).length≤n)→(l.flatMap f).length≤l.length*n
 |[],_=>by simp
 |x::l,h=>by
  have h1:=h x mem_cons_self;have h2:=Ig f n l (fun y hy=>h y (mem_cons_of_mem _ hy));rw [List.flatMap_cons,List.length_append,List.length_cons,succ_mul]
  omega
theorem YL(h:du s):(r8 s).length≤140000000:=by
 have h1:=Ig dS 80 s.ay fun x hx=>by
  have k1:=wP (l:=x.filter) (h.sb x hx).b.f;have k2:=(h.sb x hx).l2;unfold dS;simp only [List.length_append,eU,List.length_cons,List.length_nil]
  omega
 have h2:=Ig eW 65537 s.queue fun x hx=>by
  have k1:=zO (h.qk x hx).l;have k2:=(h.qk x hx).l;unfold eW
  omega
 have h3:=Ig gE 65540 s.aj fun x hx=>by
  have k1:=zO (h.fk x hx).1.l;have k2:=(h.fk x hx).1.l;unfold gE;simp only [List.length_append,eU,List.length_cons,List.length_nil]
  omega
 have h4:=Ig kN 2 (bE s.aH) fun x hx=>by
  unfold kN;rw [eU]
  decide
 have k1:=wP (l:=s.dC) (by have:=h.cn;omega);have k2:=h.cn;have n1:=h.sn;have n2:=h.inv.qn;have n3:=h.inv.fn;have n4:=h.gn;have n5:=tW s.aH;rw [Q3];simp only [List.length_append,eU,List.length_cons,List.length_nil]
 omega
theorem ai1(b:Bool):IntKind.i64.wrap (cz [b8 (if b then 1 else 0)])=if b then 1 else 0:=by
 cases b
 ·exact BG 0 (by decide)
 ·exact BG 1 (by decide)
theorem ai2(b:Bool):((if b then (1:Int) else 0)==1)=b:=by cases b<;>rfl
theorem YM(S:Nat)(s:aF)(hs:du s)(w:World)(M:Nat→Prop)(h:SR w M S s)(hT:di w)(Y:List UInt8)(hY:r8 s=Y)(R:Ending→World→Prop)
 (hR:∀ad c w',w'.ownsRow w 5 1 (.slice ad Y.length c) Y.length (bv Y)→Below w w w'→R (.returned (.slice ad Y.length c)) w'):
 Calls prog 14 #[.pointer (some ⟨S,0,none⟩)] w R:=by
 have hit:∀x:Im,xA x→(eK x.note).length≤65535∧(jf x).length≤65535∧(x.note.props.flatMap bV).length≤65535∧x.ids.length≤255:=fun x hx=>⟨hx.k.nl,hx.l,hx.k.pl,by have:=hx.k.ni;omega⟩
 have n1:=hs.sn;have n2:=hs.inv.qn;have n3:=hs.inv.fn;have n4:=hs.gn;have n5:=hs.cn;exact ahz S s (by omega) (fun x hx=>(hs.sb x hx).b) (fun x hx=>hit x (hs.qk x hx)) (fun f hf=>hit f.item (hs.fk f hf).1) ⟨by omega,by omega,by omega,by omega⟩ w M h hT Y hY (by rw [←hY];exact YL hs) R hR
open List (drop_zero)
open Nat (ne_of_gt)
theorem ai3(s:aF)(hs:du s)(Y:List UInt8)(hY:r8 s=Y)(je:Y.length≤140000000)(v:Value)(w:World)(hv:Bs w v Y)(hT:di w)(E0:Nat→Prop)(hE:∀b,E0 b→b<w.heap.size)(R:Ending→World→Prop)
 (hR:∀S M w',SR w' M S {s with aH:=bE s.aH}→(∀b,E0 b→M b)→(∀b,M b→E0 b∨w.heap.size≤b)→Below w w w'→R (.returned (.tuple #[.pointer (some ⟨S,0,none⟩),.int .i64 0])) w'):
 Calls prog 13 #[v] w R:=by
 have HR:=ab hR;have HS:=ab hs;have HT:=ab hT;have HV:=ab hv;have HE:=ab hE;have Qo:=ab hY;have mC:=ab je;obtain ⟨va,vc,rfl,_⟩:=id hv;obtain ⟨b9,t_⟩:=ai s.ay.length;obtain ⟨nq,ug⟩:=ai s.queue.length;obtain ⟨nf,mn⟩:=ai s.aj.length;obtain ⟨ng,xv⟩:=ai s.aH.length;have ey:=Q3 s;rw [hY,t_,ug,mn,xv] at ey;obtain ⟨R4,Q4⟩:=ai ((bE s.aH).flatMap kN++ []);obtain ⟨R3,Q5⟩:=ai ([b8 (ng:Int)]++R4);obtain ⟨R2,rE⟩:=ai ([b8 (nf:Int)]++(s.aj.flatMap gE++R3));obtain ⟨R1,ud⟩:=ai ([b8 (nq:Int)]++(s.queue.flatMap eW++R2));obtain ⟨R0,Q6⟩:=ai ([b8 (b9:Int)]++(s.ay.flatMap dS++R1));rw [Q4,Q5,rE,ud,Q6] at ey;obtain ⟨E1,pq⟩:=ai (aR (bj s.cP) 8);obtain ⟨E2,pw⟩:=ai (aR (bj s.ends) 8);obtain ⟨ON,vF⟩:∃z:Int,(if s.eB then 1 else 0)=z:=⟨_,rfl⟩
 have QQ:Hid (IntKind.i64.wrap (cz E1)=s.cP):=by
  have h0:=hs.e0;have h1:=hs.e1;show _=_;rw [←pq];exact Hz 8 (by decide) s.cP h0 (by omega) (by omega)
 have QR:Hid (IntKind.i64.wrap (cz E2)=s.ends):=by
  have h0:=hs.d0;have h1:=hs.d1;show _=_;rw [←pw];exact Hz 8 (by decide) s.ends h0 (by omega) (by omega)
 have ai4:Hid (IntKind.i64.wrap (cz [b8 ON])=ON):=by show _=_;rw [←vF];exact ai1 s.eB
 have ai5:Hid ((ON==1)=s.eB):=by show _=_;rw [←vF];exact ai2 s.eB
 have vz:Hid (E1.length=8):=by show _=_;rw [←pq,eU]
 have mi:Hid (E2.length=8):=by show _=_;rw [←pw,eU]
 rw [pq,pw,vF] at ey;have C6:=ab Q4;have yQ:=ab Q5;have yM:=ab rE;have mo:=ab ud;have Cb:=ab Q6;have Fk:=ab t_;have rW:=ab ug;have oy:=ab mn;have xg:=ab xv;have e0:decide (s.cP<0)=false:=by have:=hs.e0;exact decide_eq_false (by omega)
 have e1:decide (4611686018427387904<s.cP)=false:=by have:=hs.e1;exact decide_eq_false (by omega)
 have d0:decide (s.ends<0)=false:=by have:=hs.d0;exact decide_eq_false (by omega)
 have d1:decide (4611686018427387904<s.ends)=false:=by have:=hs.d1;exact decide_eq_false (by omega)
 have nb:b9≤8∧nq≤8∧nf≤8∧ng≤8:=by
  have h1:=hs.sn;have h2:=hs.inv.qn;have h3:=hs.inv.fn;have h4:=hs.gn
  omega
 have qi:=ab nb;have Ab:=ab hs.cn;have Ft:=ab hs.cl;have b1:Below w w (w.alloc (Obj.cells #[.slice va Y.length vc,.bool false] 106)):=(Below.refl _ _).alloc (Nat.le_refl _) _;have fO:CR w 106 w.heap.size ⟨Y,false⟩ (w.alloc (Obj.cells #[.slice va Y.length vc,.bool false] 106)):=⟨⟨va,vc,heap_alloc_new _ _,hv⟩,b1,Nat.le_refl _,by simp only;omega⟩
 have gg:Hid (CR w 106 w.heap.size ⟨(b5 s.dC).1++(E1++(E2++([b8 ON]++R0))),false⟩ (w.alloc (Obj.cells #[.slice va Y.length vc,.bool false] 106))):=by
  show CR _ _ _ _ _;rw [←ey];exact fO
 have fV:Hid True:=trivial;clear hR hs hT hv hE hY je b1 fO ey Q4 Q5 rE ud Q6 pq pw vF t_ ug mn xv nb;go_enter func13,ntmps13;go_upto_region 2 with fail
 generalize w.alloc (Obj.cells #[.slice va Y.length vc,.bool false] 106)=w1 at gg⊢;obtain ⟨N,hN⟩:=ai w.heap.size;have vB:=ab hN;rw [hN] at gg⊢;have ai6:Hid (∀b,(E0 b∨b=N)→b≤N):=ab (fun b hb=>by
  rcases hb with hb|hb
  ·have:=HE.o_ b hb;omega
  ·omega)
 clear hN;go_upto_region 3 with (first
  |(go_at_call 44;go_must (refine WE N s.dC _ (Nat.le_trans Ab.o_ (by decide)) Ft.o_ w _ gg.o_ HT.o_ _ ?_);intro w2 b_ bM;have ek:=ab b_;clear b_ bM)
  |(go_at_call 6;go_must (refine aiN s.dC _ _ ?_);intro S M3 aqJ aqK aqL aqM aqN aqO aqP w3 nM hM yg tE an;have rO:Hid (RG w w3 (fun b=>E0 b∨b=N) N S (fw s.dC) _):=ab (aiO ek.o_ an nM hM ai6.o_ (.inr rfl) yg tE);clear nM hM yg tE an))
 go_upto_region 4 with (first
  |(have hq:=fV;go_at_call 45;go_must (refine ve N 8 E1 _ vz.o_ s.cP QQ.o_ w _ rO.o_.cr _ ?_);intro w4 iq cT;have oj:=ab (rO.o_.cur iq cT);clear hq fV iq cT)
  |(go_at_call 45;go_must (refine ve N 8 E2 _ mi.o_ s.ends QR.o_ w _ oj.o_.cr _ ?_);intro w5 qe fo;have rM:=ab (oj.o_.cur qe fo);clear qe fo))
 go_upto_region 5 with (first
  |(go_at_call 45;go_must (refine ve N 1 [b8 ON] _ rfl ON ai4.o_ w _ rM.o_.cr _ ?_);intro w6 oC bI;have vD:=ab (rM.o_.cur oC bI);clear oC bI)
  |(go_at_call 46;go_must (refine aiK w _ _ N S (fw s.dC) _ vD.o_ s.cP s.ends _ (rS s 0 0 0 0) (by rw [ai5.o_];exact aiP s) _ ?_);intro w7 iu;have vH:=ab iu;clear iu))
 have c1:=vH.o_.cells.1;have f1:=vH.o_.cells.2;go_upto_region 6 with fail
 have dk:=vH.o_.mark;generalize w7.setCell ⟨N,1,none⟩ (.bool false)=w8 at dk⊢;rw [←Cb.o_] at dk;have p8:=ab dk;clear dk c1 f1 e0 e1 d0 d1;go_wp2_with (first
  |(go_at_call 45;go_must (refine ve N 1 [b8 (b9:Int)] _ rfl (b9:Int) (BG b9 (by have:=qi.o_.1;omega)) w _ p8.o_.cr _ ?_);intro w9 nA bo;have s_:=ab (p8.o_.cur nA bo);clear nA bo))
 go_loopg [55] b9 (fun gn i wr=>∃k:Nat,k≤b9∧gn=b9 - k∧i= .int .i64 k∧Hid (RG w wr (fun b=>E0 b∨b=N) N S (rS s k 0 0 0) ((s.ay.drop k).flatMap dS++R1)))
 case atStart=>exact ⟨0,Nat.zero_le _,by omega,rfl,by rw [drop_zero];exact s_⟩
 case round=>
  obtain ⟨k,hk,rfl,rfl,HG⟩:=hrel;obtain ⟨wo,rfl⟩:∃x,x=wr:=⟨_,rfl⟩
  clear gg ek rO oj rM vD vH p8 s_;have fg:=qi.o_.1;by_cases ao:k<b9
  ·have bd:(k:Int)<(b9:Int):=by omega
   have jk:k<s.ay.length:=by have:=Fk.o_;omega
   have hg:=HG.o_;rw [LJ dS s.ay k jk R1] at hg;have Er:=aiU HS.o_ jk;obtain ⟨x,hx⟩:=ai (s.ay[k]);have Ih:BH x:=by rw [←hx];exact HS.o_.sb _ (List.getElem_mem jk)
   rw [hx] at hg Er;have ui:=ab hg;have vg:=ab Er;have BJ:=ab Ih;have jo:=ab (aiS HS.o_.ss k);have LM:Hid ((rS s k 0 0 0).ay.length≤100000):=Nat.le_trans (LL s k 0 0 0).1 (by have:=qi.o_.1;omega);clear hg Er hx Ih jk;go_upto_region 9 with (first
    |(go_at_call 48;go_must (refine ahS N x BJ.o_ _ w _ ui.o_.cr HT.o_ _ ?_);intro eo sP iE;have Q7:=ab (ui.o_.cur sP iE);clear sP iE)
    |(go_at_call 47;go_must (refine aiI w _ _ N S (rS s k 0 0 0) _ Q7.o_ x (rS s (k+1) 0 0 0) true true vg.o_ jo.o_ LM.o_ _ ?_);intro dR mQ;have DL:=ab mQ;clear mQ))
   have c1:=DL.o_.cells.1;have f1:=DL.o_.cells.2;go_upto_region 10 with fail
   have DC:=ab DL.o_.mark;generalize dR.setCell ⟨N,1,none⟩ (.bool false)=fP at DC⊢;clear c1 f1;go_wp2;go_roundg (b9 - (k+1))
   case measure=>omega
   case rel=>exact ⟨k+1,by omega,rfl,by go_num,DC⟩
  ·have bd:¬(k:Int)<(b9:Int):=by omega
   have re:Hid (RG w wo (fun b=>E0 b∨b=N) N S (rS s b9 0 0 0) ([b8 (nq:Int)]++(s.queue.flatMap eW++R2))):=by
    have:=HG.o_;rw [LK dS s.ay k (by have:=Fk.o_;omega) R1,show k=b9 by omega,←mo.o_] at this;exact this
   clear HG;go_wp2_with (first
    |(go_at_call 45;go_must (refine ve N 1 [b8 (nq:Int)] _ rfl (nq:Int) (BG nq (by have:=qi.o_.2.1;omega)) w _ re.o_.cr _ ?_);intro lQ Ii iG;have vJ:=ab (re.o_.cur Ii iG);clear Ii iG))
   go_loopg [78] nq (fun gn i wr=>∃k:Nat,k≤nq∧gn=nq - k∧i= .int .i64 k∧Hid (RG w wr (fun b=>E0 b∨b=N) N S (rS s b9 k 0 0) ((s.queue.drop k).flatMap eW++R2)))
   case atStart=>exact ⟨0,Nat.zero_le _,by omega,rfl,by rw [drop_zero];exact vJ⟩
   case round=>
    clear hk ao bd re vJ;obtain ⟨k,hk,rfl,rfl,HG⟩:=hrel;obtain ⟨wo,rfl⟩:∃x,x=wr:=⟨_,rfl⟩
    have aqQ:=qi.o_.2.1;by_cases ao:k<nq
    ·have bd:(k:Int)<(nq:Int):=by omega
     have jk:k<s.queue.length:=by have:=rW.o_;omega
     have hg:=HG.o_;rw [LJ eW s.queue k jk R2] at hg;have Q8:=aiV s b9 jk;obtain ⟨x,hx⟩:=ai (s.queue[k]);have Ih:xA x:=by rw [←hx];exact HS.o_.qk _ (List.getElem_mem jk)
     rw [hx] at hg Q8;have ui:Hid (RG w wo (fun b=>E0 b∨b=N) N S (rS s b9 k 0 0) ((cS (jf x)).1++((s.queue.drop (k+1)).flatMap eW++R2))):=hg;have ai7:=ab Q8;have BJ:=ab Ih;have LM:Hid ((rS s b9 k 0 0).queue.length<8):=by
      have h1:=(LL s b9 k 0 0).2.1;have h2:=qi.o_.2.1;show _<_
      omega
     clear hg Q8 hx Ih jk;go_upto_region 14 with (first
      |(go_at_call 49;go_must (refine X7 N x BJ.o_.k BJ.o_.l _ w _ ui.o_.cr HT.o_ _ ?_);intro da dc pa pc ia ic eo Ag sP iE;have tR:=ab Ag;have Q7:=ab (ui.o_.cur sP iE);clear Ag sP iE)
      |(go_at_call 8;go_must (refine aiJ w _ _ N S (rS s b9 k 0 0) _ Q7.o_ x _ _ _ LM.o_ (tR.o_.c BJ.o_.k.b) BJ.o_.k.b (rS s b9 (k+1) 0 0) ai7.o_ _ ?_);intro dR mQ;have DL:=ab mQ;have c1:=mQ.cells.1;have f1:=mQ.cells.2;clear mQ))
     have DC:=ab DL.o_.mark;generalize dR.setCell ⟨N,1,none⟩ (.bool false)=fP at DC⊢;clear c1 f1;go_wp2;go_roundg (nq - (k+1))
     case measure=>omega
     case rel=>exact ⟨k+1,by omega,rfl,by go_num,DC⟩
    ·have bd:¬(k:Int)<(nq:Int):=by omega
     have re:Hid (RG w wo (fun b=>E0 b∨b=N) N S (rS s b9 nq 0 0) ([b8 (nf:Int)]++(s.aj.flatMap gE++R3))):=by
      have:=HG.o_;rw [LK eW s.queue k (by have:=rW.o_;omega) R2,show k=nq by omega,←yM.o_] at this;exact this
     clear HG;go_wp2_with (first
      |(go_at_call 45;go_must (refine ve N 1 [b8 (nf:Int)] _ rfl (nf:Int) (BG nf (by have:=qi.o_.2.2.1;omega)) w _ re.o_.cr _ ?_);intro Ah YN jt;have uj:=ab (re.o_.cur YN jt);clear YN jt))
     go_loopg [97] nf (fun gn i wr=>∃k:Nat,k≤nf∧gn=nf - k∧i= .int .i64 k∧Hid (RG w wr (fun b=>E0 b∨b=N) N S (rS s b9 nq k 0) ((s.aj.drop k).flatMap gE++R3)))
     case atStart=>exact ⟨0,Nat.zero_le _,by omega,rfl,by rw [drop_zero];exact uj⟩
     case round=>
      clear hk ao bd re uj;obtain ⟨k,hk,rfl,rfl,HG⟩:=hrel;obtain ⟨wo,rfl⟩:∃x,x=wr:=⟨_,rfl⟩
      have aqR:=qi.o_.2.2.1;by_cases ao:k<nf
      ·have bd:(k:Int)<(nf:Int):=by omega
       have jk:k<s.aj.length:=by have:=oy.o_;omega
       have hg:=HG.o_;rw [LJ gE s.aj k jk R3] at hg;have LN:=aiW s b9 nq jk;have LO:=aiY HS.o_.inv b9 nq jk;have LP:=HS.o_.fk _ (List.getElem_mem jk);have Ij:=HS.o_.inv.rg _ (List.getElem_mem jk);have rP:=List.take_succ_eq_append_getElem jk;obtain ⟨⟨id,state,x⟩,hx⟩:∃x,s.aj[k]=x:=⟨_,rfl⟩
       rw [hx] at hg LN LO LP Ij rP;simp only at LN LO LP Ij;have ui:=ab hg;have Fj:=ab LN;have tX:=ab LO;have Ik:=ab LP;have DM:=ab rP;have cQ:1≤id:=Ij.1;have ai8:id≤8:=Ij.2;have uX:Hid ((rS s b9 nq k 0).cj.length≤100000):=Nat.le_trans (LL s b9 nq k 0).2.2.2.1 (by omega);obtain ⟨M,NB,MB,GB,GM,sv,qv,fv,q_⟩:=hg.ex;have HX:=ab q_;have aqS:Hid True:=trivial;clear hg LN LO LP Ij rP hx q_ HG jk;go_upto_region 18 with (first
        |(go_at_call 50;go_must (refine ahY N id state x Ik.o_.1.k Ik.o_.1.l (by omega) ai8 Ik.o_.2 _ w _ ui.o_.cr HT.o_ _ ?_);intro da dc pa pc ia ic fP Ag GQ om;have tV:Hid (db fP M (.slice da x.note.az.length dc,.slice pa x.note.props.length pc,.slice ia x.ids.length ic) x):=ab ⟨(Ag.wr HX.o_.hx.lt).imp fun y hy=>hy.c Ik.o_.1.k.b,Ik.o_.1.k.b⟩;have YO:=ab (HX.o_.cur (Or.inr rfl) om ui.o_.cr.kind);have YP:=ab GQ;clear Ag GQ om))
       have LQ:=heap_alloc_new fP (Obj.cells (cD id state x da dc pa pc ia ic) 51);have Il:=(Below.refl fP fP).alloc (Nat.le_refl _) (Obj.cells (cD id state x da dc pa pc ia ic) 51);have Q9:∀b,M b→b<fP.heap.size:=YO.o_.hx.lt;have Q_:=YP.o_.lt;generalize fP.alloc (Obj.cells (cD id state x da dc pa pc ia ic) 51)=Bj at LQ Il⊢;obtain ⟨T,dN⟩:=ai fP.heap.size;have Q':=ab (YO.o_.below Il);have YQ:=ab (YP.o_.below Il);have YR:=ab (tV.o_.sep (.cU Il));rw [dN] at LQ Q9 Q_⊢;have YT:=ab LQ;have ai9:Hid (∀b,M b→T≠b):=fun b hb=>by have h1:=Q9 b hb;omega
       have lu:Hid (T≠N):=ne_of_gt Q_;have LM:Hid (S≠N):=ne_of_gt Q'.o_.s1;have Io:=(Below.refl Bj Bj).drew;have Ip:=Q'.o_.below Io;have LR:=YQ.o_.below Io;have YU:=YR.o_.sep (.cU Io);have Ra:=aA YT.o_ Io;obtain ⟨aqT,aqU,Rc,_⟩:=LR.row;have YV:=And.intro (dy Ip.hx.hS).1.1 (And.intro (af Bj.drew T 0 _ _ _ Ra) (And.intro (af Bj.drew N 1 _ _ _ Rc) (aB Rc 1)));clear Io Rc LQ Il dN Q9 Q_;go_cut [] from 101 to 118 (fun wx=>Hid (CR w 106 N ⟨(s.aj.drop (k+1)).flatMap gE++R3,false⟩ wx)∧Hid (qx wx (fun b=>E0 b∨b=N) N S M NB MB GB GM sv qv fv (rH s b9 nq k))∧Hid (db wx M (.slice da x.note.az.length dc,.slice pa x.note.props.length pc,.slice ia x.ids.length ic) x)∧Hid (wx.heap[T]? =some (Obj.cells (cD id state x da dc pa pc ia ic) 51)))
       case first=>
        go_region_held3 (fun x=>x.cell? ⟨S,0,none⟩=some (.pointer (some ⟨NB,0,none⟩))∧x.cell? ⟨T,0,none⟩=some (.int .i64 id)∧x.cell? ⟨N,1,none⟩=some (.bool false)∧x.frozen? ⟨N,1,none⟩=false)
         (first|with_reducible exact YV|with_reducible exact aja|with_reducible exact vK|go_keep)
         (first
          |(go_at_call 51;refine JQ NB MB _ id cQ (by omega) tX.o_ uX.o_ _ Ip.hx.hn _ ?_;intro GR ajb YW;obtain ⟨Re,ajc,ajd⟩:=Ip.hold LR.lt YW ajb Fj.o_;have Rf:=LR.over ajd;have aje:=YU.sep ajc;have YX:=dQ YW Ra (ai9.o_ MB Ip.hx.mN);obtain ⟨aqV,aqW,YY,_⟩:=Rf.row;have aja:=And.intro (dy Re.hx.hS).1.1 (And.intro (af GR T 0 _ _ _ YX) (And.intro (af GR N 1 _ _ _ YY) (aB YY 1)));have iG:=bL GR ⟨N,1,none⟩ (.bool false);have YZ:=Re.cur (Or.inr rfl) iG Rf.kind;have Ii:=Rf.mark false;have ajf:=aje.sep (.kn iG (fun j hj=>by cases hj;exact Re.em N (Or.inr rfl)));have Y0:=dQ iG YX lu.o_;obtain ⟨aqX,aqY,Y1,_⟩:=Ii.row;have vK:=And.intro (dy YZ.hx.hS).1.1 (And.intro (af _ T 0 _ _ _ Y0) (And.intro (af _ N 1 _ _ _ Y1) (aB Y1 1)))))
        all_goals
         go_wp2_with fail;go_meet;exact ⟨ab Ii,ab YZ,ab ajf,ab Y0⟩
       obtain ⟨ajg,ajh,aji,ajj⟩:=hcut;obtain ⟨qf,rfl⟩:∃x,x=wc:=⟨_,rfl⟩
       clear Q' YQ YR YT Ip LR YU Ra YV;go_upto_region 19 with fail
       have Iq:=(Below.refl qf qf).drew;have Rh:=ajh.o_.below Iq;have Y2:=aA ajj.o_ Iq;have dW:Below qf.drew.heap.size qf.drew (qf.drew.alloc (Obj.cells (cD id state x da dc pa pc ia ic) 51)):=(Below.refl _ _).alloc (Nat.le_refl _) _;have gQ:=ab (Rh.below dW);have pR:=ab ((ajg.o_.below Iq).below dW);have qR:=ab ((aji.o_.sep (.cU Iq)).sep (.cU dW));obtain ⟨fQ,jG,fx,kL,_⟩:=gQ.o_.hx.hf;have dI:(rH s b9 nq k).aj.length=k:=by
        show (s.aj.take k).length=k;rw [List.length_take];have:=oy.o_
        omega
       rw [dI] at fx;obtain ⟨fa,fc,mD⟩:=bF fx;subst mD;have pD:=ab fx;have wV:=ab jG;have vk:=ab kL;have c7:qf.drew.cell? ⟨S,7,none⟩=some (.slice fa k fc):=(dy Rh.hx.hS).2.2.2.1;have ER:(qf.alloc (Obj.cells (cD id state x da dc pa pc ia ic) 51)).drew.cell? ⟨S,7,none⟩=some (.slice fa k fc):=cell_later dW c7;obtain ⟨t0,t1,t2,t3,t4,t5,t6,t7,t8,t9,t10,t11,t12,t13,t14,t15⟩:=ji Y2;clear Rh Y2 jG fx kL dI Iq dW;go_region_law (first
        |refine gx (by rfl) (.tmp 123) (.tmp 125) 48 (by rfl) 0 51 (Value.agg lT) 16 200 underlying48 x_ rfl (by decide) fa k fc _ (by rfl) pD.o_ (some ⟨qf,0,none⟩) 1 1 (cD id state x da dc pa pc ia ic) (by rfl) (cO qf.drew (cD id state x da dc pa pc ia ic) 51 16 1 rfl) (KN _ _ _ _ _ _ _) (fun h=>by cases h) (by unfold maxLen;omega) (by omega) (Nat.zero_le _) ?_;intro fM yC w6 mM bI zR;have r6:=eG bI gQ.o_.hx.hS (dU gQ.o_.hx.hS pD.o_ (by decide));have e7:=(dy r6).2.2.2.1;have f7:=aB r6 7)
       all_goals
        obtain ⟨⟨M7,fN⟩,aZ⟩:=gQ.o_.qN (fs:=s.aj.take (k+1)) (ps:=fQ++ [((.slice da x.note.az.length dc,.slice pa x.note.props.length pc,.slice ia x.ids.length ic),⟨id,state,x⟩)]) pR.o_.lt (by rw [List.map_append,wV.o_,DM.o_];rfl) (fun p hp=>by
         rcases List.mem_append.1 hp with hp|hp
         ·exact vk.o_ p hp
         ·obtain rfl:=List.mem_singleton.1 hp;exact qR.o_) (by
         have e:(s.aj.take (k+1)).length=k+1:=by rw [List.length_take];have:=oy.o_;omega
         rw [e,List.flatMap_append]
         simpa [bH,cL] using mM) bI zR (aiX s b9 nq)
        have ajk:Hid (RG w _ (fun b=>E0 b∨b=N) N S (rS s b9 nq (k+1) 0) ((s.aj.drop (k+1)).flatMap gE++R3)):=ab ⟨pR.o_.over aZ,.inr rfl,_,_,_,_,_,_,_,_,fN⟩;clear fN aZ mM bI zR r6 t0 t1 t2 t3 t4 t5 t6 t7 t8 t9 t10 t11 t12 t13 t14 t15;go_wp2;go_roundg (nf - (k+1))
        case measure=>omega
        case rel=>exact ⟨k+1,by omega,rfl,by go_num,ajk⟩
      ·have bd:¬(k:Int)<(nf:Int):=by omega
       have re:Hid (RG w wo (fun b=>E0 b∨b=N) N S (rS s b9 nq nf 0) ([b8 (ng:Int)]++R4)):=by
        have:=HG.o_;rw [LK gE s.aj k (by have:=oy.o_;omega) R3,show k=nf by omega,←yQ.o_] at this;exact this
       clear HG;go_wp2_with (first
        |(go_at_call 45;go_must (refine ve N 1 [b8 (ng:Int)] _ rfl (ng:Int) (BG ng (by have:=qi.o_.2.2.2;omega)) w _ re.o_.cr _ ?_);intro LU Y3 sg;have LV:=ab (re.o_.cur Y3 sg);clear Y3 sg))
       go_loopg [132] ng (fun gn i wr=>∃k:Nat,k≤ng∧gn=ng - k∧i= .int .i64 k∧Hid (RG w wr (fun b=>E0 b∨b=N) N S (rS s b9 nq nf k) (((bE s.aH).drop k).flatMap kN++ [])))
       case atStart=>exact ⟨0,Nat.zero_le _,by omega,rfl,by rw [drop_zero,C6.o_];exact LV⟩
       case round=>
        clear hk ao bd re LV;obtain ⟨k,hk,rfl,rfl,HG⟩:=hrel;obtain ⟨wo,rfl⟩:∃x,x=wr:=⟨_,rfl⟩
        have aqZ:=qi.o_.2.2.2;have sS:Hid ((bE s.aH).length=ng):=by show _=_;rw [tW];exact xg.o_
        by_cases ao:k<ng
        ·have bd:(k:Int)<(ng:Int):=by omega
         have jk:k<(bE s.aH).length:=by have:=sS.o_;omega
         have hg:=HG.o_;rw [LJ kN (bE s.aH) k jk []] at hg;have Ri:=aiZ s b9 nq nf jk;have Rj:=ai0 HS.o_ b9 nq nf jk;have LY:=HS.o_.gr _ ((rV s.aH).mem_iff.1 (List.getElem_mem jk));obtain ⟨x,hx⟩:=ai ((bE s.aH)[k]);rw [hx] at hg Ri Rj LY;have ui:Hid (RG w wo (fun b=>E0 b∨b=N) N S (rS s b9 nq nf k) (aR (bj x) 2++(((bE s.aH).drop (k+1)).flatMap kN++ []))):=hg;have LZ:=ab Ri;have lv:=ab Rj;have aI:=LY.1;have bn:=LY.2;have HV:Hid (IntKind.i64.wrap (cz (aR (bj x) 2))=x):=ab (Hz 2 (by decide) x (by omega) (by omega) (by omega));have QG:Hid ((rS s b9 nq nf k).aH.length<8):=by
          have h1:=(LL s b9 nq nf k).2.2.2.2;show _<_
          omega
         clear hg Ri Rj LY hx jk HG;go_upto_region 24 with (first
          |(go_at_call 45;go_must (refine ve N 2 (aR (bj x) 2) _ (eU _ _) x HV.o_ w _ ui.o_.cr _ ?_);intro ajl Y4 Ir;have ajm:=ab (ui.o_.cur Y4 Ir);clear Y4 Ir)
          |(go_at_call 52;go_must (refine aiL w _ _ N S (rS s b9 nq nf k) _ ajm.o_ x lv.o_ QG.o_ aI bn (rS s b9 nq nf (k+1)) LZ.o_ _ ?_);intro ajn Y5;have Rk:=ab Y5;clear Y5))
         have c1:=Rk.o_.cells.1;have f1:=Rk.o_.cells.2;go_upto_region 25 with fail
         have Y6:=ab Rk.o_.mark;generalize ajn.setCell ⟨N,1,none⟩ (.bool false)=aq0 at Y6⊢;clear c1 f1;go_wp2;go_roundg (ng - (k+1))
         case measure=>omega
         case rel=>exact ⟨k+1,by omega,rfl,by go_num,Y6⟩
        ·have bd:¬(k:Int)<(ng:Int):=by omega
         have re:Hid (RG w wo (fun b=>E0 b∨b=N) N S {s with aH:=bE s.aH} []):=by
          have:=HG.o_;rw [LK kN (bE s.aH) k (by have:=sS.o_;omega) [],show k=ng by omega,aiQ HS.o_.inv (Nat.le_of_eq Fk.o_) (Nat.le_of_eq rW.o_) (Nat.le_of_eq oy.o_) (Nat.le_of_eq xg.o_)] at this;exact this
         obtain ⟨M,mB,Fu,It⟩:=re.o_.sr;obtain ⟨la,lc,fb,_⟩:=re.o_.cr.row;have c1:wo.cell? ⟨N,1,none⟩=some (.bool false):=af wo N 1 _ _ _ fb;have c0:wo.cell? ⟨N,0,none⟩=some (.slice la 0 lc):=af wo N 0 _ _ _ fb;have yp:=ab mB;have Rl:=ab Fu;have ajo:=ab It;have vL:=ab re.o_.cr.low;have kP:=ab HS.o_.laid;have ajp:Hid (r8 {s with aH:=bE s.aH}=Y):=by show _=_;rw [aiR];exact Qo.o_
         clear HG re mB Fu It fb;go_wp2_with (first
          |(go_at_call 14;go_must (refine YM S _ kP.o_ _ M yp.o_ (HT.o_.below vL.o_) Y ajp.o_ _ ?_);intro ya yc aq1 Y7 Rm;have ajq:=ab (cp Y7);have ajr:=ab (yp.o_.below Rm);have Y8:=ab (aD vL.o_ Rm vL.o_.size);clear Y7 Rm)
          |(go_at_call 53;go_must (refine KH _ _ Y Y _ ajq.o_ (HV.o_.below Y8.o_) _ ?_);rw [beq_self_eq_true]))
         exact HR.o_ S M _ ajr.o_ (fun b hb=>Rl.o_ b (.inl hb)) (fun b hb=>by
          have h1:=vB.o_;rcases ajo.o_ b hb with (h2|h2)|h2
          ·exact .inl h2
          ·exact .inr (by omega)
          ·exact .inr (by omega)) Y8.o_
variable{n:Nat}{ad:Option Addr}
def d_(l:List UInt8):List UInt8:=(l.take 30).map fun b=>b8 (97+(b.toNat:Int) % 26)
theorem oG(l:List UInt8):(d_ l).length≤30:=by unfold d_;rw [List.length_map,List.length_take];omega
theorem L0(l m:List UInt8):str l++str m=str (l++m):=by
 simp only [str];apply ByteArray.ext;simp
theorem ajs{c:Nat}{l:List UInt8}(h:Bs w (.slice ad n c) l)(hk:k<l.length):∃b o,ad=some ⟨b,o,none⟩∧w.cell? ⟨b,o+k,none⟩=some (.int .u8 ((l[k]).toNat:Int)):=by
 obtain ⟨_,hr,_⟩:=h.parts;obtain ⟨b,o,rfl,hc⟩:=hr.2 (by omega);refine ⟨b,o,rfl,?_⟩;rw [hc k (by omega)];simp [bv,hk]
theorem DN(v:Value)(l P:List UInt8)(hP:d_ l=P)(w:World)(hv:Bs w v l)(R:Ending→World→Prop)
 (hR:∀w',Below w w w'→R (.returned (.string (str P))) w'):
 Calls prog 38 #[v] w R:=by
 have HR:=ab hR;have HV:=ab hv;have HP:=ab hP;obtain ⟨va,vc,rfl,_⟩:=hv;clear hR hP;go_enter func38,ntmps38;go_wp2;go_loopg [3,4] (min l.length 30) (fun gn r i wr=>∃(k:Nat)(Q:List UInt8),k≤min l.length 30∧gn=min l.length 30 - k∧i= .int .i64 k∧r= .string (str Q)∧Hid ((l.take k).map (fun b=>b8 (97+(b.toNat:Int) % 26))=Q)∧Hid (Below w w wr))
 case atStart=>exact ⟨0,[],Nat.zero_le _,by omega,rfl,rfl,ab rfl,ab (Below.refl _ _)⟩
 case round=>
  obtain ⟨k,Q,hk,rfl,rfl,rfl,HQ,HB⟩:=hrel;obtain ⟨wo,rfl⟩:∃x,x=wr:=⟨_,rfl⟩
  by_cases ao:k<min l.length 30
  ·have ib:k<l.length:=by omega
   have bd:(k:Int)<(l.length:Int):=by omega
   have ajt:(k:Int)<30:=by omega
   obtain ⟨g,o,rfl,hc⟩:=ajs (HV.o_.below HB.o_) ib;have HT:Hid ((l.take (k+1)).map (fun b=>b8 (97+(b.toNat:Int) % 26))=Q++ [b8 (97+((l[k]).toNat:Int) % 26)]):=by
    show _=_;rw [List.take_succ_eq_append_getElem ib,List.map_append,HQ.o_]
    rfl
   obtain ⟨x,hx⟩:=ai (l[k]);rw [hx] at hc HT;have aju:=x.toNat_lt;have gh:((b8 (97+(x.toNat:Int) % 26)).toNat:Int)=97+(x.toNat:Int) % 26:=by rw [uE];omega
   obtain ⟨y,hy⟩:=ai (b8 (97+(x.toNat:Int) % 26));rw [hy] at gh HT;have k7:(convert 22 9 (.slice (some ⟨wo,0,none⟩) 1 1)).run prog (wo.alloc (Obj.cells #[Value.int .u8 (97+(x.toNat:Int) % 26)] 5))= .ok (.string (str [y])) (wo.alloc (Obj.cells #[Value.int .u8 (97+(x.toNat:Int) % 26)] 5)):=ru (P:=prog) underlying22 underlying5 underlying9 (acp (w:=wo) (e:=5) #[Value.int .u8 (97+(x.toNat:Int) % 26)] [y] (by rw [←gh];rfl) (by simp));have aY:=ab (aD HB.o_ ((Below.refl wo wo).alloc (Nat.le_refl _) (Obj.cells #[Value.int .u8 (97+(x.toNat:Int) % 26)] 5)) HB.o_.size);have L3:Q.length≤30:=by rw [←HQ.o_,List.length_map,List.length_take];omega
   have ajv:¬(str Q).size+(str [y]).size > 9223372036854775807:=by show¬(Q.length+1 > 9223372036854775807);omega
   have Y9:=L0 Q [y];clear hx HQ gh hy aju L3;go_wp2;go_roundg (min l.length 30 - (k+1))
   case measure=>omega
   case rel=>exact ⟨k+1,Q++ [y],by omega,rfl,by go_num,rfl,HT,aY⟩
  ·have iC:k=min l.length 30:=by omega
   have cw:Q=P:=by
    rw [←HQ.o_,←HP.o_,iC];unfold d_;by_cases h:l.length≤30
    ·rw [Nat.min_eq_left h,List.take_of_length_le (Nat.le_refl _),List.take_of_length_le h]
    ·rw [Nat.min_eq_right (by omega)]
   subst cw;by_cases ib:k<l.length
   ·have bd:(k:Int)<(l.length:Int):=by omega
    have ajt:¬(k:Int)<30:=by omega
    go_wp2;exact HR.o_ _ HB.o_
   ·have bd:¬(k:Int)<(l.length:Int):=by omega
    go_wp2;exact HR.o_ _ HB.o_
end Go.Proofs.YtgimbocoamnkjaaGreatDoor
