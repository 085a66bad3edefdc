/- A part of the proof of SessionReads; no conditions. -/
import Derived.Test.YtgimbocoamnkjaaGreatDoorM21
import Derived.Test.YtgimbocoamnkjaaGreatDoorM20
import Derived.Test.YtgimbocoamnkjaaGreatDoorM19
set_option maxRecDepth 100000
set_option maxHeartbeats 16000000
namespace Go.Proofs.YtgimbocoamnkjaaGreatDoor
open _root_.Go.Proofs.Tryz
open Nat (lt_irrefl)
variable{x:Im}{K N Rb T:Nat}{M M' Ms:Nat→Prop}{s s':az}{fv gv qv sv dG:Value}{aw4 w w' w1:World}
open Go.RowKit
theorem Sep.Wh(hf:∃m,M m∧m≤K)(G:qj (bw w K))(A:w.grownBy w' (some K)):Sep (Wr w M) (Wr w' M) w w':=
 ⟨A.os,A.tape,A.output,A.size,fun b U hn=>A.block b U (fun e=>hn (Option.some.inj e▸ .inr ⟨G,hf⟩)),fun b U=>by
  by_cases au:b<w.heap.size
  ·rcases U with U|⟨h1,h2⟩
   ·exact .inl (.inl U)
   ·by_cases e:b=K
    ·subst e;exact .inl (.inr ⟨G,hf⟩)
    ·refine .inl (.inr ⟨?_,h2⟩);have e2:bw w' b=bw w b:=by
      unfold bw;rw[A.block b au (fun h=>e (Option.some.inj h))]
     rw[←e2];exact h1
  ·exact .inr (by omega),fun awX ⟨m,hm,hl⟩=>by
  rcases hm with hm|⟨_,m2,fh,fw⟩
  ·exact⟨m,.inl hm,hl⟩
  exact⟨m2,.inl fh,aJ fw hl⟩⟩
theorem RX.other(h:RX w Ms M Rb sv qv fv gv s)(G:qj (bw w N))(hM:¬M N)(hf:∃m,Ms m∧m≤N)(A:w.grownBy w' (some N)):RX w' Ms M Rb sv qv fv gv s:=by
 have key:∀b,b<w.heap.size→b≠N→w'.heap[b]? =w.heap[b]?:=fun b U bf=>A.block b U (fun e=>bf (Option.some.inj e));have own:∀b,M b→w'.heap[b]? =w.heap[b]?:=fun b U=>key b (h.lt b U) (fun e=>hM (e▸U));have W:=Sep.Wh hf G A;refine⟨(own Rb h.mR).trans h.hS,jO h.W (fun k G=>own k (h.ms k G)),?_,?_,jO h.A (fun k dS=>key k (h.A.lt k dS).2 (fun e=> ?_)),h.mR,h.ms,h.mq,h.mf,h.mg,fun b U=>by rw[vN (own b U)];exact h.kd b U,h.lo,h.qG,fun b U=>eV (h.lt b U) A.size⟩
 ·obtain⟨ps,h1,h2,h3⟩:=h.hq;exact⟨ps,h1,h2.wH (fun k dS=>own k (h.mq k dS)),fun p hp=>⟨(h3 p hp).1.sep W,(h3 p hp).2⟩⟩
 ·obtain⟨ps,h1,h2,h3⟩:=h.hf;exact⟨ps,h1,jO h2 (fun k dS=>own k (h.mf k dS)),fun p hp=>⟨(h3 p hp).1.sep W,(h3 p hp).2⟩⟩
 have h2:=eJ h.A k dS;rw[e] at h2;exact G.2.2 h2
theorem RX.asV{ss:List Sb}(h:RX w Ms M Rb sv qv fv gv s)(au:∀b,Ms b→b<w.heap.size)
 (hr:w1.ownsRow 0 64 6 dG ss.length (ss.flatMap aT)) (ha:C2 w w1 sv dG):
 ∃M',RX (w1.setCell ⟨Rb,4,none⟩ dG) Ms M' Rb dG qv fv gv {s with al:=ss}∧Sep M M' w (w1.setCell ⟨Rb,4,none⟩ dG):=by
 have A:=ha.grown;have asW:∀k,sv.ownBlock=some k→bw w k=64+2:=eJ h.W;have bZ:(dG.ownBlock=sv.ownBlock∧w.grownBy w1 sv.ownBlock)∨((∃k,dG.ownBlock=some k∧w.heap.size≤k)∧w.grownBy w1 none):=by
  rcases ha with⟨b,n,n',c,rfl,rfl,h3⟩|h3
  ·exact .inl ⟨rfl,h3⟩
  exact .inr h3
 obtain⟨K,j9,hK⟩:∃K,w.grownBy w1 (some K)∧(M K∧bw w K=64+2∨w.heap.size≤K):=by
  cases hv:sv.ownBlock with
  |none=>exact⟨w.heap.size,AE (by rw[hv] at A;exact A),.inr bj⟩
  |some k=>exact⟨k,by rw[hv] at A;exact A,.inl ⟨h.ms k hv,asW k hv⟩⟩
 have jG:∀k,dG.ownBlock=some k→M k∨w.heap.size≤k:=fun k G=>by
  rcases bZ with⟨e,_⟩|⟨⟨k',e,fw⟩,_⟩
  ·exact .inl (h.ms k (e▸G))
  rw[e] at G;cases G;exact .inr fw
 let M':Nat→Prop:=fun b=>M b∨dG.ownBlock=some b
 have cH:Sep M M' w w1:=⟨j9.os,j9.tape,j9.output,j9.size,fun b U hM=>j9.block b U (fun e=>by
  have e:=Option.some.inj e;rcases hK with⟨G,_⟩|G
  ·exact hM (e▸G)
  ·omega),fun b U=>by
  rcases U with U|U
  ·exact .inl U
  exact jG b U,fun awX ⟨m,hm,hl⟩=>⟨m,.inl hm,hl⟩⟩
 have bf:∀b,b<w.heap.size→bw w b≠64+2→w1.heap[b]? =w.heap[b]?:=fun b U G=>j9.block b U (fun e=>by
  have e:=Option.some.inj e;rcases hK with⟨_,eB⟩|eB
  ·exact G (e▸eB)
  omega)
 have jJ:=(bf Rb h.rb (by rw[h.xW];decide)).trans h.hS;have iS:bw w1 Rb=62+2:=j6 jJ;have bD:=br w1 ⟨Rb,4,none⟩ dG;have bF:Sep M' M' w1 (w1.setCell ⟨Rb,4,none⟩ dG):= .kV bD (fun k G=>by cases G;exact .inl h.mR);have W:=cH.trans bF;have aI:∀b,b<w1.heap.size→bw w1 b≠62+2→(w1.setCell ⟨Rb,4,none⟩ dG).heap[b]? =w1.heap[b]?:=fun b U G=>bD.block b U (fun e=>G (Option.some.inj e▸iS));have both:∀b,b<w.heap.size→bw w b≠64+2→bw w b≠62+2→(w1.setCell ⟨Rb,4,none⟩ dG).heap[b]? =w.heap[b]?:=fun b U k1 k2=>by
  exact Ez
 have xW:∀b,dG.ownBlock=some b→bw (w1.setCell ⟨Rb,4,none⟩ dG) b=64+2:=fun b U=>by
  have h1:=eJ hr b U;rw[vN (aI b (hr.lt b U).2 (by rw[h1];decide))];exact h1
 refine⟨M',⟨?_,iO hr jJ (by decide) bD,?_,?_,jO h.A (fun k G=>both k (h.A.lt k G).2 (by rw[eJ h.A k G];decide) (by rw[eJ h.A k G];decide)),
  .inl h.mR,fun k G=> .inr G,fun k G=> .inl (h.mq k G),fun k G=> .inl (h.mf k G),h.mg,?_,?_,?_,?_⟩,W⟩
 ·rw[bm w1 Rb 4 _ _ _ jJ]
  rfl
 ·obtain⟨qs,q1,q2,q3⟩:=h.hq;exact aa4
 ·obtain⟨qs,q1,q2,q3⟩:=h.hf;exact⟨qs,q1,jO q2 (fun k G=>both k (q2.lt k G).2 (by rw[eJ q2 k G];decide) (by rw[eJ q2 k G];decide)),fun p hp=>(q3 p hp).apart h.kd h.lo W⟩
 ·rintro b (U|U)
  ·by_cases e:dG.ownBlock=some b
   ·rw[xW b e];exact .inr (.inr (.inr rfl))
   ·by_cases e2:b=Rb
    ·subst e2;refine .inl ?_;unfold bw;rw[bm _ _ _ _ _ _ jJ]
    ·have h1:w1.heap[b]? =w.heap[b]?:=by
      exact aa3
     rw[vN ((heap_setCell_other _ _ _ _ e2).trans h1)];exact h.kd b U
  ·rw[xW b U];exact .inr (.inr (.inr rfl))
 ·rintro b (U|U)
  ·exact h.lo b U
  ·rcases jG b U with h1|h1
   ·exact h.lo b h1
   ·obtain⟨m,m1,m2⟩:=h.lo Rb h.mR;have:=h.rb;exact⟨m,m1,by omega⟩
 ·rintro b (U|U)
  ·exact h.qG b U
  ·rcases jG b U with h1|h1
   ·exact h.qG b h1
   ·intro h2;have:=au b h2
    omega
 ·rintro b (U|U)
  ·exact eV (h.lt b U) W.size
  ·have:=(hr.lt b U).2
   simpa [World.setCell] using this
structure RK(aw4 w:World)(Ms:Nat→Prop)(N Rb:Nat)(s:az)(r:Cu):Prop where
 cr:CR aw4 137 N r w
 lt:∀b,Ms b→b<aw4.heap.size
 ex:∃M,RR w Ms M Rb s∧∀b,M b→N<b
theorem RK.GF{r:Cu}(h:RK aw4 w Ms N Rb s r):∀b,Ms b→b<w.heap.size:=fun b U=>eV (h.lt b U) h.cr.low.size
theorem CR.Wi{r:Cu}(h:CR aw4 137 N r w):qj (bw w N):=by
 rw[h.kind];unfold qj
 decide
theorem RK.cur{r r':Cu}(h:RK aw4 w Ms N Rb s r)(J:CR aw4 137 N r' w')(A:w.grownBy w' (some N)):RK aw4 w' Ms N Rb s r':=by
 obtain⟨M,⟨sv,qv,fv,gv,F⟩,hM⟩:=h.ex;refine⟨J,h.lt,M,⟨sv,qv,fv,gv,F.other h.cr.Wi (fun hm=>lt_irrefl _ (hM N hm)) ?_ A⟩,hM⟩;obtain⟨m,h1,h2⟩:=F.lo Rb F.mR;have h3:=h.lt m h1;have h4:=h.cr.nn;exact⟨m,h1,by omega⟩
theorem RK.below{r:Cu}(h:RK aw4 w Ms N Rb s r)(U:Below w w w'):RK aw4 w' Ms N Rb s r:=by
 obtain⟨M,hr,hM⟩:=h.ex;exact⟨h.cr.below U,h.lt,M,hr.sep (.cL U),hM⟩
theorem RK.step{r:Cu}(h:RK aw4 w Ms N Rb s r)(hM:∀b,M b→N<b)(hr:RR w' Ms M' Rb s')(W:Sep M M' w w'):RK aw4 w' Ms N Rb s' r:=by
 have kL:=h.cr.nn;have au:=h.cr.lt;refine⟨?_,h.lt,M',hr,fun b U=> ?_⟩
 ·obtain⟨Y,c,hr,U⟩:=h.cr.row;refine⟨⟨Y,c,?_,U⟩,cz h.cr.low (W.low h.cr.low.size (fun b U=>by have:=hM b U;omega)) bj,kL,h.cr.len⟩;rw[W.block N au (fun hm=>lt_irrefl _ (hM N hm))];exact hr
 rcases W.new b U with h1|h1
 ·exact hM b h1
 omega
theorem RK.cells{r:Cu}(h:RK aw4 w Ms N Rb s r):w.cell? ⟨N,1,none⟩=some (.bool r.bad)∧w.frozen? ⟨N,1,none⟩=false:=by
 obtain⟨Y,c,hr,_⟩:=h.cr.row;exact⟨D 1 hr,aC hr 1⟩
theorem RK.mark{r:Cu}(h:RK aw4 w Ms N Rb s r)(y:Bool):RK aw4 (w.setCell ⟨N,1,none⟩ (.bool y)) Ms N Rb s ⟨r.b,y⟩:=
 h.cur (CR.mark (x:=r.bad) h.cr y) (br w ⟨N,1,none⟩ (.bool y))
structure oN(aw4 w:World)(Ms:Nat→Prop)(N Rb:Nat)(s:az)(r:Cu)(T:Nat):Prop where
 cr:CR aw4 137 N r w
 lt:∀b,Ms b→b<aw4.heap.size
 nt:N<T
 ex:∃M,RR w Ms M Rb s∧∀b,M b→N<b∧b<T
theorem oN.rk{r:Cu}(h:oN aw4 w Ms N Rb s r T):RK aw4 w Ms N Rb s r:=by
 obtain⟨M,hr,hM⟩:=h.ex;exact⟨h.cr,h.lt,M,hr,fun b U=>(hM b U).1⟩
theorem RK.box{r:Cu}(h:RK aw4 w Ms N Rb s r)(o:Obj):oN aw4 (w.alloc o) Ms N Rb s r w.heap.size:=by
 have h2:=h.below (aD w o);obtain⟨M,⟨sv,qv,fv,gv,F⟩,hM⟩:=h.ex;exact⟨h2.cr,h2.lt,h.cr.lt,M,(RR.sep ⟨sv,qv,fv,gv,F⟩ (.cL (aD w o))),fun b U=>⟨hM b U,F.lt b U⟩⟩
theorem oN.cur{r r':Cu}(h:oN aw4 w Ms N Rb s r T)(J:CR aw4 137 N r' w')(A:w.grownBy w' (some N)):oN aw4 w' Ms N Rb s r' T:=by
 obtain⟨M,⟨sv,qv,fv,gv,F⟩,hM⟩:=h.ex;refine⟨J,h.lt,h.nt,M,⟨sv,qv,fv,gv,F.other h.cr.Wi (fun hm=>lt_irrefl _ (hM N hm).1) ?_ A⟩,hM⟩;obtain⟨m,h1,h2⟩:=F.lo Rb F.mR;have h3:=h.lt m h1;have h4:=h.cr.nn;exact⟨m,h1,by omega⟩
theorem oN.below{r:Cu}(h:oN aw4 w Ms N Rb s r T)(U:Below w w w'):oN aw4 w' Ms N Rb s r T:=by
 obtain⟨M,hr,hM⟩:=h.ex;exact⟨h.cr.below U,h.lt,h.nt,M,hr.sep (.cL U),hM⟩
theorem oN.put{r:Cu}(h:oN aw4 w Ms N Rb s r T)(G:qj (bw w T))(A:w.grownBy w' (some T)):oN aw4 w' Ms N Rb s r T:=by
 obtain⟨M,⟨sv,qv,fv,gv,F⟩,hM⟩:=h.ex;refine⟨h.cr.over (s_ A h.cr.lt (fun k G=>by cases G;exact h.nt)),h.lt,h.nt,M,⟨sv,qv,fv,gv,F.other G (fun hm=>lt_irrefl _ (hM T hm).2) ?_ A⟩,hM⟩;obtain⟨m,h1,h2⟩:=F.lo Rb F.mR;have h3:=h.lt m h1;have h4:=h.cr.nn;have h5:=h.nt;exact⟨m,h1,by omega⟩
theorem oN.mark{r:Cu}(h:oN aw4 w Ms N Rb s r T)(y:Bool):oN aw4 (w.setCell ⟨N,1,none⟩ (.bool y)) Ms N Rb s ⟨r.b,y⟩ T:=
 h.cur (CR.mark (x:=r.bad) h.cr y) (br w ⟨N,1,none⟩ (.bool y))
theorem oN.Ca{r:Cu}(h:oN aw4 w Ms N Rb s r T){c:V3}(hi:dk w Ms c x)(A:w.grownBy w' (some N)):dk w' Ms c x:=by
 obtain⟨M,⟨sv,qv,fv,gv,F⟩,hM⟩:=h.ex;obtain⟨m,h1,h2⟩:=F.lo Rb F.mR;have h3:=h.lt m h1;have h4:=h.cr.nn;exact⟨hi.1.sep (Sep.Wh ⟨m,h1,by omega⟩ h.cr.Wi A),hi.2⟩
theorem asX{cl:List UInt8}{ex en:Int}{ob:Bool}{r:Cu}(J:CR aw4 137 N r w)(au:∀b,Ms b→b<aw4.heap.size)(bf:∃m,Ms m):
 RK aw4 (w.alloc (.cells #[.string (str cl),E ex,E en,.bool ob,.slice none 0 0,.slice none 0 0,.slice none 0 0,.slice none 0 0] 62)) Ms N w.heap.size {cZ cl with cI:=ex,ends:=en,ej:=ob} r:=by
 have aw:Below w w (w.alloc (.cells #[.string (str cl),E ex,E en,.bool ob,.slice none 0 0,.slice none 0 0,.slice none 0 0,.slice none 0 0] 62)):=aD _ _;have hn:=aH w (.cells #[.string (str cl),E ex,E en,.bool ob,.slice none 0 0,.slice none 0 0,.slice none 0 0,.slice none 0 0] 62);have bt:=J.low.size;obtain⟨m,hm⟩:=bf;have j3:=au m hm;refine⟨J.below aw,au,fun b=>b=w.heap.size,⟨.slice none 0 0,.slice none 0 0,.slice none 0 0,.slice none 0 0,⟨hn,bO _ _ _ _,⟨[],rfl,bh.nil _ _ _,fun p hp=>absurd hp qT⟩,⟨[],rfl,bO _ _ _ _,fun p hp=>absurd hp qT⟩,(by rw[show bA ({cZ cl with cI:=ex,ends:=en,ej:=ob}:az).aB= [] from n_ (by rw[tH];rfl)];exact bO _ _ _ _),rfl,fun k G=>by simp[Value.ownBlock] at G,fun k G=>by simp[Value.ownBlock] at G,fun k G=>by simp[Value.ownBlock] at G,fun k G=>by simp[Value.ownBlock] at G,fun b U=> ?_,fun b U=> ?_,fun b U Sj=> ?_,fun b U=> ?_⟩⟩,fun b U=> ?_⟩
 ·rw[U];exact .inl (j6 hn)
 ·exact⟨m,hm,by omega⟩
 ·have:=au b Sj
  omega
 ·rw[U];exact(eI.1 hn).1
 rw[U];exact J.lt
open List (getElem_mem)
theorem Wj(Rb:Nat)(s:az)(qD:s.al.length≤100000)(kZ:s.queue.length≤100000)(vP:s.ag.length≤100000)(NM:s.aB.length≤100000)(C:Bool)(hC:C=true↔MG s)(w:World)(Ms M:Nat→Prop)(h:RR w Ms M Rb s)(R:ak)
 (I:∀w',Below w w w'→R (.returned (.bool C)) w'):
 Calls prog 100 #[zq Rb] w R:=by
 have HR:=Z I;have H:=Z h;obtain⟨sv,qv,fv,gv,F⟩:=h;obtain⟨sa,sc,rfl⟩:=cR F.W;obtain⟨fa,fc,rfl⟩:∃a c,fv= .slice a s.ag.length c:=by
  obtain⟨ps,h1,h2,h3⟩:=F.hf;exact cR h2
 obtain⟨qa,qc,rfl⟩:∃a c,qv= .slice a s.queue.length c:=by
  obtain⟨ps,h1,h2,h3⟩:=F.hq;exact h2.shape
 obtain⟨ga,gc,rfl⟩:=cR F.A;obtain⟨-,-,-,-,c4,c5,c6,c7⟩:=F.cells;obtain⟨n1,oT⟩:=ai s.al.length;obtain⟨n2,k_⟩:=ai s.queue.length;obtain⟨n3,iC⟩:=ai s.ag.length;obtain⟨n4,iq⟩:=ai s.aB.length;have afv:C=true↔(n1≤8∧n2≤8∧n3≤8∧n4≤8∧∀i (h:i<s.ag.length),Bh s.ag i s.ag[i]):=by
  subst oT k_ iC iq;exact hC
 rw[oT] at c4;rw[k_] at c5;rw[iC] at c6;rw[iq] at c7;have HC:=Z afv;have sI:=Z iC;have hS:=F.hS;rw[iC] at hS;have nj:=Z hS;have iu:Hid (s.ag.length≤100000):=vP;rw[oT] at qD;rw[k_] at kZ;rw[iC] at vP;rw[iq] at NM;clear I F hS hC afv oT k_ iC iq;by_cases h1:n1≤8;rotate_left
 ·have zj:(8:Int)<(n1:Int):=by omega
  obtain rfl:C=false:=ns.2 (fun h=>h1 (HC.O.1 h).1);go_enter func100,ntmps100;go_wp2_with fail;exact HR.O _ dg
 have zj:¬(8:Int)<(n1:Int):=by omega
 by_cases h2:n2≤8;rotate_left
 ·have wK:(8:Int)<(n2:Int):=by omega
  obtain rfl:C=false:=ns.2 (fun h=>h2 (HC.O.1 h).2.1);go_enter func100,ntmps100;go_wp2_with fail;exact HR.O _ dg
 have wK:¬(8:Int)<(n2:Int):=by omega
 by_cases h3:n3≤8;rotate_left
 ·have su:(8:Int)<(n3:Int):=by omega
  obtain rfl:C=false:=ns.2 (fun h=>h3 (HC.O.1 h).2.2.1);go_enter func100,ntmps100;go_wp2_with fail;exact HR.O _ dg
 have su:¬(8:Int)<(n3:Int):=by omega
 by_cases h4:n4≤8;rotate_left
 ·have G':(8:Int)<(n4:Int):=by omega
  obtain rfl:C=false:=ns.2 (fun h=>h4 (HC.O.1 h).2.2.2.1);go_enter func100,ntmps100;go_wp2_with fail;exact HR.O _ dg
 have G':¬(8:Int)<(n4:Int):=by omega
 have eT:Hid (C=true↔∀i (h:i<s.ag.length),Bh s.ag i s.ag[i]):=by
  show _↔_;rw[HC.O];exact⟨fun h=>h.2.2.2.2,fun h=>⟨h1,h2,h3,h4,h⟩⟩
 go_enter func100,ntmps100;go_wp2_with fail;clear c4 c5 c6 c7;go_loopg [3,4] n3 (fun gn i _ wr=>∃k:Nat,k≤n3∧gn=n3 - k∧i= .int .i64 k∧Hid (∀j (h:j<s.ag.length),j<k→Bh s.ag j s.ag[j])∧Hid (Below w w wr))
 case atStart=>exact⟨0,bP _,by omega,rfl,Z (fun j h hj=>absurd hj (Nat.not_lt_zero _)),Z dg⟩
 case round=>
  obtain⟨k,G,rfl,rfl,Wk,HB⟩:=hrel;obtain⟨wo,rfl⟩:∃x,x=wr:=⟨_,rfl⟩
  by_cases au:k<n3;rotate_left
  ·have bo:¬(k:Int)<(n3:Int):=by omega
   have asZ:C=true:=eT.O.2 (fun i hi=>Wk.O i hi (by have:=sI.O;omega));have c6:=D 6 (aA nj.O HB.O);subst asZ;go_wp2_with fail;exact HR.O _ HB.O
  have wX:k<s.ag.length:=by have:=sI.O;omega
  obtain⟨f,hf⟩:=ai (s.ag[k]);obtain⟨sv,qv,g,n,awx,gv,v1,v2,v3,ps,bC,hn,aZ,oC,pL,f_,aq,a_,J,c1,c6,jh⟩:=(H.O.sep (.cL HB.O)).Dr wX hf;obtain rfl:n=n3:=by have:=sI.O;omega
  have rK:(((v1,v2,v3),f):V3×Fl)∈ps:=by
   have:=getElem_mem oC;rw[pL] at this;exact this
  have Wl:=a_ _ rK;obtain⟨⟨V,X,e1⟩,⟨kD,kE,e2⟩,ea,ec,e3⟩:=Wl.1.O.shape;simp only at e1 e2 e3;subst e1 e2 e3;have m_:Hid (∀j,j< (cA f.id f.state f.item V X kD kE ea ec:List Value).length→wo.cell? ⟨g,k*16+j,none⟩= (cA f.id f.state f.item V X kD kE ea ec:List Value)[j]?):=J;have zP:=Z Wl.1.O;have HF:Hid (∀P:Prop,(Bh s.ag k f→P)→(C=true→P)):=Z (fun P hp J=>hp (by rw[←hf];exact eT.O.1 J k wX));have Wm:Hid (Bh s.ag k f→∀j (h:j<s.ag.length),j<k+1→Bh s.ag j s.ag[j]):=Z (fun as0 j LF gA=>by
   by_cases e:j=k
   ·subst e;rw[hf];exact as0
   exact Wk.O j LF (by omega))
  clear hf bC hn aZ pL f_ aq a_ J c1 rK Wl Wk;go_upto_region 7 with(first
   |(refine iT 51 51 50 g (k*16) ((cA f.id f.state f.item V X kD kE ea ec)) m_.O underlying51 ?_))
  have eH:=aD wo (.cells (cA f.id f.state f.item V X kD kE ea ec) 51);have nQ:=aH wo (.cells (cA f.id f.state f.item V X kD kE ea ec) 51);generalize wo.alloc (.cells (cA f.id f.state f.item V X kD kE ea ec) 51)=df at eH nQ⊢;obtain⟨T,cQ⟩:=ai wo.heap.size;rw[cQ] at nQ⊢;have nO:=Z (aQ HB.O eH);have Iw:=Z (zP.O.below eH);have d0:=D 0 nQ;have d1:=D 1 nQ;have d2:=D 2 nQ;have d12:=D 12 nQ;have xZ:Hid (∀j,j<14→df.cell? ⟨T,2+j,none⟩= (aG f.item V X kD kE ea ec:List Value)[j]?):=Z (fun j hj=>by
   rw[D (2+j) nQ]
   match j,hj with
   |0,_|1,_|2,_|3,_|4,_|5,_|6,_|7,_|8,_|9,_|10,_|11,_|12,_|13,_=>rfl)
  clear eH nQ cQ c6;have eR:Hid (¬Bh s.ag k f→∀w',Below df df w'→R (.returned (.bool false)) w'):=Z (fun hn w' U=>by
   have hC:C=false:=ns.2 (fun J=>HF.O False hn J);have:=HR.O w' (aQ nO.O U)
   rwa [hC] at this)
  obtain⟨id,state,x⟩:=f;simp only at d0 d1 d2 d12;have yE:Hid (∀j,j<14→df.cell? ⟨T,2+j,none⟩= (aG x V X kD kE ea ec:List Value)[j]?):=xZ;by_cases i1:id<1
  ·go_wp2_with fail;exact eR.O (fun h=>by have:=h.1;simp only at this;omega) _ dg
  by_cases i2:8<id
  ·go_wp2_with fail;exact eR.O (fun h=>by have:=h.2.1;simp only at this;omega) _ dg
  obtain⟨z,hz⟩:∃z,dE (fun g:Fl=>g.id==id) s.ag=z:=⟨_,rfl⟩
  have HZ:=Z hz;clear hz;by_cases i3:z=(k:Int);rotate_left
  ·have awy:(z==(k:Int))=false:=by simpa using i3
   go_wp2_with (first
    |(go_at_call 125;go_must(refine xV Rb s id z HZ.O iu.O _ Ms M (H.O.sep (.cL nO.O)) _ ?_)))
   exact eR.O (fun h=>i3 (HZ.O.symm.trans h.2.2.1)) _ dg
  subst i3;go_upto_region 9 with(first
   |(go_at_call 125;go_must(refine xV Rb s id (k:Int) HZ.O iu.O _ Ms M (H.O.sep (.cL nO.O)) _ ?_)))
  have Wn:Hid (A0 state x→Bh s.ag k ⟨id,state,x⟩):=Z (fun h=>⟨by show(1:Int)≤id;omega,by show id≤(8:Int);omega,HZ.O,h⟩);have pT:Hid (¬A0 state x→∀w',Below df df w'→R (.returned (.bool false)) w'):=Z (fun h=>eR.O (fun J=>h J.2.2.2));clear i1 i2;by_cases s1:state=1
  ·subst s1;by_cases q1:x.ah=1
   ·go_wp2_with fail;go_roundg (n - (k+1))
    case measure=>omega
    case rel=>exact⟨k+1,by omega,rfl,by go_num,Z (Wm.O (Wn.O (.inl ⟨rfl,q1⟩))),nO⟩
   ·have as1:(x.ah==1)=false:=by simpa using q1
    go_wp2_with fail;exact pT.O (by rintro(h|h|h);exact q1 h.2;exact absurd h.1 (by decide);exact absurd h.1 (by decide)) _ dg
  have n1:(state==1)=false:=by simpa using s1
  by_cases s2:state=2
  ·subst s2;clear s1 n1;by_cases q1:x.ah=2
   ·go_wp2_with fail;go_roundg (n - (k+1))
    case measure=>omega
    case rel=>exact⟨k+1,by omega,rfl,by go_num,Z (Wm.O (Wn.O (.inr (.inl ⟨rfl,q1⟩)))),nO⟩
   ·have as1:(x.ah==2)=false:=by simpa using q1
    go_wp2_with fail;exact pT.O (by rintro(h|h|h);exact absurd h.1 (by decide);exact q1 h.2;exact absurd h.1 (by decide)) _ dg
  have n2:(state==2)=false:=by simpa using s2
  by_cases s3:state=3
  ·subst s3;clear s1 s2 n1 n2;by_cases A:x=gI x.note.aF
   ·have HG:=Z A;clear A;go_wp2_with (first
     |(refine iT 85 36 84 T 2 ((aG x V X kD kE ea ec)) yE.O underlying36 ?_)
     |(go_at_call 70;go_must(refine afu x true ⟨fun _=>HG.O,fun _=>rfl⟩ _ _ _ _ Iw.O _ ?_);intro cY dC;have mi:=Z (aQ nO.O dC);clear dC))
    go_roundg (n - (k+1))
    case measure=>omega
    case rel=>exact⟨k+1,by omega,rfl,by go_num,Z (Wm.O (Wn.O (.inr (.inr ⟨rfl,_,HG.O⟩)))),mi⟩
   ·have HG:=Z A;clear A;go_wp2_with (first
     |(refine iT 85 36 84 T 2 ((aG x V X kD kE ea ec)) yE.O underlying36 ?_)
     |(go_at_call 70;go_must(refine afu x false ⟨fun h=>(by cases h),fun h=>absurd h HG.O⟩ _ _ _ _ Iw.O _ ?_);intro cY dC;have mi:=Z dC;clear dC))
    exact pT.O (by rintro(h|h|h);exact absurd h.1 (by decide);exact absurd h.1 (by decide);exact HG.O (by obtain⟨_,t,e⟩:=h;rw[e];rfl)) _ mi.O
  have n3:(state==3)=false:=by simpa using s3
  go_wp2_with fail;exact pT.O (by rintro(h|h|h);exact s1 h.1;exact s2 h.1;exact s3 h.1) _ dg
