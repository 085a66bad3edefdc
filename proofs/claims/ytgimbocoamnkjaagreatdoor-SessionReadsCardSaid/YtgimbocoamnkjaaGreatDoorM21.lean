/- A part of the proof of SessionReads; no conditions. -/
import Derived.Test.YtgimbocoamnkjaaGreatDoorM17
set_option maxRecDepth 100000
set_option maxHeartbeats 16000000
namespace Go.Proofs.YtgimbocoamnkjaaGreatDoor
open _root_.Go.Proofs.Tryz
variable{K Rb:Nat}{M Ms:Nat→Prop}{s:az}{fv ek gv qv sv:Value}{w w' w1:World}
open Go.RowKit
theorem RX.EG(h:RX w Ms M Rb sv qv fv gv s)(au:∀b,Ms b→b<w.heap.size)(cs:Array Value):
 RX (w.alloc (.cells cs 36)) Ms (fun b=>M b∨b=w.heap.size) Rb sv qv fv gv s∧Sep M (fun b=>M b∨b=w.heap.size) w (w.alloc (.cells cs 36)):=by
 have U:Below w w (w.alloc (.cells cs 36)):=aD _ _;have W:Sep M (fun b=>M b∨b=w.heap.size) w (w.alloc (.cells cs 36)):=(Sep.cL U).more (fun b U=>U.imp id (fun e=>by omega)) (fun awX ⟨m,hm,hl⟩=>⟨m,.inl hm,hl⟩);have h1:=h.below U;refine⟨⟨h1.hS,h1.W,h1.hq,h1.hf,h1.A,.inl h.mR,fun k G=> .inl (h.ms k G),fun k G=> .inl (h.mq k G),fun k G=> .inl (h.mf k G),h.mg,?_,?_,?_,?_⟩,W⟩
 ·rintro b (hm|rfl)
  ·exact h1.kd b hm
  ·rw[j6 (aH w _)];exact .inr (.inl rfl)
 ·rintro b (hm|rfl)
  ·exact h.lo b hm
  ·obtain⟨m,m1,m2⟩:=h.lo Rb h.mR;have:=h.rb;exact⟨m,m1,by omega⟩
 ·rintro b (hm|rfl)
  ·exact h.qG b hm
  ·intro h2;have:=au _ h2
   omega
 rintro b (hm|rfl)
 ·exact h1.lt b hm
 simp
theorem RX.inner(h:RX w Ms M Rb sv qv fv gv s)(hK:M K)(e0:K≠Rb)(e1:sv.ownBlock≠some K)(e2:qv.ownBlock≠some K)(e3:fv.ownBlock≠some K)(A:w.grownBy w' (some K))(G:bw w' K=bw w K):
 RX w' Ms M Rb sv qv fv gv s∧Sep M M w w':=by
 have W:Sep M M w w':= .kV A (fun k G=>by cases G;exact hK);have key:∀b,b<w.heap.size→b≠K→w'.heap[b]? =w.heap[b]?:=fun b U bf=>A.block b U (fun e=>bf (Option.some.inj e));have own:∀{v:Value}{k:Nat},v.ownBlock≠some K→v.ownBlock=some k→k≠K:=fun hv G e=>hv (e▸G);refine⟨⟨(key Rb h.rb e0.symm).trans h.hS,jO h.W (fun k dS=>key k (h.W.lt k dS).2 (own e1 dS)),?_,?_,jO h.A (fun k dS=>key k (h.A.lt k dS).2 (fun e=> ?_)),h.mR,h.ms,h.mq,h.mf,h.mg,fun b U=> ?_,h.lo,h.qG,fun b U=>eV (h.lt b U) A.size⟩,W⟩
 ·obtain⟨ps,h1,h2,h3⟩:=h.hq;exact⟨ps,h1,h2.wH (fun k dS=>key k (h2.lt k dS) (own e2 dS)),fun p hp=>(h3 p hp).apart h.kd h.lo W⟩
 ·obtain⟨ps,h1,h2,h3⟩:=h.hf;exact⟨ps,h1,jO h2 (fun k dS=>key k (h2.lt k dS).2 (own e3 dS)),fun p hp=>(h3 p hp).apart h.kd h.lo W⟩
 ·have h1:=h.kd K hK;have h2:=eJ h.A k dS;rw[e] at h2;exact h1.int h2
 by_cases e:b=K
 ·rw[e,G];exact h.kd K hK
 rw[vN (key b (h.lt b U) e)];exact h.kd b U
theorem RX.mP{ps:List (V3×Fl)}{fs:List Fl}(h:RX w Ms M Rb sv qv fv gv s)(au:∀b,Ms b→b<w.heap.size)(aZ:ps.map (·.2)=fs)(a_:∀p∈ps,dk w Ms p.1 p.2.item)
 (hr:w1.ownsRow 0 51 16 ek fs.length (ps.flatMap bV)) (ha:C2 w w1 fv ek):
 ∃M',RX (w1.setCell ⟨Rb,6,none⟩ ek) Ms M' Rb sv qv ek gv {s with ag:=fs}∧Sep M M' w (w1.setCell ⟨Rb,6,none⟩ ek)∧(∀b,M b→M' b):=by
 have A:=ha.grown;have bZ:(ek.ownBlock=fv.ownBlock∧w.grownBy w1 fv.ownBlock)∨((∃k,ek.ownBlock=some k∧w.heap.size≤k)∧w.grownBy w1 none):=by
  rcases ha with⟨b,n,n',c,rfl,rfl,h3⟩|h3
  ·exact .inl ⟨rfl,h3⟩
  exact .inr h3
 obtain⟨K,j9,hK⟩:∃K,w.grownBy w1 (some K)∧(M K∧bw w K=51+2∨w.heap.size≤K):=by
  cases hv:fv.ownBlock with
  |none=>exact⟨w.heap.size,AE (by rw[hv] at A;exact A),.inr bj⟩
  |some k=>exact⟨k,by rw[hv] at A;exact A,.inl ⟨h.mf k hv,h.KL k hv⟩⟩
 have jG:∀k,ek.ownBlock=some k→M k∨w.heap.size≤k:=fun k G=>by
  rcases bZ with⟨e,_⟩|⟨⟨k',e,fw⟩,_⟩
  ·exact .inl (h.mf k (e▸G))
  rw[e] at G;cases G;exact .inr fw
 let M':Nat→Prop:=fun b=>M b∨ek.ownBlock=some b
 have cH:Sep M M' w w1:=⟨j9.os,j9.tape,j9.output,j9.size,fun b U hM=>j9.block b U (fun e=>by
  have e:=Option.some.inj e;rcases hK with⟨G,_⟩|G
  ·exact hM (e▸G)
  ·omega),fun b U=>by
  rcases U with U|U
  ·exact .inl U
  exact jG b U,fun awX ⟨m,hm,hl⟩=>⟨m,.inl hm,hl⟩⟩
 have bf:∀b,b<w.heap.size→bw w b≠51+2→w1.heap[b]? =w.heap[b]?:=fun b U G=>j9.block b U (fun e=>by
  have e:=Option.some.inj e;rcases hK with⟨_,eB⟩|eB
  ·exact G (e▸eB)
  omega)
 have jJ:=(bf Rb h.rb (by rw[h.xW];decide)).trans h.hS;have iS:bw w1 Rb=62+2:=j6 jJ;have bD:=br w1 ⟨Rb,6,none⟩ ek;have bF:Sep M' M' w1 (w1.setCell ⟨Rb,6,none⟩ ek):= .kV bD (fun k G=>by cases G;exact .inl h.mR);have W:=cH.trans bF;have aI:∀b,b<w1.heap.size→bw w1 b≠62+2→(w1.setCell ⟨Rb,6,none⟩ ek).heap[b]? =w1.heap[b]?:=fun b U G=>bD.block b U (fun e=>G (Option.some.inj e▸iS));have both:∀b,b<w.heap.size→bw w b≠51+2→bw w b≠62+2→(w1.setCell ⟨Rb,6,none⟩ ek).heap[b]? =w.heap[b]?:=fun b U k1 k2=>by
  exact Ez
 have KL:∀b,ek.ownBlock=some b→bw (w1.setCell ⟨Rb,6,none⟩ ek) b=51+2:=fun b U=>by
  have h1:=eJ hr b U;rw[vN (aI b (hr.lt b U).2 (by rw[h1];decide))];exact h1
 refine⟨M',⟨?_,jO h.W (fun k G=>both k (h.W.lt k G).2 (by rw[eJ h.W k G];decide) (by rw[eJ h.W k G];decide)),?_,?_,jO h.A (fun k G=>both k (h.A.lt k G).2 (by rw[eJ h.A k G];decide) (by rw[eJ h.A k G];decide)),
  .inl h.mR,fun k G=> .inl (h.ms k G),fun k G=> .inl (h.mq k G),fun k G=> .inr G,h.mg,?_,?_,?_,?_⟩,W,fun b U=> .inl U⟩
 ·rw[bm w1 Rb 6 _ _ _ jJ]
  rfl
 ·obtain⟨qs,q1,q2,q3⟩:=h.hq;exact aa4
 ·exact⟨ps,aZ,iO hr jJ (by decide) bD,fun p hp=>(a_ p hp).apart h.kd h.lo W⟩
 ·rintro b (U|U)
  ·by_cases e:ek.ownBlock=some b
   ·rw[KL b e];exact .inr (.inr (.inl rfl))
   ·by_cases e2:b=Rb
    ·subst e2;refine .inl ?_;unfold bw;rw[bm _ _ _ _ _ _ jJ]
    ·have h1:w1.heap[b]? =w.heap[b]?:=by
      exact aa3
     rw[vN ((heap_setCell_other _ _ _ _ e2).trans h1)];exact h.kd b U
  ·rw[KL b U];exact .inr (.inr (.inl rfl))
 ·rintro b (U|U)
  ·exact h.lo b U
  ·rcases jG b U with h1|h1
   ·exact h.lo b h1
   ·obtain⟨m,m1,m2⟩:=h.lo Rb h.mR;have:=h.rb;exact⟨m,m1,by omega⟩
 ·rintro b (U|U)
  ·exact h.qG b U
  ·rcases jG b U with h1|h1
   ·exact h.qG b h1
   ·intro h2;have:=au b h2
    omega
 ·rintro b (U|U)
  ·exact eV (h.lt b U) W.size
  ·have:=(hr.lt b U).2
   simpa [World.setCell] using this
theorem amg{P:Program}{o:Oper}{a:Act}{K:Act→World→Prop}{Q:Exit→Act→World→Prop}(s x:Operand)(t:TypeId)
 (ho:o.op= .call {callee:= .builtin .append,args:=#[s,x],argTypes:=#[t,t]})
 (base:Nat) (e:TypeId) (z:Value) (size bytes:Nat) (ht:P.underlying t=some (.slice e)) (mn:(P.info? e).map (fun i=>(i.zero,i.size,i.bytes))=some (some z,size,bytes)) (iY:z.cells.size=size) (bt:0<size)
 (v:Value) (n:Nat) (xs:List Value) (W:a.eval s=v) (aU:w.ownsRow base e size v n xs)
 (b:Nat) (m c:Nat) (news:List Value) (F:a.eval x= .slice (some ⟨b,0,none⟩) m c) (bQ:Rd w size (some ⟨b,0,none⟩) m news) (h1:∀u∈news,u.oneCell'=true)
 (h63:n+m≤maxLen) (gz:(n+m) *bytes≤140737488355328) (kG:base≤w.heap.size) (hm:0<m)
 (h:∀bK c' w',w'.ownsRow base e size (.slice bK (n+m) c') (n+m) (xs++news)→C2 w w' v (.slice bK (n+m) c')→K (a.put o.dst (.slice bK (n+m) c')) w'):o.wp P a w K Q:=by
 obtain⟨i,hi,hz,dJ,fV⟩:=info_parts mn;have nx:∀j u,news[j]? =some u→w.cell? ((⟨b,0,none⟩:Addr).add j)=some u:=fun j u hj=>by
  have ti:j<m*size:=by rw[←bQ.1];exact(qe.1 hj).1
  obtain⟨b',o',e',J⟩:=bQ.2 (by omega);cases e';rw[Addr.add_lit,J j ti];exact hj
 obtain⟨v',w',hr,h2,h3⟩:=RI (P:=P) w base t o.type e i z size bytes ht hi hz dJ fV iY bt v n xs aU ⟨b,0,none⟩ m c news bQ.1 nx h1 h63 gz kG hm;obtain⟨bK,c',rfl⟩:=cR h2;exact Rz
theorem PE{P:Program}{ops:Array Oper}{o:Oper}{a:Act}{K:Act→World→Prop}{Q:Exit→Act→World→Prop}{awW:Prop}(oe:o.guard=none)(s x:Operand)(t:TypeId)
 (ho:o.op= .call {callee:= .builtin .append,args:=#[s,x],argTypes:=#[t,t]})
 (base:Nat) (e:TypeId) (z:Value) (size bytes:Nat) (ht:P.underlying t=some (.slice e)) (mn:(P.info? e).map (fun i=>(i.zero,i.size,i.bytes))=some (some z,size,bytes)) (iY:z.cells.size=size) (bt:0<size)
 (v:Value) (n:Nat) (xs:List Value) (W:a.eval s=v) (aU:w.ownsRow base e size v n xs)
 (b:Nat) (m c:Nat) (news:List Value) (F:a.eval x= .slice (some ⟨b,0,none⟩) m c) (bQ:Rd w size (some ⟨b,0,none⟩) m news) (h1:∀u∈news,u.oneCell'=true)
 (h63:n+m≤maxLen) (gz:(n+m) *bytes≤140737488355328) (kG:base≤w.heap.size) (hm:0<m)
 (h:∀bK c' w',w'.ownsRow base e size (.slice bK (n+m) c') (n+m) (xs++news)→C2 w w' v (.slice bK (n+m) c')→K (a.put o.dst (.slice bK (n+m) c')) w'):
 if Region.wanted o (yielded ops a.tmps)=true then Oper.wp P o a w K Q else awW:=by
 have hw:Region.wanted o (yielded ops a.tmps)=true:=by simp[Region.wanted,oe]
 rw[if_pos hw];exact amg s x t ho base e z size bytes ht mn iY bt v n xs W aU b m c news F bQ h1 h63 gz kG hm h
open List (drop_append drop_of_length_le drop_zero mem_cons_self nil_append)
theorem amh(Rb:Nat)(s:az)(cu:Int)(U:mQ s cu=false)(w:World)(Ms M:Nat→Prop)(h:RR w Ms M Rb s)(qD:s.queue.length≤100000)(R:ak)
 (I:∀w',Below w w w'→R (.returned (.tuple #[(Value.agg aX),E 0,.bool false])) w'):
 Calls prog 69 #[zq Rb,E cu] w R:=by
 have HR:=Z I;have aM:Below w w (w.alloc (.cells aX 36)):=aD _ _;have bB:=Z aM;have H0:Hid (RR (w.alloc (.cells aX 36)) Ms M Rb s):=by
  obtain⟨sv,qv,fv,gv,F⟩:=h;exact⟨sv,qv,fv,gv,F.below aM⟩
 have HN:=Z (aH w (.cells aX 36));have HB:=Z U;clear I h aM U;go_enter func69,ntmps69;go_wp2_with (first
  |(go_at_call 83;go_must(refine OW Rb s cu false HB.O _ Ms M H0.O qD _ ?_))
  |(refine gw 36 4 14 (w.heap.size) HN.O ?_))
 exact aak
theorem ami(Rb:Nat)(s:az)(x:Im)(rest:List Im)(hq:s.queue=x::rest)(cu:Int)(U:mQ s cu=true)(hz:x.ah=0)(w:World)(Ms M:Nat→Prop)(h:RR w Ms M Rb s)(au:∀b,Ms b→b<w.heap.size)(qD:s.queue.length≤100000)(R:ak)
 (I:∀M' V X qa qc ea ec w',RR w' Ms M' Rb {s with queue:=rest}→Sep M M' w w'→dk w' Ms (.slice V x.note.ay.length X,.slice qa x.note.props.length qc,.slice ea x.ids.length ec) x→
   R (.returned (.tuple #[(Value.agg (aG x V X qa qc ea ec)),E 0,.bool true])) w'):
 Calls prog 69 #[zq Rb,E cu] w R:=by
 obtain⟨sv,qv,fv,gv,F⟩:=h;have HR:=Z I;obtain⟨ps,aZ,aq,a_⟩:=id F.hq;obtain⟨va,vc,rfl⟩:=aq.shape;obtain⟨n,hn⟩:=ai s.queue.length;have dK:0<n:=by rw[←hn,hq];simp
 have oT:(0:Int)<(n:Int):=by omega
 have qE:n - 1=rest.length:=by rw[←hn,hq];simp
 rw[hn] at F aq qD;rw[hq] at aZ;obtain⟨⟨c,y⟩,pr,rfl⟩:∃p pr,ps=p::pr:=by
  cases ps with
  |nil=>simp at aZ
  |cons p pr=>exact⟨p,pr,rfl⟩
 obtain⟨rfl,zy⟩:y=x∧pr.map (·.2)=rest:=by simpa using aZ
 obtain⟨⟨V,X,zz⟩,⟨qa,qc,zA⟩,ea,ec,zB⟩:=(a_ (c,y) (mem_cons_self ..)).1.O.shape;obtain⟨p1,p2,p3⟩:=c;simp only at zz zA zB;subst zz zA zB;obtain⟨aO,cH⟩:=F.EG au aX;have aw:Below w w (w.alloc (.cells aX 36)):=aD _ _;have H1:Hid (RR (w.alloc (.cells aX 36)) Ms (fun b=>M b∨b=w.heap.size) Rb s):=⟨sv,_,fv,gv,aO⟩
 have Ga:∀b,Ms b→b<(w.alloc (.cells aX 36)).heap.size:=fun b U=>eV (au b U) aw.size;obtain⟨bC,bF⟩:=aO.EG Ga (aG y V X qa qc ea ec);have aj:Below (w.alloc (.cells aX 36)).heap.size (w.alloc (.cells aX 36)) ((w.alloc (.cells aX 36)).alloc (.cells (aG y V X qa qc ea ec) 36)):=aD _ _;have jK:∀b,Ms b→b<((w.alloc (.cells aX 36)).alloc (.cells (aG y V X qa qc ea ec) 36)).heap.size:=fun b U=>eV (Ga b U) aj.size;have uG:∀p∈((Value.slice V y.note.ay.length X,Value.slice qa y.note.props.length qc,Value.slice ea y.ids.length ec),y)::pr,dk ((w.alloc (.cells aX 36)).alloc (.cells (aG y V X qa qc ea ec) 36)) Ms p.1 p.2:=fun p hp=>((a_ p hp).apart F.kd F.lo cH).apart aO.kd aO.lo bF;have sA:=aq.below aw;have bE:=sA.below aj;obtain⟨g,o,nJ,bg,qW⟩:=sA.at dK;subst nJ;obtain⟨i,cp,_,dJ,_⟩:=info_parts vr;obtain⟨ax,dm,rJ,kt⟩:=bh.from (k:=1) bE underlying52 cp dJ (by omega);replace dm:∀w',(Instr.slice 52 (.slice (some ⟨g,o,none⟩) n vc) (some (E 1)) none none).run prog w'= .ok (.slice ax rest.length (vc - 1)) w':=by rw[qE] at dm;exact dm
 rw[lT,Nat.one_mul,drop_append,drop_of_length_le (by rw[oS];omega),oS,Nat.sub_self,drop_zero,nil_append,qE] at rJ;rw[qE] at kt;obtain⟨dq,ik⟩:=RX.pop bC jK zy uG rJ kt;have m_:Hid (∀j,j<14→(w.alloc (.cells aX 36)).cell? ⟨g,o+j,none⟩= (aG y V X qa qc ea ec:List Value)[j]?):=fun j hj=>by
  exact OD
 have N2:=Z (aH (w.alloc (.cells aX 36)) (.cells aX 36));have c5:=aO.cells.2.2.2.2.2.1;have d5:=bC.cells.2.2.2.2.2.1;have f5:=aC bC.hS 5;have vx:(w.alloc (.cells aX 36)).heap.size=w.heap.size+1:=by simp
 have A7:Rb≠w.heap.size:=fun e=>by have:=F.rb;omega
 have Lw:Rb≠(w.alloc (.cells aX 36)).heap.size:=fun e=>by have:=F.rb;omega
 have Ly:(((w.alloc (.cells aX 36)).alloc (.cells (aG y V X qa qc ea ec) 36)).setCell ⟨Rb,5,none⟩ (.slice ax rest.length (vc - 1))).heap[(w.alloc (.cells aX 36)).heap.size]? =some (.cells (aG y V X qa qc ea ec) 36):=(heap_setCell_other _ _ _ _ (fun e=>Lw e.symm)).trans (aH (w.alloc (.cells aX 36)) (.cells (aG y V X qa qc ea ec) 36));have T3:Hid ((((w.alloc (.cells aX 36)).alloc (.cells (aG y V X qa qc ea ec) 36)).setCell ⟨Rb,5,none⟩ (.slice ax rest.length (vc - 1))).heap[w.heap.size+1]? =some (.cells (aG y V X qa qc ea ec) 36)):=(congrArg (fun i=>(((w.alloc (.cells aX 36)).alloc (.cells (aG y V X qa qc ea ec) 36)).setCell ⟨Rb,5,none⟩ (.slice ax rest.length (vc - 1))).heap[i]?) vx.symm).trans Ly;have N3:Hid ((((w.alloc (.cells aX 36)).alloc (.cells (aG y V X qa qc ea ec) 36)).setCell ⟨Rb,5,none⟩ (.slice ax rest.length (vc - 1))).heap[w.heap.size]? =some (.cells aX 36)):=(heap_setCell_other _ _ _ _ (fun e=>A7 e.symm)).trans (aA (aH w (.cells aX 36)) aj);have FZ:∀b,Ms b→b<(((w.alloc (.cells aX 36)).alloc (.cells (aG y V X qa qc ea ec) 36)).setCell ⟨Rb,5,none⟩ (.slice ax rest.length (vc - 1))).heap.size:=fun b U=>eV (jK b U) ik.size;have ji:=Z dq;have ku:=Z ((cH.trans bF).trans ik);have uH:=Z ((uG _ (mem_cons_self ..)).apart bC.kd bC.lo ik);have Ue:=Z (show(Value.slice ax rest.length (vc - 1)).ownBlock≠some w.heap.size from fun e=>by
  rw[kt] at e;have h1:=F.lt _ (F.mq _ e)
  omega)
 have Uf:=Z (show sv.ownBlock≠some w.heap.size from fun e=>by
  have h1:=F.lt _ (F.ms _ e)
  omega)
 have uw:=Z (show fv.ownBlock≠some w.heap.size from fun e=>by
  have h1:=F.lt _ (F.mf _ e)
  omega)
 obtain⟨PF,PG,HB⟩:=bX A7 FZ U;have nK:Hid (s.queue.length≤100000):=by show _≤_;rw[hn];exact qD
 clear I aZ aq a_ bC bF uG sA bE rJ bg qW zy U hn hq cp dJ kt dq ik A7 Lw F aw aj qE aO cH Ga jK FZ au Ly vx;have fD:=(tg T3.O).2.2.2.2.1;have lV:(y.ah==0)=true:=by simp[hz]
 clear hz;go_enter func69,ntmps69;go_wp2_with (first
  |(go_at_call 83;go_must(refine OW Rb s cu true HB.O _ Ms _ H1.O nK.O _ ?_))
  |(refine iT 20 36 19 g o ((aG y V X qa qc ea ec)) m_.O underlying36 ?_)
  |(refine wpList_store_row (o:=⟨none,.store 36 (.tmp 7) (.tmp 20),_,_,_,_⟩) (by rfl) 36 (.tmp 7) (.tmp 20) (by rfl) (w.alloc (.cells aX 36)).heap.size _ (by rfl) (by rfl) 36 _ N2.O (by kernel_rfl) (by rfl) (by simp[Value.oneCell']) ?_;rw[World.setRow_alloc_new])
  |(refine kJ 32 36 7 ((w.heap.size+1)) T3.O underlying36 ?_)
  |(refine gw 36 4 32 (w.heap.size) N3.O ?_))
 have eL:=ui (((w.alloc (.cells aX 36)).alloc (.cells (aG y V X qa qc ea ec) 36)).setCell ⟨Rb,5,none⟩ (.slice ax rest.length (vc - 1))) w.heap.size (aG y V X qa qc ea ec);have Ix:bw ((((w.alloc (.cells aX 36)).alloc (.cells (aG y V X qa qc ea ec) 36)).setCell ⟨Rb,5,none⟩ (.slice ax rest.length (vc - 1))).setRow w.heap.size (aG y V X qa qc ea ec)) w.heap.size=bw (((w.alloc (.cells aX 36)).alloc (.cells (aG y V X qa qc ea ec) 36)).setCell ⟨Rb,5,none⟩ (.slice ax rest.length (vc - 1))) w.heap.size:=by
  rw[j6 (setRow_heap _ w.heap.size _ _ _ _ N3.O),j6 N3.O]
 obtain⟨rh,zC⟩:=ji.O.inner (.inl (.inr rfl)) PF.O.symm Uf.O Ue.O uw.O eL Ix;refine bodyPost_ret (Jw rfl _ _ w 36 _ (0,0) _ (E 0) (.bool true) rfl rfl rfl (setRow_heap _ w.heap.size _ _ _ _ N3.O) underlying36 rfl (by kernel_rfl)) rfl ?_;exact HR.O _ _ _ _ _ _ _ _ ⟨sv,_,fv,gv,rh⟩ (ku.O.trans zC) (uH.O.apart ji.O.kd ji.O.lo zC)
theorem abS{P:Prop}(h:P:=by
 have A7:=PF.O;have zV:Rb≠w.heap.size+1:=fun e=>by have:=amj.O;omega
 have N7:Hid ((w6.setCell ⟨Rb,6,none⟩ (.slice fS (m+1) wU)).heap[w.heap.size]? =some (.cells aX 36)):=(heap_setCell_other _ _ _ _ (fun e=>A7 e.symm)).trans (hZ bI oX.O (i_ oX.O oY.O (by decide)));have T7:Hid ((w6.setCell ⟨Rb,6,none⟩ (.slice fS (m+1) wU)).heap[w.heap.size+1]? =some (.cells (aG y V X qa qc ea ec) 36)):=(heap_setCell_other _ _ _ _ (fun e=>zV e.symm)).trans (hZ bI Co.O (i_ Co.O oY.O (by decide)));have B3:=Z iz;have KB:=Z ((ku.O.below Bw.O).trans xM);have B4:=Z (pR.O.apart ff.O.kd ff.O.lo xM);have amk:=Z (xP w.heap.size (.inl (.inr rfl)));have aml:=Z H_;clear iz xM H_ pX bI ky r6 e7 f7 c7 Fp i0 i1 i2 i3 i4 i5 i6 i7 i8 i9 i10 i11 i12 i13 di xP zV A7;generalize w6.setCell ⟨Rb,6,none⟩ (.slice fS (m+1) wU)=w7 at B3 KB B4 N7 T7⊢;go_wp2_with (first
  |(refine kJ 55 36 7 ((w.heap.size+1)) T7.O underlying36 ?_)
  |(refine gw 36 4 55 (w.heap.size) N7.O ?_))
 have eL:=ui w7 w.heap.size (aG y V X qa qc ea ec);have Ix:bw (w7.setRow w.heap.size (aG y V X qa qc ea ec)) w.heap.size=bw w7 w.heap.size:=by
  rw[j6 (setRow_heap _ w.heap.size _ _ _ _ N7.O),j6 N7.O]
 obtain⟨rh,zC⟩:=B3.O.inner amk.O PF.O.symm Uf.O Ue.O aml.O eL Ix;refine bodyPost_ret (Jw rfl _ _ w 36 _ (0,0) _ (E d) (.bool true) rfl rfl rfl (setRow_heap _ w.heap.size _ _ _ _ N7.O) underlying36 rfl (by kernel_rfl)) rfl ?_;refine HR.O _ _ _ _ _ _ _ _ (by rw[iM.O];exact⟨sv,_,_,gv,rh⟩) (KB.O.trans zC) (B4.O.apart B3.O.kd B3.O.lo zC)):P:=h
theorem amm(Rb:Nat)(s:az)(x:Im)(rest:List Im)(hq:s.queue=x::rest)(cu:Int)(U:mQ s cu=true)(hz:x.ah=1∨x.ah=2)(d:Nat)(h1:1≤d)(h2:d≤65535)(J:dE (fun f:Fl=>f.id==(d:Int)) s.ag= -1)(j4:∀j:Nat,1≤j→j<d→0≤dE (fun f:Fl=>f.id==(j:Int)) s.ag)(rN:s.ag.length≤100000)
 (w:World) (Ms M:Nat→Prop) (h:RR w Ms M Rb s) (au:∀b,Ms b→b<w.heap.size) (qD:s.queue.length≤100000) (R:ak)
 (I:∀M' V X qa qc ea ec w',RR w' Ms M' Rb {s with queue:=rest,ag:=s.ag++ [⟨d,x.ah,x⟩]}→Sep M M' w w'→dk w' Ms (.slice V x.note.ay.length X,.slice qa x.note.props.length qc,.slice ea x.ids.length ec) x→
   R (.returned (.tuple #[(Value.agg (aG x V X qa qc ea ec)),E d,.bool true])) w'):
 Calls prog 69 #[zq Rb,E cu] w R:=by
 have amj:Hid (Rb<w.heap.size):=by
  obtain⟨sv,qv,fv,gv,F⟩:=h;exact F.rb
 obtain⟨sv,qv,fv,gv,F⟩:=h;have HR:=Z I;obtain⟨ps,aZ,aq,a_⟩:=id F.hq;obtain⟨va,vc,rfl⟩:=aq.shape;obtain⟨n,hn⟩:=ai s.queue.length;have dK:0<n:=by rw[←hn,hq];simp
 have oT:(0:Int)<(n:Int):=by omega
 have qE:n - 1=rest.length:=by rw[←hn,hq];simp
 rw[hn] at F aq qD;rw[hq] at aZ;obtain⟨⟨c,y⟩,pr,rfl⟩:∃p pr,ps=p::pr:=by
  cases ps with
  |nil=>simp at aZ
  |cons p pr=>exact⟨p,pr,rfl⟩
 obtain⟨rfl,zy⟩:y=x∧pr.map (·.2)=rest:=by simpa using aZ
 obtain⟨⟨V,X,zz⟩,⟨qa,qc,zA⟩,ea,ec,zB⟩:=(a_ (c,y) (mem_cons_self ..)).1.O.shape;obtain⟨p1,p2,p3⟩:=c;simp only at zz zA zB;subst zz zA zB;obtain⟨aO,cH⟩:=F.EG au aX;have aw:Below w w (w.alloc (.cells aX 36)):=aD _ _;have H1:Hid (RR (w.alloc (.cells aX 36)) Ms (fun b=>M b∨b=w.heap.size) Rb s):=⟨sv,_,fv,gv,aO⟩
 have Ga:∀b,Ms b→b<(w.alloc (.cells aX 36)).heap.size:=fun b U=>eV (au b U) aw.size;obtain⟨bC,bF⟩:=aO.EG Ga (aG y V X qa qc ea ec);have aj:Below (w.alloc (.cells aX 36)).heap.size (w.alloc (.cells aX 36)) ((w.alloc (.cells aX 36)).alloc (.cells (aG y V X qa qc ea ec) 36)):=aD _ _;have jK:∀b,Ms b→b<((w.alloc (.cells aX 36)).alloc (.cells (aG y V X qa qc ea ec) 36)).heap.size:=fun b U=>eV (Ga b U) aj.size;have uG:∀p∈((Value.slice V y.note.ay.length X,Value.slice qa y.note.props.length qc,Value.slice ea y.ids.length ec),y)::pr,dk ((w.alloc (.cells aX 36)).alloc (.cells (aG y V X qa qc ea ec) 36)) Ms p.1 p.2:=fun p hp=>((a_ p hp).apart F.kd F.lo cH).apart aO.kd aO.lo bF;have sA:=aq.below aw;have bE:=sA.below aj;obtain⟨g,o,nJ,bg,qW⟩:=sA.at dK;subst nJ;obtain⟨i,cp,_,dJ,_⟩:=info_parts vr;obtain⟨ax,dm,rJ,kt⟩:=bh.from (k:=1) bE underlying52 cp dJ (by omega);replace dm:∀w',(Instr.slice 52 (.slice (some ⟨g,o,none⟩) n vc) (some (E 1)) none none).run prog w'= .ok (.slice ax rest.length (vc - 1)) w':=by rw[qE] at dm;exact dm
 rw[lT,Nat.one_mul,drop_append,drop_of_length_le (by rw[oS];omega),oS,Nat.sub_self,drop_zero,nil_append,qE] at rJ;rw[qE] at kt;obtain⟨dq,ik⟩:=RX.pop bC jK zy uG rJ kt;have m_:Hid (∀j,j<14→(w.alloc (.cells aX 36)).cell? ⟨g,o+j,none⟩= (aG y V X qa qc ea ec:List Value)[j]?):=fun j hj=>by
  exact OD
 have N2:=Z (aH (w.alloc (.cells aX 36)) (.cells aX 36));have c5:=aO.cells.2.2.2.2.2.1;have d5:=bC.cells.2.2.2.2.2.1;have f5:=aC bC.hS 5;have vx:(w.alloc (.cells aX 36)).heap.size=w.heap.size+1:=by simp
 have A7:Rb≠w.heap.size:=fun e=>by have:=F.rb;omega
 have Lw:Rb≠(w.alloc (.cells aX 36)).heap.size:=fun e=>by have:=F.rb;omega
 have Ly:(((w.alloc (.cells aX 36)).alloc (.cells (aG y V X qa qc ea ec) 36)).setCell ⟨Rb,5,none⟩ (.slice ax rest.length (vc - 1))).heap[(w.alloc (.cells aX 36)).heap.size]? =some (.cells (aG y V X qa qc ea ec) 36):=(heap_setCell_other _ _ _ _ (fun e=>Lw e.symm)).trans (aH (w.alloc (.cells aX 36)) (.cells (aG y V X qa qc ea ec) 36));have T3:Hid ((((w.alloc (.cells aX 36)).alloc (.cells (aG y V X qa qc ea ec) 36)).setCell ⟨Rb,5,none⟩ (.slice ax rest.length (vc - 1))).heap[w.heap.size+1]? =some (.cells (aG y V X qa qc ea ec) 36)):=(congrArg (fun i=>(((w.alloc (.cells aX 36)).alloc (.cells (aG y V X qa qc ea ec) 36)).setCell ⟨Rb,5,none⟩ (.slice ax rest.length (vc - 1))).heap[i]?) vx.symm).trans Ly;have N3:Hid ((((w.alloc (.cells aX 36)).alloc (.cells (aG y V X qa qc ea ec) 36)).setCell ⟨Rb,5,none⟩ (.slice ax rest.length (vc - 1))).heap[w.heap.size]? =some (.cells aX 36)):=(heap_setCell_other _ _ _ _ (fun e=>A7 e.symm)).trans (aA (aH w (.cells aX 36)) aj);have FZ:∀b,Ms b→b<(((w.alloc (.cells aX 36)).alloc (.cells (aG y V X qa qc ea ec) 36)).setCell ⟨Rb,5,none⟩ (.slice ax rest.length (vc - 1))).heap.size:=fun b U=>eV (jK b U) ik.size;have ji:=Z dq;have ku:=Z ((cH.trans bF).trans ik);have uH:=Z ((uG _ (mem_cons_self ..)).apart bC.kd bC.lo ik);have Ue:=Z (show(Value.slice ax rest.length (vc - 1)).ownBlock≠some w.heap.size from fun e=>by
  rw[kt] at e;have h1:=F.lt _ (F.mq _ e)
  omega)
 have Uf:=Z (show sv.ownBlock≠some w.heap.size from fun e=>by
  have h1:=F.lt _ (F.ms _ e)
  omega)
 have uw:=Z (show fv.ownBlock≠some w.heap.size from fun e=>by
  have h1:=F.lt _ (F.mf _ e)
  omega)
 obtain⟨PF,PG,HB⟩:=bX A7 FZ U;have nK:Hid (s.queue.length≤100000):=by show _≤_;rw[hn];exact qD
 clear I aZ aq a_ bC bF uG sA bE rJ bg qW zy U hn hq cp dJ kt dq ik A7 Lw F aw aj qE aO cH Ga jK FZ au Ly vx;obtain⟨AV,Hy,HQ,FE⟩:=cF J j4 hz rN;have fD:=(tg T3.O).2.2.2.2.1;have lV:(y.ah==0)=false:=by
  rcases hz with h|h<;>simp[h]
 clear J j4 hz;go_enter func69,ntmps69;go_wp2_with (first
  |(go_at_call 83;go_must(refine OW Rb s cu true HB.O _ Ms _ H1.O nK.O _ ?_))
  |(refine iT 20 36 19 g o ((aG y V X qa qc ea ec)) m_.O underlying36 ?_)
  |(refine wpList_store_row (o:=⟨none,.store 36 (.tmp 7) (.tmp 20),_,_,_,_⟩) (by rfl) 36 (.tmp 7) (.tmp 20) (by rfl) (w.alloc (.cells aX 36)).heap.size _ (by rfl) (by rfl) 36 _ N2.O (by kernel_rfl) (by rfl) (by simp[Value.oneCell']) ?_;rw[World.setRow_alloc_new]))
 clear H1 m_ N2 c5 d5 f5 dm;generalize ((w.alloc (.cells aX 36)).alloc (.cells (aG y V X qa qc ea ec) 36)).setCell ⟨Rb,5,none⟩ (.slice ax rest.length (vc - 1))=w3 at ji ku uH N3 T3 PG fD⊢;have H3:Hid (RR w3 Ms (fun b=>(M b∨b=w.heap.size)∨b=(w.alloc (.cells aX 36)).heap.size) Rb {s with queue:=rest}):=⟨sv,_,fv,gv,ji.O⟩
 go_loopg [8] (d - 1) (fun gn i wr=>∃k:Nat,1≤k∧k≤d∧gn=d - k∧i= .int .i64 k∧wr=w3)
 case atStart=>exact⟨1,Nat.le_refl _,h1,rfl,rfl,rfl⟩
 case round=>
  obtain⟨k,iS,G,rfl,rfl,rfl⟩:=hrel;by_cases Tf:k<d
  ·obtain⟨z,hz⟩:∃z,dE (fun f:Fl=>f.id==(k:Int)) s.ag=z:=⟨_,rfl⟩
   have cJ:0≤z:=by
    rw[←hz];exact Hy.O k iS Tf
   have HZ:=Z hz;clear hz;go_wp2_with (first
    |(go_at_call 125;go_must(refine xV Rb {s with queue:=rest} k z HZ.O FE.O _ Ms _ H3.O _ ?_)))
   go_roundg (d - (k+1))
   case measure=>omega
   case rel=>exact⟨k+1,by omega,by omega,rfl,by go_num,rfl⟩
  obtain rfl:d=k:=by omega
  rcases HQ.O with gJ|gJ
  ·have cB:(y.ah != 1)=false:=by simp[gJ]
   have jl:=Z gJ;clear gJ;go_wp2_with (first
    |(go_at_call 125;go_must(refine xV Rb {s with queue:=rest} d (-1) AV.O FE.O _ Ms _ H3.O _ ?_)))
   have iM:Hid (s.ag++ [(⟨d,y.ah,y⟩:Fl)]=s.ag++ [⟨d,1,y⟩]):=by
    show _=_;rw[jl.O]
   go_wp2_with fail;have Lz:=Z (ji.O.below (bq wr));have di:Below wr.drew.heap.size wr.drew (wr.drew.alloc (.cells (cA (d:Int) 1 y V X qa qc ea ec) 51)):=aD _ _;have ff:=Z (Lz.O.below di);have zW:Below wr wr (wr.drew.alloc (.cells (cA (d:Int) 1 y V X qa qc ea ec) 51)):=ed (bq wr) di;have oX:Hid ((wr.drew.alloc (.cells (cA (d:Int) 1 y V X qa qc ea ec) 51)).heap[w.heap.size]? =some (.cells aX 36)):=aA N3.O zW;have Co:Hid ((wr.drew.alloc (.cells (cA (d:Int) 1 y V X qa qc ea ec) 51)).heap[w.heap.size+1]? =some (.cells (aG y V X qa qc ea ec) 36)):=aA T3.O zW;have uI:dk (wr.drew.alloc (.cells (cA (d:Int) 1 y V X qa qc ea ec) 51)) Ms (.slice V y.note.ay.length X,.slice qa y.note.props.length qc,.slice ea y.ids.length ec) y:=(uH.O.sep (.cL (bq wr))).sep (.cL di);have pR:=Z uI;have Ik:Hid (∀b,Ms b→b<(wr.drew.alloc (.cells (cA (d:Int) 1 y V X qa qc ea ec) 51)).heap.size):=Z (fun b U=>eV (PG.O b U) zW.size);have Bw:=Z zW;obtain⟨gf,jM,fz,lz⟩:=ff.O.hf;obtain⟨m,hm⟩:=ai s.ag.length;obtain⟨fa,fc,oV⟩:∃a c,fv= .slice a m c:=by
    rw[←hm];exact cR fz
   subst oV;have xO:({s with queue:=rest}:az).ag.length=m:=hm;rw[hm] at rN;rw[xO] at fz;obtain⟨HM,wT,oY,vK⟩:=cF hm jM fz lz;have c7:wr.drew.cell? ⟨Rb,6,none⟩=some (.slice fa m fc):=Lz.O.cells.2.2.2.2.2.2.1;have Fp:(wr.alloc (.cells (cA (d:Int) 1 y V X qa qc ea ec) 51)).drew.cell? ⟨Rb,6,none⟩=some (.slice fa m fc):=cell_later di c7;have LA:wr.drew.heap[w.heap.size+1]? =some (.cells (aG y V X qa qc ea ec) 36):=T3.O;obtain⟨⟨i0,i1,i2,i3,i4,i5,i6⟩,i7,i8,i9,i10,i11,i12,i13⟩:=tg (w:=wr.drew) LA;clear jM fz lz hm uI xO fD zW LA;go_region_law (first
    |(refine PE (by rfl) (.tmp 46) (.tmp 51) 48 (by rfl) 0 51 (Value.agg mo) 16 200 underlying48 yS rfl (by decide) (.slice fa m fc) m _ (by rfl) oY.O wr 1 1 (cA (d:Int) 1 y V X qa qc ea ec) (by rfl) (dO wr.drew (cA (d:Int) 1 y V X qa qc ea ec) 51 16 1 rfl) (KA _ _ _ _ _ _ _) (by unfold maxLen;omega) (by omega) (bP _) (by decide) ?_;intro fS wU w6 ky pX;have bI:=pX.grown;have r6:=hZ bI ff.O.hS (i_ ff.O.hS oY.O (by decide));have e7:=D 6 r6;have f7:=aC r6 6))
   all_goals
    have H_:(Value.slice fS (m+1) wU).ownBlock≠some w.heap.size:=fun G=>by
     rcases pX with⟨b,n1,n2,c1,q1,q2,_⟩|⟨⟨k,q1,q2⟩,_⟩
     ·rw[q2] at G;rw[q1] at uw;exact uw.O G
     rw[q1] at G;have h1:=Option.some.inj G;have h2:wr.heap.size≤(wr.alloc (.cells (cA (d:Int) 1 y V X qa qc ea ec) 51)).drew.heap.size:=Bw.O.size;have h3:=(eI.1 N3.O).1
     omega
    obtain⟨M7,iz,xM,xP⟩:=RX.mP (fs:=s.ag++ [⟨d,1,y⟩]) (ps:=gf++ [((.slice V y.note.ay.length X,.slice qa y.note.props.length qc,.slice ea y.ids.length ec),⟨d,1,y⟩)]) ff.O Ik.O (by rw[nv,wT.O];rfl) (fun p hp=>by
     rcases ez.1 hp with hp|hp
     ·exact vK.O p hp
     obtain rfl:=dM.1 hp;exact pR.O) (by rw[jZ,aK,HM.O];exact ky) pX
    exact abS
  have cB:(y.ah != 1)=true:=by simp[gJ]
  have jl:=Z gJ;clear gJ;go_wp2_with (first
   |(go_at_call 125;go_must(refine xV Rb {s with queue:=rest} d (-1) AV.O FE.O _ Ms _ H3.O _ ?_)))
  have iM:Hid (s.ag++ [(⟨d,y.ah,y⟩:Fl)]=s.ag++ [⟨d,2,y⟩]):=by
   show _=_;rw[jl.O]
  go_wp2_with fail;have Lz:=Z (ji.O.below (bq wr));have di:Below wr.drew.heap.size wr.drew (wr.drew.alloc (.cells (cA (d:Int) 2 y V X qa qc ea ec) 51)):=aD _ _;have ff:=Z (Lz.O.below di);have zW:Below wr wr (wr.drew.alloc (.cells (cA (d:Int) 2 y V X qa qc ea ec) 51)):=ed (bq wr) di;have oX:Hid ((wr.drew.alloc (.cells (cA (d:Int) 2 y V X qa qc ea ec) 51)).heap[w.heap.size]? =some (.cells aX 36)):=aA N3.O zW;have Co:Hid ((wr.drew.alloc (.cells (cA (d:Int) 2 y V X qa qc ea ec) 51)).heap[w.heap.size+1]? =some (.cells (aG y V X qa qc ea ec) 36)):=aA T3.O zW;have uI:dk (wr.drew.alloc (.cells (cA (d:Int) 2 y V X qa qc ea ec) 51)) Ms (.slice V y.note.ay.length X,.slice qa y.note.props.length qc,.slice ea y.ids.length ec) y:=(uH.O.sep (.cL (bq wr))).sep (.cL di);have pR:=Z uI;have Ik:Hid (∀b,Ms b→b<(wr.drew.alloc (.cells (cA (d:Int) 2 y V X qa qc ea ec) 51)).heap.size):=Z (fun b U=>eV (PG.O b U) zW.size);have Bw:=Z zW;obtain⟨gf,jM,fz,lz⟩:=ff.O.hf;obtain⟨m,hm⟩:=ai s.ag.length;obtain⟨fa,fc,oV⟩:∃a c,fv= .slice a m c:=by
   rw[←hm];exact cR fz
  subst oV;have xO:({s with queue:=rest}:az).ag.length=m:=hm;rw[hm] at rN;rw[xO] at fz;obtain⟨HM,wT,oY,vK⟩:=cF hm jM fz lz;have c7:wr.drew.cell? ⟨Rb,6,none⟩=some (.slice fa m fc):=Lz.O.cells.2.2.2.2.2.2.1;have Fp:(wr.alloc (.cells (cA (d:Int) 2 y V X qa qc ea ec) 51)).drew.cell? ⟨Rb,6,none⟩=some (.slice fa m fc):=cell_later di c7;have LA:wr.drew.heap[w.heap.size+1]? =some (.cells (aG y V X qa qc ea ec) 36):=T3.O;obtain⟨⟨i0,i1,i2,i3,i4,i5,i6⟩,i7,i8,i9,i10,i11,i12,i13⟩:=tg (w:=wr.drew) LA;clear jM fz lz hm uI xO fD zW LA;go_region_law (first
   |(refine PE (by rfl) (.tmp 46) (.tmp 51) 48 (by rfl) 0 51 (Value.agg mo) 16 200 underlying48 yS rfl (by decide) (.slice fa m fc) m _ (by rfl) oY.O wr 1 1 (cA (d:Int) 2 y V X qa qc ea ec) (by rfl) (dO wr.drew (cA (d:Int) 2 y V X qa qc ea ec) 51 16 1 rfl) (KA _ _ _ _ _ _ _) (by unfold maxLen;omega) (by omega) (bP _) (by decide) ?_;intro fS wU w6 ky pX;have bI:=pX.grown;have r6:=hZ bI ff.O.hS (i_ ff.O.hS oY.O (by decide));have e7:=D 6 r6;have f7:=aC r6 6))
  all_goals
   have H_:(Value.slice fS (m+1) wU).ownBlock≠some w.heap.size:=fun G=>by
    rcases pX with⟨b,n1,n2,c1,q1,q2,_⟩|⟨⟨k,q1,q2⟩,_⟩
    ·rw[q2] at G;rw[q1] at uw;exact uw.O G
    rw[q1] at G;have h1:=Option.some.inj G;have h2:wr.heap.size≤(wr.alloc (.cells (cA (d:Int) 2 y V X qa qc ea ec) 51)).drew.heap.size:=Bw.O.size;have h3:=(eI.1 N3.O).1
    omega
   obtain⟨M7,iz,xM,xP⟩:=RX.mP (fs:=s.ag++ [⟨d,2,y⟩]) (ps:=gf++ [((.slice V y.note.ay.length X,.slice qa y.note.props.length qc,.slice ea y.ids.length ec),⟨d,2,y⟩)]) ff.O Ik.O (by rw[nv,wT.O];rfl) (fun p hp=>by
    rcases ez.1 hp with hp|hp
    ·exact vK.O p hp
    obtain rfl:=dM.1 hp;exact pR.O) (by rw[jZ,aK,HM.O];exact ky) pX
   exact abS
open List (getElem_mem)
variable{x:Im}{B m:Nat}{v v' v1 v2 v3:Value}{lQ:World}
structure uU(wr:World)(B m:Nat)(v:Value)(L:List Im)(qs:List (V3×Im)):Prop where
 eqs:qs.map (·.2)=L
 row:wr.ownsRow B 36 14 v m (qs.flatMap dX)
 new:∀p∈qs,ft wr B p.1.1 p.1.2.1 p.1.2.2 p.2
 reach:∀p∈qs,fX p.2
theorem uU.below{wr:World}{L:List Im}{qs:List (V3×Im)}(h:uU wr B m v L qs)(U:Below wr wr lQ):uU lQ B m v L qs:=
 ⟨h.eqs,aR h.row U,fun p hp=>(h.new p hp).below U,h.reach⟩
theorem uU.push{wr:World}{L L':List Im}{qs:List (V3×Im)}(h:uU wr B m v L qs)(hL:L'=L++ [x])(ho:ft wr B v1 v2 v3 x)(U:fX x)
 (hr:lQ.ownsRow B 36 14 v' (m+1) (qs.flatMap dX++dX ((v1,v2,v3),x))) (A:wr.grownBy lQ v.ownBlock):uU lQ B (m+1) v' L' (qs++ [((v1,v2,v3),x)]):=by
 refine⟨by rw[hL,nv,h.eqs];rfl,by rw[jZ];simpa using hr,fun p hp=> ?_,fun p hp=> ?_⟩
 ·rcases ez.1 hp with hp|hp
  ·exact(h.new p hp).app h.row (by decide) (by decide) (by decide) A
  ·obtain rfl:=dM.1 hp;exact ho.app h.row (by decide) (by decide) (by decide) A
 rcases ez.1 hp with hp|hp
 ·exact h.reach p hp
 obtain rfl:=dM.1 hp;exact U
def tR(fs:List Fl):List Im:=(fs.filter qL).map (·.item)
theorem an9(fs:List Fl)(k:Nat)(h:k<fs.length):tR (fs.take (k+1))=tR (fs.take k)++(if qL fs[k]=true then [(fs[k]).item] else []):=by
 unfold tR;rw[Ip _ fs k h,nv]
 congr 1
 split<;>rfl
theorem acB{P:Prop}(h:P:=by
 go_wp2;go_roundg (n - (k+1))
 case measure=>omega
 case rel=>exact⟨k+1,m,c,Y,qs,by omega,rfl,by go_num,rfl,by omega,tS,dj⟩):P:=h
theorem acC{P:Prop}(h:P:=by
 go_wp2;go_roundg (nf - (k+1))
 case measure=>omega
 case rel=>exact⟨k+1,m,c,Y,qs,by omega,rfl,by go_num,rfl,by omega,tS,dj⟩):P:=h
theorem aoa(S:Nat)(s:az)(N:Nat)(hN:(w_ s).length=N)(hl:s.queue.length≤100000)(rN:s.ag.length≤100000)(w:World)(M:Nat→Prop)(h:SR w M S s)(R:ak)
 (I:∀Y c (qs:List (V3×Im)) w',qs.map (·.2)=w_ s→w'.ownsRow w 36 14 (.slice Y N c) N (qs.flatMap dX)→(∀p∈qs,ft w' w.heap.size p.1.1 p.1.2.1 p.1.2.2 p.2)→(∀p∈qs,fX p.2)→Below w w w'→R (.returned (.slice Y N c)) w'):
 Calls prog 17 #[zq S] w R:=by
 have HR:=Z I;obtain⟨NB,MB,GB,GM,sv,qv,fv,F⟩:=h;obtain⟨ps,aZ,aq,a_,_⟩:=id F.hq;obtain⟨gf,jM,fz,lz,_⟩:=id F.hf;obtain⟨n,hn⟩:=ai s.queue.length;obtain⟨nf,pf⟩:=ai s.ag.length;have f_:ps.length=n:=by rw[←hn,←aZ];simp
 have zL:gf.length=nf:=by rw[←pf,←jM];simp
 rw[hn] at aq hl;rw[pf] at fz rN;obtain⟨va,vc,rfl⟩:=aq.shape;obtain⟨fa,fc,rfl⟩:=cR fz;have c7:=(ef F.hS).2.2.2.1;obtain⟨HX,dR,aV,je,wT,oY,vK,jd,vQ,kO,zI,pT⟩:=Jp F aZ aq a_ jM fz lz f_ zL hN hn pf;have Fx:Hid (uU w w.heap.size 0 (.slice none 0 0) (tR (s.ag.take 0)) []):=⟨by simp[tR],bO _ _ _ _,fun p hp=>by simp at hp,fun p hp=>by simp at hp⟩
 clear I F aZ aq a_ hn f_ jM fz lz pf zL hN;go_enter func17,ntmps17;go_wp2;go_loopg [3,13] nf (fun gn r i wr=>∃(k m c:Nat)(Y:av) (qs:List (V3×Im)),k≤nf∧gn=nf - k∧i= .int .i64 k∧r= .slice Y m c∧m≤k∧Hid (uU wr w.heap.size m (.slice Y m c) (tR (s.ag.take k)) qs)∧Hid (Below w w wr))
 case atStart=>exact⟨0,0,0,none,[],bP _,by omega,rfl,rfl,Nat.le_refl _,Fx,Z dg⟩
 case round=>
  clear c7;obtain⟨k,m,c,Y,qs,G,rfl,rfl,rfl,iW,HF,HB⟩:=hrel;obtain⟨wo,rfl⟩:∃x,x=wr:=⟨_,rfl⟩
  by_cases au:k<nf
  ·have bo:(k:Int)<(nf:Int):=by omega
   have fF:k<gf.length:=by have:=vQ.O;omega
   have wX:k<s.ag.length:=by have:=pT.O;omega
   have qH:s.ag[k]=(gf[k]).2:=by
    have h2:=congrArg (fun l=>l[k]?) wT.O;exact OO
   have cB:=an9 s.ag k wX;have a_:=vK.O _ (getElem_mem fF);have FN:=aR oY.O HB.O;obtain⟨g,nJ⟩:=jF FN (by omega);subst nJ;have g_:∀j,j<16→wo.cell? ⟨g,k*16+j,none⟩=(bV gf[k])[j]?:=fun j hj=>by
    have:=vQ.O;rw[FN.cellAt (k*16+j) (by omega),kY 16 bV j5 gf k j fF hj]
   obtain⟨⟨⟨v1,v2,v3⟩,⟨dH,fst,x⟩⟩,jV⟩:∃p,gf[k]=p:=⟨_,rfl⟩
   rw[jV] at qH a_ g_;rw[qH] at cB;simp only at cB;obtain⟨⟨V,X,e1⟩,⟨qa,qc,e2⟩,ea,ec,e3⟩:=a_.1.O.shape;simp only at e1 e2 e3;subst e1 e2 e3;have iM:Hid (∀j,j<16→wo.cell? ⟨g,k*16+j,none⟩= (cA dH fst x V X qa qc ea ec:List Value)[j]?):=g_;have jL:=Z a_.2;have ny:Below wo wo (wo.alloc (.cells (cA dH fst x V X qa qc ea ec) 51)):=aD _ _;have zw:=Z (show ie (wo.alloc (.cells (cA dH fst x V X qa qc ea ec) 51)) (.slice V x.note.ay.length X) (.slice qa x.note.props.length qc) (.slice ea x.ids.length ec) x from(a_.1.O.below HB.O).below ny);have tC:=Z (HF.O.below ny);have dj:=Z (aQ HB.O ny);have hT:=aH wo (.cells (cA dH fst x V X qa qc ea ec) 51);have jl:=Z cB;clear g_ cB jV qH a_ FN ny;go_upto_region 5 with(first
    |(refine iT 16 51 15 g ((k*16)) ((cA dH fst x V X qa qc ea ec)) iM.O underlying51 ?_))
   generalize wo.alloc (.cells (cA dH fst x V X qa qc ea ec) 51)=w1 at zw tC dj hT⊢;obtain⟨T,cQ⟩:=ai wo.heap.size;rw[cQ] at hT⊢;have d1:w1.cell? ⟨T,1,none⟩=some (.int .i64 fst):=D 1 hT;have d15:w1.cell? ⟨T,15,none⟩=some (.string (str x.share)):=D 15 hT;have eT:Hid (∀j,j<14→w1.cell? ⟨T,2+j,none⟩= (aG x V X qa qc ea ec:List Value)[j]?):=Z (fun j hj=>by
    rw[D (2+j) hT]
    match j,hj with
    |0,_|1,_|2,_|3,_|4,_|5,_|6,_|7,_|8,_|9,_|10,_|11,_|12,_|13,_=>rfl)
   have HT:=Z hT;clear hT cQ HF HB;by_cases cH:fst=1
   ·subst cH;by_cases bF:x.share= []
    ·have tS:Hid (uU w1 w.heap.size m (.slice Y m c) (tR (s.ag.take (k+1))) qs):=by
      have:=jl.O;rw[show qL ⟨dH,1,x⟩=false by simp[qL,bF],if_neg (by decide),od] at this;rw[this];exact tC
     rw[bF] at d15;have O4:w1.cell? ⟨T,15,none⟩=some (.string ⟨#[]⟩):=d15;clear bF d15;exact acC
    ·have xi:Hid (tR (s.ag.take (k+1))=tR (s.ag.take k)++ [x]):=by
      have:=jl.O;rw[show qL ⟨dH,1,x⟩=true by simp[qL,bF],if_pos rfl] at this;exact this
     have ik:((str x.share).toList==ByteArray.toList ⟨#[]⟩)=false:=by rw[O3];simpa using bF
     have TB:(x.share== [])=false:=by simpa using bF
     go_wp2_with (first
      |(refine iT 28 36 27 T 2 ((aG x V X qa qc ea ec)) eT.O underlying36 ?_)
      |(go_at_call 37;go_must(refine Ev x _ _ _ _ zw.O jL.O _ ?_;intro mL mM tw tx tz tA w7 gD bp;have tD:Below w7 w7 (w7.alloc (.cells (aG x mL mM tw tx tz tA) 36)):=aD _ _;have tB:=Z ((tC.O.below bp).below tD);have oi:=Z ((gD.mono dj.O.size).below tD);have jI:=Z (cz (aQ dj.O bp) tD (aJ dj.O.size bp.size));clear gD bp tD))
      |(have hq:=tB;at_builtin;go_must(refine jr (by rfl) (.tmp 26) (.tmp 30) 52 (by rfl) w 36 (Value.agg aX) 14 184 underlying52 vr rfl (by decide) Y m c _ (by rfl) tB.O.row (some ⟨w7,0,none⟩) 1 1 (aG x mL mM tw tx tz tA) (by rfl) (dO w7 (aG x mL mM tw tx tz tA) 36 14 1 rfl) (BE _ _ _ _ _ _ _) (fun h=>by cases h) (by unfold maxLen;omega) (by omega) jI.O.size ?_;intro fK c9 w9 dA bW _;have zx:=Z (tB.O.push xi.O oi.O jL.O dA bW);have nG:=Z (bT jI.O bW jI.O.size tB.O.row);clear hq dA bW)))
     go_roundg (nf - (k+1))
     case measure=>omega
     case rel=>exact⟨k+1,m+1,c9,fK,_,by omega,rfl,by go_num,rfl,by omega,zx,nG⟩
   have tS:Hid (uU w1 w.heap.size m (.slice Y m c) (tR (s.ag.take (k+1))) qs):=by
    have:=jl.O;rw[show qL ⟨dH,fst,x⟩=false by simp[qL,cH],if_neg (by decide),od] at this;rw[this];exact tC
   have ik:(fst==1)=false:=by simpa using cH
   exact acC
  have bo:¬(k:Int)<(nf:Int):=by omega
  obtain rfl:nf=k:=by omega
  have aob:Hid (uU wo w.heap.size m (.slice Y m c) (tR s.ag++(s.queue.take 0).filter lA) qs):=by
   have:=HF.O;rw[gy (by have:=pT.O;omega)] at this;show uU _ _ _ _ _ _
   simpa using this
  have c6:=cell_later HB.O (ef HX.O.hS).2.2.1;have mY:m≤nf:=iW;clear HF;go_wp2;go_loopg [3,38] n (fun gn r i wr=>∃(k m c:Nat)(Y:av) (qs:List (V3×Im)),k≤n∧gn=n - k∧i= .int .i64 k∧r= .slice Y m c∧m≤nf+k∧Hid (uU wr w.heap.size m (.slice Y m c) (tR s.ag++(s.queue.take k).filter lA) qs)∧Hid (Below w w wr))
  case atStart=>exact⟨0,m,c,Y,qs,bP _,by omega,rfl,rfl,mY,aob,HB⟩
  case round=>
   clear HB c6 iW G bo;obtain⟨k,m,c,Y,qs,G,rfl,rfl,rfl,iW,HF,HB⟩:=hrel;obtain⟨wo,rfl⟩:∃x,x=wr:=⟨_,rfl⟩
   by_cases au:k<n;rotate_left
   ·have bo:¬(k:Int)<(n:Int):=by omega
    obtain rfl:n=k:=by omega
    have rI:qs.map (·.2)=w_ s:=by
     rw[HF.O.eqs,gy (by have:=zI.O;omega)]
     rfl
    have TC:m=N:=by
     have h1:=HF.O.row.1;rw[fY 14 dX oS] at h1;rw[←kO.O,←rI,j0]
     omega
    subst TC;have lL:=Z (HR.O Y c qs wo rI HF.O.row HF.O.new HF.O.reach HB.O);clear rI;go_wp2;exact lL.O
   have bo:(k:Int)<(n:Int):=by omega
   have fF:k<ps.length:=by have:=jd.O;omega
   have pM:k<s.queue.length:=by have:=zI.O;omega
   have uF:s.queue[k]=(ps[k]).2:=by
    have h2:=congrArg (fun l=>l[k]?) dR.O;exact Oq
   have cB:=Ip lA s.queue k pM;have a_:=je.O _ (getElem_mem fF);obtain⟨g,o,nJ,bg,_⟩:=(aV.O.below HB.O).at (by omega);subst nJ;have bZ:∀j,j<14→wo.cell? ⟨g,o+k*14+j,none⟩=(dX ps[k])[j]?:=fun j hj=>by
    have:=jd.O;rw[oO,bg (k*14+j) (by omega),kY 14 dX oS ps k j fF hj]
   obtain⟨⟨⟨v1,v2,v3⟩,x⟩,hp⟩:∃p,ps[k]=p:=⟨_,rfl⟩
   rw[hp] at uF a_ bZ;rw[uF] at cB;simp only at cB;obtain⟨⟨V,X,e1⟩,⟨qa,qc,e2⟩,ea,ec,e3⟩:=a_.1.O.shape;simp only at e1 e2 e3;subst e1 e2 e3;have HC:Hid (∀j,j<14→wo.cell? ⟨g,o+k*14+j,none⟩= (aG x V X qa qc ea ec:List Value)[j]?):=bZ;have jL:=Z a_.2;have ny:Below wo wo (wo.alloc (.cells (aG x V X qa qc ea ec) 36)):=aD _ _;have zw:=Z (show ie (wo.alloc (.cells (aG x V X qa qc ea ec) 36)) (.slice V x.note.ay.length X) (.slice qa x.note.props.length qc) (.slice ea x.ids.length ec) x from(a_.1.O.below HB.O).below ny);have tC:=Z (HF.O.below ny);have dj:=Z (aQ HB.O ny);have hT:=aH wo (.cells (aG x V X qa qc ea ec) 36);have jl:=Z cB;clear bg uF a_ bZ hp ny cB;go_upto_region 11 with(first
    |(refine iT 41 36 40 g ((o+k*14)) ((aG x V X qa qc ea ec)) HC.O underlying36 ?_))
   generalize wo.alloc (.cells (aG x V X qa qc ea ec) 36)=w1 at zw tC dj hT⊢;obtain⟨T,cQ⟩:=ai wo.heap.size;rw[cQ] at hT⊢;have d10:w1.cell? ⟨T,10,none⟩=some (.int .i64 x.ah):=D 10 hT;have d13:w1.cell? ⟨T,13,none⟩=some (.string (str x.share)):=D 13 hT;have HT:=Z hT;clear hT cQ HF HB;by_cases hq:(0:Int)<x.ah
   ·have wB:decide ((0:Int)<x.ah)=true:=eN hq;by_cases bF:x.share= []
    ·have tS:Hid (uU w1 w.heap.size m (.slice Y m c) (tR s.ag++(s.queue.take (k+1)).filter lA) qs):=by
      have:=jl.O;rw[show lA x=false by simp[lA,bF],if_neg (by decide),od] at this;rw[this];exact tC
     rw[bF] at d13;have alb:w1.cell? ⟨T,13,none⟩=some (.string ⟨#[]⟩):=d13;clear bF d13;exact acB
    ·have xi:Hid (tR s.ag++(s.queue.take (k+1)).filter lA=(tR s.ag++(s.queue.take k).filter lA)++ [x]):=by
      have:=jl.O;rw[show lA x=true by simp[lA,bF,hq],if_pos rfl] at this;show _=_;rw[this,kT]
     have ik:((str x.share).toList==ByteArray.toList ⟨#[]⟩)=false:=by rw[O3];simpa using bF
     have TB:(x.share== [])=false:=by simpa using bF
     go_wp2_with (first
      |(refine kJ 51 36 7 T HT.O underlying36 ?_)
      |(go_at_call 37;go_must(refine Ev x _ _ _ _ zw.O jL.O _ ?_;intro mL mM tw tx tz tA w7 gD bp;have tD:Below w7 w7 (w7.alloc (.cells (aG x mL mM tw tx tz tA) 36)):=aD _ _;have tB:=Z ((tC.O.below bp).below tD);have oi:=Z ((gD.mono dj.O.size).below tD);have jI:=Z (cz (aQ dj.O bp) tD (aJ dj.O.size bp.size));clear gD bp tD))
      |(have hq:=tB;at_builtin;go_must(refine jr (by rfl) (.tmp 50) (.tmp 53) 52 (by rfl) w 36 (Value.agg aX) 14 184 underlying52 vr rfl (by decide) Y m c _ (by rfl) tB.O.row (some ⟨w7,0,none⟩) 1 1 (aG x mL mM tw tx tz tA) (by rfl) (dO w7 (aG x mL mM tw tx tz tA) 36 14 1 rfl) (BE _ _ _ _ _ _ _) (fun h=>by cases h) (by unfold maxLen;omega) (by omega) jI.O.size ?_;intro fK c9 w9 dA bW _;have zx:=Z (tB.O.push xi.O oi.O jL.O dA bW);have nG:=Z (bT jI.O bW jI.O.size tB.O.row);clear hq dA bW)))
     go_roundg (n - (k+1))
     case measure=>omega
     case rel=>exact⟨k+1,m+1,c9,fK,_,by omega,rfl,by go_num,rfl,by omega,zx,nG⟩
   have wB:decide ((0:Int)<x.ah)=false:=dN hq;have tS:Hid (uU w1 w.heap.size m (.slice Y m c) (tR s.ag++(s.queue.take (k+1)).filter lA) qs):=by
    have:=jl.O;rw[show lA x=false by simp[lA,hq],if_neg (by decide),od] at this;rw[this];exact tC
   exact acB
