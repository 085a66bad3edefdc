/- A part of the proof of SessionPlays, printed small; no conditions of its own. -/
import Derived.Test.YtgimbocoamnkjaaGreatDoorM03
import Derived.Lib.Bytealg
set_option maxRecDepth 100000
set_option maxHeartbeats 16000000
namespace Go.Proofs.YtgimbocoamnkjaaGreatDoor
open _root_.Go.Proofs.Tryz
open List (mem_cons_of_mem)
variable{x:Im}{rest:List Im}{GB GM MB N NB S:Nat}{M:Nat→Prop}{s:aF}{fv dp qv bK sv:Value}{w w' w1:World}
open Go.RowKit
theorem SX.Cj(h:SX w M S NB MB GB GM sv qv fv s)(o:Obj):
 SX (w.alloc o) (fun b=>M b∨b=w.heap.size) S NB MB GB GM sv qv fv s∧Sep M (fun b=>M b∨b=w.heap.size) w (w.alloc o):=by
 have hb:Below w w (w.alloc o):=(Below.refl _ _).alloc (Nat.le_refl _) o;have hs:Sep M (fun b=>M b∨b=w.heap.size) w (w.alloc o):=(Sep.cU hb).more (fun b hb=>hb.imp id (fun e=>by omega)) (fun F ⟨m,hm,hl⟩=>⟨m,.inl hm,hl⟩);have h1:=h.below hb;have eJ:∀{b t:Nat}{fr:Nat×Nat}{cs:Array Value},w.heap[b]? =some (.cells cs t fr)→b<w.heap.size:=fun h=>(Array.getElem?_eq_some_iff.1 h).1;exact ⟨⟨h1.hS,h1.hn,h1.hg,h1.hs,h.hq.sep hs (fun k hk=>hb.block k (h.lt k (h.hq.own k hk))) (fun k hk=> .inl (h.hq.own k hk)),h.hf.sep hs (fun k hk=>hb.block k (h.lt k (h.hf.own k hk))) (fun k hk=> .inl (h.hf.own k hk)),h.nb,h.nm,.inl h.mS,.inl h.mN,.inl h.mG,fun k hk=> .inl (h.ms k hk),
  (fun hm=>hm.elim h.oP (fun e=>by have:=eJ h.hn.1;omega)),(fun hm=>hm.elim h.oQ (fun e=>by have:=eJ h.hg.1;omega)),fun b hb=>by
    rcases hb with hb|hb
    ·have:=h.lt b hb;simp
     omega
    ·simp
     omega⟩,hs⟩
theorem SX.Uo(h:SX w M S NB MB GB GM sv qv fv s)(hN:M N)(Eu:S≤N)(hg:w.grownBy w' (some N))(e0:N≠S)(e1:N≠NB)(e2:N≠MB)(e3:N≠GB)(e4:N≠GM)(e5:sv.ownBlock≠some N)(e6:qv.ownBlock≠some N)(e7:fv.ownBlock≠some N):
 SX w' (fun b=>M b∧b≠N) S NB MB GB GM sv qv fv s∧Sep M (fun b=>M b∧b≠N) w w':=by
 have hs:Sep M (fun b=>M b∧b≠N) w w':=(Sep.kn hg (fun k hk=>by cases hk;exact hN)).more (fun b hb=> .inl hb.1) (fun F ⟨m,hm,hl⟩=>by
  by_cases e:m=N
  ·exact ⟨S,⟨h.mS,e0.symm⟩,by omega⟩
  ·exact ⟨m,⟨hm,e⟩,hl⟩)
 have eJ:∀{b t:Nat}{fr:Nat×Nat}{cs:Array Value},w.heap[b]? =some (.cells cs t fr)→b<w.heap.size:=fun h=>(Array.getElem?_eq_some_iff.1 h).1;have key:∀b,b<w.heap.size→N≠b→w'.heap[b]? =w.heap[b]?:=fun b hb bh=>hg.block b hb (fun e=>bh (Option.some.inj e).symm);have own:∀{v:Value}{k:Nat},v.ownBlock≠some N→v.ownBlock=some k→N≠k:=fun hv hk e=>hv (e▸hk);exact ⟨⟨(key S (eJ h.hS) e0).trans h.hS,h.hn.sB (key _ (eJ h.hn.1) e1) (key _ h.hn.2.lt e2),h.hg.sB (key _ (eJ h.hg.1) e3) (key _ h.hg.2.lt e4),
  j_ h.hs (fun k hk=>key k (h.lt k (h.ms k hk)) (own e5 hk)),h.hq.sep hs (fun k hk=>key k (h.lt k (h.hq.own k hk)) (own e6 hk)) (fun k hk=>⟨h.hq.own k hk,(own e6 hk).symm⟩),h.hf.sep hs (fun k hk=>key k (h.lt k (h.hf.own k hk)) (own e7 hk)) (fun k hk=>⟨h.hf.own k hk,(own e7 hk).symm⟩),
  h.nb,h.nm,⟨h.mS,e0.symm⟩,⟨h.mN,e2.symm⟩,⟨h.mG,e4.symm⟩,fun k hk=>⟨h.ms k hk,(own e5 hk).symm⟩,fun hm=>h.oP hm.1,fun hm=>h.oQ hm.1,fun b hb=>Nat.lt_of_lt_of_le (h.lt b hb.1) hg.size⟩,hs⟩
theorem SX.NU{l:List Int}(h:SX w M S NB MB GB GM sv qv fv s)(hg:w.grownBy w' (some MB))(hn:St w' NB MB l):
 SX w' M S NB MB GB GM sv qv fv {s with cj:=l}∧Sep M M w w':=by
 have hs:Sep M M w w':= .kn hg (fun k hk=>by cases hk;exact h.mN);have hk:=h.hn.kinds.2;obtain ⟨p1,_,p3,p4,p5,p6⟩:=h.parts MB hg (fun _ hm=>hm) hs;exact ⟨⟨(p1 (by rw [hk];decide)).trans h.hS,hn,p3 h.nm (by rw [hk];decide),p4 (by rw [hk];decide),p5 (by rw [hk];decide),p6 (by rw [hk];decide),h.nb,h.nm,h.mS,h.mN,h.mG,h.ms,h.oP,h.oQ,fun b hb=>Nat.lt_of_lt_of_le (h.lt b hb) hg.size⟩,hs⟩
theorem SX.NV{l:List Int}(h:SX w M S NB MB GB GM sv qv fv s)(hg:w.grownBy w' (some GM))(hn:St w' GB GM l):
 SX w' M S NB MB GB GM sv qv fv {s with aH:=l}∧Sep M M w w':=by
 have hs:Sep M M w w':= .kn hg (fun k hk=>by cases hk;exact h.mG);have hk:=h.hg.kinds.2;obtain ⟨p1,p2,_,p4,p5,p6⟩:=h.parts GM hg (fun _ hm=>hm) hs;exact ⟨⟨(p1 (by rw [hk];decide)).trans h.hS,p2 h.nm.symm (by rw [hk];decide),hn,p4 (by rw [hk];decide),p5 (by rw [hk];decide),p6 (by rw [hk];decide),h.nb,h.nm,h.mS,h.mN,h.mG,h.ms,h.oP,h.oQ,fun b hb=>Nat.lt_of_lt_of_le (h.lt b hb) hg.size⟩,hs⟩
theorem SX.pop{c:V3}{pr:List (V3×Im)}(h:SX w M S NB MB GB GM sv qv fv s)(aT:pr.map (·.2)=rest)(aS:∀p∈(c,x)::pr,db w M p.1 p.2)
 (hr:bf w 36 14 bK rest.length (pr.flatMap cL)) (ho:bK.ownBlock=qv.ownBlock):
 SX (w.setCell ⟨S,6,none⟩ bK) M S NB MB GB GM sv bK fv {s with queue:=rest}∧Sep M M w (w.setCell ⟨S,6,none⟩ bK):=by
 have bM:=bL w ⟨S,6,none⟩ bK;have hk:=jR h.hS;have bt:Sep M M w (w.setCell ⟨S,6,none⟩ bK):= .kn bM (fun k hk=>by cases hk;exact h.mS);have hp:=h.parts S bM (fun _ hm=>hm) bt;refine ⟨h.set 6 bK ?_ rfl rfl id rfl ?_ (hp.2.2.2.2.2 (by rw [hk];decide)),bt⟩
 ·rw [heap_setCell_same w S 6 _ _ _ h.hS]
  rfl
 ·exact ⟨pr,aT,hr.grown bM (.inl (hr.ne h.hS (by decide))),fun p hp=>(aS p (mem_cons_of_mem _ hp)).sep bt,fun k hk=>h.hq.own k (ho▸hk)⟩
theorem SX.qN{ps:List (V3×Fl)}{fs:List Fl}(h:SX w M S NB MB GB GM sv qv fv s)(aT:ps.map (·.2)=fs)(aS:∀p∈ps,db w M p.1 p.2.item)
 (hr:w1.ownsRow 0 51 16 dp fs.length (ps.flatMap bH)) (hg:w.grownBy w1 fv.ownBlock) (bJ:dp.ownBlock=fv.ownBlock∨dp.ownBlock=some w.heap.size):
 ∃M',SX (w1.setCell ⟨S,7,none⟩ dp) M' S NB MB GB GM sv qv dp {s with aj:=fs}∧Sep M M' w (w1.setCell ⟨S,7,none⟩ dp)∧(∀b,M b→M' b):=by
 obtain ⟨K,hg,hK⟩:∃K,w.grownBy w1 (some K)∧(M K∧bA w K=51+2∨w.heap.size≤K):=by
  cases hv:fv.ownBlock with
  |none=>exact ⟨w.heap.size,uK (by rw [hv] at hg;exact hg),.inr (Nat.le_refl _)⟩
  |some k=>exact ⟨k,by rw [hv] at hg;exact hg,.inl ⟨h.hf.own k hv,h.hf.kind k hv⟩⟩
 have ju:∀k,dp.ownBlock=some k→M k∨w.heap.size≤k:=fun k hk=>by
  rcases bJ with e|e
  ·exact .inl (h.hf.own k (e▸hk))
  ·rw [e] at hk;cases hk;exact .inr (Nat.le_refl _)
 have Cf:∀k,dp.ownBlock=some k→k<w1.heap.size:=fun k hk=>(hr.lt k hk).2
 let M':Nat→Prop:=fun b=>M b∨dp.ownBlock=some b
 have ch:Sep M M' w w1:=⟨hg.os,hg.tape,hg.output,hg.size,fun b hb hM=>hg.block b hb (fun e=>by
  have e:=Option.some.inj e;rcases hK with ⟨hk,_⟩|hk
  ·exact hM (e▸hk)
  ·omega),fun b hb=>by
  rcases hb with hb|hb
  ·exact .inl hb
  ·exact ju b hb,fun F ⟨m,hm,hl⟩=>⟨m,.inl hm,hl⟩⟩
 have bh:∀b,b<w.heap.size→bA w b≠51+2→w1.heap[b]? =w.heap[b]?:=fun b hb hk=>hg.block b hb (fun e=>by
  have e:=Option.some.inj e;rcases hK with ⟨_,fA⟩|fA
  ·exact hk (e▸fA)
  ·omega)
 have eJ:∀{b t:Nat}{fr:Nat×Nat}{cs:Array Value},w.heap[b]? =some (.cells cs t fr)→b<w.heap.size:=fun h=>(Array.getElem?_eq_some_iff.1 h).1;have iz:=(bh S (eJ h.hS) (by rw [jR h.hS];decide)).trans h.hS;have ib:bA w1 S=94+2:=jR iz;have bM:=bL w1 ⟨S,7,none⟩ dp;have bt:Sep M' M' w1 (w1.setCell ⟨S,7,none⟩ dp):= .kn bM (fun k hk=>by cases hk;exact .inl h.mS);have aM:∀b,b<w1.heap.size→bA w1 b≠94+2→(w1.setCell ⟨S,7,none⟩ dp).heap[b]? =w1.heap[b]?:=fun b hb hk=>bM.block b hb (fun e=>hk (Option.some.inj e▸ib));have both:∀b,b<w.heap.size→bA w b≠51+2→bA w b≠94+2→(w1.setCell ⟨S,7,none⟩ dp).heap[b]? =w.heap[b]?:=fun b hb k1 k2=>by
  exact Es
 refine ⟨M',⟨?_,h.hn.sB (both _ (eJ h.hn.1) (by rw [h.hn.kinds.1];decide) (by rw [h.hn.kinds.1];decide)) (both _ h.hn.2.lt (by rw [h.hn.kinds.2];decide) (by rw [h.hn.kinds.2];decide)),
  h.hg.sB (both _ (eJ h.hg.1) (by rw [h.hg.kinds.1];decide) (by rw [h.hg.kinds.1];decide)) (both _ h.hg.2.lt (by rw [h.hg.kinds.2];decide) (by rw [h.hg.kinds.2];decide)),
  j_ h.hs (fun k hk=>both k (h.lt k (h.ms k hk)) (by rw [eI h.hs k hk];decide) (by rw [eI h.hs k hk];decide)),
  h.hq.sep (ch.trans bt) (fun k hk=>both k (h.lt k (h.hq.own k hk)) (by rw [h.hq.kind k hk];decide) (by rw [h.hq.kind k hk];decide)) (fun k hk=> .inl (h.hq.own k hk)),?_,
  h.nb,h.nm,.inl h.mS,.inl h.mN,.inl h.mG,fun k hk=> .inl (h.ms k hk),?_,?_,?_⟩,ch.trans bt,fun b hb=> .inl hb⟩
 ·rw [heap_setCell_same w1 S 7 _ _ _ iz]
  rfl
 ·refine ⟨ps,aT,jv hr iz (by decide) bM,fun p hp=>((aS p hp).sep ch).sep bt,fun k hk=> .inr hk⟩
 ·rintro (hm|hm)
  ·exact h.oP hm
  ·have h1:=eI hr NB hm;exact JT
 ·rintro (hm|hm)
  ·exact h.oQ hm
  ·have h1:=eI hr GB hm;exact JS
 ·rintro b (hb|hb)
  ·have:=h.lt b hb;have:=hg.size;simp only [World.setCell,Array.size_modify]
   omega
  ·have:=Cf b hb
   simpa [World.setCell] using this
theorem SX.NW(h:SX w M S NB MB GB GM sv qv fv s):
 w.heap.size≠S∧w.heap.size≠NB∧w.heap.size≠MB∧w.heap.size≠GB∧w.heap.size≠GM∧sv.ownBlock≠some w.heap.size∧qv.ownBlock≠some w.heap.size∧fv.ownBlock≠some w.heap.size:=by
 have eJ:∀{b t:Nat}{fr:Nat×Nat}{cs:Array Value},w.heap[b]? =some (.cells cs t fr)→b<w.heap.size:=fun h=>(Array.getElem?_eq_some_iff.1 h).1;have hn:=eJ h.hn.1;have hg:=eJ h.hg.1;refine ⟨fun e=>by have:=h.lt S h.mS;omega,by omega,fun e=>by have:=h.lt MB h.mN;omega,by omega,fun e=>by have:=h.lt GM h.mG;omega,fun e=> ?_,fun e=> ?_,fun e=> ?_⟩
 ·have:=h.lt _ (h.ms _ e);omega
 ·have:=h.lt _ (h.hq.own _ e);omega
 ·have:=h.lt _ (h.hf.own _ e);omega
def kV(s:aF)(bY:Int):Bool:=match s.queue with
 |[]=>false
 |x::_=>x.al==0 || (decide ((s.aj.length:Int)<bY)&&decide (s.aj.length<8))
theorem Up{P:Prop}(h:P:=by
 rw [←HZ.o_];refine AT fun x hx=> ?_;obtain ⟨j,hj,rfl⟩:=List.getElem_of_mem hx;exact HS.o_ j (by omega) hj):P:=h
variable{k:Nat}
def cV{α:Type}(p:α→Bool)(l:List α):Int:=match l.findIdx? p with
 |some i=>(i:Int)
 |none=> -1
theorem Ck{α:Type}{p:α→Bool}{l:List α}(hk:k<l.length)(h:p l[k]=true)(ho:∀j (hj:j<k),p (l[j]'(by omega))=false):cV p l=k:=by
 unfold cV;rw [(List.findIdx?_eq_some_iff_getElem (p:=p) (xs:=l) (i:=k)).2 ⟨hk,h,fun j hj=>by rw [ho j hj];simp⟩]
theorem AT{α:Type}{p:α→Bool}{l:List α}(h:∀x∈l,p x=false):cV p l= -1:=by
 unfold cV;rw [List.findIdx?_eq_none_iff.2 h]
theorem Uq(v:Value)(l:List Int)(d:Int)(z:Int)(hz:cV (fun x=>x==d) l=z)(hl:l.length≤1000000)(w:World)(hv:Is w v l)(R:Ending→World→Prop)
 (hR:R (.returned (.int .i64 z)) w):
 Calls prog 141 #[v,.int .i64 d] w R:=by
 have HR:=ab hR;have HV:=ab hv;have HZ:=ab hz;obtain ⟨va,vc,rfl,_⟩:=hv;clear hR hz;go_enter func141,ntmps141;go_wp2;go_loopg [8] l.length (fun gn i wr=>∃k:Nat,k≤l.length∧gn=l.length - k∧i= .int .i64 k∧wr=w∧Hid (∀(j:Nat)(hj:j<k)(h:j<l.length),(l[j]==d)=false))
 case atStart=>exact ⟨0,Nat.zero_le _,by omega,rfl,rfl,fun j hj=>by omega⟩
 case round=>
  obtain ⟨k,hk,rfl,rfl,rfl,HS⟩:=hrel;by_cases ao:k<l.length
  ·have bd:(k:Int)<(l.length:Int):=by omega
   obtain ⟨b,o,rfl,hc⟩:=HV.o_.at k ao;by_cases he:d=l[k]
   ·have F5:(d==l[k])=true:=by simp [he]
    obtain rfl:z=(k:Int):=by
     rw [←HZ.o_];exact Ck ao (by simp [he]) (fun j hj=>HS.o_ j hj (by omega))
    go_wp2;exact HR.o_
   ·have F5:(d==l[k])=false:=by simpa using he
    have HN:Hid (∀(j:Nat)(hj:j<k+1)(h:j<l.length),(l[j]==d)=false):=fun j hj h=>by
     by_cases e:j=k
     ·subst e
      simpa using fun h=>he h.symm
     ·exact HS.o_ j (by omega) h
    clear he HS;go_wp2;go_roundg (l.length - (k+1))
    case measure=>omega
    case rel=>exact ⟨k+1,by omega,rfl,by go_num,rfl,HN⟩
  ·have bd:¬(k:Int)<(l.length:Int):=by omega
   obtain rfl:z= -1:=by
    exact Up
   go_wp2;exact HR.o_
theorem adh{l:List Int}{d:Int}:(decide (0≤cV (fun x=>x==d) l))=l.contains d:=by
 cases h:l.contains d with
 |true=>
  have hm:d∈l:=by simpa using h
  unfold cV;cases hf:l.findIdx? (fun x=>x==d) with
  |some i=>simp
  |none=>
   have:=List.findIdx?_eq_none_iff.1 hf d hm;simp at this
 |false=>
  have hm:d∉l:=by simpa using h
  rw [AT (fun x hx=>by
   simp only [beq_eq_false_iff_ne,ne_eq];rintro rfl;exact hm hx)]
  rfl
theorem NX(v:Value)(l:List Int)(d:Int)(b:Bool)(hb:l.contains d=b)(hl:l.length≤1000000)(w:World)(hv:Is w v l)(R:Ending→World→Prop)
 (hR:R (.returned (.bool b)) w):
 Calls prog 105 #[v,.int .i64 d] w R:=by
 have HR:=ab hR;have HV:=ab hv;obtain ⟨z,hz⟩:∃z,cV (fun x=>x==d) l=z:=⟨_,rfl⟩
 have Ev:decide (0≤z)=b:=by rw [←hz,←hb];exact adh
 have HZ:=ab hz;clear hR hb hz hv;cases b with
 |true=>
  have h0:0≤z:=by simpa using Ev
  clear Ev;go_enter func105,ntmps105;go_wp2_with (go_at_call 141;go_must (refine Uq v l d z HZ.o_ hl _ HV.o_ _ ?_));exact HR.o_
 |false=>
  have h0:¬0≤z:=by simpa using Ev
  clear Ev;go_enter func105,ntmps105;go_wp2_with (go_at_call 141;go_must (refine Uq v l d z HZ.o_ hl _ HV.o_ _ ?_));show R (Ending.returned (Value.bool (decide (0≤z)))) w;rw [decide_eq_false (show¬(0≤z) by omega)];exact HR.o_
def kE(id:Int)(st:List Int)(f:Fl):Bool:=f.id==id&&st.contains f.state
theorem Ur(A4 A5:Nat)(c0 c1 c2 c3 c4 c5 c6 c7 c8 c9 gw kq jm jP:Value)(cR fst:Int)(sv:Value)(id:Int)(st:List Int)(b:Bool)(hb:(cR==id&&st.contains fst)=b)(w:World)(h4:w.cell? ⟨A4,0,none⟩=some (.int .i64 id))(h5:w.cell? ⟨A5,0,none⟩=some sv)(hv:Is w sv st)(hl:st.length≤1000000)(R:Ending→World→Prop)
 (hR:∀w',Below w w w'→R (.returned (.bool b)) w'):
 Calls prog 104 #[.agg #[.int .i64 cR,.int .i64 fst,c0,c1,c2,c3,c4,c5,c6,c7,c8,c9,gw,kq,jm,jP],.pointer (some ⟨A4,0,none⟩),.pointer (some ⟨A5,0,none⟩)] w R:=by
 have HR:=ab hR;have aL:Below w w (w.alloc (.cells #[.int .i64 cR,.int .i64 fst,c0,c1,c2,c3,c4,c5,c6,c7,c8,c9,gw,kq,jm,jP] 51)):=(Below.refl _ _).alloc (Nat.le_refl _) _;have bu:=ab aL;have HV:=ab (hv.below aL);have g4:=cell_later aL h4;have g5:=cell_later aL h5;obtain ⟨sa,sc,rfl,_⟩:=hv;clear hR aL h4 h5;by_cases he:cR=id
 ·have F5:(cR==id)=true:=by simp [he]
  have lG:st.contains fst=b:=by rw [←hb,F5];rfl
  have cK:=ab lG;clear hb lG he;go_enter func104,ntmps104;go_wp2_with (go_at_call 105;go_must (refine NX _ st fst b cK.o_ hl _ HV.o_ _ ?_));exact HR.o_ _ bu.o_
 ·have F5:(cR==id)=false:=by simpa using he
  obtain rfl:false=b:=by rw [←hb,F5];rfl
  clear hb he;go_enter func104,ntmps104;go_wp2;exact HR.o_ _ bu.o_
variable{B g:Nat}
theorem F6{c:Nat}{ps:List (V3×Fl)}(h:w.ownsRow B 51 16 (.slice (some ⟨g,0,none⟩) ps.length c) ps.length (ps.flatMap bH))(hk:k<ps.length):∀j,j<16→w.cell? ⟨g,k*16+j,none⟩=(bH ps[k])[j]?:=fun j hj=>by
 rw [h.cellAt (k*16+j) (by omega),jQ 16 bH iY ps k j hk hj]
theorem adi{α β:Type}(f:α→β)(p:β→Bool)(l:List α):cV p (l.map f)=cV (fun x=>p (f x)) l:=by
 unfold cV;rw [List.findIdx?_map]
 rfl
theorem adj(fv:Value)(ps:List (V3×Fl))(id:Int)(st:List Int)(z:Int)(hz:cV (fun p:V3×Fl=>kE id st p.2) ps=z)(hl:ps.length≤1000000)(A4 A5:Nat)(sv:Value)(w:World)(hf:w.ownsRow 0 51 16 fv ps.length (ps.flatMap bH))
 (h4:w.cell? ⟨A4,0,none⟩=some (.int .i64 id)) (h5:w.cell? ⟨A5,0,none⟩=some sv) (hv:Is w sv st) (df:st.length≤1000000) (R:Ending→World→Prop)
 (hR:∀w',Below w w w'→R (.returned (.int .i64 z)) w'):
 Calls prog 103 #[fv,.func (.func 104) #[] #[.pointer (some ⟨A4,0,none⟩),.pointer (some ⟨A5,0,none⟩)]] w R:=by
 have HR:=ab hR;have HF:=ab hf;have HZ:=ab hz;have H4:=ab h4;have H5:=ab h5;have HV:=ab hv;obtain ⟨fa,fc,rfl⟩:=bF hf;clear hR hz h4 h5 hv hf;go_enter func103,ntmps103;go_wp2;go_loopg [5,8] ps.length (fun gn _ i wr=>∃k:Nat,k≤ps.length∧gn=ps.length - k∧i= .int .i64 k∧Hid (Below w w wr)∧Hid (∀(j:Nat)(hj:j<k)(h:j<ps.length),kE id st (ps[j]).2=false))
 case atStart=>exact ⟨0,Nat.zero_le _,by omega,rfl,ab (Below.refl _ _),fun j hj=>by omega⟩
 case round=>
  obtain ⟨k,hk,rfl,rfl,HB,HS⟩:=hrel;obtain ⟨wo,rfl⟩:∃x,x=wr:=⟨_,rfl⟩
  by_cases ao:k<ps.length
  ·have bd:(k:Int)<(ps.length:Int):=by omega
   have aV:=aK HF.o_ HB.o_;obtain ⟨g,hg⟩:=et aV (by omega);subst hg;have aW:=F6 aV ao;have HP:Hid (∀b,kE id st (ps[k]).2=b→(b=true→z=(k:Int))∧(b=false→∀(j:Nat)(hj:j<k+1)(h:j<ps.length),kE id st (ps[j]).2=false)):=by
    rintro b hb;refine ⟨fun e=> ?_,fun e j hj h=> ?_⟩
    ·rw [←HZ.o_];exact Ck ao (hb.trans e) (fun j hj=>HS.o_ j hj (by omega))
    ·by_cases e2:j=k
     ·subst e2;exact hb.trans e
     ·exact HS.o_ j (by omega) h
   obtain ⟨⟨⟨v1,v2,v3⟩,⟨cR,fst,x⟩⟩,hp⟩:∃p,ps[k]=p:=⟨_,rfl⟩
   rw [hp] at aW HP;have HC:Hid (∀j,j<16→wo.cell? ⟨g,k*16+j,none⟩= [Value.int .i64 cR,.int .i64 fst,.string (str x.note.aJ),v1,.int .i64 x.note.al,.bool x.note.aE,.string (str x.note.src),.int .i64 x.note.aN,v2,.int .i64 x.note.origin,.int .i64 x.note.number,.int .i64 x.note.aQ,.int .i64 x.al,.bool x.aM,v3,.string (str x.share)][j]?):=aW;obtain ⟨b,hb⟩:=ai (kE id st ⟨cR,fst,x⟩);have fU:=ab (HP.o_ b hb);have cK:Hid ((cR==id&&st.contains fst)=b):=hb;have JU:Hid (wo.cell? ⟨A4,0,none⟩=some (.int .i64 id)):=cell_later HB.o_ H4.o_;have F7:Hid (wo.cell? ⟨A5,0,none⟩=some sv):=cell_later HB.o_ H5.o_;have dO:=ab (HV.o_.below HB.o_);clear aV aW HP hb hp HS;cases b with
   |true=>
    obtain rfl:=fU.o_.1 rfl;clear fU;go_wp2_with (first
     |(refine ie (o:=⟨some 15,.load 51 (.tmp 14),_,_,_,_⟩) (by rfl) 51 (.tmp 14) (by rfl) (g) (k*16) (by rfl) ([Value.int .i64 cR,.int .i64 fst,.string (str x.note.aJ),v1,.int .i64 x.note.al,.bool x.note.aE,.string (str x.note.src),.int .i64 x.note.aN,v2,.int .i64 x.note.origin,.int .i64 x.note.number,.int .i64 x.note.aQ,.int .i64 x.al,.bool x.aM,v3,.string (str x.share)]) _ (HC.o_) (underlying51) (by rfl) (by kernel_rfl) ?_)
     |(go_at_call 104;go_must (refine Ur A4 A5 _ _ _ _ _ _ _ _ _ _ _ _ _ _ cR fst sv id st true cK.o_ wo JU.o_ F7.o_ dO.o_ df _ ?_);intro w7 aZ;have gf:=ab (aD HB.o_ aZ HB.o_.size);clear aZ))
    exact HR.o_ _ gf.o_
   |false=>
    have HN:=ab (fU.o_.2 rfl);clear fU;go_wp2_with (first
     |(refine ie (o:=⟨some 15,.load 51 (.tmp 14),_,_,_,_⟩) (by rfl) 51 (.tmp 14) (by rfl) (g) (k*16) (by rfl) ([Value.int .i64 cR,.int .i64 fst,.string (str x.note.aJ),v1,.int .i64 x.note.al,.bool x.note.aE,.string (str x.note.src),.int .i64 x.note.aN,v2,.int .i64 x.note.origin,.int .i64 x.note.number,.int .i64 x.note.aQ,.int .i64 x.al,.bool x.aM,v3,.string (str x.share)]) _ (HC.o_) (underlying51) (by rfl) (by kernel_rfl) ?_)
     |(go_at_call 104;go_must (refine Ur A4 A5 _ _ _ _ _ _ _ _ _ _ _ _ _ _ cR fst sv id st false cK.o_ wo JU.o_ F7.o_ dO.o_ df _ ?_);intro w7 aZ;have gf:=ab (aD HB.o_ aZ HB.o_.size);clear aZ))
    go_roundg (ps.length - (k+1))
    case measure=>omega
    case rel=>exact ⟨k+1,by omega,rfl,by go_num,gf,HN⟩
  ·have bd:¬(k:Int)<(ps.length:Int):=by omega
   obtain rfl:z= -1:=by
    exact Up
   go_wp2;exact HR.o_ _ HB.o_
theorem AU(S:Nat)(s:aF)(id:Int)(st:List Int)(z:Int)(hz:cV (kE id st) s.aj=z)(sv:Value)(w:World)(M:Nat→Prop)(h:SR w M S s)(hl:s.aj.length≤1000000)(hv:Is w sv st)(df:st.length≤1000000)(R:Ending→World→Prop)
 (hR:∀w',Below w w w'→R (.returned (.int .i64 z)) w'):
 Calls prog 42 #[.pointer (some ⟨S,0,none⟩),.int .i64 id,sv] w R:=by
 obtain ⟨NB,MB,GB,GM,sb,qv,fv,hx⟩:=h;have HR:=ab hR;have dO:=hv;obtain ⟨va,vc,rfl,_⟩:=dO;have aL:Below w w ((w.alloc (.cells #[.int .i64 id] 3)).alloc (.cells #[.slice va st.length vc] 25)):=((Below.refl _ _).alloc (Nat.le_refl _) _).alloc (by simp) _;have bu:=ab aL;have h4:=gq (o':=(Obj.cells #[.slice va st.length vc] 25)) (heap_alloc_new w (.cells #[.int .i64 id] 3));have h5:=heap_alloc_new (w.alloc (.cells #[.int .i64 id] 3)) (.cells #[.slice va st.length vc] 25);have HV:=ab (hv.below aL);have aI:=hx.below aL;obtain ⟨ps,aT,aq,_⟩:=aI.hf;have aU:=ab aq;obtain ⟨fa,fc,rfl⟩:=bF aq;have c7:=(dy aI.hS).2.2.2.1;have aX:s.aj.length=ps.length:=by rw [←aT];simp
 rw [←aT,adi] at hz;have HZ:=ab hz;have m8:=ab aX;have g4:Hid (((w.alloc (.cells #[.int .i64 id] 3)).alloc (.cells #[.slice va st.length vc] 25)).cell? ⟨w,0,none⟩=some (.int .i64 id)):=af _ _ 0 _ _ _ h4;have g5:Hid (((w.alloc (.cells #[.int .i64 id] 3)).alloc (.cells #[.slice va st.length vc] 25)).cell? ⟨w.heap.size+1,0,none⟩=some (.slice va st.length vc)):=by
  have:=af _ _ 0 _ _ _ h5;rw [show (w.alloc (.cells #[.int .i64 id] 3)).heap.size=w.heap.size+1 by simp] at this;exact this
 have nU:ps.length≤1000000:=by omega
 rw [aX] at aU c7;clear hR hx aI aT aq aX hz aL h4 h5 hv hl;go_enter func42,ntmps42;go_wp2_with (go_at_call 103;go_must (refine adj _ ps id st z HZ.o_ nU w.heap.size (w.heap.size+1) _ _ aU.o_ g4.o_ g5.o_ HV.o_ df _ ?_);intro w5 aC;have eb:=ab (aD bu.o_ aC bu.o_.size);clear aC);exact HR.o_ _ eb.o_
theorem Us{P:Prop}(h:P:=by
 obtain ⟨b,o,e,hc⟩:=bG.2 (by omega);obtain rfl:=Option.some.inj e;rw [Addr.add_lit,hc j pT];exact hj):P:=h
theorem Ut{P:Prop}(h:P:=by
 have h1:c≠k:=by omega
 have h2:n - k=1:=by omega
 simp [sizeOf,typeInfo,bS,cm,sliced,h1,h2,Addr.add_lit]):P:=h
theorem Uu{P:Prop}(h:P:=by
 rw [←lU];exact bO (bO (iT sD) (pU _ _ _ _)) (pU _ _ _ _)):P:=h
variable{n:Nat}
theorem kW:(prog.info? 64).map (fun i=>(i.zero,i.size,i.bytes))=some (some (.agg fX),6,48):=by kernel_rfl
theorem JV(l:List UInt8):(str l).toList=l:=by rw [ByteArray.toList_eq]
theorem JW(a b:List UInt8):((str a).toList==(str b).toList)=(a==b):=by rw [JV,JV]
theorem sE(l:List Sb):∀u∈l.flatMap aP,u.oneCell'=true:=fun u hu=>by
 obtain ⟨p,_,hu⟩:=List.mem_flatMap.1 hu;exact Ui
theorem yd{c:Nat}{l:List Sb}(h:w.ownsRow B 64 6 (.slice (some ⟨g,0,none⟩) n c) n (l.flatMap aP))(hn:l.length=n)(hk:k<l.length):∀j,j<6→w.cell? ⟨g,k*6+j,none⟩=(aP l[k])[j]?:=fun j hj=>by
 rw [h.cellAt (k*6+j) (by omega),jQ 6 aP fT l k j hk hj]
open List (getElem_take pairwise_append pairwise_iff_getElem)
theorem JX:∀(a b:List UInt8),Lib.compareBytes a b=0↔a=b
 |[],[]=>by simp [Lib.compareBytes]
 |[],_::_=>by simp [Lib.compareBytes]
 |_::_,[]=>by simp [Lib.compareBytes]
 |x::a,y::b=>by
  unfold Lib.compareBytes;by_cases h1:x<y
  ·rw [if_pos h1];simp only [List.cons.injEq];refine ⟨fun h=>by simp at h,fun h=> ?_⟩;obtain ⟨rfl,_⟩:=h;exact absurd h1 (UInt8.lt_irrefl x)
  ·rw [if_neg h1];by_cases h2:y<x
   ·rw [if_pos h2];simp only [List.cons.injEq];refine ⟨fun h=>by simp at h,fun h=> ?_⟩;obtain ⟨rfl,_⟩:=h;exact absurd h2 (UInt8.lt_irrefl x)
   ·rw [if_neg h2,JX a b];have N9:x=y:=UInt8.le_antisymm (UInt8.not_lt.1 h2) (UInt8.not_lt.1 h1);simp [N9]
theorem bytesLess_eq:∀(a b:List UInt8),Op.bytesLess a b=decide (Lib.compareBytes a b<0)
 |[],[]=>by simp [Op.bytesLess,Lib.compareBytes]
 |[],_::_=>by simp [Op.bytesLess,Lib.compareBytes]
 |_::_,[]=>by simp [Op.bytesLess,Lib.compareBytes]
 |x::a,y::b=>by
  unfold Op.bytesLess Lib.compareBytes;rw [bytesLess_eq a b];by_cases h1:x<y
  ·simp [h1]
  ·by_cases h2:y<x
   ·have bh:x≠y:=fun h=>by subst h;exact UInt8.lt_irrefl x h2
    simp [h1,h2,bh]
   ·have N9:x=y:=UInt8.le_antisymm (UInt8.not_lt.1 h2) (UInt8.not_lt.1 h1);subst N9;simp
theorem Uv:∀(a b:List UInt8),Lib.compareBytes b a= -Lib.compareBytes a b
 |[],[]=>by simp [Lib.compareBytes]
 |[],_::_=>by simp [Lib.compareBytes]
 |_::_,[]=>by simp [Lib.compareBytes]
 |x::a,y::b=>by
  unfold Lib.compareBytes;by_cases h1:x<y
  ·have h2:¬y<x:=fun h=>UInt8.lt_irrefl x (UInt8.lt_trans h1 h);rw [if_neg h2,if_pos h1,if_pos h1];simp
  ·by_cases h2:y<x
   ·rw [if_pos h2,if_neg h1,if_pos h2]
   ·rw [if_neg h2,if_neg h1,if_neg h1,if_neg h2,Uv a b]theorem compareBytes_trans:∀(a b c:List UInt8),Lib.compareBytes a b<0→Lib.compareBytes b c<0→Lib.compareBytes a c<0
 |[],[],c,h,_=>by simp [Lib.compareBytes] at h
 |[],_::_,[],_,h=>by simp [Lib.compareBytes] at h
 |[],_::_,_::_,_,_=>by simp [Lib.compareBytes]
 |_::_,[],c,h,_=>by simp [Lib.compareBytes] at h
 |_::_,_::_,[],_,h=>by simp [Lib.compareBytes] at h
 |x::a,y::b,z::c,h1,h2=>by
  unfold Lib.compareBytes at h1 h2⊢;by_cases e1:x<y
  ·by_cases e2:y<z
   ·rw [if_pos (UInt8.lt_trans e1 e2)];omega
   ·rw [if_neg e2] at h2;by_cases e3:z<y
    ·rw [if_pos e3] at h2;omega
    ·obtain rfl:y=z:=UInt8.le_antisymm (UInt8.not_lt.1 e3) (UInt8.not_lt.1 e2);rw [if_pos e1];omega
  ·rw [if_neg e1] at h1;by_cases e4:y<x
   ·rw [if_pos e4] at h1;omega
   ·rw [if_neg e4] at h1;obtain rfl:x=y:=UInt8.le_antisymm (UInt8.not_lt.1 e4) (UInt8.not_lt.1 e1);by_cases e2:x<z
    ·rw [if_pos e2];omega
    ·rw [if_neg e2] at h2;by_cases e3:z<x
     ·rw [if_pos e3] at h2;omega
     ·rw [if_neg e3] at h2;rw [if_neg e2,if_neg e3];exact compareBytes_trans a b c h1 h2
def ke(l:List Sb):Prop:=l.Pairwise fun x y=>Lib.compareBytes x.filter y.filter<0
def fB(l:List Sb)(f:List UInt8):Nat:=l.countP fun y=>decide (Lib.compareBytes y.filter f<0)
theorem Cl(l:List Sb)(f:List UInt8):fB l f≤l.length:=List.countP_le_length
theorem adk(a b:List UInt8):Lib.compareBytes a b<0∨a=b∨Lib.compareBytes b a<0:=by
 have h1:=JX a b;have h2:=Uv a b;by_cases h:Lib.compareBytes a b<0
 ·exact .inl h
 ·by_cases he:a=b
  ·exact .inr (.inl he)
  ·exact .inr (.inr (by have:Lib.compareBytes a b≠0:=fun e=>he (h1.1 e);omega))
theorem Uw(a:List UInt8):¬Lib.compareBytes a a<0:=by
 have:=(JX a a).2 rfl
 omega
theorem AV:∀(l:List Sb)(f:List UInt8),ke l→∀j (hj:j<l.length),(Lib.compareBytes (l[j]).filter f<0↔j<fB l f)
 |[],f,_,j,hj=>by simp at hj
 |x::l,f,hs,j,hj=>by
  have bt:=List.pairwise_cons.1 hs;have ih:=AV l f bt.2;unfold fB;by_cases hx:Lib.compareBytes x.filter f<0
  ·rw [List.countP_cons_of_pos (by simpa using hx)];cases j with
   |zero=>simp only [List.getElem_cons_zero];exact ⟨fun _=>by omega,fun _=>hx⟩
   |succ j=>
    have:=ih j (by simpa using hj);unfold fB at this;simp only [List.getElem_cons_succ];rw [this]
    omega
  ·rw [List.countP_cons_of_neg (by simpa using hx)];have h0:l.countP (fun y=>decide (Lib.compareBytes y.filter f<0))=0:=by
    rw [List.countP_eq_zero];intro y hy;have h1:=bt.1 y hy;simp only [decide_eq_true_eq];intro h2;exact hx (compareBytes_trans _ _ _ h1 h2)
   rw [h0];refine ⟨fun h=> ?_,fun h=>by omega⟩;cases j with
   |zero=>exact absurd h hx
   |succ j=>
    have cE:j<l.length:=by simpa using hj
    have h1:=bt.1 l[j] (List.getElem_mem cE);exact absurd (compareBytes_trans _ _ _ h1 h) hx
def pW(l:List Sb)(f:List UInt8):Bool:=match l[fB l f]? with
 |none=>false
 |some y=>y.filter==f
theorem Ew{l:List Sb}{f:List UInt8}(h:pW l f=true):∃(hk:fB l f<l.length),(l[fB l f]).filter=f:=by
 unfold pW at h;cases hx:l[fB l f]? with
 |none=>rw [hx] at h;cases h
 |some y=>
  rw [hx] at h;obtain ⟨hk,e⟩:=List.getElem?_eq_some_iff.1 hx;exact ⟨hk,by rw [e];simpa using h⟩
theorem N_{l:List Sb}{f:List UInt8}(h:pW l f=false):∀(hk:fB l f<l.length),(l[fB l f]).filter≠f:=by
 intro hk e;unfold pW at h;rw [List.getElem?_eq_getElem hk] at h;simp [e] at h
theorem adl{l:List Sb}{f:List UInt8}(hs:ke l):cV (fun y:Sb=>y.filter==f) l=if pW l f=true then (fB l f:Int) else -1:=by
 by_cases h:pW l f=true
 ·rw [if_pos h];obtain ⟨hk,e⟩:=Ew h;exact Ck hk (by simp [e]) (fun j hj=>by
   have h1:=(AV l f hs j (by omega)).2 hj;have:(l[j]'(by omega)).filter≠f:=fun e2=>by rw [e2] at h1;exact Uw f h1
   simpa using this)
 ·rw [if_neg h];have h:=N_ (Bool.eq_false_iff.2 h);exact AT fun y hy=>by
   obtain ⟨j,hj,rfl⟩:=List.getElem_of_mem hy;have:(l[j]).filter≠f:=fun e=>by
    have h1:=AV l f hs j hj;rw [e] at h1;have gy:fB l f≤j:=by
     have:=Uw f
     omega
    by_cases eE:fB l f=j
    ·subst eE;exact h hj e
    ·have ao:fB l f<j:=by omega
     have h2:=List.pairwise_iff_getElem.1 hs (fB l f) j (by omega) hj ao;rw [e] at h2;have h3:=(AV l f hs (fB l f) (by omega)).1 h2
     omega
   simpa using this
def v_(s:aF)(x:Sb):aF×Bool×Bool:=
 if pW s.ay x.filter=true then ({s with ay:=s.ay.set (fB s.ay x.filter) x},false,true)
 else if s.ay.length=8 then (s,false,false)
 else ({s with ay:=s.ay.take (fB s.ay x.filter)++ [x]++s.ay.drop (fB s.ay x.filter)},true,true)
def AW(s:aF)(f:List UInt8):aF×Bool:=
 if pW s.ay f=true then ({s with ay:=s.ay.eraseIdx (fB s.ay f)},true) else (s,false)
theorem ke.erase{l:List Sb}(h:ke l)(k:Nat):ke (l.eraseIdx k):=h.sublist (List.eraseIdx_sublist _ _)
theorem ke.setAt{l:List Sb}{x:Sb}(h:ke l)(hk:k<l.length)(e:(l[k]).filter=x.filter):ke (l.set k x):=by
 unfold ke at*;rw [pairwise_iff_getElem] at h⊢;intro i j hi hj N';rw [List.length_set] at hi hj;have h1:=h i j hi hj N';rw [List.getElem_set,List.getElem_set]
 split
 ·rename_i e1
  subst e1;rw [if_neg (by omega),←e];exact h1
 ·split
  ·rename_i e2
   subst e2;rw [←e];exact h1
  ·exact h1
theorem ke.ins{l:List Sb}{x:Sb}(h:ke l)(hn:pW l x.filter=false):ke (l.take (fB l x.filter)++ [x]++l.drop (fB l x.filter)):=by
 have ey:=AV l x.filter h;have gy:=Cl l x.filter;have sA:=N_ hn;have Ex:∀j (hj:j<l.length),fB l x.filter≤j→Lib.compareBytes x.filter (l[j]).filter<0:=fun j hj tD=>by
  rcases adk (l[j]).filter x.filter with h1|h1|h1
  ·have:=(ey j hj).1 h1
   omega
  ·by_cases e:fB l x.filter=j
   ·exact absurd (by simpa [e] using h1) (sA (by omega))
   ·have h2:=List.pairwise_iff_getElem.1 h (fB l x.filter) j (by omega) hj (by omega);rw [h1] at h2;have:=(ey (fB l x.filter) (by omega)).1 h2
    omega
  ·exact h1
 unfold ke;rw [pairwise_append,pairwise_append];refine ⟨⟨h.sublist (List.take_sublist _ _),by simp,fun a ha b hb=> ?_⟩,h.sublist (List.drop_sublist _ _),fun a ha b hb=> ?_⟩
 ·obtain rfl:=List.mem_singleton.1 hb;obtain ⟨i,hi,rfl⟩:=List.getElem_of_mem ha;rw [List.length_take] at hi;rw [getElem_take];exact (ey i (by omega)).2 (by omega)
 ·obtain ⟨j,hj,rfl⟩:=List.getElem_of_mem hb;rw [List.length_drop] at hj;rw [List.getElem_drop];have h2:=Ex (fB l x.filter+j) (by omega) (by omega);rcases List.mem_append.1 ha with ha|ha
  ·obtain ⟨i,hi,rfl⟩:=List.getElem_of_mem ha;rw [List.length_take] at hi;rw [getElem_take];exact compareBytes_trans _ _ _ ((ey i (by omega)).2 (by omega)) h2
  ·obtain rfl:=List.mem_singleton.1 ha;exact h2
open Nat (mod_lt)
theorem m_(v:Value)(ls:List (List UInt8))(J:List UInt8)(hJ:ls.flatten=J)(w:World)(hv:vT w v ls)(adm:J.length≤140737488355328)(R:Ending→World→Prop)
 (hR:∀ad c w',w'.ownsRow w 5 1 (.slice ad J.length c) J.length (bv J)→Below w w w'→R (.returned (.slice ad J.length c)) w'):
 Calls prog 55 #[v] w R:=by
 subst hJ;obtain ⟨ad,c,vs,rfl,hr,hc,hm,gG,Ux⟩:=hv;go_enter func55,ntmps55;go_wp2;go_loopw [3,8] (fun x i wr=>∃k:Nat,k≤ls.length∧i= .int .i64 k∧(∃bq c',∃iZ:List UInt8,Hid (iZ=(ls.take k).flatten)∧x= .slice bq iZ.length c'∧wr.ownsRow w 5 1 (.slice bq iZ.length c') iZ.length (bv iZ))∧Below w w wr) (fun _ i _=>ls.length - (intOf i).toNat)
 case atStart=>exact ⟨0,Nat.zero_le _,rfl,⟨_,_,[],rfl,rfl,World.ownsRow_nil _ _ _ _⟩,Below.refl _ _⟩
 case round=>
  obtain ⟨k,hk,rfl,⟨bq,c',iZ,uN,rfl,aV⟩,hb⟩:=hrel;by_cases ao:k<ls.length
  ·obtain ⟨b,o,rfl,aW⟩:=hr.2 (by omega);obtain ⟨v',dO,bX⟩:=Ux k ao;have rB:=(hb.cell (p:=⟨b,o+k,none⟩) (World.block_lt_of_cell? _ _ ((aW k (by omega)).trans dO))).trans ((aW k (by omega)).trans dO);have adn:=bX.below hb;have JY:Hid ((ls.take (k+1)).flatten=iZ++ls[k]):=by
    rw [uN.o_,List.take_succ_eq_append_getElem ao,List.flatten_append];simp [Hid]
   have gy:iZ.length+ls[k].length≤ls.flatten.length:=by
    have:=congrArg List.length JY.o_;rw [List.length_append] at this;rw [←this]
    conv=>rhs;rw [←List.take_append_drop (k+1) ls,List.flatten_append,List.length_append]
    omega
   obtain ⟨iR,c2,rfl,jw,b_,gJ,Oa⟩:=adn;obtain ⟨p,hp⟩:∃p,p=ls[k]:=⟨_,rfl⟩
   rw [←hp] at rB jw b_ gy JY;clear aW hr Ux dO bX hp;obtain ⟨N,hN⟩:∃N,N=ls.flatten.length:=⟨_,rfl⟩
   rw [←hN] at gy adm;clear hN;go_wp2_with (at_builtin;go_must (refine j9 (by rfl) (.tmp 12) (.tmp 13) 22 (by rfl) w 5 (.int .u8 0) 1 1 underlying22 Tryz.cJ rfl (by decide) _ _ _ _ rfl aV _ _ _ _ rfl jw (eX _) Oa (by unfold maxLen;omega) (by omega) hb.size ?_));intro fY c3 w3 iH cB;have an:=bC hb cB hb.size aV;clear aV cB hb rB jw;rw [←List.length_append] at iH⊢;rw [←oK] at iH;obtain ⟨qO,uO⟩:∃qO,qO=iZ++p:=⟨_,rfl⟩
   rw [←uO] at iH JY⊢;clear uO;go_wp2;go_roundw
   case rel=>exact ⟨k+1,by omega,by go_num,⟨fY,c3,qO,JY.o_.symm,rfl,iH⟩,an⟩
   case measure=>simp [intOf];omega
  ·obtain rfl:k=ls.length:=by omega
   have hf:iZ=ls.flatten:=by rw [uN.o_,List.take_length]
   subst hf;go_wp2;exact hR _ _ _ aV hb
def aR(x:Nat):Nat→List UInt8
 |0=> []
 |n+1=>aR (x / 256) n++ [b8 x]
theorem eU(x n:Nat):(aR x n).length=n:=by
 induction n generalizing x with
 |zero=>rfl
 |succ n ih=>simp [aR,ih]
theorem Ob(x k:Nat):aR x (k+1)=b8 ((x / 256 ^ k:Nat):Int)::aR x k:=by
 induction k generalizing x with
 |zero=>simp [aR]
 |succ k ih=>
  show aR (x / 256) (k+1)++ [b8 x]=_;rw [ih,Nat.div_div_eq_div_mul,←Nat.pow_succ']
  rfl
def dE(x:Nat)(nV:Int):List UInt8:=if nV<1∨8<nV then [] else aR x nV.toNat
theorem Uy{P:Prop}(h:P:=by
 rw [e] at hR;go_enter func56,ntmps56;go_wp2;exact hR _ _ _ (World.ownsRow_nil _ _ _ _) (Below.refl _ _)):P:=h
theorem Uz{P:Prop}(h:P:=by
 go_wp2_with (at_make;go_must (refine wpList_make_full _ (by rfl) _ _ 22 (by rfl) w 5 i (.int .u8 0) 1 underlying22 hi hz cQ _ _ _ _ n rfl rfl rfl rfl (by rw [gU];omega) (by unfold maxLen;omega) (Nat.le_refl _) ?_));intro w1 bQ iX;have aw:Below w w w1:=(Below.refl _ _).grown iX (Nat.le_refl _) (fun k hk=>by cases hk);rw [ack,show (Value.int .u8 0)=Value.int .u8 (((0:UInt8).toNat:Nat):Int) from rfl,←acm] at bQ;clear iX hi hz cQ gU;go_wp2;go_loopw [0,6] (fun y i wr=>∃j:Nat,j≤n∧(∃q:Int,q=(j:Int) - 1∧i= .int .i64 q)∧(∃z:Nat,Hid (z=x / 256 ^ (n - j))∧z<18446744073709551616∧y= .int .u64 (z:Int))∧(∃m:List UInt8,Hid (m=List.replicate j 0++aR x (n - j))∧n≤m.length∧wr.ownsRow w 5 1 (.slice (some ⟨w,0,none⟩) n n) n (bv m))∧Below w w wr) (fun _ i _=>(intOf i+1).toNat)
 case atStart=>exact ⟨n,Nat.le_refl _,⟨_,rfl,rfl⟩,⟨x,by rw [Nat.sub_self];simp [Hid],hx,rfl⟩,⟨_,by rw [Nat.sub_self,aR,List.append_nil];exact ab rfl,by simp,bQ⟩,aw⟩
 case round=>
  obtain ⟨j,hj,⟨q,hq,rfl⟩,⟨z,hz,kF,rfl⟩,⟨m,hm,jy,aV⟩,hb⟩:=hrel;cases j with
  |zero=>
   have gJ:m=aR x n:=by rw [hm.o_];simp
   rw [gJ] at aV;clear hm gJ hz bQ aw;have AR:q<0:=by omega
   have HQ:=ab hq;clear hq;go_wp2;exact hR _ _ _ aV hb
  |succ j=>
   have lV:q=(j:Int):=by omega
   clear hq;subst lV;have aW:=TC aV j (by omega);have nW:=aV.frozenAt j;have b7:=TB aV j (b8 z);rw [uE] at b7;have ch:=b7.1;have bt:=hb.grown b7.2 (by have:=hb.size;omega) (fun k hk=>by cases hk;exact Nat.le_refl _);have tC:m.set j (b8 z)=List.replicate j 0++aR x (n - j):=by
    have e1:n - j=(n - (j+1))+1:=by omega
    rw [hm.o_,e1,Ob,←hz.o_,List.replicate_succ',List.append_assoc];rw [List.set_append_right _ _ (by simp)];simp
   have AX:z / 256=x / 256 ^ (n - j):=by
    have e1:n - j=(n - (j+1))+1:=by omega
    rw [hz.o_,Nat.div_div_eq_div_mul,e1,Nat.pow_succ]
   have HZ:=ab AX;have nU:n≤(m.set j (b8 z)).length:=by rw [List.length_set];exact jy
   have ye:z / 256<18446744073709551616:=by omega
   obtain ⟨m2,gJ⟩:∃m2,m2=m.set j (b8 z):=⟨_,rfl⟩
   rw [←gJ] at ch nU tC;have HM:=ab tC;clear b7 aV hb tC AX gJ hm bQ aw hz;go_wp2;go_roundw
   case rel=>exact ⟨j,by omega,⟨_,rfl,rfl⟩,⟨z / 256,HZ,ye,by go_num⟩,⟨m2,HM,nU,ch⟩,bt⟩
   case measure=>simp [intOf]):P:=h
theorem wi(x:Nat)(hx:x<18446744073709551616)(nV:Int)(P:List UInt8)(hP:dE x nV=P)(w:World)(R:Ending→World→Prop)
 (hR:∀ad c w',w'.ownsRow w 5 1 (.slice ad P.length c) P.length (bv P)→Below w w w'→R (.returned (.slice ad P.length c)) w'):
 Calls prog 56 #[.int .u64 (x:Int),.int .i64 nV] w R:=by
 subst hP;by_cases h1:nV<1
 ·have e:dE x nV= []:=by unfold dE;rw [if_pos (.inl h1)]
  exact Uy
 ·by_cases h2:8<nV
  ·have e:dE x nV= []:=by unfold dE;rw [if_pos (.inr h2)]
   exact Uy
  ·obtain ⟨n,rfl⟩:=Int.eq_ofNat_of_zero_le (show 0≤nV by omega);have e:dE x n=aR x n:=by unfold dE;rw [if_neg (by omega)];rfl
   rw [e,eU] at hR;clear e;have yg:1≤n:=by omega
   have ig:n≤8:=by omega
   clear h1 h2;obtain ⟨i,hi,hz,cQ,gU⟩:=info_parts Tryz.cJ;go_enter func56,ntmps56;exact Uz
theorem UA{P:Prop}(h:P:=by
 rw [e] at hR;go_enter func64,ntmps64;go_wp2;exact hR _ _ _ (World.ownsRow_nil _ _ _ _) (Below.refl _ _)):P:=h
theorem wj(x:Nat)(hx:x<18446744073709551616)(nV:Int)(P:List UInt8)(hP:dE x nV=P)(w:World)(R:Ending→World→Prop)
 (hR:∀ad c w',w'.ownsRow w 5 1 (.slice ad P.length c) P.length (bv P)→Below w w w'→R (.returned (.slice ad P.length c)) w'):
 Calls prog 64 #[.int .u64 (x:Int),.int .i64 nV] w R:=by
 subst hP;by_cases h1:nV<1
 ·have e:dE x nV= []:=by unfold dE;rw [if_pos (.inl h1)]
  exact UA
 ·by_cases h2:8<nV
  ·have e:dE x nV= []:=by unfold dE;rw [if_pos (.inr h2)]
   exact UA
  ·obtain ⟨n,rfl⟩:=Int.eq_ofNat_of_zero_le (show 0≤nV by omega);have e:dE x n=aR x n:=by unfold dE;rw [if_neg (by omega)];rfl
   rw [e,eU] at hR;clear e;have yg:1≤n:=by omega
   have ig:n≤8:=by omega
   clear h1 h2;obtain ⟨i,hi,hz,cQ,gU⟩:=info_parts Tryz.cJ;go_enter func64,ntmps64;exact Uz
def cz(l:List UInt8):Nat:=l.foldl (fun x c=>(x*256+c.toNat) % 18446744073709551616) 0
theorem Ey(l:List UInt8)(c:UInt8):cz (l++ [c])=(cz l*256+c.toNat) % 18446744073709551616:=by simp [cz,List.foldl_append]
theorem ado(l:List UInt8):cz l<18446744073709551616:=by
 rcases List.eq_nil_or_concat l with rfl|⟨l',c,rfl⟩
 ·decide
 ·rw [List.concat_eq_append,Ey];exact mod_lt _ (by decide)
theorem UB{α:Type}(l:List α)(k:Nat)(h:k<l.length):l.take (k+1)=l.take k++ [l[k]]:=List.take_succ_eq_append_getElem h
theorem adp(z c:Nat)(hc:c<256):bits .or .u64 (IntKind.u64.wrap ((z:Int) *256)) (IntKind.u64.wrap (c:Int))=(((z*256+c) % 18446744073709551616:Nat):Int):=by
 rw [IntKind.wrap_u64,IntKind.wrap_u64];have e1:((z:Int) *256) % 18446744073709551616=(((z*256) % 18446744073709551616:Nat):Int):=by omega
 have e2:(c:Int) % 18446744073709551616=(c:Int):=by omega
 rw [e1,e2];have h:=bits_or_u64_nat ((z*256) % 18446744073709551616) c (mod_lt _ (by decide)) (by omega);rw [h]
 congr 1
 have e3:(z*256) % 18446744073709551616=(z % 72057594037927936) *2 ^ 8:=by omega
 rw [e3,←Nat.shiftLeft_eq,←Nat.shiftLeft_add_eq_or_of_lt (by omega),Nat.shiftLeft_eq]
 omega
theorem adq(v:Value)(l:List UInt8)(w:World)(hv:Bs w v l)(R:Ending→World→Prop)
 (hR:R (.returned (.int .u64 (cz l))) w):
 Calls prog 109 #[v] w R:=by
 obtain ⟨ad,c,rfl,hr,hc,hm,gG⟩:=hv;go_enter func109,ntmps109;go_wp2;go_loop [3,8] (fun x i=>∃k:Nat,k≤l.length∧i= .int .i64 k∧∃z:Nat,Hid (z=cz (l.take k))∧z<18446744073709551616∧x= .int .u64 z) (fun _ i=>l.length - (intOf i).toNat)
 case atStart=>exact ⟨0,Nat.zero_le _,rfl,0,rfl,by decide,rfl⟩
 case round=>
  obtain ⟨k,hk,rfl,z,hz,kF,rfl⟩:=hrel;by_cases ao:k<l.length
  ·obtain ⟨b,o,rfl,aW⟩:=hr.AA (by omega);have rB:=aW k ao;have oS:=adp z l[k].toNat (by have:=l[k].toNat_lt;omega);have HG:Hid ((z*256+l[k].toNat) % 18446744073709551616=cz (l.take (k+1))):=by rw [UB l k ao,Ey,←hz.o_];exact ab rfl
   have ij:(z*256+l[k].toNat) % 18446744073709551616<18446744073709551616:=mod_lt _ (by decide);have HO:=ab oS;have HL:=ab ij;clear aW hr oS hz ij;go_wp2;go_round
   case rel=>exact ⟨k+1,by omega,by go_num,_,HG,HL.o_,by rw [←HO.o_]⟩
   case measure=>simp [intOf];omega
  ·have hf:z=cz l:=by rw [hz.o_,List.take_of_length_le (by omega)]
   clear hz;subst hf;go_wp2;exact hR
theorem adr(z:Nat)(b:UInt8):IntKind.u64.wrap (IntKind.u64.wrap ((z:Int) *256)+IntKind.u64.wrap (b.toNat:Int))=(((z*256+b.toNat) % 18446744073709551616:Nat):Int):=by
 rw [IntKind.wrap_u64,IntKind.wrap_u64,IntKind.wrap_u64]
 omega
theorem ads(v:Value)(l:List UInt8)(w:World)(hv:Bs w v l)(R:Ending→World→Prop)
 (hR:R (.returned (.int .u64 (cz l))) w):
 Calls prog 136 #[v] w R:=by
 obtain ⟨ad,c,rfl,hr,hc,hm,gG⟩:=hv;go_enter func136,ntmps136;go_wp2;go_loop [3,4] (fun x i=>∃k:Nat,k≤l.length∧i= .int .i64 k∧∃z:Nat,Hid (z=cz (l.take k))∧z<18446744073709551616∧x= .int .u64 z) (fun _ i=>l.length - (intOf i).toNat)
 case atStart=>exact ⟨0,Nat.zero_le _,rfl,0,rfl,by decide,rfl⟩
 case round=>
  obtain ⟨k,hk,rfl,z,hz,kF,rfl⟩:=hrel;by_cases ao:k<l.length
  ·obtain ⟨b,o,rfl,aW⟩:=hr.AA (by omega);have rB:=aW k ao;have HG:Hid ((z*256+l[k].toNat) % 18446744073709551616=cz (l.take (k+1))):=by rw [UB l k ao,Ey,←hz.o_];exact ab rfl
   have ij:(z*256+l[k].toNat) % 18446744073709551616<18446744073709551616:=mod_lt _ (by decide);have HL:=ab ij;clear aW hr hz ij;go_wp2;go_round
   case rel=>exact ⟨k+1,by omega,by go_num,_,HG,HL.o_,by rw [adr]⟩
   case measure=>simp [intOf];omega
  ·have hf:z=cz l:=by rw [hz.o_,List.take_of_length_le (by omega)]
   clear hz;subst hf;go_wp2;exact hR
open List (drop_of_length_le drop_zero)
def AY:Nat→List UInt8→Bool
 |0,_=>true
 |n+1,l=>if l= [] then true else if (Lib.decodeL l).1=0 then false else AY n (l.drop (Lib.decodeL l).2)
def nz(l:List UInt8):Bool:=AY l.length l
def dV(l:List UInt8):Bool:=nz l&&Lib.validD l
theorem adt(n m:Nat)(l:List UInt8)(hn:l.length≤n)(hm:l.length≤m):AY n l=AY m l:=by
 induction n generalizing m l with
 |zero=>
  obtain rfl:l= []:=List.eq_nil_of_length_eq_zero (by omega);cases m<;>simp [AY]
 |succ n ih=>
  by_cases hl:l= []
  ·subst hl;cases m<;>simp [AY]
  ·have h1:=Lib.decodeL_width l;have hp:0<l.length:=List.length_pos_iff.2 hl;cases m with
   |zero=>omega
   |succ m=>
    simp only [AY,hl,if_false];rw [ih m (l.drop (Lib.decodeL l).2) (by rw [List.length_drop];omega) (by rw [List.length_drop];omega)]
theorem Oc(l:List UInt8)(hl:l≠ []):nz l=if (Lib.decodeL l).1=0 then false else nz (l.drop (Lib.decodeL l).2):=by
 have h1:=Lib.decodeL_width l;have hp:0<l.length:=List.length_pos_iff.2 hl;unfold nz;obtain ⟨n,hn⟩:∃n,l.length=n+1:=⟨l.length - 1,by omega⟩
 rw [hn];simp only [AY,hl,if_false];rw [adt n (l.drop (Lib.decodeL l).2).length _ (by rw [List.length_drop];omega) (Nat.le_refl _)]
theorem adu(l:List UInt8):(str l).data.toList=l:=by simp
theorem Ez(l:List UInt8):(str l).size=l.length:=rfl
theorem JZ(l:List UInt8)(w:World)(hl:l.length≤9223372036854775807)(hT:di w)(R:Ending→World→Prop)
 (hR:∀w',Below w w w'→R (.returned (.bool (dV l))) w'):Calls prog 117 #[.string (str l)] w R:=by
 have bm:=Ez l;go_enter func117,ntmps117;go_wp2;go_loopw [4] (fun _ wr=>∃pos:Nat,pos≤l.length∧wr=w.iter (str l) pos∧Hid (nz (l.drop pos)=nz l)) (fun _ wr=>l.length - wr.iterPos w.heap.size)
 case atStart=>exact ⟨0,Nat.zero_le _,rfl,by rw [drop_zero];exact ab rfl⟩
 case round=>
  obtain ⟨pos,sq,rfl,kG⟩:=hrel;by_cases ao:pos<l.length
  ·have zq:Lib.decodeL (l.drop pos)=Utf8.decode (str l) pos:=by
    have:=Lib.decodeL_drop (str l) pos
    rwa [adu] at this
   have AZ:=Oc (l.drop pos) (by intro h;have:=congrArg List.length h;rw [List.length_drop] at this;simp at this;omega);rw [List.drop_drop,zq,kG.o_] at AZ;have nX:pos+(Utf8.decode (str l) pos).2≤l.length:=by
    have:=Lib.decodeL_le (l.drop pos) (by intro h;have:=congrArg List.length h;rw [List.length_drop] at this;simp at this;omega);rw [zq,List.length_drop] at this
    omega
   have wk:1≤(Utf8.decode (str l) pos).2:=by rw [←zq];exact Lib.decodeL_width _
   have rC:=fun ty=>run_next_any (P:=prog) w (str l) pos ty ao;obtain ⟨r,hr⟩:∃r,r=(Utf8.decode (str l) pos).1:=⟨_,rfl⟩
   obtain ⟨k,hk⟩:∃k,k=(Utf8.decode (str l) pos).2:=⟨_,rfl⟩
   rw [←hr,←hk] at rC;rw [←hr,←hk] at AZ;rw [←hk] at nX wk;clear hr hk zq bm kG;by_cases fb:r=0
   ·rw [if_pos fb] at AZ;have hf:dV l=false:=by unfold dV;rw [AZ];rfl
    rw [hf] at hR;have adv:((r:Int)==0)=true:=by rw [beq_iff_eq];omega
    clear fb AZ hf;go_wp2;exact (Below.refl _ _).alloc (Nat.le_refl _) _
   ·rw [if_neg fb] at AZ;have H:=ab AZ.symm;have adv:((r:Int)==0)=false:=by rw [beq_eq_false_iff_ne];omega
    clear fb AZ;go_wp2;go_roundw
    case rel=>exact ⟨pos+k,by omega,rfl,H⟩
    case measure=>simp;omega
  ·have rC:=fun ty=>run_next_end (P:=prog) w (str l) pos ty (by rw [bm];exact ao);have hz:nz l=true:=by
    rw [←kG.o_,drop_of_length_le (by omega)]
    rfl
   have hf:dV l=Lib.validD l:=by unfold dV;rw [hz];rfl
   rw [hf] at hR;have hb:Below w w (w.iter (str l) pos):=(Below.refl _ _).alloc (Nat.le_refl _) _;have UC:=hT.below hb;clear hz hf bm kG;go_wp2_with (go_at_call 154;go_must (refine acv l _ hl UC _ ?_));intro w2 ah;have an:=aD hb ah hb.size;clear hb ah rC hT UC;go_wp2;exact an
def cS(l:List UInt8):List UInt8×Int:=if 65535<l.length then ([],10) else (aR l.length 2++l,0)
def eO(l:List UInt8):List UInt8×Int×Int:=
 if l.length<2∨l.length - 2<cz (l.take 2) then ([],0,11) else ((l.take (2+cz (l.take 2))).drop 2,2+(cz (l.take 2):Int),0)
theorem F8(v:Value)(l D:List UInt8)(er:Int)(hD:cS l=(D,er))(w:World)(hv:Bs w v l)(R:Ending→World→Prop)
 (hR:∀ad c w',w'.ownsRow w 5 1 (.slice ad D.length c) D.length (bv D)→Below w w w'→R (.returned (.tuple #[.slice ad D.length c,.int .i64 er])) w'):
 Calls prog 118 #[v] w R:=by
 have dO:=hv;obtain ⟨ad,c,rfl,hr,hc,hm,gG⟩:=dO;by_cases wm:65535<l.length
 ·have e:cS l=([],10):=by unfold cS;rw [if_pos wm]
  rw [hD] at e;obtain ⟨rfl,rfl⟩:=Prod.mk.inj e;clear e hD;go_enter func118,ntmps118;go_wp2;exact hR _ _ _ (World.ownsRow_nil _ _ _ _) (Below.refl _ _)
 ·have e:cS l=(aR l.length 2++l,0):=by unfold cS;rw [if_neg wm]
  rw [hD] at e;obtain ⟨e1,rfl⟩:=Prod.mk.inj e;clear e hD;obtain ⟨p,hp⟩:∃p,p=aR l.length 2:=⟨_,rfl⟩
  have oM:p.length=2:=by rw [hp];exact eU _ _
  have nh:Hid (dE l.length 2=p):=by rw [hp];exact ab rfl
  have HF:Hid ([p,l].flatten=D):=by rw [e1,hp];simp [Hid]
  have adw:D.length≤140737488355328:=by rw [e1,List.length_append,eU];omega
  clear e1 hp oM;go_enter func118,ntmps118;go_wp2_with (go_at_call 56;go_must (refine wi l.length (by omega) 2 p nh.o_ _ _ ?_));intro uP c1 w1 bQ aw;have UD:=(eD bQ).2;have J0:=hv.below aw;have hB:=aco (e:=22) UD J0;clear bQ nh hr;go_wp2_with (go_at_call 55;go_must (refine m_ _ _ D HF.o_ _ hB adw _ ?_));intro fY c3 w3 iH an;have bm:=aw.size;have ak:=aD (aw.alloc bm _) an (by omega);have bZ:=bN (gF:=w.heap.size) iH (by omega);clear aw an iH hB UD J0;go_wp2;exact hR _ _ _ bZ ak
def b5(l:List UInt8):List UInt8×Int:=if dV l then cS l else ([],13)
theorem A0(l D:List UInt8)(er:Int)(hD:b5 l=(D,er))(w:World)(hl:l.length≤140737488355328)(hT:di w)(R:Ending→World→Prop)
 (hR:∀ad c w',w'.ownsRow w 5 1 (.slice ad D.length c) D.length (bv D)→Below w w w'→R (.returned (.tuple #[.slice ad D.length c,.int .i64 er])) w'):
 Calls prog 54 #[.string (str l)] w R:=by
 obtain ⟨t,ht⟩:=ai (dV l);have hcv:=fun w=>Lib.run_convert_string_bytes (P:=prog) w 9 22 5 (str l) underlying9 underlying22 underlying5;have bm:(str l).size=l.length:=rfl;cases t with
 |false=>
  have e:b5 l=([],13):=by unfold b5;rw [ht];rfl
  rw [hD] at e;obtain ⟨rfl,rfl⟩:=Prod.mk.inj e;clear e hD hcv;have HT:=ab ht;clear ht bm;go_enter func54,ntmps54;go_wp2_with (go_at_call 117;go_must (refine JZ l _ (by omega) hT _ ?_));rw [HT.o_];intro w1 aw;go_wp2;exact hR _ _ _ (World.ownsRow_nil _ _ _ _) aw
 |true=>
  have e:cS l=(D,er):=by rw [←hD];unfold b5;rw [ht];rfl
  have HE:=ab e;have HT:=ab ht;have HC:=ab hcv;clear ht hD e hcv bm;go_enter func54,ntmps54;go_wp2_with (go_at_call 117;go_must (refine JZ l _ (by omega) hT _ ?_));rw [HT.o_];intro w1 aw;have ah:=TD w1 5 (str l);have bX:=TE w1 5 l (by omega);have dF:=HC.o_ w1;have an:=aD aw ah aw.size;rw [show (str l).size=l.length from rfl] at dF;go_wp2_with (go_at_call 118;go_must (refine F8 _ l D er HE.o_ _ bX _ ?_));intro gL c4 w4 bZ ak;have aC:=aD an ak an.size;have ed:=bN (gF:=w.heap.size) bZ an.size;clear ak bZ bX an ah aw dF;go_wp2;exact hR _ _ _ ed aC
theorem UE{P:Prop}(h:P:=by
 obtain rfl:D= []:=List.eq_nil_of_length_eq_zero EA;exact ⟨_,0,rfl,Rd.nil _ _ _,by simp,by omega,fun h=>by cases h⟩):P:=h
theorem wu(x:Int):Value.int .u8 (IntKind.u8.wrap x)=Value.int .u8 ((b8 x).toNat:Int):=by
 have:((b8 x).toNat:Int)=IntKind.u8.wrap x:=by rw [uE,IntKind.wrap_u8]
 rw [this]
theorem Cm(X:World)(x:Int)(hB:B≤X.heap.size):(X.alloc (.cells #[Value.int .u8 (IntKind.u8.wrap x)] 5)).ownsRow B 5 1 (.slice (some ⟨X,0,none⟩) 1 1) 1 (bv [b8 x]):=by
 rw [wu];exact ⟨rfl,.inr ⟨X.heap.size,1,#[Value.int .u8 ((b8 x).toNat:Int)],rfl,hB,heap_alloc_new X _,Nat.le_refl _,by unfold maxLen;omega,rfl,rfl⟩⟩
theorem J3(X:World)(x y:Int)(hB:B≤X.heap.size):(X.alloc (.cells #[Value.int .u8 (IntKind.u8.wrap x),Value.int .u8 (IntKind.u8.wrap y)] 5)).ownsRow B 5 1 (.slice (some ⟨X,0,none⟩) 2 2) 2 (bv [b8 x,b8 y]):=by
 rw [wu,wu];exact ⟨rfl,.inr ⟨X.heap.size,2,#[Value.int .u8 ((b8 x).toNat:Int),Value.int .u8 ((b8 y).toNat:Int)],rfl,hB,heap_alloc_new X _,Nat.le_refl _,by unfold maxLen;omega,rfl,rfl⟩⟩
theorem J4(n:Int)(w:World)(R:Ending→World→Prop)
 (hR:∀ad c w',w'.ownsRow w 5 1 (.slice ad 1 c) 1 (bv [b8 n])→Below w w w'→R (.returned (.slice ad 1 c)) w'):
 Calls prog 57 #[.int .i64 n] w R:=by
 have HR:=ab hR;have HO:=ab (Cm (B:=w.heap.size) w n (Nat.le_refl _));clear hR;go_enter func57,ntmps57;go_wp2;exact HR.o_ _ _ _ HO.o_ ((Below.refl _ _).alloc (Nat.le_refl _) _)
theorem adx(b:Bool)(n:Int)(w:World)(R:Ending→World→Prop)
 (hR:R (.returned (.int .i64 (if b then n else 0))) w):
 Calls prog 58 #[.bool b,.int .i64 n] w R:=by
 cases b with
 |false=>
  have HR:=ab (show R (.returned (.int .i64 0)) w from hR);clear hR;go_enter func58,ntmps58;go_wp2;exact HR.o_
 |true=>
  have HR:=ab (show R (.returned (.int .i64 n)) w from hR);clear hR;go_enter func58,ntmps58;go_wp2;exact HR.o_
theorem UF(v:Value)(l D:List UInt8)(er:Int)(hD:cS l=(D,er))(w:World)(hv:Bs w v l)(R:Ending→World→Prop)
 (hR:∀ad c w',w'.ownsRow w 5 1 (.slice ad D.length c) D.length (bv D)→Below w w w'→R (.returned (.slice ad D.length c)) w'):
 Calls prog 59 #[v] w R:=by
 have HR:=ab hR;have HV:=ab hv;have HD:=ab hD;clear hR hv hD;go_enter func59,ntmps59;go_wp2_with (go_at_call 118;go_must (refine F8 _ l D er HD.o_ _ HV.o_ _ ?_);intro ad c w3 bD an)
 all_goals exact HR.o_ _ _ _ bD an
def kr(q:Int)(r:Bool):Int:=if r then bits .or .i64 q 4 else q
theorem UG{P:Prop}(h:P:=by
 rw [hm] at HO HR;clear hR hm;go_enter func120,ntmps120;go_wp2;exact HR.o_ _ _ _ HO.o_ ((Below.refl _ _).alloc (Nat.le_refl _) _)):P:=h
theorem UH(q:Int)(r:Bool)(w:World)(R:Ending→World→Prop)
 (hR:∀ad c w',w'.ownsRow w 5 1 (.slice ad 1 c) 1 (bv [b8 (kr q r)])→Below w w w'→R (.returned (.slice ad 1 c)) w'):
 Calls prog 120 #[.int .i64 q,.bool r] w R:=by
 have HR:=ab hR;have HO:=ab (Cm (B:=w.heap.size) w (kr q r) (Nat.le_refl _));cases r with
 |false=>
  have hm:kr q false=q:=rfl;exact UG
 |true=>
  have hm:kr q true=bits .or .i64 q 4:=rfl;exact UG
def bj(n:Int):Nat:=(n % 18446744073709551616).toNat
theorem A1(n:Int):Value.int .u64 (IntKind.u64.wrap n)=Value.int .u64 (bj n:Int):=by
 have:((bj n:Nat):Int)=IntKind.u64.wrap n:=by
  unfold bj;rw [IntKind.wrap_u64]
  omega
 rw [this]
theorem A2(n:Int):bj n<18446744073709551616:=by
 unfold bj
 omega
theorem UI(n:Int)(P:List UInt8)(hP:aR (bj n) 8=P)(w:World)(R:Ending→World→Prop)
 (hR:∀ad c w',w'.ownsRow w 5 1 (.slice ad P.length c) P.length (bv P)→Below w w w'→R (.returned (.slice ad P.length c)) w'):
 Calls prog 156 #[.int .i64 n] w R:=by
 obtain ⟨m,hm⟩:=ai (bj n);have hw:IntKind.u64.wrap n=(m:Int):=by
  have h1:=A1 n;rw [hm] at h1
  simpa using h1
 have jy:m<18446744073709551616:=hm▸A2 n;have HR:=ab hR;have HP:Hid (dE m 8=P):=by
  show _=_;rw [←hP,hm]
  rfl
 clear hR hP hm;go_enter func156,ntmps156;go_wp2_with (go_at_call 56;go_must (refine wi m jy 8 P HP.o_ _ _ ?_);intro ad c w3 bD an)
 all_goals exact HR.o_ _ _ _ bD an
end Go.Proofs.YtgimbocoamnkjaaGreatDoor
