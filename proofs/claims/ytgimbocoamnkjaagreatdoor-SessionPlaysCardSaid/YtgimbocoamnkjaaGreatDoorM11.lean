/- A part of the proof of SessionPlays, printed small; no conditions of its own. -/
import Derived.Test.YtgimbocoamnkjaaGreatDoorM10
import Derived.Shelf.Sort.Plain
set_option maxRecDepth 100000
set_option maxHeartbeats 16000000
namespace Go.Proofs.YtgimbocoamnkjaaGreatDoor
open _root_.Go.Proofs.Tryz
open List (drop_append drop_of_length_le drop_zero mem_cons_self nil_append)
variable{ec:Nat}
open Go.RowKit
theorem afN(S:Nat)(s:aF)(bY:Int)(hb:kV s bY=false)(w:World)(M:Nat→Prop)(h:SR w M S s)(qh:s.queue.length≤100000)(R:Ending→World→Prop)
 (hR:∀w',Below w w w'→R (.returned (.tuple #[(Value.agg a_),.int .i64 0,.bool false])) w'):
 Calls prog 10 #[.pointer (some ⟨S,0,none⟩),.int .i64 bY] w R:=by
 have HR:=ab hR;have aL:Below w w (w.alloc (Obj.cells a_ 36)):=(Below.refl _ _).alloc (Nat.le_refl _) _;have bu:=ab aL;have H0:=ab (h.below aL);have HN:=ab (heap_alloc_new w (Obj.cells a_ 36));have HB:=ab hb;clear hR h aL hb;go_enter func10,ntmps10;go_wp2_with (first
  |(go_at_call 40;go_must (refine KL S s bY false HB.o_ _ M H0.o_ qh _ ?_))
  |(refine wpList_load_row (o:=⟨some 11,.load 36 (.tmp 4),_,_,_,_⟩) (by rfl) 36 (.tmp 4) (by rfl) (w.heap.size) (by rfl) 36 _ (0,0) _ (HN).o_ (underlying36) (by rfl) (by kernel_rfl) ?_)
  |(refine wpList_store_row (o:=⟨none,.store 36 (.tmp 4) (.tmp 11),_,_,_,_⟩) (by rfl) 36 (.tmp 4) (.tmp 11) (by rfl) (w.heap.size) _ (by rfl) (by rfl) 36 _ (HN).o_ (by kernel_rfl) (by rfl) (by simp [Value.oneCell']) ?_))
 exact WN
theorem afO(S:Nat)(s:aF)(x:Im)(rest:List Im)(hq:s.queue=x::rest)(bY:Int)(hb:kV s bY=true)(hz:x.al=0)(w:World)(M:Nat→Prop)(h:SR w M S s)(qh:s.queue.length≤100000)(R:Ending→World→Prop)
 (hR:∀B M' pa pc qa qc ea ec w',SR w' M' S {s with queue:=rest}→Sep M M' w w'→dJ w' B (.slice pa x.note.az.length pc) (.slice qa x.note.props.length qc) (.slice ea x.ids.length ec) x→w.heap.size≤B→(∀b,M' b→b<B)→gb x→
   R (.returned (.tuple #[(Value.agg (aG x pa pc qa qc ea ec)),.int .i64 0,.bool true])) w'):
 Calls prog 10 #[.pointer (some ⟨S,0,none⟩),.int .i64 bY] w R:=by
 obtain ⟨NB,MB,GB,GM,sv,qv,fv,hx⟩:=h;have HR:=ab hR;obtain ⟨ps,aT,aq,aS,aV⟩:=id hx.hq;obtain ⟨va,vc,rfl⟩:=aq.shape;obtain ⟨n,hn⟩:=ai s.queue.length;have dh:0<n:=by rw [←hn,hq];simp
 have yg:(0:Int)<(n:Int):=by omega
 have ot:n - 1=rest.length:=by rw [←hn,hq];simp
 rw [hn] at hx aq qh;rw [hq] at aT;obtain ⟨⟨c,y⟩,pr,rfl⟩:∃p pr,ps=p::pr:=by
  cases ps with
  |nil=>simp at aT
  |cons p pr=>exact ⟨p,pr,rfl⟩
 obtain ⟨rfl,wS⟩:y=x∧pr.map (·.2)=rest:=by simpa using aT
 obtain ⟨⟨pa,pc,wT⟩,⟨qa,qc,tQ⟩,ea,ec,wU⟩:=(aS (c,y) (mem_cons_self ..)).1.o_.shape;obtain ⟨p1,p2,p3⟩:=c;simp only at wT tQ wU;subst wT tQ wU;have aL:Below w w (w.alloc (Obj.cells a_ 36)):=(Below.refl _ _).alloc (Nat.le_refl _) _;have ah:Below w w (w.alloc (Obj.cells (aG y pa pc qa qc ea ec) 36)):=(Below.refl _ _).alloc (Nat.le_refl _) _;have H1:Hid (SR (w.alloc (Obj.cells a_ 36)) M S s):=⟨NB,MB,GB,GM,sv,_,fv,hx.below aL⟩
 obtain ⟨bn,bt⟩:=hx.Cj (Obj.cells (aG y pa pc qa qc ea ec) 36);have rT:∀p∈((Value.slice pa y.note.az.length pc,Value.slice qa y.note.props.length qc,Value.slice ea y.ids.length ec),y)::pr,db (w.alloc (Obj.cells (aG y pa pc qa qc ea ec) 36)) (fun b=>M b∨b=w.heap.size) p.1 p.2:=fun p hp=>(aS p hp).sep bt;have p9:=aq.below aL;have bW:=aq.below ah;obtain ⟨g,o,kK,aW,nW⟩:=p9.at dh;subst kK;obtain ⟨i,bS,_,cQ,_⟩:=info_parts sC;obtain ⟨ax,df,pA,km⟩:=bf.from (k:=1) bW underlying52 bS cQ (by omega);replace df:∀w',(Instr.slice 52 (.slice (some ⟨g,o,none⟩) n vc) (some (.int .i64 1)) none none).run prog w'= .ok (.slice ax rest.length (vc - 1)) w':=by rw [ot] at df;exact df
 rw [List.flatMap_cons,Nat.one_mul,drop_append,drop_of_length_le (by rw [my];omega),my,Nat.sub_self,drop_zero,nil_append,ot] at pA;rw [ot] at km;obtain ⟨cG,fj⟩:=SX.pop bn wS rT pA km;have mL:Hid (∀j,j<14→(w.alloc (Obj.cells a_ 36)).cell? ⟨g,o+j,none⟩= (aG y pa pc qa qc ea ec:List Value)[j]?):=fun j hj=>by
  exact KM
 have N1:=ab (heap_alloc_new w (Obj.cells a_ 36));have c6:=(dy (hx.below aL).hS).2.2.1;have d6:=(dy bn.hS).2.2.1;have f6:=aB bn.hS 6;have Eu:S≠w.heap.size:=fun e=>by have:=hx.lt S hx.mS;omega
 have N3:Hid (((w.alloc (Obj.cells (aG y pa pc qa qc ea ec) 36)).setCell ⟨S,6,none⟩ (.slice ax rest.length (vc - 1))).heap[w.heap.size]? =some (Obj.cells (aG y pa pc qa qc ea ec) 36)):=(heap_setCell_other _ _ _ _ (fun e=>Eu e.symm)).trans (heap_alloc_new w (Obj.cells (aG y pa pc qa qc ea ec) 36));have gY:=ab cG;have iD:=ab (bt.trans fj);have tR:=ab ((rT _ (mem_cons_self ..)).sep fj);have C9:=ab (show (Value.slice ax rest.length (vc - 1)).ownBlock≠some w.heap.size from fun e=>by
  rw [km] at e;have h1:=hx.lt _ (aV _ e)
  omega)
 have afP:=ab (show fv.ownBlock≠some w.heap.size from fun e=>by
  have h1:=hx.lt _ (hx.hf.own _ e)
  omega)
 have zQ:=ab hx;have HB:=ab hb;have mi:Hid (s.queue.length≤100000):=by show _≤_;rw [hn];exact qh
 clear hR aT aq aS aV bn bt rT p9 bW pA aW nW wS hb hn hq bS cQ km cG fj Eu hx aL ah ot;have j2:¬(0:Int)<y.al:=by omega
 clear hz;go_enter func10,ntmps10;go_wp2_with (first
  |(go_at_call 40;go_must (refine KL S s bY true HB.o_ _ _ H1.o_ mi.o_ _ ?_))
  |(refine ie (o:=⟨some 17,.load 36 (.tmp 16),_,_,_,_⟩) (by rfl) 36 (.tmp 16) (by rfl) (g) (o) (by rfl) ((aG y pa pc qa qc ea ec)) _ (mL.o_) (underlying36) (by rfl) (by kernel_rfl) ?_)
  |(refine wpList_store_row (o:=⟨none,.store 36 (.tmp 4) (.tmp 17),_,_,_,_⟩) (by rfl) 36 (.tmp 4) (.tmp 17) (by rfl) w.heap.size _ (by rfl) (by rfl) 36 _ N1.o_ (by kernel_rfl) (by rfl) (by simp [Value.oneCell']) ?_;rw [World.setRow_alloc_new];have gw:=(sx N3.o_).2.2.2.2.1)
  |(refine wpList_load_row (o:=⟨some 52,.load 36 (.tmp 4),_,_,_,_⟩) (by rfl) 36 (.tmp 4) (by rfl) (w.heap.size) (by rfl) 36 _ (0,0) _ (N3).o_ (underlying36) (by rfl) (by kernel_rfl) ?_)
  |(go_at_call 37;go_must (refine AL y _ _ _ _ tR.o_.1.o_ tR.o_.2 _ ?_);intro afQ afR afS afT Eo Ep w5 ez aC;have N5:=ab (aA N3.o_ aC);have iy:=ab ez;have eb:=ab aC;clear ez aC)
  |(refine wpList_store_row (o:=⟨none,.store 36 (.tmp 4) (.tmp 53),_,_,_,_⟩) (by rfl) 36 (.tmp 4) (.tmp 53) (by rfl) (w.heap.size) _ (by rfl) (by rfl) 36 _ (N5).o_ (by kernel_rfl) (by rfl) (by simp [Value.oneCell']) ?_))
 obtain ⟨a0,a1,a2,a3,a4,a5,_,a7⟩:=zQ.o_.NW;have bp:=gY.o_.below eb.o_;have dk:=rz w5 w.heap.size (aG y afQ afR afS afT Eo Ep);obtain ⟨oR,C_⟩:=bp.Uo (.inr rfl) (Nat.le_of_lt (zQ.o_.lt S zQ.o_.mS)) dk a0 a1 a2 a3 a4 a5 C9.o_ a7;refine bodyPost_ret (FV rfl _ _ w 36 _ (0,0) _ (.int .i64 0) (.bool true) rfl rfl rfl (setRow_heap _ w.heap.size _ _ _ _ N5.o_) underlying36 rfl (by kernel_rfl)) rfl ?_;refine HR.o_ _ _ _ _ _ _ _ _ _ ⟨NB,MB,GB,GM,sv,_,fv,oR⟩ ((iD.o_.below eb.o_).trans C_) (iy.o_.typed N5.o_ (by decide) (by decide) (by decide) dk) ?_ ?_ tR.o_.2
 ·simp [World.setCell]
 ·rintro b ⟨hb|hb,ah⟩
  ·have:=zQ.o_.lt b hb;simp [World.setCell]
   omega
  ·exact absurd hb ah
theorem KN{a c e:ByteArray}{f h i j k l m n:Int}{b q:Bool}(pa qa ea:Option Addr)(pn pc qn qc:Nat){en:Nat}:∀u∈ [Value.int .i64 f,.int .i64 h,Value.string a,.slice pa pn pc,.int .i64 i,.bool b,.string c,.int .i64 j,.slice qa qn qc,.int .i64 k,.int .i64 l,.int .i64 m,.int .i64 n,.bool q,.slice ea en ec,.string e],u.oneCell'=true:=by
 intro u hu;simp only [List.mem_cons,List.not_mem_nil,or_false] at hu;rcases hu with rfl|rfl|rfl|rfl|rfl|rfl|rfl|rfl|rfl|rfl|rfl|rfl|rfl|rfl|rfl|rfl<;>rfl
theorem afU(S:Nat)(s:aF)(x:Im)(rest:List Im)(hq:s.queue=x::rest)(bY:Int)(hb:kV s bY=true)(hz:0<x.al)(d:Nat)(h1:1≤d)(h2:d≤65535)(hc:s.cj.contains (d:Int)=false)(iW:∀j:Nat,1≤j→j<d→s.cj.contains (j:Int)=true)(hl:s.cj.length≤100000)(pC:s.aj.length≤100000)
 (w:World) (M:Nat→Prop) (h:SR w M S s) (qh:s.queue.length≤100000) (R:Ending→World→Prop)
 (hR:∀B M' pa pc qa qc ea ec w',SR w' M' S {s with queue:=rest,cj:=s.cj++ [(d:Int)],aj:=s.aj++ [⟨d,x.al,x⟩]}→Sep M M' w w'→dJ w' B (.slice pa x.note.az.length pc) (.slice qa x.note.props.length qc) (.slice ea x.ids.length ec) x→w.heap.size≤B→(∀b,M' b→b<B)→gb x→
   R (.returned (.tuple #[(Value.agg (aG x pa pc qa qc ea ec)),.int .i64 d,.bool true])) w'):
 Calls prog 10 #[.pointer (some ⟨S,0,none⟩),.int .i64 bY] w R:=by
 obtain ⟨NB,MB,GB,GM,sv,qv,fv,hx⟩:=h;have HR:=ab hR;obtain ⟨ps,aT,aq,aS,aV⟩:=id hx.hq;obtain ⟨va,vc,rfl⟩:=aq.shape;obtain ⟨n,hn⟩:=ai s.queue.length;have dh:0<n:=by rw [←hn,hq];simp
 have yg:(0:Int)<(n:Int):=by omega
 have ot:n - 1=rest.length:=by rw [←hn,hq];simp
 rw [hn] at hx aq qh;rw [hq] at aT;obtain ⟨⟨c,y⟩,pr,rfl⟩:∃p pr,ps=p::pr:=by
  cases ps with
  |nil=>simp at aT
  |cons p pr=>exact ⟨p,pr,rfl⟩
 obtain ⟨rfl,wS⟩:y=x∧pr.map (·.2)=rest:=by simpa using aT
 obtain ⟨⟨pa,pc,wT⟩,⟨qa,qc,tQ⟩,ea,ec,wU⟩:=(aS (c,y) (mem_cons_self ..)).1.o_.shape;obtain ⟨p1,p2,p3⟩:=c;simp only at wT tQ wU;subst wT tQ wU;have aL:Below w w (w.alloc (Obj.cells a_ 36)):=(Below.refl _ _).alloc (Nat.le_refl _) _;have ah:Below w w (w.alloc (Obj.cells (aG y pa pc qa qc ea ec) 36)):=(Below.refl _ _).alloc (Nat.le_refl _) _;have H1:Hid (SR (w.alloc (Obj.cells a_ 36)) M S s):=⟨NB,MB,GB,GM,sv,_,fv,hx.below aL⟩
 obtain ⟨bn,bt⟩:=hx.Cj (Obj.cells (aG y pa pc qa qc ea ec) 36);have rT:∀p∈((Value.slice pa y.note.az.length pc,Value.slice qa y.note.props.length qc,Value.slice ea y.ids.length ec),y)::pr,db (w.alloc (Obj.cells (aG y pa pc qa qc ea ec) 36)) (fun b=>M b∨b=w.heap.size) p.1 p.2:=fun p hp=>(aS p hp).sep bt;have p9:=aq.below aL;have bW:=aq.below ah;obtain ⟨g,o,kK,aW,nW⟩:=p9.at dh;subst kK;obtain ⟨i,bS,_,cQ,_⟩:=info_parts sC;obtain ⟨ax,df,pA,km⟩:=bf.from (k:=1) bW underlying52 bS cQ (by omega);replace df:∀w',(Instr.slice 52 (.slice (some ⟨g,o,none⟩) n vc) (some (.int .i64 1)) none none).run prog w'= .ok (.slice ax rest.length (vc - 1)) w':=by rw [ot] at df;exact df
 rw [List.flatMap_cons,Nat.one_mul,drop_append,drop_of_length_le (by rw [my];omega),my,Nat.sub_self,drop_zero,nil_append,ot] at pA;rw [ot] at km;obtain ⟨cG,fj⟩:=SX.pop bn wS rT pA km;have mL:Hid (∀j,j<14→(w.alloc (Obj.cells a_ 36)).cell? ⟨g,o+j,none⟩= (aG y pa pc qa qc ea ec:List Value)[j]?):=fun j hj=>by
  exact KM
 have N1:=ab (heap_alloc_new w (Obj.cells a_ 36));have c6:=(dy (hx.below aL).hS).2.2.1;have d6:=(dy bn.hS).2.2.1;have f6:=aB bn.hS 6;have Eu:S≠w.heap.size:=fun e=>by have:=hx.lt S hx.mS;omega
 have N3:Hid (((w.alloc (Obj.cells (aG y pa pc qa qc ea ec) 36)).setCell ⟨S,6,none⟩ (.slice ax rest.length (vc - 1))).heap[w.heap.size]? =some (Obj.cells (aG y pa pc qa qc ea ec) 36)):=(heap_setCell_other _ _ _ _ (fun e=>Eu e.symm)).trans (heap_alloc_new w (Obj.cells (aG y pa pc qa qc ea ec) 36));have gY:=ab cG;have iD:=ab (bt.trans fj);have tR:=ab ((rT _ (mem_cons_self ..)).sep fj);have C9:=ab (show (Value.slice ax rest.length (vc - 1)).ownBlock≠some w.heap.size from fun e=>by
  rw [km] at e;have h1:=hx.lt _ (aV _ e)
  omega)
 have afP:=ab (show fv.ownBlock≠some w.heap.size from fun e=>by
  have h1:=hx.lt _ (hx.hf.own _ e)
  omega)
 have zQ:=ab hx;have HB:=ab hb;have mi:Hid (s.queue.length≤100000):=by show _≤_;rw [hn];exact qh
 clear hR aT aq aS aV bn bt rT p9 bW pA aW nW wS hb hn hq bS cQ km cG fj Eu hx aL ah ot;have yB:=ab hc;have EY:=ab iW;have c0:=(dy gY.o_.hS).1.1;have gw:=(sx N3.o_).2.2.2.2.1;clear hc iW;go_enter func10,ntmps10;go_wp2_with (first
  |(go_at_call 40;go_must (refine KL S s bY true HB.o_ _ _ H1.o_ mi.o_ _ ?_))
  |(refine ie (o:=⟨some 17,.load 36 (.tmp 16),_,_,_,_⟩) (by rfl) 36 (.tmp 16) (by rfl) (g) (o) (by rfl) ((aG y pa pc qa qc ea ec)) _ (mL.o_) (underlying36) (by rfl) (by kernel_rfl) ?_)
  |(refine wpList_store_row (o:=⟨none,.store 36 (.tmp 4) (.tmp 17),_,_,_,_⟩) (by rfl) 36 (.tmp 4) (.tmp 17) (by rfl) w.heap.size _ (by rfl) (by rfl) 36 _ N1.o_ (by kernel_rfl) (by rfl) (by simp [Value.oneCell']) ?_;rw [World.setRow_alloc_new])
  |(go_at_call 41;go_must (refine ac4 NB MB s.cj d h1 h2 yB.o_ EY.o_ hl _ gY.o_.hn _ ?_);intro w4 WO cT;have eT:=SX.NU gY.o_ cT WO;have Bk:=ab eT.1;have KO:=ab (iD.o_.trans eT.2);have N4:=ab (eG cT N3.o_ (fun e=>by have h1:=zQ.o_.NW.2.2.1;exact h1 (Option.some.inj e).symm));have tP:=ab (tR.o_.sep eT.2);clear WO cT eT))
 have WQ:=ab (Bk.o_.below (Below.refl w4 w4).drew);have dW:Below w4.drew.heap.size w4.drew (w4.drew.alloc (Obj.cells (cD (d:Int) y.al y pa pc qa qc ea ec) 51)):=(Below.refl _ _).alloc (Nat.le_refl _) _;have gQ:=ab (WQ.o_.below dW);have mK:Hid ((w4.drew.alloc (Obj.cells (cD (d:Int) y.al y pa pc qa qc ea ec) 51)).heap[w.heap.size]? =some (Obj.cells (aG y pa pc qa qc ea ec) 36)):=aA N4.o_ (dw (Below.refl w4 w4).drew dW);have rU:db (w4.drew.alloc (Obj.cells (cD (d:Int) y.al y pa pc qa qc ea ec) 51)) (fun b=>M b∨b=w.heap.size) (.slice pa y.note.az.length pc,.slice qa y.note.props.length qc,.slice ea y.ids.length ec) y:=(tP.o_.sep (.cU (Below.refl w4 w4).drew)).sep (.cU dW);have qR:=ab rU;obtain ⟨fQ,jG,fx,kL,_⟩:=gQ.o_.hf;obtain ⟨m,hm⟩:=ai s.aj.length;obtain ⟨fa,fc,mD⟩:∃a c,fv= .slice a m c:=by
  rw [←hm];exact bF fx
 subst mD;have vj:({s with queue:=rest,cj:=s.cj++ [(d:Int)]}:aF).aj.length=m:=hm;rw [hm] at pC;rw [vj] at fx;have HM:=ab hm;have wV:=ab jG;have pD:=ab fx;have vk:=ab kL;have c7:w4.drew.cell? ⟨S,7,none⟩=some (.slice fa m fc):=by
  exact (dy WQ.o_.hS).2.2.2.1
 have ER:(w4.alloc (Obj.cells (cD (d:Int) y.al y pa pc qa qc ea ec) 51)).drew.cell? ⟨S,7,none⟩=some (.slice fa m fc):=cell_later dW c7;obtain ⟨⟨i0,i1,i2,i3,i4,i5,i6⟩,i7,i8,i9,i10,i11,i12,i13⟩:=sx (w:=w4.drew) N4.o_;clear jG fx kL hm rU vj c0 gw c6 d6 f6;go_region_law (first
  |refine gx (by rfl) (.tmp 42) (.tmp 48) 48 (by rfl) 0 51 (Value.agg lT) 16 200 underlying48 x_ rfl (by decide) fa m fc _ (by rfl) pD.o_ (some ⟨w4,0,none⟩) 1 1 (cD (d:Int) y.al y pa pc qa qc ea ec) (by rfl) (cO w4.drew (cD (d:Int) y.al y pa pc qa qc ea ec) 51 16 1 rfl) (KN _ _ _ _ _ _ _) (fun h=>by cases h) (by unfold maxLen;omega) (by omega) (Nat.zero_le _) ?_;intro fM yC w6 mM bI zR;have r6:=eG bI gQ.o_.hS (dU gQ.o_.hS pD.o_ (by decide));have e7:=(dy r6).2.2.2.1;have f7:=aB r6 7)
 all_goals
  obtain ⟨a0,a1,a2,a3,a4,a5,_,a7⟩:=zQ.o_.NW;have EZ:∀k,(Value.slice fM (m+1) yC).ownBlock=some k→k≠w.heap.size:=fun k hk=>by
   rcases zR with e|e
   ·exact fun h=>a7 (e.symm.trans (hk.trans (by rw [h])))
   ·rw [e] at hk;have h0:=(Array.getElem?_eq_some_iff.1 N4.o_).1;have h1:=Option.some.inj hk;simp at h1
    omega
  obtain ⟨M7,fN,uY,Bl⟩:=SX.qN (fs:=s.aj++ [⟨d,y.al,y⟩]) (ps:=fQ++ [((.slice pa y.note.az.length pc,.slice qa y.note.props.length qc,.slice ea y.ids.length ec),⟨d,y.al,y⟩)]) gQ.o_ (by rw [List.map_append,wV.o_];rfl) (fun p hp=>by
   rcases List.mem_append.1 hp with hp|hp
   ·exact vk.o_ p hp
   ·obtain rfl:=List.mem_singleton.1 hp;exact qR.o_) (by rw [List.flatMap_append,List.length_append,HM.o_];exact mM) bI zR
  have N7:Hid ((w6.setCell ⟨S,7,none⟩ (.slice fM (m+1) yC)).heap[w.heap.size]? =some (Obj.cells (aG y pa pc qa qc ea ec) 36)):=(heap_setCell_other _ _ _ _ (fun e=>a0 e)).trans (eG bI mK.o_ (dU mK.o_ pD.o_ (by decide)));have vp:=ab fN;have G3:=ab (((KO.o_.below (Below.refl w4 w4).drew).below dW).trans uY);have zS:=ab (qR.o_.sep uY);have afV:=ab EZ;clear fN uY EZ zR bI mM r6 e7 f7 c7 ER i0 i1 i2 i3 i4 i5 i6 i7 i8 i9 i10 i11 i12 i13 dW;go_wp2_with (first
   |(refine wpList_load_row (o:=⟨some 52,.load 36 (.tmp 4),_,_,_,_⟩) (by rfl) 36 (.tmp 4) (by rfl) (w.heap.size) (by rfl) 36 _ (0,0) _ (N7).o_ (underlying36) (by rfl) (by kernel_rfl) ?_)
   |(go_at_call 37;go_must (refine AL y _ _ _ _ zS.o_.1.o_ zS.o_.2 _ ?_);intro E3 E4 E5 E6 E7 E8 w8 yu gh;have N8:=ab (aA N7.o_ gh);have kD:=ab yu;have fS:=ab gh;clear yu gh)
   |(refine wpList_store_row (o:=⟨none,.store 36 (.tmp 4) (.tmp 53),_,_,_,_⟩) (by rfl) 36 (.tmp 4) (.tmp 53) (by rfl) (w.heap.size) _ (by rfl) (by rfl) 36 _ (N8).o_ (by kernel_rfl) (by rfl) (by simp [Value.oneCell']) ?_))
  have oR:=vp.o_.below fS.o_;have bo:=rz w8 w.heap.size (aG y E3 E4 E5 E6 E7 E8);have afW:M7 w.heap.size:=Bl _ (.inr rfl);obtain ⟨iI,iJ⟩:=oR.Uo afW (Nat.le_of_lt (zQ.o_.lt S zQ.o_.mS)) bo a0 a1 a2 a3 a4 a5 C9.o_ (fun e=>afV.o_ _ e rfl);refine bodyPost_ret (FV rfl _ _ w 36 _ (0,0) _ (.int .i64 d) (.bool true) rfl rfl rfl (setRow_heap _ w.heap.size _ _ _ _ N8.o_) underlying36 rfl (by kernel_rfl)) rfl ?_;refine HR.o_ _ _ _ _ _ _ _ _ _ ⟨NB,MB,GB,GM,sv,_,_,iI⟩ ((G3.o_.below fS.o_).trans iJ) (kD.o_.typed N8.o_ (by decide) (by decide) (by decide) bo) ?_ ?_ zS.o_.2
  ·have h1:=G3.o_.size
   simpa [World.setCell] using h1
  ·rintro b ⟨hb,ah⟩;exact vp.o_.lt b hb
open Bool (and_eq_true)
open Int (toNat_natCast)
open List (getElem_map mem_cons_of_mem mem_or_eq_of_mem_set)
variable{fine ok:Bool}{x:Im}{id z:Int}{rest:List Im}{s s':aF}
theorem WR:∀(l:List Int)(i:Nat)(h:i<l.length),l.Nodup→l.erase l[i]=l.eraseIdx i
 |[],i,h,_=>by simp at h
 |x::l,0,h,_=>by simp
 |x::l,i+1,h,hn=>by
  have tE:=List.nodup_cons.1 hn;have hi:i<l.length:=by simpa using h
  have bh:x≠l[i]:=fun e=>tE.1 (e▸List.getElem_mem hi);rw [List.getElem_cons_succ,List.eraseIdx_cons_succ,List.erase_cons_tail (by simpa using bh),WR l i hi tE.2]
theorem map_eraseIdx{α β:Type}(f:α→β):∀(l:List α)(i:Nat),(l.eraseIdx i).map f=(l.map f).eraseIdx i
 |[],i=>by simp
 |x::l,0=>by simp
 |x::l,i+1=>by rw [List.eraseIdx_cons_succ,List.map_cons,List.map_cons,List.eraseIdx_cons_succ,map_eraseIdx f l i]
structure eL(s:aF):Prop where
 qn:s.queue.length≤8
 fn:s.aj.length≤8
 eq:s.cj=s.aj.map (·.id)
 nd:s.cj.Nodup
 rg:∀f∈s.aj,1≤f.id∧f.id≤8
 qq:∀x∈s.queue,0≤x.al
theorem eL.new(l:List UInt8):eL (fw l):=⟨by simp [fw],by simp [fw],rfl,.nil,by simp [fw],by simp [fw]⟩
theorem eL.i64(h:eL s):∀f∈s.aj,h_ f.id:=fun f hf=>by
 have:=h.rg f hf;exact ⟨by omega,by omega⟩
theorem eL.push(h:eL s)(hl:s.queue.length<8)(hx:0≤x.al):eL {s with queue:=s.queue++ [x]}:=
 ⟨by show (s.queue++ [x]).length≤8;rw [List.length_append];show _+1≤8;omega,h.fn,h.eq,h.nd,h.rg,fun y hy=>by
  rcases List.mem_append.1 hy with hy|hy
  ·exact h.qq y hy
  ·obtain rfl:=List.mem_singleton.1 hy;exact hx⟩
theorem eL.pop(h:eL s)(hq:s.queue=x::rest):eL {s with queue:=rest}:=
 ⟨by have:=h.qn;rw [hq,List.length_cons] at this;show rest.length≤8;omega,h.fn,h.eq,h.nd,h.rg,fun y hy=>h.qq y (by rw [hq];exact mem_cons_of_mem _ hy)⟩
theorem eL.qN{d:Nat}{q:Int}(h:eL s)(hq:s.queue=x::rest)(hf:s.aj.length<8)(h1:1≤d)(h2:d≤s.cj.length+1)(hc:s.cj.contains (d:Int)=false):
 eL {s with queue:=rest,cj:=s.cj++ [(d:Int)],aj:=s.aj++ [⟨d,q,x⟩]}:=by
 have hp:=h.pop hq;have lg:s.cj.length=s.aj.length:=by rw [h.eq,List.length_map]
 refine ⟨hp.qn,?_,?_,?_,?_,hp.qq⟩
 ·show (s.aj++ [(⟨d,q,x⟩:Fl)]).length≤8;rw [List.length_append];show _+1≤8
  omega
 ·show s.cj++ [(d:Int)]=(s.aj++ [(⟨d,q,x⟩:Fl)]).map (·.id);rw [List.map_append,h.eq]
  rfl
 ·show (s.cj++ [(d:Int)]).Nodup;rw [List.nodup_append];refine ⟨h.nd,by simp,fun a ha b hb=> ?_⟩;obtain rfl:=List.mem_singleton.1 hb;rintro rfl;simp at hc;exact hc ha
 ·intro f G4;rcases List.mem_append.1 G4 with G4|G4
  ·exact h.rg f G4
  ·obtain rfl:=List.mem_singleton.1 G4;exact ⟨by show (1:Int)≤(d:Int);omega,by show (d:Int)≤8;omega⟩
theorem eL.land{p:Fl→Bool}(h:eL s)(hz:cV p s.aj=z):eL (jE s z):=by
 unfold jE
 split
 ·exact h
 ·obtain ⟨k,hk,rfl,_⟩:=wO hz (by omega);simp only [toNat_natCast,List.getElem?_eq_getElem hk,Option.map_some,Option.getD_some];have fA:k<(s.aj.map (·.id)).length:=by rw [List.length_map];exact hk
  refine ⟨h.qn,?_,?_,h.nd.erase _,fun f hf=>h.rg f (List.mem_of_mem_eraseIdx hf),h.qq⟩
  ·show (s.aj.eraseIdx k).length≤8;have:=h.fn;rw [List.length_eraseIdx]
   split<;>omega
  ·show s.cj.erase (s.aj[k]).id=(s.aj.eraseIdx k).map (·.id);rw [map_eraseIdx,h.eq];have hn:(s.aj.map (·.id)).Nodup:=h.eq▸h.nd;have:=WR (s.aj.map (·.id)) k fA hn
   rwa [getElem_map] at this
theorem eL.Pj{p:Fl→Bool}{a b:Bool}(h:eL s)(hz:cV p s.aj=z)(hr:zH s z fine=(s',a,b)):eL s':=by
 by_cases hn:z<0
 ·rw [GH hn] at hr;cases hr;exact h
 ·obtain ⟨k,hk,rfl,_⟩:=wO hz (by omega);rw [Ku hk] at hr
  split at hr
  ·cases hr;exact h
  ·split at hr
   ·cases hr;exact h.land hz
   ·cases hr;refine ⟨h.qn,by show (s.aj.set k _).length≤8;rw [List.length_set];exact h.fn,?_,h.nd,fun f hf=> ?_,h.qq⟩
    ·show s.cj=(s.aj.set k _).map (·.id);rw [h.eq];apply List.ext_getElem
     ·simp
     ·intro i h1 h2;rw [getElem_map,getElem_map,List.getElem_set]
      split
      ·rename_i e
       subst e
       rfl
      ·rfl
    ·rcases mem_or_eq_of_mem_set hf with h1|h1
     ·exact h.rg f h1
     ·rw [h1];exact (h.rg (s.aj[k]) (List.getElem_mem hk):1≤(s.aj[k]).id∧(s.aj[k]).id≤8)
inductive wW (s:aF) (bY:Int):Im→Int→Bool→aF→Prop
 |no (h:kV s bY=false):wW s bY ⟨⟨[],[],0,false,[],0,[],0,0,0⟩,0,false,[],[]⟩ 0 false s
 |out (x:Im) (rest:List Im) (hq:s.queue=x::rest) (h:kV s bY=true) (hz:x.al=0):wW s bY x 0 true {s with queue:=rest}
 |qN (x:Im) (rest:List Im) (d:Nat) (hq:s.queue=x::rest) (h:kV s bY=true) (hz:0<x.al) (h1:1≤d) (h2:d≤s.cj.length+1) (hc:s.cj.contains (d:Int)=false) (ha:∀j:Nat,1≤j→j<d→s.cj.contains (j:Int)=true):
  wW s bY x (d:Int) true {s with queue:=rest,cj:=s.cj++ [(d:Int)],aj:=s.aj++ [⟨d,x.al,x⟩]}
theorem afX{bY:Int}(hq:s.queue=x::rest)(h:kV s bY=true)(hz:0<x.al):(s.aj.length:Int)<bY∧s.aj.length<8:=by
 unfold kV at h;rw [hq] at h;simp only [Bool.or_eq_true,beq_iff_eq,and_eq_true,decide_eq_true_eq] at h;rcases h with h|h
 ·omega
 ·exact h
theorem wW.inv{bY:Int}(h:eL s)(hn:wW s bY x id ok s'):eL s':=by
 cases hn with
 |no _=>exact h
 |out x rest hq _ _=>exact h.pop hq
 |qN x rest d hq hr hz h1 h2 hc ha=>exact h.qN hq (afX hq hr hz).2 h1 h2 hc
theorem WS(S:Nat)(s:aF)(bY:Int)(hi:eL s)(w:World)(M:Nat→Prop)(h:SR w M S s)(R:Ending→World→Prop)
 (hR:∀x id ok s' B M' pa pc qa qc ea ec w',wW s bY x id ok s'→SR w' M' S s'→Sep M M' w w'→dJ w' B (.slice pa x.note.az.length pc) (.slice qa x.note.props.length qc) (.slice ea x.ids.length ec) x→w.heap.size≤B→(∀b,M' b→b<B)→gb x→
   R (.returned (.tuple #[(Value.agg (aG x pa pc qa qc ea ec)),.int .i64 id,.bool ok])) w'):
 Calls prog 10 #[.pointer (some ⟨S,0,none⟩),.int .i64 bY] w R:=by
 have aqp:=hi.qn;have aqq:=hi.fn;have lg:s.cj.length=s.aj.length:=by rw [hi.eq,List.length_map]
 cases hr:kV s bY with
 |false=>
  refine afN S s bY hr w M h (by omega) R fun w' hb=> ?_;have hM:∀b,M b→b<w'.heap.size:=fun b hm=>by
   obtain ⟨NB,MB,GB,GM,sv,qv,fv,hx⟩:=h;have:=hx.lt b hm;have:=hb.size
   omega
  exact hR _ _ _ _ w'.heap.size M none 0 none 0 none 0 w' (.no hr) (h.below hb) (.cU hb) ⟨World.ownsRow_nil _ _ _ _,cZ.nil _ _,World.ownsRow_nil _ _ _ _⟩ hb.size hM Uh
 |true=>
  cases hq:s.queue with
  |nil=>
   unfold kV at hr;rw [hq] at hr;simp at hr
  |cons x rest=>
   have hx:=hi.qq x (by rw [hq];exact mem_cons_self);by_cases hz:x.al=0
   ·exact afO S s x rest hq bY hr hz w M h (by omega) R fun B M' pa pc qa qc ea ec w' h1 h2 h3 h4 h5 h6=>hR _ _ _ _ B M' pa pc qa qc ea ec w' (.out x rest hq hr hz) h1 h2 h3 h4 h5 h6
   ·obtain ⟨d,d1,d2,d3,d4⟩:=ac3 s.cj;exact afU S s x rest hq bY hr (by omega) d d1 (by omega) d3 d4 (by omega) (by omega) w M h (by omega) R fun B M' pa pc qa qc ea ec w' h1 h2 h3 h4 h5 h6=>hR _ _ _ _ B M' pa pc qa qc ea ec w' (.qN x rest d hq hr (by omega) d1 d2 d3 d4) h1 h2 h3 h4 h5 h6
variable{N S t:Nat}{fr:Nat×Nat}{M M':Nat→Prop}{W w w':World}
theorem WT{a L:List Value}(k n:Nat)(hN:w.heap[N]? =some (.cells a.toArray t fr))(hL:L=(a.drop k).take n):∀j,j<L.length→w.cell? ⟨N,k+j,none⟩=L[j]?:=by
 intro j hj;subst hL;have zb:j<n:=by rw [List.length_take] at hj;omega
 rw [af w N (k+j) _ _ _ hN,List.getElem?_take_of_lt zb,List.getElem?_drop];simp
structure SW(W w:World)(S:Nat)(s:aF):Prop where
 ex:∃M,SR w M S s∧∀b,M b→W.heap.size≤b
 low:Below W W w
theorem SW.step(hl:Below W W w)(hM:∀b,M b→W.heap.size≤b)(h:SR w' M' S s')(hs:Sep M M' w w'):SW W w' S s':=
 ⟨⟨M',h,fun b hb=>by
  rcases hs.new b hb with h1|h1
  ·exact hM b h1
  ·exact Nat.le_trans hl.size h1⟩,aD hl (hs.low hl.size hM) (Nat.le_refl _)⟩
theorem SW.below(h:SW W w S s)(hb:Below w w w'):SW W w' S s:=by
 obtain ⟨M,h1,h2⟩:=h.ex;exact ⟨⟨M,h1.below hb,h2⟩,aD h.low hb h.low.size⟩
def pE(s:aF)(x:Im):aF×Bool:=if s.queue.length<8 then ({s with queue:=s.queue++ [x]},true) else (s,false)
theorem eL.pE(h:eL s)(hx:0≤x.al):eL (pE s x).1:=by
 unfold Go.Proofs.YtgimbocoamnkjaaGreatDoor.pE
 split
 ·rename_i hl
  exact h.push hl hx
 ·exact h
theorem WU(S:Nat)(s:aF)(x:Im)(b:Bool)(s':aF)(hs:pE s x=(s',b))(hi:eL s)(pv qw ev:Value)(w:World)(M:Nat→Prop)(h:SR w M S s)(hc:gH w pv qw ev x)(hB:gb x)(R:Ending→World→Prop)
 (hR:∀M' w',SR w' M' S s'→Sep M M' w w'→R (.returned (.bool b)) w'):
 Calls prog 8 #[.pointer (some ⟨S,0,none⟩),(Value.agg (pS x pv qw ev))] w R:=by
 unfold pE at hs;by_cases hl:s.queue.length<8
 ·rw [if_pos hl] at hs;cases hs;exact adb S s x pv qw ev w M h hl hc hB R hR
 ·rw [if_neg hl] at hs;cases hs;have:=hi.qn;exact ac7 S s _ w M h (by omega) (by omega) R fun w' hb=>hR M w' (h.below hb) (.cU hb)
theorem afY(S:Nat)(s:aF)(x:Im)(b:Bool)(s':aF)(hs:pE s x=(s',b))(hi:eL s)(pv qw ev:Value)(W w:World)(h:SW W w S s)(hc:gH w pv qw ev x)(hB:gb x)(R:Ending→World→Prop)
 (hR:∀w',SW W w' S s'→R (.returned (.bool b)) w'):
 Calls prog 8 #[.pointer (some ⟨S,0,none⟩),(Value.agg (pS x pv qw ev))] w R:=by
 obtain ⟨M,h1,h2⟩:=h.ex;exact WU S s x b s' hs hi pv qw ev w M h1 hc hB R fun M' w' k1 k2=>hR w' (.step h.low h2 k1 k2)
theorem afZ(S:Nat)(s:aF)(bY:Int)(hi:eL s)(W w:World)(h:SW W w S s)(R:Ending→World→Prop)
 (hR:∀x id ok s' pa pc qa qc ea ec w',wW s bY x id ok s'→SW W w' S s'→gH w' (.slice pa x.note.az.length pc) (.slice qa x.note.props.length qc) (.slice ea x.ids.length ec) x→gb x→
   R (.returned (.tuple #[(Value.agg (aG x pa pc qa qc ea ec)),.int .i64 id,.bool ok])) w'):
 Calls prog 10 #[.pointer (some ⟨S,0,none⟩),.int .i64 bY] w R:=by
 obtain ⟨M,h1,h2⟩:=h.ex;exact WS S s bY hi w M h1 R fun x id ok s' B M' pa pc qa qc ea ec w' k1 k2 k3 k4 k5 k6 k7=>hR x id ok s' pa pc qa qc ea ec w' k1 (.step h.low h2 k2 k3) (k4.c k7) k7
theorem WV(S:Nat)(s:aF)(id z:Int)(hz:cV (kE id [1]) s.aj=z)(hi:eL s)(W w:World)(h:SW W w S s)(R:Ending→World→Prop)
 (hR:∀w',SW W w' S (jE s z)→R (.returned (.bool (decide (0≤z)))) w'):
 Calls prog 12 #[.pointer (some ⟨S,0,none⟩),.int .i64 id] w R:=by
 obtain ⟨M,h1,h2⟩:=h.ex;have:=hi.fn;exact VT S s id z hz hi.i64 (by omega) w M h1 R fun M' w' k1 k2=>hR w' (.step h.low h2 k1 k2)
theorem af0(S:Nat)(s:aF)(n:Nat)(hn:s.aj.length=n)(hi:eL s)(W w:World)(h:SW W w S s)(R:Ending→World→Prop)
 (hR:∀ad c (qs:List (V3×Fl)) w',qs.map (·.2)=s.aj→w'.ownsRow w 51 16 (.slice ad n c) n (qs.flatMap bH)→SW W w' S s→Below w w w'→R (.returned (.slice ad n c)) w'):
 Calls prog 16 #[.pointer (some ⟨S,0,none⟩)] w R:=by
 subst hn;obtain ⟨M,h1,h2⟩:=h.ex;have:=hi.fn;exact WH S s (by omega) w M h1 R fun ad c qs w' k1 k2 k3 k4 k5=>hR ad c qs w' k1 k2 (h.below k5) k5
theorem af1(l:List UInt8)(w:World)(R:Ending→World→Prop)
 (hR:∀S w',SW w w' S (fw l)→R (.returned (.pointer (some ⟨S,0,none⟩))) w'):
 Calls prog 6 #[.string (str l)] w R:=
 WK l w R fun S M w' h1 h2 h3=>hR S w' ⟨⟨M,h1,h2⟩,h3⟩
theorem af2(S:Nat)(s:aF)(W w:World)(h:SW W w S s)(R:Ending→World→Prop)
 (hR:R (.returned (.string (str s.dC))) w):
 Calls prog 36 #[.pointer (some ⟨S,0,none⟩)] w R:=by
 obtain ⟨M,h1,h2⟩:=h.ex;exact WL S s w M h1 R hR
variable{GB GM MB NB:Nat}{fv qv sv:Value}
theorem SX.cell(h:SX w M S NB MB GB GM sv qv fv s)(j:Nat)(u:Value)(s':aF)(hS:(w.setCell ⟨S,j,none⟩ u).heap[S]? =some (Obj.cells #[.pointer (some ⟨NB,0,none⟩),.string (str s'.dC),.int .i64 s'.cP,.int .i64 s'.ends,.bool s'.eB,sv,qv,fv,.pointer (some ⟨GB,0,none⟩)] 94))
 (e1:s'.cj=s.cj) (e2:s'.aH=s.aH) (e3:s'.ay=s.ay) (e4:s'.queue=s.queue) (e5:s'.aj=s.aj):SX (w.setCell ⟨S,j,none⟩ u) M S NB MB GB GM sv qv fv s'∧Sep M M w (w.setCell ⟨S,j,none⟩ u):=by
 have hg:=bL w ⟨S,j,none⟩ u;have hk:=jR h.hS;have hs:Sep M M w (w.setCell ⟨S,j,none⟩ u):= .kn hg (fun k hk=>by cases hk;exact h.mS);have cM:S≠MB:=fun e=>by
  have h1:=h.hn.kinds.2;rw [←e,hk] at h1
  revert h1
  decide
 have af3:S≠GM:=fun e=>by
  have h1:=h.hg.kinds.2;rw [←e,hk] at h1
  revert h1
  decide
 obtain ⟨_,p2,p3,p4,p5,p6⟩:=h.parts S hg (fun _ hm=>hm) hs;refine ⟨⟨hS,?_,?_,?_,?_,?_,h.nb,h.nm,h.mS,h.mN,h.mG,h.ms,h.oP,h.oQ,fun b hb=>Nat.lt_of_lt_of_le (h.lt b hb) hg.size⟩,hs⟩
 ·rw [e1];exact p2 cM (by rw [hk];decide)
 ·rw [e2];exact p3 af3 (by rw [hk];decide)
 ·rw [e3];exact p4 (by rw [hk];decide)
 ·rw [e4];exact p5 (by rw [hk];decide)
 ·rw [e5];exact p6 (by rw [hk];decide)
theorem af4(S:Nat)(s:aF)(x y:Int)(b:Bool)(w:World)(M:Nat→Prop)(h:SR w M S s)(R:Ending→World→Prop)
 (hR:∀w',SR w' M S {s with cP:=x,ends:=y,eB:=b}→Sep M M w w'→R (.returned (.tuple #[])) w'):
 Calls prog 46 #[.pointer (some ⟨S,0,none⟩),.int .i64 x,.int .i64 y,.bool b] w R:=by
 have HR:=ab hR;obtain ⟨NB,MB,GB,GM,sv,qv,fv,hx⟩:=h;have k1:=hx.cell 2 (.int .i64 x) {s with cP:=x} (by rw [heap_setCell_same w S 2 _ _ _ hx.hS];rfl) rfl rfl rfl rfl rfl;have k2:=k1.1.cell 3 (.int .i64 y) {s with cP:=x,ends:=y} (by rw [heap_setCell_same _ S 3 _ _ _ k1.1.hS];rfl) rfl rfl rfl rfl rfl;have k3:=k2.1.cell 4 (.bool b) {s with cP:=x,ends:=y,eB:=b} (by rw [heap_setCell_same _ S 4 _ _ _ k2.1.hS];rfl) rfl rfl rfl rfl rfl;have c2:=af w S 2 _ _ _ hx.hS;have f2:=aB hx.hS 2;have c3:=af _ S 3 _ _ _ k1.1.hS;have f3:=aB k1.1.hS 3;have c4:=af _ S 4 _ _ _ k2.1.hS;have f4:=aB k2.1.hS 4;have K3:=ab k3.1;have KS:=ab (k1.2.trans (k2.2.trans k3.2));clear hR k1 k2 k3 hx;go_enter func46,ntmps46;go_wp2;refine bodyPost_ret (results_none rfl _ _ _) rfl ?_;exact HR.o_ _ ⟨NB,MB,GB,GM,sv,qv,fv,K3.o_⟩ KS.o_
open Go.Shelf
def Tryz.af5:Go.Shelf.Ren:=⟨fun|189=>157|125=>175|257=>174|128=>201|129=>202|294=>192|295=>193|296=>194|297=>195|298=>196|299=>197|216=>198|300=>199|301=>200|328=>216|329=>217|330=>218|331=>219|332=>220|215=>221|343=>224|n=>n,fun|28=>25|3=>3|46=>138|0=>0|51=>242|53=>117|4=>4|183=>236|182=>235|131=>99|5=>5|9=>9|218=>256|222=>260|228=>264|229=>196|n=>n,fun|n=>n⟩
theorem Tryz.af6:Go.Proofs.Lays.n189 Tryz.prog Tryz.af5:=
 {mixed:=by kernel_rfl,
  f125:=Tryz.func175.trans (congrArg some (by kernel_rfl)),
  f128:=Tryz.func201.trans (congrArg some (by kernel_rfl)),
  f129:=Tryz.func202.trans (congrArg some (by kernel_rfl)),
  f189:=Tryz.func157.trans (congrArg some (by kernel_rfl)),
  f215:=Tryz.func221.trans (congrArg some (by kernel_rfl)),
  f216:=Tryz.func198.trans (congrArg some (by kernel_rfl)),
  f257:=Tryz.func174.trans (congrArg some (by kernel_rfl)),
  f294:=Tryz.func192.trans (congrArg some (by kernel_rfl)),
  f295:=Tryz.func193.trans (congrArg some (by kernel_rfl)),
  f296:=Tryz.func194.trans (congrArg some (by kernel_rfl)),
  f297:=Tryz.func195.trans (congrArg some (by kernel_rfl)),
  f298:=Tryz.func196.trans (congrArg some (by kernel_rfl)),
  f299:=Tryz.func197.trans (congrArg some (by kernel_rfl)),
  f300:=Tryz.func199.trans (congrArg some (by kernel_rfl)),
  f301:=Tryz.func200.trans (congrArg some (by kernel_rfl)),
  f328:=Tryz.func216.trans (congrArg some (by kernel_rfl)),
  f329:=Tryz.func217.trans (congrArg some (by kernel_rfl)),
  f330:=Tryz.func218.trans (congrArg some (by kernel_rfl)),
  f331:=Tryz.func219.trans (congrArg some (by kernel_rfl)),
  f332:=Tryz.func220.trans (congrArg some (by kernel_rfl)),
  f343:=Tryz.func224.trans (congrArg some (by kernel_rfl)),
  t0:=Tryz.underlying0,
  a0:=Tryz.isAgg0,
  z0:=Tryz.sizeOf0,
  v0:=Tryz.zeroValue0,
  t3:=Tryz.underlying3,
  a3:=Tryz.isAgg3,
  z3:=Tryz.sizeOf3,
  v3:=Tryz.zeroValue3,
  t4:=Tryz.underlying4,
  a4:=Tryz.isAgg4,
  z4:=Tryz.sizeOf4,
  v4:=Tryz.zeroValue4,
  t5:=Tryz.underlying5,
  a5:=Tryz.isAgg5,
  z5:=Tryz.sizeOf5,
  v5:=Tryz.zeroValue5,
  t9:=Tryz.underlying9,
  a9:=Tryz.isAgg9,
  z9:=Tryz.sizeOf9,
  v9:=Tryz.zeroValue9,
  t28:=Tryz.underlying25,
  a28:=Tryz.isAgg25,
  z28:=Tryz.sizeOf25,
  v28:=Tryz.zeroValue25,
  t46:=Tryz.underlying138,
  a46:=Tryz.isAgg138,
  z46:=Tryz.sizeOf138,
  v46:=Tryz.zeroValue138,
  t51:=Tryz.underlying242,
  a51:=Tryz.isAgg242,
  z51:=Tryz.sizeOf242,
  v51:=Tryz.zeroValue242,
  t53:=Tryz.underlying117,
  a53:=Tryz.isAgg117,
  z53:=Tryz.sizeOf117,
  v53:=Tryz.zeroValue117,
  t131:=Tryz.underlying99,
  a131:=Tryz.isAgg99,
  z131:=Tryz.sizeOf99,
  v131:=Tryz.zeroValue99,
  t182:=Tryz.underlying235,
  a182:=Tryz.isAgg235,
  z182:=Tryz.sizeOf235,
  v182:=Tryz.zeroValue235,
  t183:=Tryz.underlying236,
  a183:=Tryz.isAgg236,
  z183:=Tryz.sizeOf236,
  v183:=Tryz.zeroValue236,
  t218:=Tryz.underlying256,
  a218:=Tryz.isAgg256,
  z218:=Tryz.sizeOf256,
  v218:=Tryz.zeroValue256,
  t222:=Tryz.underlying260,
  a222:=Tryz.isAgg260,
  z222:=Tryz.sizeOf260,
  v222:=Tryz.zeroValue260,
  t228:=Tryz.underlying264,
  a228:=Tryz.isAgg264,
  z228:=Tryz.sizeOf264,
  v228:=Tryz.zeroValue264,
  t229:=Tryz.underlying196,
  a229:=Tryz.isAgg196,
  z229:=Tryz.sizeOf196,
  v229:=Tryz.zeroValue196}
theorem Pk(x:Im)(pv qv ev:Value)(w:World)(hc:gH w pv qv ev x)(hB:gb x)(oM:(x.note.props.flatMap bV).length≤90000000)(hT:di w)(Y:List UInt8)(hY:jf x=Y)(lg:(eK x.note).length≤140737488355328)(je:Y.length≤140737488355328)(G5:x.ids.length≤100000)(R:Ending→World→Prop)
 (hR:∀ad c w',w'.ownsRow w 5 1 (.slice ad Y.length c) Y.length (bv Y)→Below w w w'→R (.returned (.slice ad Y.length c)) w'):
 Calls prog 60 #[(Value.agg (pS x pv qv ev))] w R:=by
 have HR:=ab hR;have HC:=ab hc;have qL:=ab hB;obtain ⟨⟨pa,pc,rfl⟩,⟨qa,qc,rfl⟩,ea,ec,rfl⟩:=hc.shape;obtain ⟨⟨aJ,az,c_,aE,src,aN,props,origin,number,aQ⟩,al,aM,ids,share⟩:=x;simp only at*;clear hR hB hc;obtain ⟨NY,zT⟩:=ai (eK ⟨aJ,az,c_,aE,src,aN,props,origin,number,aQ⟩);rw [zT] at lg;obtain ⟨⟨DD,de⟩,yD⟩:∃q,cS NY=q:=⟨_,rfl⟩
 obtain ⟨⟨SS,se⟩,wX⟩:∃q,b5 share=q:=⟨_,rfl⟩
 obtain ⟨JJ,Pm⟩:=ai (DD++ [b8 (kr al aM)]++ [b8 (ids.length:Int)]);obtain ⟨FF,kI⟩:∃q,ids.flatMap (fun i=>aR (bj i) 4)=q:=⟨_,rfl⟩
 have Bm:JJ++FF++SS=Y:=by
  rw [←hY,←Pm];unfold jf;simp only [zT,yD,wX,kI]
 have cE:JJ.length≤140737488355328:=by
  have:=congrArg List.length Bm;simp only [List.length_append] at this
  omega
 have df:JJ.length+FF.length+SS.length≤140737488355328:=by
  have:=congrArg List.length Bm;simp only [List.length_append] at this
  omega
 have HJ:Hid ([DD,[b8 (kr al aM)],[b8 (ids.length:Int)]].flatten=JJ):=by
  show _=_;rw [←Pm];simp
 obtain ⟨O0,m9⟩:=ai ((Obj.cells (qJ aJ pa az pc c_ aE src aN qa props qc origin number aQ al aM ea ids ec share) 36));have aL:Below w w (w.alloc O0):=(Below.refl _ _).alloc (Nat.le_refl _) _;have n0:=heap_alloc_new w O0;have l8:=ab (hT.below aL);have mj:=ab (HC.o_.below aL);have bu:=ab aL;have N0:=ab n0;rw [←m9] at l8 mj bu N0;have Pn:=ab zT;have yE:=ab yD;have jo:=ab wX;have KP:=ab Bm;have AK:=ab oM;have uX:=ab lg;have lY:=ab cE;have tK:=ab kI;have af7:=ab G5;have sS:=ab df;clear hT hY lg je zT yD wX Pm Bm cE df m9 aL n0 oM kI G5;go_enter func60,ntmps60;go_wp2_with (first
  |(go_at_call 119;go_must (refine VE ⟨aJ,az,c_,aE,src,aN,props,origin,number,aQ⟩ _ _ _ mj.o_.p mj.o_.q qL.o_.n AK.o_ l8.o_ NY Pn.o_ uX.o_ _ ?_);intro na nc w2 gO ah;have ix:=ab (cp gO);have aY:=ab ah;have N2:=ab (aA N0.o_ ah);clear gO ah)
  |(go_at_call 118;go_must (refine F8 _ NY DD de yE.o_ _ ix.o_ _ ?_);intro da dc w3 bD an;have eH:=ab (cp bD);have bU:=ab an;have N3:=ab (aA N2.o_ an);have jP:=af w3 _ 13 _ _ _ N3.o_;clear bD an)
  |(go_at_call 54;go_must (refine A0 share SS se jo.o_ _ (by have:=qL.o_.s;simp only at this;omega) ((l8.o_.below aY.o_).below bU.o_) _ ?_);intro ta tc w4 eh ak;have px:=ab (cp eh);have b6:=ab ak;have N4:=ab (aA N3.o_ ak);clear eh ak))
 have zU:Hid (Below w w w4):=by
  exact VL
 have gA:Below w4 w4 w4.drew:=(Below.refl _ _).drew;have dh:=aA N4.o_ gA;have zh:=(eH.o_.below b6.o_).below gA;have yt:Below w4.drew.heap.size w4.drew (w4.alloc (Obj.cells #[Value.int .u8 (IntKind.u8.wrap (ids.length:Int))] 5)).drew:=(Below.refl w4.drew.heap.size w4.drew).alloc (Nat.le_refl _) _;have m7:True∧Bs (w4.alloc (Obj.cells #[Value.int .u8 (IntKind.u8.wrap (ids.length:Int))] 5)).drew (.slice (some ⟨w4,0,none⟩) 1 1) [b8 (ids.length:Int)]:=And.intro trivial (cp (l:= [b8 (ids.length:Int)]) (Cm (B:=0) w4.drew (ids.length:Int) (Nat.zero_le _)));clear jP;go_upto_region 3 with fail
 go_cut [7] from 10 to 51 (fun sb wx=>∃(ja:Option Addr)(jc:Nat),sb= .slice ja JJ.length jc∧Hid (wx.ownsRow w4 5 1 (.slice ja JJ.length jc) JJ.length (bv JJ))∧Hid (Below w4 w4 wx))
 case first=>
  go_region_held3 (fun x=>x.cell? ⟨w,10,none⟩=some (.int .i64 al)∧x.cell? ⟨w,11,none⟩=some (.bool aM)∧x.cell? ⟨w,12,none⟩=some (.slice ea ids.length ec))
   (first|with_reducible exact GC dh|with_reducible exact GC (aA dh yt)|with_reducible exact GC dz|with_reducible exact GC (aA dz E9)|with_reducible exact GC iA|go_keep)
   (first
    |(go_at_call 120;refine UH al aM _ _ ?_;intro ma mc w5 ez aC;have gP:=cp ez;have dz:=(by first|with_reducible exact aA dh aC|with_reducible exact aA (aA dh yt) aC:w5.heap[w.heap.size]? =some (Obj.cells (qJ aJ pa az pc c_ aE src aN qa props qc origin number aQ al aM ea ids ec share) 36));have tw:=(by first|with_reducible exact zh.below aC|with_reducible exact (zh.below yt).below aC:Bs w5 (.slice da DD.length dc) DD);have vr:=(by first|with_reducible exact dw gA aC|with_reducible exact dw (dw gA yt) aC:Below w4 w4 w5);have E9:Below w5 w5 (w5.alloc (Obj.cells #[Value.int .u8 (IntKind.u8.wrap (ids.length:Int))] 5)):=(Below.refl _ _).alloc (Nat.le_refl _) _;have rM:=ab (CV w5 (Obj.cells #[Value.int .u8 (IntKind.u8.wrap (ids.length:Int))] 5));(first|(have Po:=m7.2.below aC)|(have C':=And.intro trivial (cp (l:= [b8 (ids.length:Int)]) (Cm (B:=0) w5 (ids.length:Int) (Nat.zero_le _))))))
    |(have hq:=Po;go_at_call 55;have kf:=ab (fun o=>dw vr ((Below.refl w5 w5).alloc (Nat.le_refl _) o):∀o:Obj,Below w4 w4 (w5.alloc o));have nw:=VJ (e:=22) (g:=w5.heap.size) rfl tw gP Po;refine m_ _ _ JJ HJ.o_ _ nw lY.o_ _ ?_;clear nw;intro ja jc w6 p7 bg;have HZ:=ab (fun o=>(kf.o_ o).size);have ov:=ab (dw (kf.o_ _) bg);have iA:=aA N4.o_ ov.o_;have jM:=ab p7;clear bg p7 hq Po tw gP dz vr E9 rM kf)
    |(have hq:=C';go_at_call 55;have kf:=ab (fun o=>dw (dw vr E9) ((Below.refl (w5.alloc (Obj.cells #[Value.int .u8 (IntKind.u8.wrap (ids.length:Int))] 5)).heap.size (w5.alloc (Obj.cells #[Value.int .u8 (IntKind.u8.wrap (ids.length:Int))] 5))).alloc (Nat.le_refl _) o):∀o:Obj,Below w4 w4 ((w5.alloc (Obj.cells #[Value.int .u8 (IntKind.u8.wrap (ids.length:Int))] 5)).alloc o));have nw:=VJ (e:=22) rM.o_ (tw.below E9) (gP.below E9) C'.2;refine m_ _ _ JJ HJ.o_ _ nw lY.o_ _ ?_;clear nw;intro ja jc w6 p7 bg;have HZ:=ab (fun o=>(kf.o_ o).size);have ov:=ab (dw (kf.o_ _) bg);have iA:=aA N4.o_ ov.o_;have jM:=ab p7;clear bg p7 hq C' tw gP dz vr E9 rM kf))
  all_goals
   go_wp2_with fail;go_meet;exact ⟨ja,jc,rfl,ab (bN jM.o_ (HZ.o_ _)),ov⟩
 obtain ⟨ja,jc,rfl,wY,tS⟩:=hcut;have l_:Hid (Below w w wc):=aD zU.o_ tS.o_ zU.o_.size;have jo:=ab (px.o_.below tS.o_);have jm:=af wc _ 12 _ _ _ (aA N4.o_ tS.o_);obtain ⟨w7,rfl⟩:∃x,x=wc:=⟨_,rfl⟩
 clear gA dh zh yt m7;go_wp2_with fail;have af8:=ab HC.o_.i;have KQ:Hid (∀j,((ids.take j).flatMap (fun i=>aR (bj i) 4)).length≤FF.length):=fun j=>by
  exact VK
 have WW:Hid (SS.length≤140737488355328):=by have:=sS.o_;show _≤_;omega
 go_loopg [7,9,39] ids.length (fun gn b _ i wr=>∃(k:Nat)(P:List UInt8)(wZ:Option Addr)(w_:Nat),k≤ids.length∧gn=ids.length - k∧b= .slice wZ P.length w_∧i= .int .i64 k∧Hid (P=JJ++(ids.take k).flatMap (fun i=>aR (bj i) 4))∧Hid (wr.ownsRow w4 5 1 (.slice wZ P.length w_) P.length (bv P))∧Hid (Below w4 w4 wr))
 case atStart=>exact ⟨0,JJ,ja,jc,Nat.zero_le _,by omega,rfl,rfl,ab (by simp),wY,tS⟩
 case round=>
  obtain ⟨k,P,wZ,w_,hk,rfl,rfl,rfl,HP,HO,HB⟩:=hrel;obtain ⟨wo,rfl⟩:∃x,x=wr:=⟨_,rfl⟩
  have fz:Hid (P.length≤140737488355328 - SS.length):=by
   have h1:=congrArg List.length HP.o_;have h3:=KQ.o_ k;have h4:=sS.o_;rw [List.length_append] at h1;show _≤_
   omega
  by_cases ao:k<ids.length
  ·have bd:(k:Int)<(ids.length:Int):=by omega
   have af9:Hid (Below w w wo):=aD zU.o_ HB.o_ zU.o_.size;obtain ⟨g,o,Da,qT⟩:=(af8.o_.below af9.o_).at k ao;subst Da;have qU:ids.take (k+1)=ids.take k++ [ids[k]]:=List.take_succ_eq_append_getElem ao;obtain ⟨x,hx⟩:=ai (ids[k]);rw [hx] at qT qU;obtain ⟨P4,mO⟩:=ai (aR (bj x) 4);have CS:IntKind.u64.wrap x=(bj x:Int):=by have:=A1 x;simpa using this
   have E_:Hid (P++P4=JJ++(ids.take (k+1)).flatMap (fun i=>aR (bj i) 4)):=by
    show _=_;rw [qU,List.flatMap_append,HP.o_,←mO];simp
   have G6:Hid (dE (bj x) 4=P4):=by show _=_;rw [←mO];rfl
   have jH:Hid (P4.length=4):=by show _=_;rw [←mO,eU]
   have WX:Hid (P.length+4≤140737488355328):=by
    have h1:=congrArg List.length E_.o_;have h3:=KQ.o_ (k+1);have h4:=sS.o_;have h5:=jH.o_;simp only [List.length_append] at h1;show _≤_
    omega
   clear hx qU mO;go_wp2_with (first
    |(go_at_call 56;go_must (refine wi (bj x) (A2 _) 4 P4 G6.o_ _ _ ?_);intro xa xc w8 yu gh;have fS:=ab (aD HB.o_ gh HB.o_.size);have kD:=ab (aK HO.o_ gh);have Db:=ab (cp yu);clear yu gh)
    |(at_builtin;go_must (refine gj (by rfl) (.tmp 43) (.tmp 46) 22 (by rfl) w4 5 (.int .u8 0) 1 1 underlying22 Tryz.cJ rfl (by decide) wZ P.length w_ _ (by rfl) kD.o_ xa P4.length xc (bv P4) (by rfl) Db.o_.parts.2.1 (eX _) Db.o_.parts.2.2.2.2 (by have:=WX.o_;have:=jH.o_;unfold maxLen;omega) (by have:=WX.o_;have:=jH.o_;omega) fS.o_.size ?_);intro eC c9 w9 cI bo _;have cx:=bC fS.o_ bo fS.o_.size kD.o_;rw [←oK] at cI;have rL:=ab cI;have ki:=ab cx;clear cI bo cx))
   have lB:=af7.o_;have pF:Value.int .i64 (wrap64 ((k:Int)+1))= .int .i64 ((k+1:Nat):Int):=by
    have:wrap64 ((k:Int)+1)=(k:Int)+1:=by unfold wrap64;omega
    rw [this];simp
   go_roundg (ids.length - (k+1))
   case measure=>omega
   case rel=>exact ⟨k+1,P++P4,eC,c9,by omega,rfl,by rw [List.length_append],pF,E_,by rw [List.length_append];exact rL,ki⟩
  ·have bd:¬(k:Int)<(ids.length:Int):=by omega
   have G7:Hid (P++SS=Y):=by
    show _=_;rw [HP.o_,List.take_of_length_le (by omega),tK.o_,KP.o_]
   have WY:=ab (px.o_.below HB.o_);have jI:Hid (Below w w wo):=aD zU.o_ HB.o_ zU.o_.size;clear jo;go_wp2_with (first
    |(at_builtin;go_must (refine gj (by rfl) (.tmp 49) (.tmp 50) 22 (by rfl) w4 5 (.int .u8 0) 1 1 underlying22 Tryz.cJ rfl (by decide) wZ P.length w_ _ (by rfl) HO.o_ ta SS.length tc (bv SS) (by rfl) WY.o_.parts.2.1 (eX _) WY.o_.parts.2.2.2.2 (by have:=fz.o_;have:=WW.o_;unfold maxLen;omega) (by have:=fz.o_;have:=WW.o_;omega) HB.o_.size ?_);intro eC c9 w9 cI bo _;have cx:=bC HB.o_ bo HB.o_.size HO.o_;rw [←oK,G7.o_] at cI;have rL:=ab cI;have ki:=ab cx;clear cI bo cx))
   have aX:P.length+SS.length=Y.length:=by rw [←G7.o_,List.length_append]
   have hr:=HR.o_ eC c9;rw [←aX] at hr;exact hr _ (bN rL.o_ zU.o_.size) (aD zU.o_ ki.o_ zU.o_.size)
end Go.Proofs.YtgimbocoamnkjaaGreatDoor
