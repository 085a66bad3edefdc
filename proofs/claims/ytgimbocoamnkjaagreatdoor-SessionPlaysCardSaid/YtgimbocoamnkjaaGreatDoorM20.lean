/- A part of the proof of SessionPlays, printed small; no conditions of its own. -/
import Derived.Test.YtgimbocoamnkjaaGreatDoorM19
set_option maxRecDepth 100000
set_option maxHeartbeats 16000000
namespace Go.Proofs.YtgimbocoamnkjaaGreatDoor
open _root_.Go.Proofs.Tryz
open List (drop_append drop_of_length_le drop_zero mem_cons_self nil_append)
open Go.RowKit
theorem ajU(Rb:Nat)(s:aF)(bY:Int)(hb:kV s bY=false)(w:World)(Ms M:Nat→Prop)(h:RR w Ms M Rb s)(qh:s.queue.length≤100000)(R:Ending→World→Prop)
 (hR:∀w',Below w w w'→R (.returned (.tuple #[(Value.agg a_),.int .i64 0,.bool false])) w'):
 Calls prog 69 #[.pointer (some ⟨Rb,0,none⟩),.int .i64 bY] w R:=by
 have HR:=ab hR;have aL:Below w w (w.alloc (Obj.cells a_ 36)):=(Below.refl _ _).alloc (Nat.le_refl _) _;have bu:=ab aL;have H0:Hid (RR (w.alloc (Obj.cells a_ 36)) Ms M Rb s):=by
  obtain ⟨sv,qv,fv,gv,hx⟩:=h;exact ⟨sv,qv,fv,gv,hx.below aL⟩
 have HN:=ab (heap_alloc_new w (Obj.cells a_ 36));have HB:=ab hb;clear hR h aL hb;go_enter func69,ntmps69;go_wp2_with (first
  |(go_at_call 83;go_must (refine Lg Rb s bY false HB.o_ _ Ms M H0.o_ qh _ ?_))
  |(refine wpList_store_row (o:=⟨none,.store 36 (.tmp 4) (.tmp 14),_,_,_,_⟩) (by rfl) 36 (.tmp 4) (.tmp 14) (by rfl) (w.heap.size) _ (by rfl) (by rfl) 36 _ (HN).o_ (by kernel_rfl) (by rfl) (by simp [Value.oneCell']) ?_))
 exact WN
theorem ajV(Rb:Nat)(s:aF)(x:Im)(rest:List Im)(hq:s.queue=x::rest)(bY:Int)(hb:kV s bY=true)(hz:x.al=0)(w:World)(Ms M:Nat→Prop)(h:RR w Ms M Rb s)(ao:∀b,Ms b→b<w.heap.size)(qh:s.queue.length≤100000)(R:Ending→World→Prop)
 (hR:∀M' pa pc qa qc ea ec w',RR w' Ms M' Rb {s with queue:=rest}→Sep M M' w w'→db w' Ms (.slice pa x.note.az.length pc,.slice qa x.note.props.length qc,.slice ea x.ids.length ec) x→
   R (.returned (.tuple #[(Value.agg (aG x pa pc qa qc ea ec)),.int .i64 0,.bool true])) w'):
 Calls prog 69 #[.pointer (some ⟨Rb,0,none⟩),.int .i64 bY] w R:=by
 obtain ⟨sv,qv,fv,gv,hx⟩:=h;have HR:=ab hR;obtain ⟨ps,aT,aq,aS⟩:=id hx.hq;obtain ⟨va,vc,rfl⟩:=aq.shape;obtain ⟨n,hn⟩:=ai s.queue.length;have dh:0<n:=by rw [←hn,hq];simp
 have yg:(0:Int)<(n:Int):=by omega
 have ot:n - 1=rest.length:=by rw [←hn,hq];simp
 rw [hn] at hx aq qh;rw [hq] at aT;obtain ⟨⟨c,y⟩,pr,rfl⟩:∃p pr,ps=p::pr:=by
  cases ps with
  |nil=>simp at aT
  |cons p pr=>exact ⟨p,pr,rfl⟩
 obtain ⟨rfl,wS⟩:y=x∧pr.map (·.2)=rest:=by simpa using aT
 obtain ⟨⟨pa,pc,wT⟩,⟨qa,qc,tQ⟩,ea,ec,wU⟩:=(aS (c,y) (mem_cons_self ..)).1.o_.shape;obtain ⟨p1,p2,p3⟩:=c;simp only at wT tQ wU;subst wT tQ wU;obtain ⟨aI,ch⟩:=hx.Cj ao a_;have aw:Below w w (w.alloc (Obj.cells a_ 36)):=(Below.refl _ _).alloc (Nat.le_refl _) _;have H1:Hid (RR (w.alloc (Obj.cells a_ 36)) Ms (fun b=>M b∨b=w.heap.size) Rb s):=⟨sv,_,fv,gv,aI⟩
 have DS:∀b,Ms b→b<(w.alloc (Obj.cells a_ 36)).heap.size:=fun b hb=>Nat.lt_of_lt_of_le (ao b hb) aw.size;obtain ⟨bn,bt⟩:=aI.Cj DS (aG y pa pc qa qc ea ec);have ah:Below (w.alloc (Obj.cells a_ 36)).heap.size (w.alloc (Obj.cells a_ 36)) ((w.alloc (Obj.cells a_ 36)).alloc (Obj.cells (aG y pa pc qa qc ea ec) 36)):=(Below.refl _ _).alloc (Nat.le_refl _) _;have ij:∀b,Ms b→b<((w.alloc (Obj.cells a_ 36)).alloc (Obj.cells (aG y pa pc qa qc ea ec) 36)).heap.size:=fun b hb=>Nat.lt_of_lt_of_le (DS b hb) ah.size;have rT:∀p∈((Value.slice pa y.note.az.length pc,Value.slice qa y.note.props.length qc,Value.slice ea y.ids.length ec),y)::pr,db ((w.alloc (Obj.cells a_ 36)).alloc (Obj.cells (aG y pa pc qa qc ea ec) 36)) Ms p.1 p.2:=fun p hp=>((aS p hp).apart hx.kd hx.lo ch).apart aI.kd aI.lo bt;have p9:=aq.below aw;have bW:=p9.below ah;obtain ⟨g,o,kK,aW,nW⟩:=p9.at dh;subst kK;obtain ⟨i,bS,_,cQ,_⟩:=info_parts sC;obtain ⟨ax,df,pA,km⟩:=bf.from (k:=1) bW underlying52 bS cQ (by omega);replace df:∀w',(Instr.slice 52 (.slice (some ⟨g,o,none⟩) n vc) (some (.int .i64 1)) none none).run prog w'= .ok (.slice ax rest.length (vc - 1)) w':=by rw [ot] at df;exact df
 rw [List.flatMap_cons,Nat.one_mul,drop_append,drop_of_length_le (by rw [my];omega),my,Nat.sub_self,drop_zero,nil_append,ot] at pA;rw [ot] at km;obtain ⟨cG,fj⟩:=RX.pop bn ij wS rT pA km;have mL:Hid (∀j,j<14→(w.alloc (Obj.cells a_ 36)).cell? ⟨g,o+j,none⟩= (aG y pa pc qa qc ea ec:List Value)[j]?):=fun j hj=>by
  exact KM
 have N2:=ab (heap_alloc_new (w.alloc (Obj.cells a_ 36)) (Obj.cells a_ 36));have c5:=aI.cells.2.2.2.2.2.1;have d5:=bn.cells.2.2.2.2.2.1;have f5:=aB bn.hS 5;have AX:(w.alloc (Obj.cells a_ 36)).heap.size=w.heap.size+1:=by simp
 have yU:Rb≠w.heap.size:=fun e=>by have:=hx.rb;omega
 have II:Rb≠(w.alloc (Obj.cells a_ 36)).heap.size:=fun e=>by have:=hx.rb;omega
 have IJ:(((w.alloc (Obj.cells a_ 36)).alloc (Obj.cells (aG y pa pc qa qc ea ec) 36)).setCell ⟨Rb,5,none⟩ (.slice ax rest.length (vc - 1))).heap[(w.alloc (Obj.cells a_ 36)).heap.size]? =some (Obj.cells (aG y pa pc qa qc ea ec) 36):=(heap_setCell_other _ _ _ _ (fun e=>II e.symm)).trans (heap_alloc_new (w.alloc (Obj.cells a_ 36)) (Obj.cells (aG y pa pc qa qc ea ec) 36));have T3:Hid ((((w.alloc (Obj.cells a_ 36)).alloc (Obj.cells (aG y pa pc qa qc ea ec) 36)).setCell ⟨Rb,5,none⟩ (.slice ax rest.length (vc - 1))).heap[w.heap.size+1]? =some (Obj.cells (aG y pa pc qa qc ea ec) 36)):=(congrArg (fun i=>(((w.alloc (Obj.cells a_ 36)).alloc (Obj.cells (aG y pa pc qa qc ea ec) 36)).setCell ⟨Rb,5,none⟩ (.slice ax rest.length (vc - 1))).heap[i]?) AX.symm).trans IJ;have N3:Hid ((((w.alloc (Obj.cells a_ 36)).alloc (Obj.cells (aG y pa pc qa qc ea ec) 36)).setCell ⟨Rb,5,none⟩ (.slice ax rest.length (vc - 1))).heap[w.heap.size]? =some (Obj.cells a_ 36)):=(heap_setCell_other _ _ _ _ (fun e=>yU e.symm)).trans (aA (heap_alloc_new w (Obj.cells a_ 36)) ah);have Dy:∀b,Ms b→b<(((w.alloc (Obj.cells a_ 36)).alloc (Obj.cells (aG y pa pc qa qc ea ec) 36)).setCell ⟨Rb,5,none⟩ (.slice ax rest.length (vc - 1))).heap.size:=fun b hb=>Nat.lt_of_lt_of_le (ij b hb) fj.size;have gY:=ab cG;have iD:=ab ((ch.trans bt).trans fj);have tR:=ab ((rT _ (mem_cons_self ..)).apart bn.kd bn.lo fj);have RB:=ab (show (Value.slice ax rest.length (vc - 1)).ownBlock≠some w.heap.size from fun e=>by
  rw [km] at e;have h1:=hx.lt _ (hx.mq _ e)
  omega)
 have RC:=ab (show sv.ownBlock≠some w.heap.size from fun e=>by
  have h1:=hx.lt _ (hx.ms _ e)
  omega)
 have rG:=ab (show fv.ownBlock≠some w.heap.size from fun e=>by
  have h1:=hx.lt _ (hx.mf _ e)
  omega)
 have Mj:=ab yU;have Mk:=ab Dy;have HB:=ab hb;have mi:Hid (s.queue.length≤100000):=by show _≤_;rw [hn];exact qh
 clear hR aT aq aS bn bt rT p9 bW pA aW nW wS hb hn hq bS cQ km cG fj yU II hx aw ah ot aI ch DS ij Dy ao IJ AX;have gw:=(sx T3.o_).2.2.2.2.1;have j2:(y.al==0)=true:=by simp [hz]
 clear hz;go_enter func69,ntmps69;go_wp2_with (first
  |(go_at_call 83;go_must (refine Lg Rb s bY true HB.o_ _ Ms _ H1.o_ mi.o_ _ ?_))
  |(refine ie (o:=⟨some 20,.load 36 (.tmp 19),_,_,_,_⟩) (by rfl) 36 (.tmp 19) (by rfl) (g) (o) (by rfl) ((aG y pa pc qa qc ea ec)) _ (mL.o_) (underlying36) (by rfl) (by kernel_rfl) ?_)
  |(refine wpList_store_row (o:=⟨none,.store 36 (.tmp 7) (.tmp 20),_,_,_,_⟩) (by rfl) 36 (.tmp 7) (.tmp 20) (by rfl) (w.alloc (Obj.cells a_ 36)).heap.size _ (by rfl) (by rfl) 36 _ N2.o_ (by kernel_rfl) (by rfl) (by simp [Value.oneCell']) ?_;rw [World.setRow_alloc_new])
  |(refine wpList_load_row (o:=⟨some 32,.load 36 (.tmp 7),_,_,_,_⟩) (by rfl) 36 (.tmp 7) (by rfl) ((w.heap.size+1)) (by rfl) 36 _ (0,0) _ (T3).o_ (underlying36) (by rfl) (by kernel_rfl) ?_)
  |(refine wpList_store_row (o:=⟨none,.store 36 (.tmp 4) (.tmp 32),_,_,_,_⟩) (by rfl) 36 (.tmp 4) (.tmp 32) (by rfl) (w.heap.size) _ (by rfl) (by rfl) 36 _ (N3).o_ (by kernel_rfl) (by rfl) (by simp [Value.oneCell']) ?_))
 have dk:=rz (((w.alloc (Obj.cells a_ 36)).alloc (Obj.cells (aG y pa pc qa qc ea ec) 36)).setCell ⟨Rb,5,none⟩ (.slice ax rest.length (vc - 1))) w.heap.size (aG y pa pc qa qc ea ec);have Fx:bA ((((w.alloc (Obj.cells a_ 36)).alloc (Obj.cells (aG y pa pc qa qc ea ec) 36)).setCell ⟨Rb,5,none⟩ (.slice ax rest.length (vc - 1))).setRow w.heap.size (aG y pa pc qa qc ea ec)) w.heap.size=bA (((w.alloc (Obj.cells a_ 36)).alloc (Obj.cells (aG y pa pc qa qc ea ec) 36)).setCell ⟨Rb,5,none⟩ (.slice ax rest.length (vc - 1))) w.heap.size:=by
  rw [jR (setRow_heap _ w.heap.size _ _ _ _ N3.o_),jR N3.o_]
 obtain ⟨oR,C_⟩:=gY.o_.inner (.inl (.inr rfl)) Mj.o_.symm RC.o_ RB.o_ rG.o_ dk Fx;refine bodyPost_ret (FV rfl _ _ w 36 _ (0,0) _ (.int .i64 0) (.bool true) rfl rfl rfl (setRow_heap _ w.heap.size _ _ _ _ N3.o_) underlying36 rfl (by kernel_rfl)) rfl ?_;exact HR.o_ _ _ _ _ _ _ _ _ ⟨sv,_,fv,gv,oR⟩ (iD.o_.trans C_) (tR.o_.apart gY.o_.kd gY.o_.lo C_)
theorem Zu{P:Prop}(h:P:=by
 have yU:=Mj.o_;have Dc:Rb≠w.heap.size+1:=fun e=>by have:=ajW.o_;omega
 have N7:Hid ((w6.setCell ⟨Rb,6,none⟩ (.slice fM (m+1) yC)).heap[w.heap.size]? =some (Obj.cells a_ 36)):=(heap_setCell_other _ _ _ _ (fun e=>yU e.symm)).trans (eG bI mK.o_ (dU mK.o_ pD.o_ (by decide)));have T7:Hid ((w6.setCell ⟨Rb,6,none⟩ (.slice fM (m+1) yC)).heap[w.heap.size+1]? =some (Obj.cells (aG y pa pc qa qc ea ec) 36)):=(heap_setCell_other _ _ _ _ (fun e=>Dc e.symm)).trans (eG bI RD.o_ (dU RD.o_ pD.o_ (by decide)));have vp:=ab fN;have G3:=ab ((iD.o_.below zj.o_).trans uY);have zS:=ab (qR.o_.apart gQ.o_.kd gQ.o_.lo uY);have ajX:=ab (Bl w.heap.size (.inl (.inr rfl)));have ajY:=ab EZ;clear fN uY EZ BR bI mM r6 e7 f7 c7 ER i0 i1 i2 i3 i4 i5 i6 i7 i8 i9 i10 i11 i12 i13 dW Bl Dc yU;generalize w6.setCell ⟨Rb,6,none⟩ (.slice fM (m+1) yC)=w7 at vp G3 zS N7 T7⊢;go_wp2_with (first
  |(refine wpList_load_row (o:=⟨some 55,.load 36 (.tmp 7),_,_,_,_⟩) (by rfl) 36 (.tmp 7) (by rfl) ((w.heap.size+1)) (by rfl) 36 _ (0,0) _ (T7).o_ (underlying36) (by rfl) (by kernel_rfl) ?_)
  |(refine wpList_store_row (o:=⟨none,.store 36 (.tmp 4) (.tmp 55),_,_,_,_⟩) (by rfl) 36 (.tmp 4) (.tmp 55) (by rfl) (w.heap.size) _ (by rfl) (by rfl) 36 _ (N7).o_ (by kernel_rfl) (by rfl) (by simp [Value.oneCell']) ?_))
 have dk:=rz w7 w.heap.size (aG y pa pc qa qc ea ec);have Fx:bA (w7.setRow w.heap.size (aG y pa pc qa qc ea ec)) w.heap.size=bA w7 w.heap.size:=by
  rw [jR (setRow_heap _ w.heap.size _ _ _ _ N7.o_),jR N7.o_]
 obtain ⟨oR,C_⟩:=vp.o_.inner ajX.o_ Mj.o_.symm RC.o_ RB.o_ ajY.o_ dk Fx;refine bodyPost_ret (FV rfl _ _ w 36 _ (0,0) _ (.int .i64 d) (.bool true) rfl rfl rfl (setRow_heap _ w.heap.size _ _ _ _ N7.o_) underlying36 rfl (by kernel_rfl)) rfl ?_;refine HR.o_ _ _ _ _ _ _ _ _ (by rw [fy.o_];exact ⟨sv,_,_,gv,oR⟩) (G3.o_.trans C_) (zS.o_.apart vp.o_.kd vp.o_.lo C_)):P:=h
theorem ajZ(Rb:Nat)(s:aF)(x:Im)(rest:List Im)(hq:s.queue=x::rest)(bY:Int)(hb:kV s bY=true)(hz:x.al=1∨x.al=2)(d:Nat)(h1:1≤d)(h2:d≤65535)(hc:cV (fun f:Fl=>f.id==(d:Int)) s.aj= -1)(iW:∀j:Nat,1≤j→j<d→0≤cV (fun f:Fl=>f.id==(j:Int)) s.aj)(pC:s.aj.length≤100000)
 (w:World) (Ms M:Nat→Prop) (h:RR w Ms M Rb s) (ao:∀b,Ms b→b<w.heap.size) (qh:s.queue.length≤100000) (R:Ending→World→Prop)
 (hR:∀M' pa pc qa qc ea ec w',RR w' Ms M' Rb {s with queue:=rest,aj:=s.aj++ [⟨d,x.al,x⟩]}→Sep M M' w w'→db w' Ms (.slice pa x.note.az.length pc,.slice qa x.note.props.length qc,.slice ea x.ids.length ec) x→
   R (.returned (.tuple #[(Value.agg (aG x pa pc qa qc ea ec)),.int .i64 d,.bool true])) w'):
 Calls prog 69 #[.pointer (some ⟨Rb,0,none⟩),.int .i64 bY] w R:=by
 have ajW:Hid (Rb<w.heap.size):=by
  obtain ⟨sv,qv,fv,gv,hx⟩:=h;exact hx.rb
 obtain ⟨sv,qv,fv,gv,hx⟩:=h;have HR:=ab hR;obtain ⟨ps,aT,aq,aS⟩:=id hx.hq;obtain ⟨va,vc,rfl⟩:=aq.shape;obtain ⟨n,hn⟩:=ai s.queue.length;have dh:0<n:=by rw [←hn,hq];simp
 have yg:(0:Int)<(n:Int):=by omega
 have ot:n - 1=rest.length:=by rw [←hn,hq];simp
 rw [hn] at hx aq qh;rw [hq] at aT;obtain ⟨⟨c,y⟩,pr,rfl⟩:∃p pr,ps=p::pr:=by
  cases ps with
  |nil=>simp at aT
  |cons p pr=>exact ⟨p,pr,rfl⟩
 obtain ⟨rfl,wS⟩:y=x∧pr.map (·.2)=rest:=by simpa using aT
 obtain ⟨⟨pa,pc,wT⟩,⟨qa,qc,tQ⟩,ea,ec,wU⟩:=(aS (c,y) (mem_cons_self ..)).1.o_.shape;obtain ⟨p1,p2,p3⟩:=c;simp only at wT tQ wU;subst wT tQ wU;obtain ⟨aI,ch⟩:=hx.Cj ao a_;have aw:Below w w (w.alloc (Obj.cells a_ 36)):=(Below.refl _ _).alloc (Nat.le_refl _) _;have H1:Hid (RR (w.alloc (Obj.cells a_ 36)) Ms (fun b=>M b∨b=w.heap.size) Rb s):=⟨sv,_,fv,gv,aI⟩
 have DS:∀b,Ms b→b<(w.alloc (Obj.cells a_ 36)).heap.size:=fun b hb=>Nat.lt_of_lt_of_le (ao b hb) aw.size;obtain ⟨bn,bt⟩:=aI.Cj DS (aG y pa pc qa qc ea ec);have ah:Below (w.alloc (Obj.cells a_ 36)).heap.size (w.alloc (Obj.cells a_ 36)) ((w.alloc (Obj.cells a_ 36)).alloc (Obj.cells (aG y pa pc qa qc ea ec) 36)):=(Below.refl _ _).alloc (Nat.le_refl _) _;have ij:∀b,Ms b→b<((w.alloc (Obj.cells a_ 36)).alloc (Obj.cells (aG y pa pc qa qc ea ec) 36)).heap.size:=fun b hb=>Nat.lt_of_lt_of_le (DS b hb) ah.size;have rT:∀p∈((Value.slice pa y.note.az.length pc,Value.slice qa y.note.props.length qc,Value.slice ea y.ids.length ec),y)::pr,db ((w.alloc (Obj.cells a_ 36)).alloc (Obj.cells (aG y pa pc qa qc ea ec) 36)) Ms p.1 p.2:=fun p hp=>((aS p hp).apart hx.kd hx.lo ch).apart aI.kd aI.lo bt;have p9:=aq.below aw;have bW:=p9.below ah;obtain ⟨g,o,kK,aW,nW⟩:=p9.at dh;subst kK;obtain ⟨i,bS,_,cQ,_⟩:=info_parts sC;obtain ⟨ax,df,pA,km⟩:=bf.from (k:=1) bW underlying52 bS cQ (by omega);replace df:∀w',(Instr.slice 52 (.slice (some ⟨g,o,none⟩) n vc) (some (.int .i64 1)) none none).run prog w'= .ok (.slice ax rest.length (vc - 1)) w':=by rw [ot] at df;exact df
 rw [List.flatMap_cons,Nat.one_mul,drop_append,drop_of_length_le (by rw [my];omega),my,Nat.sub_self,drop_zero,nil_append,ot] at pA;rw [ot] at km;obtain ⟨cG,fj⟩:=RX.pop bn ij wS rT pA km;have mL:Hid (∀j,j<14→(w.alloc (Obj.cells a_ 36)).cell? ⟨g,o+j,none⟩= (aG y pa pc qa qc ea ec:List Value)[j]?):=fun j hj=>by
  exact KM
 have N2:=ab (heap_alloc_new (w.alloc (Obj.cells a_ 36)) (Obj.cells a_ 36));have c5:=aI.cells.2.2.2.2.2.1;have d5:=bn.cells.2.2.2.2.2.1;have f5:=aB bn.hS 5;have AX:(w.alloc (Obj.cells a_ 36)).heap.size=w.heap.size+1:=by simp
 have yU:Rb≠w.heap.size:=fun e=>by have:=hx.rb;omega
 have II:Rb≠(w.alloc (Obj.cells a_ 36)).heap.size:=fun e=>by have:=hx.rb;omega
 have IJ:(((w.alloc (Obj.cells a_ 36)).alloc (Obj.cells (aG y pa pc qa qc ea ec) 36)).setCell ⟨Rb,5,none⟩ (.slice ax rest.length (vc - 1))).heap[(w.alloc (Obj.cells a_ 36)).heap.size]? =some (Obj.cells (aG y pa pc qa qc ea ec) 36):=(heap_setCell_other _ _ _ _ (fun e=>II e.symm)).trans (heap_alloc_new (w.alloc (Obj.cells a_ 36)) (Obj.cells (aG y pa pc qa qc ea ec) 36));have T3:Hid ((((w.alloc (Obj.cells a_ 36)).alloc (Obj.cells (aG y pa pc qa qc ea ec) 36)).setCell ⟨Rb,5,none⟩ (.slice ax rest.length (vc - 1))).heap[w.heap.size+1]? =some (Obj.cells (aG y pa pc qa qc ea ec) 36)):=(congrArg (fun i=>(((w.alloc (Obj.cells a_ 36)).alloc (Obj.cells (aG y pa pc qa qc ea ec) 36)).setCell ⟨Rb,5,none⟩ (.slice ax rest.length (vc - 1))).heap[i]?) AX.symm).trans IJ;have N3:Hid ((((w.alloc (Obj.cells a_ 36)).alloc (Obj.cells (aG y pa pc qa qc ea ec) 36)).setCell ⟨Rb,5,none⟩ (.slice ax rest.length (vc - 1))).heap[w.heap.size]? =some (Obj.cells a_ 36)):=(heap_setCell_other _ _ _ _ (fun e=>yU e.symm)).trans (aA (heap_alloc_new w (Obj.cells a_ 36)) ah);have Dy:∀b,Ms b→b<(((w.alloc (Obj.cells a_ 36)).alloc (Obj.cells (aG y pa pc qa qc ea ec) 36)).setCell ⟨Rb,5,none⟩ (.slice ax rest.length (vc - 1))).heap.size:=fun b hb=>Nat.lt_of_lt_of_le (ij b hb) fj.size;have gY:=ab cG;have iD:=ab ((ch.trans bt).trans fj);have tR:=ab ((rT _ (mem_cons_self ..)).apart bn.kd bn.lo fj);have RB:=ab (show (Value.slice ax rest.length (vc - 1)).ownBlock≠some w.heap.size from fun e=>by
  rw [km] at e;have h1:=hx.lt _ (hx.mq _ e)
  omega)
 have RC:=ab (show sv.ownBlock≠some w.heap.size from fun e=>by
  have h1:=hx.lt _ (hx.ms _ e)
  omega)
 have rG:=ab (show fv.ownBlock≠some w.heap.size from fun e=>by
  have h1:=hx.lt _ (hx.mf _ e)
  omega)
 have Mj:=ab yU;have Mk:=ab Dy;have HB:=ab hb;have mi:Hid (s.queue.length≤100000):=by show _≤_;rw [hn];exact qh
 clear hR aT aq aS bn bt rT p9 bW pA aW nW wS hb hn hq bS cQ km cG fj yU II hx aw ah ot aI ch DS ij Dy ao IJ AX;have yB:=ab hc;have EY:=ab iW;have HQ:=ab hz;have zW:=ab pC;have gw:=(sx T3.o_).2.2.2.2.1;have j2:(y.al==0)=false:=by
  rcases hz with h|h<;>simp [h]
 clear hc iW hz;go_enter func69,ntmps69;go_wp2_with (first
  |(go_at_call 83;go_must (refine Lg Rb s bY true HB.o_ _ Ms _ H1.o_ mi.o_ _ ?_))
  |(refine ie (o:=⟨some 20,.load 36 (.tmp 19),_,_,_,_⟩) (by rfl) 36 (.tmp 19) (by rfl) (g) (o) (by rfl) ((aG y pa pc qa qc ea ec)) _ (mL.o_) (underlying36) (by rfl) (by kernel_rfl) ?_)
  |(refine wpList_store_row (o:=⟨none,.store 36 (.tmp 7) (.tmp 20),_,_,_,_⟩) (by rfl) 36 (.tmp 7) (.tmp 20) (by rfl) (w.alloc (Obj.cells a_ 36)).heap.size _ (by rfl) (by rfl) 36 _ N2.o_ (by kernel_rfl) (by rfl) (by simp [Value.oneCell']) ?_;rw [World.setRow_alloc_new]))
 clear H1 mL N2 c5 d5 f5 df;generalize ((w.alloc (Obj.cells a_ 36)).alloc (Obj.cells (aG y pa pc qa qc ea ec) 36)).setCell ⟨Rb,5,none⟩ (.slice ax rest.length (vc - 1))=w3 at gY iD tR N3 T3 Mk gw⊢;have H3:Hid (RR w3 Ms (fun b=>(M b∨b=w.heap.size)∨b=(w.alloc (Obj.cells a_ 36)).heap.size) Rb {s with queue:=rest}):=⟨sv,_,fv,gv,gY.o_⟩
 go_loopg [8] (d - 1) (fun gn i wr=>∃k:Nat,1≤k∧k≤d∧gn=d - k∧i= .int .i64 k∧wr=w3)
 case atStart=>exact ⟨1,Nat.le_refl _,h1,rfl,rfl,rfl⟩
 case round=>
  obtain ⟨k,ib,hk,rfl,rfl,rfl⟩:=hrel;by_cases PR:k<d
  ·obtain ⟨z,hz⟩:∃z,cV (fun f:Fl=>f.id==(k:Int)) s.aj=z:=⟨_,rfl⟩
   have cm:0≤z:=by
    rw [←hz];exact EY.o_ k ib PR
   have HZ:=ab hz;clear hz;go_wp2_with (first
    |(go_at_call 125;go_must (refine yJ Rb {s with queue:=rest} k z HZ.o_ zW.o_ _ Ms _ H3.o_ _ ?_)))
   go_roundg (d - (k+1))
   case measure=>omega
   case rel=>exact ⟨k+1,by omega,by omega,rfl,by go_num,rfl⟩
  ·obtain rfl:d=k:=by omega
   rcases HQ.o_ with lV|lV
   ·have b7:(y.al != 1)=false:=by simp [lV]
    have ep:=ab lV;clear lV;go_wp2_with (first
     |(go_at_call 125;go_must (refine yJ Rb {s with queue:=rest} d (-1) yB.o_ zW.o_ _ Ms _ H3.o_ _ ?_)))
    have fy:Hid (s.aj++ [(⟨d,y.al,y⟩:Fl)]=s.aj++ [⟨d,1,y⟩]):=by
     show _=_;rw [ep.o_]
    go_wp2_with fail;have IK:=ab (gY.o_.below (Below.refl wr wr).drew);have dW:Below wr.drew.heap.size wr.drew (wr.drew.alloc (Obj.cells (cD (d:Int) 1 y pa pc qa qc ea ec) 51)):=(Below.refl _ _).alloc (Nat.le_refl _) _;have gQ:=ab (IK.o_.below dW);have xF:Below wr wr (wr.drew.alloc (Obj.cells (cD (d:Int) 1 y pa pc qa qc ea ec) 51)):=dw (Below.refl wr wr).drew dW;have mK:Hid ((wr.drew.alloc (Obj.cells (cD (d:Int) 1 y pa pc qa qc ea ec) 51)).heap[w.heap.size]? =some (Obj.cells a_ 36)):=aA N3.o_ xF;have RD:Hid ((wr.drew.alloc (Obj.cells (cD (d:Int) 1 y pa pc qa qc ea ec) 51)).heap[w.heap.size+1]? =some (Obj.cells (aG y pa pc qa qc ea ec) 36)):=aA T3.o_ xF;have rU:db (wr.drew.alloc (Obj.cells (cD (d:Int) 1 y pa pc qa qc ea ec) 51)) Ms (.slice pa y.note.az.length pc,.slice qa y.note.props.length qc,.slice ea y.ids.length ec) y:=(tR.o_.sep (.cU (Below.refl wr wr).drew)).sep (.cU dW);have qR:=ab rU;have Fe:Hid (∀b,Ms b→b<(wr.drew.alloc (Obj.cells (cD (d:Int) 1 y pa pc qa qc ea ec) 51)).heap.size):=ab (fun b hb=>Nat.lt_of_lt_of_le (Mk.o_ b hb) xF.size);have zj:=ab xF;obtain ⟨fQ,jG,fx,kL⟩:=gQ.o_.hf;obtain ⟨m,hm⟩:=ai s.aj.length;obtain ⟨fa,fc,mD⟩:∃a c,fv= .slice a m c:=by
     rw [←hm];exact bF fx
    subst mD;have vj:({s with queue:=rest}:aF).aj.length=m:=hm;rw [hm] at pC;rw [vj] at fx;have HM:=ab hm;have wV:=ab jG;have pD:=ab fx;have vk:=ab kL;have c7:wr.drew.cell? ⟨Rb,6,none⟩=some (.slice fa m fc):=IK.o_.cells.2.2.2.2.2.2.1;have ER:(wr.alloc (Obj.cells (cD (d:Int) 1 y pa pc qa qc ea ec) 51)).drew.cell? ⟨Rb,6,none⟩=some (.slice fa m fc):=cell_later dW c7;have IM:wr.drew.heap[w.heap.size+1]? =some (Obj.cells (aG y pa pc qa qc ea ec) 36):=T3.o_;obtain ⟨⟨i0,i1,i2,i3,i4,i5,i6⟩,i7,i8,i9,i10,i11,i12,i13⟩:=sx (w:=wr.drew) IM;clear jG fx kL hm rU vj gw xF IM;go_region_law (first
     |(refine Zs (by rfl) (.tmp 46) (.tmp 51) 48 (by rfl) 0 51 (Value.agg lT) 16 200 underlying48 x_ rfl (by decide) (.slice fa m fc) m _ (by rfl) pD.o_ wr 1 1 (cD (d:Int) 1 y pa pc qa qc ea ec) (by rfl) (cO wr.drew (cD (d:Int) 1 y pa pc qa qc ea ec) 51 16 1 rfl) (KN _ _ _ _ _ _ _) (by unfold maxLen;omega) (by omega) (Nat.zero_le _) (by decide) ?_;intro fM yC w6 mM BR;have bI:=BR.grown;have r6:=eG bI gQ.o_.hS (dU gQ.o_.hS pD.o_ (by decide));have e7:=af w6 Rb 6 _ _ _ r6;have f7:=aB r6 6))
    all_goals
     have EZ:(Value.slice fM (m+1) yC).ownBlock≠some w.heap.size:=fun hk=>by
      rcases BR with ⟨b,n1,n2,c1,q1,q2,_⟩|⟨⟨k,q1,q2⟩,_⟩
      ·rw [q2] at hk;rw [q1] at rG;exact rG.o_ hk
      ·rw [q1] at hk;have h1:=Option.some.inj hk;have h2:wr.heap.size≤(wr.alloc (Obj.cells (cD (d:Int) 1 y pa pc qa qc ea ec) 51)).drew.heap.size:=zj.o_.size;have h3:=(Array.getElem?_eq_some_iff.1 N3.o_).1
       omega
     obtain ⟨M7,fN,uY,Bl⟩:=RX.qN (fs:=s.aj++ [⟨d,1,y⟩]) (ps:=fQ++ [((.slice pa y.note.az.length pc,.slice qa y.note.props.length qc,.slice ea y.ids.length ec),⟨d,1,y⟩)]) gQ.o_ Fe.o_ (by rw [List.map_append,wV.o_];rfl) (fun p hp=>by
      rcases List.mem_append.1 hp with hp|hp
      ·exact vk.o_ p hp
      ·obtain rfl:=List.mem_singleton.1 hp;exact qR.o_) (by rw [List.flatMap_append,List.length_append,HM.o_];exact mM) BR
     exact Zu
   ·have b7:(y.al != 1)=true:=by simp [lV]
    have ep:=ab lV;clear lV;go_wp2_with (first
     |(go_at_call 125;go_must (refine yJ Rb {s with queue:=rest} d (-1) yB.o_ zW.o_ _ Ms _ H3.o_ _ ?_)))
    have fy:Hid (s.aj++ [(⟨d,y.al,y⟩:Fl)]=s.aj++ [⟨d,2,y⟩]):=by
     show _=_;rw [ep.o_]
    go_wp2_with fail;have IK:=ab (gY.o_.below (Below.refl wr wr).drew);have dW:Below wr.drew.heap.size wr.drew (wr.drew.alloc (Obj.cells (cD (d:Int) 2 y pa pc qa qc ea ec) 51)):=(Below.refl _ _).alloc (Nat.le_refl _) _;have gQ:=ab (IK.o_.below dW);have xF:Below wr wr (wr.drew.alloc (Obj.cells (cD (d:Int) 2 y pa pc qa qc ea ec) 51)):=dw (Below.refl wr wr).drew dW;have mK:Hid ((wr.drew.alloc (Obj.cells (cD (d:Int) 2 y pa pc qa qc ea ec) 51)).heap[w.heap.size]? =some (Obj.cells a_ 36)):=aA N3.o_ xF;have RD:Hid ((wr.drew.alloc (Obj.cells (cD (d:Int) 2 y pa pc qa qc ea ec) 51)).heap[w.heap.size+1]? =some (Obj.cells (aG y pa pc qa qc ea ec) 36)):=aA T3.o_ xF;have rU:db (wr.drew.alloc (Obj.cells (cD (d:Int) 2 y pa pc qa qc ea ec) 51)) Ms (.slice pa y.note.az.length pc,.slice qa y.note.props.length qc,.slice ea y.ids.length ec) y:=(tR.o_.sep (.cU (Below.refl wr wr).drew)).sep (.cU dW);have qR:=ab rU;have Fe:Hid (∀b,Ms b→b<(wr.drew.alloc (Obj.cells (cD (d:Int) 2 y pa pc qa qc ea ec) 51)).heap.size):=ab (fun b hb=>Nat.lt_of_lt_of_le (Mk.o_ b hb) xF.size);have zj:=ab xF;obtain ⟨fQ,jG,fx,kL⟩:=gQ.o_.hf;obtain ⟨m,hm⟩:=ai s.aj.length;obtain ⟨fa,fc,mD⟩:∃a c,fv= .slice a m c:=by
     rw [←hm];exact bF fx
    subst mD;have vj:({s with queue:=rest}:aF).aj.length=m:=hm;rw [hm] at pC;rw [vj] at fx;have HM:=ab hm;have wV:=ab jG;have pD:=ab fx;have vk:=ab kL;have c7:wr.drew.cell? ⟨Rb,6,none⟩=some (.slice fa m fc):=IK.o_.cells.2.2.2.2.2.2.1;have ER:(wr.alloc (Obj.cells (cD (d:Int) 2 y pa pc qa qc ea ec) 51)).drew.cell? ⟨Rb,6,none⟩=some (.slice fa m fc):=cell_later dW c7;have IM:wr.drew.heap[w.heap.size+1]? =some (Obj.cells (aG y pa pc qa qc ea ec) 36):=T3.o_;obtain ⟨⟨i0,i1,i2,i3,i4,i5,i6⟩,i7,i8,i9,i10,i11,i12,i13⟩:=sx (w:=wr.drew) IM;clear jG fx kL hm rU vj gw xF IM;go_region_law (first
     |(refine Zs (by rfl) (.tmp 46) (.tmp 51) 48 (by rfl) 0 51 (Value.agg lT) 16 200 underlying48 x_ rfl (by decide) (.slice fa m fc) m _ (by rfl) pD.o_ wr 1 1 (cD (d:Int) 2 y pa pc qa qc ea ec) (by rfl) (cO wr.drew (cD (d:Int) 2 y pa pc qa qc ea ec) 51 16 1 rfl) (KN _ _ _ _ _ _ _) (by unfold maxLen;omega) (by omega) (Nat.zero_le _) (by decide) ?_;intro fM yC w6 mM BR;have bI:=BR.grown;have r6:=eG bI gQ.o_.hS (dU gQ.o_.hS pD.o_ (by decide));have e7:=af w6 Rb 6 _ _ _ r6;have f7:=aB r6 6))
    all_goals
     have EZ:(Value.slice fM (m+1) yC).ownBlock≠some w.heap.size:=fun hk=>by
      rcases BR with ⟨b,n1,n2,c1,q1,q2,_⟩|⟨⟨k,q1,q2⟩,_⟩
      ·rw [q2] at hk;rw [q1] at rG;exact rG.o_ hk
      ·rw [q1] at hk;have h1:=Option.some.inj hk;have h2:wr.heap.size≤(wr.alloc (Obj.cells (cD (d:Int) 2 y pa pc qa qc ea ec) 51)).drew.heap.size:=zj.o_.size;have h3:=(Array.getElem?_eq_some_iff.1 N3.o_).1
       omega
     obtain ⟨M7,fN,uY,Bl⟩:=RX.qN (fs:=s.aj++ [⟨d,2,y⟩]) (ps:=fQ++ [((.slice pa y.note.az.length pc,.slice qa y.note.props.length qc,.slice ea y.ids.length ec),⟨d,2,y⟩)]) gQ.o_ Fe.o_ (by rw [List.map_append,wV.o_];rfl) (fun p hp=>by
      rcases List.mem_append.1 hp with hp|hp
      ·exact vk.o_ p hp
      ·obtain rfl:=List.mem_singleton.1 hp;exact qR.o_) (by rw [List.flatMap_append,List.length_append,HM.o_];exact mM) BR
     exact Zu
open List (getElem_take)
open Nat (add_zero div_lt_of_lt_mul mod_lt mul_comm succ_mul zero_add)
variable{xs:List Value}{C e g k n:Nat}{M:Nat→Prop}{w:World}
theorem bf.put{α:Type}{o c:Nat}(f:α→List Value)(hf:∀x,(f x).length=C)(hC:0<C){ps:List α}(hn:ps.length=n)(hk:k<n)(h:bf w e C (.slice (some ⟨g,o,none⟩) n c) n (ps.flatMap f))(p:α):
 bf (w.setCells g (o+k*C) (f p)) e C (.slice (some ⟨g,o,none⟩) n c) n ((ps.set k p).flatMap f):=by
 subst hn;have aX:(ps.set k p).length=ps.length:=by simp
 refine ⟨by rw [eS C f hf,aX],?_⟩;rcases h.2 with ⟨hv,h0⟩|⟨g',o',c',cur,dO,hg,e1,e2,e3,e4⟩
 ·cases hv
 ·simp only [Value.slice.injEq,Option.some.injEq,Addr.mk.injEq] at dO;obtain ⟨⟨rfl,rfl,-⟩,-,rfl⟩:=dO;obtain ⟨jg,m1,m2,m3⟩:=nT g e (f p) (o+k*C) w cur hg;refine .inr ⟨g,o,c,jg,rfl,m1,e1,e2,by rw [m2];exact e3,fun j hj=> ?_⟩;have hr:j % C<C:=mod_lt _ hC;have kj:j / C*C+j % C=j:=by rw [mul_comm];exact Nat.div_add_mod j C
  have hi:j / C<ps.length:=div_lt_of_lt_mul (by rw [mul_comm];exact hj);have hs:=jQ C f hf (ps.set k p) (j / C) (j % C) (by simpa using hi) hr;have ho:=jQ C f hf ps (j / C) (j % C) hi hr;rw [kj] at hs ho;have gy:ps.length*C≤c*C:=Nat.mul_le_mul_right _ e1;rw [m3,hs,hf];by_cases tD:j / C=k
  ·have kJ:(ps.set k p)[j / C]'(by simpa using hi)=p:=by simp [tD]
   rw [kJ];rw [tD] at kj;rw [if_pos (by omega),show o+j - (o+k*C)=j % C by omega]
  ·have kJ:(ps.set k p)[j / C]'(by simpa using hi)=ps[j / C]:=by
    rw [List.getElem_set,if_neg (fun e=>tD e.symm)]
   rw [kJ,←ho,←e4 j hj];rw [if_neg];rintro ⟨q1,q2,_⟩;apply tD;have h1:k*C≤j:=by omega
   have h2:j<k*C+C:=by omega
   exact Nat.div_eq_of_lt_le h1 (by rw [succ_mul];exact h2)
theorem bf.front{o c:Nat}{zs:List Value}(h:bf w e C (.slice (some ⟨g,o,none⟩) n c) n xs)(hk:k≤n):bf (w.setCells g (o+k*C) zs) e C (.slice (some ⟨g,o,none⟩) k c) k (xs.take (k*C)):=by
 have gy:k*C≤n*C:=Nat.mul_le_mul_right _ hk;refine ⟨by rw [List.length_take,h.1];omega,?_⟩;rcases h.2 with ⟨hv,h0⟩|⟨g',o',c',cur,dO,hg,e1,e2,e3,e4⟩
 ·cases hv
 ·simp only [Value.slice.injEq,Option.some.injEq,Addr.mk.injEq] at dO;obtain ⟨⟨rfl,rfl,-⟩,-,rfl⟩:=dO;obtain ⟨jg,m1,m2,m3⟩:=nT g e zs (o+k*C) w cur hg;refine .inr ⟨g,o,c,jg,rfl,m1,by omega,e2,by rw [m2];exact e3,fun j hj=> ?_⟩;rw [m3,if_neg (by omega),e4 j (by omega),List.getElem?_take,if_pos hj]
theorem aj0{P:Program}(w:World)(n:Nat)(hn:0<n)(t e ty:TypeId)(z:Value)(cs:Array Value)(ht:P.underlying t=some (.slice e))(hv:∀w,(zeroValue e).run P w= .ok z w)(hz:z.cells=cs)(h1:∀v∈(Builtin.zeroCells cs n).toList,v.oneCell'=true)(b o c:Nat)
 (hc:∀j,j<(Builtin.zeroCells cs n).toList.length→(w.cell? ⟨b,o+j,none⟩).isSome=true) (hf:∀j,j<(Builtin.zeroCells cs n).toList.length→w.frozen? ⟨b,o+j,none⟩=false):
 (Builtin.clear_ #[t] ty #[.slice (some ⟨b,o,none⟩) n c]).run P w= .ok (.tuple #[]) (w.setCells b o (Builtin.zeroCells cs n).toList):=by
 have b7:=run_storeCells_cells (P:=P) b o (Builtin.zeroCells cs n).toList 0 w (by simpa using hc) (by simpa using hf) h1;simp only [add_zero] at b7;obtain ⟨k,rfl⟩:∃k,n=k+1:=⟨n - 1,by omega⟩
 simp [Builtin.clear_,run_underlying ht,hv,hz,b7]
theorem aj1(w:World):(zeroValue 36).run prog w= .ok (Value.agg a_) w:=by kernel_rfl
theorem aj2(n:Nat):∀v∈(Builtin.zeroCells a_ n).toList,v.oneCell'=true:=by
 intro v hv;simp only [Builtin.zeroCells,Array.toList_map,List.mem_map] at hv;obtain ⟨i,_,rfl⟩:=hv;have hi:i % (a_:Array Value).size<14:=mod_lt _ (by decide);generalize i % (a_:Array Value).size=k at hi
 match k,hi with
 |0,_|1,_|2,_|3,_|4,_|5,_|6,_|7,_|8,_|9,_|10,_|11,_|12,_|13,_=>rfl
theorem Ml(N:Nat)(now:Int)(x:Im)(pa qa ea:Option Addr)(pc qc ec:Nat)(b:Bool)(hb:ml x.note.aN now=b)(w:World)(hN:w.cell? ⟨N,0,none⟩=some (.int .i64 now))(R:Ending→World→Prop)
 (hR:∀w',Below w w w'→R (.returned (.bool b)) w'):
 Calls prog 131 #[.agg (aG x pa pc qa qc ea ec),.pointer (some ⟨N,0,none⟩)] w R:=by
 have HR:=ab hR;have cK:=ab hb;have aw:Below w w (w.alloc (Obj.cells (aG x pa pc qa qc ea ec) 36)):=(Below.refl _ _).alloc (Nat.le_refl _) _;have hT:=heap_alloc_new w (Obj.cells (aG x pa pc qa qc ea ec) 36);have Aa:Hid (∀j,j<10→(w.alloc (Obj.cells (aG x pa pc qa qc ea ec) 36)).cell? ⟨w.heap.size,0+j,none⟩= (nR x.note pa pc qa qc:List Value)[j]?):=ab (fun j hj=>by
  rw [zero_add,af _ w.heap.size j _ _ _ hT]
  match j,hj with
  |0,_|1,_|2,_|3,_|4,_|5,_|6,_|7,_|8,_|9,_=>rfl)
 have cN:=cell_later aw hN;have bP:=ab aw;clear hR hb aw hT hN;go_enter func131,ntmps131;go_wp2_with (first
  |(refine ie (o:=⟨some 5,.load 34 (.tmp 4),_,_,_,_⟩) (by rfl) 34 (.tmp 4) (by rfl) (w.heap.size) (0) (by rfl) ((nR x.note pa pc qa qc)) _ (Aa.o_) (underlying34) (by rfl) (by kernel_rfl) ?_)
  |(go_at_call 132;go_must (refine ag6 _ _ _ _ _ _ _ _ _ x.note.aN now b cK.o_ _ _ ?_);intro w2 ah;have aY:=ab (aD bP.o_ ah bP.o_.size);clear ah))
 exact HR.o_ _ aY.o_
def RE(p:V3×Im):Prop:=∃pa pc qa qc ea ec,p.1=(Value.slice pa p.2.note.az.length pc,Value.slice qa p.2.note.props.length qc,Value.slice ea p.2.ids.length ec)
theorem db.aj3{p:V3×Im}(h:db w M p.1 p.2):RE p:=by
 obtain ⟨⟨pa,pc,e1⟩,⟨qa,qc,e2⟩,ea,ec,e3⟩:=h.1.o_.shape;exact ⟨pa,pc,qa,qc,ea,ec,by rw [←e1,←e2,←e3]⟩
theorem Zv(ps:List (V3×Im))(n:Nat)(hn:ps.length=n)(ad:Option Addr)(c N:Nat)(now:Int)(z:Int)(hz:cV (fun p:V3×Im=>ml p.2.note.aN now) ps=z)(hl:n≤100000)(w:World)(hr:bf w 36 14 (.slice ad n c) n (ps.flatMap cL))(uS:∀p∈ps,RE p)
 (hN:w.cell? ⟨N,0,none⟩=some (.int .i64 now)) (R:Ending→World→Prop)
 (hR:∀w',Below w w w'→R (.returned (.int .i64 z)) w'):
 Calls prog 162 #[.slice ad n c,.func (.func 131) #[] #[.pointer (some ⟨N,0,none⟩)]] w R:=by
 have HR:=ab hR;have aU:=ab hr;have HZ:=ab hz;have IN:=ab uS;have HN:=ab hN;have HL:=ab hn;clear hR hr hz uS hN hn;go_enter func162,ntmps162;go_wp2;go_loopg [5,8] n (fun gn _ i wr=>∃k:Nat,k≤n∧gn=n - k∧i= .int .i64 k∧Hid (Below w w wr)∧Hid (∀(j:Nat)(hj:j<k)(h:j<ps.length),ml (ps[j]).2.note.aN now=false))
 case atStart=>exact ⟨0,Nat.zero_le _,by omega,rfl,ab (Below.refl _ _),fun j hj=>by omega⟩
 case round=>
  obtain ⟨k,hk,rfl,rfl,HB,HS⟩:=hrel;obtain ⟨wo,rfl⟩:∃x,x=wr:=⟨_,rfl⟩
  by_cases ao:k<n
  ·have bd:(k:Int)<(n:Int):=by omega
   have dM:k<ps.length:=by have:=HL.o_;omega
   have aV:=aU.o_.below HB.o_;obtain ⟨g,o,td,aW,_⟩:=aV.at (by omega);subst td;have dI:=fun j (hj:j<14)=>(by rw [Nat.add_assoc,aW (k*14+j) (by omega),jQ 14 cL my ps k j dM hj]:wo.cell? ⟨g,o+k*14+j,none⟩=(cL ps[k])[j]?)
   have IP:=IN.o_ _ (List.getElem_mem dM);have HP:Hid (∀b,ml (ps[k]).2.note.aN now=b→(b=true→z=(k:Int))∧(b=false→∀(j:Nat)(hj:j<k+1)(h:j<ps.length),ml (ps[j]).2.note.aN now=false)):=by
    rintro b hb;refine ⟨fun e=> ?_,fun e j hj h=> ?_⟩
    ·rw [←HZ.o_];exact Ck dM (hb.trans e) (fun j hj=>HS.o_ j hj (by omega))
    ·by_cases e2:j=k
     ·subst e2;exact hb.trans e
     ·exact HS.o_ j (by omega) h
   obtain ⟨⟨⟨v1,v2,v3⟩,x⟩,iM⟩:∃p,ps[k]=p:=⟨_,rfl⟩
   rw [iM] at dI HP IP;obtain ⟨pa,pc,qa,qc,ea,ec,e⟩:=IP;simp only [Prod.mk.injEq] at e;obtain ⟨rfl,rfl,rfl⟩:=e;have HC:Hid (∀j,j<14→wo.cell? ⟨g,o+k*14+j,none⟩= (aG x pa pc qa qc ea ec:List Value)[j]?):=dI;obtain ⟨b,hb⟩:=ai (ml x.note.aN now);have fU:=ab (HP.o_ b hb);have cK:=ab hb;have Zw:Hid (wo.cell? ⟨N,0,none⟩=some (.int .i64 now)):=cell_later HB.o_ HN.o_;clear aV aW dI HP hb iM HS;cases b with
   |true=>
    obtain rfl:=fU.o_.1 rfl;clear fU;go_wp2_with (first
     |(refine ie (o:=⟨some 15,.load 36 (.tmp 14),_,_,_,_⟩) (by rfl) 36 (.tmp 14) (by rfl) (g) ((o+k*14)) (by rfl) ((aG x pa pc qa qc ea ec)) _ (HC.o_) (underlying36) (by rfl) (by kernel_rfl) ?_)
     |(go_at_call 131;go_must (refine Ml N now x pa qa ea pc qc ec true cK.o_ wo Zw.o_ _ ?_);intro w7 aZ;have gf:=ab (aD HB.o_ aZ HB.o_.size);clear aZ))
    exact HR.o_ _ gf.o_
   |false=>
    have Mm:=ab (fU.o_.2 rfl);clear fU;go_wp2_with (first
     |(refine ie (o:=⟨some 15,.load 36 (.tmp 14),_,_,_,_⟩) (by rfl) 36 (.tmp 14) (by rfl) (g) ((o+k*14)) (by rfl) ((aG x pa pc qa qc ea ec)) _ (HC.o_) (underlying36) (by rfl) (by kernel_rfl) ?_)
     |(go_at_call 131;go_must (refine Ml N now x pa qa ea pc qc ec false cK.o_ wo Zw.o_ _ ?_);intro w7 aZ;have gf:=ab (aD HB.o_ aZ HB.o_.size);clear aZ))
    go_roundg (n - (k+1))
    case measure=>omega
    case rel=>exact ⟨k+1,by omega,rfl,by go_num,gf,Mm⟩
  ·have bd:¬(k:Int)<(n:Int):=by omega
   obtain rfl:z= -1:=by
    rw [←HZ.o_];refine AT fun x hx=> ?_;obtain ⟨j,hj,rfl⟩:=List.getElem_of_mem hx;exact HS.o_ j (by have:=HL.o_;omega) hj
   go_wp2;exact HR.o_ _ HB.o_
def pO(now:Int)(p:V3×Im):Bool:= !ml p.2.note.aN now
theorem aj4(ps:List (V3×Im))(n:Nat)(hn:ps.length=n)(ad:Option Addr)(c N:Nat)(now:Int)(hl:n≤100000)(w:World)(hr:bf w 36 14 (.slice ad n c) n (ps.flatMap cL))(uS:∀p∈ps,RE p)
 (hN:w.heap[N]? =some (.cells #[.int .i64 now] 3 (0,0))) (m:Nat) (hm:(ps.filter (pO now)).length=m) (R:Ending→World→Prop)
 (hR:∀w',bf w' 36 14 (.slice ad m c) m ((ps.filter (pO now)).flatMap cL)→w.grownBy w' (Value.slice ad n c).ownBlock→R (.returned (.slice ad m c)) w'):
 Calls prog 130 #[.slice ad n c,.func (.func 131) #[] #[.pointer (some ⟨N,0,none⟩)]] w R:=by
 have HR:=ab hR;have aU:=ab hr;have IN:=ab uS;have HN:=ab hN;have HL:=ab hn;obtain ⟨z,hz⟩:∃z,cV (fun p:V3×Im=>ml p.2.note.aN now) ps=z:=⟨_,rfl⟩
 have HZ:=ab hz;by_cases j2:z<0
 ·obtain ⟨rfl,iW⟩:=zG hz j2;have hf:ps.filter (pO now)=ps:=List.filter_eq_self.2 fun p hp=>by
   have h1:ml p.2.note.aN now=false:=iW p hp;unfold pO;rw [h1]
   rfl
  rw [hf] at hm HR;obtain rfl:m=n:=by omega
  clear hR hr uS hN hn hz j2 iW hf hm;go_enter func130,ntmps130;go_wp2_with (go_at_call 162;go_must (refine Zv ps m HL.o_ ad c N now (-1) HZ.o_ hl w aU.o_ IN.o_ (af w N 0 _ _ _ HN.o_) _ ?_);intro w2 ah;have aY:=ab ah;clear ah);exact HR.o_ _ (aU.o_.below aY.o_) (iT aY.o_)
 ·obtain ⟨k,hk,rfl,iM,sA⟩:=wO hz (by omega);have iC:k<n:=by omega
  obtain ⟨g,o,c',aq5,Mn,vI,sy,AN,_⟩:∃g o c',∃cur:Array Value,(Value.slice ad n c)= .slice (some ⟨g,o,none⟩) n c'∧w.heap[g]? =some (.cells cur 36 (0,0))∧n≤c'∧c'≤maxLen∧True:=by
   rcases hr.2 with ⟨hv,h0⟩|⟨g,o,c',cur,hv,hg,h1,h2,_⟩
   ·omega
   ·exact ⟨g,o,c',cur,hv,hg,h1,h2,trivial⟩
  simp only [Value.slice.injEq,true_and] at Mn;obtain ⟨rfl,rfl⟩:=Mn;have Zx:N≠g:=fun e=>by
   rw [e,vI] at hN;simp only [Option.some.injEq,Obj.cells.injEq] at hN;have h2:=hN.2.1
   revert h2
   decide
  have LF:(ps.take (k+1)).filter (pO now)=ps.take k:=by
   rw [List.take_add_one,List.getElem?_eq_getElem hk,List.filter_append];have h1:(ps.take k).filter (pO now)=ps.take k:=List.filter_eq_self.2 fun p hp=>by
    obtain ⟨j,hj,rfl⟩:=List.getElem_of_mem hp;rw [List.length_take] at hj;rw [getElem_take];have h1:ml (ps[j]'(by omega)).2.note.aN now=false:=sA j (by omega);unfold pO;rw [h1]
    rfl
   have h2:pO now ps[k]=false:=by
    unfold pO;rw [show ml (ps[k]).2.note.aN now=true from iM]
    rfl
   rw [h1];simp [h2]
  have xg:=ab Zx;have aj5:=ab LF;have Mo:k<c:=by omega
  have mj:=ab AN;have aj6:=ab sy;clear hR hr uS hN hn hz j2 iM sA Zx LF vI hk;go_enter func130,ntmps130;have ib:((k:Int)== -1)=false:=by simp
  have fA:¬(k:Int)= -1:=by omega
  go_wp2_with (go_at_call 162;go_must (refine Zv ps n HL.o_ _ c N now (k:Int) HZ.o_ hl w aU.o_ IN.o_ (af w N 0 _ _ _ HN.o_) _ ?_);intro w2 ah;have aY:=ab ah;clear ah);clear ib fA;go_loopg [5,6] (n - (k+1)) (fun gn s5 s6 wr=>∃(i j:Nat) (cur:List (V3×Im)),s5= .int .i64 i∧s6= .int .i64 j∧i<j∧j≤n∧gn=n - j∧Hid (cur.length=n)∧Hid (cur.take i=(ps.take j).filter (pO now))∧Hid (cur.drop j=ps.drop j)∧Hid (bf wr 36 14 (.slice (some ⟨g,o,none⟩) n c) n (cur.flatMap cL))∧Hid (w.grownBy wr (some g)))
  case atStart=>exact ⟨k,k+1,ps,rfl,by go_num,by omega,by omega,by omega,HL,ab aj5.o_.symm,ab rfl,ab (aU.o_.below aY.o_),ab (iT aY.o_)⟩
  case round=>
   obtain ⟨i,j,cur,rfl,rfl,N',NM,rfl,lJ,DM,RF,Aj,HG⟩:=hrel;obtain ⟨wo,rfl⟩:∃x,x=wr:=⟨_,rfl⟩
   by_cases ao:j<n
   ·have lz:(j:Int)<(n:Int):=by omega
    have Mp:j<ps.length:=by have:=HL.o_;omega
    have RH:j<cur.length:=by have:=lJ.o_;omega
    have sI:cur[j]=ps[j]:=by
     have h1:=congrArg (fun l=>l[0]?) RF.o_;simp only [List.getElem?_drop,add_zero,List.getElem?_eq_getElem Mp,List.getElem?_eq_getElem RH,Option.some.injEq] at h1;exact h1
    obtain ⟨g',o',td,aW,nW⟩:=Aj.o_.at (by omega);simp only [Option.some.injEq,Addr.mk.injEq,and_true] at td;obtain ⟨rfl,rfl⟩:=td;have dI:=fun t (ht:t<14)=>(by rw [Nat.add_assoc,aW (j*14+t) (by omega),jQ 14 cL my cur j t RH ht,sI]:wo.cell? ⟨g,o+j*14+t,none⟩=(cL ps[j])[t]?)
    have IP:=IN.o_ _ (List.getElem_mem Mp);have b7:=Fi (pO now) ps j Mp;have Zy:cur.drop (j+1)=ps.drop (j+1):=by
     have h1:=congrArg (List.drop 1) RF.o_
     simpa [List.drop_drop] using h1
    obtain ⟨⟨⟨v1,v2,v3⟩,x⟩,Zz⟩:∃p,ps[j]=p:=⟨_,rfl⟩
    rw [Zz] at dI IP b7;obtain ⟨pa,pc,qa,qc,ea,ec,e⟩:=IP;simp only [Prod.mk.injEq] at e;obtain ⟨rfl,rfl,rfl⟩:=e;have HC:Hid (∀t,t<14→wo.cell? ⟨g,o+j*14+t,none⟩= (aG x pa pc qa qc ea ec:List Value)[t]?):=dI;obtain ⟨b,hb⟩:=ai (ml x.note.aN now);have cK:=ab hb;have ep:Hid ((ps.take (j+1)).filter (pO now)=(ps.take j).filter (pO now)++(if (!b)=true then [(((Value.slice pa x.note.az.length pc,Value.slice qa x.note.props.length qc,Value.slice ea x.ids.length ec),x):V3×Im)] else [])):=by
     have:=b7;unfold pO at this⊢;simp only [hb] at this;exact this
    have ZA:=ab Zy;have aw:Below wo wo (wo.alloc (Obj.cells (aG x pa pc qa qc ea ec) 36)):=(Below.refl _ _).alloc (Nat.le_refl _) _;have hT:=heap_alloc_new wo (Obj.cells (aG x pa pc qa qc ea ec) 36);have ue:(wo.alloc (Obj.cells (aG x pa pc qa qc ea ec) 36)).heap[N]? =some (.cells #[.int .i64 now] 3 (0,0)):=aA ((HG.o_.block N (Array.getElem?_eq_some_iff.1 HN.o_).1 (fun e=>xg.o_ (Option.some.inj e))).trans HN.o_) aw;have bP:=ab aw;have HT:=ab hT;have tL:=ab ue;clear aW dI b7 Zy hb Zz sI aw hT ue RF RH Mp;go_upto_region 8 with (first
     |(refine ie (o:=⟨some 25,.load 36 (.tmp 24),_,_,_,_⟩) (by rfl) 36 (.tmp 24) (by rfl) (g) ((o+j*14)) (by rfl) ((aG x pa pc qa qc ea ec)) _ (HC.o_) (underlying36) (by rfl) (by kernel_rfl) ?_))
    generalize wo.alloc (Obj.cells (aG x pa pc qa qc ea ec) 36)=w1 at bP HT tL⊢;obtain ⟨T,dN⟩:=ai wo.heap.size;rw [dN] at HT⊢;clear dN;cases b with
    |true=>
     have RI:Hid (cur.take i=(ps.take (j+1)).filter (pO now)):=by
      show _=_;rw [ep.o_,DM.o_];simp
     clear ep DM;go_wp2_with (first
      |(refine wpList_load_row (o:=⟨some 27,.load 36 (.tmp 7),_,_,_,_⟩) (by rfl) 36 (.tmp 7) (by rfl) (T) (by rfl) 36 _ (0,0) _ (HT).o_ (underlying36) (by rfl) (by kernel_rfl) ?_)
      |(go_at_call 131;go_must (refine Ml N now x pa qa ea pc qc ec true cK.o_ w1 (af w1 N 0 _ _ _ tL.o_) _ ?_);intro w7 aZ;have gf:=ab aZ;clear aZ))
     go_roundg (n - (j+1))
     case measure=>omega
     case rel=>
      have h7:Below wo wo w7:=aD bP.o_ gf.o_ bP.o_.size;exact ⟨i,j+1,cur,rfl,by go_num,by omega,by omega,rfl,lJ,RI,ZA,ab (Aj.o_.below h7),ab (bO HG.o_ (iT h7))⟩
    |false=>
     have uW:i<n:=by omega
     have RI:Hid ((cur.set i (((Value.slice pa x.note.az.length pc,Value.slice qa x.note.props.length qc,Value.slice ea x.ids.length ec),x):V3×Im)).take (i+1)=(ps.take (j+1)).filter (pO now)):=by
      show _=_;have OS:i<cur.length:=by have:=lJ.o_;omega
      rw [ep.o_,←DM.o_,List.take_add_one,List.getElem?_set_self OS,List.take_set_of_le (Nat.le_refl _)];simp
     have aj7:Hid ((cur.set i (((Value.slice pa x.note.az.length pc,Value.slice qa x.note.props.length qc,Value.slice ea x.ids.length ec),x):V3×Im)).drop (j+1)=ps.drop (j+1)):=by
      show _=_;rw [List.drop_set_of_lt (by omega)];exact ZA.o_
     clear ep DM;have zi:(i:Int)<(n:Int):=by omega
     go_upto_region 9 with (first
      |(refine wpList_load_row (o:=⟨some 27,.load 36 (.tmp 7),_,_,_,_⟩) (by rfl) 36 (.tmp 7) (by rfl) (T) (by rfl) 36 _ (0,0) _ (HT).o_ (underlying36) (by rfl) (by kernel_rfl) ?_)
      |(go_at_call 131;go_must (refine Ml N now x pa qa ea pc qc ec false cK.o_ w1 (af w1 N 0 _ _ _ tL.o_) _ ?_);intro w7 aZ;have gf:=ab aZ;have aj8:=ab (aA HT.o_ aZ);clear aZ))
     have h7:Below wo wo w7:=aD bP.o_ gf.o_ bP.o_.size;have Mq:=Aj.o_.below h7;obtain ⟨g',o',td,aW,nW⟩:=Mq.at (by omega);simp only [Option.some.injEq,Addr.mk.injEq,and_true] at td;obtain ⟨rfl,rfl⟩:=td;have nG:=Mq.1;have mL:Hid (∀t,t<((aG x pa pc qa qc ea ec):Array Value).size→(w7.cell? ⟨g,o+i*14+t,none⟩).isSome=true):=ab (fun t ht=>by
      have ht:t<14:=ht;rw [Nat.add_assoc,aW (i*14+t) (by omega),List.getElem?_eq_getElem (by omega)]
      rfl)
     have aj9:Hid (∀t,t<((aG x pa pc qa qc ea ec):Array Value).size→w7.frozen? ⟨g,o+i*14+t,none⟩=false):=ab (fun t _=>nW _);have ZB:=bf.put cL my (by decide) lJ.o_ uW Mq (((Value.slice pa x.note.az.length pc,Value.slice qa x.note.props.length qc,Value.slice ea x.ids.length ec),x):V3×Im);have aka:=ab ZB;have p8:Hid (w.grownBy (w7.setCells g (o+i*14) (cL (((Value.slice pa x.note.az.length pc,Value.slice qa x.note.props.length qc,Value.slice ea x.ids.length ec),x):V3×Im))) (some g)):=ab (bO (bO HG.o_ (iT h7)) (pU _ _ _ _));clear aW nW nG ZB Mq h7;go_wp2_with (first
      |(refine wpList_load_row (o:=⟨some 32,.load 36 (.tmp 7),_,_,_,_⟩) (by rfl) 36 (.tmp 7) (by rfl) (T) (by rfl) 36 _ (0,0) _ (aj8).o_ (underlying36) (by rfl) (by kernel_rfl) ?_)
      |(refine Et (o:=⟨none,.store 36 (.tmp 33) (.tmp 32),_,_,_,_⟩) (by rfl) 36 (.tmp 33) (.tmp 32) (by rfl) g (o+i*14) (aG x pa pc qa qc ea ec) (by rfl) (by rfl) mL.o_ aj9.o_ (by kernel_rfl) (by simp [Value.oneCell']) ?_))
     go_roundg (n - (j+1))
     case measure=>omega
     case rel=>exact ⟨i+1,j+1,cur.set i (((Value.slice pa x.note.az.length pc,Value.slice qa x.note.props.length qc,Value.slice ea x.ids.length ec),x):V3×Im),by go_num,by go_num,by omega,by omega,rfl,ab (by rw [List.length_set];exact lJ.o_),RI,aj7,aka,p8⟩
   ·have lz:¬(j:Int)<(n:Int):=by omega
    obtain rfl:j=n:=by omega
    have rP:=DM.o_;rw [show ps.take j=ps from List.take_of_length_le (by have:=HL.o_;omega)] at rP;have akb:m=i:=by
     rw [←hm,←rP,List.length_take];have:=lJ.o_
     omega
    subst akb;have aq:=Aj.o_;obtain ⟨i0,bS,_,cm,_⟩:=info_parts sC;have he:prog.elem 52=36:=by simp [Program.elem,underlying52]
    have sy:=aj6.o_;have AN:c≤9223372036854775807:=mj.o_;have ch:∀w',(Instr.slice 52 (.slice (some ⟨g,o,none⟩) j c) (some (.int .i64 (m:Int))) none none).run prog w'= .ok (.slice (some ⟨g,o+m*14,none⟩) (j - m) (c - m)) w':=fun w'=>by
     rw [run_slice_l (P:=prog) w' _ _ j c (by rw [he];exact underlying52) .i64 m (by omega) (by omega),he];have h1:c≠m:=by omega
     simp [sizeOf,typeInfo,bS,cm,sliced,h1,Addr.add_lit]
    have bt:∀w',(Instr.slice 52 (.slice (some ⟨g,o,none⟩) j c) none (some (.int .i64 (m:Int))) none).run prog w'= .ok (.slice (some ⟨g,o,none⟩) m c) w':=fun w'=>by
     rw [run_slice_h (P:=prog) w' _ _ j c (by rw [he];exact underlying52) .i64 m (by omega) (by omega),he];have h1:c≠0:=by omega
     simp [sizeOf,typeInfo,bS,cm,sliced,h1,Addr.add_lit]
    have ZC:(Builtin.zeroCells a_ (j - m)).toList.length=(j - m) *14:=by simp [Builtin.zeroCells]
    obtain ⟨g',o',td,aW,nW⟩:=aq.at (by omega);simp only [Option.some.injEq,Addr.mk.injEq,and_true] at td;obtain ⟨rfl,rfl⟩:=td;have nG:=aq.1;have j3:∀ty,(Builtin.clear_ #[52] ty #[.slice (some ⟨g,o+m*14,none⟩) (j - m) (c - m)]).run prog wo= .ok (.tuple #[]) (wo.setCells g (o+m*14) (Builtin.zeroCells a_ (j - m)).toList):=fun ty=>
     aj0 wo (j - m) (by omega) _ 36 ty (Value.agg a_) a_ underlying52 aj1 rfl (aj2 _) g (o+m*14) _ (fun t ht=>by
      rw [ZC] at ht;rw [Nat.add_assoc,aW (m*14+t) (by omega),List.getElem?_eq_getElem (by omega)]
      rfl) (fun t _=>nW _)
    have nK:=aq.front (k:=m) (zs:=(Builtin.zeroCells a_ (j - m)).toList) (by omega);rw [vW 14 cL my,rP] at nK;have kH:=ab (HR.o_ _ nK (bO HG.o_ (pU _ _ _ _)));clear nK aq aW nW nG ZC rP bS cm he;go_wp2;exact kH.o_
variable{GB GM MB NB S:Nat}{s:aF}{fv qv bK sv:Value}{w1:World}
theorem SX.PU{ps:List (V3×Im)}{qs:List Im}(h:SX w M S NB MB GB GM sv qv fv s)(aT:ps.map (·.2)=qs)(aS:∀p∈ps,db w M p.1 p.2)
 (hr:bf w1 36 14 bK qs.length (ps.flatMap cL)) (ha:AO w w1 qv bK) (AR:∀k,qv.ownBlock=some k→bA w k=36+2):
 ∃M',SX (w1.setCell ⟨S,6,none⟩ bK) M' S NB MB GB GM sv bK fv {s with queue:=qs}∧Sep M M' w (w1.setCell ⟨S,6,none⟩ bK)∧(∀b,M b→M' b)∧Lo S w (w1.setCell ⟨S,6,none⟩ bK) qv bK:=by
 obtain ⟨K,hg,hK⟩:∃K,w.grownBy w1 (some K)∧(M K∧bA w K=36+2∨w.heap.size≤K):=by
  exact Ul
 have ju:∀k,bK.ownBlock=some k→M k∨w.heap.size≤k:=fun k hk=>by
  exact Uj
 have Cf:∀k,bK.ownBlock=some k→k<w1.heap.size:=hr.lt
 let M':Nat→Prop:=fun b=>M b∨bK.ownBlock=some b
 have ch:Sep M M' w w1:=⟨hg.os,hg.tape,hg.output,hg.size,fun b hb hM=>hg.block b hb (fun e=>by
  have e:=Option.some.inj e;rcases hK with ⟨hk,_⟩|hk
  ·exact hM (e▸hk)
  ·omega),fun b hb=>by
  rcases hb with hb|hb
  ·exact .inl hb
  ·exact ju b hb,fun F ⟨m,hm,hl⟩=>⟨m,.inl hm,hl⟩⟩
 have bh:∀b,b<w.heap.size→bA w b≠36+2→w1.heap[b]? =w.heap[b]?:=fun b hb hk=>hg.block b hb (fun e=>by
  have e:=Option.some.inj e;rcases hK with ⟨_,fA⟩|fA
  ·exact hk (e▸fA)
  ·omega)
 have eJ:∀{b t:Nat}{fr:Nat×Nat}{cs:Array Value},w.heap[b]? =some (.cells cs t fr)→b<w.heap.size:=fun h=>(Array.getElem?_eq_some_iff.1 h).1;have iz:=(bh S (eJ h.hS) (by rw [jR h.hS];decide)).trans h.hS;have ib:bA w1 S=94+2:=jR iz;have aI:SX (w1.setCell ⟨S,6,none⟩ bK) M' S NB MB GB GM sv bK fv {s with queue:=qs}:=by
  have bM:=bL w1 ⟨S,6,none⟩ bK;have bt:Sep M' M' w1 (w1.setCell ⟨S,6,none⟩ bK):= .kn bM (fun k hk=>by cases hk;exact .inl h.mS);have aM:∀b,b<w1.heap.size→bA w1 b≠94+2→(w1.setCell ⟨S,6,none⟩ bK).heap[b]? =w1.heap[b]?:=fun b hb hk=>bM.block b hb (fun e=>hk (Option.some.inj e▸ib));have both:∀b,b<w.heap.size→bA w b≠36+2→bA w b≠94+2→(w1.setCell ⟨S,6,none⟩ bK).heap[b]? =w.heap[b]?:=fun b hb k1 k2=>by
   exact Es
  refine ⟨?_,h.hn.sB (both _ (eJ h.hn.1) (by rw [h.hn.kinds.1];decide) (by rw [h.hn.kinds.1];decide)) (both _ h.hn.2.lt (by rw [h.hn.kinds.2];decide) (by rw [h.hn.kinds.2];decide)),
   h.hg.sB (both _ (eJ h.hg.1) (by rw [h.hg.kinds.1];decide) (by rw [h.hg.kinds.1];decide)) (both _ h.hg.2.lt (by rw [h.hg.kinds.2];decide) (by rw [h.hg.kinds.2];decide)),
   j_ h.hs (fun k hk=>both k (h.lt k (h.ms k hk)) (by rw [eI h.hs k hk];decide) (by rw [eI h.hs k hk];decide)),?_,
   h.hf.sep (ch.trans bt) (fun k hk=>both k (h.lt k (h.hf.own k hk)) (by rw [h.hf.kind k hk];decide) (by rw [h.hf.kind k hk];decide)) (fun k hk=> .inl (h.hf.own k hk)),
   h.nb,h.nm,.inl h.mS,.inl h.mN,.inl h.mG,fun k hk=> .inl (h.ms k hk),?_,?_,?_⟩
  ·rw [heap_setCell_same w1 S 6 _ _ _ iz]
   rfl
  ·exact ⟨ps,aT,hr.grown bM (.inl (hr.ne iz (by decide))),fun p hp=>((aS p hp).sep ch).sep bt,fun k hk=> .inr hk⟩
  ·rintro (hm|hm)
   ·exact h.oP hm
   ·have h1:=hr.kind NB hm;exact JT
  ·rintro (hm|hm)
   ·exact h.oQ hm
   ·have h1:=hr.kind GB hm;exact JS
  ·rintro b (hb|hb)
   ·have:=h.lt b hb;have:=hg.size;simp only [World.setCell,Array.size_modify]
    omega
   ·have:=Cf b hb
    simpa [World.setCell] using this
 exact Uk
theorem akc(S:Nat)(s:aF)(now:Int)(d:Int)(hd:(s.queue.length:Int) - ((oA s.queue now).length:Int)=d)(hl:s.queue.length≤100000)(w:World)(M:Nat→Prop)(h:SR w M S s)(R:Ending→World→Prop)
 (hR:∀M' w',SR w' M' S {s with queue:=oA s.queue now}→Sep M M' w w'→R (.returned (.int .i64 d)) w'):
 Calls prog 81 #[.pointer (some ⟨S,0,none⟩),.int .i64 now] w R:=by
 have HR:=ab hR;obtain ⟨NB,MB,GB,GM,sv,qv,fv,hx⟩:=h;have aw:Below w w (w.alloc (Obj.cells #[.int .i64 now] 3)):=(Below.refl _ _).alloc (Nat.le_refl _) _;have hT:=heap_alloc_new w (Obj.cells #[.int .i64 now] 3);have aI:=hx.below aw;obtain ⟨w1,nX⟩:=ai (w.alloc (Obj.cells #[.int .i64 now] 3));rw [nX] at aw hT aI;obtain ⟨ps,aT,aq,aS,_⟩:=id aI.hq;obtain ⟨n,hn⟩:=ai s.queue.length;have eA:ps.length=n:=by rw [←hn,←aT];simp
 rw [hn] at aq hl hd;obtain ⟨va,vc,rfl⟩:=aq.shape;obtain ⟨m,hm⟩:=ai ((ps.filter (pO now)).length);have pz:(ps.filter (pO now)).map (·.2)=oA s.queue now:=by
  rw [oA,←aT,List.filter_map]
  rfl
 have jy:(oA s.queue now).length=m:=by rw [←pz,List.length_map,hm]
 rw [jy] at hd;have c6:=(dy aI.hS).2.2.1;have vZ:=ab aI;have aU:=ab aq;have gK:=ab aS;have fz:=ab eA;have HM:=ab hm;have Mt:=ab jy;have OU:=ab pz;have HT:=ab hT;have bP:=ab aw;have HD:=ab hd;have Qc:m≤n:=by rw [←hm,←eA];exact List.length_filter_le _ _
 have Ya:IntKind.i64.wrap ((n:Int) - (m:Int))=d:=by rw [IntKind.wrap_i64,←hd];omega
 clear hR hx aI aT aq aS hn eA hm jy pz hT aw hd;go_enter func81,ntmps81;go_wp2_with (go_at_call 130;go_must (refine aj4 ps n fz.o_ va vc w.heap.size now hl w1 aU.o_ (fun p hp=>(gK.o_ p hp).aj3) HT.o_ m HM.o_ _ ?_);intro w3 vV cB;have r3:=eG cB vZ.o_.hS (aU.o_.ne vZ.o_.hS (by decide));have Ch:=(dy r3).2.2.1;have f63:=aB r3 6;have ZD:=SX.PU (bK:= .slice va m vc) (qs:=oA s.queue now) vZ.o_ OU.o_ (fun p hp=>gK.o_ p (List.mem_filter.1 hp).1) (by rw [Mt.o_];exact vV) (.inl ⟨cB,by cases va<;>rfl⟩) aU.o_.kind;have akd:=ab ZD;clear vV cB ZD r3);obtain ⟨M',iI,iJ,_,_⟩:=akd.o_;exact HR.o_ M' _ ⟨NB,MB,GB,GM,sv,_,fv,iI⟩ ((Sep.cU bP.o_).trans iJ)
end Go.Proofs.YtgimbocoamnkjaaGreatDoor
