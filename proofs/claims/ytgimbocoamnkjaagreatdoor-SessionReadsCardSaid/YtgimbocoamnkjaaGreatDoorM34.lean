/- A part of the proof of SessionReads; no conditions. -/
import Derived.Test.YtgimbocoamnkjaaGreatDoorM18
import Derived.Test.YtgimbocoamnkjaaGreatDoorM17
import Derived.Test.YtgimbocoamnkjaaGreatDoorM16
import Derived.Test.YtgimbocoamnkjaaGreatDoorM33
import Derived.Test.YtgimbocoamnkjaaGreatDoorM30
set_option maxRecDepth 100000
set_option maxHeartbeats 16000000
namespace Go.Proofs.YtgimbocoamnkjaaGreatDoor
variable{x:Im}{B S:Nat}{M:Nat→Prop}{s:az}{pv qv:Value}{aw4 w:World}
open Go.RowKit
theorem SR.mS(h:SR w M S s):M S:=by
 obtain⟨NB,MB,GB,GM,sv,qv,fv,F⟩:=h;exact F.mS
theorem SR.lt(h:SR w M S s):∀b,M b→b<w.heap.size:=by
 obtain⟨NB,MB,GB,GM,sv,qv,fv,F⟩:=h;exact F.lt
theorem DU.wr{ev:Value}(h:DU aw4 B w pv qv ev x)(hM:∀b,M b→aw4.heap.size≤b∧b<B):Safe (Wr w M) w fun y=>ie y pv qv ev x:=fun M' w' s=>by
 have hW:∀b,Wr w M b→aw4.heap.size≤b:=by
  rintro b (U|⟨_,m,hm,fw⟩)
  ·exact(hM b U).1
  exact aJ (hM m hm).1 fw
 have hl:=cz h.low (s.low (B:=aw4.heap.size) h.low.size hW) bj;have key:∀{e size n:Nat}{v:Value}{xs:List Value},¬qj (e+2)→w.ownsRow B e size v n xs→w'.ownsRow B e size v n xs:=fun he ho=>XN ho (fun k G hm=>by
  rcases hm with hm|⟨hm,_⟩
  ·have:=(ho.lt k G).1;have:=(hM k hm).2
   omega
  rw[eJ ho k G] at hm;exact he hm) M' w' s
 obtain⟨Y,c,ds,e,ho⟩:=h.q;exact DU.c ⟨h.p,⟨Y,c,ds,e,ho.nl,ho.len,key (by unfold qj;decide) ho.row,ho.old,hl⟩,key (by unfold qj;decide) h.i,hl⟩
open _root_.Go.Proofs.Tryz
open List (getElem_mem getElem_take mem_map)
open Nat (add_zero div_lt_of_lt_mul mod_lt mul_comm succ_mul zero_add)
variable{xs:List Value}{C e g k n:Nat}
theorem bh.put{α:Type}{o c:Nat}(f:α→List Value)(hf:∀x,(f x).length=C)(hC:0<C){ps:List α}(hn:ps.length=n)(G:k<n)(h:bh w e C (.slice (some ⟨g,o,none⟩) n c) n (ps.flatMap f))(p:α):
 bh (w.setCells g (o+k*C) (f p)) e C (.slice (some ⟨g,o,none⟩) n c) n ((ps.set k p).flatMap f):=by
 subst hn;have bk:(ps.set k p).length=ps.length:=by simp
 refine⟨by rw[fY C f hf,bk],?_⟩;rcases h.2 with⟨hv,h0⟩|⟨g',o',c',cur,gp,A,e1,e2,e3,e4⟩
 ·cases hv
 simp only[Value.slice.injEq,Option.some.injEq,Addr.mk.injEq] at gp;obtain⟨⟨rfl,rfl,-⟩,-,rfl⟩:=gp;obtain⟨kj,m1,m2,m3⟩:=pB g e (f p) (o+k*C) w cur A;refine .inr ⟨g,o,c,kj,rfl,m1,e1,e2,by rw[m2];exact e3,fun j hj=> ?_⟩;have hr:j % C<C:=mod_lt _ hC;have oB:j / C*C+j % C=j:=by rw[mul_comm];exact Nat.div_add_mod j C
 have hi:j / C<ps.length:=div_lt_of_lt_mul (by rw[mul_comm];exact hj);have W:=kY C f hf (ps.set k p) (j / C) (j % C) (by simpa using hi) hr;have ho:=kY C f hf ps (j / C) (j % C) hi hr;rw[oB] at W ho;have fw:ps.length*C≤c*C:=uh _ e1;rw[m3,W,hf];by_cases wI:j / C=k
 ·have mA:(ps.set k p)[j / C]'(by simpa using hi)=p:=by simp[wI]
  rw[mA];rw[wI] at oB;rw[if_pos (by omega),show o+j - (o+k*C)=j % C by omega]
 have mA:(ps.set k p)[j / C]'(by simpa using hi)=ps[j / C]:=by
  rw[List.getElem_set,if_neg (fun e=>wI e.symm)]
 rw[mA,←ho,←e4 j hj];rw[if_neg];rintro⟨q1,q2,_⟩;apply wI;have h1:k*C≤j:=by omega
 have h2:j<k*C+C:=by omega
 exact Nat.div_eq_of_lt_le h1 (by rw[succ_mul];exact h2)
theorem bh.front{o c:Nat}{zs:List Value}(h:bh w e C (.slice (some ⟨g,o,none⟩) n c) n xs)(G:k≤n):bh (w.setCells g (o+k*C) zs) e C (.slice (some ⟨g,o,none⟩) k c) k (xs.take (k*C)):=by
 have fw:k*C≤n*C:=uh _ G;refine⟨by rw[bS,h.1];omega,?_⟩;rcases h.2 with⟨hv,h0⟩|⟨g',o',c',cur,gp,A,e1,e2,e3,e4⟩
 ·cases hv
 simp only[Value.slice.injEq,Option.some.injEq,Addr.mk.injEq] at gp;obtain⟨⟨rfl,rfl,-⟩,-,rfl⟩:=gp;obtain⟨kj,m1,m2,m3⟩:=pB g e zs (o+k*C) w cur A;refine .inr ⟨g,o,c,kj,rfl,m1,by omega,e2,by rw[m2];exact e3,fun j hj=> ?_⟩;rw[m3,if_neg (by omega),e4 j (by omega),ml,if_pos hj]
theorem amV{P:Program}(w:World)(n:Nat)(hn:0<n)(t e ty:TypeId)(z:Value)(cs:Array Value)(ht:P.underlying t=some (.slice e))(hv:∀w,(zeroValue e).run P w= .ok z w)(hz:z.cells=cs)(h1:∀v∈(Builtin.zeroCells cs n).toList,v.oneCell'=true)(b o c:Nat)
 (J:∀j,j<(Builtin.zeroCells cs n).toList.length→(w.cell? ⟨b,o+j,none⟩).isSome=true) (hf:∀j,j<(Builtin.zeroCells cs n).toList.length→w.frozen? ⟨b,o+j,none⟩=false):
 (Builtin.clear_ #[t] ty #[.slice (some ⟨b,o,none⟩) n c]).run P w= .ok (.tuple #[]) (w.setCells b o (Builtin.zeroCells cs n).toList):=by
 have cB:=run_storeCells_cells (P:=P) b o (Builtin.zeroCells cs n).toList 0 w (by simpa using J) (by simpa using hf) h1;simp only[add_zero] at cB;obtain⟨k,rfl⟩:∃k,n=k+1:=⟨n - 1,by omega⟩
 simp[Builtin.clear_,run_underlying ht,hv,hz,cB]
theorem amW(w:World):(zeroValue 36).run prog w= .ok (Value.agg aX) w:=by kernel_rfl
theorem amX(n:Nat):∀v∈(Builtin.zeroCells aX n).toList,v.oneCell'=true:=by
 intro v hv;simp only[Builtin.zeroCells,Array.toList_map,mem_map] at hv;obtain⟨i,_,rfl⟩:=hv;have hi:i % (aX:Array Value).size<14:=mod_lt _ (by decide);generalize i % (aX:Array Value).size=k at hi
 match k,hi with
 |0,_|1,_|2,_|3,_|4,_|5,_|6,_|7,_|8,_|9,_|10,_|11,_|12,_|13,_=>rfl
theorem PM(N:Nat)(now:Int)(x:Im)(V qa ea:av)(X qc ec:Nat)(b:Bool)(U:oJ x.note.aP now=b)(w:World)(hN:w.cell? ⟨N,0,none⟩=some (.int .i64 now))(R:ak)
 (I:∀w',Below w w w'→R (.returned (.bool b)) w'):
 Calls prog 131 #[.agg (aG x V X qa qc ea ec),zq N] w R:=by
 have HR:=Z I;have cT:=Z U;have aw:Below w w (w.alloc (.cells (aG x V X qa qc ea ec) 36)):=aD _ _;have hT:=aH w (.cells (aG x V X qa qc ea ec) 36);have xZ:Hid (∀j,j<10→(w.alloc (.cells (aG x V X qa qc ea ec) 36)).cell? ⟨w.heap.size,0+j,none⟩= (oh x.note V X qa qc:List Value)[j]?):=Z (fun j hj=>by
  rw[zero_add,D j hT]
  match j,hj with
  |0,_|1,_|2,_|3,_|4,_|5,_|6,_|7,_|8,_|9,_=>rfl)
 have cN:=cell_later aw hN;have ct:=Z aw;clear I U aw hT hN;go_enter func131,ntmps131;go_wp2_with (first
  |(refine iT 5 34 4 w.heap.size 0 ((oh x.note V X qa qc)) xZ.O underlying34 ?_)
  |(go_at_call 132;go_must(refine ak2 _ _ _ _ _ _ _ _ _ x.note.aP now b cT.O _ _ ?_);intro w2 aj;have bn:=Z (aQ ct.O aj);clear aj))
 exact HR.O _ bn.O
def Un(p:V3×Im):Prop:=∃V X qa qc ea ec,p.1=(Value.slice V p.2.note.ay.length X,Value.slice qa p.2.note.props.length qc,Value.slice ea p.2.ids.length ec)
theorem dk.amY{p:V3×Im}(h:dk w M p.1 p.2):Un p:=by
 obtain⟨⟨V,X,e1⟩,⟨qa,qc,e2⟩,ea,ec,e3⟩:=h.1.O.shape;exact⟨V,X,qa,qc,ea,ec,by rw[←e1,←e2,←e3]⟩
theorem acg(ps:List (V3×Im))(n:Nat)(hn:ps.length=n)(Y:av)(c N:Nat)(now:Int)(z:Int)(hz:dE (fun p:V3×Im=>oJ p.2.note.aP now) ps=z)(hl:n≤100000)(w:World)(hr:bh w 36 14 (.slice Y n c) n (ps.flatMap dX))(lW:∀p∈ps,Un p)
 (hN:w.cell? ⟨N,0,none⟩=some (.int .i64 now)) (R:ak)
 (I:∀w',Below w w w'→R (.returned (E z)) w'):
 Calls prog 162 #[.slice Y n c,.func (.func 131) #[] #[zq N]] w R:=by
 obtain⟨HR,aV,HZ,Cq,HN,HL⟩:=CN I hr hz lW hN hn;clear I hr hz lW hN hn;go_enter func162,ntmps162;go_wp2;go_loopg [5,8] n (fun gn _ i wr=>∃k:Nat,k≤n∧gn=n - k∧i= .int .i64 k∧Hid (Below w w wr)∧Hid (∀(j:Nat)(hj:j<k)(h:j<ps.length),oJ (ps[j]).2.note.aP now=false))
 case atStart=>exact⟨0,bP _,by omega,rfl,Z dg,fun j hj=>by omega⟩
 case round=>
  obtain⟨k,G,rfl,rfl,HB,HS⟩:=hrel;obtain⟨wo,rfl⟩:∃x,x=wr:=⟨_,rfl⟩
  by_cases au:k<n;rotate_left
  ·have bo:¬(k:Int)<(n:Int):=by omega
   obtain rfl:z= -1:=by
    rw[←HZ.O];refine C6 fun x F=> ?_;obtain⟨j,hj,rfl⟩:=lD F;exact HS.O j (by have:=HL.O;omega) hj
   go_wp2;exact HR.O _ HB.O
  have bo:(k:Int)<(n:Int):=by omega
  have fF:k<ps.length:=by have:=HL.O;omega
  have aU:=aV.O.below HB.O;obtain⟨g,o,vT,bg,_⟩:=aU.at (by omega);subst vT;have g_:=fun j (hj:j<14)=>(by rw[oO,bg (k*14+j) (by omega),kY 14 dX oS ps k j fF hj]:wo.cell? ⟨g,o+k*14+j,none⟩=(dX ps[k])[j]?)
  have LJ:=Cq.O _ (getElem_mem fF);have HP:Hid (∀b,oJ (ps[k]).2.note.aP now=b→(b=true→z=(k:Int))∧(b=false→∀(j:Nat)(hj:j<k+1)(h:j<ps.length),oJ (ps[j]).2.note.aP now=false)):=by
   rintro b U;refine⟨fun e=> ?_,fun e j hj h=> ?_⟩
   ·rw[←HZ.O];exact C7 fF (U.trans e) (fun j hj=>HS.O j hj (by omega))
   by_cases e2:j=k
   ·subst e2;exact U.trans e
   exact HS.O j (by omega) h
  obtain⟨⟨⟨v1,v2,v3⟩,x⟩,jV⟩:∃p,ps[k]=p:=⟨_,rfl⟩
  rw[jV] at g_ HP LJ;obtain⟨V,X,qa,qc,ea,ec,e⟩:=LJ;simp only[Prod.mk.injEq] at e;obtain⟨rfl,rfl,rfl⟩:=e;have HC:Hid (∀j,j<14→wo.cell? ⟨g,o+k*14+j,none⟩= (aG x V X qa qc ea ec:List Value)[j]?):=g_;obtain⟨b,U⟩:=ai (oJ x.note.aP now);have jf:=Z (HP.O b U);have cT:=Z U;have ach:Hid (wo.cell? ⟨N,0,none⟩=some (.int .i64 now)):=cell_later HB.O HN.O;clear aU bg g_ U jV HS;cases b with
  |true=>
   obtain rfl:=jf.O.1 rfl;go_wp2_with (first
    |(refine iT 15 36 14 g ((o+k*14)) ((aG x V X qa qc ea ec)) HC.O underlying36 ?_)
    |(go_at_call 131;go_must(refine PM N now x V qa ea X qc ec true cT.O wo ach.O _ ?_);intro w7 bp;have gE:=Z (aQ HB.O bp);clear bp))
   exact HR.O _ gE.O
  |false=>
   have yo:=Z (jf.O.2 rfl);go_wp2_with (first
    |(refine iT 15 36 14 g ((o+k*14)) ((aG x V X qa qc ea ec)) HC.O underlying36 ?_)
    |(go_at_call 131;go_must(refine PM N now x V qa ea X qc ec false cT.O wo ach.O _ ?_);intro w7 bp;have gE:=Z (aQ HB.O bp);clear bp))
   go_roundg (n - (k+1))
   case measure=>omega
   case rel=>exact⟨k+1,by omega,rfl,by go_num,gE,yo⟩
def rU(now:Int)(p:V3×Im):Bool:= !oJ p.2.note.aP now
theorem amZ(ps:List (V3×Im))(n:Nat)(hn:ps.length=n)(Y:av)(c N:Nat)(now:Int)(hl:n≤100000)(w:World)(hr:bh w 36 14 (.slice Y n c) n (ps.flatMap dX))(lW:∀p∈ps,Un p)
 (hN:w.heap[N]? =some (.cells #[E now] 3 (0,0))) (m:Nat) (hm:(ps.filter (rU now)).length=m) (R:ak)
 (I:∀w',bh w' 36 14 (.slice Y m c) m ((ps.filter (rU now)).flatMap dX)→w.grownBy w' (Value.slice Y n c).ownBlock→R (.returned (.slice Y m c)) w'):
 Calls prog 130 #[.slice Y n c,.func (.func 131) #[] #[zq N]] w R:=by
 obtain⟨HR,aV,Cq,HN,HL⟩:=jq I hr lW hN hn;obtain⟨z,hz⟩:∃z,dE (fun p:V3×Im=>oJ p.2.note.aP now) ps=z:=⟨_,rfl⟩
 have HZ:=Z hz;by_cases lV:z<0
 ·obtain⟨rfl,j4⟩:=BV hz lV;have hf:ps.filter (rU now)=ps:=List.filter_eq_self.2 fun p hp=>by
   have h1:oJ p.2.note.aP now=false:=j4 p hp;unfold rU;rw[h1]
   rfl
  rw[hf] at hm HR;obtain rfl:m=n:=by omega
  clear I hr lW hN hn hz lV j4 hf hm;go_enter func130,ntmps130;go_wp2_with (go_at_call 162;go_must(refine acg ps m HL.O Y c N now (-1) HZ.O hl w aV.O Cq.O (D 0 HN.O) _ ?_);intro w2 aj;have bn:=Z aj;clear aj);exact HR.O _ (aV.O.below bn.O) (ju bn.O)
 obtain⟨k,G,rfl,jV,lI⟩:=zv hz (by omega);have jh:k<n:=by omega
 obtain⟨g,o,c',avC,PN,ym,Ex,vg,_⟩:∃g o c',∃cur:Array Value,(Value.slice Y n c)= .slice (some ⟨g,o,none⟩) n c'∧w.heap[g]? =some (.cells cur 36 (0,0))∧n≤c'∧c'≤maxLen∧True:=by
  rcases hr.2 with⟨hv,h0⟩|⟨g,o,c',cur,hv,A,h1,h2,_⟩
  ·omega
  exact⟨g,o,c',cur,hv,A,h1,h2,trivial⟩
 simp only[Value.slice.injEq,true_and] at PN;obtain⟨rfl,rfl⟩:=PN;have aci:N≠g:=fun e=>by
  rw[e,ym] at hN;simp only[Option.some.injEq,Obj.cells.injEq] at hN;have h2:=hN.2.1
  revert h2
  decide
 have PK:(ps.take (k+1)).filter (rU now)=ps.take k:=by
  rw[List.take_add_one,dW G,List.filter_append];have h1:(ps.take k).filter (rU now)=ps.take k:=List.filter_eq_self.2 fun p hp=>by
   obtain⟨j,hj,rfl⟩:=lD hp;rw[bS] at hj;rw[getElem_take];have h1:oJ (ps[j]'(by omega)).2.note.aP now=false:=lI j (by omega);unfold rU;rw[h1]
   rfl
  have h2:rU now ps[k]=false:=by
   unfold rU;rw[show oJ (ps[k]).2.note.aP now=true from jV]
   rfl
  rw[h1];simp[h2]
 have DE:=Z aci;have am0:=Z PK;have PO:k<c:=by omega
 have uJ:=Z vg;have PQ:=Z Ex;clear I hr lW hN hn hz lV jV lI aci PK ym G;go_enter func130,ntmps130;have iS:((k:Int)== -1)=false:=by simp
 have eB:¬(k:Int)= -1:=by omega
 go_wp2_with (go_at_call 162;go_must(refine acg ps n HL.O _ c N now (k:Int) HZ.O hl w aV.O Cq.O (D 0 HN.O) _ ?_);intro w2 aj;have bn:=Z aj;clear aj);clear iS eB;go_loopg [5,6] (n - (k+1)) (fun gn s5 s6 wr=>∃(i j:Nat) (cur:List (V3×Im)),s5= .int .i64 i∧s6= .int .i64 j∧i<j∧j≤n∧gn=n - j∧Hid (cur.length=n)∧Hid (cur.take i=(ps.take j).filter (rU now))∧Hid (cur.drop j=ps.drop j)∧Hid (bh wr 36 14 (.slice (some ⟨g,o,none⟩) n c) n (cur.flatMap dX))∧Hid (w.grownBy wr (some g)))
 case atStart=>exact⟨k,k+1,ps,rfl,by go_num,by omega,by omega,by omega,HL,Z am0.O.symm,Z rfl,Z (aV.O.below bn.O),Z (ju bn.O)⟩
 case round=>
  obtain⟨i,j,cur,rfl,rfl,NC,RJ,rfl,mB,nT,Uo,Cl,HG⟩:=hrel;obtain⟨wo,rfl⟩:∃x,x=wr:=⟨_,rfl⟩
  by_cases au:j<n;rotate_left
  ·have sN:¬(j:Int)<(n:Int):=by omega
   obtain rfl:j=n:=by omega
   have PR:=nT.O;rw[show ps.take j=ps from gy (by have:=HL.O;omega)] at PR;have am1:m=i:=by
    rw[←hm,←PR,bS];have:=mB.O
    omega
   subst am1;have aq:=Cl.O;obtain⟨i0,cp,_,cJ,_⟩:=info_parts vr;have he:prog.elem 52=36:=by simp[Program.elem,underlying52]
   have Ex:=PQ.O;have vg:c≤9223372036854775807:=uJ.O;have cH:∀w',(Instr.slice 52 (.slice (some ⟨g,o,none⟩) j c) (some (E (m:Int))) none none).run prog w'= .ok (.slice (some ⟨g,o+m*14,none⟩) (j - m) (c - m)) w':=fun w'=>by
    rw[run_slice_l (P:=prog) w' _ _ j c (by rw[he];exact underlying52) .i64 m (by omega) (by omega),he];have h1:c≠m:=by omega
    simp[sizeOf,typeInfo,cp,cJ,sliced,h1,Addr.add_lit]
   have bF:∀w',(Instr.slice 52 (.slice (some ⟨g,o,none⟩) j c) none (some (E (m:Int))) none).run prog w'= .ok (.slice (some ⟨g,o,none⟩) m c) w':=fun w'=>by
    rw[run_slice_h (P:=prog) w' _ _ j c (by rw[he];exact underlying52) .i64 m (by omega) (by omega),he];have h1:c≠0:=by omega
    simp[sizeOf,typeInfo,cp,cJ,sliced,h1,Addr.add_lit]
   have acj:(Builtin.zeroCells aX (j - m)).toList.length=(j - m) *14:=by simp[Builtin.zeroCells]
   obtain⟨g',o',vT,bg,qW⟩:=aq.at (by omega);simp only[Option.some.injEq,Addr.mk.injEq,and_true] at vT;obtain⟨rfl,rfl⟩:=vT;have oG:=aq.1;have mz:∀ty,(Builtin.clear_ #[52] ty #[.slice (some ⟨g,o+m*14,none⟩) (j - m) (c - m)]).run prog wo= .ok (.tuple #[]) (wo.setCells g (o+m*14) (Builtin.zeroCells aX (j - m)).toList):=fun ty=>
    amV wo (j - m) (by omega) _ 36 ty (Value.agg aX) aX underlying52 amW rfl (amX _) g (o+m*14) _ (fun t ht=>by
     rw[acj] at ht;rw[oO,bg (m*14+t) (by omega),dW (by omega)]
     rfl) (fun t _=>qW _)
   have uN:=aq.front (k:=m) (zs:=(Builtin.zeroCells aX (j - m)).toList) (by omega);rw[yR 14 dX oS,PR] at uN;have lL:=Z (HR.O _ uN (cg HG.O (qZ _ _ _ _)));clear uN aq bg qW oG acj PR cp cJ he;go_wp2;exact lL.O
  have sN:(j:Int)<(n:Int):=by omega
  have PS:j<ps.length:=by have:=HL.O;omega
  have Up:j<cur.length:=by have:=mB.O;omega
  have vB:cur[j]=ps[j]:=by
   have h1:=congrArg (fun l=>l[0]?) Uo.O;simp only[List.getElem?_drop,add_zero,dW PS,dW Up,Option.some.injEq] at h1;exact h1
  obtain⟨g',o',vT,bg,qW⟩:=Cl.O.at (by omega);simp only[Option.some.injEq,Addr.mk.injEq,and_true] at vT;obtain⟨rfl,rfl⟩:=vT;have g_:=fun t (ht:t<14)=>(by rw[oO,bg (j*14+t) (by omega),kY 14 dX oS cur j t Up ht,vB]:wo.cell? ⟨g,o+j*14+t,none⟩=(dX ps[j])[t]?)
  have LJ:=Cq.O _ (getElem_mem PS);have cB:=Ip (rU now) ps j PS;have ack:cur.drop (j+1)=ps.drop (j+1):=by
   have h1:=congrArg (List.drop 1) Uo.O
   simpa [List.drop_drop] using h1
  obtain⟨⟨⟨v1,v2,v3⟩,x⟩,acm⟩:∃p,ps[j]=p:=⟨_,rfl⟩
  rw[acm] at g_ LJ cB;obtain⟨V,X,qa,qc,ea,ec,e⟩:=LJ;simp only[Prod.mk.injEq] at e;obtain⟨rfl,rfl,rfl⟩:=e;have HC:Hid (∀t,t<14→wo.cell? ⟨g,o+j*14+t,none⟩= (aG x V X qa qc ea ec:List Value)[t]?):=g_;obtain⟨b,U⟩:=ai (oJ x.note.aP now);have cT:=Z U;have jl:Hid ((ps.take (j+1)).filter (rU now)=(ps.take j).filter (rU now)++(if (!b)=true then [(((Value.slice V x.note.ay.length X,Value.slice qa x.note.props.length qc,Value.slice ea x.ids.length ec),x):V3×Im)] else [])):=by
   have:=cB;unfold rU at this⊢;simp only[U] at this;exact this
  have acn:=Z ack;have aw:Below wo wo (wo.alloc (.cells (aG x V X qa qc ea ec) 36)):=aD _ _;have hT:=aH wo (.cells (aG x V X qa qc ea ec) 36);have xb:(wo.alloc (.cells (aG x V X qa qc ea ec) 36)).heap[N]? =some (.cells #[E now] 3 (0,0)):=aA ((HG.O.block N (eI.1 HN.O).1 (fun e=>DE.O (Option.some.inj e))).trans HN.O) aw;obtain⟨ct,HT,uB⟩:=bX aw hT xb;clear bg g_ cB ack U acm vB aw hT xb Uo Up PS;go_upto_region 8 with(first
   |(refine iT 25 36 24 g ((o+j*14)) ((aG x V X qa qc ea ec)) HC.O underlying36 ?_))
  generalize wo.alloc (.cells (aG x V X qa qc ea ec) 36)=w1 at ct HT uB⊢;obtain⟨T,cQ⟩:=ai wo.heap.size;rw[cQ] at HT⊢;clear cQ;cases b with
  |true=>
   have Uq:Hid (cur.take i=(ps.take (j+1)).filter (rU now)):=by
    show _=_;rw[jl.O,nT.O];simp
   clear nT;go_wp2_with (first
    |(refine kJ 27 36 7 T HT.O underlying36 ?_)
    |(go_at_call 131;go_must(refine PM N now x V qa ea X qc ec true cT.O w1 (D 0 uB.O) _ ?_);intro w7 bp;have gE:=Z bp;clear bp))
   go_roundg (n - (j+1))
   case measure=>omega
   case rel=>
    have h7:Below wo wo w7:=aQ ct.O gE.O;exact⟨i,j+1,cur,rfl,by go_num,by omega,by omega,rfl,mB,Uq,acn,Z (Cl.O.below h7),Z (cg HG.O (ju h7))⟩
  |false=>
   have xL:i<n:=by omega
   have Uq:Hid ((cur.set i (((Value.slice V x.note.ay.length X,Value.slice qa x.note.props.length qc,Value.slice ea x.ids.length ec),x):V3×Im)).take (i+1)=(ps.take (j+1)).filter (rU now)):=by
    show _=_;have SG:i<cur.length:=by have:=mB.O;omega
    rw[jl.O,←nT.O,List.take_add_one,List.getElem?_set_self SG,List.take_set_of_le bj];simp
   have am2:Hid ((cur.set i (((Value.slice V x.note.ay.length X,Value.slice qa x.note.props.length qc,Value.slice ea x.ids.length ec),x):V3×Im)).drop (j+1)=ps.drop (j+1)):=by
    show _=_;rw[List.drop_set_of_lt (by omega)];exact acn.O
   clear nT;have Bv:(i:Int)<(n:Int):=by omega
   go_upto_region 9 with(first
    |(refine kJ 27 36 7 T HT.O underlying36 ?_)
    |(go_at_call 131;go_must(refine PM N now x V qa ea X qc ec false cT.O w1 (D 0 uB.O) _ ?_);intro w7 bp;have gE:=Z bp;have am3:=Z (aA HT.O bp);clear bp))
   have h7:Below wo wo w7:=aQ ct.O gE.O;have PT:=Cl.O.below h7;obtain⟨g',o',vT,bg,qW⟩:=PT.at (by omega);simp only[Option.some.injEq,Addr.mk.injEq,and_true] at vT;obtain⟨rfl,rfl⟩:=vT;have oG:=PT.1;have m_:Hid (∀t,t<((aG x V X qa qc ea ec):Array Value).size→(w7.cell? ⟨g,o+i*14+t,none⟩).isSome=true):=Z (fun t ht=>by
    have ht:t<14:=ht;rw[oO,bg (i*14+t) (by omega),dW (by omega)]
    rfl)
   have am4:Hid (∀t,t<((aG x V X qa qc ea ec):Array Value).size→w7.frozen? ⟨g,o+i*14+t,none⟩=false):=Z (fun t _=>qW _);have aco:=bh.put dX oS (by decide) mB.O xL PT (((Value.slice V x.note.ay.length X,Value.slice qa x.note.props.length qc,Value.slice ea x.ids.length ec),x):V3×Im);have am5:=Z aco;have zp:Hid (w.grownBy (w7.setCells g (o+i*14) (dX (((Value.slice V x.note.ay.length X,Value.slice qa x.note.props.length qc,Value.slice ea x.ids.length ec),x):V3×Im))) (some g)):=Z (cg (cg HG.O (ju h7)) (qZ _ _ _ _));clear bg qW oG aco PT h7;go_wp2_with (first
    |(refine kJ 32 36 7 T am3.O underlying36 ?_)
    |(refine EF (o:=⟨none,.store 36 (.tmp 33) (.tmp 32),_,_,_,_⟩) (by rfl) 36 (.tmp 33) (.tmp 32) (by rfl) g (o+i*14) (aG x V X qa qc ea ec) (by rfl) (by rfl) m_.O am4.O (by kernel_rfl) (by simp[Value.oneCell']) ?_))
   go_roundg (n - (j+1))
   case measure=>omega
   case rel=>exact⟨i+1,j+1,cur.set i (((Value.slice V x.note.ay.length X,Value.slice qa x.note.props.length qc,Value.slice ea x.ids.length ec),x):V3×Im),by go_num,by go_num,by omega,by omega,rfl,Z (by rw[qU];exact mB.O),Uq,am2,am5,zp⟩
variable{GB GM MB NB:Nat}{fv bY sv:Value}{w1:World}
theorem SX.Ti{ps:List (V3×Im)}{qs:List Im}(h:SX w M S NB MB GB GM sv qv fv s)(aZ:ps.map (·.2)=qs)(a_:∀p∈ps,dk w M p.1 p.2)
 (hr:bh w1 36 14 bY qs.length (ps.flatMap dX)) (ha:C3 w w1 qv bY) (kr:∀k,qv.ownBlock=some k→bw w k=36+2):
 ∃M',SX (w1.setCell ⟨S,6,none⟩ bY) M' S NB MB GB GM sv bY fv {s with queue:=qs}∧Sep M M' w (w1.setCell ⟨S,6,none⟩ bY)∧(∀b,M b→M' b)∧Lo S w (w1.setCell ⟨S,6,none⟩ bY) qv bY:=by
 obtain⟨K,A,hK⟩:∃K,w.grownBy w1 (some K)∧(M K∧bw w K=36+2∨w.heap.size≤K):=by
  exact X6
 have jG:∀k,bY.ownBlock=some k→M k∨w.heap.size≤k:=fun k G=>by
  exact X4
 have EA:∀k,bY.ownBlock=some k→k<w1.heap.size:=hr.lt
 let M':Nat→Prop:=fun b=>M b∨bY.ownBlock=some b
 have cH:Sep M M' w w1:=⟨A.os,A.tape,A.output,A.size,fun b U hM=>A.block b U (fun e=>by
  have e:=Option.some.inj e;rcases hK with⟨G,_⟩|G
  ·exact hM (e▸G)
  ·omega),fun b U=>by
  rcases U with U|U
  ·exact .inl U
  exact jG b U,fun awX ⟨m,hm,hl⟩=>⟨m,.inl hm,hl⟩⟩
 have bf:∀b,b<w.heap.size→bw w b≠36+2→w1.heap[b]? =w.heap[b]?:=fun b U G=>A.block b U (fun e=>by
  have e:=Option.some.inj e;rcases hK with⟨_,eB⟩|eB
  ·exact G (e▸eB)
  omega)
 have gG:∀{b t:Nat}{fr:Nat×Nat}{cs:Array Value},w.heap[b]? =some (.cells cs t fr)→b<w.heap.size:=fun h=>(eI.1 h).1;have jJ:=(bf S (gG h.hS) (by rw[j6 h.hS];decide)).trans h.hS;have iS:bw w1 S=94+2:=j6 jJ;have aO:SX (w1.setCell ⟨S,6,none⟩ bY) M' S NB MB GB GM sv bY fv {s with queue:=qs}:=by
  have bD:=br w1 ⟨S,6,none⟩ bY;have bF:Sep M' M' w1 (w1.setCell ⟨S,6,none⟩ bY):= .kV bD (fun k G=>by cases G;exact .inl h.mS);have aI:∀b,b<w1.heap.size→bw w1 b≠94+2→(w1.setCell ⟨S,6,none⟩ bY).heap[b]? =w1.heap[b]?:=fun b U G=>bD.block b U (fun e=>G (Option.some.inj e▸iS));have both:∀b,b<w.heap.size→bw w b≠36+2→bw w b≠94+2→(w1.setCell ⟨S,6,none⟩ bY).heap[b]? =w.heap[b]?:=fun b U k1 k2=>by
   exact Ez
  refine⟨?_,h.hn.vp (both _ (gG h.hn.1) (by rw[h.hn.kinds.1];decide) (by rw[h.hn.kinds.1];decide)) (both _ h.hn.2.lt (by rw[h.hn.kinds.2];decide) (by rw[h.hn.kinds.2];decide)),
   h.A.vp (both _ (gG h.A.1) (by rw[h.A.kinds.1];decide) (by rw[h.A.kinds.1];decide)) (both _ h.A.2.lt (by rw[h.A.kinds.2];decide) (by rw[h.A.kinds.2];decide)),
   jO h.W (fun k G=>both k (h.lt k (h.ms k G)) (by rw[eJ h.W k G];decide) (by rw[eJ h.W k G];decide)),?_,
   h.hf.sep (cH.trans bF) (fun k G=>both k (h.lt k (h.hf.own k G)) (by rw[h.hf.kind k G];decide) (by rw[h.hf.kind k G];decide)) (fun k G=> .inl (h.hf.own k G)),
   h.nb,h.nm,.inl h.mS,.inl h.mN,.inl h.mG,fun k G=> .inl (h.ms k G),?_,?_,?_⟩
  ·rw[bm w1 S 6 _ _ _ jJ]
   rfl
  ·exact⟨ps,aZ,hr.grown bD (.inl (hr.ne jJ (by decide))),fun p hp=>((a_ p hp).sep cH).sep bF,fun k G=> .inr G⟩
  ·rintro(hm|hm)
   ·exact h.q_ hm
   ·have h1:=hr.kind NB hm;exact Nw
  ·rintro(hm|hm)
   ·exact h.re hm
   ·have h1:=hr.kind GB hm;exact Nv
  ·rintro b (U|U)
   ·have:=h.lt b U;have:=A.size;simp only[World.setCell,Array.size_modify]
    omega
   ·have:=EA b U
    simpa [World.setCell] using this
 exact X5
theorem am6(S:Nat)(s:az)(now:Int)(d:Int)(hd:(s.queue.length:Int) - ((qK s.queue now).length:Int)=d)(hl:s.queue.length≤100000)(w:World)(M:Nat→Prop)(h:SR w M S s)(R:ak)
 (I:∀M' w',SR w' M' S {s with queue:=qK s.queue now}→Sep M M' w w'→R (.returned (E d)) w'):
 Calls prog 81 #[zq S,E now] w R:=by
 have HR:=Z I;obtain⟨NB,MB,GB,GM,sv,qv,fv,F⟩:=h;have aw:Below w w (w.alloc (.cells #[E now] 3)):=aD _ _;have hT:=aH w (.cells #[E now] 3);have aO:=F.below aw;obtain⟨w1,qm⟩:=ai (w.alloc (.cells #[E now] 3));rw[qm] at aw hT aO;obtain⟨ps,aZ,aq,a_,_⟩:=id aO.hq;obtain⟨n,hn⟩:=ai s.queue.length;have f_:ps.length=n:=by rw[←hn,←aZ];simp
 rw[hn] at aq hl hd;obtain⟨va,vc,rfl⟩:=aq.shape;obtain⟨m,hm⟩:=ai ((ps.filter (rU now)).length);have rI:(ps.filter (rU now)).map (·.2)=qK s.queue now:=by
  rw[qK,←aZ,List.filter_map]
  rfl
 have j3:(qK s.queue now).length=m:=by rw[←rI,j0,hm]
 rw[j3] at hd;have c6:=(ef aO.hS).2.2.1;obtain⟨yU,aV,je,jd,HM,am7,SJ,HT,ct,HD⟩:=Jn aO aq a_ f_ hm j3 rI hT aw hd;have Tv:m≤n:=by rw[←hm,←f_];exact List.length_filter_le _ _
 have abl:IntKind.i64.wrap ((n:Int) - (m:Int))=d:=by rw[IntKind.wrap_i64,←hd];omega
 clear I F aO aZ aq a_ hn f_ hm j3 rI hT aw hd;go_enter func81,ntmps81;go_wp2_with (go_at_call 130;go_must(refine amZ ps n jd.O va vc w.heap.size now hl w1 aV.O (fun p hp=>(je.O p hp).amY) HT.O m HM.O _ ?_);intro w3 G7 dz;have r3:=hZ dz yU.O.hS (aV.O.ne yU.O.hS (by decide));have EC:=(ef r3).2.2.1;have f63:=aC r3 6;have acp:=SX.Ti (bY:= .slice va m vc) (qs:=qK s.queue now) yU.O SJ.O (fun p hp=>je.O p (List.mem_filter.1 hp).1) (by rw[am7.O];exact G7) (.inl ⟨dz,by cases va<;>rfl⟩) aV.O.kind;have am8:=Z acp;clear G7 dz acp r3);obtain⟨M',jP,jQ,_,_⟩:=am8.O;exact HR.O M' _ ⟨NB,MB,GB,GM,sv,_,fv,jP⟩ ((Sep.cL ct.O).trans jQ)
