/- A part of the proof of SessionReads; no conditions. -/
import Derived.Test.YtgimbocoamnkjaaGreatDoorM02
import Derived.Lib.SliceRun
set_option maxRecDepth 100000
set_option maxHeartbeats 16000000
namespace Go.Proofs.YtgimbocoamnkjaaGreatDoor
open _root_.Go.Proofs.Tryz
variable{k:Nat}
open Go.RowKit
def dE{α:Type}(p:α→Bool)(l:List α):Int:=match l.findIdx? p with
 |some i=>(i:Int)
 |none=> -1
theorem C7{α:Type}{p:α→Bool}{l:List α}(G:k<l.length)(h:p l[k]=true)(ho:∀j (hj:j<k),p (l[j]'(by omega))=false):dE p l=k:=by
 unfold dE;rw[(List.findIdx?_eq_some_iff_getElem (p:=p) (xs:=l) (i:=k)).2 ⟨G,h,fun j hj=>by rw[ho j hj];simp⟩]
theorem C6{α:Type}{p:α→Bool}{l:List α}(h:∀x∈l,p x=false):dE p l= -1:=by
 unfold dE;rw[List.findIdx?_eq_none_iff.2 h]
theorem Ya(v:Value)(l:List Int)(d:Int)(z:Int)(hz:dE (fun x=>x==d) l=z)(hl:l.length≤1000000)(w:World)(hv:Is w v l)(R:ak)
 (I:R (.returned (E z)) w):
 Calls prog 141 #[v,E d] w R:=by
 obtain⟨HR,HV,HZ⟩:=bX I hv hz;obtain⟨va,vc,rfl,_⟩:=hv;clear I hz;go_enter func141,ntmps141;go_wp2;go_loopg [8] l.length (fun gn i wr=>∃k:Nat,k≤l.length∧gn=l.length - k∧i= .int .i64 k∧wr=w∧Hid (∀(j:Nat)(hj:j<k)(h:j<l.length),(l[j]==d)=false))
 case atStart=>exact⟨0,bP _,by omega,rfl,rfl,fun j hj=>by omega⟩
 case round=>
  obtain⟨k,G,rfl,rfl,rfl,HS⟩:=hrel;by_cases au:k<l.length
  ·have bo:(k:Int)<(l.length:Int):=by omega
   obtain⟨b,o,rfl,J⟩:=HV.O.at k au;by_cases he:d=l[k]
   ·have G9:(d==l[k])=true:=by simp[he]
    obtain rfl:z=(k:Int):=by
     rw[←HZ.O];exact C7 au (by simp[he]) (fun j hj=>HS.O j hj (by omega))
    go_wp2;exact HR.O
   have G9:(d==l[k])=false:=by simpa using he
   have HN:Hid (∀(j:Nat)(hj:j<k+1)(h:j<l.length),(l[j]==d)=false):=fun j hj h=>by
    by_cases e:j=k
    ·subst e
     simpa using fun h=>he h.symm
    exact HS.O j (by omega) h
   clear he HS;go_wp2;go_roundg (l.length - (k+1))
   case measure=>omega
   case rel=>exact⟨k+1,by omega,rfl,by go_num,rfl,HN⟩
  have bo:¬(k:Int)<(l.length:Int):=by omega
  obtain rfl:z= -1:=by
   exact X'
  go_wp2;exact HR.O
theorem ahE{l:List Int}{d:Int}:(decide (0≤dE (fun x=>x==d) l))=l.contains d:=by
 cases h:l.contains d with
 |true=>
  have hm:d∈l:=by simpa using h
  unfold dE;cases hf:l.findIdx? (fun x=>x==d) with
  |some i=>simp
  |none=>
   have:=List.findIdx?_eq_none_iff.1 hf d hm;simp at this
 |false=>
  have hm:d∉l:=by simpa using h
  rw[C6 (fun x F=>by
   simp only[beq_eq_false_iff_ne,ne_eq];rintro rfl;exact hm F)]
  rfl
theorem RW(v:Value)(l:List Int)(d:Int)(b:Bool)(U:l.contains d=b)(hl:l.length≤1000000)(w:World)(hv:Is w v l)(R:ak)
 (I:R (.returned (.bool b)) w):
 Calls prog 105 #[v,E d] w R:=by
 have HR:=Z I;have HV:=Z hv;obtain⟨z,hz⟩:∃z,dE (fun x=>x==d) l=z:=⟨_,rfl⟩
 have G_:decide (0≤z)=b:=by rw[←hz,←U];exact ahE
 have HZ:=Z hz;clear I U hz hv;cases b with
 |true=>
  have h0:0≤z:=by simpa using G_
  clear G_;go_enter func105,ntmps105;go_wp2_with (go_at_call 141;go_must(refine Ya v l d z HZ.O hl _ HV.O _ ?_));exact HR.O
 |false=>
  have h0:¬0≤z:=by simpa using G_
  clear G_;go_enter func105,ntmps105;go_wp2_with (go_at_call 141;go_must(refine Ya v l d z HZ.O hl _ HV.O _ ?_));show R (Ending.returned (Value.bool (decide (0≤z)))) w;rw[dN (show¬(0≤z) by omega)];exact HR.O
def mv(id:Int)(st:List Int)(f:Fl):Bool:=f.id==id&&st.contains f.state
theorem Yb(A4 A5:Nat)(c0 c1 c2 c3 c4 c5 c6 c7 c8 c9 fD iP iQ jN:Value)(dH fst:Int)(sv:Value)(id:Int)(st:List Int)(b:Bool)(U:(dH==id&&st.contains fst)=b)(w:World)(h4:w.cell? ⟨A4,0,none⟩=some (.int .i64 id))(h5:w.cell? ⟨A5,0,none⟩=some sv)(hv:Is w sv st)(hl:st.length≤1000000)(R:ak)
 (I:∀w',Below w w w'→R (.returned (.bool b)) w'):
 Calls prog 104 #[.agg #[E dH,E fst,c0,c1,c2,c3,c4,c5,c6,c7,c8,c9,fD,iP,iQ,jN],zq A4,zq A5] w R:=by
 have HR:=Z I;have aM:Below w w (w.alloc (.cells #[E dH,E fst,c0,c1,c2,c3,c4,c5,c6,c7,c8,c9,fD,iP,iQ,jN] 51)):=aD _ _;have bB:=Z aM;have HV:=Z (hv.below aM);have g4:=cell_later aM h4;have g5:=cell_later aM h5;obtain⟨sa,sc,rfl,_⟩:=hv;clear I aM h4 h5;by_cases he:dH=id
 ·have G9:(dH==id)=true:=by simp[he]
  have ri:st.contains fst=b:=by rw[←U,G9];rfl
  have cT:=Z ri;clear U ri he;go_enter func104,ntmps104;go_wp2_with (go_at_call 105;go_must(refine RW _ st fst b cT.O hl _ HV.O _ ?_));exact HR.O _ bB.O
 have G9:(dH==id)=false:=by simpa using he
 obtain rfl:false=b:=by rw[←U,G9];rfl
 clear U he;go_enter func104,ntmps104;go_wp2;exact HR.O _ bB.O
variable{B g:Nat}{w:World}
theorem JF{c:Nat}{ps:List (V3×Fl)}(h:w.ownsRow B 51 16 (.slice (some ⟨g,0,none⟩) ps.length c) ps.length (ps.flatMap bV))(G:k<ps.length):∀j,j<16→w.cell? ⟨g,k*16+j,none⟩=(bV ps[k])[j]?:=fun j hj=>by
 rw[h.cellAt (k*16+j) (by omega),kY 16 bV j5 ps k j G hj]
theorem ahF{α β:Type}(f:α→β)(p:β→Bool)(l:List α):dE p (l.map f)=dE (fun x=>p (f x)) l:=by
 unfold dE;rw[List.findIdx?_map]
 rfl
theorem ahG(fv:Value)(ps:List (V3×Fl))(id:Int)(st:List Int)(z:Int)(hz:dE (fun p:V3×Fl=>mv id st p.2) ps=z)(hl:ps.length≤1000000)(A4 A5:Nat)(sv:Value)(w:World)(hf:w.ownsRow 0 51 16 fv ps.length (ps.flatMap bV))
 (h4:w.cell? ⟨A4,0,none⟩=some (.int .i64 id)) (h5:w.cell? ⟨A5,0,none⟩=some sv) (hv:Is w sv st) (dm:st.length≤1000000) (R:ak)
 (I:∀w',Below w w w'→R (.returned (E z)) w'):
 Calls prog 103 #[fv,.func (.func 104) #[] #[zq A4,zq A5]] w R:=by
 obtain⟨HR,HF,HZ,H4,H5,HV⟩:=CN I hf hz h4 h5 hv;obtain⟨fa,fc,rfl⟩:=cR hf;clear I hz h4 h5 hv hf;go_enter func103,ntmps103;go_wp2;go_loopg [5,8] ps.length (fun gn _ i wr=>∃k:Nat,k≤ps.length∧gn=ps.length - k∧i= .int .i64 k∧Hid (Below w w wr)∧Hid (∀(j:Nat)(hj:j<k)(h:j<ps.length),mv id st (ps[j]).2=false))
 case atStart=>exact⟨0,bP _,by omega,rfl,Z dg,fun j hj=>by omega⟩
 case round=>
  obtain⟨k,G,rfl,rfl,HB,HS⟩:=hrel;obtain⟨wo,rfl⟩:∃x,x=wr:=⟨_,rfl⟩
  by_cases au:k<ps.length;rotate_left
  ·have bo:¬(k:Int)<(ps.length:Int):=by omega
   obtain rfl:z= -1:=by
    exact X'
   go_wp2;exact HR.O _ HB.O
  have bo:(k:Int)<(ps.length:Int):=by omega
  have aU:=aR HF.O HB.O;obtain⟨g,A⟩:=jF aU (by omega);subst A;have bg:=JF aU au;have HP:Hid (∀b,mv id st (ps[k]).2=b→(b=true→z=(k:Int))∧(b=false→∀(j:Nat)(hj:j<k+1)(h:j<ps.length),mv id st (ps[j]).2=false)):=by
   rintro b U;refine⟨fun e=> ?_,fun e j hj h=> ?_⟩
   ·rw[←HZ.O];exact C7 au (U.trans e) (fun j hj=>HS.O j hj (by omega))
   by_cases e2:j=k
   ·subst e2;exact U.trans e
   exact HS.O j (by omega) h
  obtain⟨⟨⟨v1,v2,v3⟩,⟨dH,fst,x⟩⟩,hp⟩:∃p,ps[k]=p:=⟨_,rfl⟩
  rw[hp] at bg HP;have HC:Hid (∀j,j<16→wo.cell? ⟨g,k*16+j,none⟩= [Value.int .i64 dH,E fst,.string (str x.note.aF),v1,.int .i64 x.note.ah,.bool x.note.aL,.string (str x.note.src),.int .i64 x.note.aP,v2,.int .i64 x.note.origin,.int .i64 x.note.number,.int .i64 x.note.aW,.int .i64 x.ah,.bool x.aI,v3,.string (str x.share)][j]?):=bg;obtain⟨b,U⟩:=ai (mv id st ⟨dH,fst,x⟩);have jf:=Z (HP.O b U);have cT:Hid ((dH==id&&st.contains fst)=b):=U;have G':Hid (wo.cell? ⟨A4,0,none⟩=some (.int .i64 id)):=cell_later HB.O H4.O;have JG:Hid (wo.cell? ⟨A5,0,none⟩=some sv):=cell_later HB.O H5.O;have gp:=Z (HV.O.below HB.O);clear aU bg U hp HS;cases b with
  |true=>
   obtain rfl:=jf.O.1 rfl;go_wp2_with (first
    |(refine iT 15 51 14 g (k*16) ([Value.int .i64 dH,E fst,.string (str x.note.aF),v1,.int .i64 x.note.ah,.bool x.note.aL,.string (str x.note.src),.int .i64 x.note.aP,v2,.int .i64 x.note.origin,.int .i64 x.note.number,.int .i64 x.note.aW,.int .i64 x.ah,.bool x.aI,v3,.string (str x.share)]) HC.O underlying51 ?_)
    |(go_at_call 104;go_must(refine Yb A4 A5 _ _ _ _ _ _ _ _ _ _ _ _ _ _ dH fst sv id st true cT.O wo G'.O JG.O gp.O dm _ ?_);intro w7 bp;have gE:=Z (aQ HB.O bp);clear bp))
   exact HR.O _ gE.O
  |false=>
   have HN:=Z (jf.O.2 rfl);go_wp2_with (first
    |(refine iT 15 51 14 g (k*16) ([Value.int .i64 dH,E fst,.string (str x.note.aF),v1,.int .i64 x.note.ah,.bool x.note.aL,.string (str x.note.src),.int .i64 x.note.aP,v2,.int .i64 x.note.origin,.int .i64 x.note.number,.int .i64 x.note.aW,.int .i64 x.ah,.bool x.aI,v3,.string (str x.share)]) HC.O underlying51 ?_)
    |(go_at_call 104;go_must(refine Yb A4 A5 _ _ _ _ _ _ _ _ _ _ _ _ _ _ dH fst sv id st false cT.O wo G'.O JG.O gp.O dm _ ?_);intro w7 bp;have gE:=Z (aQ HB.O bp);clear bp))
   go_roundg (ps.length - (k+1))
   case measure=>omega
   case rel=>exact⟨k+1,by omega,rfl,by go_num,gE,HN⟩
theorem C8(S:Nat)(s:az)(id:Int)(st:List Int)(z:Int)(hz:dE (mv id st) s.ag=z)(sv:Value)(w:World)(M:Nat→Prop)(h:SR w M S s)(hl:s.ag.length≤1000000)(hv:Is w sv st)(dm:st.length≤1000000)(R:ak)
 (I:∀w',Below w w w'→R (.returned (E z)) w'):
 Calls prog 42 #[zq S,E id,sv] w R:=by
 obtain⟨NB,MB,GB,GM,sb,qv,fv,F⟩:=h;have HR:=Z I;have gp:=hv;obtain⟨va,vc,rfl,_⟩:=gp;have aM:Below w w ((w.alloc (.cells #[E id] 3)).alloc (.cells #[.slice va st.length vc] 25)):=(aD _ _).alloc (by simp) _;have bB:=Z aM;have h4:=js (o':=(Obj.cells #[.slice va st.length vc] 25)) (aH w (.cells #[E id] 3));have h5:=aH (w.alloc (.cells #[E id] 3)) (.cells #[.slice va st.length vc] 25);have HV:=Z (hv.below aM);have aO:=F.below aM;obtain⟨ps,aZ,aq,_⟩:=aO.hf;have aV:=Z aq;obtain⟨fa,fc,rfl⟩:=cR aq;have c7:=(ef aO.hS).2.2.2.1;have bk:s.ag.length=ps.length:=by rw[←aZ];simp
 rw[←aZ,ahF] at hz;have HZ:=Z hz;have oR:=Z bk;have g4:Hid (((w.alloc (.cells #[E id] 3)).alloc (.cells #[.slice va st.length vc] 25)).cell? ⟨w,0,none⟩=some (.int .i64 id)):=D 0 h4;have g5:Hid (((w.alloc (.cells #[E id] 3)).alloc (.cells #[.slice va st.length vc] 25)).cell? ⟨w.heap.size+1,0,none⟩=some (.slice va st.length vc)):=by
  have:=D 0 h5;rw[show(w.alloc (.cells #[E id] 3)).heap.size=w.heap.size+1 by simp] at this;exact this
 have kZ:ps.length≤1000000:=by omega
 rw[bk] at aV c7;clear I F aO aZ aq bk hz aM h4 h5 hv hl;go_enter func42,ntmps42;go_wp2_with (go_at_call 103;go_must(refine ahG _ ps id st z HZ.O kZ w.heap.size (w.heap.size+1) _ _ aV.O g4.O g5.O HV.O dm _ ?_);intro w5 aE;have ib:=Z (aQ bB.O aE);clear aE);exact HR.O _ ib.O
theorem Yc{P:Prop}(h:P:=by
 obtain⟨b,o,e,J⟩:=bQ.2 (by omega);obtain rfl:=Option.some.inj e;rw[Addr.add_lit,J j ti];exact hj):P:=h
theorem Yd{P:Prop}(h:P:=by
 have h1:c≠k:=by omega
 have h2:n - k=1:=by omega
 simp[sizeOf,typeInfo,cp,cJ,sliced,h1,h2,Addr.add_lit]):P:=h
theorem Ye{P:Prop}(h:P:=by
 rw[←oj];exact cg (cg (ju vv) (qZ _ _ _ _)) (qZ _ _ _ _)):P:=h
open List (eraseIdx_eq_take_drop_succ length_eraseIdx_of_lt mem_of_mem_drop)
open Nat (add_zero)
variable{i:Nat}
theorem Zq{P:Program}(w:World)(t e ty:TypeId)(z:Value)(cs:Array Value)(ht:P.underlying t=some (.slice e))(hv:∀w,(zeroValue e).run P w= .ok z w)(hz:z.cells=cs)(h1:∀v∈cs.toList,v.oneCell'=true)(b o c:Nat)
 (J:∀j,j<cs.size→(w.cell? ⟨b,o+j,none⟩).isSome=true) (hf:∀j,j<cs.size→w.frozen? ⟨b,o+j,none⟩=false):
 (Builtin.clear_ #[t] ty #[.slice (some ⟨b,o,none⟩) 1 c]).run P w= .ok (.tuple #[]) (w.setCells b o cs.toList):=by
 have Ol:(Builtin.zeroCells z.cells 1).toList=cs.toList:=by
  rw[hz];apply List.ext_getElem
  ·simp[Builtin.zeroCells]
  intro i h1 h2;have h3:i<cs.size:=by simpa using h2
  simp[Builtin.zeroCells,Nat.mod_eq_of_lt h3,h3]
 have cB:=run_storeCells_cells (P:=P) b o cs.toList 0 w (by simpa using J) (by simpa using hf) h1;simp only[add_zero] at cB;simp[Builtin.clear_,run_underlying ht,hv,Ol,cB]
theorem ajq(w:World):(zeroValue 51).run prog w= .ok (Value.agg mo) w:=by kernel_rfl
theorem ajr:∀v∈(mo:Array Value).toList,v.oneCell'=true:=by
 intro v hv;simp only[List.mem_cons,qT,or_false] at hv;rcases hv with rfl|rfl|rfl|rfl|rfl|rfl|rfl|rfl|rfl|rfl|rfl|rfl|rfl|rfl|rfl|rfl<;>rfl
theorem Zr{c:Nat}{ps:List (V3×Fl)}(hi:i+(k - i)=k)(G:k+1=ps.length)(h:w.ownsRow B 51 16 (.slice (some ⟨g,0,none⟩) ps.length c) ps.length (ps.flatMap bV))(zs:List Value):
 ((w.setCells g (0+i*16) ((ps.drop (i+1)).flatMap bV)).setCells g (k*16) zs).ownsRow B 51 16 (.slice (some ⟨g,0,none⟩) k c) k ((ps.eraseIdx i).flatMap bV):=by
 have bk:(ps.eraseIdx i).length=k:=by rw[length_eraseIdx_of_lt (by omega)];omega
 refine⟨by rw[fY 16 bV j5,bk],?_⟩;rcases h.2 with⟨hv,h0⟩|⟨g',cap,cur,hv,hB,A,h1,h2,h3,h4⟩
 ·cases hv
 simp only[Value.slice.injEq,Option.some.injEq,Addr.mk.injEq] at hv;obtain⟨⟨rfl,-,-⟩,-,rfl⟩:=hv;obtain⟨ks,k1,k2,k3⟩:=pB g 51 ((ps.drop (i+1)).flatMap bV) (0+i*16) w cur A;obtain⟨kj,m1,m2,m3⟩:=pB g 51 zs (k*16) _ ks k1;refine .inr ⟨g,c,kj,rfl,hB,m1,by omega,h2,by rw[m2,k2];exact h3,?_⟩;have gK:((ps.drop (i+1)).flatMap bV).length=(k - i) *16:=by
  rw[fY 16 bV j5,dw]
  congr 1
  omega
 have dQ:ps.length*16≤cur.size:=by
  have:=congrArg List.length h4;rw[fY 16 bV j5,bS] at this;simp at this
  omega
 have bZ:∀j,j<ps.length*16→cur[j]? =(ps.flatMap bV)[j]?:=fun j hj=>by
  rw[←h4,ml,if_pos hj];simp
 apply List.ext_getElem?;intro j;rw[ml];by_cases hj:j<k*16
 ·rw[if_pos hj];have e0:kj.toList[j]? =kj[j]?:=by simp
  rw[e0,m3,if_neg (by omega),k3,gK,eraseIdx_eq_take_drop_succ,jZ];have iX:((ps.take i).flatMap bV).length=i*16:=by
   rw[fY 16 bV j5,bS]
   congr 1
   omega
  by_cases oB:j<i*16
  ·rw[if_neg (by omega),bZ j (by omega),ug (by rw[iX];exact oB),←yR 16 bV j5,ml,if_pos oB]
  rw[if_pos (by omega),yH (by rw[iX];omega),iX]
  congr 1
  omega
 rw[if_neg hj,xz (by rw[fY 16 bV j5,bk];omega)]
theorem ajs(g c:Nat)(ps:List (V3×Fl))(i:Nat)(hi:i<ps.length)(hl:ps.length≤100000)(w:World)(uA:∀u∈ps.flatMap bV,u.oneCell'=true)(hf:w.ownsRow 0 51 16 (.slice (some ⟨g,0,none⟩) ps.length c) ps.length (ps.flatMap bV))(R:ak)
 (I:∀w',w'.ownsRow 0 51 16 (.slice (some ⟨g,0,none⟩) (ps.length - 1) c) (ps.length - 1) ((ps.eraseIdx i).flatMap bV)→w.grownBy w' (some g)→R (.returned (.slice (some ⟨g,0,none⟩) (ps.length - 1) c)) w'):
 Calls prog 107 #[.slice (some ⟨g,0,none⟩) ps.length c,E i,.int .i64 ((i:Int)+1)] w R:=by
 have HR:=Z I;have HF:=Z hf;clear I hf;obtain⟨k,G⟩:∃k,k+1=ps.length:=⟨ps.length - 1,by omega⟩
 obtain⟨n,hn⟩:=ai ps.length;have jh:n - 1=k:=by omega
 have jv:=(bh.iG HF.O).cap;obtain⟨i0,cp,_,cJ,_⟩:=info_parts yS;have xL:i<n:=by omega
 have vv:Below w w w.drew:=bq w;have aq:=(bh.iG HF.O)
 obtain⟨ax,dm,bE,kt⟩:=bh.from (k:=i+1) aq underlying48 cp cJ (by omega);rw[C4 16 bV j5] at bE;have SE:∃awY,ax=some awY:=by
  cases ax with
  |some awY=>exact⟨awY,rfl⟩
  |none=>cases kt
 obtain⟨awY,rfl⟩:=SE;have bQ:=(bE.below vv).rd;have nx:∀j u,((ps.drop (i+1)).flatMap bV)[j]? =some u→w.drew.cell? (awY.add j)=some u:=fun j u hj=>by
  have ti:j<(ps.length - (i+1)) *16:=by
   rw[←bQ.1];exact(qe.1 hj).1
  exact Yc
 have lO:=bQ.1;have Kf:∀j,j<((ps.drop (i+1)).flatMap bV).length→(w.drew.cell? ⟨g,0+i*16+j,none⟩).isSome=true∧w.drew.frozen? ⟨g,0+i*16+j,none⟩=false:=fun j hj=>by
  rw[lO] at hj;have h0:=aR HF.O vv;refine⟨?_,h0.frozenAt _⟩;rw[h0.cellAt _ (by omega),dW (by rw[fY 16 bV j5];omega)]
  rfl
 have Kg:∀u∈(ps.drop (i+1)).flatMap bV,u.oneCell'=true:=fun u hu=>uA u (by
  obtain⟨p,hp,hu⟩:=List.mem_flatMap.1 hu;exact List.mem_flatMap.2 ⟨p,mem_of_mem_drop hp,hu⟩)
 obtain⟨W1,oj⟩:=ai (w.drew.setCells g (0+i*16) ((ps.drop (i+1)).flatMap bV));have cD:=Zr (i:=i) (k:=k) (by omega) G (aR HF.O vv) (mo:Array Value).toList;have Kh:=Zr (i:=i) (k:=k) (by omega) G (aR HF.O vv) [];have By:w.grownBy (W1.setCells g (k*16) (mo:Array Value).toList) (some g):=by
  exact Ye
 rw[oj] at cD Kh;have mz:∀ty,(Builtin.clear_ #[48] ty #[.slice (some ⟨g,k*16,none⟩) 1 (c - k)]).run prog W1= .ok (.tuple #[]) (W1.setCells g (k*16) (mo:Array Value).toList):=fun ty=>by
  obtain⟨ks,k1,k2,_⟩:∃ks:Array Value,W1.heap[g]? =some (.cells ks 51 (0,0))∧n*16≤ks.size∧True:=by
   rcases(aR HF.O vv).2 with⟨hv,h0⟩|⟨g',cap,cur,hv,hB,A,h1,h2,h3,h4⟩
   ·cases hv
   simp only[Value.slice.injEq,Option.some.injEq,Addr.mk.injEq] at hv;obtain⟨⟨rfl,-,-⟩,-,rfl⟩:=hv;obtain⟨ks,k1,k2,k3⟩:=pB g 51 ((ps.drop (i+1)).flatMap bV) (0+i*16) w.drew cur A;rw[oj] at k1;have:=congrArg List.length h4;rw[fY 16 bV j5,bS] at this;simp at this;exact⟨ks,k1,by omega,trivial⟩
  refine Zq W1 _ 51 ty (Value.agg mo) _ underlying48 ajq rfl ajr g (k*16) _ (fun j hj=> ?_) (fun j hj=> ?_)
  ·have hj:j<16:=hj;rw[oP W1 g _ ks _ _ k1,Array.getElem?_eq_getElem (by omega)]
   rfl
  exact frozen_of_row W1 g _ ks _ k1
 have he:prog.elem 48=51:=by simp[Program.elem,underlying48]
 have bF:∀w',(Instr.slice 48 (.slice (some ⟨g,0,none⟩) k c) (some (E (k:Int))) (some (E (n:Int))) none).run prog w'= .ok (.slice (some ⟨g,k*16,none⟩) 1 (c - k)) w':=fun w'=>by
  rw[run_slice_lh (P:=prog) w' _ _ k c (by rw[he];exact underlying48) .i64 .i64 k n (by omega) (by omega) (by omega),he];exact Yd
 replace dm:∀w',(Instr.slice 48 (.slice (some ⟨g,0,none⟩) n c) (some (.int .i64 ((i:Int)+1))) none none).run prog w'= .ok (.slice (some awY) (n - (i+1)) (c - (i+1))) w':=fun w'=>by
  have:=dm w';rw[hn] at this;exact this
 rw[hn] at jv aq bE kt⊢;rw[hn,jh] at HR;obtain⟨lL,SF,HW,HN,zr,BT⟩:=CN cD By oj nx Kf Kg;have zt:Hid (((ps.drop (i+1)).flatMap bV).length=(n - (i+1)) *16):=by show _=_;rw[←hn];exact lO
 have vk:i+(n - (i+1))=k:=by omega
 have Ki:=Z vk;have SG:i≤c:=by omega
 have ajt:i+1≤c:=by omega
 have Bv:((i:Int)==(i:Int)+1)=false:=by simp;omega
 clear cD Kh By oj nx Kf Kg lO vk bQ aq bE kt uA vv hn G;go_enter func107,ntmps107;go_wp2_with fail;go_region_law (refine step_append_room rfl (.tmp 22) (.tmp 25) 48 rfl 51 i0 16 underlying48 cp cJ g 0 i c (by rfl) awY (n - (i+1)) (c - (i+1)) _ (by rfl) zt.O HN.O BT.O (by omega) zr.O ?_;rw[HW.O,Ki.O]);go_wp2;exact HR.O _ lL.O SF.O
open List (getElem_mem)
variable{z:Int}{M:Nat→Prop}
theorem Zs{ps:List (V3×Fl)}(h:∀p∈ps,dk w M p.1 p.2.item):∀u∈ps.flatMap bV,u.oneCell'=true:=by
 intro u hu;obtain⟨p,hp,hu⟩:=List.mem_flatMap.1 hu;unfold bV at hu;rcases List.mem_cons.1 hu with rfl|hu
 ·rfl
 rcases List.mem_cons.1 hu with rfl|hu
 ·rfl
 exact(h p hp).X0 u hu
theorem SI(S:Nat)(s:az)(i:Nat)(hi:i<s.ag.length)(hl:s.ag.length≤100000)(d:Int)(hd:(s.ag[i]).id=d)(hI:iR d)(w:World)(M:Nat→Prop)(h:SR w M S s)(R:ak)
 (I:∀M' w',SR w' M' S {s with bJ:=s.bJ.erase d,ag:=s.ag.eraseIdx i}→Sep M M' w w'→R (.returned (.tuple #[])) w'):
 Calls prog 43 #[zq S,E i] w R:=by
 obtain⟨NB,MB,GB,GM,sv,qv,fv,F⟩:=h;have HR:=Z I;obtain⟨ps,aZ,aq,a_,aU⟩:=id F.hf;have bk:s.ag.length=ps.length:=by rw[←aZ];simp
 have oC:i<ps.length:=by omega
 have pA:ps.length≤100000:=by omega
 rw[bk] at aq;obtain⟨fa,fc,oV⟩:=cR aq;subst oV;obtain⟨g,A⟩:=jF aq (by omega);subst A;have kI:Below w w w.drew:=bq w;have aO:=F.below kI;have c0:=(ef aO.hS).1.1;have c7:=(ef aO.hS).2.2.2.1;have sA:=aR aq kI;have Zu:(ps[i]).2.id=d:=by
  rw[←hd];have:s.ag[i]=(ps[i]).2:=by
   have h2:=congrArg (fun l=>l[i]?) aZ;simp only[List.getElem?_map,dW oC,dW hi,Option.map_some] at h2;exact(Option.some.inj h2).symm
  rw[this]
 have aju:w.drew.cell? ⟨g,i*16,none⟩=some (.int .i64 d):=by
  have:=JF sA oC 0 (by omega);rw[add_zero] at this;rw[this,←Zu]
  rfl
 obtain⟨b,U⟩:=ai (s.bJ.contains d);have ajv:(i:Int)<(ps.length:Int):=by omega
 have rI:(ps.eraseIdx i).map (·.2)=s.ag.eraseIdx i:=by rw[←aZ,eraseIdx_eq_take_drop_succ,eraseIdx_eq_take_drop_succ,nv,List.map_take,List.map_drop]
 have fw:(s.ag.eraseIdx i).length=ps.length - 1:=by rw[length_eraseIdx_of_lt hi,bk]
 obtain⟨HX,HB,SJ,Fo,oR⟩:=jq aO U rI fw bk;have je:=Z (show∀p∈ps,dk w.drew M p.1 p.2.item from fun p hp=>(a_ p hp).sep (.cL kI));have aV:=Z sA;have iH:=Z (Sep.cL (M:=M) kI);clear I aZ aq a_ aU F aO sA U rI fw kI Zu bk hi hl hd;go_enter func43,ntmps43;go_wp2_with fail;go_region_law (first
  |(go_simp;go_at_call 106;refine XW NB MB s.bJ d hI b HB.O w.drew HX.O.hn _ ?_;intro w3 zu dz))
 all_goals
  obtain⟨dq,ik⟩:=SX.RT HX.O dz zu;have rJ:=jO aV.O (fun k G=>dz.block k ((aV.O.lt k G).2) (fun e=>by
   have h1:=eJ aV.O k G;have h2:=HX.O.hn.2.kind;rw[Option.some.inj e,h2] at h1
   revert h1
   decide))
  have BU:=(ef dq.hS).2.2.2.1;have ji:=Z dq;have ku:=Z (iH.O.trans ik);have Om:=Z rJ;have Zv:=Z (show∀p∈ps,dk w3 M p.1 p.2.item from fun p hp=>(je.O p hp).sep ik);clear dq ik rJ zu dz c0 c7 aju;go_wp2_with (first
   |(go_at_call 107;go_must(refine ajs g fc ps i oC pA w3 (Zs Zv.O) Om.O _ ?_);intro w5 fE gZ;have r5:=hZ gZ ji.O.hS (i_ ji.O.hS Om.O (by decide));have Fp:=(ef r5).2.2.2.1;have f75:=aC r5 7;have ajw:=Z fE;have wS:=Z gZ;clear fE gZ r5))
  obtain⟨M7,iz,xM,_⟩:=SX.mP (ek:= .slice (some ⟨g,0,none⟩) (ps.length - 1) fc) (fs:=s.ag.eraseIdx i) (ps:=ps.eraseIdx i) ji.O SJ.O (fun p hp=>Zv.O p (List.mem_of_mem_eraseIdx hp)) (by rw[Fo.O];exact ajw.O) wS.O (.inl rfl);go_end0;exact HR.O _ _ ⟨NB,MB,GB,GM,sv,qv,_,iz⟩ (ku.O.trans xM)
theorem zv{α:Type}{p:α→Bool}{l:List α}(h:dE p l=z)(hz:0≤z):∃(k:Nat)(G:k<l.length),z=(k:Int)∧p l[k]=true∧∀j (hj:j<k),p (l[j]'(by omega))=false:=by
 unfold dE at h;cases hf:l.findIdx? p with
 |none=>rw[hf] at h;simp only at h;omega
 |some i=>
  rw[hf] at h;obtain⟨h1,h2,h3⟩:=List.findIdx?_eq_some_iff_getElem.1 hf;exact⟨i,h1,h.symm,h2,fun j hj=>by simpa using h3 j hj⟩
theorem BV{α:Type}{p:α→Bool}{l:List α}(h:dE p l=z)(hz:z<0):z= -1∧∀x∈l,p x=false:=by
 unfold dE at h;cases hf:l.findIdx? p with
 |none=>
  rw[hf] at h;exact⟨h.symm,List.findIdx?_eq_none_iff.1 hf⟩
 |some i=>rw[hf] at h;simp only at h;omega
def kM(s:az)(z:Int):az:=if z<0 then s else {s with bJ:=s.bJ.erase ((s.ag[z.toNat]?.map (·.id)).getD 0),ag:=s.ag.eraseIdx z.toNat}
theorem Zw{x:Int}:Is (w.alloc (.cells #[Value.int .i64 x] 3)) (.slice (some ⟨w,0,none⟩) 1 1) [x]:=
 ⟨_,1,rfl,dO w #[Value.int .i64 x] 3 1 1 rfl,Nat.le_refl _,by decide,fun h=>by cases h⟩
theorem ajx{x y:Int}:Is (w.alloc (.cells #[Value.int .i64 x,Value.int .i64 y] 3)) (.slice (some ⟨w,0,none⟩) 2 2) [x,y]:=
 ⟨_,2,rfl,dO w #[Value.int .i64 x,Value.int .i64 y] 3 1 2 rfl,Nat.le_refl _,by decide,fun h=>by cases h⟩
theorem Zx{P:Prop}(h:P:=by
 have:=HR.O M5 w5 (by rw[HL.O];exact ff.O) ((Sep.cL cq.O).trans nH.O);rw[eN (by omega)] at this;exact this):P:=h
theorem Zy(S:Nat)(s:az)(id:Int)(z:Int)(hz:dE (mv id [1]) s.ag=z)(hid:∀f∈s.ag,iR f.id)(hl:s.ag.length≤100000)(w:World)(M:Nat→Prop)(h:SR w M S s)(R:ak)
 (I:∀M' w',SR w' M' S (kM s z)→Sep M M' w w'→R (.returned (.bool (decide (0≤z)))) w'):
 Calls prog 12 #[zq S,E id] w R:=by
 have HR:=Z I;have aM:Below w w (w.alloc (.cells #[Value.int .i64 1] 3)):=aD _ _;have bB:=Z aM;have H1:=Z (h.below aM);have HI:=Z (Zw (w:=w) (x:=1));have HZ:=Z hz;clear I aM h hz;by_cases h0:0≤z
 ·obtain⟨i,hi,rfl,_,_⟩:=zv HZ.O h0;have hI:=hid _ (getElem_mem hi);obtain⟨d,hd⟩:=ai ((s.ag[i]).id);rw[hd] at hI;have HL:Hid (kM s (i:Int)={s with bJ:=s.bJ.erase d,ag:=s.ag.eraseIdx i}):=by
   show _=_;unfold kM;rw[if_neg (by omega)];simp[dW hi,hd]
  clear hid;go_enter func12,ntmps12;go_wp2_with (first
   |(go_at_call 42;go_must(refine C8 S s id [1] (i:Int) HZ.O _ _ M H1.O (aJ hl (by decide)) HI.O (by decide) _ ?_);intro w3 an;have cq:=Z (aQ bB.O an);have H3:=Z (H1.O.below an);clear an)
   |(go_at_call 43;go_must(refine SI S s i hi hl d hd hI w3 M H3.O _ ?_);intro M5 w5 bu jj;have ff:=Z bu;have nH:=Z jj;clear bu jj))
  exact Zx
 obtain⟨rfl,_⟩:=BV HZ.O (by omega);clear hid;go_enter func12,ntmps12;go_wp2_with (go_at_call 42;go_must(refine C8 S s id [1] (-1) HZ.O _ _ M H1.O (aJ hl (by decide)) HI.O (by decide) _ ?_);intro w3 an;have cq:=Z (aQ bB.O an);have H3:=Z (H1.O.below an);clear an);exact HR.O M w3 H3.O (Sep.cL cq.O)
theorem ajy(S:Nat)(s:az)(id:Int)(z:Int)(hz:dE (mv id [3]) s.ag=z)(hid:∀f∈s.ag,iR f.id)(hl:s.ag.length≤100000)(w:World)(M:Nat→Prop)(h:SR w M S s)(R:ak)
 (I:∀M' w',SR w' M' S (kM s z)→Sep M M' w w'→R (.returned (.bool (decide (0≤z)))) w'):
 Calls prog 18 #[zq S,E id] w R:=by
 have HR:=Z I;have aM:Below w w (w.alloc (.cells #[Value.int .i64 3] 3)):=aD _ _;have bB:=Z aM;have H1:=Z (h.below aM);have HI:=Z (Zw (w:=w) (x:=3));have HZ:=Z hz;clear I aM h hz;by_cases h0:0≤z
 ·obtain⟨i,hi,rfl,_,_⟩:=zv HZ.O h0;have hI:=hid _ (getElem_mem hi);obtain⟨d,hd⟩:=ai ((s.ag[i]).id);rw[hd] at hI;have HL:Hid (kM s (i:Int)={s with bJ:=s.bJ.erase d,ag:=s.ag.eraseIdx i}):=by
   show _=_;unfold kM;rw[if_neg (by omega)];simp[dW hi,hd]
  clear hid;go_enter func18,ntmps18;go_wp2_with (first
   |(go_at_call 42;go_must(refine C8 S s id [3] (i:Int) HZ.O _ _ M H1.O (aJ hl (by decide)) HI.O (by decide) _ ?_);intro w3 an;have cq:=Z (aQ bB.O an);have H3:=Z (H1.O.below an);clear an)
   |(go_at_call 43;go_must(refine SI S s i hi hl d hd hI w3 M H3.O _ ?_);intro M5 w5 bu jj;have ff:=Z bu;have nH:=Z jj;clear bu jj))
  exact Zx
 obtain⟨rfl,_⟩:=BV HZ.O (by omega);clear hid;go_enter func18,ntmps18;go_wp2_with (go_at_call 42;go_must(refine C8 S s id [3] (-1) HZ.O _ _ M H1.O (aJ hl (by decide)) HI.O (by decide) _ ?_);intro w3 an;have cq:=Z (aQ bB.O an);have H3:=Z (H1.O.below an);clear an);exact HR.O M w3 H3.O (Sep.cL cq.O)
theorem Zz{P:Prop}(h:P:=by
 have:=congrArg List.length e4;rw[fY 16 bV j5,bS] at this;simp at this
 omega):P:=h
theorem ZA{P:Prop}(h:P:=by
 rw[←hf];have h2:=congrArg (fun l=>l[i]?) aZ;simp only[List.getElem?_map,dW oC,dW hi,Option.map_some] at h2;exact Option.some.inj h2):P:=h
open List (getElem_set_ne mem_or_eq_of_mem_set)
open Nat (mod_lt)
variable{fine:Bool}{f:Fl}{x:Im}{GB GM MB NB S:Nat}{s:az}{fv qv sv:Value}{w1:World}
def lx(x:Im):Im:=⟨⟨x.note.aF,[],0,false,[],0,[],0,0,0⟩,2,false,[],[]⟩
theorem ajz(h:fX x):fX (lx x):=⟨⟨h.n.t,by simp[lx],by simp[lx],by simp[lx],by simp[lx],by simp[lx]⟩,by simp[lx],by simp[lx],by simp[lx]⟩
theorem ajA(w:World)(x:Im):ie w (.slice none 0 0) (.slice none 0 0) (.slice none 0 0) (lx x):=
 ⟨⟨none,0,rfl,⟨rfl,fun h=>by simp[lx] at h⟩,Nat.le_refl _,by decide,fun _=>rfl⟩,⟨none,0,rfl,Nat.le_refl _,by decide,fun _=>rfl,fun h=>by simp[lx] at h⟩,⟨none,0,rfl,⟨rfl,fun h=>by simp[lx] at h⟩,Nat.le_refl _,by decide,fun _=>rfl⟩⟩
theorem ZB(w:World)(h:fX x):dk w M (.slice none 0 0,.slice none 0 0,.slice none 0 0) (lx x):=⟨fun _ w' _=>ajA w' x,ajz h⟩
theorem SX.SK{ps:List (V3×Fl)}{fs:List Fl}(h:SX w M S NB MB GB GM sv qv fv s)(hv:fv.ownBlock=some g)(aZ:ps.map (·.2)=fs)(a_:∀p∈ps,dk w M p.1 p.2.item)
 (hr:w1.ownsRow 0 51 16 fv fs.length (ps.flatMap bV)) (A:w.grownBy w1 (some g)):SX w1 M S NB MB GB GM sv qv fv {s with ag:=fs}∧Sep M M w w1:=by
 have G:=h.hf.kind g hv;have W:Sep M M w w1:= .kV A (fun k G=>by cases G;exact h.hf.own g hv);obtain⟨p1,p2,p3,p4,p5,_⟩:=h.parts g A (fun _ hm=>hm) W;refine⟨⟨(p1 (by rw[G];decide)).trans h.hS,p2 (fun e=> ?_) (by rw[G];decide),p3 (fun e=> ?_) (by rw[G];decide),p4 (by rw[G];decide),p5 (by rw[G];decide),⟨ps,aZ,hr,fun p hp=>(a_ p hp).sep W,h.hf.own⟩,h.nb,h.nm,h.mS,h.mN,h.mG,h.ms,h.q_,h.re,fun b U=>eV (h.lt b U) A.size⟩,W⟩
 ·have:=h.hn.kinds.2;rw[←e,G] at this
  revert this
  decide
 have:=h.A.kinds.2;rw[←e,G] at this
 revert this
 decide
theorem ajB{c:Nat}{ps:List (V3×Fl)}(G:k<ps.length)(h:w.ownsRow 0 51 16 (.slice (some ⟨g,0,none⟩) ps.length c) ps.length (ps.flatMap bV))(u:Value)(vs:List Value)(p:V3×Fl)
 (h0:(bV p)[0]? =(bV ps[k])[0]?) (h1:(bV p)[1]? =some u) (h2:∀j,j<14→(bV p)[j+2]? =vs[j]?) (hv:vs.length=14):
 ((w.setCell ⟨g,k*16+1,none⟩ u).setCells g (k*16+2) vs).ownsRow 0 51 16 (.slice (some ⟨g,0,none⟩) ps.length c) ps.length ((ps.set k p).flatMap bV):=by
 have bk:(ps.set k p).length=ps.length:=by simp
 refine⟨by rw[fY 16 bV j5,bk],?_⟩;rcases h.2 with⟨hv,h0⟩|⟨g',cap,cur,gp,hB,A,e1,e2,e3,e4⟩
 ·cases hv
 simp only[Value.slice.injEq,Option.some.injEq,Addr.mk.injEq] at gp;obtain⟨⟨rfl,-,-⟩,-,rfl⟩:=gp;have k1:=bm w g (k*16+1) cur _ u A;obtain⟨kj,m1,m2,m3⟩:=pB g 51 vs (k*16+2) _ _ k1;refine .inr ⟨g,c,kj,rfl,hB,m1,e1,e2,by rw[m2,Array.size_setIfInBounds];exact e3,?_⟩;have dQ:ps.length*16≤cur.size:=by
  exact Zz
 have bZ:∀j,j<ps.length*16→cur[j]? =(ps.flatMap bV)[j]?:=fun j hj=>by
  rw[←e4,ml,if_pos hj];simp
 apply List.ext_getElem?;intro j;rw[ml];by_cases hj:j<ps.length*16;rotate_left
 ·rw[if_neg hj,xz (by rw[fY 16 bV j5,bk];omega)]
 rw[if_pos hj];have e0:kj.toList[j]? =kj[j]?:=by simp
 have hi:j / 16<ps.length:=by omega
 have hr:j % 16<16:=mod_lt _ (by omega);have oB:j / 16*16+j % 16=j:=by omega
 have W:=kY 16 bV j5 (ps.set k p) (j / 16) (j % 16) (by simpa using hi) hr;have ho:=kY 16 bV j5 ps (j / 16) (j % 16) hi hr;rw[oB] at W ho;have ajC:k*16+2+14≤ps.length*16:=by omega
 rw[e0,m3,W,hv];by_cases wI:j / 16=k
 ·have mA:(ps.set k p)[j / 16]'(by simpa using hi)=p:=by simp[wI]
  rw[mA];by_cases c1:k*16+2≤j
  ·rw[if_pos (by simp only[Array.size_setIfInBounds];omega)];have:=h2 (j - (k*16+2)) (by omega);rw[←this]
   congr 1
   omega
  rw[if_neg (by omega),Array.getElem?_setIfInBounds];by_cases c2:k*16+1=j
  ·rw[if_pos c2,if_pos (by omega),show j % 16=1 by omega,h1]
  rw[if_neg c2,bZ j hj,ho,show j % 16=0 by omega,h0]
  congr 2
  have:ps[j / 16]=ps[k]:=by congr
  rw[this]
 have mA:(ps.set k p)[j / 16]'(by simpa using hi)=ps[j / 16]:=by
  rw[getElem_set_ne (by omega)]
 rw[mA,if_neg (by omega),Array.getElem?_setIfInBounds,if_neg (by omega),bZ j hj,ho]
def BW(s:az)(z:Int)(fine:Bool):az×Bool×Bool:=match s.ag[z.toNat]? with
 |none=>(s,false,false)
 |some f=>if z<0 then (s,false,false) else if f.state=3 then (s,true,true) else if fine=false then (kM s z,true,false) else ({s with ag:=s.ag.set z.toNat ⟨f.id,3,lx f.item⟩},true,true)
theorem Kj(h:z<0):BW s z fine=(s,false,false):=by
 unfold BW
 split
 ·rfl
 rw[if_pos h]
theorem On(h:i<s.ag.length):BW s (i:Int) fine=if (s.ag[i]).state=3 then (s,true,true) else if fine=false then (kM s i,true,false) else ({s with ag:=s.ag.set i ⟨(s.ag[i]).id,3,lx (s.ag[i]).item⟩},true,true):=by
 unfold BW;simp[dW h];intro h0
 omega
theorem SR.Dr(h:SR w M S s)(hi:i<s.ag.length)(hf:s.ag[i]=f):∃NB MB GB GM sv qv g n fc v1 v2 v3,∃ps:List (V3×Fl),SX w M S NB MB GB GM sv qv (.slice (some ⟨g,0,none⟩) n fc) s∧n=s.ag.length∧ps.map (·.2)=s.ag∧∃oC:i<ps.length,ps[i]=((v1,v2,v3),f)∧ps.length=n∧
 w.ownsRow 0 51 16 (.slice (some ⟨g,0,none⟩) n fc) n (ps.flatMap bV)∧(∀p∈ps,dk w M p.1 p.2.item)∧(∀j,j<16→w.cell? ⟨g,i*16+j,none⟩= [Value.int .i64 f.id,.int .i64 f.state,.string (str f.item.note.aF),v1,.int .i64 f.item.note.ah,.bool f.item.note.aL,.string (str f.item.note.src),.int .i64 f.item.note.aP,v2,.int .i64 f.item.note.origin,.int .i64 f.item.note.number,.int .i64 f.item.note.aW,.int .i64 f.item.ah,.bool f.item.aI,v3,.string (str f.item.share)][j]?)∧w.cell? ⟨g,i*16+1,none⟩=some (.int .i64 f.state)∧w.cell? ⟨g,i*16+2,none⟩=some (.string (str f.item.note.aF))∧(i:Int)<(n:Int)∧w.frozen? ⟨g,i*16+1,none⟩=false:=by
 obtain⟨NB,MB,GB,GM,sv,qv,fv,F⟩:=h;obtain⟨ps,aZ,aq,a_,aU⟩:=id F.hf;have bk:s.ag.length=ps.length:=by rw[←aZ];simp
 have oC:i<ps.length:=by omega
 have ajD:=aq;rw[bk] at aq;obtain⟨fa,fc,oV⟩:=cR aq;subst oV;obtain⟨g,A⟩:=jF aq (by omega);subst A;have pL:(ps[i]).2=f:=by
  exact ZA
 have J:=JF aq oC;obtain⟨⟨⟨v1,v2,v3⟩,f'⟩,hp⟩:∃p,ps[i]=p:=⟨_,rfl⟩
 rw[hp] at pL J;simp only at pL;subst pL;exact⟨NB,MB,GB,GM,sv,qv,g,ps.length,fc,v1,v2,v3,ps,F,bk.symm,aZ,oC,hp,rfl,aq,a_,J,J 1 (by omega),J 2 (by omega),by omega,aq.frozenAt _⟩
theorem ajE(S:Nat)(s:az)(num:Int)(fine:Bool)(z:Int)(hz:dE (mv num [2,3]) s.ag=z)(hid:∀f∈s.ag,iR f.id)(hl:s.ag.length≤100000)(s':az)(a b:Bool)(hr:BW s z fine=(s',a,b))(w:World)(M:Nat→Prop)(h:SR w M S s)(R:ak)
 (I:∀M' w',SR w' M' S s'→Sep M M' w w'→R (.returned (.tuple #[.bool a,.bool b])) w'):
 Calls prog 11 #[zq S,E num,.bool fine] w R:=by
 have HR:=Z I;have aM:Below w w (w.alloc (.cells #[Value.int .i64 2,Value.int .i64 3] 3)):=aD _ _;have bB:=Z aM;have H1:=Z (h.below aM);have HI:=Z (ajx (w:=w) (x:=2) (y:=3));have HZ:=Z hz;clear I aM h hz;by_cases h0:0≤z;rotate_left
 ·obtain⟨rfl,_⟩:=BV HZ.O (by omega);rw[Kj (by decide)] at hr;cases hr;clear hid;go_enter func11,ntmps11;go_wp2_with (go_at_call 42;go_must(refine C8 S s num [2,3] (-1) HZ.O _ _ M H1.O (aJ hl (by decide)) HI.O (by decide) _ ?_);intro w3 an;have cq:=Z (aQ bB.O an);have H3:=Z (H1.O.below an);clear an);exact HR.O M w3 H3.O (Sep.cL cq.O)
 obtain⟨i,hi,rfl,_,_⟩:=zv HZ.O h0;have hI:=hid _ (getElem_mem hi);rw[On hi] at hr;have Bv:¬(i:Int)<0:=by omega
 obtain⟨⟨dH,fst,x⟩,hf⟩:∃f,s.ag[i]=f:=⟨_,rfl⟩
 rw[hf] at hI hr;simp only at hI hr;clear hid;by_cases h3:fst=3
 ·subst h3;rw[if_pos rfl] at hr;cases hr;go_enter func11,ntmps11;go_wp2_with (go_at_call 42;go_must(refine C8 S s num [2,3] (i:Int) HZ.O _ _ M H1.O (aJ hl (by decide)) HI.O (by decide) _ ?_;intro w3 an;have cq:=Z (aQ bB.O an);have H3:=Z (H1.O.below an);clear an;obtain⟨NB,MB,GB,GM,sv,qv,g,n,fc,v1,v2,v3,ps,F,hn,aZ,oC,pL,f_,aq,a_,mz,ZC,ZD,xL,ZE⟩:=SR.Dr H3.O hi hf;have c7:=(ef F.hS).2.2.2.1;obtain⟨HX,dR,Kk,Kl,jd,aV,je,mB,HN⟩:=CO F aZ oC pL f_ aq a_ mz hn;clear F hn aZ f_ aq a_ mz));exact HR.O M w3 H3.O (Sep.cL cq.O)
 rw[if_neg h3] at hr;have su:(fst==3)=false:=by simpa using h3
 cases fine with
 |false=>
  rw[if_pos rfl] at hr;cases hr;have HL:Hid (kM s (i:Int)={s with bJ:=s.bJ.erase dH,ag:=s.ag.eraseIdx i}):=by
   show _=_;unfold kM;rw[if_neg (by omega)];simp[dW hi,hf]
  have ajF:Hid ((s.ag[i]).id=dH):=by show _=_;rw[hf]
  go_enter func11,ntmps11;go_wp2_with (first
   |(go_at_call 42;go_must(refine C8 S s num [2,3] (i:Int) HZ.O _ _ M H1.O (aJ hl (by decide)) HI.O (by decide) _ ?_;intro w3 an;have cq:=Z (aQ bB.O an);have H3:=Z (H1.O.below an);clear an;obtain⟨NB,MB,GB,GM,sv,qv,g,n,fc,v1,v2,v3,ps,F,hn,aZ,oC,pL,f_,aq,a_,mz,ZC,ZD,xL,ZE⟩:=SR.Dr H3.O hi hf;have c7:=(ef F.hS).2.2.2.1;obtain⟨HX,dR,Kk,Kl,jd,aV,je,mB,HN⟩:=CO F aZ oC pL f_ aq a_ mz hn;clear F hn aZ f_ aq a_ mz))
   |(go_at_call 43;go_must(refine SI S s i hi hl dH ajF.O hI w3 M H3.O _ ?_);intro M5 w5 bu jj;have ff:=Z bu;have nH:=Z jj;clear bu jj))
  exact HR.O M5 w5 (by rw[HL.O];exact ff.O) ((Sep.cL cq.O).trans nH.O)
 |true=>
  rw[if_neg (by decide)] at hr;have gu:=Z hr;clear hr;go_enter func11,ntmps11;go_wp2_with (first
   |(go_at_call 42;go_must(refine C8 S s num [2,3] (i:Int) HZ.O _ _ M H1.O (aJ hl (by decide)) HI.O (by decide) _ ?_;intro w3 an;have cq:=Z (aQ bB.O an);have H3:=Z (H1.O.below an);clear an;obtain⟨NB,MB,GB,GM,sv,qv,g,n,fc,v1,v2,v3,ps,F,hn,aZ,oC,pL,f_,aq,a_,mz,ZC,ZD,xL,ZE⟩:=SR.Dr H3.O hi hf;have c7:=(ef F.hS).2.2.2.1;obtain⟨HX,dR,Kk,Kl,jd,aV,je,mB,HN⟩:=CO F aZ oC pL f_ aq a_ mz hn;clear F hn aZ f_ aq a_ mz))
   |(have hq:=aV;refine EF (o:=⟨none,.store 36 (.tmp 52) (.tmp 50),_,_,_,_⟩) (by rfl) 36 (.tmp 52) (.tmp 50) (by rfl) g (i*16+2) _ (by rfl) (by rfl) (fun j hj=> ?_) (fun j hj=> ?_) (by kernel_rfl) (by simp[Value.oneCell']) ?_))
  ·have cB:=(aV.O.stored (i*16+1) (Value.int .i64 3)).1;have hj:j<14:=hj;have:=Kk.O;have:=jd.O;have g_:=fY 16 bV j5 ps;rw[oO,cB.cellAt (i*16+(2+j)) (by omega),dW (by rw[qU,g_];omega)]
   rfl
  ·exact(aV.O.stored (i*16+1) (Value.int .i64 3)).1.frozenAt _
  have Fq:=ajB (k:=i) Kk.O (by rw[jd.O];exact aV.O) (E 3) [.string (str x.note.aF),.slice none 0 0,E 0,.bool false,.string ⟨#[]⟩,E 0,.slice none 0 0,E 0,E 0,E 0,E 2,.bool false,.slice none 0 0,.string ⟨#[]⟩] ((.slice none 0 0,.slice none 0 0,.slice none 0 0),⟨dH,3,lx x⟩) (by rw[Kl.O];rfl) rfl (fun j _=>rfl) rfl;have Oo:(ps.set i ((.slice none 0 0,.slice none 0 0,.slice none 0 0),⟨dH,3,lx x⟩)).map (·.2)=s.ag.set i ⟨dH,3,lx x⟩:=by rw[List.map_set,dR.O]
  rw[jd.O] at Fq;have Ds:(s.ag.set i ⟨dH,3,lx x⟩).length=n:=by rw[qU,←HN.O]
  have rK:(((v1,v2,v3),⟨dH,fst,x⟩):V3×Fl)∈ps:=by
   have:=getElem_mem Kk.O;rw[Kl.O] at this;exact this
  have nE:fX x:=(je.O _ rK).2;rw[←Ds] at Fq;have bI:=cg (br w3 ⟨g,i*16+1,none⟩ (E 3)) (qZ g [.string (str x.note.aF),.slice none 0 0,E 0,.bool false,.string ⟨#[]⟩,E 0,.slice none 0 0,E 0,E 0,E 0,E 2,.bool false,.slice none 0 0,.string ⟨#[]⟩] (i*16+2) _);have tq:=HX.O;rw[←Ds] at tq;obtain⟨fJ,ajG⟩:=SX.SK tq rfl Oo (fun p hp=>by
   rcases mem_or_eq_of_mem_set hp with hp|rfl
   ·exact je.O p hp
   exact ZB w3 nE) Fq bI
  rw[Ds] at fJ;clear Ds rK nE bI tq;clear Fq Oo;cases gu.O;go_wp2;exact HR.O M _ ⟨NB,MB,GB,GM,sv,qv,_,fJ⟩ ((Sep.cL cq.O).trans ajG)
theorem ZF{P:Prop}(h:P:=by
 intro lF c2 w2 dL bD;have aj:=bT (aD w _) bD (by simp) aU;have bn:=Z aj;have jH:=Z dL;clear bD aU jb hr dL aj;go_wp2;exact HR.O _ _ _ (by have:=jH.O;simpa using this) bn.O):P:=h
theorem Oq{P:Prop}(h:P:=by
 simp only[List.getElem?_map,dW fF,dW pM,Option.map_some] at h2;exact(Option.some.inj h2).symm):P:=h
variable{v v1 v2 v3:Value}{lQ:World}
theorem ajX(Y:av)(n c:Nat)(xs:List Value)(w:World)(hr:Rd w 16 Y n xs)(uA:∀u∈xs,u.oneCell'=true)(h1:n≤c)(h3:Y=none→c=0)(hn:n≤1000000)(R:ak)
 (I:∀bK c' w',w'.ownsRow w 51 16 (.slice bK n c') n xs→Below w w w'→R (.returned (.slice bK n c')) w'):
 Calls prog 62 #[.slice Y n c] w R:=by
 have HR:=Z I;clear I;cases Y with
 |none=>
  have J:c=0:=h3 rfl;subst J;obtain rfl:n=0:=by omega
  have F:xs= []:=n_ (by have:=hr.1;omega);subst F;have he:∀w:World,(binOp .eql 48 (.slice none 0 0) (.slice none 0 0)).run prog w= .ok (.bool true) w:=fun _=>rfl;go_enter func62,ntmps62;go_wp2;exact HR.O none 0 _ (bO _ _ _ _) dg
 |some a=>
  have he:∀w:World,(binOp .eql 48 (.slice (some a) n c) (.slice none 0 0)).run prog w= .ok (.bool false) w:=fun _=>rfl;have aU:=(World.ownsRow_made (base:=w.heap.size) (e:=51) (size:=16) w #[] 0 bj (by unfold maxLen;omega) rfl)
  have jb:=Js hr (.cells #[] 51);have tf:=Z uA;go_enter func62,ntmps62;go_wp2_with (at_builtin;go_must(refine kU (by rfl) (.tmp 5) (.tmp 6) 48 (by rfl) w 51 (Value.agg mo) 16 200 underlying48 yS rfl (by decide) _ _ _ _ rfl aU _ _ _ _ rfl jb tf.O h3 (by unfold maxLen;omega) (by omega) (by simp) ?_));exact ZF
theorem ajY{c:Nat}{ps:List (V3×Fl)}(G:k<ps.length)(h:w.ownsRow B 51 16 (.slice (some ⟨g,0,none⟩) ps.length c) ps.length (ps.flatMap bV))(vs:List Value)(p:V3×Fl)
 (h0:(bV p)[0]? =(bV ps[k])[0]?) (h1:(bV p)[1]? =(bV ps[k])[1]?) (h2:∀j,j<14→(bV p)[j+2]? =vs[j]?) (hv:vs.length=14):
 (w.setCells g (k*16+2) vs).ownsRow B 51 16 (.slice (some ⟨g,0,none⟩) ps.length c) ps.length ((ps.set k p).flatMap bV):=by
 have bk:(ps.set k p).length=ps.length:=by simp
 refine⟨by rw[fY 16 bV j5,bk],?_⟩;rcases h.2 with⟨hv,h0⟩|⟨g',cap,cur,gp,hB,A,e1,e2,e3,e4⟩
 ·cases hv
 simp only[Value.slice.injEq,Option.some.injEq,Addr.mk.injEq] at gp;obtain⟨⟨rfl,-,-⟩,-,rfl⟩:=gp;obtain⟨kj,m1,m2,m3⟩:=pB g 51 vs (k*16+2) w cur A;refine .inr ⟨g,c,kj,rfl,hB,m1,e1,e2,by rw[m2];exact e3,?_⟩;have dQ:ps.length*16≤cur.size:=by
  exact Zz
 have bZ:∀j,j<ps.length*16→cur[j]? =(ps.flatMap bV)[j]?:=fun j hj=>by
  rw[←e4,ml,if_pos hj];simp
 apply List.ext_getElem?;intro j;rw[ml];by_cases hj:j<ps.length*16;rotate_left
 ·rw[if_neg hj,xz (by rw[fY 16 bV j5,bk];omega)]
 rw[if_pos hj];have e0:kj.toList[j]? =kj[j]?:=by simp
 have hi:j / 16<ps.length:=by omega
 have hr:j % 16<16:=mod_lt _ (by omega);have oB:j / 16*16+j % 16=j:=by omega
 have W:=kY 16 bV j5 (ps.set k p) (j / 16) (j % 16) (by simpa using hi) hr;have ho:=kY 16 bV j5 ps (j / 16) (j % 16) hi hr;rw[oB] at W ho;have ajC:k*16+2+14≤ps.length*16:=by omega
 rw[e0,m3,W,hv];by_cases wI:j / 16=k
 ·have mA:(ps.set k p)[j / 16]'(by simpa using hi)=p:=by simp[wI]
  rw[mA];by_cases c1:k*16+2≤j
  ·rw[if_pos (by omega)];have:=h2 (j - (k*16+2)) (by omega);rw[←this]
   congr 1
   omega
  have jV:ps[j / 16]=ps[k]:=by congr
  rw[if_neg (by omega),bZ j hj,ho,jV];by_cases c2:j % 16=0
  ·rw[c2,h0]
  rw[show j % 16=1 by omega,h1]
 have mA:(ps.set k p)[j / 16]'(by simpa using hi)=ps[j / 16]:=by
  rw[getElem_set_ne (by omega)]
 rw[mA,if_neg (by omega),bZ j hj,ho]
structure AU(w wr:World)(B k:Nat)(v:Value)(ps qs:List (V3×Fl)):Prop where
 len:qs.length=ps.length
 eqs:qs.map (·.2)=ps.map (·.2)
 row:wr.ownsRow B 51 16 v ps.length (qs.flatMap bV)
 new:∀(j:Nat)(h:j<qs.length),j<k→ft wr B (qs[j]).1.1 (qs[j]).1.2.1 (qs[j]).1.2.2 (qs[j]).2.item
 old:∀(j:Nat)(h:j<qs.length),k≤j→ie w (qs[j]).1.1 (qs[j]).1.2.1 (qs[j]).1.2.2 (qs[j]).2.item
 reach:∀p∈qs,fX p.2.item
theorem AU.below{wr:World}{ps qs:List (V3×Fl)}(h:AU w wr B k v ps qs)(U:Below wr wr lQ):AU w lQ B k v ps qs:=
 ⟨h.len,h.eqs,aR h.row U,fun j hj G=>(h.new j hj G).below U,h.old,h.reach⟩
theorem AU.step{wr:World}{c:Nat}{ps qs:List (V3×Fl)}(h:AU w wr B k (.slice (some ⟨g,0,none⟩) ps.length c) ps qs)(G:k<qs.length)(hf:(qs[k]).2=f)(ho:ft wr B v1 v2 v3 f.item):
 AU w (wr.setCells g (k*16+2) (qi f.item v1 v2 v3)) B (k+1) (.slice (some ⟨g,0,none⟩) ps.length c) ps (qs.set k ((v1,v2,v3),f)):=by
 have aq:=h.row;rw[←h.len] at aq;have mA:=ajY G aq (qi f.item v1 v2 v3) ((v1,v2,v3),f) (by rw[←hf];rfl) (by rw[←hf];rfl) (fun j _=>rfl) rfl;rw[h.len] at mA;obtain⟨cur,A⟩:∃cur:Array Value,wr.heap[g]? =some (.cells cur 51 (0,0)):=by
  rcases aq.2 with⟨hv,h0⟩|⟨g',cap,cur,hv,hB,A,_⟩
  ·cases hv
  simp only[Value.slice.injEq,Option.some.injEq,Addr.mk.injEq] at hv;obtain⟨⟨rfl,-,-⟩,-,rfl⟩:=hv;exact⟨cur,A⟩
 have xN:=qZ g (qi f.item v1 v2 v3) (k*16+2) wr;refine⟨by rw[qU,h.len],?_,mA,fun j hj pQ=> ?_,fun j hj pQ=> ?_,fun p hp=> ?_⟩
 ·rw[List.map_set,←h.eqs];apply List.ext_getElem?;intro j;rw[List.getElem?_set]
  split
  ·rename_i e
   subst e;simp[G,hf]
  rfl
 ·by_cases e:j=k
  ·subst e;simp only[List.getElem_set_self];exact ho.typed A (by decide) (by decide) (by decide) xN
  ·have Bo:j<qs.length:=by simpa using hj
   rw[getElem_set_ne (fun h=>e h.symm)];exact(h.new j Bo (by omega)).typed A (by decide) (by decide) (by decide) xN
 ·have Bo:j<qs.length:=by simpa using hj
  rw[getElem_set_ne (by omega)];exact h.old j Bo (by omega)
 rcases mem_or_eq_of_mem_set hp with hp|rfl
 ·exact h.reach p hp
 show fX f.item;rw[←hf];exact h.reach _ (getElem_mem G)
theorem aag(S:Nat)(s:az)(hl:s.ag.length≤100000)(w:World)(M:Nat→Prop)(h:SR w M S s)(R:ak)
 (I:∀Y c (qs:List (V3×Fl)) w',qs.map (·.2)=s.ag→w'.ownsRow w 51 16 (.slice Y s.ag.length c) s.ag.length (qs.flatMap bV)→(∀(j:Nat)(h:j<qs.length),ft w' w.heap.size (qs[j]).1.1 (qs[j]).1.2.1 (qs[j]).1.2.2 (qs[j]).2.item)→(∀p∈qs,fX p.2.item)→Below w w w'→R (.returned (.slice Y s.ag.length c)) w'):
 Calls prog 16 #[zq S] w R:=by
 obtain⟨NB,MB,GB,GM,sv,qv,fv,F⟩:=h;have HR:=Z I;obtain⟨ps,aZ,aq,a_,_⟩:=id F.hf;have bk:s.ag.length=ps.length:=by rw[←aZ];simp
 rw[bk] at aq hl;obtain⟨fa,fc,oV⟩:=cR aq;subst oV;have c7:=(ef F.hS).2.2.2.1;obtain⟨aV,je,dR,oR⟩:=cF aq a_ aZ bk;obtain⟨n,hn⟩:=ai ps.length;have HN:=Z hn;rw[hn] at c7 hl;clear I F aZ aq a_ bk hn;go_enter func16,ntmps16;go_wp2_with (go_at_call 62;go_must(refine ajX fa n fc (ps.flatMap bV) w (by have:=wv aV.O;rw[HN.O] at this;exact this) (Zs je.O) (by have:=(xA aV.O).1;rw[HN.O] at this;exact this) (GV aV.O) (aJ hl (by decide)) _ ?_);intro h_ c3 w3 bN an;have iF:=Z bN;have cq:=Z an;clear bN an);have Fx:Hid (AU w w3 w.heap.size 0 (.slice h_ n c3) ps ps):=⟨rfl,rfl,by rw[HN.O];exact iF.O,fun j hj h0=>by omega,fun j hj _=>(je.O _ (getElem_mem hj)).1.O,fun p hp=>(je.O p hp).2⟩
 clear c7;go_loopg [4,12] n (fun gn _ i wr=>∃(k:Nat) (qs:List (V3×Fl)),k≤n∧gn=n - k∧i= .int .i64 k∧Hid (AU w wr w.heap.size k (.slice h_ n c3) ps qs)∧Hid (Below w w wr))
 case atStart=>exact⟨0,ps,bP _,by omega,rfl,Fx,cq⟩
 case round=>
  obtain⟨k,qs,G,rfl,rfl,HF,HB⟩:=hrel;obtain⟨wo,rfl⟩:∃x,x=wr:=⟨_,rfl⟩
  by_cases au:k<n;rotate_left
  ·have bo:¬(k:Int)<(n:Int):=by omega
   have jh:k=n:=by omega
   go_wp2;have:=HR.O h_ c3 qs wo (HF.O.eqs.trans dR.O) (by rw[oR.O,HN.O];have:=HF.O.row;rw[HN.O] at this;exact this) (fun j hj=>HF.O.new j hj (by have:=HF.O.len;have:=HN.O;omega)) HF.O.reach HB.O;rw[oR.O,HN.O] at this;exact this
  have bo:(k:Int)<(n:Int):=by omega
  have aq:=HF.O.row;rw[HN.O] at aq;obtain⟨g,A⟩:=jF aq (by omega);subst A;have Kv:qs.length=n:=HF.O.len.trans HN.O;have pM:k<qs.length:=by omega
  rw[←Kv] at aq;have bg:=JF aq pM;have hold:=HF.O.old k pM bj;have nE:=HF.O.reach _ (getElem_mem pM);obtain⟨⟨⟨v1,v2,v3⟩,⟨dH,fst,x⟩⟩,hp⟩:∃p,qs[k]=p:=⟨_,rfl⟩
  rw[hp] at bg hold nE;have HC:Hid (∀j,j<14→wo.cell? ⟨g,k*16+2+j,none⟩= (qi x v1 v2 v3:List Value)[j]?):=fun j hj=>by
   have:=bg (j+2) (by omega);rw[show k*16+(j+2)=k*16+2+j by omega] at this;exact this
  have ajZ:=Z (show ie wo v1 v2 v3 x from ie.below hold HB.O);have jL:=Z (show fX x from nE);have HP:Hid ((qs[k]).2=⟨dH,fst,x⟩):=by show _=_;rw[hp]
  have S4:=Z Kv;clear aq bg hold nE hp Kv;go_wp2_with (first
   |(refine iT 21 36 20 g (k*16+2) ((qi x v1 v2 v3)) HC.O underlying36 ?_)
   |(go_at_call 37;go_must(refine Ev x v1 v2 v3 wo ajZ.O jL.O _ ?_;intro mL mM tw tx tz tA w7 gD bp;have Fy:=Z (HF.O.below bp);have th:=Z (gD.mono HB.O.size);have gE:=Z (aQ HB.O bp);clear gD bp))
   |(refine EF (o:=⟨none,.store 36 (.tmp 24) (.tmp 22),_,_,_,_⟩) (by rfl) 36 (.tmp 24) (.tmp 22) (by rfl) g (k*16+2) (aG x mL mM tw tx tz tA) (by rfl) (by rfl) ?_ ?_ (by kernel_rfl) (by simp[Value.oneCell']) ?_))
  ·intro j hj;have hj:j<14:=hj;have h7:=Fy.O.row;rw[HN.O] at h7;have g_:=fY 16 bV j5 qs;have:=S4.O;rw[oO,h7.cellAt (k*16+(2+j)) (by omega),dW (by rw[g_];omega)]
   rfl
  ·intro j hj;have h7:=Fy.O.row;rw[HN.O] at h7;exact h7.frozenAt _
  have tB:Hid (AU w (w7.setCells g (k*16+2) (aG x mL mM tw tx tz tA)) w.heap.size (k+1) (.slice (some ⟨g,0,none⟩) n c3) ps (qs.set k ((.slice mL x.note.ay.length mM,.slice tw x.note.props.length tx,.slice tz x.ids.length tA),⟨dH,fst,x⟩))):=by
   have:=AU.step (f:=⟨dH,fst,x⟩) (by have:=Fy.O;rw[←HN.O] at this;exact this) pM HP.O th.O;rw[HN.O] at this;exact this
  have jI:Hid (Below w w (w7.setCells g (k*16+2) (aG x mL mM tw tx tz tA))):=by
   refine Jr gE.O (qZ _ _ _ _) gE.O.size (fun k G=> ?_);cases G;have h7:=Fy.O.row;exact(h7.lt g rfl).1
  go_wp2_with fail;go_roundg (n - (k+1))
  case measure=>omega
  case rel=>exact⟨k+1,_,by omega,rfl,by go_num,tB,jI⟩
variable{xs:List Value}{B' e n size:Nat}{pv v':Value}{w':World}
theorem ft.app{ev:Value}(h:ft w B pv qv ev x)(hr:w.ownsRow B' e size v n xs)(h1:e≠147)(h2:e≠5)(h3:e≠3)(A:w.grownBy w' v.ownBlock):ft w' B pv qv ev x:=by
 rcases hr.2 with⟨rfl,_⟩|⟨g,cap,cur,rfl,_,G,_⟩
 ·exact h.below (s_ A bj (fun k G=>by simp[Value.ownBlock] at G))
 exact h.typed G h1 h2 h3 A
structure DA(wr:World)(B k:Nat)(v:Value)(l:List Im)(qs:List (V3×Im)):Prop where
 eqs:qs.map (·.2)=l.take k
 row:wr.ownsRow B 36 14 v k (qs.flatMap dX)
 new:∀p∈qs,ft wr B p.1.1 p.1.2.1 p.1.2.2 p.2
 reach:∀p∈qs,fX p.2
theorem DA.below{wr:World}{l:List Im}{qs:List (V3×Im)}(h:DA wr B k v l qs)(U:Below wr wr lQ):DA lQ B k v l qs:=
 ⟨h.eqs,aR h.row U,fun p hp=>(h.new p hp).below U,h.reach⟩
theorem DA.push{wr:World}{l:List Im}{qs:List (V3×Im)}(h:DA wr B k v l qs)(G:k<l.length)(F:l[k]=x)(ho:ft wr B v1 v2 v3 x)(U:fX x)
 (hr:lQ.ownsRow B 36 14 v' (k+1) (qs.flatMap dX++dX ((v1,v2,v3),x))) (A:wr.grownBy lQ v.ownBlock):DA lQ B (k+1) v' l (qs++ [((v1,v2,v3),x)]):=by
 refine⟨?_,by rw[jZ];simpa using hr,fun p hp=> ?_,fun p hp=> ?_⟩
 ·rw[nv,h.eqs,kF G,F]
  rfl
 ·rcases ez.1 hp with hp|hp
  ·exact(h.new p hp).app h.row (by decide) (by decide) (by decide) A
  ·obtain rfl:=dM.1 hp;exact ho.app h.row (by decide) (by decide) (by decide) A
 rcases ez.1 hp with hp|hp
 ·exact h.reach p hp
 obtain rfl:=dM.1 hp;exact U
theorem aj0(S:Nat)(s:az)(hl:s.queue.length≤100000)(w:World)(M:Nat→Prop)(h:SR w M S s)(R:ak)
 (I:∀Y c (qs:List (V3×Im)) w',qs.map (·.2)=s.queue→w'.ownsRow w 36 14 (.slice Y s.queue.length c) s.queue.length (qs.flatMap dX)→(∀p∈qs,ft w' w.heap.size p.1.1 p.1.2.1 p.1.2.2 p.2)→(∀p∈qs,fX p.2)→Below w w w'→R (.returned (.slice Y s.queue.length c)) w'):
 Calls prog 25 #[zq S] w R:=by
 obtain⟨NB,MB,GB,GM,sv,qv,fv,F⟩:=h;have HR:=Z I;obtain⟨ps,aZ,aq,a_,_⟩:=id F.hq;obtain⟨va,vc,Kw⟩:=aq.shape;subst Kw;have c6:=(ef F.hS).2.2.1;obtain⟨n,hn⟩:=ai s.queue.length;rw[hn] at c6 hl aq;have f_:ps.length=n:=by rw[←hn,←aZ];simp
 obtain⟨aV,je,dR,HN,jd⟩:=jq aq a_ aZ hn f_;have Fx:Hid (DA w w.heap.size 0 (.slice none 0 0) s.queue []):=⟨by simp,bO _ _ _ _,fun p hp=>by simp at hp,fun p hp=>by simp at hp⟩
 clear I F aZ aq a_ hn f_;go_enter func25,ntmps25;go_wp2;go_loopg [3,11] n (fun gn r i wr=>∃(k c:Nat)(Y:av) (qs:List (V3×Im)),k≤n∧gn=n - k∧i= .int .i64 k∧r= .slice Y k c∧Hid (DA wr w.heap.size k (.slice Y k c) s.queue qs)∧Hid (Below w w wr))
 case atStart=>exact⟨0,0,none,[],bP _,by omega,rfl,rfl,Fx,Z dg⟩
 case round=>
  obtain⟨k,c,Y,qs,G,rfl,rfl,rfl,HF,HB⟩:=hrel;obtain⟨wo,rfl⟩:∃x,x=wr:=⟨_,rfl⟩
  by_cases au:k<n
  ·have bo:(k:Int)<(n:Int):=by omega
   obtain⟨g,o,nJ,bg,_⟩:=(aV.O.below HB.O).at (by omega);subst nJ;have fF:k<ps.length:=by have:=jd.O;omega
   have pM:k<s.queue.length:=by have:=HN.O;omega
   have uF:s.queue[k]=(ps[k]).2:=by
    have h2:=congrArg (fun l=>l[k]?) dR.O;exact Oq
   have a_:=je.O _ (getElem_mem fF);have bZ:∀j,j<14→wo.cell? ⟨g,o+k*14+j,none⟩=(dX ps[k])[j]?:=fun j hj=>by
    have:=jd.O;rw[oO,bg (k*14+j) (by omega),kY 14 dX oS ps k j fF hj]
   obtain⟨⟨⟨v1,v2,v3⟩,x⟩,hp⟩:∃p,ps[k]=p:=⟨_,rfl⟩
   rw[hp] at uF a_ bZ;obtain⟨⟨sC,sD,e1⟩,⟨sE,sF,e2⟩,sG,sH,e3⟩:=a_.1.O.shape;simp only at e1 e2 e3;subst e1 e2 e3;have HC:Hid (∀j,j<14→wo.cell? ⟨g,o+k*14+j,none⟩= (aG x sC sD sE sF sG sH:List Value)[j]?):=bZ;have aj1:Hid (s.queue[k]=x):=uF;have jL:=Z a_.2;have ny:Below wo wo (wo.alloc (.cells (aG x sC sD sE sF sG sH) 36)):=aD _ _;have zw:=Z (show ie (wo.alloc (.cells (aG x sC sD sE sF sG sH) 36)) (.slice sC x.note.ay.length sD) (.slice sE x.note.props.length sF) (.slice sG x.ids.length sH) x from(a_.1.O.below HB.O).below ny);have tC:=Z (HF.O.below ny);have dj:=Z (aQ HB.O ny);have N1:=Z (aH wo (.cells aX 36));have N2:=Z (aH wo (.cells (aG x sC sD sE sF sG sH) 36));clear bg uF a_ bZ hp ny;go_wp2_with (first
    |(refine iT 14 36 13 g (o+k*14) ((aG x sC sD sE sF sG sH)) HC.O underlying36 ?_)
    |(refine gw 36 5 14 wo.heap.size N1.O ?_;rw[World.setRow_alloc_new])
    |(refine kJ 16 36 5 wo.heap.size N2.O underlying36 ?_)
    |(go_at_call 37;go_must(refine Ev x _ _ _ _ zw.O jL.O _ ?_;intro mL mM tw tx tz tA w7 gD bp;have tD:Below w7 w7 (w7.alloc (.cells (aG x mL mM tw tx tz tA) 36)):=aD _ _;have tB:=Z ((tC.O.below bp).below tD);have oi:=Z ((gD.mono dj.O.size).below tD);have jI:=Z (cz (aQ dj.O bp) tD (aJ dj.O.size bp.size));clear gD bp tD))
    |(have hq:=tB;at_builtin;go_must(refine jr (by rfl) (.tmp 15) (.tmp 18) 52 (by rfl) w 36 (Value.agg aX) 14 184 underlying52 vr rfl (by decide) Y k c _ (by rfl) tB.O.row (some ⟨w7,0,none⟩) 1 1 (aG x mL mM tw tx tz tA) (by rfl) (dO w7 (aG x mL mM tw tx tz tA) 36 14 1 rfl) (BE _ _ _ _ _ _ _) (fun h=>by cases h) (by unfold maxLen;omega) (by omega) jI.O.size ?_;intro fK c9 w9 dA bW _;have zx:=Z (tB.O.push (by have:=HN.O;omega) aj1.O oi.O jL.O dA bW);have nG:=Z (bT jI.O bW jI.O.size tB.O.row);clear hq dA bW)))
   go_roundg (n - (k+1))
   case measure=>omega
   case rel=>exact⟨k+1,c9,fK,_,by omega,rfl,by go_num,rfl,zx,nG⟩
  have bo:¬(k:Int)<(n:Int):=by omega
  obtain rfl:k=n:=by omega
  go_wp2;have:=HR.O Y c qs wo (by rw[HF.O.eqs,gy (by have:=HN.O;omega)]) (by rw[HN.O];exact HF.O.row) HF.O.new HF.O.reach HB.O;rw[HN.O] at this;exact this
def cZ(l:List UInt8):az:=⟨l,0,0,false,[],[],[],[],[]⟩
theorem aah(l:List UInt8)(w:World)(R:ak)
 (I:∀S M w',SR w' M S (cZ l)→(∀b,M b→w.heap.size≤b)→Below w w w'→R (.returned (zq S)) w'):
 Calls prog 6 #[.string (str l)] w R:=by
 have HR:=Z I;clear I;have Ky:Hid True:=trivial;go_enter func6,ntmps6;go_wp2_with (first
  |(have hq:=Ky;go_at_call 35;go_must(refine Ns _ _ ?_;intro NB MB w3 ik iC lP an;obtain⟨ku,sI,S5,cq⟩:=cF ik iC lP an;clear hq Ky ik iC lP an))
  |(go_at_call 35;go_must(refine Ns _ _ ?_;intro GB GM w5 jj dB tE aE;obtain⟨nH,oX,S6,ib⟩:=cF jj dB tE aE;clear jj dB tE aE)))
 have hy:Below w5 w5 (w5.alloc (.cells #[zq NB,.string (str (cZ l).gF),.int .i64 (cZ l).cI,.int .i64 (cZ l).ends,.bool (cZ l).ej,(.slice none 0 0),(.slice none 0 0),(.slice none 0 0),zq GB] 94)):=aD _ _;have bt:=cq.O.size;have Jy:=ib.O.size;have h3:=(ku.O.below ib.O).below hy;have h5:=nH.O.below hy;have gG:∀{x:World}{b t:Nat}{fr:Nat×Nat}{cs:Array Value},x.heap[b]? =some (.cells cs t fr)→b<x.heap.size:=fun h=>(eI.1 h).1;have l1:=gG ku.O.1;have l2:=ku.O.2.lt;have l3:=gG nH.O.1;have l4:=nH.O.2.lt;have n5:=oX.O;have m5:=S6.O;have n3:=sI.O;have m3:=S5.O;have e3:=ku.O.ne;have e5:=nH.O.ne;refine HR.O w5.heap.size (fun b=>b=w5.heap.size∨b=MB∨b=GM) _ ⟨NB,MB,GB,GM,_,_,_,⟨aH w5 (.cells #[zq NB,.string (str (cZ l).gF),.int .i64 (cZ l).cI,.int .i64 (cZ l).ends,.bool (cZ l).ej,(.slice none 0 0),(.slice none 0 0),(.slice none 0 0),zq GB] 94),h3,h5,bO _ _ _ _,⟨[],rfl,bh.nil _ _ _,fun p hp=>by simp at hp,fun k G=>by simp[Value.ownBlock] at G⟩,⟨[],rfl,bO _ _ _ _,fun p hp=>by simp at hp,fun k G=>by simp[Value.ownBlock] at G⟩,by omega,by omega,.inl rfl,.inr (.inl rfl),.inr (.inr rfl),fun k G=>by simp[Value.ownBlock] at G,?_,?_,?_⟩⟩ ?_ (cz (cz cq.O ib.O bt) hy (by omega))
 ·rintro(h|h|h)<;>omega
 ·rintro(h|h|h)<;>omega
 ·rintro b (h|h|h)<;>simp<;>omega
 rintro b (h|h|h)<;>omega
theorem aai(S:Nat)(s:az)(w:World)(M:Nat→Prop)(h:SR w M S s)(R:ak)
 (I:R (.returned (.string (str s.gF))) w):
 Calls prog 36 #[zq S] w R:=by
 obtain⟨NB,MB,GB,GM,sv,qv,fv,F⟩:=h;have HR:=Z I;have c1:=(ef F.hS).1.2.1;clear I F;go_enter func36,ntmps36;go_wp2;exact HR.O
variable{Y:av}
def e_(l:List UInt8):List UInt8:=(l.take 30).map fun b=>b8 (97+(b.toNat:Int) % 26)
theorem qN(l:List UInt8):(e_ l).length≤30:=by unfold e_;rw[j0,bS];omega
theorem Pg(l m:List UInt8):str l++str m=str (l++m):=by
 simp only[str];apply ByteArray.ext;simp
theorem alQ{c:Nat}{l:List UInt8}(h:Bs w (.slice Y n c) l)(G:k<l.length):∃b o,Y=some ⟨b,o,none⟩∧w.cell? ⟨b,o+k,none⟩=some (.int .u8 ((l[k]).toNat:Int)):=by
 obtain⟨_,hr,_⟩:=h.parts;obtain⟨b,o,rfl,J⟩:=hr.2 (by omega);refine⟨b,o,rfl,?_⟩;rw[J k (by omega)];simp[bv,G]
theorem F6(v:Value)(l P:List UInt8)(hP:e_ l=P)(w:World)(hv:Bs w v l)(R:ak)
 (I:∀w',Below w w w'→R (.returned (.string (str P))) w'):
 Calls prog 38 #[v] w R:=by
 obtain⟨HR,HV,HP⟩:=bX I hv hP;obtain⟨va,vc,rfl,_⟩:=hv;clear I hP;go_enter func38,ntmps38;go_wp2;go_loopg [3,4] (min l.length 30) (fun gn r i wr=>∃(k:Nat)(Q:List UInt8),k≤min l.length 30∧gn=min l.length 30 - k∧i= .int .i64 k∧r= .string (str Q)∧Hid ((l.take k).map (fun b=>b8 (97+(b.toNat:Int) % 26))=Q)∧Hid (Below w w wr))
 case atStart=>exact⟨0,[],bP _,by omega,rfl,rfl,Z rfl,Z dg⟩
 case round=>
  obtain⟨k,Q,G,rfl,rfl,rfl,HQ,HB⟩:=hrel;obtain⟨wo,rfl⟩:∃x,x=wr:=⟨_,rfl⟩
  by_cases au:k<min l.length 30
  ·have iS:k<l.length:=by omega
   have bo:(k:Int)<(l.length:Int):=by omega
   have alR:(k:Int)<30:=by omega
   obtain⟨g,o,rfl,J⟩:=alQ (HV.O.below HB.O) iS;have HT:Hid ((l.take (k+1)).map (fun b=>b8 (97+(b.toNat:Int) % 26))=Q++ [b8 (97+((l[k]).toNat:Int) % 26)]):=by
    show _=_;rw[kF iS,nv,HQ.O]
    rfl
   obtain⟨x,F⟩:=ai (l[k]);rw[F] at J HT;have alS:=x.toNat_lt;have iA:((b8 (97+(x.toNat:Int) % 26)).toNat:Int)=97+(x.toNat:Int) % 26:=by rw[xB];omega
   obtain⟨y,hy⟩:=ai (b8 (97+(x.toNat:Int) % 26));rw[hy] at iA HT;have k7:(convert 22 9 (.slice (some ⟨wo,0,none⟩) 1 1)).run prog (wo.alloc (.cells #[Value.int .u8 (97+(x.toNat:Int) % 26)] 5))= .ok (.string (str [y])) (wo.alloc (.cells #[Value.int .u8 (97+(x.toNat:Int) % 26)] 5)):=lU (P:=prog) underlying22 underlying5 underlying9 (agQ (w:=wo) (e:=5) #[Value.int .u8 (97+(x.toNat:Int) % 26)] [y] (by rw[←iA];rfl) (by simp));have bn:=Z (cz HB.O (aD wo (.cells #[Value.int .u8 (97+(x.toNat:Int) % 26)] 5)) HB.O.size);have Ph:Q.length≤30:=by rw[←HQ.O,j0,bS];omega
   have alT:¬(str Q).size+(str [y]).size > 9223372036854775807:=by show¬(Q.length+1 > 9223372036854775807);omega
   have abv:=Pg Q [y];clear F HQ iA hy alS Ph;go_wp2;go_roundg (min l.length 30 - (k+1))
   case measure=>omega
   case rel=>exact⟨k+1,Q++ [y],by omega,rfl,by go_num,rfl,HT,bn⟩
  have jh:k=min l.length 30:=by omega
  have cD:Q=P:=by
   rw[←HQ.O,←HP.O,jh];unfold e_;by_cases h:l.length≤30
   ·rw[Nat.min_eq_left h,gy bj,gy h]
   rw[Nat.min_eq_right (by omega)]
  subst cD;by_cases iS:k<l.length
  ·have bo:(k:Int)<(l.length:Int):=by omega
   have alR:¬(k:Int)<30:=by omega
   go_wp2;exact HR.O _ HB.O
  have bo:¬(k:Int)<(l.length:Int):=by omega
  go_wp2;exact HR.O _ HB.O
open List (drop_append drop_of_length_le)
open Nat (zero_add)
variable{id:Int}{l:List Pr}{ds:List Value}{t:Nat}{La:av}{p:Pr}{a d:Value}{aw4:World}
def mJ(fm:Int)(co cr us:List UInt8):List Pr:=
 (if 0≤fm then [⟨1,bits .and .i64 fm 1,[],[],[]⟩] else [])++(if 0<co.length then [⟨3,0,e_ co,[],[]⟩] else [])++(if 0<cr.length then [⟨9,0,[],[],cr.take 30⟩] else [])++(us.take 4).map fun u=>⟨38,0,e_ [u],e_ us,[]⟩
structure OL(aw4 w wr:World)(Y:av)(n c:Nat)(ds:List Value)(l:List Pr):Prop where
 nl:n=l.length
 len:ds.length=l.length
 row:wr.ownsRow w 147 5 (.slice Y n c) n (oQ ds l)
 old:G3 aw4 ds l
 low:Below w w wr
 Pj:Below aw4 aw4 w
 hn:n≤100
theorem OL.below{wr:World}{c:Nat}(h:OL aw4 w wr Y n c ds l)(U:Below wr wr lQ):OL aw4 w lQ Y n c ds l:=⟨h.nl,h.len,aR h.row U,h.old,cz h.low U h.low.size,h.Pj,h.hn⟩
theorem OL.push{wr:World}{bK:av}{c c':Nat}(h:OL aw4 w wr Y n c ds l)(hd:PC aw4 d p)(hr:lQ.ownsRow w 147 5 (.slice bK (n+1) c') (n+1) (oQ ds l++ (bL p d:List Value)))(A:wr.grownBy lQ (Value.slice Y n c).ownBlock)(hn:n≤99):
 OL aw4 w lQ bK (n+1) c' (ds++ [d]) (l++ [p]):=
 ⟨by rw[aK,←h.nl];rfl,by rw[aK,aK,h.len];rfl,by rw[XF ds l h.len];exact hr,by
  refine⟨by rw[aK,aK,h.len];rfl,fun i d' p' h1 h2=> ?_⟩;by_cases hi:i<l.length
  ·rw[ug (by rw[h.len];exact hi)] at h1;rw[ug hi] at h2;exact h.old.2 i d' p' h1 h2
  have dJ:i=l.length:=by
   have:=(qe.1 h2).1;simp at this
   omega
  subst dJ;rw[yH (by rw[h.len];exact Nat.le_refl _),h.len,Nat.sub_self] at h1;rw[yH bj,Nat.sub_self] at h2;simp only[List.getElem?_cons_zero,Option.some.injEq] at h1 h2;subst h1 h2;exact hd,bT h.low A h.low.size h.row,h.Pj,by omega⟩
theorem TX(w:World){num:Int}{t u:List UInt8}(h1: -9223372036854775808≤id)(h2:id≤9223372036854775807)(h3: -9223372036854775808≤num)(h4:num≤9223372036854775807)(h5:t.length≤100)(h6:u.length≤100):PC w (.slice none 0 0) ⟨id,num,t,u,[]⟩:=
 ⟨ag4 w,by simp,by show t.length≤_;omega,by show u.length≤_;omega,h1,h2,h3,h4⟩
theorem alU{C:List UInt8}(h:Bs w d C)(hl:C.length≤140737488351232):PC w d ⟨9,0,[],[],C⟩:=
 ⟨h,hl,by show 0≤_;omega,by show 0≤_;omega,by show _≤(9:Int);omega,by show(9:Int)≤_;omega,by show _≤(0:Int);omega,by show(0:Int)≤_;omega⟩
theorem OL.nil(aw4 w wr:World)(hW:Below aw4 aw4 w)(U:Below w w wr):OL aw4 w wr none 0 0 [] []:=⟨rfl,rfl,bO _ _ _ _,⟨rfl,fun i d p h=>by simp at h⟩,U,hW,by omega⟩
structure OP(aw4:World)(B:Nat)(wr:World)(Y:av)(n c:Nat)(ds:List Value)(l:List Pr):Prop where
 nl:n=l.length
 len:ds.length=l.length
 row:wr.ownsRow B 147 5 (.slice Y n c) n (oQ ds l)
 old:G3 aw4 ds l
 low:Below aw4 aw4 wr
theorem OL.op{wr:World}{c:Nat}(h:OL aw4 w wr Y n c ds l):OP aw4 w.heap.size wr Y n c ds l:=⟨h.nl,h.len,h.row,h.old,cz h.Pj h.low h.Pj.size⟩
theorem OP.below{wr:World}{c:Nat}(h:OP aw4 B wr Y n c ds l)(U:Below wr wr lQ):OP aw4 B lQ Y n c ds l:=⟨h.nl,h.len,aR h.row U,h.old,cz h.low U h.low.size⟩
theorem OP.ps{wr:World}{c:Nat}(h:OP aw4 B wr Y n c ds l):Ps wr (.slice Y l.length c) l:=by
 have hr:=h.row;have J:=xA hr;unfold maxLen at J;rw[h.nl] at hr J;refine⟨Y,c,rfl,J.1,by omega,GV hr,fun h0=> ?_⟩;obtain⟨g,rfl⟩:=jF hr h0;refine⟨g,0,rfl,fun i hi=> ?_⟩;have bZ:∀j,j<5→wr.cell? ⟨g,0+i*5+j,none⟩=(X (ds[i]'(by rw[h.len];exact hi),l[i]))[j]?:=fun j hj=>by
  rw[zero_add,hr.cellAt (i*5+j) (by omega),G0 ds l h.len i hi j hj]
 exact⟨ds[i]'(by rw[h.len];exact hi),⟨bZ 0 (by omega),bZ 1 (by omega),bZ 2 (by omega),bZ 3 (by omega),bZ 4 (by omega)⟩,(h.old.2 i _ _ (dW _) (dW hi)).below h.low⟩
theorem Pk(w:World)(N:Nat)(hN:N=w.heap.size){i j:Int}{s t:ByteArray}:Rd (w.alloc (.cells #[E i,E j,.string s,.string t,d] 147)) 5 (some ⟨N,0,none⟩) 1 [E i,E j,.string s,.string t,d]:=by
 subst hN;exact dO w #[E i,E j,.string s,.string t,d] 147 5 1 rfl
theorem Ck{M:Nat}{b c x:Value}(h:w.heap[M]? =some (.cells #[a,b,c,x] t (0,0))):w.cell? ⟨M,0,none⟩=some a∧w.cell? ⟨M,1,none⟩=some b∧w.cell? ⟨M,2,none⟩=some c∧w.cell? ⟨M,3,none⟩=some x:=
 ⟨D 0 h,D 1 h,D 2 h,D 3 h⟩
theorem alV{c:Nat}{l:List UInt8}(h:Bs w (.slice La n c) l)(G:k<l.length):
 ∃Lx,(∀w',(Instr.slice 22 (.slice La n c) (some (E (k:Int))) (some (.int .i64 ((k:Int)+1))) none).run prog w'= .ok (.slice Lx 1 (c - k)) w')∧Bs w (.slice Lx 1 (c - k)) [l[k]]:=by
 have hp:=h.piece (lo:=k) (hi:=k+1) (by omega) (by omega);obtain⟨rfl,_,J,_,_⟩:=h.parts;have he:prog.elem 22=5:=by simp[Program.elem,underlying22]
 obtain⟨i,cp,hz,dJ,fV⟩:=info_parts Tryz.cP;have e:(l.take (k+1)).drop k= [l[k]]:=by
  rw[kF G,drop_append,drop_of_length_le (by rw[bS];omega)];have:(l.take k).length=k:=by rw[bS];omega
  simp[this]
 rw[e,show k+1 - k=1 by omega] at hp;refine⟨_,fun w'=> ?_,hp⟩;rw[run_slice_lh (P:=prog) w' _ La l.length c (by rw[he];exact underlying22) .i64 .i64 k ((k:Int)+1) (by omega) (by omega) (by omega),he];have h1:((k:Int)+1).toNat=k+1:=by omega
 simp[sizeOf,typeInfo,cp,dJ,sliced,h1]
theorem abw(v:Value)(l C:List UInt8)(n:Int)(hC:l.take n.toNat=C)(aw4 w:World)(hv:Bs aw4 v l)(h0:0≤n)(R:ak)
 (I:∀Y c,Bs aw4 (.slice Y C.length c) C→R (.returned (.slice Y C.length c)) w):
 Calls prog 30 #[v,E n] w R:=by
 exact Xw
theorem DR{P:Prop}(h:P:=by
 go_enter func39,ntmps39;go_wp2_with (first
  |(at_builtin;have sP:=pG.O.below (aD _ (.cells (vd 1 (bits .and .i64 fm 1)) 147));refine jr (by rfl) (.tmp 8) (.tmp 13) 32 (by rfl) w 147 (.agg jt) 5 72 underlying32 Tryz.Ar rfl (by decide) _ _ _ _ (by rfl) sP.row _ 1 1 _ (by rfl) (Pk _ _ (by first|rfl|simp)) (Br _ _ _) (fun h=>by cases h) (by unfold maxLen;omega) (by omega) sP.low.size ?_;intro BG abx w1 cS km _;have gM:=js (o':=(Obj.cells (vd 1 (bits .and .i64 fm 1)) 147)) tO.O;replace tO:=Z (hZ km gM (i_ gM sP.row (by decide)));replace pG:=Z (sP.push (p:=⟨1,bits .and .i64 fm 1,[],[],[]⟩) (TX aw4 (by decide) (by decide) (bits_lo_i64 _ _ _) (bits_hi_i64 _ _ _) (by simp) (by simp)) cS km (by omega));clear sP cS km gM;obtain⟨c0,c1,c2,c3⟩:=Ck tO.O)
  |(go_at_call 38;refine F6 _ co _ rfl _ (aby.O.below (cz kN.O pG.O.low kN.O.size)) _ ?_;intro w3 an;replace pG:=Z (pG.O.below an);replace tO:=Z (aA tO.O an);clear an;obtain⟨c0,c1,c2,c3⟩:=Ck tO.O)
  |(at_builtin;have sP:=pG.O.below (aD _ (.cells (Er 3 (e_ co)) 147));refine jr (by rfl) (.tmp 19) (.tmp 24) 32 (by rfl) w 147 (.agg jt) 5 72 underlying32 Tryz.Ar rfl (by decide) _ _ _ _ (by rfl) sP.row _ 1 1 _ (by rfl) (Pk _ _ (by first|rfl|simp)) (Br _ _ _) (fun h=>by cases h) (by unfold maxLen;omega) (by omega) sP.low.size ?_;intro BG abx w1 cS km _;have gM:=js (o':=(Obj.cells (Er 3 (e_ co)) 147)) tO.O;replace tO:=Z (hZ km gM (i_ gM sP.row (by decide)));replace pG:=Z (sP.push (p:=⟨3,0,e_ co,[],[]⟩) (TX aw4 (by decide) (by decide) (by decide) (by decide) (aJ (qN _) (by decide)) (by simp)) cS km (by omega));clear sP cS km gM;obtain⟨c0,c1,c2,c3⟩:=Ck tO.O)
  |(go_at_call 30;refine abw _ cr C 30 HC.O aw4 _ oW.O (by decide) _ ?_;intro xa xc dq;have ji:=Z dq;clear dq)
  |(at_builtin;have sP:=pG.O.below (aD _ (.cells (GW 9 xa C xc) 147));refine jr (by rfl) (.tmp 30) (.tmp 35) 32 (by rfl) w 147 (.agg jt) 5 72 underlying32 Tryz.Ar rfl (by decide) _ _ _ _ (by rfl) sP.row _ 1 1 _ (by rfl) (Pk _ _ (by first|rfl|simp)) (Br _ _ _) (fun h=>by cases h) (by unfold maxLen;omega) (by omega) sP.low.size ?_;intro BG abx w1 cS km _;have gM:=js (o':=(Obj.cells (GW 9 xa C xc) 147)) tO.O;replace tO:=Z (hZ km gM (i_ gM sP.row (by decide)));replace pG:=Z (sP.push (p:=⟨9,0,[],[],C⟩) (alU ji.O mB.O) cS km (by omega));clear sP cS km gM;obtain⟨c0,c1,c2,c3⟩:=Ck tO.O))
 go_loopg [3,4] (min us.length 4) (fun gn r i wr=>∃(k n c:Nat)(Y:av)(ds:List Value)(l:List Pr),k≤min us.length 4∧gn=min us.length 4 - k∧i= .int .i64 k∧r= .slice Y n c∧Hid (OL aw4 w wr Y n c ds l)∧Hid (l=l0++(us.take k).map fun u=>⟨38,0,e_ [u],e_ us,[]⟩)∧Hid (wr.heap[w.heap.size]? =some (.cells #[E fm,.slice ca co.length cc,.slice ra cr.length rc,.slice ua us.length uc] 24))∧n≤3+k)
 case atStart=>exact⟨0,_,_,_,_,_,bP _,by omega,rfl,rfl,pG,Z (by rw[←Pm.O];simp[h1,Pn,DS]),tO,by omega⟩
 case round=>
  obtain⟨k,n,c,Y,ds,l,G,rfl,rfl,rfl,HL,TY,HN,iC⟩:=hrel;obtain⟨wo,rfl⟩:∃x,x=wr:=⟨_,rfl⟩
  clear c0 c1 c2 c3;obtain⟨c0,c1,c2,c3⟩:=Ck HN.O;by_cases au:k<min us.length 4
  ·have iS:k<us.length:=by omega
   have bo:(k:Int)<(us.length:Int):=by omega
   have rl:(k:Int)<4:=by omega
   have hd:Below wo wo wo.drew:=bq _;have avx:IntKind.i64.wrap ((k:Int)+1)=(k:Int)+1:=IntWalk.i64_in _ (by omega);obtain⟨Lx,dm,nE⟩:=alV (TZ.O.below (cz kN.O HL.O.low kN.O.size)) iS;obtain⟨P1,zM⟩:=ai (e_ [us[k]]);obtain⟨P2,yd⟩:=ai (e_ us);have F7:P1.length≤100:=by rw[←zM];exact aJ (qN _) (by decide)
   have m9:P2.length≤100:=by rw[←yd];exact aJ (qN _) (by decide)
   have HT:Hid (l++ [⟨38,0,P1,P2,[]⟩]=l0++(us.take (k+1)).map fun u=>⟨38,0,e_ [u],e_ us,[]⟩):=by
    show _=_;rw[←zM,←yd,TY.O,kF iS,nv,kT]
    rfl
   have wW:=Z zM;have mU:=Z yd;have jL:=Z (nE.below hd);have alW:=Z (HL.O.below hd);have abz:=Z (aA HN.O hd);obtain⟨e0,e1,e2,e3⟩:=Ck abz.O;clear zM yd nE hd TY;go_wp2_with fail;go_region_law (first
    |(go_simp;go_at_call_of 38 Lx;refine F6 _ [us[k]] P1 wW.O _ jL.O _ ?_;intro w5 aE;have FB:=alW.O.below aE;have dB:=aA abz.O aE;have f3:=(Ck dB).2.2.2)
    |(go_simp;go_at_call_of 38 us.length;refine F6 _ us P2 mU.O _ (TZ.O.below (cz kN.O FB.low kN.O.size)) _ ?_;intro w7 bp;have uz:=FB.below bp;have iV:=js (o':=(Obj.cells (GX 38 P1 P2) 147)) (aA dB bp);have tn:=uz.below (aD w7 (.cells (GX 38 P1 P2) 147)))
    |(refine ig (by rfl) (.tmp 48) (.tmp 60) 32 (by rfl) w 147 (.agg jt) 5 72 underlying32 Tryz.Ar rfl (by decide) Y n c _ (by rfl) tn.row (some ⟨w7,0,none⟩) 1 1 _ (by rfl) (Pk _ _ rfl) (Br _ _ _) (fun h=>by cases h) (by unfold maxLen;omega) (by omega) tn.low.size ?_;intro fK c9 w9 dA bW _))
   all_goals
    have yj:=Z (hZ bW iV (i_ iV tn.row (by decide)));have jw:=Z (tn.push (p:=⟨38,0,P1,P2,[]⟩) (TX aw4 (by decide) (by decide) (by decide) (by decide) F7 m9) dA bW (by omega));clear dA bW iV tn uz FB dB f3;go_wp2_with fail;go_roundg (min us.length 4 - (k+1))
    case measure=>omega
    case rel=>exact⟨k+1,n+1,c9,fK,_,_,by omega,rfl,by go_num,rfl,jw,HT,yj,by omega⟩
  have jh:k=min us.length 4:=by omega
  have cD:l=L:=by
   rw[TY.O,abA.O,jh];by_cases h:us.length≤4
   ·rw[Nat.min_eq_left h,gy bj,gy h]
   rw[Nat.min_eq_right (by omega)]
  subst cD;have dR:=Z HL.O.op;have zt:=Z HL.O.nl;have cT:=Z HL.O.low;clear HL;by_cases iS:k<us.length
  ·have bo:(k:Int)<(us.length:Int):=by omega
   have rl:¬(k:Int)<4:=by omega
   go_wp2;have T6:=dR.O;have lO:=zt.O;subst lO;exact HR.O _ _ _ _ T6 cT.O
  have bo:¬(k:Int)<(us.length:Int):=by omega
  go_wp2;have T6:=dR.O;have lO:=zt.O;subst lO;exact HR.O _ _ _ _ T6 cT.O):P:=h
variable{K N:Nat}{fr:Nat×Nat}{bx o:Obj}{h:Value}{x':World}
theorem alX{α β γ δ ε ω:Type}{H awV:α→β→γ→δ→ε→ω→Prop}{Lh:Prop}(m:(∀a b c d e w,H a b c d e w→awV a b c d e w)→Lh)(t:∀a b c d e w,H a b c d e w→awV a b c d e w):Lh:=m t
structure Md where
 aF:List UInt8
 src:List UInt8
 share:List UInt8
 ay:List UInt8
 ah:Int
 sub:Int
 aL:Bool
 aI:Bool
 fM:Int
 fm:Int
 co:List UInt8
 cr:List UInt8
 us:List UInt8
 ids:List Int
 origin:Int
 number:Int
structure A1(w:World)(a0 a1 a2 a3 b1 b2 b3 b4:Value)(m:Md):Prop where
 t:Bs w a0 m.aF
 f:Bs w a1 m.src
 s:Bs w a2 m.share
 p:Bs w a3 m.ay
 c:Bs w b1 m.co
 r:Bs w b2 m.cr
 u:Bs w b3 m.us
 i:Is w b4 m.ids
theorem A1.below{a0 a1 a2 a3 b1 b2 b3 b4:Value}{m:Md}(h:A1 w a0 a1 a2 a3 b1 b2 b3 b4 m)(U:Below w w w'):A1 w' a0 a1 a2 a3 b1 b2 b3 b4 m:=
 ⟨h.t.below U,h.f.below U,h.s.below U,h.p.below U,h.c.below U,h.r.below U,h.u.below U,h.i.below U⟩
structure F8(m:Md):Prop where
 fm:iR m.fm
 fM:iR m.fM
def vR:List UInt8:= [36,115,104,97,114,101,47,103,47]
def sQ(l:List Int):List Int:=(l.take 4).map fun x=>IntKind.i64.wrap (1+bits .and .i64 x 16777215)
def jW(m:Md):Im:=
 ⟨⟨116::e_ m.aF,m.ay.take 300,within m.ah 0 2,m.aL,e_ m.src,if 0<m.fM then bits .and .i64 m.fM 65535 else 0,mJ m.fm m.co m.cr m.us,bits .and .i64 m.origin 255,bits .and .i64 m.number 16777215,0⟩,
  within m.sub 0 2,m.aI,sQ m.ids,if 0<m.share.length then vR++e_ m.share else []⟩
theorem Po(h1:p.data.length≤30)(h2:p.text.length≤30)(h3:p.pair.length≤30)(h4:0≤p.id)(h5:p.id≤100)(h6:iR p.num):PB p:=⟨by omega,by omega,by omega,by omega,by omega,h6.1,h6.2⟩
theorem alY(fm:Int)(co cr us:List UInt8):∀p∈mJ fm co cr us,PB p:=by
 have hp:∀l:List UInt8,(e_ l).length≤30:=qN;have J:(cr.take 30).length≤30:=by rw[bS];omega
 have hz:([]:List UInt8).length≤30:=bP _;have h0:iR 0:=⟨by omega,by omega⟩
 have U:iR (bits .and .i64 fm 1):=⟨bits_lo_i64 .and fm 1,bits_hi_i64 .and fm 1⟩
 obtain⟨bb,yl⟩:=ai (bits .and .i64 fm 1);rw[yl] at U;intro p mu;unfold mJ at mu;rw[yl] at mu;rcases ez.1 mu with mu|mu
 ·rcases ez.1 mu with mu|mu
  ·rcases ez.1 mu with mu|mu
   ·split at mu
    ·obtain rfl:=dM.1 mu;exact Po hz hz hz (by show(0:Int)≤1;omega) (by show(1:Int)≤100;omega) U
    ·cases mu
   ·split at mu
    ·obtain rfl:=dM.1 mu;exact Po hz (hp _) hz (by show(0:Int)≤3;omega) (by show(3:Int)≤100;omega) h0
    ·cases mu
  ·split at mu
   ·obtain rfl:=dM.1 mu;exact Po J hz hz (by show(0:Int)≤9;omega) (by show(9:Int)≤100;omega) h0
   ·cases mu
 obtain⟨u,_,rfl⟩:=List.mem_map.1 mu;exact Po hz (hp _) (hp _) (by show(0:Int)≤38;omega) (by show(38:Int)≤100;omega) h0
theorem alZ(fm:Int)(co cr us:List UInt8):(mJ fm co cr us).length≤7:=by
 unfold mJ;rw[aK,aK,aK,j0,bS]
 split<;>split<;>split<;>simp<;>omega
theorem abB(m:Md):fX (jW m):=by
 have hq:=vj m.ah 0 2 (by decide);have W:=vj m.sub 0 2 (by decide);have hp:∀l:List UInt8,(e_ l).length≤30:=qN;refine⟨⟨?_,?_,?_,?_,alY _ _ _ _,?_⟩,?_,?_,?_⟩
 ·have:=hp m.aF;show(116::e_ m.aF).length≤_;rw[ey]
  omega
 ·show(m.ay.take 300).length≤_;rw[bS]
  omega
 ·have:=hp m.src;show(e_ m.src).length≤_
  omega
 ·have:=alZ m.fm m.co m.cr m.us;show(mJ m.fm m.co m.cr m.us).length≤_
  omega
 ·show _≤within m.ah 0 2∧_;show _∧within m.ah 0 2≤_
  omega
 ·show(sQ m.ids).length≤_;unfold sQ;rw[j0,bS]
  omega
 ·show(if 0<m.share.length then vR++e_ m.share else []).length≤_;have:=hp m.share
  split
  ·rw[aK];show 9+_≤_
   omega
  simp
 show _≤within m.sub 0 2∧_;show _∧within m.sub 0 2≤_
 omega
structure IR(aw4:World)(N:Nat)(bx:Obj)(x:World):Prop where
 low:Below aw4 aw4 x
 box:x.heap[N]? =some bx
 res:x.heap[N+1]? =some (.cells aX 36)
 sz:N+2≤x.heap.size
theorem IR.below{x:World}(h:IR aw4 N bx x)(U:Below x x x'):IR aw4 N bx x':=
 ⟨cz h.low U h.low.size,(U.block _ (eI.1 h.box).1).trans h.box,(U.block _ (eI.1 h.res).1).trans h.res,aJ h.sz U.size⟩
theorem IR.alloc{x:World}(h:IR aw4 N bx x)(o:Obj):IR aw4 N bx (x.alloc o):=h.below (aD _ o)
theorem IR.grown{x:World}(h:IR aw4 N bx x)(A:x.grownBy x' (some K))(h1:aw4.heap.size≤K)(h2:K≠N)(h3:K≠N+1):IR aw4 N bx x':=
 ⟨Jr h.low A h.low.size (fun k G=>by cases G;exact h1),(A.block _ (eI.1 h.box).1 (fun e=>h2 (Option.some.inj e).symm)).trans h.box,(A.block _ (eI.1 h.res).1 (fun e=>h3 (Option.some.inj e).symm)).trans h.res,aJ h.sz A.size⟩
theorem DT{x:World}(h:x.heap[N]? =some o)(U:Below x x x'):x'.heap[N]? =some o:=(U.block _ (eI.1 h).1).trans h
theorem T8{b c e f g i j:Value}(hN:w.heap[N]? =some (.cells #[a,b,c,d,e,f,g,h,i,j] t fr)):
 (w.cell? ⟨N,0,none⟩=some a∧w.cell? ⟨N,1,none⟩=some b∧w.cell? ⟨N,2,none⟩=some c∧w.cell? ⟨N,3,none⟩=some d∧w.cell? ⟨N,4,none⟩=some e)∧w.cell? ⟨N,5,none⟩=some f∧w.cell? ⟨N,6,none⟩=some g∧w.cell? ⟨N,7,none⟩=some h∧w.cell? ⟨N,8,none⟩=some i∧w.cell? ⟨N,9,none⟩=some j:=
 ⟨⟨D 0 hN,D 1 hN,D 2 hN,D 3 hN,D 4 hN⟩,D 5 hN,D 6 hN,D 7 hN,D 8 hN,D 9 hN⟩
theorem abC{x:World}{o0 o1 o2 o3 o4 o5 o6 o7 o8 o9:Value}(h:x.heap[N]? =some (.cells #[o0,o1,o2,o3,o4,o5,o6,o7,o8,o9] t (0,0)))(a0 a1 a2 a3 a4 a5 a6 a7 a8 a9:Value):
 ((((((((((x.setCell ⟨N,0,none⟩ a0).setCell ⟨N,1,none⟩ a1).setCell ⟨N,2,none⟩ a2).setCell ⟨N,3,none⟩ a3).setCell ⟨N,4,none⟩ a4).setCell ⟨N,5,none⟩ a5).setCell ⟨N,6,none⟩ a6).setCell ⟨N,7,none⟩ a7).setCell ⟨N,8,none⟩ a8).setCell ⟨N,9,none⟩ a9).heap[N]? =some (.cells #[a0,a1,a2,a3,a4,a5,a6,a7,a8,a9] t (0,0))∧x.grownBy ((((((((((x.setCell ⟨N,0,none⟩ a0).setCell ⟨N,1,none⟩ a1).setCell ⟨N,2,none⟩ a2).setCell ⟨N,3,none⟩ a3).setCell ⟨N,4,none⟩ a4).setCell ⟨N,5,none⟩ a5).setCell ⟨N,6,none⟩ a6).setCell ⟨N,7,none⟩ a7).setCell ⟨N,8,none⟩ a8).setCell ⟨N,9,none⟩ a9) (some N):=by
 have k0:_=some (Obj.cells #[a0,o1,o2,o3,o4,o5,o6,o7,o8,o9] t (0,0)):=bm _ N 0 _ _ a0 h;have k1:_=some (Obj.cells #[a0,a1,o2,o3,o4,o5,o6,o7,o8,o9] t (0,0)):=bm _ N 1 _ _ a1 k0;have k2:_=some (Obj.cells #[a0,a1,a2,o3,o4,o5,o6,o7,o8,o9] t (0,0)):=bm _ N 2 _ _ a2 k1;have k3:_=some (Obj.cells #[a0,a1,a2,a3,o4,o5,o6,o7,o8,o9] t (0,0)):=bm _ N 3 _ _ a3 k2;have k4:_=some (Obj.cells #[a0,a1,a2,a3,a4,o5,o6,o7,o8,o9] t (0,0)):=bm _ N 4 _ _ a4 k3;have k5:_=some (Obj.cells #[a0,a1,a2,a3,a4,a5,o6,o7,o8,o9] t (0,0)):=bm _ N 5 _ _ a5 k4;have k6:_=some (Obj.cells #[a0,a1,a2,a3,a4,a5,a6,o7,o8,o9] t (0,0)):=bm _ N 6 _ _ a6 k5;have k7:_=some (Obj.cells #[a0,a1,a2,a3,a4,a5,a6,a7,o8,o9] t (0,0)):=bm _ N 7 _ _ a7 k6;have k8:_=some (Obj.cells #[a0,a1,a2,a3,a4,a5,a6,a7,a8,o9] t (0,0)):=bm _ N 8 _ _ a8 k7;have k9:_=some (Obj.cells #[a0,a1,a2,a3,a4,a5,a6,a7,a8,a9] t (0,0)):=bm _ N 9 _ _ a9 k8;refine⟨k9,?_⟩;exact XR
def Pp(_:Md)(_:av)(_:Nat)(_:av)(_:Nat)(_:av)(_:Nat)(_:av)(_:Nat)(_:av)(_:Nat)(_:av)(_:Nat)(_:av)(_:Nat)(_:av)(_:Nat):Zt:=Zt.a
instance avy{x:Md}{a0:av}{a1:Nat}{a2:av}{a3:Nat}{a4:av}{a5:Nat}{a6:av}{a7:Nat}{a8:av}{a9:Nat}{r9:av}{r_:Nat}{a12:av}{sf:Nat}{sg:av}{si:Nat}:CoeDep Zt (Pp x a0 a1 a2 a3 a4 a5 a6 a7 a8 a9 r9 r_ a12 sf sg si) (Array Value):=⟨#[.slice a0 x.aF.length a1,.slice a2 x.src.length a3,.slice a4 x.share.length a5,.slice a6 x.ay.length a7,.int .i64 x.ah,.int .i64 x.sub,.bool x.aL,.bool x.aI,.int .i64 x.fM,.int .i64 x.fm,.slice a8 x.co.length a9,.slice r9 x.cr.length r_,.slice a12 x.us.length sf,.slice sg x.ids.length si,.int .i64 x.origin,.int .i64 x.number]⟩
instance avz{x:Md}{a0:av}{a1:Nat}{a2:av}{a3:Nat}{a4:av}{a5:Nat}{a6:av}{a7:Nat}{a8:av}{a9:Nat}{r9:av}{r_:Nat}{a12:av}{sf:Nat}{sg:av}{si:Nat}:CoeDep Zt (Pp x a0 a1 a2 a3 a4 a5 a6 a7 a8 a9 r9 r_ a12 sf sg si) (List Value):=⟨[.slice a0 x.aF.length a1,.slice a2 x.src.length a3,.slice a4 x.share.length a5,.slice a6 x.ay.length a7,.int .i64 x.ah,.int .i64 x.sub,.bool x.aL,.bool x.aI,.int .i64 x.fM,.int .i64 x.fm,.slice a8 x.co.length a9,.slice r9 x.cr.length r_,.slice a12 x.us.length sf,.slice sg x.ids.length si,.int .i64 x.origin,.int .i64 x.number]⟩
theorem al3(fm:Int)(h1:¬0≤fm)(_: -9223372036854775808≤fm)(_:fm≤9223372036854775807)(cv rv uv:Value)(co cr us:List UInt8)(L:List Pr)(hL:mJ fm co cr us=L)(aw4 w:World)(A2:Below aw4 aw4 w)(A3:Bs aw4 cv co)(fL:Bs aw4 rv cr)(rH:Bs aw4 uv us)(R:ak)
 (I:∀Y c ds w',OP aw4 w.heap.size w' Y L.length c ds L→Below w w w'→R (.returned (.slice Y L.length c)) w'):
 Calls prog 39 #[.agg #[E fm,cv,rv,uv]] w R:=by
 have HR:=Z I;obtain⟨ca,cc,rfl,_⟩:=id A3;obtain⟨ra,rc,rfl,_⟩:=id fL;obtain⟨ua,uc,rfl,_⟩:=id rH;have aM:Below w w (w.alloc (.cells #[E fm,.slice ca co.length cc,.slice ra cr.length rc,.slice ua us.length uc] 24)):=aD _ _;have tO:=Z (aH w (.cells #[E fm,.slice ca co.length cc,.slice ra cr.length rc,.slice ua us.length uc] 24));have pG:Hid (OL aw4 w (w.alloc (.cells #[E fm,.slice ca co.length cc,.slice ra cr.length rc,.slice ua us.length uc] 24)) none 0 0 [] []):=OL.nil aw4 w _ A2 aM;obtain⟨aby,oW,TZ,oI,kN⟩:=jq A3 fL rH hL A2;clear I A3 fL rH hL A2;obtain⟨l0,pz⟩:∃l0,(if 0≤fm then [(⟨1,bits .and .i64 fm 1,[],[],[]⟩:Pr)] else [])++(if 0<co.length then [⟨3,0,e_ co,[],[]⟩] else [])++(if 0<cr.length then [⟨9,0,[],[],cr.take 30⟩] else [])=l0:=⟨_,rfl⟩
 have abA:Hid (L=l0++(us.take 4).map fun u=>⟨38,0,e_ [u],e_ us,[]⟩):=by show _=_;rw[←oI.O,←pz];rfl
 have Pm:=Z pz;clear pz oI;obtain⟨C,hC⟩:=ai (cr.take (30:Int).toNat);have mz:C.length≤140737488351232:=by rw[←hC,bS];have:=Nat.min_le_left (30:Int).toNat cr.length;omega
 rw[show List.take 30 cr=C from hC] at Pm;have HC:=Z hC;have mB:=Z mz;clear hC mz;obtain⟨c0,c1,c2,c3⟩:=Ck tO.O;by_cases h2:(0:Int)<(co.length:Int)
 ·have Pn:0<co.length:=by omega
  by_cases h3:(0:Int)<(cr.length:Int)
  ·have DS:0<cr.length:=by omega
   exact DR
  have DS:¬0<cr.length:=by omega
  exact DR
 have Pn:¬0<co.length:=by omega
 by_cases h3:(0:Int)<(cr.length:Int)
 ·have DS:0<cr.length:=by omega
  exact DR
 have DS:¬0<cr.length:=by omega
 exact DR
