/- A part of the proof of SessionReads; no conditions. -/
import Derived.Test.YtgimbocoamnkjaaGreatDoorM13
import Derived.Test.YtgimbocoamnkjaaGreatDoorM12
import Derived.Lib.ValidLaws
import Derived.Lib.TrimAscii
set_option maxRecDepth 100000
set_option maxHeartbeats 16000000
namespace Go.Proofs.YtgimbocoamnkjaaGreatDoor
open _root_.Go.Proofs.Tryz
open Nat (add_mul zero_add)
variable{w w':World}
open Go.RowKit
section
variable {P:Program} {w:World}
theorem adv{P:Prop}(h:P:=by
 rw[hr] at j2;simp only[Result.ok.injEq] at j2;obtain⟨rfl,rfl⟩:=j2;exact⟨.inr ⟨⟨w.heap.size,rfl,Nat.le_refl _⟩,⟨rfl,rfl,rfl,by simp,fun k G _=>heap_alloc_old w.drew _ G⟩⟩,Nat.le_succ _⟩):P:=h
theorem aqN(base:Nat)(t ty e:TypeId)(i:TypeInfo)(z:Value)(size bytes:Nat)(ht:P.underlying t=some (.slice e))(hi:P.info? e=some i)(hz:i.zero=some z)
 (qX:i.size=size) (qY:i.bytes=bytes) (iY:z.cells.size=size) (bt:0<size)
 (v:Value) (n:Nat) (xs:List Value) (aU:w.ownsRow base e size v n xs)
 (a:Addr) (m c:Nat) (news:List Value) (hl:news.length=m*size) (nx:∀j u,news[j]? =some u→w.cell? (a.add j)=some u) (h1:∀u∈news,u.oneCell'=true)
 (h63:n+m≤maxLen) (gz:(n+m) *bytes≤140737488355328) (kG:base≤w.heap.size) (hm:0<m):
 ∃v' w',(Builtin.append_ #[t,t] ty #[v,.slice (some a) m c]).run P w= .ok v' w'∧w'.ownsRow base e size v' (n+m) (xs++news)∧C2 w w' v v'∧w.drawn≤w'.drawn:=by
 obtain⟨v',w',hr,h2,h3,_,_⟩:=run_append_own_at (P:=P) w base t ty e i z size bytes ht hi hz qX qY iY bt v n xs aU a m c news hl nx h1 h63 gz kG;refine⟨v',w',hr,h2,?_⟩;subst qX qY;have ahj:n+m≤9223372036854775807:=by simp only[maxLen] at h63;omega
 rcases aU.2 with⟨rfl,rfl⟩|⟨g,cap,cur,rfl,hbg,A,Ex,vg,dQ,htake⟩
 ·have j2:=run_append_nil (P:=P) w t ty e i z ht hi hz a m c news hl nx hm (by omega) (by have U:=gz;simp only[zero_add] at U;omega);exact adv
 by_cases BA:n+m≤cap
 ·have BC:n*i.size+news.length≤cur.size:=by rw[hl,dQ,←add_mul];exact uh _ BA
  have j2:=run_append_room (P:=P) w t ty e i ht hi g n cap cur A a m c news hl nx h1 BA BC;rw[hr] at j2;simp only[Result.ok.injEq] at j2;obtain⟨rfl,rfl⟩:=j2;exact⟨.inl ⟨g,n,n+m,cap,rfl,rfl,h3⟩,Nat.le_refl _⟩
 have holds:∀j u,xs[j]? =some u→w.cell? ((⟨g,0,none⟩:Addr).add j)=some u:=aU.cells (g:=g) rfl;have j2:=run_append_grow (P:=P) w t ty e i z ht hi hz ⟨g,0,none⟩ n cap xs aU.1 holds a m c news hl nx (by omega) (by omega) (growslice_fits (by omega) gz);exact adv
end
theorem aqO(h:Below w w w')(hd:w.drawn≤w'.drawn):No w w':=by
 refine⟨w'.drawn - w.drawn,w'.heap.extract w.heap.size w'.heap.size,?_⟩;obtain⟨hp,tp,dr,os,ou⟩:=w';obtain⟨tb,aqP,U9,aqQ,aqR⟩:=w;have h1:os=aqQ:=h.os;have h2:tp=aqP:=h.tape;have h3:ou=aqR:=h.output;have h4:tb.size≤hp.size:=h.size;have h5:∀k,k<tb.size→hp[k]? =tb[k]?:=h.block;have h6:U9≤dr:=hd;subst h1 h2 h3;have e1:hp=tb++hp.extract tb.size hp.size:=by
  apply Array.ext_getElem?;intro k;by_cases G:k<tb.size
  ·rw[Array.getElem?_append_left G,h5 k G]
  rw[Array.getElem?_append_right (by omega),Array.getElem?_extract]
  split
  ·congr 1
   omega
  exact Array.getElem?_eq_none (by omega)
 show World.mk _ _ _ _ _=World.mk _ _ _ _ _
 congr 1
 show dr=U9+(dr - U9)
 omega
theorem aqS{P:Program}{ops:Array Oper}{rest:List Oper}{o:Oper}{a:Act}{Q:Exit→Act→World→Prop}(oe:o.guard=none)(s x:Operand)(t:TypeId)
 (ho:o.op= .call {callee:= .builtin .append,args:=#[s,x],argTypes:=#[t,t]})
 (base:Nat) (e:TypeId) (z:Value) (size bytes:Nat) (ht:P.underlying t=some (.slice e)) (mn:(P.info? e).map (fun i=>(i.zero,i.size,i.bytes))=some (some z,size,bytes)) (iY:z.cells.size=size) (bt:0<size)
 (Y:av) (n c:Nat) (xs:List Value) (W:a.eval s= .slice Y n c) (aU:w.ownsRow base e size (.slice Y n c) n xs)
 (lF:Addr) (c2:Nat) (news:List Value) (F:a.eval x= .slice (some lF) 1 c2) (bQ:Rd w size (some lF) 1 news) (h1:∀u∈news,u.oneCell'=true)
 (h63:n+1≤maxLen) (gz:(n+1) *bytes≤140737488355328) (kG:base≤w.heap.size)
 (h:∀bK c' w',w'.ownsRow base e size (.slice bK (n+1) c') (n+1) (xs++news)→w.grownBy w' (Value.slice Y n c).ownBlock→w.drawn≤w'.drawn→wpList P ops Q rest (a.put o.dst (.slice bK (n+1) c')) w'):
 wpList P ops Q (o::rest) a w:=by
 obtain⟨i,hi,hz,dJ,fV⟩:=info_parts mn;refine wpList_plain oe fun K hK=> ?_;obtain⟨v',w',hr,h2,h3,h4⟩:=aqN (P:=P) (w:=w) base t o.type e i z size bytes ht hi hz dJ fV iY bt _ n xs aU lF 1 c2 news bQ.1 (by
  intro j q hj;obtain⟨b,o',Rw,J⟩:=bQ.2 (by omega);obtain rfl:=Option.some.inj Rw;have ti:j<1*size:=by rw[←bQ.1];exact(qe.1 hj).1
  rw[Addr.add_lit,J j ti];exact hj) h1 h63 gz kG (by decide)
 obtain⟨bK,c',rfl⟩:=cR h2;unfold Oper.wp execOp;simp only[ho,resolve,invoke,builtin,Sem.run_bind,Sem.run_pure,Result.andThen_ok,List.map_toArray,List.map_cons,List.map_nil,W,F,hr];refine hK _ _ (h bK c' w' h2 ?_ h4);rcases h3 with⟨b,n1,n2,c3,q1,q2,q3⟩|⟨_,q3⟩
 ·rw[q1];exact q3
 exact AE q3
theorem aqT(v:Value)(l:List Pr)(ids:List Int)(hm:ids.length≤1000)(ia:av)(n c:Nat)(hn:n=ids.length)(w:World)(cs:List Value)(hr:Rd w 1 ia n cs)(dQ:cs=ids.map (Value.int .i64))(hv:Ps w v l)(ox:l.length≤1000000)(R:ak)
 (I:∀Y cc w',Below w w w'→w.drawn≤w'.drawn→R (.returned (.slice Y (lY l ids).length cc)) w'):
 Calls prog 177 #[v,.slice ia n c] w R:=by
 obtain⟨HR,HV,vE,adw,HN⟩:=jq I hv hr dQ hn;obtain⟨va,vc,rfl,_⟩:=_root_.id hv;clear I hv hr dQ hn;go_enter func177,ntmps177;go_wp2;go_loopg [5,6] l.length (fun gn L i wr=>∃(k:Nat)(o:List Pr)(oa:av)(oc:Nat),k≤l.length∧gn=l.length - k∧i= .int .i64 k∧L= .slice oa o.length oc∧Hid (o=lY (l.take k) ids)∧o.length≤k∧Hid (∃xs,wr.ownsRow w 147 5 (.slice oa o.length oc) o.length xs)∧Below w w wr∧w.drawn≤wr.drawn)
 case atStart=>exact⟨0,[],none,0,bP _,by omega,rfl,rfl,Z rfl,Nat.le_refl _,Z ⟨[],bO _ _ _ _⟩,Below.refl _ _,Nat.le_refl _⟩
 case round=>
  obtain⟨k,o,oa,oc,G,rfl,rfl,rfl,HO,eS,dR,U,U_⟩:=hrel;obtain⟨wo,rfl⟩:∃y,y=wr:=⟨_,rfl⟩
  by_cases au:k<l.length
  ·have bo:(k:Int)<(l.length:Int):=by omega
   obtain⟨EU,EV,ee,_,_,_,v4⟩:=HV.O.below U;simp only[Value.slice.injEq] at ee;obtain⟨rfl,-,rfl⟩:=ee;obtain⟨vb,vo,rfl,v5⟩:=v4 (by omega);obtain⟨d0,⟨p0,p1,p2,p3,p4⟩,iJ⟩:=v5 k au;have oy:Hid (l.take (k+1)=l.take k++ [l[k]]):=Z (kF au);obtain⟨y,hy⟩:=ai (l[k]);rw[hy] at p0 p1 p2 p3 iJ oy;obtain⟨d1,d3,rfl,_⟩:=_root_.id iJ.hd;obtain⟨z,hz⟩:=ai (ids.contains y.id);have eP:lY (l.take (k+1)) ids=o++(if z=true then [y] else []):=by rw[oy.O,Z7,←HO.O,hz]
   have vJ:=Z eP;have HZ:=Z hz;clear v4 v5 hy iJ hz eP;cases z with
   |false=>
    go_wp2_with (go_at_call 205;go_must(refine UX y.id ids false HZ.O ia n c HN.O hm _ cs (vE.O.below U) adw.O _ ?_));go_roundg (l.length - (k+1))
    case measure=>omega
    case rel=>exact⟨k+1,o,oa,oc,by omega,rfl,by go_num,rfl,Z (by rw[vJ.O];simp),by omega,dR,U,U_⟩
   |true=>
    obtain⟨xs,aq⟩:=dR.O;have aV:=Z aq;clear aq;have fE:=aV.O;have bQ:=dO wo (eA y d1 d3) 147 5 1 rfl;go_wp2_with (first
     |(go_at_call 205;go_must(refine UX y.id ids true HZ.O ia n c HN.O hm _ cs (vE.O.below U) adw.O _ ?_))
     |(at_builtin;go_must(refine aqS (by rfl) (.tmp 20) (.tmp 25) 32 (by rfl) w 147 (.agg jt) 5 72 underlying32 Tryz.Ar rfl (by decide) _ _ _ _ rfl (World.ownsRow.alloc fE _) _ _ _ rfl bQ (Br _ _ _) (by unfold maxLen;omega) (by omega) (aJ U.size (by simp)) ?_)))
    intro fS c6 w6 eo bI aqU;have aqV:w.drawn≤w6.drawn:=aJ U_ aqU;have BN:Below w w w6:=bT (U.alloc U.size _) bI (aJ U.size (by simp)) (fE.alloc _);have aqW:Hid (∃xs,w6.ownsRow w 147 5 (.slice fS (o++ [y]).length c6) (o++ [y]).length xs):=Z ⟨_,by rw[aK];exact eo⟩;clear eo bI fE bQ;go_wp2;go_roundg (l.length - (k+1))
    case measure=>omega
    case rel=>exact⟨k+1,o++ [y],fS,c6,by omega,rfl,by go_num,by rw[aK];rfl,Z (by rw[vJ.O];simp),by rw[aK];simp;omega,aqW,BN,aqV⟩
  have bo:¬(k:Int)<(l.length:Int):=by omega
  have zn:lY l ids=o:=by rw[HO.O,gy (by omega)]
  have HF:=Z zn;clear zn;go_wp2;have h9:=HR.O oa oc _ U U_;rw[HF.O] at h9;exact h9
theorem aqX(v:Value)(l:List Pr)(w:World)(hv:Ps w v l)(ox:l.length≤1000000)(m:Nat)(hm:(lY l [1,3,8,9,38]).length=m)(R:ak)
 (I:∀Y cc w',No w w'→R (.returned (.slice Y m cc)) w'):
 Calls prog 160 #[v] w R:=by
 subst hm;have HR:=Z I;have aM:Below w w (w.alloc (.cells #[Value.int .i64 1,Value.int .i64 3,Value.int .i64 8,Value.int .i64 9,Value.int .i64 38] 3)):=aD _ _;have bB:=Z aM;have HV:=Z (hv.below aM);have HI:=Z (dO w #[Value.int .i64 1,Value.int .i64 3,Value.int .i64 8,Value.int .i64 9,Value.int .i64 38] 3 1 5 rfl);obtain⟨va,vc,rfl,_⟩:=id hv;clear I aM hv;go_enter func160,ntmps160;go_wp2_with (first
  |(go_at_call 177;go_must(refine aqT _ l [1,3,8,9,38] (by decide) _ 5 5 rfl _ _ HI.O rfl HV.O ox _ ?_);intro oa oc w3 an oH;have cq:=Z (aqO (aQ bB.O an) (show w.drawn≤w3.drawn from oH));clear an oH))
 exact HR.O _ _ _ cq.O
theorem aqY(q:Int)(b:Bool)(kr:0≤q)(gJ:q≤2):lK q b=(if b=true then q+4 else q):=by
 obtain rfl|rfl|rfl:q=0∨q=1∨q=2:=by omega
 all_goals cases b<;>decide+kernel
theorem av9(q:Int)(b:Bool)(kr:0≤q)(gJ:q≤2)(m:Int)(hm:lK q b=m)(w:World)(R:ak)
 (I:R (.returned (.int .u8 m)) w):
 Calls prog 124 #[E q,.bool b] w R:=by
 have HR:=Z I;rw[aqY q b kr gJ] at hm;exact adt
theorem alI(x:Nt)(pv qv pu qu:Value)(w:World)(hp:Bs w pv x.ay)(hq:Ps w qv x.props)(m9:Bs w pu x.ay)(pk:Ps w qu x.props)(R:ak)
 (I:∀w',Below w w w'→R (.returned (.bool true)) w'):
 Calls prog 152 #[(Value.agg (uj x pv qv)),(Value.agg (uj x pu qu))] w R:=by
 obtain⟨aF,ay,ah,aL,src,aP,props,origin,number,aW⟩:=x;simp only at*;obtain⟨O0,kH⟩:=ai ((Obj.cells #[.string (str aF),pv,E ah,.bool aL,.string (str src),E aP,qv,E origin,E number,E aW] 34));obtain⟨O1,eP⟩:=ai ((Obj.cells #[.string (str aF),pu,E ah,.bool aL,.string (str src),E aP,qu,E origin,E number,E aW] 34));have aM:Below w w ((w.alloc O0).alloc O1):=(aD _ _).alloc (by simp) _;have n0:=js (o':=O1) (aH w O0);have n1:=aH (w.alloc O0) O1;rw[show(w.alloc O0).heap.size=w.heap.size+1 by simp] at n1;obtain⟨bB,N0,N1⟩:=bX aM n0 n1;rw[←kH,←eP] at bB N0 N1;clear aM n0 n1 kH eP;have HR:=Z I;have HP:=Z (hp.below bB.O);have mU:=Z (m9.below bB.O);have HQ:=Z (hq.below bB.O);have nM:=Z (pk.below bB.O);have jT:Hid (Bq props props=true):=eN rfl;clear hp hq m9 pk I;go_enter func152,ntmps152;go_wp2_with (first
  |(go_at_call 53;go_must(refine Dy _ _ ay ay _ HP.O mU.O _ ?_);rw[beq_self_eq_true])
  |(go_at_call 169;go_must(refine J9 _ _ props props true jT.O _ HQ.O nM.O _ ?_);intro w3 an;have r0:=aA N0.O an;have r1:=aA N1.O an;have c7:=D 7 r0;have c8:=D 8 r0;have c9:=D 9 r0;have d7:=D 7 r1;have d8:=D 8 r1;have d9:=D 9 r1))
 all_goals exact HR.O _ (aQ bB.O an)
theorem alJ(a b:av)(c e:Nat)(w:World)(R:ak)
 (I:R (.returned (.bool true)) w):
 Calls prog 153 #[.slice a 0 c,.slice b 0 e] w R:=by
 have HR:=Z I;clear I;go_enter func153,ntmps153;go_wp2;refine wp_loop_rounds 1 ?_;rw[rounds_succ];go_wp2;exact HR.O
theorem aet(x:Nt)(h:x≠gN x.aF):x.ay≠ []∨(x.ay= []∧x.ah≠0)∨(x.ay= []∧x.ah=0∧x.aL=true)∨(x.ay= []∧x.ah=0∧x.aL=false∧x.src≠ [])∨(x.ay= []∧x.ah=0∧x.aL=false∧x.src= []∧x.aP≠0)∨(x.ay= []∧x.ah=0∧x.aL=false∧x.src= []∧x.aP=0∧x.props≠ [])∨(x.ay= []∧x.ah=0∧x.aL=false∧x.src= []∧x.aP=0∧x.props= []∧x.origin≠0)∨(x.ay= []∧x.ah=0∧x.aL=false∧x.src= []∧x.aP=0∧x.props= []∧x.origin=0∧x.number≠0)∨(x.ay= []∧x.ah=0∧x.aL=false∧x.src= []∧x.aP=0∧x.props= []∧x.origin=0∧x.number=0∧x.aW≠0):=by
 obtain⟨aF,ay,ah,aL,src,aP,props,origin,number,aW⟩:=x;simp only[gN,ne_eq,Nt.mk.injEq,true_and] at*;by_cases a1:ay= []<;>by_cases a2:ah=0<;>cases aL<;>by_cases a3:src= []<;>by_cases a4:aP=0<;>by_cases a5:props= []<;>by_cases a6:origin=0<;>by_cases a7:number=0<;>simp_all
theorem QV{P:Prop}(h:P:=by
 go_enter func152,ntmps152;go_wp2_with (first
  |(go_at_call 53;go_must(refine Dy _ _ _ [] _ HP.O mU.O _ ?_);rw[sw.O])
  |(go_at_call 169;go_must(refine J9 _ _ _ [] _ jT.O _ HQ.O nM.O _ ?_);intro w3 an;have r0:=aA N0.O an;have r1:=aA N1.O an;have c7:=D 7 r0;have c8:=D 8 r0;have c9:=D 9 r0;have d7:=D 7 r1;have d8:=D 8 r1;have d9:=D 9 r1;have Mw:=Z (aQ bB.O an)))
 exact HR.O _ Mw.O):P:=h
theorem Mx{P:Prop}(h:P:=by
 go_enter func152,ntmps152;go_wp2_with (first
  |(go_at_call 53;go_must(refine Dy _ _ _ [] _ HP.O mU.O _ ?_);rw[sw.O])
  |(go_at_call 169;go_must(refine J9 _ _ _ [] _ jT.O _ HQ.O nM.O _ ?_);intro w3 an;have r0:=aA N0.O an;have r1:=aA N1.O an;have c7:=D 7 r0;have c8:=D 8 r0;have c9:=D 9 r0;have d7:=D 7 r1;have d8:=D 8 r1;have d9:=D 9 r1;have Mw:=Z (aQ bB.O an)))
 exact HR.O _ bB.O):P:=h
theorem aeu(x:Nt)(z:Bool)(hz:z=true↔x=gN x.aF)(pv qv pu qu:Value)(w:World)(hp:Bs w pv x.ay)(hq:Ps w qv x.props)(m9:Bs w pu [])(pk:Ps w qu [])(R:ak)
 (I:∀w',Below w w w'→R (.returned (.bool z)) w'):
 Calls prog 152 #[(Value.agg (uj x pv qv)),(Value.agg (uj (gN x.aF) pu qu))] w R:=by
 by_cases A:x=gN x.aF
 ·rw[hz.2 A] at I;rw[A] at hp hq;have:=alI (gN x.aF) pv qv pu qu w hp hq m9 pk R I;rw[A];exact this
 obtain rfl:z=false:=by cases z with|false=>rfl|true=>exact absurd (hz.1 rfl) A
 have J:=aet x A;obtain⟨aF,ay,ah,aL,src,aP,props,origin,number,aW⟩:=x;clear A hz;simp only[gN] at*;obtain⟨O0,kH⟩:=ai ((Obj.cells #[.string (str aF),pv,E ah,.bool aL,.string (str src),E aP,qv,E origin,E number,E aW] 34));obtain⟨O1,eP⟩:=ai ((Obj.cells #[.string (str aF),pu,E 0,.bool false,.string (str []),E 0,qu,E 0,E 0,E 0] 34));have aM:Below w w ((w.alloc O0).alloc O1):=(aD _ _).alloc (by simp) _;have n0:=js (o':=O1) (aH w O0);have n1:=aH (w.alloc O0) O1;rw[show(w.alloc O0).heap.size=w.heap.size+1 by simp] at n1;obtain⟨bB,N0,N1⟩:=bX aM n0 n1;rw[←kH,←eP] at bB N0 N1;clear aM n0 n1 kH eP;have HR:=Z I;have HP:=Z (hp.below bB.O);have mU:=Z (m9.below bB.O);have HQ:=Z (hq.below bB.O);have nM:=Z (pk.below bB.O);have jT:Hid (Bq props []=decide (props= [])):=rfl;have sw:Hid ((ay== [])=decide (ay= [])):=by show _=_;cases ay<;>simp
 clear hp hq m9 pk I;rcases J with h1|⟨rfl,h2⟩|⟨rfl,rfl,rfl⟩|⟨rfl,rfl,rfl,h4⟩|⟨rfl,rfl,rfl,rfl,h5⟩|⟨rfl,rfl,rfl,rfl,rfl,h6⟩|⟨rfl,rfl,rfl,rfl,rfl,rfl,h7⟩|⟨rfl,rfl,rfl,rfl,rfl,rfl,rfl,h8⟩|⟨rfl,rfl,rfl,rfl,rfl,rfl,rfl,rfl,h9⟩
 ·have hf:decide (ay= [])=false:=dN h1;rw[hf] at sw;exact Mx
 ·have hf:(ah==0)=false:=by simpa using h2
  rw[eN rfl] at sw;exact Mx
 ·rw[eN rfl] at sw;exact Mx
 ·have hf:=Qo _ h4;rw[eN rfl] at sw;exact Mx
 ·have hf:(aP==0)=false:=by simpa using h5
  rw[eN rfl] at sw;exact Mx
 ·rw[eN rfl] at sw;rw[dN h6] at jT;exact QV
 ·rw[eN rfl] at sw jT;have hf:(origin==0)=false:=by simpa using h7
  exact QV
 ·rw[eN rfl] at sw jT;have hf:(number==0)=false:=by simpa using h8
  exact QV
 rw[eN rfl] at sw jT;have hf:(aW==0)=false:=by simpa using h9
 exact QV
theorem aev{P:Prop}(h:P:=by
 rw[Bool.eq_iff_iff,hz];simp only[Im.mk.injEq,Bool.and_eq_true,decide_eq_true_eq,Bool.not_eq_true',cJ,gN]
 constructor
 ·rintro⟨a,b,c,d,e⟩;exact⟨⟨⟨⟨a,b⟩,c⟩,d⟩,e⟩
 rintro⟨⟨⟨⟨a,b⟩,c⟩,d⟩,e⟩;exact⟨a,b,c,d,e⟩):P:=h
theorem CB(n:Int)(k:Nat)(G:1≤k)(Ix:k≤8)(P:List UInt8)(hP:aY (bz n) k=P)(w:World)(R:ak)
 (I:∀Y c w',w'.ownsRow w 5 1 (.slice Y P.length c) P.length (bv P)→Below w w w'→R (.returned (.slice Y P.length c)) w'):
 Calls prog 64 #[.int .u64 (IntKind.u64.wrap n),E k] w R:=by
 rw[show(Value.int .u64 (IntKind.u64.wrap n))=Value.int .u64 (bz n:Int) from Dc n];refine yX (bz n) (Dd n) (k:Int) P ?_ w R I;unfold eC;rw[if_neg (by omega),←hP]
 rfl
open List (nil_append)
theorem U'(q:Int)(b:Bool)(kr:0≤q)(gJ:q≤3):lK q b=(if b=true then q+4 else q):=by
 obtain rfl|rfl|rfl|rfl:q=0∨q=1∨q=2∨q=3:=by omega
 all_goals cases b<;>decide+kernel
theorem adA(q:Int)(b:Bool)(kr:0≤q)(gJ:q≤3)(m:Int)(hm:lK q b=m)(w:World)(R:ak)
 (I:R (.returned (.int .u8 m)) w):
 Calls prog 124 #[E q,.bool b] w R:=by
 have HR:=Z I;rw[U' q b kr gJ] at hm;exact adt
theorem Ma(l:List UInt8)(h:l.length≤65535):(b9 l).2=0↔eg l=true:=by
 constructor
 ·intro e;cases J:eg l with
  |true=>rfl
  |false=>
   unfold b9 at e;rw[J] at e;simp at e
 intro e;rw[Hk l h e]
theorem aqZ(l:List UInt8)(h:l.length≤65535):(dn l).2=0:=by
 unfold dn;rw[if_neg (by omega)]
theorem aq0(L:List Pr):((eO 3 L).1).length≤(L.flatMap bR).length+4:=by
 obtain⟨⟨awZ,c⟩,hX⟩:∃r,eO 3 L=r:=⟨_,rfl⟩
 exact aaf
structure Va(x:Nt):Prop where
 b:xC x
 t:x.aF.length≤65535
 p:x.ay.length≤65535
 s:x.src.length≤65535
 q0:0≤x.ah
 q1:x.ah≤3
 o:∃k:Nat,x.origin=(k:Int)∧k<256
 h:∃k:Nat,x.aW=(k:Int)∧k<256
 l:(x.props.flatMap bR).length≤65535
theorem Vb{P:Prop}(h:P:=by
 go_quiet (fail)
 all_goals
  go_wp2_with fail;go_meet;exact⟨rfl,Z (Go.below_drewN dg _)⟩):P:=h
theorem adB(x:Nt)(F:Va x)(awX:Bool)(hF:awX=true↔lZ x)(pv qv:Value)(aw4:World)(hp:Bs aw4 pv x.ay)(hq:Ps aw4 qv x.props)(hT:dy aw4)(aw0:List UInt8)(hY:eG x=aw0)(R:ak)
 (I:∀Y c u',u'.ownsRow aw4 5 1 (.slice Y aw0.length c) aw0.length (bv aw0)→Below aw4 aw4 u'→R (.returned (.tuple #[.slice Y aw0.length c,.bool awX])) u'):
 Calls prog 123 #[.agg (uj x pv qv)] aw4 R:=by
 obtain⟨aF,ay,ah,aL,src,aP,props,origin,number,aW⟩:=x;obtain⟨hB,tl,pl,sl,q0,q1,⟨ko,ho,jx⟩,⟨kh,hh,adC⟩,pA⟩:=F;have awa:=hB.q;have aq1:=hB.l;simp only at ho hh;subst ho hh;simp only at*;have HR:=Z I;have Ay:Hid ((props.flatMap bR).length≤90000000):=aJ pA (by decide);obtain⟨V,X,rfl⟩:∃a c,pv= .slice a ay.length c:=by obtain⟨a,c,e,_⟩:=hp;exact⟨a,c,e⟩
 obtain⟨qa,qc,rfl⟩:∃a c,qv= .slice a props.length c:=by obtain⟨a,c,e,_⟩:=hq;exact⟨a,c,e⟩
 obtain⟨⟨TT,te⟩,cQ⟩:∃q,b9 aF=q:=⟨_,rfl⟩
 obtain⟨⟨PP,pe⟩,wO⟩:∃q,dn ay=q:=⟨_,rfl⟩
 obtain⟨⟨FF,fe⟩,lM⟩:∃q,b9 src=q:=⟨_,rfl⟩
 obtain⟨⟨XX,xe⟩,AR⟩:∃q,eO 3 props=q:=⟨_,rfl⟩
 obtain rfl:pe=0:=by have:=aqZ ay pl;rw[wO] at this;exact this
 obtain⟨kl,gq⟩:=ai ((lY props [1,3,8,9,38]).length);have HF:Hid (awX=true↔((te=0∧fe=0∧xe=0∧kl=props.length)∧(ah≤2∧0≤aP∧aP≤4611686018427387904∧0≤number∧number≤4611686018427387904))):=Z (by
  have t1:=Ma aF tl;have t2:=Ma src sl;rw[cQ] at t1;rw[lM] at t2;simp only at t1 t2;rw[hF]
  constructor
  ·intro h;refine⟨⟨t1.2 h.tt,t2.2 h.st,?_,by have:=h.k;simp only at this;omega⟩,h.q1,h.e0,h.e1,h.n0,h.n1⟩;have:=h.lay;simp only at this;rw[AR] at this;exact this
  rintro⟨⟨c1,c2,c3,c4⟩,c5,c6,c7,c8,c9⟩;exact⟨t1.1 c1,tl,pl,t2.1 c2,sl,q0,c5,c6,c7,c8,c9,⟨ko,rfl,jx⟩,⟨kh,rfl,adC⟩,by simp only;rw[AR];exact c3,by simp only;omega⟩)
 obtain⟨E1,wP⟩:=ai (aY (bz aP) 8);obtain⟨E2,wQ⟩:=ai (aY (bz number) 8);have adD:TT++PP++ [b8 (lK ah aL)]++FF++E1++E2++ [b8 (ko:Int),b8 (kh:Int)]++XX=aw0:=by
  rw[←hY];unfold eG;simp only[cQ,wO,lM,AR,wP,wQ]
 have Mb:TT.length≤100000∧PP.length≤100000∧FF.length≤100000∧XX.length≤100000∧E1.length=8∧E2.length=8:=by
  have a1:=qC tl;have a2:=qC sl;have a3:=uE pl;have a4:=aq0 props;rw[cQ] at a1;rw[lM] at a2;rw[wO] at a3;rw[AR] at a4;simp only at a1 a2 a3 a4;refine⟨by omega,by omega,by omega,by omega,by rw[←wP,fQ],by rw[←wQ,fQ]⟩
 have HY:=Z adD;have aM:Below aw4 aw4 (aw4.alloc (.cells (fj aF V ay X ah aL src aP qa props qc ko number kh) 34)):=aD _ _;have n0:=aH aw4 (.cells (fj aF V ay X ah aL src aP qa props qc ko number kh) 34);have pH:=Z (hT.below aM);have Kd:=Z (hp.below aM);have mW:=Z (hq.below aM);obtain⟨T,Mc⟩:=ai aw4.heap.size;obtain⟨u,qm⟩:=ai (aw4.alloc (.cells (fj aF V ay X ah aL src aP qa props qc ko number kh) 34));rw[qm] at aM n0 pH Kd mW;rw[Mc] at n0;have bB:=Z aM;have c0:=D 0 n0;obtain⟨N0,Hs,SA,vF,Ht,Dn,BS⟩:=qV n0 cQ wO lM AR wP wQ;have fR:Hid True:=trivial;obtain⟨l1,l2,l3,l4,l5,l6⟩:=Mb;have aq2:=Z gq;clear I pA hp hq hT hY cQ wO lM AR wP wQ aM hB hF pl gq adD;go_enter func123,ntmps123;go_upto_region 5 with(first
  |(have hq:=fR;go_at_call 63;go_must(refine Bb aF TT te Hs.O _ (by omega) _ ?_);intro ta tc w2 jx aj;have jH:=Z (b_ jx);have bn:=Z aj;have N2:=Z (aA N0.O aj);have c1:=D 1 N2.O;clear hq fR jx aj)
  |(go_at_call 67;go_must(refine IM _ ay PP 0 SA.O _ (Kd.O.below bn.O) _ ?_);intro da dc w3 bN an;have iF:=Z (b_ bN);have cq:=Z an;have N3:=Z (aA N2.O an);have c4:=D 4 N3.O;clear bN an)
  |(go_at_call 63;go_must(refine Bb src FF fe vF.O _ (by omega) _ ?_);intro fa fc w4 eQ ao;have oU:=Z (b_ eQ);have dj:=Z ao;have N4:=Z (aA N3.O ao);have c6:=D 6 N4.O;clear eQ ao)
  |(go_at_call 159;go_must(refine aqK 3 _ props XX xe Ht.O Ay.O _ (((mW.O.below bn.O).below cq.O).below dj.O) (((pH.O.below bn.O).below cq.O).below dj.O) _ ?_);intro xa xc w5 gC aE;have kW:=Z (b_ gC);have ib:=Z aE;have N5:=Z (aA N4.O aE);have aq3:=Z ((((mW.O.below bn.O).below cq.O).below dj.O).below aE);clear gC aE))
 clear c0 c1 c4 c6;have aq4:Hid (Below u u w5):=by
  have h2:=bn.O;exact Zh
 have Me:Hid (NR w5 (.slice ta TT.length tc) (.slice da PP.length dc) (.slice fa FF.length fc) (.slice xa XX.length xc) TT PP FF XX):=Z ⟨((jH.O.below cq.O).below dj.O).below ib.O,(iF.O.below dj.O).below ib.O,oU.O.below ib.O,kW.O⟩;have aq5:props.length≤1000000:=aJ aq1 (by decide);obtain⟨f5,IJ⟩:∃f:Bool,f=true↔(te=0∧fe=0∧xe=0∧kl=props.length):=by
  by_cases h:te=0∧fe=0∧xe=0∧kl=props.length
  ·exact⟨true,by simp[h]⟩
  exact⟨false,by simp[h]⟩
 have tS:=Z IJ;clear IJ;go_cut [12] from 38 to 61 (fun Vc wx=>Vc= .bool f5∧Hid (Below w5 w5 wx))
 case first=>
  have wD:Below w5 w5 w5.drew:=bq _;have k5:w5.drew.cell? ⟨T,6,none⟩=some (.slice qa props.length qc):=D 6 (aA N5.O wD);by_cases h1:te=0;rotate_left
  ·have zj:(te==0)=false:=by simpa using h1
   obtain rfl:f5=false:=by cases f5;rfl;exact absurd (tS.O.1 rfl) (fun h=>h1 h.1)
   exact Vb
  subst h1;by_cases h2:fe=0
  ·subst h2;by_cases h3:xe=0
   ·subst h3;obtain⟨g5,gZ⟩:∃g:Bool,((kl:Int)==(props.length:Int))=g:=⟨_,rfl⟩
    obtain rfl:g5=f5:=by
     rw[Bool.eq_iff_iff,tS.O,←gZ,beq_iff_eq]
     constructor
     ·exact fun h=>⟨rfl,rfl,rfl,by omega⟩
     exact fun h=>by omega
    have wS:=Z gZ;clear gZ;go_region_held3 (fun x=>x.cell? ⟨T,6,none⟩=some (.slice qa props.length qc))
     (first|with_reducible exact k5|with_reducible exact k6|go_keep)
     (first
      |(go_at_call 160;refine aqX _ props w5.drew (aq3.O.below wD) aq5 kl aq2.O _ ?_;intro ka kc w6 bI;have bd:=ed wD bI.below;have k6:w6.cell? ⟨T,6,none⟩=some (.slice qa props.length qc):=D 6 (aA N5.O bd)))
    all_goals
     go_wp2_with fail;go_meet
     first|(rw[wS.O];exact⟨rfl,Z bd⟩)|exact⟨rfl,Z bd⟩
   ·have su:((xe:Int)==0)=false:=by simpa using h3
    obtain rfl:f5=false:=by cases f5;rfl;exact absurd (tS.O.1 rfl) (fun h=>h3 h.2.2.1)
    exact Vb
  have wK:(fe==0)=false:=by simpa using h2
  obtain rfl:f5=false:=by cases f5;rfl;exact absurd (tS.O.1 rfl) (fun h=>h2 h.2.1)
  exact Vb
 obtain⟨rfl,tU⟩:=hcut;obtain⟨w,rfl⟩:∃x,x=wc:=⟨_,rfl⟩
 have adE:=aQ aq4.O tU.O;have rX:Hid (Below aw4 aw4 w):=Z (aQ bB.O adE);have Vd:=aA N5.O tU.O;obtain⟨c2,c3,c5,c7,c8,c9⟩:=AQ Vd;have oM:=Z Vd;have xl:=Z (Me.O.below tU.O);have awb:(ko:Int)<256:=by omega
 have awc:(kh:Int)<256:=by omega
 clear adE Vd tU n0 qm Mc;have v_:Hid (awX=true↔(f5=true∧ah≤2∧0≤aP∧aP≤4611686018427387904∧0≤number∧number≤4611686018427387904)):=Z (by rw[HF.O,tS.O]);go_upto_region 6 with fail
 go_cut [12] from 62 to 112 (fun Vc wx=>Vc= .bool awX∧Hid (Below w w wx))
 case first=>
  cases f5 with
  |false=>
   obtain rfl:awX=false:=by cases awX;rfl;exact absurd (v_.O.1 rfl) (fun h=>by cases h.1)
   all_goals
    go_wp2_with fail;go_meet;exact⟨rfl,Z dg⟩
  |true=>
   by_cases h1:ah≤2;rotate_left
   ·obtain rfl:awX=false:=by cases awX;rfl;exact absurd (v_.O.1 rfl) (fun h=>h1 (h.2.1))
    all_goals
     go_wp2_with fail;go_meet;exact⟨rfl,Z dg⟩
   by_cases h2:0≤aP
   ·by_cases h3:aP≤4611686018427387904
    ·by_cases h4:0≤number
     ·by_cases h5:number≤4611686018427387904
      ·obtain rfl:awX=true:=v_.O.2 ⟨rfl,h1,h2,h3,h4,h5⟩
       all_goals
        go_wp2_with fail;go_meet;exact⟨rfl,Z dg⟩
      ·obtain rfl:awX=false:=by cases awX;rfl;exact absurd (v_.O.1 rfl) (fun h=>h5 (h.2.2.2.2.2))
       all_goals
        go_wp2_with fail;go_meet;exact⟨rfl,Z dg⟩
     ·obtain rfl:awX=false:=by cases awX;rfl;exact absurd (v_.O.1 rfl) (fun h=>h4 (h.2.2.2.2.1))
      all_goals
       go_wp2_with fail;go_meet;exact⟨rfl,Z dg⟩
    ·obtain rfl:awX=false:=by cases awX;rfl;exact absurd (v_.O.1 rfl) (fun h=>h3 (h.2.2.2.1))
     all_goals
      go_wp2_with fail;go_meet;exact⟨rfl,Z dg⟩
   obtain rfl:awX=false:=by cases awX;rfl;exact absurd (v_.O.1 rfl) (fun h=>h2 (h.2.2.1))
   all_goals
    go_wp2_with fail;go_meet;exact⟨rfl,Z dg⟩
 obtain⟨rfl,xm⟩:=hcut;obtain⟨w',U5⟩:∃x,x=w:=⟨_,rfl⟩
 subst U5;obtain⟨w,rfl⟩:∃x,x=wc:=⟨_,rfl⟩
 have adF:=aQ rX.O xm.O;have OE:=aA oM.O xm.O;have Bz:=Z (xl.O.below xm.O);clear rX oM xl c2 c3 c5 c7 c8 c9;have rX:=Z adF;have oM:=Z OE;have xl:=Bz;clear adF OE xm w';go_upto_region 7 with fail
 have adG:(w.alloc (.cells #[] 5)).ownsRow w 5 1 (.slice (some ⟨w,0,none⟩) 0 0) 0 []:=World.ownsRow_made (base:=w.heap.size) (e:=5) (size:=1) w #[] 0 bj (by unfold maxLen;omega) rfl;have aM:=aD w (.cells #[] 5);have th:=Z adG;have gE:=Z aM;have xP:Hid True:=trivial;have adH:Hid True:=trivial;clear adG aM;go_upto_region 8 with(first
  |(have hq:=xP;at_builtin;go_must(refine jr (by rfl) (.tmp 113) (.tmp 114) 22 (by rfl) w 5 (.int .u8 0) 1 1 underlying22 Tryz.cP rfl (by decide) (some ⟨w,0,none⟩) 0 0 _ (by rfl) th.O ta TT.length tc _ (by rfl) (xl.O.t.below gE.O).parts.2.1 (fC _) xl.O.t.parts.2.2.2.2 (by unfold maxLen;omega) (by omega) gE.O.size ?_);intro D1 c8 w8 Cy eL _;have jI:=Z (bT gE.O eL gE.O.size th.O);have oi:=Z Cy;clear hq xP Cy eL)
  |(have hq:=adH;at_builtin;go_must(refine jr (by rfl) (.tmp 115) (.tmp 116) 22 (by rfl) w 5 (.int .u8 0) 1 1 underlying22 Tryz.cP rfl (by decide) D1 TT.length c8 _ (by rfl) (show w8.ownsRow w 5 1 (.slice D1 TT.length c8) TT.length (bv TT) by have:=oi.O;rwa [zero_add,nil_append] at this) da PP.length dc _ (by rfl) (xl.O.p.below jI.O).parts.2.1 (fC _) xl.O.p.parts.2.2.2.2 (by unfold maxLen;omega) (by omega) jI.O.size ?_);intro fK c9 w9 dA bW _;have nG:=Z (bT jI.O bW jI.O.size (show w8.ownsRow w 5 1 (.slice D1 TT.length c8) TT.length (bv TT) by have:=oi.O;rwa [zero_add,nil_append] at this));have vH:=Z dA;clear hq adH dA bW))
 have n9:=aA oM.O nG.O;have c2:=D 2 n9;have c3:=D 3 n9;obtain⟨mk,iW⟩:=ai (lK ah aL);have Qu:=Z iW;have Ve:0≤mk∧mk<256:=by
  have:=U' ah aL q0 q1;rw[iW] at this;rw[this]
  split<;>omega
 have Gl:=vH.O.alloc (.cells #[.int .u8 mk] 5);have adI:=nG.O.alloc nG.O.size (.cells #[.int .u8 mk] 5);have adJ:=dO w9 #[.int .u8 mk] 5 1 1 rfl;obtain⟨dZ,Vf,aq6⟩:=bX Gl adI adJ;have C5:Hid True:=trivial;have adK:Hid True:=trivial;clear n9 iW Gl adI adJ;go_upto_region 9 with(first
  |(go_at_call 124;go_must(refine adA ah aL q0 q1 mk Qu.O _ _ ?_))
  |(have hq:=C5;at_builtin;go_must(refine jr (by rfl) (.tmp 118) (.tmp 124) 22 (by rfl) w 5 (.int .u8 0) 1 1 underlying22 Tryz.cP rfl (by decide) fK (TT.length+PP.length) c9 _ (by rfl) dZ.O (some ⟨w9,0,none⟩) 1 1 _ (by rfl) aq6.O (px _ _) (fun h=>by cases h) (by unfold maxLen;omega) (by omega) Vf.O.size ?_);intro aq7 fD df adL eU _;have nO:=Z (bT Vf.O eU Vf.O.size dZ.O);have uR:=Z adL;clear hq C5 adL eU)
  |(have hq:=adK;at_builtin;go_must(refine jr (by rfl) (.tmp 125) (.tmp 126) 22 (by rfl) w 5 (.int .u8 0) 1 1 underlying22 Tryz.cP rfl (by decide) aq7 (TT.length+PP.length+1) fD _ (by rfl) uR.O fa FF.length fc _ (by rfl) (xl.O.f.below nO.O).parts.2.1 (fC _) xl.O.f.parts.2.2.2.2 (by unfold maxLen;omega) (by omega) nO.O.size ?_);intro IP iP du D3 fN _;have sO:=Z (bT nO.O fN nO.O.size uR.O);have uS:=Z D3;clear hq adK D3 fN))
 clear c2 c3;have awd:E1.length≤8:=by omega
 have awe:E2.length≤8:=by omega
 clear l5 l6;obtain⟨N1,xb⟩:=ai (TT.length+PP.length+1+FF.length);obtain⟨L1,Vg⟩:=ai (bv TT++bv PP++ [Value.int .u8 mk]++bv FF);have awf:N1≤300001:=by omega
 rw[xb,Vg] at uS;rw[xb];have uB:=Z xb;have qI:=Z Vg;clear xb Vg;go_cut [13] from 128 to 138 (fun Vh wx=>∃(Y:av)(c:Nat),Vh= .slice Y (N1+E1.length+E2.length) c∧Hid (wx.ownsRow w 5 1 (.slice Y (N1+E1.length+E2.length) c) (N1+E1.length+E2.length) (L1++bv E1++bv E2))∧Hid (Below w w wx))
 case first=>
  have hd:Below du du du.drew:=bq _;have uk:=Z (aQ sO.O hd);have zZ:=Z (aR uS.O hd);have nQ:=aA oM.O uk.O;have c5:=D 5 nQ;have c8:=D 8 nQ;have zM:Hid True:=trivial;clear hd nQ;go_region_law (first
   |(have hq:=zM;go_simp;go_at_call 64;refine CB aP 8 (by decide) (by decide) E1 Dn.O _ _ ?_;intro Qv Qw wA D4 c_;have uV:=Z (aR zZ.O c_);have cM:=Z (aQ uk.O c_);have z_:=Z (b_ D4);have awg:=D 8 (aA oM.O cM.O);have hA:Hid True:=trivial;clear hq zM D4 c_)
   |((have hq:=hA;refine ig (by rfl) (.tmp 128) (.tmp 132) 22 (by rfl) w 5 (.int .u8 0) 1 1 underlying22 Tryz.cP rfl (by decide) IP N1 iP _ (by rfl) uV.O Qv E1.length Qw _ (by rfl) z_.O.parts.2.1 (fC _) z_.O.parts.2.2.2.2 (by unfold maxLen;omega) (by omega) cM.O.size ?_;intro tV pY tW nU jA _;have jB:=Z (bT cM.O jA cM.O.size uV.O);have nk:=Z nU;clear hq hA nU jA);have awh:=D 8 (aA oM.O jB.O);have adM:Hid True:=trivial)
   |(have hq:=adM;go_simp;go_at_call 64;refine CB number 8 (by decide) (by decide) E2 BS.O _ _ ?_;intro DZ D0 wC Gm Aa;have tf:=Z (aR nk.O Aa);have wi:=Z (aQ jB.O Aa);have AJ:=Z (b_ Gm);have bC:Hid True:=trivial;clear hq adM Gm Aa)
   |((have hq:=bC;refine ig (by rfl) (.tmp 133) (.tmp 137) 22 (by rfl) w 5 (.int .u8 0) 1 1 underlying22 Tryz.cP rfl (by decide) tV (N1+E1.length) pY _ (by rfl) tf.O DZ E2.length D0 _ (by rfl) AJ.O.parts.2.1 (fC _) AJ.O.parts.2.2.2.2 (by unfold maxLen;omega) (by omega) wi.O.size ?_;intro yr yt Gn nV lS _;have tX:=Z (bT wi.O lS wi.O.size tf.O);have wj:=Z nV;clear hq bC nV lS))
   |(have hq:=hA;go_simp;go_at_call 64;refine CB number 8 (by decide) (by decide) E2 BS.O _ _ ?_;intro DZ D0 wC Gm Aa;have tf:=Z (aR uV.O Aa);have wi:=Z (aQ cM.O Aa);have adN:=Z (z_.O.below Aa);have AJ:=Z (b_ Gm);have Vi:Hid True:=trivial;clear hq hA Gm Aa)
   |(have aq8:=Vi;((have hq:=Vi;refine ig (by rfl) (.tmp 128) (.tmp 132) 22 (by rfl) w 5 (.int .u8 0) 1 1 underlying22 Tryz.cP rfl (by decide) IP N1 iP _ (by rfl) tf.O Qv E1.length Qw _ (by rfl) adN.O.parts.2.1 (fC _) adN.O.parts.2.2.2.2 (by unfold maxLen;omega) (by omega) wi.O.size ?_;intro tV pY tW nU jA _;have jB:=Z (bT wi.O jA wi.O.size tf.O);have nk:=Z nU;clear hq Vi nU jA));have zY:Hid True:=trivial)
   |(have aq8:=zY;((have hq:=zY;refine ig (by rfl) (.tmp 133) (.tmp 137) 22 (by rfl) w 5 (.int .u8 0) 1 1 underlying22 Tryz.cP rfl (by decide) tV (N1+E1.length) pY _ (by rfl) nk.O DZ E2.length D0 _ (by rfl) AJ.O.parts.2.1 (fC _) AJ.O.parts.2.2.2.2 (by unfold maxLen;omega) (by omega) jB.O.size ?_;intro yr yt Gn nV lS _;have tX:=Z (bT jB.O lS jB.O.size nk.O);have wj:=Z nV;clear hq zY nV lS))))
  all_goals
   go_wp2_with fail;go_meet;exact⟨yr,yt,rfl,wj,tX⟩
 obtain⟨Vj,iQ,rfl,mH,mi⟩:=hcut;obtain⟨cY,rfl⟩:∃x,x=wc:=⟨_,rfl⟩
 obtain⟨N2,AX⟩:=ai (N1+E1.length+E2.length);obtain⟨L2,Vk⟩:=ai (L1++bv E1++bv E2);have awi:N2≤300017:=by omega
 rw[AX,Vk] at mH;rw[AX];have Gg:=Z AX;have nK:=Z Vk;have Dw:=aA oM.O mi.O;have c7:=D 7 Dw;have c9:=D 9 Dw;have adO:=mH.O.alloc (.cells #[.int .u8 (ko:Int),.int .u8 (kh:Int)] 5);have adP:=mi.O.alloc mi.O.size (.cells #[.int .u8 (ko:Int),.int .u8 (kh:Int)] 5);have adQ:=dO cY #[.int .u8 (ko:Int),.int .u8 (kh:Int)] 5 1 2 rfl;obtain⟨iE,Vl,aq9⟩:=bX adO adP adQ;have ara:Hid (∀u∈ [Value.int .u8 (ko:Int),Value.int .u8 (kh:Int)],u.oneCell'=true):=fun u hu=>by
  simp only[List.mem_cons,qT,or_false] at hu;rcases hu with rfl|rfl<;>rfl
 have Mf:Hid True:=trivial;have adR:Hid True:=trivial;clear AX Vk Dw adO adP adQ;go_wp2_with (first
  |(have hq:=Mf;at_builtin;go_must(refine jr (by rfl) (.tmp 139) (.tmp 146) 22 (by rfl) w 5 (.int .u8 0) 1 1 underlying22 Tryz.cP rfl (by decide) Vj N2 iQ _ (by rfl) iE.O (some ⟨cY,0,none⟩) 2 2 _ (by rfl) aq9.O ara.O (fun h=>by cases h) (by unfold maxLen;omega) (by omega) Vl.O.size ?_);intro IQ IS Vm Ab yu _;have Ac:=Z (bT Vl.O yu Vl.O.size iE.O);have D5:=Z Ab;clear hq Mf Ab yu)
  |(have hq:=adR;at_builtin;go_must(refine jr (by rfl) (.tmp 147) (.tmp 148) 22 (by rfl) w 5 (.int .u8 0) 1 1 underlying22 Tryz.cP rfl (by decide) IQ (N2+2) IS _ (by rfl) D5.O xa XX.length xc _ (by rfl) (xl.O.x.below Ac.O).parts.2.1 (fC _) xl.O.x.parts.2.2.2.2 (by unfold maxLen;omega) (by omega) Ac.O.size ?_);intro awj awk awl adS adT _;have arb:=Z (bT Ac.O adT Ac.O.size D5.O);have arc:=Z adS;clear hq adR adS adT))
 have ard:(Value.int .u8 mk)=Value.int .u8 ((b8 mk).toNat:Int):=by
  rw[←zb,IntKind.wrap_u8,show mk % 256=mk by omega]
 have bo:∀k:Nat,k<256→Value.int .u8 (k:Int)=Value.int .u8 ((b8 (k:Int)).toNat:Int):=fun k G=>by
  rw[←zb,IntKind.wrap_u8,show(k:Int) % 256=(k:Int) by omega]
 have Vn:L2++ [Value.int .u8 (ko:Int),.int .u8 (kh:Int)]++bv XX=bv aw0:=by
  rw[←HY.O,←nK.O,←qI.O,Qu.O,ard,bo ko jx,bo kh adC];simp only[qf,kT]
  rfl
 have bk:N2+2+XX.length=aw0.length:=by
  rw[←HY.O,←Gg.O,←uB.O];simp only[aK,ey,gi]
 have cD:=arc.O;rw[Vn,bk] at cD;rw[bk];exact HR.O _ _ _ (cm cD rX.O.size) (aQ rX.O arb.O)
variable{T t:Nat}{fr:Nat×Nat}{a d h:Value}
theorem adx(i j:Int):∀u∈ [Value.int .u8 i,Value.int .u8 j],u.oneCell'=true:=fun u hu=>by
 simp only[List.mem_cons,qT,or_false] at hu;rcases hu with rfl|rfl<;>rfl
theorem ady(i:Int)(h0:0≤i)(h1:i<256):Value.int .u8 i=Value.int .u8 ((b8 i).toNat:Int):=by
 rw[←zb,IntKind.wrap_u8,show i % 256=i by omega]
theorem L_{x:World}{b c e f g i j k l m n:Value}(q:x.heap[T]? =some (.cells #[a,b,c,d,e,f,g,h,i,j,k,l,m,n] t fr)):x.cell? ⟨T,10,none⟩=some k∧x.cell? ⟨T,11,none⟩=some l∧x.cell? ⟨T,12,none⟩=some m:=
 ⟨D 10 q,D 11 q,D 12 q⟩
theorem adz(n:Int)(h0:0≤n)(h1:n<18446744073709551616)(k:Nat)(G:1≤k)(Ix:k≤8)(P:List UInt8)(hP:aY (bz n) k=P)(w:World)(R:ak)
 (I:∀Y c w',w'.ownsRow w 5 1 (.slice Y P.length c) P.length (bv P)→Below w w w'→R (.returned (.slice Y P.length c)) w'):
 Calls prog 64 #[.int .u64 n,E k] w R:=by
 have h:=CB n k G Ix P hP w R I
 rwa [show IntKind.u64.wrap n=n by rw[IntKind.wrap_u64];omega] at h
open List (getElem_mem take_length)
open Nat (le_of_eq)
structure Vr(x:Im):Prop where
 n:lZ x.note
 nb:xC x.note
 nl:(eG x.note).length≤65535
 pl:(x.note.props.flatMap bR).length≤65535
 q0:0≤x.ah
 q1:x.ah≤3
 ni:x.ids.length<256
 ir:∀i∈x.ids,0≤i∧i<4294967296
 sl:x.share.length≤65535
theorem aro{x:Nt}(h:lZ x)(U:xC x)(hl:(x.props.flatMap bR).length≤65535):Va x:=⟨U,h.tl,h.pl,h.sl,h.q0,by have:=h.q1;omega,h.o,h.h,hl⟩
theorem arp(l:List Int):(l.flatMap (fun i=>aY (bz i) 4)).length=4*l.length:=by
 induction l with
 |nil=>rfl
 |cons a t ih=>rw[lT,aK,ih,fQ,ey];omega
theorem Vs(x:Im)(F:Vr x)(awX:Bool)(hF:awX=true↔gh x)(pv qv ev:Value)(aw4:World)(J:ie aw4 pv qv ev x)(hT:dy aw4)(aw0:List UInt8)(hY:db x=aw0)(R:ak)
 (I:∀Y c w',w'.ownsRow aw4 5 1 (.slice Y aw0.length c) aw0.length (bv aw0)→Below aw4 aw4 w'→R (.returned (.tuple #[.slice Y aw0.length c,.bool awX])) w'):
 Calls prog 66 #[(Value.agg (qi x pv qv ev))] aw4 R:=by
 obtain⟨HR,HX,HC⟩:=bX I F J;obtain⟨⟨V,X,rfl⟩,⟨qa,qc,rfl⟩,ea,ec,rfl⟩:=J.shape;have q0:=F.q0;have q1:=F.q1;have Cf:=F.ni;obtain⟨⟨aF,ay,mO,aL,src,aP,props,origin,number,aW⟩,ah,aI,ids,share⟩:=x;simp only at*;clear I F J;obtain⟨NY,B6⟩:=ai (eG ⟨aF,ay,mO,aL,src,aP,props,origin,number,aW⟩);have lO:NY.length≤65535:=by rw[←B6];exact HX.O.nl
 obtain⟨⟨DD,de⟩,zE⟩:∃q,dn NY=q:=⟨_,rfl⟩
 obtain⟨⟨SS,se⟩,B7⟩:∃q,b9 share=q:=⟨_,rfl⟩
 obtain rfl:de=0:=by
  unfold dn at zE;rw[if_neg (by omega)] at zE;exact(Prod.mk.inj zE).2.symm
 have dm:share.length≤65535:=HX.O.sl;have nC:=Ma share dm;rw[B7] at nC;simp only at nC;have HF:Hid (awX=true↔((se=0∧ah≤2)∧tY ids=true)):=Z (by
  rw[hF]
  constructor
  ·exact fun h=>⟨⟨nC.2 h.st,h.q1⟩,(QD _).2 h.ir⟩
  exact fun h=>⟨HX.O.n,HX.O.nb,HX.O.nl,HX.O.pl,q0,h.1.2,Cf,(QD _).1 h.2,nC.1 h.1.1,dm⟩)
 clear nC hF;obtain⟨mk,iW⟩:=ai (lK ah aI);have Ve:0≤mk∧mk<256:=by
  have:=U' ah aI q0 q1;rw[iW] at this;rw[this]
  split<;>omega
 obtain⟨nI,IV⟩:=ai ids.length;rw[IV] at Cf;obtain⟨FF,lM⟩:∃q,ids.flatMap (fun i=>aY (bz i) 4)=q:=⟨_,rfl⟩
 have FA:DD++ [b8 mk]++ [b8 (nI:Int)]++FF++SS=aw0:=by
  rw[←hY];unfold db;simp only[B6,zE,B7,lM,iW,IV]
 have Mb:DD.length≤100000∧FF.length≤100000∧SS.length≤100000:=by
  have a1:=qC dm;have a2:=uE lO;have a3:=arp ids;rw[B7] at a1;rw[zE] at a2;rw[lM,IV] at a3;simp only at a1 a2;exact⟨by omega,by omega,by omega⟩
 have aM:Below aw4 aw4 (aw4.alloc (.cells (qg aF V ay X mO aL src aP qa props qc origin number aW ah aI ea ids ec share) 36)):=aD _ _;have zU:=aH aw4 (.cells (qg aF V ay X mO aL src aP qa props qc origin number aW ah aI ea ids ec share) 36);have pH:=Z (hT.below aM);have uJ:=Z (HC.O.below aM);have arq:Hid (Is aw4 (.slice ea ids.length ec) ids):=Z HC.O.i;obtain⟨bB,S9,AW,nD,OG,vF,Qu,ars⟩:=Nh aM B6 zE B7 FA lM iW IV;obtain⟨l1,l2,l3⟩:=Mb;have sI:=Z IV;clear hT hY B6 zE B7 FA lM iW aM IV;go_enter func66,ntmps66;go_upto_region 1 with fail
 generalize aw4.alloc (.cells (qg aF V ay X mO aL src aP qa props qc origin number aW ah aI ea ids ec share) 36)=u at bB zU pH uJ⊢;obtain⟨T,Mc⟩:=ai aw4.heap.size;rw[Mc] at zU⊢;rw[ars.O] at zU uJ⊢;have xZ:Hid (∀j,j<10→u.cell? ⟨T,0+j,none⟩= (fj aF V ay X mO aL src aP qa props qc origin number aW:List Value)[j]?):=Z (fun j hj=>by
  rw[zero_add,D j zU]
  match j,hj with
  |0,_|1,_|2,_|3,_|4,_|5,_|6,_|7,_|8,_|9,_=>rfl)
 have N0:=Z zU;clear zU Mc;go_upto_region 4 with(first
  |(refine iT 14 34 13 T 0 ((fj aF V ay X mO aL src aP qa props qc origin number aW)) xZ.O underlying34 ?_)
  |(go_at_call 123;go_must(refine adB ⟨aF,ay,mO,aL,src,aP,props,origin,number,aW⟩ (aro HX.O.n HX.O.nb HX.O.pl) true ⟨fun _=>HX.O.n,fun _=>rfl⟩ _ _ _ uJ.O.p uJ.O.q pH.O NY S9.O _ ?_);intro na nc w2 jx aj;have jH:=Z (b_ jx);have bn:=Z aj;have N2:=Z (aA N0.O aj);clear jx aj)
  |(go_at_call 67;go_must(refine IM _ NY DD 0 AW.O _ jH.O _ ?_);intro da dc w3 bN an;have iF:=Z (b_ bN);have cq:=Z an;have N3:=Z (aA N2.O an);have jN:=D 13 N3.O;clear bN an)
  |(go_at_call 63;go_must(refine Bb share SS se nD.O _ (by omega) _ ?_);intro ta tc w4 eQ ao;have oU:=Z (b_ eQ);have dj:=Z ao;have N4:=Z (aA N3.O ao);have fD:=D 10 N4.O;have iQ:=D 12 N4.O;have awm:(nI:Int)<256:=(by omega);clear eQ ao))
 obtain⟨f4,ad1⟩:∃f:Bool,f=true↔(se=0∧ah≤2):=by
  by_cases h:se=0∧ah≤2
  ·exact⟨true,by simp[h]⟩
  exact⟨false,by simp[h]⟩
 have tC:=Z ad1;clear ad1;go_cut [5] from 29 to 53 (fun s5 wx=>s5= .bool f4∧wx=w4)
 case first=>
  by_cases h1:se=0
  ·by_cases h2:ah≤2
   ·obtain rfl:f4=true:=tC.O.2 ⟨h1,h2⟩;subst h1;go_wp2_with fail;go_meet;exact⟨rfl,rfl⟩
   ·obtain rfl:f4=false:=by cases f4;rfl;exact absurd (tC.O.1 rfl) (fun h=>h2 h.2)
    subst h1;go_wp2_with fail;go_meet;exact⟨rfl,rfl⟩
  obtain rfl:f4=false:=by cases f4;rfl;exact absurd (tC.O.1 rfl) (fun h=>h1 h.1)
  have zj:(se==0)=false:=by simpa using h1
  go_wp2_with fail;go_meet;exact⟨rfl,rfl⟩
 obtain⟨rfl,nW⟩:=hcut;have nW:=nW.symm;subst nW;go_upto_region 5 with fail
 have rX:Hid (Below aw4 aw4 w4):=by
  exact Zp
 have ad2:=Z (iF.O.below dj.O);obtain⟨w,rfl⟩:∃x,x=w4:=⟨_,rfl⟩
 clear fD iQ;go_cut [10] from 54 to 67 (fun Uh wx=>∃(Y:av)(c:Nat),Uh= .slice Y (DD.length+2) c∧Hid (wx.ownsRow w 5 1 (.slice Y (DD.length+2) c) (DD.length+2) (bv DD++ [Value.int .u8 mk,.int .u8 (IntKind.u8.wrap (nI:Int))]))∧Hid (Below w w wx))
 case first=>
  have hd:Below w w w.drew:=bq _;have hE:=hd.alloc hd.size (.cells #[] 5);have hL:=hd.alloc hd.size (.cells #[.int .u8 mk,.int .u8 (IntKind.u8.wrap (nI:Int))] 5);have fD:=D 10 (aA N4.O hd);have iP:=D 11 (aA N4.O hd);have iQ:=D 12 (aA N4.O hd);have yP:(w.alloc (.cells #[] 5)).drew.cell? ⟨T,10,none⟩=_:=D 10 (aA N4.O hE);have JB:(w.alloc (.cells #[] 5)).drew.cell? ⟨T,11,none⟩=_:=D 11 (aA N4.O hE);have Ew:(w.alloc (.cells #[] 5)).drew.cell? ⟨T,12,none⟩=_:=D 12 (aA N4.O hE);have D6:Hid ((w.alloc (.cells #[] 5)).drew.ownsRow w 5 1 (.slice (some ⟨w,0,none⟩) 0 0) 0 []):=Z (World.ownsRow_made (base:=w.heap.size) (e:=5) (size:=1) w.drew #[] 0 bj (by unfold maxLen;omega) rfl);have jL:Hid (Below w w (w.alloc (.cells #[] 5)).drew):=Z hE;have mY:Hid True:=trivial;clear hd hL hE;have Mh:Hid (∀y:World,Rd (y.alloc (.cells #[.int .u8 mk,.int .u8 (IntKind.u8.wrap (nI:Int))] 5)) 1 (some ⟨y,0,none⟩) 2 [.int .u8 mk,.int .u8 (IntKind.u8.wrap (nI:Int))]):=Z (fun y=>dO y #[.int .u8 mk,.int .u8 (IntKind.u8.wrap (nI:Int))] 5 1 2 rfl);have k0:=L_ (aA N4.O (bq w));have kX:=L_ (aA N4.O jL.O);clear fD iP iQ yP JB Ew;go_region_held3 (fun x=>x.cell? ⟨T,10,none⟩=some (.int .i64 ah)∧x.cell? ⟨T,11,none⟩=some (.bool aI)∧x.cell? ⟨T,12,none⟩=some (.slice ea nI ec))
   (first|with_reducible exact k0|with_reducible exact kX|with_reducible exact xn|with_reducible exact Mi|with_reducible exact CD|go_keep)
   (first
    |(go_at_call 124;refine adA ah aI q0 q1 mk Qu.O _ _ ?_)
    |((have hq:=mY;refine ig ?_ (.tmp 54) (.tmp 55) 22 ?_ w 5 (.int .u8 0) 1 1 underlying22 Tryz.cP rfl ?_ (some ⟨w,0,none⟩) 0 0 [] ?_ ?_ da DD.length dc (bv DD) ?_ ?_ ?_ ?_ ?_ ?_ ?_ ?_;rfl;rfl;decide;rfl;exact D6.O;rfl;exact(ad2.O.below jL.O).parts.2.1;exact(fC _);exact ad2.O.parts.2.2.2.2;unfold maxLen;omega;omega;exact jL.O.size;intro tV pY tW nU jA _;have jB:=Z (bT jL.O jA jL.O.size D6.O);have nk:=Z nU;clear hq mY nU jA);have xn:=L_ (aA N4.O jB.O);have Vt:=nk.O;rw[zero_add,nil_append] at Vt;have xo:=Z (Vt.alloc (.cells #[.int .u8 mk,.int .u8 (IntKind.u8.wrap (nI:Int))] 5));clear Vt;have qb:=Z (jB.O.alloc jB.O.size (.cells #[.int .u8 mk,.int .u8 (IntKind.u8.wrap (nI:Int))] 5));have Mi:=L_ (aA N4.O qb.O);have ad3:Hid True:=trivial)
    |((have hq:=ad3;refine ig ?_ (.tmp 56) (.tmp 66) 22 ?_ w 5 (.int .u8 0) 1 1 underlying22 Tryz.cP rfl ?_ tV DD.length pY (bv DD) ?_ ?_ (some ⟨tW,0,none⟩) 2 2 [.int .u8 mk,.int .u8 (IntKind.u8.wrap (nI:Int))] ?_ ?_ ?_ ?_ ?_ ?_ ?_ ?_;rfl;rfl;decide;rfl;exact xo.O;rfl;exact(Mh.O tW);exact(adx _ _);exact(fun h=>by cases h);unfold maxLen;omega;omega;exact qb.O.size;intro yr yt Gn nV lS _;have tX:=Z (bT qb.O lS qb.O.size xo.O);have wj:=Z nV;clear hq ad3 nV lS);have CD:=L_ (aA N4.O tX.O)))
  all_goals
   go_wp2_with fail;go_meet;exact⟨yr,yt,rfl,wj,tX⟩
 obtain⟨ja,jc,rfl,zF,wV⟩:=hcut;obtain⟨w7,rfl⟩:∃x,x=wc:=⟨_,rfl⟩
 obtain⟨aw3,hJ⟩:=ai (DD++ [b8 mk]++ [b8 (nI:Int)]);have cW:DD.length+2=aw3.length:=by rw[←hJ];simp
 have ad4:bv DD++ [Value.int .u8 mk,.int .u8 (IntKind.u8.wrap (nI:Int))]=bv aw3:=by
  rw[←hJ,ady mk Ve.1 Ve.2,zb];simp only[qf,kT]
  rfl
 have yg:aw3.length≤100002:=by omega
 rw[ad4,cW] at zF;rw[hJ] at OG;rw[cW];have Hz:=oU;have art:Hid (Is w (.slice ea nI ec) ids):=by
  have:=arq.O.below rX.O
  rwa [sI.O] at this
 clear ad4 cW hJ;obtain rfl:ids.length=nI:=sI.O;have OH:Hid (∀j,((ids.take j).flatMap (fun i=>aY (bz i) 4)).length≤FF.length):=fun j=>by
  exact Zo
 have aru:Hid (∀i∈ids,0≤i∧i<4294967296):=Z HX.O.ir;go_upto_region 7 with fail
 go_loopg [5,10,11] ids.length (fun gn k5 b i wr=>∃(k:Nat)(f:Bool)(P:List UInt8)(zG:av)(zH:Nat),k≤ids.length∧gn=ids.length - k∧k5= .bool f∧Hid (f=(f4&&tY (ids.take k)))∧b= .slice zG P.length zH∧i= .int .i64 k∧Hid (P=aw3++(ids.take k).flatMap (fun i=>aY (bz i) 4))∧Hid (wr.ownsRow w 5 1 (.slice zG P.length zH) P.length (bv P))∧Hid (Below w w wr))
 case atStart=>exact⟨0,f4,aw3,ja,jc,bP _,by omega,rfl,Z (by rw[List.take_zero];simp[tY]),rfl,rfl,Z (by simp),zF,wV⟩
 case round=>
  obtain⟨k,f,P,zG,zH,G,rfl,rfl,IW,rfl,rfl,HP,HO,HB⟩:=hrel;obtain⟨wo,rfl⟩:∃x,x=wr:=⟨_,rfl⟩
  have jd:Hid (P.length≤200002):=by
   have h1:=congrArg List.length HP.O;have h3:=OH.O k;rw[aK] at h1;show _≤_
   omega
  have iQ:=D 12 (aA N4.O HB.O);by_cases au:k<ids.length;rotate_left
  ·have bo:¬(k:Int)<(ids.length:Int):=by omega
   have KE:Hid (P++SS=aw0):=by
    have eB:k=ids.length:=by omega
    show _=_;rw[←OG.O,HP.O,eB,take_length,vF.O]
   obtain rfl:awX=f:=by
    have eB:k=ids.length:=by omega
    rw[IW.O,eB,take_length,Bool.eq_iff_iff,HF.O,Bool.and_eq_true,tC.O]
   have ad5:Hid True:=trivial;have KH:=jd.O;have DL:=Z (oU.O.below HB.O);go_wp2_with (have hq:=ad5;at_builtin;go_must(refine jr (by rfl) (.tmp 101) (.tmp 102) 22 (by rfl) w 5 (.int .u8 0) 1 1 underlying22 Tryz.cP rfl (by decide) zG P.length zH _ (by rfl) HO.O ta SS.length tc _ (by rfl) DL.O.parts.2.1 (fC _) DL.O.parts.2.2.2.2 (by unfold maxLen;omega) (by omega) HB.O.size ?_);intro IQ IS Vm Ab yu _;have Ac:=Z (bT HB.O yu HB.O.size HO.O);have D5:=Z Ab;clear hq ad5 Ab yu);have cD:=D5.O;have bk:P.length+SS.length=aw0.length:=by rw[←KE.O,aK]
   rw[←qf,KE.O,bk] at cD;rw[bk];exact HR.O _ _ _ (cm cD rX.O.size) (aQ rX.O Ac.O)
  have bo:(k:Int)<(ids.length:Int):=by omega
  obtain⟨g,o,FC,tF⟩:=(art.O.below HB.O).at k au;subst FC;have qF:ids.take (k+1)=ids.take k++ [ids[k]]:=kF au;have ad6:=aru.O _ (getElem_mem au);obtain⟨x,F⟩:=ai (ids[k]);rw[F] at tF qF ad6;obtain⟨x1,x2⟩:=ad6;obtain⟨P4,oZ⟩:=ai (aY (bz x) 4);have vL:Hid (P++P4=aw3++(ids.take (k+1)).flatMap (fun i=>aY (bz i) 4)):=by
   show _=_;rw[qF,jZ,HP.O,←oZ];simp
  have KD:Hid (aY (bz x) 4=P4):=oZ;have mF:Hid (P4.length=4):=by show _=_;rw[←oZ,fQ]
  have ad7:Hid True:=trivial;obtain⟨f1,Vu⟩:=ai ((f4&&tY (ids.take (k+1))));have QF:Hid (f1=(f&&(decide (1≤x)&&decide (x≤268435455)))):=Z (by rw[←Vu,qF,adZ,IW.O,Bool.and_assoc]);have Vv:Hid (f1=(f4&&tY (ids.take (k+1)))):=Z Vu.symm;clear F qF oZ Vu;go_upto_region 9 with fail
  go_cut [5] from 75 to 91 (fun s5 wx=>s5= .bool f1∧wx=wo)
  case first=>
   cases f with
   |false=>
    obtain rfl:f1=false:=by rw[QF.O];rfl
    go_wp2_with fail;go_meet;exact⟨rfl,rfl⟩
   |true=>
    by_cases h1:1≤x
    ·by_cases h2:x≤268435455
     ·obtain rfl:f1=true:=by rw[QF.O];simp[h1,h2]
      go_wp2_with fail;go_meet;exact⟨rfl,rfl⟩
     ·obtain rfl:f1=false:=by rw[QF.O];simp[h2]
      go_wp2_with fail;go_meet;exact⟨rfl,rfl⟩
    obtain rfl:f1=false:=by rw[QF.O];simp[h1]
    go_wp2_with fail;go_meet;exact⟨rfl,rfl⟩
  obtain⟨rfl,nW⟩:=hcut;have nW:=nW.symm;subst nW;go_upto_region 10 with fail
  go_wp2_with (first
   |(go_at_call 64;go_must(refine adz x (by omega) (by omega) 4 (by decide) (by decide) P4 KD.O _ _ ?_);intro xa xc w8 wR iA;have jI:=Z (aQ HB.O iA);have oi:=Z (aR HO.O iA);have FD:=Z (b_ wR);have awn:P4.length≤4:=le_of_eq mF.O;have KH:=jd.O;clear wR iA)
   |(have hq:=ad7;at_builtin;go_must(refine jr (by rfl) (.tmp 92) (.tmp 99) 22 (by rfl) w 5 (.int .u8 0) 1 1 underlying22 Tryz.cP rfl (by decide) zG P.length zH _ (by rfl) oi.O xa P4.length xc _ (by rfl) FD.O.parts.2.1 (fC _) FD.O.parts.2.2.2.2 (by unfold maxLen;omega) (by omega) jI.O.size ?_);intro fK c9 w9 dA bW _;have nG:=Z (bT jI.O bW jI.O.size oi.O);have vH:=Z dA;clear hq ad7 dA bW))
  have l8:Value.int .i64 (wrap64 ((k:Int)+1))= .int .i64 ((k+1:Nat):Int):=by
   have:wrap64 ((k:Int)+1)=(k:Int)+1:=by unfold wrap64;omega
   rw[this];simp
  have ad8:=vH.O;rw[←qf] at ad8;go_roundg (ids.length - (k+1))
  case measure=>omega
  case rel=>exact⟨k+1,f1,P++P4,fK,c9,by omega,rfl,rfl,Vv,by rw[aK],(by first|exact l8|(push_cast;rfl)),vL,by rw[aK];exact Z ad8,nG⟩
theorem arJ(a b:av)(n c e:Nat)(hn:0<n)(w:World)(R:ak)
 (I:R (.returned (.bool false)) w):
 Calls prog 153 #[.slice a n c,.slice b 0 e] w R:=by
 have HR:=Z I;have bf:((n:Int) != 0)=true:=by simp;omega
 clear I;go_enter func153,ntmps153;go_wp2;exact HR.O
theorem My{P:Prop}(h:P:=by
 go_enter func114,ntmps114;go_wp2_with (first
  |(go_at_call 152;go_must(refine aeu n _ rL.O _ _ _ _ _ (HC.O.p.below ct.O) (HC.O.q.below ct.O) (Z0.nil.bs _) (Z0.nil.ps _) _ ?_);intro w3 an;have r0:=aA N0.O an;have r1:=aA N1.O an;have fD:=D 10 r0;have iP:=D 11 r0;have iQ:=D 12 r0;have jN:=D 13 r0;have d10:=D 10 r1;have d11:=D 11 r1;have d12:=D 12 r1;have d13:=D 13 r1;have cq:=Z (aQ ct.O an);clear an r0 r1)
  |(go_at_call 153;go_must(refine alJ _ _ _ _ _ _ ?_)))
 exact HR.O _ cq.O):P:=h
theorem arK(x:Im)(z:Bool)(hz:z=true↔x=gI x.note.aF)(pv qv ev:Value)(w:World)(J:ie w pv qv ev x)(R:ak)
 (I:∀w',Below w w w'→R (.returned (.bool z)) w'):
 Calls prog 114 #[(Value.agg (qi x pv qv ev)),(Value.agg #[.string (str (gI x.note.aF).note.aF),(.slice none 0 0),.int .i64 (gI x.note.aF).note.ah,.bool (gI x.note.aF).note.aL,.string (str (gI x.note.aF).note.src),.int .i64 (gI x.note.aF).note.aP,(.slice none 0 0),.int .i64 (gI x.note.aF).note.origin,.int .i64 (gI x.note.aF).note.number,.int .i64 (gI x.note.aF).note.aW,.int .i64 (gI x.note.aF).ah,.bool (gI x.note.aF).aI,(.slice none 0 0),.string (str (gI x.note.aF).share)])] w R:=by
 have HR:=Z I;obtain⟨⟨V,X,rfl⟩,⟨qa,qc,rfl⟩,ea,ec,rfl⟩:=J.shape;obtain⟨n,ah,aI,ids,share⟩:=x;simp only[gI] at*;obtain⟨z1,cJ⟩:∃z1:Bool,z1=true↔n=gN n.aF:=by
  by_cases h:n=gN n.aF
  ·exact⟨true,by simp[←h]⟩
  exact⟨false,by simp[h]⟩
 have vx:z=(z1&&decide (ah=2)&& !aI&&decide (ids= [])&&decide (share= [])):=by
  exact aev
 obtain⟨O0,kH⟩:=ai ((Obj.cells (qg n.aF V n.ay X n.ah n.aL n.src n.aP qa n.props qc n.origin n.number n.aW ah aI ea ids ec share) 36));obtain⟨O1,eP⟩:=ai ((Obj.cells #[.string (str n.aF),.slice none 0 0,E 0,.bool false,.string (str []),E 0,.slice none 0 0,E 0,E 0,E 0,E 2,.bool false,.slice none 0 0,.string (str [])] 36));have aw:Below w w ((w.alloc O0).alloc O1):=(aD _ _).alloc (by simp) _;have n0:=js (o':=O1) (aH w O0);have n1:=aH (w.alloc O0) O1;rw[show(w.alloc O0).heap.size=w.heap.size+1 by simp] at n1;obtain⟨ct,N0,N1⟩:=bX aw n0 n1;rw[←kH,←eP] at ct N0 N1;obtain⟨HC,rL,yC⟩:=bX J cJ vx;clear aw n0 n1 kH eP I J hz cJ vx;cases z1 with
 |false=>
  obtain rfl:z=false:=by rw[yC.O];rfl
  exact My
 |true=>
 by_cases h2:ah=2
 ·subst h2;cases aI with
  |true=>
   obtain rfl:z=false:=by rw[yC.O];rfl
   exact My
  |false=>
  by_cases h4:ids= []
  ·subst h4;by_cases h5:share= []
   ·subst h5;obtain rfl:z=true:=by rw[yC.O];rfl
    exact My
   ·obtain rfl:z=false:=by rw[yC.O];simp[h5]
    have hf:share.isEmpty=false:=by simpa using h5
    exact My
  obtain rfl:z=false:=by rw[yC.O];simp[h4]
  have td:0<ids.length:=List.length_pos_iff.2 h4;go_enter func114,ntmps114;go_wp2_with (first
   |(go_at_call 152;go_must(refine aeu n _ rL.O _ _ _ _ _ (HC.O.p.below ct.O) (HC.O.q.below ct.O) (Z0.nil.bs _) (Z0.nil.ps _) _ ?_);intro w3 an;have r0:=aA N0.O an;have r1:=aA N1.O an;have fD:=D 10 r0;have iP:=D 11 r0;have iQ:=D 12 r0;have jN:=D 13 r0;have d10:=D 10 r1;have d11:=D 11 r1;have d12:=D 12 r1;have d13:=D 13 r1;have cq:=Z (aQ ct.O an);clear an r0 r1)
   |(go_at_call 153;go_must(refine arJ _ _ _ _ _ td _ _ ?_)))
  exact HR.O _ cq.O
 obtain rfl:z=false:=by rw[yC.O];simp[h2]
 have hf:(ah==2)=false:=by simpa using h2
 exact My
open Int (toNat_natCast)
theorem Q2{s S:Cu}{T:List UInt8}(h:m6 s=(T,S))(U:S.bad=false):hO s=(T,S):=by
 obtain⟨l,bad⟩:=s;obtain rfl:bad=false:=adU h U;rcases EL l with⟨_,e⟩|⟨n,hn,k_,kZ,⟨_,e⟩|⟨h2,e⟩⟩
 ·unfold m6 at h;rw[e] at h;cases h;cases U
 ·unfold m6 at h;rw[e] at h;cases h;cases U
 have NP:cX (l.take 2)=n:=hn.O;have e1:aN 2 ⟨l,false⟩=((n:Int),⟨l.drop 2,false⟩):=by
  unfold aN takeC;have:¬((false || decide (l.length<2))=true):=by simp;omega
  simp only[if_neg this,NP,IntKind.wrap_i64,Prod.mk.injEq,and_true]
  omega
 have e2:m6 ⟨l,false⟩=((l.take (2+n)).drop 2,⟨l.drop (2+n),false⟩):=by
  unfold m6 takeC;rw[e];have h4:((2:Int)+(n:Int)).toNat=2+n:=by omega
  simp only[h4];rw[if_neg (by simp;omega)]
  rfl
 rw[e2] at h;cases h;unfold hO;rw[e1];have:¬((false || decide ((l.drop 2).length<n))=true):=by simp;omega
 simp only[toNat_natCast,if_neg this];rw[List.drop_take,List.drop_drop];simp
theorem V5{s S:Cu}{T:List UInt8}(h:mZ s=(T,S))(U:S.bad=false):hO s=(T,S):=by
 refine Q2 ?_ U;obtain⟨l,bad⟩:=s;obtain rfl:bad=false:=(Qz h U).1;obtain⟨aw2,u,er,hD⟩:∃aw2 u er,dp l=(aw2,u,er):=⟨_,_,_,rfl⟩
 unfold mZ at h;rw[hD] at h;have h0:er=0:=by
  cases h;have:=(Qx (T:=(takeC u.toNat ⟨l,false || er != 0⟩).1) rfl U).1
  simpa using this
 subst h0;obtain⟨h1,_⟩:=Se l aw2 u hD;unfold m6;rw[h1];exact h
theorem uf{s S:Cu}{T:List UInt8}(h:hO s=(T,S)):T.length≤65535∧S.b.length≤s.b.length∧T.length≤s.b.length:=by
 obtain⟨x,S1,h1⟩:∃x S,aN 2 s=(x,S):=⟨_,_,rfl⟩
 have h3:=Ad h1;obtain⟨k,rfl,G⟩:=aeX h1;unfold hO at h;rw[h1] at h;simp only[toNat_natCast] at h
 split at h<;>cases h
 ·simp only[gi]
  omega
 simp only[bS,dw]
 omega
def pD(b:List UInt8):Nt×Bool:=
 let r1:=hO ⟨b,false⟩
 let r2:=hO r1.2
 let r3:=aN 1 r2.2
 let r4:=hO r3.2
 let r5:=aN 8 r4.2
 let r6:=aN 8 r5.2
 let r7:=aN 1 r6.2
 let r8:=aN 1 r7.2
 let l:=lf 3 r8.2.b
 (⟨r1.1,r2.1,bits .and .i64 r3.1 3,bits .and .i64 r3.1 4 != 0,r4.1,r5.1,if r8.2.bad=true then [] else l.1,r7.1,r6.1,r8.1⟩,r8.2.bad || ((l.2.2:Int) != 0 || l.2.1 != (r8.2.b.length:Int)))
theorem ase{x:Nt}(h:lZ x):pD (eG x)=(x,false):=by
 obtain⟨m,h1,h2,k1,k2,k3,k4,k5,k6,k7,k8,k9⟩:=aac x h;have q1:=V5 k1 rfl;have q2:=Q2 k2 rfl;have q4:=V5 k4 rfl;show(_,_)=_;simp only[q1,q2,k3,q4,k5,k6,k7,k8,k9,h1,h2];simp
variable{x:Im}{aw2:List UInt8}{k m n:Nat}
noncomputable def pJ (b:List UInt8):Im×Bool×Int:=
 let r1:=hO ⟨b,false⟩
 let r2:=aN 1 r1.2
 let r3:=aN 1 r2.2
 let r4:=fG r3.1.toNat r3.2
 let r5:=hO r4.2
 (⟨(rdN r1.1).1,bits .and .i64 r2.1 3,bits .and .i64 r2.1 4 != 0,r4.1,r5.1⟩,r5.2.bad,(rdN r1.1).2)
theorem asf(h:gh x):pJ (db x)=(x,false,0):=by
 obtain⟨m,hm,h3,h4,k1,k2,k3,k4⟩:=aaw x h;have k5:=adY x.ids h.ir (b9 x.share).1 x.ids.length bj;rw[take_length,List.drop_length] at k5;have q1:=Q2 k1 rfl;have q4:=V5 k4 rfl;show(_,_)=_;simp only[q1,k2,k3,toNat_natCast,k5,QC h.n,h3,h4];have e:sJ []++(b9 x.share).1=(b9 x.share).1:=rfl;rw[e,q4]
theorem asg{s:Cu}(h:s.bad=true):(aN n s).2.bad=true:=are h
theorem ae5{s:Cu}(h:s.bad=true):(hO s).2.bad=true:=by
 unfold hO;rw[asg h]
 rfl
theorem ash(k:Nat)(s:Cu):∀i∈(fG k s).1,0≤i∧i<4294967296:=by
 induction k with
 |zero=>intro i hi;exact(qT hi).elim
 |succ k ih=>
  intro i hi;have e:(fG (k+1) s).1=(fG k s).1++ [(aN 4 (fG k s).2).1]:=rfl;rw[e,ez,dM] at hi;rcases hi with hi|rfl
  ·exact ih i hi
  obtain⟨m,h1,h2⟩:=kS (n:=4) (s:=(fG k s).2) (by decide) rfl;have zj:(aN 4 (fG k s).2).1=(m:Int):=h1;rw[zj];have:(256:Nat) ^ 4=4294967296:=by decide
  omega
theorem asi:lZ ⟨[],[],0,false,[],0,[],0,0,0⟩:=
 ⟨by decide+kernel,by decide,by decide,by decide+kernel,by decide,by decide,by decide,by decide,by decide,by decide,by decide,⟨0,rfl,by decide⟩,⟨0,rfl,by decide⟩,by decide+kernel,rfl⟩
theorem asj{b:List UInt8}{x:Nt}{e:Int}(h:rdN b=(x,e))(U:b.length≤65535):lZ x∧(eG x).length≤65535:=by
 rcases adW h with⟨_,h1,h2⟩|⟨_,rfl⟩
 ·exact⟨h1,by rw[h2];exact U⟩
 exact⟨asi,by decide+kernel⟩
theorem asl{b:List UInt8}{s1 s2 s3 s4 s5:Cu}{x2:Int}{n:Nt}{e:Int}{share:List UInt8}
 (k1:hO ⟨b,false⟩=(aw2,s1)) (k6:rdN aw2=(n,e)) (k2:aN 1 s1=(x2,s2)) (k3:aN 1 s2=((m:Int),s3)) (G:k≤m) (h4:(fG k s3).2=s4) (k5:hO s4=(share,s5)) (vX:k=m∨s4.bad=true)
 {x:Im} {er:Int} (F:rdI b=(x,er)) (awZ:Im) (hX:(⟨n,bits .and .i64 x2 3,bits .and .i64 x2 4 != 0,(fG k s3).1,share⟩:Im)=awZ) (awX:Bool) (hF:awX=true↔gh awZ) (aw0:List UInt8) (hY:db awZ=aw0):
 (¬(e=0∧s5.bad=false∧awX=true∧aw0=b)→x=⟨⟨[],[],0,false,[],0,[],0,0,0⟩,0,false,[],[]⟩∧er=190)∧(awX=true→aw0=b→x=awZ∧er=0):=by
 refine⟨fun J=> ?_,fun h1 h2=> ?_⟩
 ·rw[ad0 fun z hz U=>J (by
   have h2:=asf hz;rw[U] at h2;rcases vX with rfl|fb
   ·have hp:pJ b=(awZ,s5.bad,e):=by
     show(_,_)=_;simp only[k1,k2,k3,toNat_natCast,h4,k5,k6,hX]
    rw[hp] at h2;simp only[Prod.mk.injEq] at h2;obtain⟨rfl,h3,rfl⟩:=h2;exact⟨rfl,h3,hF.2 hz,by rw[←hY,U]⟩
   have ao:(fG m s3).2.bad=true:=ark s3 G (by rw[h4];exact fb);have h3:=congrArg (fun p=>p.2.1) h2;have h5:(pJ b).2.1=true:=by
    show(hO (fG (aN 1 (aN 1 (hO ⟨b,false⟩).2).2).1.toNat (aN 1 (aN 1 (hO ⟨b,false⟩).2).2).2).2).2.bad=true;simp only[k1,k2,k3,toNat_natCast];exact ae5 ao
   simp only at h3;rw[h5] at h3;cases h3)] at F
  cases F;exact⟨rfl,rfl⟩
 rw[←h2,←hY,QE (hF.1 h1)] at F;cases F;exact⟨rfl,rfl⟩
open List (mem_cons_of_mem)
theorem P7:∀l:List UInt8,(∀b∈l,b.toNat≠0∧b.toNat<128)→eg l=true
 |[],_=>OB
 |b::t,h=>by
  have U:=h b (by simp);have ih:=P7 t (fun x F=>h x (mem_cons_of_mem _ F));unfold eg at ih⊢;rw[Bool.and_eq_true] at ih⊢;refine⟨?_,by rw[Lib.validD_cons b t U.2];exact ih.2⟩;rw[R7 _ (by simp),Lib.decodeL_ascii b t U.2];simp only[U.1,if_false];exact ih.1
theorem UH(c:Fin 256):(b8 (97+((c.val:Nat):Int) % 26)).toNat≠0∧(b8 (97+((c.val:Nat):Int) % 26)).toNat<128:=by
 revert c
 decide+kernel
theorem P8(l:List UInt8):GT (116::e_ l):=by
 refine⟨P7 _ fun b U=> ?_,?_⟩
 ·rcases List.mem_cons.1 U with rfl|U
  ·decide
  ·unfold e_ at U;obtain⟨x,_,rfl⟩:=List.mem_map.1 U;exact UH ⟨x.toNat,x.toNat_lt⟩
 have:=qN l;simp only[ey]
 omega
