/- A part of the proof of SessionPlays, printed small; no conditions of its own. -/
import Derived.Test.YtgimbocoamnkjaaGreatDoorM22
import Derived.Deep.AppendLies
set_option maxRecDepth 100000
set_option maxHeartbeats 16000000
namespace Go.Proofs.YtgimbocoamnkjaaGreatDoor
variable{vs:List Value}{B K c0 e i m n tb te ts:Nat}{a0 ad:Option Addr}{v v1 v2:Value}{w w1 w2:World}
open Go.RowKit
theorem aol{c:Nat}{l:List Value}(h:w.ownsRow B e 1 (.slice ad n c) n l)(hm:m≤n)(h0:0<n):w.ownsRow B e 1 (.slice ad m c) m (l.take m):=by
 have hl:l.length=n:=by have:=h.1;omega
 refine ⟨by simp [List.length_take];omega,?_⟩;rcases h.2 with ⟨hv,hn⟩|⟨g,cap,cur,hv,hb,hg,h1,h2,h3,h4⟩
 ·omega
 ·simp only [Value.slice.injEq] at hv;obtain ⟨rfl,-,rfl⟩:=hv;refine .inr ⟨g,c,cur,rfl,hb,hg,by omega,h2,h3,?_⟩;rw [Nat.mul_one] at h4⊢;have:(cur.toList.take n).take m=cur.toList.take m:=by rw [List.take_take,Nat.min_eq_left hm]
  rw [←this,h4]
theorem abq{l:List Value}{x y:Value}(ho:w.ownsRow B e 1 v n l)(h1:tB w w1 v v1)(abr:w1.ownsRow B e 1 v1 (n+1) (l++ [x]))(h2:tB w1 w2 v1 v2)(gO:w2.ownsRow B e 1 v2 (n+2) (l++ [x]++ [y])):
 w.grownBy w2 v.ownBlock∧((∃b c,v= .slice (some ⟨b,0,none⟩) n c∧v2= .slice (some ⟨b,0,none⟩) (n+2) c)∨(w2.ownsRow B e 1 v n l∧∃k,v2.ownBlock=some k∧w.heap.size≤k)):=by
 obtain ⟨ad,c,rfl⟩:=bF ho;obtain ⟨uP,c1,rfl⟩:=bF abr;obtain ⟨iR,c2,rfl⟩:=bF gO;have hl:l.length=n:=by have:=ho.1;omega
 rcases h1 with ⟨b,m,m',c',q1,q2,g1⟩|⟨⟨k,q1,q2⟩,g1⟩
 ·simp only [Value.slice.injEq] at q1 q2;obtain ⟨rfl,rfl,rfl⟩:=q1;obtain ⟨rfl,rfl,rfl⟩:=q2;rcases h2 with ⟨b',m2,aom,aon,r1,r2,g2⟩|⟨⟨k,r1,r2⟩,g2⟩
  ·simp only [Value.slice.injEq,Option.some.injEq,Addr.mk.injEq,and_true] at r1 r2;obtain ⟨rfl,rfl,rfl⟩:=r1;obtain ⟨rfl,-,rfl⟩:=r2;exact ⟨bO g1 g2,.inl ⟨_,_,rfl,rfl⟩⟩
  ·refine ⟨bO g1 (uK g2),.inr ⟨?_,k,r1,Nat.le_trans g1.size r2⟩⟩;have:=aol (m:=n) abr (by omega) (by omega);rw [←hl,List.take_left,hl] at this;exact cY this g2 (fun j hj hc=>by cases hc)
 ·have nX:w1.ownsRow B e 1 (.slice ad n c) n l:=cY ho g1 (fun j hj hc=>by cases hc);rcases h2 with ⟨b',m2,aom,aon,r1,r2,g2⟩|⟨⟨k',r1,r2⟩,g2⟩
  ·simp only [Value.slice.injEq] at r1 r2;obtain ⟨rfl,rfl,rfl⟩:=r1;obtain ⟨rfl,rfl,rfl⟩:=r2;simp only [Value.ownBlock,Option.some.injEq] at q1;subst q1;refine ⟨uK (acT g1 g2 q2),.inr ⟨cY nX g2 (fun j hj hc=> ?_),_,rfl,q2⟩⟩;have:=(ho.lt j hj).2;have:=Option.some.inj hc
   omega
  ·exact ⟨uK (bO g1 g2),.inr ⟨cY nX g2 (fun j hj hc=>by cases hc),k',r1,Nat.le_trans g1.size r2⟩⟩
theorem Nd{P:Program}{ops:Array Oper}{rest:List Oper}{o:Oper}{a:Act}{Q:Exit→Act→World→Prop}(kT:o.guard=none)(s x:Operand)(t:TypeId)
 (ho:o.op= .call {callee:= .builtin .append,args:=#[s,x],argTypes:=#[t,t]})
 (base:Nat) (e:TypeId) (z:Value) (bytes:Nat) (ht:P.underlying t=some (.slice e)) (j8:(P.info? e).map (fun i=>(i.zero,i.size,i.bytes))=some (some z,1,bytes)) (gp:z.cells.size=1)
 (ad:Option Addr) (n c:Nat) (xs:List Value) (hs:a.eval s= .slice ad n c) (aV:w.ownsRow base e 1 (.slice ad n c) n xs)
 (iR:Addr) (c2:Nat) (u:Value) (hx:a.eval x= .slice (some iR) 1 c2) (bG:Rd w 1 (some iR) 1 [u]) (h1:u.oneCell'=true)
 (h63:n+1≤maxLen) (eQ:(n+1) *bytes≤140737488355328) (iS:base≤w.heap.size)
 (h:∀bq c' w',w'.ownsRow base e 1 (.slice bq (n+1) c') (n+1) (xs++ [u])→tB w w' (.slice ad n c) (.slice bq (n+1) c')→wpList P ops Q rest (a.put o.dst (.slice bq (n+1) c')) w'):
 wpList P ops Q (o::rest) a w:=by
 obtain ⟨i,hi,hz,cQ,gU⟩:=info_parts j8;refine wpList_plain kT fun K hK=> ?_;obtain ⟨v',w',hr,h2,h3⟩:=JP (P:=P) w base t o.type e i z 1 bytes ht hi hz cQ gU gp (by decide) _ n xs aV iR 1 c2 [u] rfl (by
  intro j q hj;obtain ⟨b,o',FR,hc⟩:=bG.2 (by decide);obtain rfl:=Option.some.inj FR;have pT:j<1:=(List.getElem?_eq_some_iff.1 hj).1;rw [Addr.add_lit,hc j (by omega)];exact hj) (by simpa using h1) h63 eQ iS (by decide)
 obtain ⟨bq,c',rfl⟩:=bF h2;unfold Oper.wp execOp;simp only [ho,resolve,invoke,builtin,Sem.run_bind,Sem.run_pure,Result.andThen_ok,List.map_toArray,List.map_cons,List.map_nil,hs,hx,hr];exact hK _ _ (h bq c' w' h2 h3)
def kR(m0:Nat→Value)(n i:Nat):List Value:=List.replicate n (m0 i)
@[simp] theorem arU(m0:Nat→Value)(n i:Nat):(kR m0 n i).length=n:=by simp [kR]
theorem abt(m0:Nat→Value)(n i j:Nat)(h:j<n):(kR m0 n i)[j]? =some (m0 i):=by
 unfold kR;rw [List.getElem?_replicate,if_pos h]
structure Ax(tb ts te:Nat)(w:World)(B K:Nat)(cs:Array Value)(a0:Option Addr)(c0:Nat)(vs:List Value)(m:Nat)(f:Nat→List Value):Prop where
 hK:w.heap[K]? =some (.cells (cs) tb (0,0))
 r0:w.ownsRow B ts 1 (.slice a0 m c0) m vs
 each:∀i,i<m→∃v,vs[i]? =some v∧w.ownsRow B te 1 v (f i).length (f i)
theorem Ax.store{cs:Array Value}{f:Nat→List Value}(h:Ax tb ts te w B K cs a0 c0 vs m f)(h1:tb≠te)(h2:te≠ts)(ap:vs.Pairwise fR)
 {i g n c:Nat} (j:Nat) (b:Value) (hi:i<m) (hv:vs[i]? =some (.slice (some ⟨g,0,none⟩) n c)):
 Ax tb ts te (w.setCell ⟨g,j,none⟩ b) B K cs a0 c0 vs m (fun q=>if q=i then (f i).set j b else f q)∧w.grownBy (w.setCell ⟨g,j,none⟩ b) (some g)∧B≤g:=by
 obtain ⟨v,e,ho⟩:=h.each i hi;rw [hv] at e;obtain rfl:=Option.some.inj e;have hn:n=(f i).length:=by
  obtain ⟨ad,c',e'⟩:=bF ho;simp only [Value.slice.injEq] at e';exact e'.2.1
 subst hn;have hg:=bL w ⟨g,j,none⟩ b;have b7:=ho.stored j b;refine ⟨⟨?_,?_,fun q hq=> ?_⟩,hg,(ho.lt g rfl).1⟩
 ·exact eG hg h.hK (dU h.hK ho h1)
 ·refine cY h.r0 hg fun k hk hc=> ?_;have:=Option.some.inj hc;exact NC ho h.r0 h2 k hk this.symm
 ·by_cases S5:q=i
  ·subst S5;refine ⟨_,hv,?_⟩
   simpa using b7.1
  ·obtain ⟨v,e,qZ⟩:=h.each q hq;refine ⟨v,e,?_⟩;simp only [S5,if_false];refine cY qZ hg fun k hk hc=> ?_;have hc:=Option.some.inj hc;have aX:vs.length=m:=by have:=h.r0.1;omega
   have e1:vs[q]=v:=by rw [List.getElem?_eq_getElem (by omega)] at e;exact Option.some.inj e
   have e2:vs[i]= .slice (some ⟨g,0,none⟩) (f i).length c:=by rw [List.getElem?_eq_getElem (by omega)] at hv;exact Option.some.inj hv
   have Jj:=List.pairwise_iff_getElem.1 ap;rcases Nat.lt_or_gt_of_ne S5 with ao|ao
   ·have:=Jj q i (by omega) (by omega) ao;rw [e1,e2] at this;exact this k hk (by show some g=some k;rw [hc])
   ·have:=Jj i q (by omega) (by omega) ao;rw [e1,e2] at this;exact this k (by show some g=some k;rw [hc]) hk
structure vQ(m0 m1 m2:Nat→Value)(tb ts te:Nat)(w:World)(B K H:Nat)(cs:Array Value)(a0:Option Addr)(c0:Nat)(vs gs:List Value)(m:Nat)(L:Nat→Nat)(i:Nat):Prop where
 hK:w.heap[K]? =some (.cells (cs) tb (0,0))
 r0:w.ownsRow B ts 1 (.slice a0 m c0) m vs
 hH:∀k,(Value.slice a0 m c0).ownBlock=some k→k<H
 old:∀j,i≤j→j<m→∃v,vs[j]? =some v∧w.ownsRow B te 1 v (L j) (kR m0 (L j) j)∧∀k,v.ownBlock=some k→k<H
 new:∀j,j<i→∃v g,vs[j]? =some v∧gs[j]? =some g∧(∀k,v.ownBlock=some k→k<H)∧w.ownsRow B te 1 g (L j+2) (kR m0 (L j) j++ [m1 j]++ [m2 j])∧
  ((∃b c,v= .slice (some ⟨b,0,none⟩) (L j) c∧g= .slice (some ⟨b,0,none⟩) (L j+2) c)∨(w.ownsRow B te 1 v (L j) (kR m0 (L j) j)∧∃k,g.ownBlock=some k∧H≤k))
theorem vQ.step{m0 m1 m2:Nat→Value}{H:Nat}{cs:Array Value}{gs:List Value}{L:Nat→Nat}(h:vQ m0 m1 m2 tb ts te w B K H cs a0 c0 vs gs m L i)(h1:tb≠te)(h2:te≠ts)(ap:vs.Pairwise fR)(hi:i<m)(qm:gs.length=i)(hH:H≤w.heap.size)
 (hv:vs[i]? =some v) (hg:w.grownBy w2 v.ownBlock) (hn:w2.ownsRow B te 1 v2 (L i+2) (kR m0 (L i) i++ [m1 i]++ [m2 i]))
 (halt:(∃b c,v= .slice (some ⟨b,0,none⟩) (L i) c∧v2= .slice (some ⟨b,0,none⟩) (L i+2) c)∨(w2.ownsRow B te 1 v (L i) (kR m0 (L i) i)∧∃k,v2.ownBlock=some k∧w.heap.size≤k)):
 vQ m0 m1 m2 tb ts te w2 B K H cs a0 c0 vs (gs++ [v2]) m L (i+1):=by
 obtain ⟨v',e,ho,Nf⟩:=h.old i (Nat.le_refl _) hi;rw [hv] at e;obtain rfl:=Option.some.inj e;have aX:vs.length=m:=by have:=h.r0.1;omega
 have Jj:=List.pairwise_iff_getElem.1 ap;have ei:vs[i]=v:=by rw [List.getElem?_eq_getElem (by omega)] at hv;exact Option.some.inj hv
 have un:∀j,j<m→j≠i→∀u,vs[j]? =some u→∀k,u.ownBlock=some k→some k≠v.ownBlock:=by
  intro j hj kj u hu k hk hc;have ej:vs[j]=u:=by rw [List.getElem?_eq_getElem (by omega)] at hu;exact Option.some.inj hu
  rcases Nat.lt_or_gt_of_ne kj with ao|ao
  ·have:=Jj j i (by omega) (by omega) ao;rw [ej,ei] at this;exact this k hk hc.symm
  ·have:=Jj i j (by omega) (by omega) ao;rw [ej,ei] at this;exact this k hc.symm hk
 refine ⟨?_,?_,h.hH,fun j hj eE=> ?_,fun j hj=> ?_⟩
 ·exact eG hg h.hK (dU h.hK ho h1)
 ·refine cY h.r0 hg fun k hk hc=> ?_;obtain ⟨ad,c,rfl⟩:=bF ho;cases ad with
  |none=>simp [Value.ownBlock] at hc
  |some a=>
   obtain ⟨g,e⟩:∃g,some a=some ⟨g,0,none⟩:=by
    rcases ho.2 with ⟨dO,_⟩|⟨g,cap,cur,dO,_⟩
    ·simp at dO
    ·simp only [Value.slice.injEq] at dO;exact ⟨g,dO.1⟩
   rw [e] at hc ho;have:=Option.some.inj hc;exact NC ho h.r0 h2 k hk this.symm
 ·obtain ⟨u,eu,hu,B4⟩:=h.old j (by omega) eE;exact ⟨u,eu,cY hu hg (un j eE (by omega) u eu),B4⟩
 ·by_cases kj:j=i
  ·subst kj;refine ⟨v,v2,hv,by rw [List.getElem?_append_right (by omega),qm];simp,Nf,hn,?_⟩;rcases halt with q|⟨q,k,q1,q2⟩
   ·exact .inl q
   ·exact .inr ⟨q,k,q1,by omega⟩
  ·obtain ⟨u,g,eu,eg,B4,Ay,FL⟩:=h.new j (by omega);have abu:=un j (by omega) kj u eu;refine ⟨u,g,eu,by rw [List.getElem?_append_left (by omega)];exact eg,B4,cY Ay hg fun k hk hc=> ?_,?_⟩
   ·rcases FL with ⟨b,c,rfl,rfl⟩|⟨_,k',q1,q2⟩
    ·exact abu k hk hc
    ·rw [hk] at q1;obtain rfl:=Option.some.inj q1;have:=Nf k hc.symm
     omega
   ·rcases FL with q|⟨q,k',q1,q2⟩
    ·exact .inl q
    ·exact .inr ⟨cY q hg abu,k',q1,q2⟩
theorem vQ.later{m0 m1 m2:Nat→Value}{H:Nat}{cs:Array Value}{gs:List Value}{L:Nat→Nat}(h:vQ m0 m1 m2 tb ts te w B K H cs a0 c0 vs gs m L i)
 (hK:w2.heap[K]? =some (.cells (cs) tb (0,0))) (r0:w2.ownsRow B ts 1 (.slice a0 m c0) m vs) (hk:eF te w w2):vQ m0 m1 m2 tb ts te w2 B K H cs a0 c0 vs gs m L i:=by
 refine ⟨hK,r0,h.hH,fun j hj eE=> ?_,fun j hj=> ?_⟩
 ·obtain ⟨u,eu,hu,B4⟩:=h.old j hj eE;exact ⟨u,eu,hk _ _ _ _ hu,B4⟩
 ·obtain ⟨u,g,eu,eg,B4,Ay,FL⟩:=h.new j hj;refine ⟨u,g,eu,eg,B4,hk _ _ _ _ Ay,?_⟩;rcases FL with q|⟨q,k',q1,q2⟩
  ·exact .inl q
  ·exact .inr ⟨hk _ _ _ _ q,k',q1,q2⟩
theorem vQ.reads{m0 m1 m2:Nat→Value}{H:Nat}{cs:Array Value}{gs:List Value}{L:Nat→Nat}(h:vQ m0 m1 m2 tb ts te w B K H cs a0 c0 vs gs m L m)(j:Nat)(hj:j<m):
 ∃ad c b c',vs[j]? =some (.slice ad (L j) c)∧gs[j]? =some (.slice (some ⟨b,0,none⟩) (L j+2) c')∧(0<L j→∃b',ad=some ⟨b',0,none⟩∧∀q,q<L j→w.cell? ⟨b',q,none⟩=some (m0 j))∧
  (∀q,q<L j→w.cell? ⟨b,q,none⟩=some (m0 j))∧w.cell? ⟨b,L j,none⟩=some (m1 j)∧w.cell? ⟨b,L j+1,none⟩=some (m2 j):=by
 obtain ⟨u,g,eu,eg,B4,Ay,FL⟩:=h.new j hj;obtain ⟨ag,c',rfl⟩:=bF Ay;obtain ⟨b,rfl⟩:=et Ay (by omega);have aX:(kR m0 (L j) j++ [m1 j]++ [m2 j]).length=L j+2:=by simp
 have cells:∀q,q<L j→w.cell? ⟨b,q,none⟩=some (m0 j):=by
  intro q hq;rw [Ay.cellAt q (by omega),List.append_assoc,List.getElem?_append_left (by simp;omega),abt _ _ _ _ hq]
 have c1:w.cell? ⟨b,L j,none⟩=some (m1 j):=by
  rw [Ay.cellAt (L j) (by omega),List.append_assoc,List.getElem?_append_right (by simp)];simp
 have c2:w.cell? ⟨b,L j+1,none⟩=some (m2 j):=by
  rw [Ay.cellAt (L j+1) (by omega),List.append_assoc,List.getElem?_append_right (by simp)];simp
 rcases FL with ⟨b',c,e1,e2⟩|⟨hu,_⟩
 ·subst e1;simp only [Value.slice.injEq,Option.some.injEq,Addr.mk.injEq,and_true,true_and] at e2;obtain ⟨rfl,rfl⟩:=e2;exact ⟨_,_,b,c',eu,eg,fun _=>⟨b,rfl,cells⟩,cells,c1,c2⟩
 ·obtain ⟨ad,c,rfl⟩:=bF hu;refine ⟨ad,c,b,c',eu,eg,fun h0=> ?_,cells,c1,c2⟩;obtain ⟨b',rfl⟩:=et hu h0;refine ⟨b',rfl,fun q hq=> ?_⟩;rw [hu.cellAt q (by omega),abt _ _ _ _ hq]
theorem abv{P:Prop}(h:P:=by
 intro k hk hc;rcases abw with e|e
 ·rw [e] at hk;exact h3 k hk hc
 ·rw [e] at hk;have:=(h2.lt k hc).2;have:=Option.some.inj hk
  omega):P:=h
theorem abx{P:Prop}(h:P:=by
 intro k hk hc;have h9:g5=k:=by simpa [Value.ownBlock] using hc
 subst h9;rcases aby with e|e
 ·exact AG g5 hk e
 ·have:=(fb.lt g5 hk).2
  omega):P:=h
open _root_.Go.Proofs.Tryz
open List (pairwise_append)
variable{us xs:List Value}{S size t:Nat}{v0 v4:Value}{w':World}
theorem Tryz.S6:(prog.info? 22).map (fun i=>(i.zero,i.size,i.bytes))=some (some (.slice none 0 0),1,24):=by kernel_rfl
def cA(t s:Nat)(w w':World):Prop:=∀base v n xs,w.ownsRow base t s v n xs→w'.ownsRow base t s v n xs
theorem cA.trans{s:Nat}{a b c:World}(h:cA t s a b)(k:cA t s b c):cA t s a c:=fun _ _ _ _ ho=>k _ _ _ _ (h _ _ _ _ ho)
theorem cA.below{s:Nat}(hb:Below w w w'):cA t s w w':=fun _ _ _ _ h=>aK h hb
theorem cA.tq{s:Nat}{cs:Array Value}(hK:w.heap[K]? =some (.cells cs t (0,0)))(ht:t≠te):cA te s w (w.setCell ⟨K,i,none⟩ v):=by
 intro base u n xs hu;exact ownsRow_setCell_other hu (dU hK hu ht) v
theorem cA.grown{s c:Nat}(ho:w.ownsRow B e size (.slice ad n c) n xs)(hg:w.grownBy w' (Value.slice ad n c).ownBlock)(he:te≠e):cA te s w w':=by
 exact TM
def KA(x:Nat)(w w':World):Prop:=∀t s,t≠x→t≠78→cA t s w w'
theorem KA.trans{x:Nat}{a b c:World}(h:KA x a b)(k:KA x b c):KA x a c:=fun t s h1 h2=>(h t s h1 h2).trans (k t s h1 h2)
structure Hf(ts te:Nat)(w:World)(B:Nat)(v0 v1:Value)(vs us:List Value)(xs:List (List Value)):Prop where
 r0:w.ownsRow B ts 1 v0 xs.length vs
 r1:w.ownsRow B ts 1 v1 xs.length us
 un:fR v0 v1
 each:∀(i:Nat)(h:i<xs.length),∃v u,vs[i]? =some v∧us[i]? =some u∧w.ownsRow B te 1 v xs[i].length xs[i]∧w.ownsRow B te 1 u xs[i].length xs[i]
 apart:vs.Pairwise fR
 abz:∀v∈vs,∀u∈us,fR v u
theorem Hf.aM{xs:List (List Value)}(h:Hf ts te w B v0 v1 vs us xs)(h1:cA ts 1 w w')(h2:cA te 1 w w'):Hf ts te w' B v0 v1 vs us xs:=
 ⟨h1 _ _ _ _ h.r0,h1 _ _ _ _ h.r1,h.un,fun i hi=>by
  obtain ⟨v,u,e1,e2,e3,e4⟩:=h.each i hi;exact ⟨v,u,e1,e2,h2 _ _ _ _ e3,h2 _ _ _ _ e4⟩,h.apart,h.abz⟩
theorem Hf.nil(ts te:Nat)(w:World)(B:Nat):Hf ts te w B (.slice none 0 0) (.slice none 0 0) [] [] []:=
 ⟨World.ownsRow_nil _ _ _ _,World.ownsRow_nil _ _ _ _,fun k hk=>by simp [Value.ownBlock] at hk,fun i hi=>by simp at hi,.nil,fun v hv=>by simp at hv⟩
theorem Hf.push{w6:World}{u0 u1 y:Value}{xs:List (List Value)}{p:List Value}(h:Hf ts te w B u0 u1 vs us xs)(r0:w6.ownsRow B ts 1 v0 (xs.length+1) (vs++ [v]))(r1:w6.ownsRow B ts 1 v1 (xs.length+1) (us++ [y]))(hu:fR v0 v1)
 (hk:cA te 1 w w6) (hn:p.length=n) (hv:w.ownsRow B te 1 v n p) (hy:w6.ownsRow B te 1 y n p) (aoo:fR v y)
 (hd:∀v'∈vs,fR v' v) (vC:∀u∈us,fR v u) (lA:∀v'∈vs,fR v' y):Hf ts te w6 B v0 v1 (vs++ [v]) (us++ [y]) (xs++ [p]):=by
 have aop:vs.length=xs.length:=by have:=h.r0.1;omega
 have aoq:us.length=xs.length:=by have:=h.r1.1;omega
 subst hn;refine ⟨by simpa using r0,by simpa using r1,hu,fun i hi=> ?_,?_,?_⟩
 ·simp only [List.length_append,List.length_cons,List.length_nil] at hi;by_cases ao:i<xs.length
  ·obtain ⟨a,b,e1,e2,e3,e4⟩:=h.each i ao;refine ⟨a,b,by rw [List.getElem?_append_left (by omega)];exact e1,by rw [List.getElem?_append_left (by omega)];exact e2,?_,?_⟩
   ·rw [List.getElem_append_left ao];exact hk _ _ _ _ e3
   ·rw [List.getElem_append_left ao];exact hk _ _ _ _ e4
  ·obtain rfl:i=xs.length:=by omega
   refine ⟨v,y,by rw [List.getElem?_append_right (by omega),aop];simp,by rw [List.getElem?_append_right (by omega),aoq];simp,?_,?_⟩
   ·simpa using hk _ _ _ _ hv
   ·simpa using hy
 ·rw [pairwise_append];refine ⟨h.apart,by simp,fun a aor b hb=> ?_⟩;obtain rfl:=List.mem_singleton.1 hb;exact hd a aor
 ·intro a ha b hb;rcases List.mem_append.1 ha with ha|ha<;>rcases List.mem_append.1 hb with hb|hb
  ·exact h.abz a ha b hb
  ·obtain rfl:=List.mem_singleton.1 hb;exact lA a ha
  ·obtain rfl:=List.mem_singleton.1 ha;exact vC b hb
  ·obtain rfl:=List.mem_singleton.1 ha;obtain rfl:=List.mem_singleton.1 hb;exact aoo
theorem Hf.lt{xs:List (List Value)}(h:Hf ts te w B v0 v1 vs us xs):∀v∈vs,∀k,v.ownBlock=some k→k<w.heap.size:=fun v hv k hk=>by
 have l1:vs.length=xs.length:=by have:=h.r0.1;omega
 obtain ⟨i,hi,rfl⟩:=List.getElem_of_mem hv;obtain ⟨a,b,e1,e2,e3,e4⟩:=h.each i (by omega);rw [List.getElem?_eq_getElem hi] at e1;obtain rfl:=Option.some.inj e1;exact (e3.lt k hk).2
structure uC(w:World)(B K:Nat)(v0 v1 v4 v5:Value)(vs us ws zs:List Value)(ps ls:List (List Value)):Prop where
 oJ:B≤K
 hK:w.heap[K]? =some (.cells #[v0,v1,.slice none 0 0,.slice none 0 0,v4,v5] 78 (0,0))
 hb:Hf 22 5 w B v0 v1 vs us ps
 hi:Hf 25 3 w B v4 v5 ws zs ls
theorem uC.below{v5:Value}{ws zs:List Value}{ps ls:List (List Value)}(h:uC w B K v0 v1 v4 v5 vs us ws zs ps ls)(hb:Below w w w'):uC w' B K v0 v1 v4 v5 vs us ws zs ps ls:=
 ⟨h.oJ,aA h.hK hb,h.hb.aM (.below hb) (.below hb),h.hi.aM (.below hb) (.below hb)⟩
theorem uC.start(w:World)(hB:B≤w.heap.size):uC (w.alloc (.cells #[.slice none 0 0,.slice none 0 0,.slice none 0 0,.slice none 0 0,.slice none 0 0,.slice none 0 0] 78)) B w.heap.size (.slice none 0 0) (.slice none 0 0) (.slice none 0 0) (.slice none 0 0) [] [] [] [] [] []:=
 ⟨hB,heap_alloc_new w _,Hf.nil _ _ _ _,Hf.nil _ _ _ _⟩
theorem FM{u:Value}(h:∀k,v.ownBlock=some k→k<S)(hu:∀k,u.ownBlock=some k→S≤k):fR v u:=fun k hk hc=>by
 have:=h k hk;have:=hu k hc
 omega
theorem aos(B K:Nat)(v0 v1 v4 v5:Value)(vs us ws zs:List Value)(ps ls:List (List Value))(ad:Option Addr)(c:Nat)(p:List UInt8)(w:World)(hB:uC w B K v0 v1 v4 v5 vs us ws zs ps ls)(hn:ps.length<400)
 (hv:w.ownsRow B 5 1 (.slice ad p.length c) p.length (bv p)) (hd:∀v'∈vs,fR v' (.slice ad p.length c)) (vC:∀u∈us,fR (.slice ad p.length c) u) (hp:p.length≤140737488351232) (R:Ending→World→Prop)
 (hR:∀w' S7 S8 Ng,uC w' B K S7 S8 v4 v5 (vs++ [.slice ad p.length c]) Ng ws zs (ps++ [bv p]) ls→Below B w w'→KA 22 w w'→(∀u∈Ng,u∈us∨∀k,u.ownBlock=some k→w.heap.size≤k)→R (.returned (.tuple #[])) w'):
 Calls prog 26 #[.pointer (some ⟨K,0,none⟩),.slice ad p.length c] w R:=by
 have HB:=ab hB;have oJ:=hB.oJ;have h0:=hB.hK;have h1:=hB.hb.r0;have h2:=hB.hb.r1;have h3:=hB.hb.un;clear hB;obtain ⟨a0,c0,rfl⟩:=bF h1;obtain ⟨a1,c1,rfl⟩:=bF h2;have Nh:K<w.heap.size:=(Array.getElem?_eq_some_iff.1 h0).1;have Kj:B≤w.heap.size:=by omega
 have q0:w.cell? ⟨K,0,none⟩=some (.slice a0 ps.length c0):=af w K 0 _ _ _ h0;have HS:=ab h0;clear h0;go_enter func26,ntmps26;go_wp2_with (at_builtin;go_must (refine gj (by rfl) (.tmp 14) (.tmp 16) 74 (by rfl) B 22 (.slice none 0 0) 1 24 underlying74 Tryz.S6 rfl (by decide) _ _ _ _ rfl (World.ownsRow.alloc h1 _) _ _ _ _ rfl (cO _ _ _ 1 1 rfl) (JD _ _ _) (by simp) (by unfold maxLen;omega) (by omega) (by simp;omega) ?_));intro a2 c2 w2 ct bM abw;have sk:=eG bM (gq (o':=Obj.cells #[Value.slice ad p.length c] 22) HS.o_) (dU HS.o_ h1 (by decide));have zd:KA 22 w w2:=fun t s k1 _=>(cA.below ((Below.refl _ _).alloc (Nat.le_refl _) _)).trans (cA.grown (h1.alloc _) bM k1);have bQ:=cY (h2.alloc (Obj.cells #[Value.slice ad p.length c] 22)) bM (fun k hk hc=>h3 k hc.symm hk);have ah:=bC ((Below.refl B w).alloc Kj _) bM (by simp;omega) (h1.alloc (Obj.cells #[Value.slice ad p.length c] 22));have AG:fR (.slice a2 (ps.length+1) c2) (.slice a1 ps.length c1):=by
  exact abv
 have q2:w2.cell? ⟨K,0,none⟩=some (.slice a0 ps.length c0):=af w2 K 0 _ _ _ sk;have f2:=aB sk 0;have pP:=ab sk;clear sk bM h1 h2 q0 HS;have HR:=ab hR;clear hR;go_wp2_with fail;generalize pJ:w2.setCell ⟨K,0,none⟩ (Value.slice a2 (ps.length+1) c2)=w3;have tn:w3.heap[K]? =some (.cells (#[.slice a2 (ps.length+1) c2,.slice a1 ps.length c1,.slice none 0 0,.slice none 0 0,v4,v5]) 78 (0,0)):=by rw [←pJ];rw [heap_setCell_same w2 K 0 _ _ _ pP.o_];rfl
 have fb:w3.ownsRow B 22 1 (.slice a2 (ps.length+1) c2) (ps.length+1) (vs++ [Value.slice ad p.length c]):=by rw [←pJ];exact ownsRow_setCell_other ct (dU pP.o_ ct (by decide)) _
 have gu:w3.ownsRow B 22 1 (.slice a1 ps.length c1) ps.length us:=by rw [←pJ];exact ownsRow_setCell_other bQ (dU pP.o_ bQ (by decide)) _
 have js:KA 22 w w3:=by rw [←pJ];exact zd.trans (fun t s _ k2=>cA.tq pP.o_ (fun e=>k2 e.symm))
 have an:Below B w w3:=by rw [←pJ];exact ah.setCell oJ _
 have Ni:=js _ _ (by decide) (by decide) _ _ _ _ hv;have S9:=(eD Ni).2;have aot:K<w3.heap.size:=(Array.getElem?_eq_some_iff.1 tn).1;have q3:w3.cell? ⟨K,1,none⟩=some (.slice a1 ps.length c1):=af w3 K 1 _ _ _ tn;have Jk:=ab tn;have mo:=ab gu;have aou:=an.size;obtain ⟨i0,bS,j2,cm,kF⟩:=info_parts Tryz.S6;clear pJ tn pP q2 f2 bQ ct ah zd;go_region_law
  (first
   |(go_simp;go_at_call 31;refine acA _ p _ (S9.drew) (by omega) _ ?_;intro gL c4 w4 bZ ak;have q4:w4.cell? ⟨K,1,none⟩=some (.slice a1 ps.length c1):=cell_later ak q3;have aov:=fun o=>Lib.cell?_alloc_marked o q4)
   |(refine step_append_lies _ (by rfl) _ _ _ (by rfl) B 22 i0 (.slice none 0 0) 1 24 underlying74 bS j2 cm kF rfl (by omega) _ ps.length us (by rfl) ((aK (w:=w3.drew) mo.o_ ak).alloc _)
      ⟨w4,0,none⟩ 1 1 [.slice gL p.length c4] (by rfl) (by rfl) (World.news_of_block (cs:=#[.slice gL p.length c4]) (t:=22) (fr:=(0,0)) (heap_alloc_new w4 _)) (by simp [Value.oneCell'])
      (by omega) (by unfold maxLen;omega) (by omega) (by have:=ak.size;simp at this;simp;omega) (w4.heap.size+1) (by simp) ?_;intro g5 c5 w5 ed fo aby Bp;have uD:=ab (eG fo (gq (o':=Obj.cells #[Value.slice gL p.length c4] 22) ((ak.block K (by show K<w3.heap.size;omega)).trans Jk.o_)) (dU Jk.o_ mo.o_ (by decide)));have q5:w5.cell? ⟨K,1,none⟩=some (.slice a1 ps.length c1):=af w5 K 1 _ _ _ uD.o_;have f5:=aB uD.o_ 1))
 all_goals
  have Jl:=cY ((aK (w:=w3.drew) fb ak).alloc (Obj.cells #[Value.slice gL p.length c4] 22)) fo (fun k hk hc=>AG k hk hc.symm);have Hj:w3.heap.size≤w4.heap.size:=ak.size;have gZ:=bN (gF:=B) bZ (by show B≤w3.heap.size;omega);have kZ:KA 22 w4 w5:=fun t s k1 _=>(cA.below ((Below.refl _ _).alloc (Nat.le_refl _) _)).trans (cA.grown ((aK (w:=w3.drew) mo.o_ ak).alloc _) fo k1);have vr:KA 22 w w5:=(js.trans (fun t s _ _=>cA.below (w:=w3.drew) ak)).trans kZ;have aC:Below B w w5:=bC ((aD an.drew ak (by show B≤w3.heap.size;omega)).alloc (by omega) (Obj.cells #[Value.slice gL p.length c4] 22)) fo (by simp;omega) ((aK (w:=w3.drew) mo.o_ ak).alloc _);have S_:fR (.slice a2 (ps.length+1) c2) (.slice (some ⟨g5,0,none⟩) (ps.length+1) c5):=by
   exact abx
  have nK:∀k,(Value.slice gL p.length c4).ownBlock=some k→w.heap.size≤k:=by
   intro k hk;have:=(bZ.lt k hk).1;have h8:w3.heap.size≤k:=this
   omega
  go_end0;have Jm:KA 22 w5 (w5.setCell ⟨K,1,none⟩ (.slice (some ⟨g5,0,none⟩) (ps.length+1) c5)):=fun t s _ k2=>cA.tq uD.o_ (fun e=>k2 e.symm);have Az:=vr.trans Jm;refine HR.o_ _ _ _ (us++ [.slice gL p.length c4]) ⟨oJ,by rw [heap_setCell_same w5 K 1 _ _ _ uD.o_];rfl,?_,HB.o_.hi.aM (Az _ _ (by decide) (by decide)) (Az _ _ (by decide) (by decide))⟩ (aC.setCell oJ _) Az (fun u hu=>(List.mem_append.1 hu).imp id (fun h=>by obtain rfl:=List.mem_singleton.1 h;exact nK));exact HB.o_.hb.push (ownsRow_setCell_other Jl (dU uD.o_ Jl (by decide)) _) (ownsRow_setCell_other ed (dU uD.o_ ed (by decide)) _) S_ (Az _ _ (by decide) (by decide)) (Ef p) hv (Jm _ _ (by decide) (by decide) _ _ _ _ (kZ _ _ (by decide) (by decide) _ _ _ _ gZ)) (FM (fun k hk=>(hv.lt k hk).2) nK) hd vC (fun v' dO=>FM (HB.o_.hb.lt v' dO) nK)
theorem Ta:(prog.info? 3).map (fun i=>(i.zero,i.size,i.bytes))=some (some (.int .i64 0),1,8):=by kernel_rfl
theorem Tryz.Tb:(prog.info? 25).map (fun i=>(i.zero,i.size,i.bytes))=some (some (.slice none 0 0),1,24):=by kernel_rfl
theorem aow(B K:Nat)(v0 v1 v4 v5:Value)(vs us ws zs:List Value)(ps ls:List (List Value))(ad:Option Addr)(n c:Nat)(p:List Value)(w:World)(hB:uC w B K v0 v1 v4 v5 vs us ws zs ps ls)(hn:ls.length<400)
 (hv:w.ownsRow B 3 1 (.slice ad n c) n p) (hd:∀v'∈ws,fR v' (.slice ad n c)) (vC:∀u∈zs,fR (.slice ad n c) u) (sM:∀u∈p,u.oneCell'=true) (hp:n≤1000000) (R:Ending→World→Prop)
 (hR:∀w' Tc Td Nj,uC w' B K v0 v1 Tc Td vs us (ws++ [.slice ad n c]) Nj ps (ls++ [p])→Below B w w'→KA 25 w w'→(∀u∈Nj,u∈zs∨∀k,u.ownBlock=some k→w.heap.size≤k)→R (.returned (.tuple #[])) w'):
 Calls prog 27 #[.pointer (some ⟨K,0,none⟩),.slice ad n c] w R:=by
 have HB:=ab hB;have oJ:=hB.oJ;have h0:=hB.hK;have h1:=hB.hi.r0;have h2:=hB.hi.r1;have h3:=hB.hi.un;clear hB;obtain ⟨a0,c0,rfl⟩:=bF h1;obtain ⟨a1,c1,rfl⟩:=bF h2;have Nh:K<w.heap.size:=(Array.getElem?_eq_some_iff.1 h0).1;have Kj:B≤w.heap.size:=by omega
 have q0:w.cell? ⟨K,4,none⟩=some (.slice a0 ls.length c0):=af w K 4 _ _ _ h0;have HS:=ab h0;clear h0;go_enter func27,ntmps27;go_wp2_with (at_builtin;go_must (refine gj (by rfl) (.tmp 15) (.tmp 17) 76 (by rfl) B 25 (.slice none 0 0) 1 24 underlying76 Tryz.Tb rfl (by decide) _ _ _ _ rfl (World.ownsRow.alloc h1 _) _ _ _ _ rfl (cO _ _ _ 1 1 rfl) (JD _ _ _) (by simp) (by unfold maxLen;omega) (by omega) (by simp;omega) ?_));intro a2 c2 w2 ct bM abw;have sk:=eG bM (gq (o':=Obj.cells #[Value.slice ad n c] 25) HS.o_) (dU HS.o_ h1 (by decide));have zd:KA 25 w w2:=fun t s k1 _=>(cA.below ((Below.refl _ _).alloc (Nat.le_refl _) _)).trans (cA.grown (h1.alloc _) bM k1);have bQ:=cY (h2.alloc (Obj.cells #[Value.slice ad n c] 25)) bM (fun k hk hc=>h3 k hc.symm hk);have ah:=bC ((Below.refl B w).alloc Kj _) bM (by simp;omega) (h1.alloc (Obj.cells #[Value.slice ad n c] 25));have AG:fR (.slice a2 (ls.length+1) c2) (.slice a1 ls.length c1):=by
  exact abv
 have q2:w2.cell? ⟨K,4,none⟩=some (.slice a0 ls.length c0):=af w2 K 4 _ _ _ sk;have f2:=aB sk 4;have pP:=ab sk;clear sk bM h1 h2 q0 HS;have HR:=ab hR;clear hR;go_wp2_with fail;generalize pJ:w2.setCell ⟨K,4,none⟩ (Value.slice a2 (ls.length+1) c2)=w3;have tn:w3.heap[K]? =some (.cells (#[v0,v1,.slice none 0 0,.slice none 0 0,.slice a2 (ls.length+1) c2,.slice a1 ls.length c1]) 78 (0,0)):=by rw [←pJ];rw [heap_setCell_same w2 K 4 _ _ _ pP.o_];rfl
 have fb:w3.ownsRow B 25 1 (.slice a2 (ls.length+1) c2) (ls.length+1) (ws++ [Value.slice ad n c]):=by rw [←pJ];exact ownsRow_setCell_other ct (dU pP.o_ ct (by decide)) _
 have gu:w3.ownsRow B 25 1 (.slice a1 ls.length c1) ls.length zs:=by rw [←pJ];exact ownsRow_setCell_other bQ (dU pP.o_ bQ (by decide)) _
 have js:KA 25 w w3:=by rw [←pJ];exact zd.trans (fun t s _ k2=>cA.tq pP.o_ (fun e=>k2 e.symm))
 have an:Below B w w3:=by rw [←pJ];exact ah.setCell oJ _
 have Ni:=js _ _ (by decide) (by decide) _ _ _ _ hv;have S9:=qG Ni;have K_:=ab sM;have aox:=ab (B6 Ni);have aot:K<w3.heap.size:=(Array.getElem?_eq_some_iff.1 tn).1;have q3:w3.cell? ⟨K,5,none⟩=some (.slice a1 ls.length c1):=af w3 K 5 _ _ _ tn;have Jk:=ab tn;have mo:=ab gu;have aou:=an.size;obtain ⟨i0,bS,j2,cm,kF⟩:=info_parts Tryz.Tb;clear pJ tn pP q2 f2 bQ ct ah zd;go_region_law
  (first
   |(refine uL (by rfl) (.tmp 26) (.tmp 27) 25 (by rfl) w3 3 (.int .i64 0) 1 8 underlying25 Ta rfl (by decide) none (by rfl) (World.ownsRow_nil _ _ _ _) ad n c _ (by rfl) S9 K_.o_ aox.o_ (by unfold maxLen;omega) (by omega) (Nat.le_refl _) ?_;intro gL c4 w4 bZ ak;have q4:w4.cell? ⟨K,5,none⟩=some (.slice a1 ls.length c1):=cell_later ak q3;have aov:=fun o=>Lib.cell?_alloc_marked o q4)
   |(refine step_append_lies _ (by rfl) _ _ _ (by rfl) B 25 i0 (.slice none 0 0) 1 24 underlying76 bS j2 cm kF rfl (by omega) _ ls.length zs (by rfl) ((aK (w:=w3.drew) mo.o_ ak).alloc _)
      ⟨w4,0,none⟩ 1 1 [.slice gL n c4] (by rfl) (by rfl) (World.news_of_block (cs:=#[.slice gL n c4]) (t:=25) (fr:=(0,0)) (heap_alloc_new w4 _)) (by simp [Value.oneCell'])
      (by omega) (by unfold maxLen;omega) (by omega) (by have:=ak.size;simp at this;simp;omega) (w4.heap.size+1) (by simp) ?_;intro g5 c5 w5 ed fo aby Bp;have uD:=ab (eG fo (gq (o':=Obj.cells #[Value.slice gL n c4] 25) ((ak.block K (by show K<w3.heap.size;omega)).trans Jk.o_)) (dU Jk.o_ mo.o_ (by decide)));have q5:w5.cell? ⟨K,5,none⟩=some (.slice a1 ls.length c1):=af w5 K 5 _ _ _ uD.o_;have f5:=aB uD.o_ 5))
 all_goals
  have Jl:=cY ((aK (w:=w3.drew) fb ak).alloc (Obj.cells #[Value.slice gL n c4] 25)) fo (fun k hk hc=>AG k hk hc.symm);have Hj:w3.heap.size≤w4.heap.size:=ak.size;have gZ:=bN (gF:=B) bZ (by show B≤w3.heap.size;omega);have kZ:KA 25 w4 w5:=fun t s k1 _=>(cA.below ((Below.refl _ _).alloc (Nat.le_refl _) _)).trans (cA.grown ((aK (w:=w3.drew) mo.o_ ak).alloc _) fo k1);have vr:KA 25 w w5:=(js.trans (fun t s _ _=>cA.below (w:=w3.drew) ak)).trans kZ;have aC:Below B w w5:=bC ((aD an.drew ak (by show B≤w3.heap.size;omega)).alloc (by omega) (Obj.cells #[Value.slice gL n c4] 25)) fo (by simp;omega) ((aK (w:=w3.drew) mo.o_ ak).alloc _);have S_:fR (.slice a2 (ls.length+1) c2) (.slice (some ⟨g5,0,none⟩) (ls.length+1) c5):=by
   exact abx
  have nK:∀k,(Value.slice gL n c4).ownBlock=some k→w.heap.size≤k:=by
   intro k hk;have:=(bZ.lt k hk).1;have h8:w3.heap.size≤k:=this
   omega
  go_end0;have Jm:KA 25 w5 (w5.setCell ⟨K,5,none⟩ (.slice (some ⟨g5,0,none⟩) (ls.length+1) c5)):=fun t s _ k2=>cA.tq uD.o_ (fun e=>k2 e.symm);have Az:=vr.trans Jm;refine HR.o_ _ _ _ (zs++ [.slice gL n c4]) ⟨oJ,by rw [heap_setCell_same w5 K 5 _ _ _ uD.o_];rfl,HB.o_.hb.aM (Az _ _ (by decide) (by decide)) (Az _ _ (by decide) (by decide)),?_⟩ (aC.setCell oJ _) Az (fun u hu=>(List.mem_append.1 hu).imp id (fun h=>by obtain rfl:=List.mem_singleton.1 h;exact nK));exact HB.o_.hi.push (ownsRow_setCell_other Jl (dU uD.o_ Jl (by decide)) _) (ownsRow_setCell_other ed (dU uD.o_ ed (by decide)) _) S_ (Az _ _ (by decide) (by decide)) (by have:=hv.1;omega) hv (Jm _ _ (by decide) (by decide) _ _ _ _ (kZ _ _ (by decide) (by decide) _ _ _ _ gZ)) (FM (fun k hk=>(hv.lt k hk).2) nK) hd vC (fun v' dO=>FM (HB.o_.hi.lt v' dO) nK)
open List (getElem_map)
theorem aoy(B K:Nat)(v0 v1 v4 v5:Value)(vs us ws zs:List Value)(PS:List (List UInt8))(LS:List (List Int))(w:World)(hB:uC w B K v0 v1 v4 v5 vs us ws zs (PS.map bv) (LS.map iv))(nv:∀l∈LS,l.length≤100000)(R:Ending→World→Prop)
 (hR:∀w',Below w w w'→R (.returned (.bool true)) w'):
 Calls prog 91 #[.pointer (some ⟨K,0,none⟩)] w R:=by
 have HR:=ab hR;have ku:=ab nv;obtain ⟨n,hn⟩:=ai ((PS.map bv).length);obtain ⟨m,hm⟩:=ai ((LS.map iv).length);have h0:=hB.hK;have h1:=hB.hb.r0;have h2:=hB.hb.r1;have h4:=hB.hi.r0;have h5:=hB.hi.r1;rw [hn] at h1 h2;rw [hm] at h4 h5;obtain ⟨a0,c0,rfl⟩:=bF h1;obtain ⟨a1,c1,rfl⟩:=bF h2;obtain ⟨a4,c4,rfl⟩:=bF h4;obtain ⟨a5,c5,rfl⟩:=bF h5;have Nh:K<w.heap.size:=(Array.getElem?_eq_some_iff.1 h0).1;have aW:∀(wx:World),Below w w wx→wx.cell? ⟨K,0,none⟩=some (.slice a0 n c0)∧wx.cell? ⟨K,1,none⟩=some (.slice a1 n c1)∧wx.cell? ⟨K,2,none⟩=some (.slice none 0 0)∧wx.cell? ⟨K,3,none⟩=some (.slice none 0 0)∧wx.cell? ⟨K,4,none⟩=some (.slice a4 m c4)∧wx.cell? ⟨K,5,none⟩=some (.slice a5 m c5):=by
  intro wx hb;have hx:=aA h0 hb;exact ⟨af wx K 0 _ _ _ hx,af wx K 1 _ _ _ hx,af wx K 2 _ _ _ hx,af wx K 3 _ _ _ hx,af wx K 4 _ _ _ hx,af wx K 5 _ _ _ hx⟩
 have HC:=ab aW;have D5:=rp h1;have aoz:=rp h4;unfold maxLen at D5 aoz;have H1:=ab h1;have H2:=ab h2;have H4:=ab h4;have H5:=ab h5;have HE:=ab hB.hb.each;have uU:=ab hB.hi.each;have HN:=ab hn;have HM:=ab hm;clear aW h1 h2 h4 h5 h0 hB hR nv hn hm;go_enter func91,ntmps91;go_wp2;go_loopg [3] n (fun gn i wr=>∃k:Nat,k≤n∧gn=n - k∧i= .int .i64 k∧Hid (Below w w wr))
 case atStart=>exact ⟨0,Nat.zero_le _,by omega,rfl,ab (Below.refl _ _)⟩
 case round=>
  obtain ⟨k,hk,rfl,rfl,HB⟩:=hrel;obtain ⟨wo,rfl⟩:∃x,x=wr:=⟨_,rfl⟩
  obtain ⟨q0,q1,q2,q3,q4,q5⟩:=HC.o_ wo HB.o_;by_cases ao:k<n
  ·have D6:k<(PS.map bv).length:=by have:=HN.o_;omega
   have dM:k<PS.length:=by simpa using D6
   obtain ⟨v,u,e1,e2,e3,e4⟩:=HE.o_ k D6;obtain ⟨g0,rfl⟩:=et H1.o_ (by omega);obtain ⟨g1,rfl⟩:=et H2.o_ (by omega);have r0:=(aK H1.o_ HB.o_).cellAt k (by omega);have r1:=(aK H2.o_ HB.o_).cellAt k (by omega);rw [e1] at r0;rw [e2] at r1;obtain ⟨p,hp⟩:=ai (PS[k]);have Jn:(PS.map bv)[k]=bv p:=by rw [getElem_map,hp]
   rw [Jn,Ef] at e3 e4;obtain ⟨av,cv,rfl⟩:=bF e3;obtain ⟨au,cu,rfl⟩:=bF e4;have Te:=ab (eD (aK e3 HB.o_)).2;have Tf:=ab (eD (aK e4 HB.o_)).2;have bd:(k:Int)<(n:Int):=by omega
   have EG:(p==p)=true:=by simp
   have s0:wo.drew.cell? ⟨K,0,none⟩=some (.slice (some ⟨g0,0,none⟩) n c0):=q0;have s1:wo.drew.cell? ⟨K,1,none⟩=some (.slice (some ⟨g1,0,none⟩) n c1):=q1;have t0:wo.drew.cell? ⟨g0,k,none⟩=some (.slice av p.length cv):=by simpa using r0
   have t1:wo.drew.cell? ⟨g1,k,none⟩=some (.slice au p.length cu):=by simpa using r1
   clear e1 e2 e3 e4 q2 q3 q4 q5 hp Jn D6 dM r0 r1;go_wp2;go_still_tail 14,(by kernel_rfl)
   change wpList _ _ _ _ _ wo.drew
   have aY:=ab HB.o_.drew;have Jo:=ab Te.o_.drew;have Jp:=ab Tf.o_.drew;generalize wo.drew=w2 at aY Jo Jp s0 s1 t0 t1⊢;clear q0 q1;go_wp2_with (go_at_call 22;go_must (refine TJ _ _ p p _ Jo.o_ Jp.o_ _ ?_));go_roundg (n - (k+1))
   case measure=>omega
   case rel=>exact ⟨k+1,by omega,rfl,by go_num,aY⟩
  ·have bd:¬(k:Int)<(n:Int):=by omega
   go_wp2;go_loop [4] (fun i=>i= .int .i64 0) (fun _=>0)
   case atStart=>rfl
   case round=>
    obtain rfl:=hrel;go_wp2;go_loopg [5] m (fun gn i wr=>∃k:Nat,k≤m∧gn=m - k∧i= .int .i64 k∧Hid (Below w w wr))
    case atStart=>exact ⟨0,Nat.zero_le _,by omega,rfl,HB⟩
    case round=>
     clear q0 q1 q2 q3 q4 q5 bd ao hk HB;obtain ⟨k,hk,rfl,rfl,HB⟩:=hrel;obtain ⟨wo,rfl⟩:∃x,x=wr:=⟨_,rfl⟩
     obtain ⟨q0,q1,q2,q3,q4,q5⟩:=HC.o_ wo HB.o_;by_cases ao:k<m
     ·have D6:k<(LS.map iv).length:=by have:=HM.o_;omega
      have dM:k<LS.length:=by simpa using D6
      obtain ⟨v,u,e1,e2,e3,e4⟩:=uU.o_ k D6;obtain ⟨g4,rfl⟩:=et H4.o_ (by omega);obtain ⟨g5,rfl⟩:=et H5.o_ (by omega);have r0:=(aK H4.o_ HB.o_).cellAt k (by omega);have r1:=(aK H5.o_ HB.o_).cellAt k (by omega);rw [e1] at r0;rw [e2] at r1;obtain ⟨p,hp⟩:=ai (LS[k]);have fz:Hid (p.length≤100000):=by rw [←hp];exact ku.o_ _ (List.getElem_mem dM)
      have Jn:(LS.map iv)[k]=iv p:=by rw [getElem_map,hp]
      have lB:(iv p).length=p.length:=by simp [iv]
      rw [Jn,lB] at e3 e4;obtain ⟨av,cv,rfl⟩:=bF e3;obtain ⟨au,cu,rfl⟩:=bF e4;have Te:=ab (qG (aK e3 HB.o_));have Tf:=ab (qG (aK e4 HB.o_));have bd:(k:Int)<(m:Int):=by omega
      have s0:wo.drew.cell? ⟨K,4,none⟩=some (.slice (some ⟨g4,0,none⟩) m c4):=q4;have s1:wo.drew.cell? ⟨K,5,none⟩=some (.slice (some ⟨g5,0,none⟩) m c5):=q5;have t0:wo.drew.cell? ⟨g4,k,none⟩=some (.slice av p.length cv):=by simpa using r0
      have t1:wo.drew.cell? ⟨g5,k,none⟩=some (.slice au p.length cu):=by simpa using r1
      clear e1 e2 e3 e4 q0 q1 q2 q3 hp Jn D6 dM lB r0 r1;go_wp2;go_still_tail 14,(by kernel_rfl)
      change wpList _ _ _ _ _ wo.drew
      have aY:=ab HB.o_.drew;have Jo:=ab (Te.o_.below ((Below.refl wo wo).drew));have Jp:=ab (Tf.o_.below ((Below.refl wo wo).drew));generalize wo.drew=w2 at aY Jo Jp s0 s1 t0 t1⊢;clear q4 q5;go_wp2_with (go_at_call 90;go_must (refine ZM p p.length fz.o_ _ _ _ _ _ Jo.o_ Jp.o_ _ ?_);intro w3 an;have bU:=ab (aD aY.o_ an aY.o_.size);clear an);go_roundg (m - (k+1))
      case measure=>omega
      case rel=>exact ⟨k+1,by omega,rfl,by go_num,bU⟩
     ·have bd:¬(k:Int)<(m:Int):=by omega
      go_wp2;exact HR.o_ _ HB.o_
theorem abA{P:Prop}(h:P:=by
 subst hm;refine ⟨hK,r0,fun i hi=> ?_⟩;obtain ⟨v,e1,e3⟩:=each i hi;refine ⟨v,e1,?_⟩;rw [show xs.getD i []=xs[i] by simp [hi]];exact e3):P:=h
theorem abB{P:Prop}(h:P:=by
 intro j hj;by_cases mh:j=k
 ·subst mh;have:=tI.o_;rw [List.take_of_length_le (by omega),abC] at this;exact this
 ·exact FN.o_ j (by omega)):P:=h
theorem abD{P:Prop}(h:P:=by
 simp only [if_true,Hid];rw [List.take_succ_eq_append_getElem (by rw [List.length_set];omega),List.take_set_of_le (Nat.le_refl q),tI.o_];simp [kR,List.replicate_succ']):P:=h
theorem abE{P:Prop}(h:P:=by
 intro j;rw [←hL,FO];by_cases hj:j<xs.length
 ·simp only [List.getD_eq_getElem?_getD,List.getElem?_eq_getElem hj,Option.getD_some];exact aX _ (List.getElem_mem hj)
 ·simp [List.getElem?_eq_none (Nat.le_of_not_lt hj)]):P:=h
theorem abF{P:Prop}(h:P:=by
 refine ⟨hC.hK,hC.r0,fun j hj=>by rw [←hH];exact (hC.r0.lt j hj).2,fun j _ hj=> ?_,fun j hj=>by omega⟩;obtain ⟨v,ev,ho⟩:=hC.each j hj;rw [dI.o_ j,lx.o_ j hj] at ho;exact ⟨v,ev,ho,fun q hq=>by rw [←hH];exact (ho.lt q hq).2⟩):P:=h
abbrev sm(i:Nat):Value:= .int .u8 ((i:Int) % 256)
abbrev Tg(i:Nat):Value:= .int .u8 (((i:Int)+100) % 256)
abbrev Th(i:Nat):Value:= .int .u8 (((i:Int)+101) % 256)
abbrev so(i:Nat):Value:= .int .i64 (i:Int)
abbrev Ti(i:Nat):Value:= .int .i64 ((i:Int)+1000)
abbrev Tj(i:Nat):Value:= .int .i64 ((i:Int)+1001)
theorem abG{P:Prop}(h:P:=by
 subst lK;clear iz Nk B5 aY ek tI D7 FN ho Nl Nn fb;go_wp2;go_roundw
 case rel=>exact ⟨q+1,by omega,by go_num,_,eR,fy,Jq,qQ,abH,Jr,Js⟩
 case measure=>simp [intOf];omega):P:=h
theorem abI{P:Prop}(h:P:=by
 have arV:¬((q:Int)<(L k:Int)):=by omega
 subst lK;clear xG tI FN ho fb;go_wp2;go_roundw
 case rel=>exact ⟨k+1,by omega,by go_num,f2,ek,D7,Jq,aY,No,Np⟩
 case measure=>simp [intOf];omega):P:=h
theorem abJ{P:Prop}(h:P:=by
 have fj:=cB.size;have rO:=ab Tk;have bU:=ab an;have yQ:=ab Dj;simp at fj;clear Dj cB tn vV js Tk an vR rn ah Nq Nr;go_wp2;go_roundw
 case rel=>exact ⟨j+1,by omega,by go_num,_,abK,abL,by simp [qm],rfl,yQ,rO,bU,by omega,Jr,Js⟩
 case measure=>simp [intOf];omega):P:=h
theorem abM{P:Prop}(h:P:=by
 have lz:¬((j:Int)<(j:Int)):=by omega
 have q2:=mL.o_ wr HG.o_.hK;clear q0;go_wp2;go_loop [8,9,10] (fun i _ _=>∃x:Nat,x≤j∧i= .int .i64 x) (fun i _ _=>j - (intOf i).toNat)
 case atStart=>exact ⟨0,Nat.zero_le _,rfl⟩
 case round=>
  obtain ⟨x,hx,rfl⟩:=hrel;by_cases aoA:x<j
  ·obtain ⟨ad,c,b,c',ev,eg,Ib,iX,aI,bn⟩:=HG.o_.reads x aoA;have fb:=HG.o_.r0;obtain ⟨g0,lK⟩:=et fb (by omega);rw [lK] at fb;obtain ⟨g9,bo⟩:=et Aw.o_ (by omega);have r0:=fb.cellAt x (by omega);rw [ev] at r0;have xO:=Aw.o_;rw [bo] at xO;have r9:=xO.cellAt x (by omega);rw [eg] at r9;have HV:=ab Ib;have HW:=ab iX;have Vm:(x:Int)<(j:Int):=by omega
   have arW:(x:Int)<400:=by omega
   have GN:=HL.o_ x;subst lK bo;clear Ib iX ev eg fb xO;go_wp2;go_loop [10] (fun y=>∃q:Nat,q≤L x∧y= .int .i64 q) (fun y=>L x - (intOf y).toNat)
   case atStart=>exact ⟨0,Nat.zero_le _,rfl⟩
   case round=>
    obtain ⟨q,hq,rfl⟩:=hrel;by_cases xG:q<L x
    ·obtain ⟨b',rfl,hc⟩:=HV.o_ (by omega);have z1:=hc q xG;have z2:=HW.o_ q xG;have aoB:(q:Int)<(L x:Int):=by omega
     clear hc aI bn;go_wp2;go_round
     case rel=>exact ⟨q+1,by omega,by go_num⟩
     case measure=>simp [intOf];omega
    ·have aoB:¬((q:Int)<(L x:Int)):=by omega
     go_wp2;go_round
     case rel=>exact ⟨x+1,by omega,by go_num⟩
     case measure=>simp [intOf];omega
  ·go_wp2;exact HR.o_ _ HB.o_ HG.o_.hK nP.o_ kS.o_):P:=h
theorem aoC(B K:Nat)(cs:Array Value)(v0:Value)(ef:cs[0]? =some v0)(vs:List Value)(xs:List (List Value))(w:World)(oJ:B≤K)(hK:w.heap[K]? =some (.cells cs 78 (0,0)))(r0:w.ownsRow B 22 1 v0 xs.length vs)
 (each:∀(i:Nat)(h:i<xs.length),∃v,vs[i]? =some v∧w.ownsRow B 5 1 v xs[i].length xs[i]) (ap:vs.Pairwise fR) (aX:∀p∈xs,p.length≤1000000) (aT:xs.length≤400) (R:Ending→World→Prop)
 (hR:∀w',Below B w w'→w'.heap[K]? =some (.cells cs 78 (0,0))→cA 3 1 w w'→cA 25 1 w w'→R (.returned (.bool true)) w'):
 Calls prog 92 #[.pointer (some ⟨K,0,none⟩)] w R:=by
 obtain ⟨a0,c0,rfl⟩:=bF r0;have D5:=rp r0;unfold maxLen at D5;have Nh:K<w.heap.size:=(Array.getElem?_eq_some_iff.1 hK).1;obtain ⟨m,hm⟩:=ai xs.length;have D8:Ax 78 22 5 w B K cs a0 c0 vs m (fun j=>xs.getD j []):=by
  exact abA
 obtain ⟨f0,FO⟩:∃f:Nat→List Value,f=fun j=>xs.getD j []:=⟨_,rfl⟩
 rw [←FO] at D8;obtain ⟨L,hL⟩:∃L:Nat→Nat,∀j,(f0 j).length=L j:=⟨fun j=>(f0 j).length,fun _=>rfl⟩
 have Jt:∀j,L j≤1000000:=by
  exact abE
 have HL:=ab Jt;have EK:vs.length=m:=by have:=r0.1;omega
 rw [hm] at aT D5;have mj:Hid (cs[0]? =some (.slice a0 m c0)):=by rw [←hm];exact ef
 have aW:∀wx:World,wx.heap[K]? =some (.cells cs 78 (0,0))→wx.cell? ⟨K,0,none⟩=some (.slice a0 m c0):=fun wx h=>by
  rw [af wx K 0 _ _ _ h];exact mj.o_
 have mL:=ab aW;have HR:=ab hR;have uQ:=ab ap;clear hK r0 each FO aX hm Jt ef mj aW hR ap;go_enter func92,ntmps92;go_wp2;go_loopw [3,4] (fun i _ wr=>∃k:Nat,k≤m∧i= .int .i64 k∧∃f,Hid (Ax 78 22 5 wr B K cs a0 c0 vs m f)∧Hid (∀j,(f j).length=L j)∧Hid (∀j,j<k→f j=kR sm (L j) j)∧Hid (Below B w wr)∧Hid (cA 3 1 w wr)∧Hid (cA 25 1 w wr)) (fun i _ _=>m - (intOf i).toNat)
 case atStart=>exact ⟨0,Nat.zero_le _,rfl,f0,ab D8,ab hL,ab (fun j hj=>by omega),ab (Below.refl _ _),ab (fun _ _ _ _ h=>h),ab (fun _ _ _ _ h=>h)⟩
 case round=>
  clear D8 hL;obtain ⟨k,hk,rfl,f,HC,dI,lx,HB,nP,kS⟩:=hrel;have q0:=mL.o_ wr HC.o_.hK;by_cases ao:k<m
  ·have bd:(k:Int)<(m:Int):=by omega
   generalize Ju:wr=wo at HB HC nP kS q0;go_wp2;go_loopw [4] (fun x wr=>∃q:Nat,q≤L k∧x= .int .i64 q∧∃f,Hid (Ax 78 22 5 wr B K cs a0 c0 vs m f)∧Hid (∀j,(f j).length=L j)∧Hid (∀j,j<k→f j=kR sm (L j) j)∧Hid ((f k).take q=kR sm q k)∧Hid (Below B w wr)∧Hid (cA 3 1 w wr)∧Hid (cA 25 1 w wr)) (fun x _=>L k - (intOf x).toNat)
   case atStart=>exact ⟨0,Nat.zero_le _,rfl,f,HC,dI,lx,ab rfl,HB,nP,kS⟩
   case round=>
    clear HB HC nP kS q0;obtain ⟨q,hq,rfl,f2,ek,D7,FN,tI,aY,No,Np⟩:=hrel;obtain ⟨v,ev,ho⟩:=ek.o_.each k ao;obtain ⟨ad,c,rfl⟩:=bF ho;have hl:=D7.o_ k;rw [hl] at ev ho;have fb:=ek.o_.r0;obtain ⟨g0,lK⟩:=et fb (by omega);rw [lK] at fb;have r0:=fb.cellAt k (by omega);rw [ev] at r0;have q2:=mL.o_ wr ek.o_.hK;have Nl:B≤wr.heap.size:=by have:=aY.o_.size;omega
    have Jv:=rp ho;unfold maxLen at Jv;clear dI lx;by_cases xG:q<L k
    ·obtain ⟨g,rfl⟩:=et ho (by omega);have nW:=ho.frozenAt q;obtain ⟨uq,Nn⟩:∃u,(f2 k)[q]? =some u:=⟨_,List.getElem?_eq_getElem (by omega)⟩
     have aoD:wr.cell? ⟨g,q,none⟩=some uq:=by rw [ho.cellAt q (by omega)];exact Nn
     obtain ⟨iz,B5,aoE⟩:=ek.o_.store (by decide) (by decide) uQ.o_ q (sm k) ao ev;have Nk:=aY.o_.grown B5 Nl (fun j hj=>by have:=Option.some.inj hj;omega);have qQ:Hid (((fun x=>if x=k then (f2 k).set q (sm k) else f2 x) k).take (q+1)=kR sm (q+1) k):=by
      exact abD
     have fy:Hid (∀j,((fun x=>if x=k then (f2 k).set q (sm k) else f2 x) j).length=L j):=by
      intro j;by_cases hj:j=k
      ·subst hj;simp [hl]
      ·simp only [hj,if_false];exact D7.o_ j
     have Jq:Hid (∀j,j<k→(fun x=>if x=k then (f2 k).set q (sm k) else f2 x) j=kR sm (L j) j):=by
      intro j hj;simp only [show j≠k by omega,if_false];exact FN.o_ j hj
     have eR:=ab iz;have abH:=ab Nk;have Jr:Hid (cA 3 1 w (wr.setCell ⟨g,q,none⟩ (sm k))):=ab (No.o_.trans (cA.grown ho B5 (by decide)));have Js:Hid (cA 25 1 w (wr.setCell ⟨g,q,none⟩ (sm k))):=ab (Np.o_.trans (cA.grown ho B5 (by decide)));exact abG
    ·have abC:q=L k:=by omega
     have Jq:Hid (∀j,j<k+1→f2 j=kR sm (L j) j):=by
      exact abB
     exact abI
  ·obtain rfl:k=m:=by omega
   obtain ⟨H,hH⟩:=ai wr.heap.size;have hC:=HC.o_;have hG:vQ sm Tg Th 78 22 5 wr B K H cs a0 c0 vs [] k L 0:=by
    exact abF
   have aoF:K<H:=by rw [←hH];exact (Array.getElem?_eq_some_iff.1 hC.hK).1
   have bd:¬((k:Int)<(k:Int)):=by omega
   have Tl:B≤H:=by omega
   have xO:=World.ownsRow_nil wr H 22 1;have D9:=ab hG;have D_:=ab xO;have Ea:H≤wr.heap.size:=by omega
   generalize Ju:wr=wo at HB D9 D_ Ea nP kS q0 hC hG xO hH;clear hC dI lx Ju hG xO HC hH;go_wp2;go_loopw [5,6] (fun g i wr=>∃j:Nat,j≤k∧i= .int .i64 j∧∃gs ag cg,gs.length=j∧g= .slice ag j cg∧Hid (wr.ownsRow H 22 1 (.slice ag j cg) j gs)∧Hid (vQ sm Tg Th 78 22 5 wr B K H cs a0 c0 vs gs k L j)∧Hid (Below B w wr)∧H≤wr.heap.size∧Hid (cA 3 1 w wr)∧Hid (cA 25 1 w wr)) (fun _ i _=>k - (intOf i).toNat)
   case atStart=>exact ⟨0,Nat.zero_le _,rfl,[],none,0,rfl,rfl,D_,D9,HB,Ea,nP,kS⟩
   case round=>
    clear D_ D9 HB Ea nP kS;obtain ⟨j,hj,rfl,gs,ag,cg,qm,rfl,Aw,HG,HB,hH,nP,kS⟩:=hrel;by_cases ij:j<k
    ·obtain ⟨v,ev,ho,Nf⟩:=HG.o_.old j (Nat.le_refl _) ij;obtain ⟨ad,c,rfl⟩:=bF ho;have fb:=HG.o_.r0;obtain ⟨g0,lK⟩:=et fb (by omega);rw [lK] at fb;have r0:=fb.cellAt j (by omega);rw [ev] at r0;have q2:=mL.o_ wr HG.o_.hK;have aoG:=HL.o_ j;have lz:(j:Int)<(k:Int):=by omega
     have aoH:(j:Int)<400:=by omega
     subst lK;have Jw:=nP.o_;have sk:=kS.o_;clear q0 fb;go_wp2_with (at_builtin;go_must (refine Nd (by rfl) (.tmp 58) (.tmp 62) 22 (by rfl) B 5 (.int .u8 0) 1 underlying22 Tryz.cJ rfl _ _ _ _ rfl (World.ownsRow.alloc ho _) _ _ _ rfl (cO _ _ _ 1 1 rfl) rfl (by unfold maxLen;omega) (by omega) (by simp;omega) ?_));intro uP c1 w1 bQ Jx;have Eb:=Jx.alloc;have ch:=Eb.grown.size;clear Jx r0 q2;go_wp2_with (at_builtin;go_must (refine Nd (by rfl) (.tmp 65) (.tmp 69) 22 (by rfl) B 5 (.int .u8 0) 1 underlying22 Tryz.cJ rfl _ _ _ _ rfl (World.ownsRow.alloc bQ _) _ _ _ rfl (cO _ _ _ 1 1 rfl) rfl (by unfold maxLen;omega) (by omega) (by simp;omega) ?_));intro iR c2 w2 ct Jy;have Jz:=Jy.alloc;have ct:w2.ownsRow B 5 1 (.slice iR (L j+2) c2) (L j+2) (kR sm (L j) j++ [Tg j]++ [Th j]):=by rw [List.append_assoc];exact ct
     obtain ⟨om,halt⟩:=abq ho Eb bQ Jz ct;have vR:=HG.o_.step (by decide) (by decide) uQ.o_ ij qm hH ev om ct halt;have rn:=(cA.grown (te:=22) ho om (by decide)) _ _ _ _ Aw.o_;have ah:=HB.o_.grown om (by omega) (fun q hq=>(ho.lt q hq).1);have Nq:=Jw.trans (cA.grown (te:=3) (s:=1) ho om (by decide));have Nr:=sk.trans (cA.grown (te:=25) (s:=1) ho om (by decide));have bt:=om.size;clear ct Jy Eb Jz bQ ho halt HG Aw HB nP kS Jw sk;go_wp2_with (at_builtin;go_must (refine j9 (by rfl) (.tmp 64) (.tmp 71) 74 (by rfl) H 22 (.slice none 0 0) 1 24 underlying74 Tryz.S6 rfl (by decide) _ _ _ _ rfl (World.ownsRow.alloc rn _) _ _ _ _ rfl (cO _ _ _ 1 1 rfl) (JD _ _ _) (by simp) (by unfold maxLen;omega) (by omega) (by simp;omega) ?_));intro abK abL w3 Dj cB;have tn:=eG cB (gq vR.hK) (dU vR.hK rn (by decide));have vV:=cY (vR.r0.alloc _) cB (fun q hq hc=>by have:=vR.hH q hq;have:=(rn.lt q hc.symm).1;omega);have js:eF 5 w2 w3:=(eF.below ((Below.refl _ _).alloc (Nat.le_refl _) _)).trans (eF.grown (rn.alloc _) cB (by decide));have Tk:=vR.later tn vV js;have an:=bC (ah.alloc (by omega) _) cB (by simp;omega) ((bN (gF:=B) rn Tl).alloc _);have Jr:Hid (cA 3 1 w w3):=ab ((Nq.trans (cA.below ((Below.refl _ _).alloc (Nat.le_refl _) _))).trans (cA.grown (rn.alloc _) cB (by decide)));have Js:Hid (cA 25 1 w w3):=ab ((Nr.trans (cA.below ((Below.refl _ _).alloc (Nat.le_refl _) _))).trans (cA.grown (rn.alloc _) cB (by decide)));exact abJ
    ·obtain rfl:j=k:=by omega
     exact abM
theorem aoI(B K:Nat)(cs:Array Value)(v0:Value)(ef:cs[4]? =some v0)(vs:List Value)(xs:List (List Value))(w:World)(oJ:B≤K)(hK:w.heap[K]? =some (.cells cs 78 (0,0)))(r0:w.ownsRow B 25 1 v0 xs.length vs)
 (each:∀(i:Nat)(h:i<xs.length),∃v,vs[i]? =some v∧w.ownsRow B 3 1 v xs[i].length xs[i]) (ap:vs.Pairwise fR) (aX:∀p∈xs,p.length≤1000000) (aT:xs.length≤400) (R:Ending→World→Prop)
 (hR:∀w',Below B w w'→w'.heap[K]? =some (.cells cs 78 (0,0))→cA 5 1 w w'→cA 22 1 w w'→R (.returned (.bool true)) w'):
 Calls prog 94 #[.pointer (some ⟨K,0,none⟩)] w R:=by
 obtain ⟨a0,c0,rfl⟩:=bF r0;have D5:=rp r0;unfold maxLen at D5;have Nh:K<w.heap.size:=(Array.getElem?_eq_some_iff.1 hK).1;obtain ⟨m,hm⟩:=ai xs.length;have D8:Ax 78 25 3 w B K cs a0 c0 vs m (fun j=>xs.getD j []):=by
  exact abA
 obtain ⟨f0,FO⟩:∃f:Nat→List Value,f=fun j=>xs.getD j []:=⟨_,rfl⟩
 rw [←FO] at D8;obtain ⟨L,hL⟩:∃L:Nat→Nat,∀j,(f0 j).length=L j:=⟨fun j=>(f0 j).length,fun _=>rfl⟩
 have Jt:∀j,L j≤1000000:=by
  exact abE
 have HL:=ab Jt;have EK:vs.length=m:=by have:=r0.1;omega
 rw [hm] at aT D5;have mj:Hid (cs[4]? =some (.slice a0 m c0)):=by rw [←hm];exact ef
 have aW:∀wx:World,wx.heap[K]? =some (.cells cs 78 (0,0))→wx.cell? ⟨K,4,none⟩=some (.slice a0 m c0):=fun wx h=>by
  rw [af wx K 4 _ _ _ h];exact mj.o_
 have mL:=ab aW;have HR:=ab hR;have uQ:=ab ap;clear hK r0 each FO aX hm Jt ef mj aW hR ap;go_enter func94,ntmps94;go_wp2;go_loopw [3,4] (fun i _ wr=>∃k:Nat,k≤m∧i= .int .i64 k∧∃f,Hid (Ax 78 25 3 wr B K cs a0 c0 vs m f)∧Hid (∀j,(f j).length=L j)∧Hid (∀j,j<k→f j=kR so (L j) j)∧Hid (Below B w wr)∧Hid (cA 5 1 w wr)∧Hid (cA 22 1 w wr)) (fun i _ _=>m - (intOf i).toNat)
 case atStart=>exact ⟨0,Nat.zero_le _,rfl,f0,ab D8,ab hL,ab (fun j hj=>by omega),ab (Below.refl _ _),ab (fun _ _ _ _ h=>h),ab (fun _ _ _ _ h=>h)⟩
 case round=>
  clear D8 hL;obtain ⟨k,hk,rfl,f,HC,dI,lx,HB,nP,kS⟩:=hrel;have q0:=mL.o_ wr HC.o_.hK;by_cases ao:k<m
  ·have bd:(k:Int)<(m:Int):=by omega
   generalize Ju:wr=wo at HB HC nP kS q0;go_wp2;go_loopw [4] (fun x wr=>∃q:Nat,q≤L k∧x= .int .i64 q∧∃f,Hid (Ax 78 25 3 wr B K cs a0 c0 vs m f)∧Hid (∀j,(f j).length=L j)∧Hid (∀j,j<k→f j=kR so (L j) j)∧Hid ((f k).take q=kR so q k)∧Hid (Below B w wr)∧Hid (cA 5 1 w wr)∧Hid (cA 22 1 w wr)) (fun x _=>L k - (intOf x).toNat)
   case atStart=>exact ⟨0,Nat.zero_le _,rfl,f,HC,dI,lx,ab rfl,HB,nP,kS⟩
   case round=>
    clear HB HC nP kS q0;obtain ⟨q,hq,rfl,f2,ek,D7,FN,tI,aY,No,Np⟩:=hrel;obtain ⟨v,ev,ho⟩:=ek.o_.each k ao;obtain ⟨ad,c,rfl⟩:=bF ho;have hl:=D7.o_ k;rw [hl] at ev ho;have fb:=ek.o_.r0;obtain ⟨g0,lK⟩:=et fb (by omega);rw [lK] at fb;have r0:=fb.cellAt k (by omega);rw [ev] at r0;have q2:=mL.o_ wr ek.o_.hK;have Nl:B≤wr.heap.size:=by have:=aY.o_.size;omega
    have Jv:=rp ho;unfold maxLen at Jv;clear dI lx;by_cases xG:q<L k
    ·obtain ⟨g,rfl⟩:=et ho (by omega);have nW:=ho.frozenAt q;obtain ⟨uq,Nn⟩:∃u,(f2 k)[q]? =some u:=⟨_,List.getElem?_eq_getElem (by omega)⟩
     have aoD:wr.cell? ⟨g,q,none⟩=some uq:=by rw [ho.cellAt q (by omega)];exact Nn
     obtain ⟨iz,B5,aoE⟩:=ek.o_.store (by decide) (by decide) uQ.o_ q (so k) ao ev;have Nk:=aY.o_.grown B5 Nl (fun j hj=>by have:=Option.some.inj hj;omega);have qQ:Hid (((fun x=>if x=k then (f2 k).set q (so k) else f2 x) k).take (q+1)=kR so (q+1) k):=by
      exact abD
     have fy:Hid (∀j,((fun x=>if x=k then (f2 k).set q (so k) else f2 x) j).length=L j):=by
      intro j;by_cases hj:j=k
      ·subst hj;simp [hl]
      ·simp only [hj,if_false];exact D7.o_ j
     have Jq:Hid (∀j,j<k→(fun x=>if x=k then (f2 k).set q (so k) else f2 x) j=kR so (L j) j):=by
      intro j hj;simp only [show j≠k by omega,if_false];exact FN.o_ j hj
     have eR:=ab iz;have abH:=ab Nk;have Jr:Hid (cA 5 1 w (wr.setCell ⟨g,q,none⟩ (so k))):=ab (No.o_.trans (cA.grown ho B5 (by decide)));have Js:Hid (cA 22 1 w (wr.setCell ⟨g,q,none⟩ (so k))):=ab (Np.o_.trans (cA.grown ho B5 (by decide)));exact abG
    ·have abC:q=L k:=by omega
     have Jq:Hid (∀j,j<k+1→f2 j=kR so (L j) j):=by
      exact abB
     exact abI
  ·obtain rfl:k=m:=by omega
   obtain ⟨H,hH⟩:=ai wr.heap.size;have hC:=HC.o_;have hG:vQ so Ti Tj 78 25 3 wr B K H cs a0 c0 vs [] k L 0:=by
    exact abF
   have aoF:K<H:=by rw [←hH];exact (Array.getElem?_eq_some_iff.1 hC.hK).1
   have bd:¬((k:Int)<(k:Int)):=by omega
   have Tl:B≤H:=by omega
   have xO:=World.ownsRow_nil wr H 25 1;have D9:=ab hG;have D_:=ab xO;have Ea:H≤wr.heap.size:=by omega
   generalize Ju:wr=wo at HB D9 D_ Ea nP kS q0 hC hG xO hH;clear hC dI lx Ju hG xO HC hH;go_wp2;go_loopw [5,6] (fun g i wr=>∃j:Nat,j≤k∧i= .int .i64 j∧∃gs ag cg,gs.length=j∧g= .slice ag j cg∧Hid (wr.ownsRow H 25 1 (.slice ag j cg) j gs)∧Hid (vQ so Ti Tj 78 25 3 wr B K H cs a0 c0 vs gs k L j)∧Hid (Below B w wr)∧H≤wr.heap.size∧Hid (cA 5 1 w wr)∧Hid (cA 22 1 w wr)) (fun _ i _=>k - (intOf i).toNat)
   case atStart=>exact ⟨0,Nat.zero_le _,rfl,[],none,0,rfl,rfl,D_,D9,HB,Ea,nP,kS⟩
   case round=>
    clear D_ D9 HB Ea nP kS;obtain ⟨j,hj,rfl,gs,ag,cg,qm,rfl,Aw,HG,HB,hH,nP,kS⟩:=hrel;by_cases ij:j<k
    ·obtain ⟨v,ev,ho,Nf⟩:=HG.o_.old j (Nat.le_refl _) ij;obtain ⟨ad,c,rfl⟩:=bF ho;have fb:=HG.o_.r0;obtain ⟨g0,lK⟩:=et fb (by omega);rw [lK] at fb;have r0:=fb.cellAt j (by omega);rw [ev] at r0;have q2:=mL.o_ wr HG.o_.hK;have aoG:=HL.o_ j;have lz:(j:Int)<(k:Int):=by omega
     have aoH:(j:Int)<400:=by omega
     subst lK;have Jw:=nP.o_;have sk:=kS.o_;clear q0 fb;go_wp2_with (at_builtin;go_must (refine Nd (by rfl) (.tmp 57) (.tmp 60) 25 (by rfl) B 3 (.int .i64 0) 8 underlying25 Ta rfl _ _ _ _ rfl (World.ownsRow.alloc ho _) _ _ _ rfl (cO _ _ _ 1 1 rfl) rfl (by unfold maxLen;omega) (by omega) (by simp;omega) ?_));intro uP c1 w1 bQ Jx;have Eb:=Jx.alloc;have ch:=Eb.grown.size;clear Jx r0 q2;go_wp2_with (at_builtin;go_must (refine Nd (by rfl) (.tmp 63) (.tmp 66) 25 (by rfl) B 3 (.int .i64 0) 8 underlying25 Ta rfl _ _ _ _ rfl (World.ownsRow.alloc bQ _) _ _ _ rfl (cO _ _ _ 1 1 rfl) rfl (by unfold maxLen;omega) (by omega) (by simp;omega) ?_));intro iR c2 w2 ct Jy;have Jz:=Jy.alloc;have ct:w2.ownsRow B 3 1 (.slice iR (L j+2) c2) (L j+2) (kR so (L j) j++ [Ti j]++ [Tj j]):=by rw [List.append_assoc];exact ct
     obtain ⟨om,halt⟩:=abq ho Eb bQ Jz ct;have vR:=HG.o_.step (by decide) (by decide) uQ.o_ ij qm hH ev om ct halt;have rn:=(cA.grown (te:=25) ho om (by decide)) _ _ _ _ Aw.o_;have ah:=HB.o_.grown om (by omega) (fun q hq=>(ho.lt q hq).1);have Nq:=Jw.trans (cA.grown (te:=5) (s:=1) ho om (by decide));have Nr:=sk.trans (cA.grown (te:=22) (s:=1) ho om (by decide));have bt:=om.size;clear ct Jy Eb Jz bQ ho halt HG Aw HB nP kS Jw sk;go_wp2_with (at_builtin;go_must (refine j9 (by rfl) (.tmp 62) (.tmp 68) 76 (by rfl) H 25 (.slice none 0 0) 1 24 underlying76 Tryz.Tb rfl (by decide) _ _ _ _ rfl (World.ownsRow.alloc rn _) _ _ _ _ rfl (cO _ _ _ 1 1 rfl) (JD _ _ _) (by simp) (by unfold maxLen;omega) (by omega) (by simp;omega) ?_));intro abK abL w3 Dj cB;have tn:=eG cB (gq vR.hK) (dU vR.hK rn (by decide));have vV:=cY (vR.r0.alloc _) cB (fun q hq hc=>by have:=vR.hH q hq;have:=(rn.lt q hc.symm).1;omega);have js:eF 3 w2 w3:=(eF.below ((Below.refl _ _).alloc (Nat.le_refl _) _)).trans (eF.grown (rn.alloc _) cB (by decide));have Tk:=vR.later tn vV js;have an:=bC (ah.alloc (by omega) _) cB (by simp;omega) ((bN (gF:=B) rn Tl).alloc _);have Jr:Hid (cA 5 1 w w3):=ab ((Nq.trans (cA.below ((Below.refl _ _).alloc (Nat.le_refl _) _))).trans (cA.grown (rn.alloc _) cB (by decide)));have Js:Hid (cA 22 1 w w3):=ab ((Nr.trans (cA.below ((Below.refl _ _).alloc (Nat.le_refl _) _))).trans (cA.grown (rn.alloc _) cB (by decide)));exact abJ
    ·obtain rfl:j=k:=by omega
     exact abM
theorem aoJ(K:Nat)(w:World)(hq:w.cell? ⟨K,2,none⟩=some (.slice none 0 0))(R:Ending→World→Prop)
 (hR:R (.returned (.bool true)) w):
 Calls prog 93 #[.pointer (some ⟨K,0,none⟩)] w R:=by
 go_enter func93,ntmps93;go_wp2;go_loop [3] (fun i=>i= .int .i64 0) (fun _=>0)
 case atStart=>rfl
 case round=>
  obtain rfl:=hrel;go_wp2;go_loop [5,6] (fun g i=>g= .slice none 0 0∧i= .int .i64 0) (fun _ _=>0)
  case atStart=>exact ⟨rfl,rfl⟩
  case round=>
   obtain ⟨rfl,rfl⟩:=hrel;go_wp2;go_loop [8] (fun i=>i= .int .i64 0) (fun _=>0)
   case atStart=>rfl
   case round=>
    obtain rfl:=hrel;go_wp2;exact hR
theorem aoK(B K:Nat)(v0 v1 v4 v5:Value)(vs us ws zs:List Value)(PS:List (List UInt8))(LS:List (List Int))(w:World)(hB:uC w B K v0 v1 v4 v5 vs us ws zs (PS.map bv) (LS.map iv))(eA:∀p∈PS,p.length≤1000000)(nv:∀l∈LS,l.length≤100000)(aT:PS.length≤400)(abN:LS.length≤400)(R:Ending→World→Prop)
 (hR:∀w',Below B w w'→R (.returned (.bool true)) w'):
 Calls prog 28 #[.pointer (some ⟨K,0,none⟩)] w R:=by
 have HR:=ab hR;have HB:=ab hB;have fz:=ab eA;have ku:=ab nv;have dn:=ab aT;have aoL:=ab abN;clear hR hB eA nv aT abN;go_enter func28,ntmps28;go_wp2_with (first
  |(go_at_call 91;go_must (refine aoy B K v0 v1 v4 v5 vs us ws zs PS LS _ HB.o_ ku.o_ _ ?_);intro w1 aw;have bP:=ab (HB.o_.below aw);have Ns:=ab (aw.mono (show B≤w.heap.size from Nat.le_trans HB.o_.oJ (Nat.le_of_lt (Array.getElem?_eq_some_iff.1 HB.o_.hK).1)));clear aw)
  |(go_at_call 92;go_must (refine aoC B K #[v0,v1,.slice none 0 0,.slice none 0 0,v4,v5] v0 rfl vs (PS.map bv) _ bP.o_.oJ bP.o_.hK bP.o_.hb.r0 (fun i hi=>by obtain ⟨v,u,e1,_,e3,_⟩:=bP.o_.hb.each i hi;exact ⟨v,e1,e3⟩) bP.o_.hb.apart (fun p hp=>by obtain ⟨q,hq,rfl⟩:=List.mem_map.1 hp;rw [Ef];exact fz.o_ q hq) (by rw [List.length_map];exact dn.o_) _ ?_);intro w2 ah fA cm kF;have Tm:=ab (Ns.o_.trans ah);have kS:=ab fA;have DW:=ab (bP.o_.hi.aM kF cm);have c2:w2.cell? ⟨K,2,none⟩=some (.slice none 0 0):=af w2 K 2 _ _ _ fA;clear ah fA cm kF)
  |(go_at_call 93;go_must (refine aoJ K _ c2 _ ?_))
  |(go_at_call 94;go_must (refine aoI B K #[v0,v1,.slice none 0 0,.slice none 0 0,v4,v5] v4 rfl ws (LS.map iv) _ bP.o_.oJ kS.o_ DW.o_.r0 (fun i hi=>by obtain ⟨v,u,e1,_,e3,_⟩:=DW.o_.each i hi;exact ⟨v,e1,e3⟩) DW.o_.apart (fun p hp=>by obtain ⟨q,hq,rfl⟩:=List.mem_map.1 hp;have:=ku.o_ q hq;unfold iv;rw [List.length_map];omega) (by rw [List.length_map];exact aoL.o_) _ ?_);intro w3 an _ _ _;have Tn:=ab (Tm.o_.trans an);clear an))
 exact HR.o_ _ Tn.o_
end Go.Proofs.YtgimbocoamnkjaaGreatDoor
