/- A part of the proof of SessionPlays, printed small; no conditions of its own. -/
import Derived.Test.YtgimbocoamnkjaaGreatDoorM02
import Derived.Maps.OwnSet
import Derived.Laws.Rows
import Derived.ArgAppend
set_option maxRecDepth 100000
set_option maxHeartbeats 16000000
namespace Go.Proofs.YtgimbocoamnkjaaGreatDoor
open _root_.Go.Proofs.Tryz
open Nat (add_mul zero_add)
variable{xs:List Value}{B K S e k n size t:Nat}{fr:Nat×Nat}{ad:Option Addr}{v v':Value}{w w':World}
open Go.RowKit
def bf(w:World)(e size:Nat)(v:Value)(n:Nat)(xs:List Value):Prop:=
 xs.length=n*size∧((v= .slice none 0 0∧n=0)∨∃g o c,∃cur:Array Value,v= .slice (some ⟨g,o,none⟩) n c∧w.heap[g]? =some (.cells cur e (0,0))∧n≤c∧c≤maxLen∧o+c*size≤cur.size∧∀j,j<n*size→cur[o+j]? =xs[j]?)
theorem bf.nil(w:World)(e size:Nat):bf w e size (.slice none 0 0) 0 []:=⟨by simp,.inl ⟨rfl,rfl⟩⟩
theorem bf.shape(h:bf w e size v n xs):∃a c,v= .slice a n c:=by
 rcases h.2 with ⟨hv,h0⟩|⟨g,o,c,cur,hv,_⟩
 ·subst h0;exact ⟨_,_,hv⟩
 ·exact ⟨_,_,hv⟩
theorem bf.gW(h:w.ownsRow B e size v n xs):bf w e size v n xs:=by
 refine ⟨h.1,?_⟩;rcases h.2 with hn|⟨g,cap,cur,hv,_,hg,h1,h2,h3,h4⟩
 ·exact .inl hn
 ·refine .inr ⟨g,0,cap,cur,hv,hg,h1,h2,by omega,fun j hj=> ?_⟩;rw [zero_add,←h4,List.getElem?_take,if_pos hj];simp
theorem bf.lt(h:bf w e size v n xs):∀k,v.ownBlock=some k→k<w.heap.size:=by
 intro k hk;rcases h.2 with ⟨rfl,_⟩|⟨g,o,c,cur,rfl,hg,_⟩
 ·simp [Value.ownBlock] at hk
 ·simp only [Value.ownBlock,Option.some.injEq] at hk;subst hk;exact (Array.getElem?_eq_some_iff.1 hg).1
theorem bf.uM(h:bf w e size v n xs)(hb:∀k,v.ownBlock=some k→w'.heap[k]? =w.heap[k]?):bf w' e size v n xs:=by
 refine ⟨h.1,?_⟩;rcases h.2 with hn|⟨g,o,c,cur,rfl,hg,rest⟩
 ·exact .inl hn
 ·exact .inr ⟨g,o,c,cur,rfl,(hb g rfl).trans hg,rest⟩
theorem bf.below(h:bf w e size v n xs)(hb:Below w w w'):bf w' e size v n xs:=h.uM fun k hk=>hb.block k (h.lt k hk)
theorem bf.ne{cs:Array Value}(h:bf w e size v n xs)(hK:w.heap[K]? =some (.cells cs t fr))(ht:t≠e):v.ownBlock≠some K:=by
 intro hc;rcases h.2 with ⟨rfl,_⟩|⟨g,o,c,cur,rfl,hg,_⟩
 ·simp [Value.ownBlock] at hc
 ·simp only [Value.ownBlock,Option.some.injEq] at hc;subst hc;rw [hK] at hg;simp only [Option.some.injEq,Obj.cells.injEq] at hg;exact ht hg.2.1
theorem bf.grown{row:Option Nat}(h:bf w e size v n xs)(hg:w.grownBy w' row)(bh:v.ownBlock≠row∨row=none):bf w' e size v n xs:=h.uM fun k hk=>hg.block k (h.lt k hk) (fun e=>by
 rcases bh with h1|h1
 ·exact h1 (hk.trans e)
 ·rw [h1] at e;cases e)
theorem bf.rd{c:Nat}(h:bf w e size (.slice ad n c) n xs):Rd w size ad n xs:=by
 refine ⟨h.1,fun hn=> ?_⟩;rcases h.2 with ⟨_,h0⟩|⟨g,o,c',cur,hv,hg,h1,h2,h3,h4⟩
 ·subst h0;simp at hn
 ·simp only [Value.slice.injEq] at hv;obtain ⟨rfl,-,rfl⟩:=hv;refine ⟨g,o,rfl,fun j hj=> ?_⟩;rw [af w g (o+j) cur e (0,0) hg,h4 j hj]
theorem bf.cap{c:Nat}(h:bf w e size (.slice ad n c) n xs):n≤c∧c≤maxLen∧(ad=none→c=0):=by
 rcases h.2 with ⟨hv,h0⟩|⟨g,o,c',cur,hv,hg,h1,h2,h3,h4⟩
 ·simp only [Value.slice.injEq] at hv;obtain ⟨rfl,-,rfl⟩:=hv;exact ⟨by omega,Nat.zero_le _,fun _=>rfl⟩
 ·simp only [Value.slice.injEq] at hv;obtain ⟨rfl,-,rfl⟩:=hv;exact ⟨h1,h2,fun h=>by cases h⟩
theorem bf.at{c:Nat}(h:bf w e size (.slice ad n c) n xs)(hn:0<n):∃g o,ad=some ⟨g,o,none⟩∧(∀j,j<n*size→w.cell? ⟨g,o+j,none⟩=xs[j]?)∧∀i,w.frozen? ⟨g,i,none⟩=false:=by
 rcases h.2 with ⟨_,h0⟩|⟨g,o,c',cur,hv,hg,h1,h2,h3,h4⟩
 ·omega
 ·simp only [Value.slice.injEq] at hv;obtain ⟨rfl,-,rfl⟩:=hv;exact ⟨g,o,rfl,fun j hj=>by rw [af w g (o+j) cur e (0,0) hg,h4 j hj],fun i=>frozen_of_row w g i cur e hg⟩
theorem nT(g t:Nat):∀(vs:List Value)(o:Nat)(w:World)(cur:Array Value),w.heap[g]? =some (.cells cur t (0,0))→
 ∃AD:Array Value,(w.setCells g o vs).heap[g]? =some (.cells AD t (0,0))∧AD.size=cur.size∧∀j,AD[j]? =if o≤j∧j<o+vs.length∧j<cur.size then vs[j - o]? else cur[j]?
 |[],o,w,cur,h=>⟨cur,h,rfl,fun j=>by rw [if_neg (by simp;omega)]⟩
 |v::r,o,w,cur,h=>by
  obtain ⟨AD,h1,h2,h3⟩:=nT g t r (o+1) (w.setCell ⟨g,o,none⟩ v) _ (heap_setCell_same w g o cur t v h);refine ⟨AD,h1,by rw [h2];simp,fun j=> ?_⟩;rw [h3 j,Array.getElem?_setIfInBounds];simp only [Array.size_setIfInBounds,List.length_cons];by_cases hj:o=j
  ·subst hj;rw [if_neg (by omega)];by_cases hs:o<cur.size
   ·rw [if_pos rfl,if_pos hs,if_pos (by omega)];simp
   ·rw [if_pos rfl,if_neg hs,if_neg (by omega)];simp [hs]
  ·rw [if_neg hj];by_cases hc:o+1≤j∧j<o+1+r.length∧j<cur.size
   ·rw [if_pos hc,if_pos (by omega),show j - o=(j - (o+1))+1 by omega];simp
   ·rw [if_neg hc,if_neg (by omega)]
theorem pU(g:Nat):∀(vs:List Value)(o:Nat)(w:World),w.grownBy (w.setCells g o vs) (some g)
 |[],_,_=>World.grownBy.refl _ _
 |v::r,o,w=>bO (bL w ⟨g,o,none⟩ v) (pU g r (o+1) _)
def AO(w w':World)(v v':Value):Prop:=(w.grownBy w' v.ownBlock∧v'.ownBlock=v.ownBlock)∨(w.grownBy w' none∧v'.ownBlock=some w.heap.size)
theorem AO.row{cs:Array Value}(h:AO w w' v v')(hr:bf w e size v n xs)(hS:w.heap[S]? =some (.cells cs t fr))(ht:t≠e):w'.heap[S]? =some (.cells cs t fr):=by
 rcases h with ⟨hg,_⟩|⟨hg,_⟩
 ·exact eG hg hS (hr.ne hS ht)
 ·exact eG hg hS (by simp)
section
variable {P:Program} (w:World)
theorem acY(t ty e:TypeId)(i:TypeInfo)(z:Value)(size bytes:Nat)(ht:P.underlying t=some (.slice e))(hi:P.info? e=some i)(hz:i.zero=some z)
 (oN:i.size=size) (oO:i.bytes=bytes) (gp:z.cells.size=size) (bm:0<size)
 (v:Value) (n:Nat) (xs:List Value) (aV:bf w e size v n xs)
 (a:Addr) (m c:Nat) (news:List Value) (hl:news.length=m*size) (lC:∀j u,news[j]? =some u→w.cell? (a.add j)=some u) (h1:∀u∈news,u.oneCell'=true)
 (h63:n+m≤maxLen) (eQ:(n+m) *bytes≤140737488355328) (hm:0<m):
 ∃bq c' w',(Builtin.append_ #[t,t] ty #[v,.slice (some a) m c]).run P w= .ok (.slice bq (n+m) c') w'∧bf w' e size (.slice bq (n+m) c') (n+m) (xs++news)∧AO w w' v (.slice bq (n+m) c'):=by
 have aX:(xs++news).length=(n+m) *size:=by rw [List.length_append,aV.1,hl,add_mul]
 rcases aV.2 with ⟨rfl,rfl⟩|⟨g,o,cap,cur,rfl,hg,sy,AN,dm,bJ⟩
 ·obtain ⟨v',w',hr,h2,h3⟩:=JP (P:=P) w 0 t ty e i z size bytes ht hi hz oN oO gp bm _ 0 xs (by
   have:xs= []:=List.eq_nil_of_length_eq_zero (by have:=aV.1;simpa using this);subst this;exact World.ownsRow_nil _ _ _ _) a m c news hl lC h1 h63 eQ (Nat.zero_le _) hm
  obtain ⟨bq,c',rfl⟩:=bF h2;refine ⟨bq,c',w',hr,.gW h2,?_⟩;obtain ⟨v1,w1,gu,h21,h31,_,h51⟩:=run_append_own_at (P:=P) w 0 t ty e i z size bytes ht hi hz oN oO gp bm (.slice none 0 0) 0 xs (by
   have:xs= []:=List.eq_nil_of_length_eq_zero (by have:=aV.1;simpa using this);subst this;exact World.ownsRow_nil _ _ _ _) a m c news hl lC h1 h63 eQ (Nat.zero_le _)
  rw [hr] at gu;simp only [Result.ok.injEq] at gu;obtain ⟨rfl,rfl⟩:=gu;rcases h51 with h|h
  ·exact .inl ⟨h31,h⟩
  ·exact .inr ⟨h31,h⟩
 ·by_cases zn:n+m≤cap
  ·have xZ:=Nat.mul_le_mul_right size zn;rw [add_mul] at xZ;have aW:∀j,j<news.length→(w.cell? ⟨g,o+n*i.size+j,none⟩).isSome=true:=fun j hj=>by
    rw [af w g _ cur e (0,0) hg,oN,Array.getElem?_eq_getElem (by omega)]
    rfl
   have jw:=run_append_room_cells (P:=P) w t ty e i ht hi g o n cap a m c news (by rw [hl,oN]) lC h1 zn aW (fun j _=>frozen_of_row w g _ cur e hg);obtain ⟨AD,k1,k2,k3⟩:=nT g e news (o+n*i.size) w cur hg;refine ⟨_,_,_,jw,⟨aX,.inr ⟨g,o,cap,AD,rfl,k1,zn,AN,by omega,fun j hj=> ?_⟩⟩,.inl ⟨pU g _ _ _,rfl⟩⟩;rw [k3,oN];rw [add_mul] at hj;by_cases NM:j<n*size
   ·rw [if_neg (by omega),bJ j NM,List.getElem?_append_left (by rw [aV.1];exact NM)]
   ·rw [if_pos (by omega),List.getElem?_append_right (by rw [aV.1];omega),aV.1]
    congr 1
    omega
  ·have Ua:∀j u,xs[j]? =some u→w.cell? ((⟨g,o,none⟩:Addr).add j)=some u:=fun j u hu=>by
    have hj:j<n*size:=by rw [←aV.1];exact (List.getElem?_eq_some_iff.1 hu).1
    rw [Addr.add_lit,af w g _ cur e (0,0) hg,bJ j hj];exact hu
   have jw:=run_append_grow (P:=P) w t ty e i z ht hi hz ⟨g,o,none⟩ n cap xs (by rw [aV.1,oN]) Ua a m c news (by rw [hl,oN]) lC (by omega) (by unfold maxLen at h63;omega) (growslice_fits (by omega) (by rw [oO];exact eQ));obtain ⟨v',w',vV,h4,h5⟩:=run_append_arg_grows (P:=P) w t ty e i z size bytes ht hi hz oN oO gp bm ⟨g,o,none⟩ n cap xs aV.1 Ua a m c news hl lC (by omega) h63 eQ;rw [jw] at vV;simp only [Result.ok.injEq] at vV;obtain ⟨rfl,rfl⟩:=vV;exact ⟨_,_,_,jw,.gW h4,.inr ⟨h5,rfl⟩⟩
end
theorem acZ{P:Program}{o:Oper}{a:Act}{K:Act→World→Prop}{Q:Exit→Act→World→Prop}(s x:Operand)(t:TypeId)
 (ho:o.op= .call {callee:= .builtin .append,args:=#[s,x],argTypes:=#[t,t]})
 (e:TypeId) (z:Value) (size bytes:Nat) (ht:P.underlying t=some (.slice e)) (j8:(P.info? e).map (fun i=>(i.zero,i.size,i.bytes))=some (some z,size,bytes)) (gp:z.cells.size=size) (bm:0<size)
 (v:Value) (n:Nat) (xs:List Value) (hs:a.eval s=v) (aV:bf w e size v n xs)
 (ad:Addr) (m c:Nat) (news:List Value) (hx:a.eval x= .slice (some ad) m c) (bG:Rd w size (some ad) m news) (h1:∀u∈news,u.oneCell'=true)
 (h63:n+m≤maxLen) (eQ:(n+m) *bytes≤140737488355328) (hm:0<m)
 (h:∀bq c' w',bf w' e size (.slice bq (n+m) c') (n+m) (xs++news)→AO w w' v (.slice bq (n+m) c')→K (a.put o.dst (.slice bq (n+m) c')) w'):o.wp P a w K Q:=by
 obtain ⟨i,hi,hz,cQ,gU⟩:=info_parts j8;obtain ⟨b,o',e',hc⟩:=bG.2 (by have:=Nat.mul_pos hm bm;omega);obtain rfl:=Option.some.inj e';obtain ⟨bq,c',w',hr,h2,h3⟩:=acY (P:=P) w t o.type e i z size bytes ht hi hz cQ gU gp bm v n xs aV ⟨b,o',none⟩ m c news bG.1 (by
  intro j q hj;have pT:j<m*size:=by rw [←bG.1];exact (List.getElem?_eq_some_iff.1 hj).1
  rw [Addr.add_lit,hc j pT];exact hj) h1 h63 eQ hm
 exact ND
theorem Ub{P:Program}{ops:Array Oper}{o:Oper}{a:Act}{K:Act→World→Prop}{Q:Exit→Act→World→Prop}{E:Prop}(kT:o.guard=none)(s x:Operand)(t:TypeId)
 (ho:o.op= .call {callee:= .builtin .append,args:=#[s,x],argTypes:=#[t,t]})
 (e:TypeId) (z:Value) (size bytes:Nat) (ht:P.underlying t=some (.slice e)) (j8:(P.info? e).map (fun i=>(i.zero,i.size,i.bytes))=some (some z,size,bytes)) (gp:z.cells.size=size) (bm:0<size)
 (v:Value) (n:Nat) (xs:List Value) (hs:a.eval s=v) (aV:bf w e size v n xs)
 (ad:Addr) (m c:Nat) (news:List Value) (hx:a.eval x= .slice (some ad) m c) (bG:Rd w size (some ad) m news) (h1:∀u∈news,u.oneCell'=true)
 (h63:n+m≤maxLen) (eQ:(n+m) *bytes≤140737488355328) (hm:0<m)
 (h:∀bq c' w',bf w' e size (.slice bq (n+m) c') (n+m) (xs++news)→AO w w' v (.slice bq (n+m) c')→K (a.put o.dst (.slice bq (n+m) c')) w'):
 if Region.wanted o (yielded ops a.tmps)=true then Oper.wp P o a w K Q else E:=by
 have hw:Region.wanted o (yielded ops a.tmps)=true:=by simp [Region.wanted,kT]
 rw [if_pos hw];exact acZ s x t ho e z size bytes ht j8 gp bm v n xs hs aV ad m c news hx bG h1 h63 eQ hm h
theorem bf.from{c:Nat}{i:TypeInfo}(h:bf w e size (.slice ad n c) n xs)(ht:prog.underlying t=some (.slice e))(hi:prog.info? e=some i)(bm:i.size=size)(hk:k≤n):
 ∃ax,(∀w',(Instr.slice t (.slice ad n c) (some (.int .i64 (k:Int))) none none).run prog w'= .ok (.slice ax (n - k) (c - k)) w')∧bf w e size (.slice ax (n - k) (c - k)) (n - k) (xs.drop (k*size))∧(Value.slice ax (n - k) (c - k)).ownBlock=(Value.slice ad n c).ownBlock:=by
 have he:prog.elem t=e:=by simp [Program.elem,ht]
 have aX:(xs.drop (k*size)).length=(n - k) *size:=by rw [List.length_drop,h.1,Nat.sub_mul]
 have iV:=h.cap;refine ⟨if c=k then ad else ad.map (·.add (k*size)),fun w'=> ?_,⟨aX,?_⟩,?_⟩
 ·rw [run_slice_l (P:=prog) w' _ ad n c (by rw [he];exact ht) .i64 k (by omega) (by omega),he];simp [sizeOf,typeInfo,hi,bm,sliced]
 ·rcases h.2 with ⟨hv,h0⟩|⟨g,o,c',cur,hv,hg,h1,h2,h3,h4⟩
  ·simp only [Value.slice.injEq] at hv;obtain ⟨rfl,-,rfl⟩:=hv;refine .inl ⟨?_,by omega⟩;have:k=0:=by omega
   subst this h0;simp
  ·simp only [Value.slice.injEq] at hv;obtain ⟨rfl,-,rfl⟩:=hv;have xZ:=Nat.mul_le_mul_right size hk;have ap6:=Nat.mul_le_mul_right size h1;refine .inr ⟨g,if c=k then o else o+k*size,c - k,cur,?_,hg,by omega,by omega,?_,fun j hj=> ?_⟩
   ·split
    ·rfl
    ·rw [Option.map_some,Addr.add_lit]
   ·rw [Nat.sub_mul]
    split<;>omega
   ·rw [Nat.sub_mul] at hj;rw [List.getElem?_drop]
    split
    ·have:n=k:=by omega
     subst this
     omega
    ·rw [Nat.add_assoc];exact h4 _ (by omega)
 ·cases ad with
  |none=>split<;>rfl
  |some a=>
   split
   ·rfl
   ·simp only [Option.map_some,Value.ownBlock,Option.some.injEq];unfold Addr.add
    split<;>rfl
variable{N m:Nat}
theorem Tryz.Ce:Maps.Keyed prog 3:=Maps.int_keyed underlying3
theorem Tryz.ac0(w:World):(zeroValue 161).run prog w= .ok (.agg #[]) w:=by kernel_rfl
def h_(n:Int):Prop:= -9223372036854775808≤n∧n≤9223372036854775807
theorem h_.key{n:Int}(h:h_ n):keyOf prog 3 (.int .i64 n)=some (.int .i64 n):=Maps.keyOf_int_mk underlying3 (WalkArith.wf_i64 h)
structure Nu(w:World)(m:Nat)(l:List Int):Prop where
 nd:l.Nodup
 rg:∀x∈l,1≤x∧x≤65535
 ex:∃D:DataW Unit,w.ownsMap prog 3 unitElem m l.length D∧(∀n:Int,Maps.has D (.int .i64 n)=l.contains n)∧Maps.size D=l.length
theorem ac1{H:Type}{P:Program}{k:TypeId}{R:Value→Option (DataW H×List MemPlace)}{b:Nat}{D:DataW H}(h:w.ownsMap P k R b n D)(e:w'.heap[b]? =w.heap[b]?):w'.ownsMap P k R b n D:=by
 obtain ⟨es,clock,hb,r⟩:=h;exact ⟨es,clock,e.trans hb,r⟩
theorem Uc{H:Type}{P:Program}{k:TypeId}{R:Value→Option (DataW H×List MemPlace)}{b:Nat}{D:DataW H}(h:w.ownsMap P k R b n D):w.ownsMap P k R b (Maps.size D) D:=by
 obtain ⟨es,clock,hb,F,_,rfl⟩:=h;refine ⟨es,clock,hb,F,?_,rfl⟩;rw [Maps.size_eq,length_sorted];simp
theorem Nu.lt{l:List Int}(h:Nu w m l):m<w.heap.size:=by
 obtain ⟨D,h1,_⟩:=h.ex;exact h1.lt
theorem Nu.uM{l:List Int}(h:Nu w m l)(e:w'.heap[m]? =w.heap[m]?):Nu w' m l:=by
 obtain ⟨D,h1,h2⟩:=h.ex;exact ⟨h.nd,h.rg,D,ac1 h1 e,h2⟩
theorem Nu.below{l:List Int}(h:Nu w m l)(hb:Below w w w'):Nu w' m l:=h.uM (hb.block m h.lt)
theorem Nu.put{l:List Int}{D:DataW Unit}{d:Int}(nd:l.Nodup)(rg:∀x∈l,1≤x∧x≤65535)(hD:Maps.Tidy D)(hh:∀n:Int,Maps.has D (.int .i64 n)=l.contains n)(hs:Maps.size D=l.length)
 (h:w'.ownsMap prog 3 unitElem m n (D.put (.int .i64 d) (.agg []))) (h1:1≤d∧d≤65535) (hd:l.contains d=false):Nu w' m (l++ [d]):=by
 have bh:d∉l:=by simpa using hd
 have bm:Maps.size (D.put (.int .i64 d) (.agg []))=(l++ [d]).length:=by
  rw [Maps.size_put hD,hh,hd,hs];simp
 refine ⟨?_,?_,_,?_,fun n=> ?_,bm⟩
 ·rw [List.nodup_append];exact ⟨nd,by simp,fun a ha b hb=>by
   obtain rfl:=List.mem_singleton.1 hb;exact fun e=>bh (e▸ha)⟩
 ·intro x hx;rcases List.mem_append.1 hx with h|h
  ·exact rg x h
  ·obtain rfl:=List.mem_singleton.1 h;exact h1
 ·rw [←bm];exact Uc h
 ·by_cases e:n=d
  ·subst e;rw [Maps.has_put_same hD.isMap (show WideAt.IsKeyLit (.int .i64 n) from trivial)];simp
  ·rw [Maps.has_put_other (by simpa using e),hh];simp [e]
theorem Nu.del{l:List Int}{D:DataW Unit}{d:Int}(nd:l.Nodup)(rg:∀x∈l,1≤x∧x≤65535)(hD:Maps.Tidy D)(hh:∀n:Int,Maps.has D (.int .i64 n)=l.contains n)(hs:Maps.size D=l.length)
 (h:w'.ownsMap prog 3 unitElem m n (D.del (.int .i64 d))):Nu w' m (l.erase d):=by
 have bm:Maps.size (D.del (.int .i64 d))=(l.erase d).length:=by
  have:=Maps.size_del (k:= .int .i64 d) hD;rw [hh,hs] at this;rw [List.length_erase];cases hc:l.contains d with
  |true=>
   rw [hc] at this;have hm:d∈l:=by simpa using hc
   simp only [if_true,hm] at this⊢
   omega
  |false=>
   rw [hc] at this;have hm:d∉l:=by simpa using hc
   simp only [hm,if_false] at this⊢
   simpa using this
 refine ⟨nd.erase d,fun x hx=>rg x (List.mem_of_mem_erase hx),_,?_,fun n=> ?_,bm⟩
 ·rw [←bm];exact Uc h
 ·by_cases e:n=d
  ·subst e;rw [Maps.has_del_same];have:n∉l.erase n:=nd.not_mem_erase;simp [this]
  ·rw [Maps.has_del_other (by simpa using e),hh];have:=List.mem_erase_of_ne (l:=l) e;cases hc:(l.erase d).contains n with
   |true=>simpa using this.1 (by simpa using hc)
   |false=>
    have h1:n∉l.erase d:=by simpa using hc
    have h2:n∉l:=fun h=>h1 (this.2 h);simp [h2]
def St(w:World)(N m:Nat)(l:List Int):Prop:=w.heap[N]? =some (.cells #[.map (some m)] 143 (0,0))∧Nu w m l
theorem St.below{l:List Int}(h:St w N m l)(hb:Below w w w'):St w' N m l:=⟨aA h.1 hb,h.2.below hb⟩
theorem St.ne{l:List Int}(h:St w N m l):N≠m:=by
 rintro rfl;obtain ⟨D,⟨es,clock,hb,_⟩,_⟩:=h.2.ex;rw [h.1] at hb;cases hb
theorem AP(N m:Nat)(l:List Int)(d:Int)(b:Bool)(hb:l.contains d=b)(w:World)(hs:St w N m l)(hd:h_ d)(R:Ending→World→Prop)
 (hR:∀w',Below w w w'→R (.returned (.bool b)) w'):
 Calls prog 115 #[.pointer (some ⟨N,0,none⟩),.int .i64 d] w R:=by
 have HR:=ab hR;obtain ⟨D,hD,hh,_⟩:=hs.2.ex;have c0:w.cell? ⟨N,0,none⟩=some (.map (some m)):=af w N 0 _ _ _ hs.1;have ac2:=ab hd.key;have HH:=ab ((hh d).trans hb);have aL:=(Below.refl w w).alloc (Nat.le_refl _) (Obj.cells #[] 161);clear hs hh hd hb hR;go_enter func115,ntmps115;go_wp2_with (at_lookup;refine wpList_lookup_own_unit _ rfl _ _ 141 rfl 3 161 Tryz.Ce underlying141 (Tryz.ac0 _) m l.length _ rfl hD _ _ rfl ac2.o_ ?_;rw [HH.o_]);exact HR.o_ _ aL
theorem JQ(N m:Nat)(l:List Int)(d:Int)(h1:1≤d)(h2:d≤65535)(hc:l.contains d=false)(hl:l.length≤100000)(w:World)(hs:St w N m l)(R:Ending→World→Prop)
 (hR:∀w',St w' N m (l++ [d])→w.grownBy w' (some m)→R (.returned (.bool true)) w'):
 Calls prog 51 #[.pointer (some ⟨N,0,none⟩),.int .i64 d] w R:=by
 have HR:=ab hR;have HS:=ab hs;clear hR;have hd:h_ d:=⟨by omega,by omega⟩
 have HC:=ab hc;clear hc hs;have g1:¬d<1:=by omega
 have g2:¬65535<d:=by omega
 go_enter func51,ntmps51;go_wp2_with (first
  |(go_at_call 115;go_must (refine AP N m l d false HC.o_ _ HS.o_ hd _ ?_);intro w1 aw;have c0:w1.cell? ⟨N,0,none⟩=some (.map (some m)):=af w1 N 0 _ _ _ (HS.o_.below aw).1;have eR:=ab (HS.o_.below aw))
  |(at_mapUpdate;obtain ⟨D,hD,hh,bm⟩:=eR.o_.2.ex;refine wpList_mapUpdate_own _ rfl _ _ _ 141 rfl 3 161 Tryz.Ce underlying141 (unitElem (H:=Unit)) m l.length _ rfl hD (by unfold maxLen;omega) _ _ _ rfl rfl hd.key _ [] unitElem_mk ?_;intro w5 ed NN;have HX:=ab (Nu.put eR.o_.2.nd eR.o_.2.rg (hD.tidy Tryz.Ce) hh bm ed ⟨h1,h2⟩ HC.o_);have HG:=ab (bO (iT aw (row:=some m)) NN);have HN:=ab (eG NN eR.o_.1 (fun e=>eR.o_.ne (Option.some.inj e).symm));clear ed NN hh bm hD))
 exact HR.o_ _ ⟨HN.o_,HX.o_⟩ HG.o_
theorem Ud(N m:Nat)(l:List Int)(d:Int)(hd:h_ d)(hc:d<1∨65535<d∨l.contains d=true)(w:World)(hs:St w N m l)(R:Ending→World→Prop)
 (hR:∀w',Below w w w'→R (.returned (.bool false)) w'):
 Calls prog 51 #[.pointer (some ⟨N,0,none⟩),.int .i64 d] w R:=by
 have HR:=ab hR;have HS:=ab hs;clear hR;clear hs;by_cases g1:d<1
 ·clear hc;go_enter func51,ntmps51;go_wp2;exact HR.o_ _ (Below.refl _ _)
 by_cases g2:65535<d
 ·clear hc;go_enter func51,ntmps51;go_wp2;exact HR.o_ _ (Below.refl _ _)
 have HC:Hid (l.contains d=true):=by
  rcases hc with h|h|h
  ·omega
  ·omega
  ·exact h
 clear hc;go_enter func51,ntmps51;go_wp2_with (go_at_call 115;go_must (refine AP N m l d true HC.o_ _ HS.o_ hd _ ?_);intro w1 aw);exact HR.o_ _ aw
theorem Ue(N m:Nat)(l:List Int)(d:Int)(hd:h_ d)(b:Bool)(hb:l.contains d=b)(w:World)(hs:St w N m l)(R:Ending→World→Prop)
 (hR:∀w',St w' N m (l.erase d)→w.grownBy w' (some m)→R (.returned (.bool b)) w'):
 Calls prog 106 #[.pointer (some ⟨N,0,none⟩),.int .i64 d] w R:=by
 have HR:=ab hR;have HS:=ab hs;clear hR;have HB:=ab hb;clear hs hb;go_enter func106,ntmps106;go_wp2_with (first
  |(go_at_call 115;go_must (refine AP N m l d b HB.o_ _ HS.o_ hd _ ?_);intro w1 aw;have c0:w1.cell? ⟨N,0,none⟩=some (.map (some m)):=af w1 N 0 _ _ _ (HS.o_.below aw).1;have eR:=ab (HS.o_.below aw))
  |(at_delete;obtain ⟨D,hD,hh,bm⟩:=eR.o_.2.ex;refine wpList_delete_own _ rfl _ _ 141 3 rfl 161 Tryz.Ce underlying141 (unitElem (H:=Unit)) m l.length _ rfl hD _ _ rfl hd.key ?_;intro w5 ed NO;have HX:=ab (Nu.del eR.o_.2.nd eR.o_.2.rg (hD.tidy Tryz.Ce) hh bm ed);have HG:=ab (bO (iT aw (row:=some m)) NO.grown);have HN:=ab (eG NO.grown eR.o_.1 (fun e=>eR.o_.ne (Option.some.inj e).symm));clear ed NO hh bm hD))
 exact HR.o_ _ ⟨HN.o_,HX.o_⟩ HG.o_
theorem ac3(l:List Int):∃d:Nat,1≤d∧d≤l.length+1∧l.contains (d:Int)=false∧∀j:Nat,1≤j→j<d→l.contains (j:Int)=true:=by
 have hex:∃d:Nat,1≤d∧l.contains (d:Int)=false∧d≤l.length+1:=by
  apply Classical.byContradiction;intro sA;have iW:∀d:Nat,1≤d→d≤l.length+1→(d:Int)∈l:=fun d h1 h2=>by
   apply Classical.byContradiction;intro hm;exact sA ⟨d,h1,by simpa using hm,h2⟩
  have Er:(List.range (l.length+1)).map (fun (i:Nat)=>((i+1:Nat):Int)) ⊆ l:=by
   intro x hx;obtain ⟨i,hi,rfl⟩:=List.mem_map.1 hx;exact iW (i+1) (by omega) (by have:=List.mem_range.1 hi;omega)
  have Uf:((List.range (l.length+1)).map (fun (i:Nat)=>((i+1:Nat):Int))).Nodup:=by
   refine List.Pairwise.map _ (fun a b ap7=> ?_) List.nodup_range;show ((a+1:Nat):Int)≠((b+1:Nat):Int)
   omega
  have:=Uf.length_le_of_subset Er;simp at this
  omega
 have key:∀n:Nat,(∃d:Nat,1≤d∧l.contains (d:Int)=false∧d≤n)→∃d:Nat,1≤d∧d≤n∧l.contains (d:Int)=false∧∀j:Nat,1≤j→j<d→l.contains (j:Int)=true:=by
  intro n
  induction n with
  |zero=>
   rintro ⟨d,h1,_,h3⟩
   omega
  |succ n ih=>
   intro h;by_cases hs:∃d:Nat,1≤d∧l.contains (d:Int)=false∧d≤n
   ·obtain ⟨d,h1,h2,h3,h4⟩:=ih hs;exact ⟨d,h1,by omega,h3,h4⟩
   ·obtain ⟨d,h1,h2,h3⟩:=h;refine ⟨d,h1,h3,h2,fun j q1 q2=> ?_⟩;cases hc:l.contains (j:Int) with
    |true=>rfl
    |false=>exact absurd ⟨j,q1,hc,by omega⟩ hs
 exact key _ hex
theorem ac4(N m:Nat)(l:List Int)(d:Nat)(h1:1≤d)(h2:d≤65535)(hc:l.contains (d:Int)=false)(iW:∀j:Nat,1≤j→j<d→l.contains (j:Int)=true)(hl:l.length≤100000)(w:World)(hs:St w N m l)(R:Ending→World→Prop)
 (hR:∀w',St w' N m (l++ [(d:Int)])→w.grownBy w' (some m)→R (.returned (.tuple #[.int .i64 d,.bool true])) w'):
 Calls prog 41 #[.pointer (some ⟨N,0,none⟩)] w R:=by
 have HS:=ab hs;have HC:=ab hc;have HA:=ab iW;have HR:=ab hR;clear hs hc iW hR;go_enter func41,ntmps41;go_wp2;go_loopg [4] (d - 1) (fun gn i wr=>∃k:Nat,1≤k∧k≤d∧gn=d - k∧i= .int .i64 k∧Below w w wr)
 case atStart=>exact ⟨1,Nat.le_refl _,h1,by omega,rfl,Below.refl _ _⟩
 case round=>
  obtain ⟨k,ib,hk,rfl,rfl,hb⟩:=hrel;obtain ⟨wo,rfl⟩:∃x,x=wr:=⟨_,rfl⟩
  have lD:(k:Int)≤65535:=by omega
  have ac5:h_ (k:Int):=⟨by omega,by omega⟩
  by_cases ao:k<d
  ·have HK:=ab (HA.o_ k ib ao);go_wp2_with (go_at_call 51;go_must (refine Ud N m l (k:Int) ac5 (.inr (.inr HK.o_)) _ (HS.o_.below hb) _ ?_);intro w1 aw;have aI:=aD hb aw hb.size);go_roundg (d - (k+1))
   case measure=>omega
   case rel=>exact ⟨k+1,by omega,by omega,rfl,by go_num,aI⟩
  ·obtain rfl:k=d:=by omega
   go_wp2_with (go_at_call 51;go_must (refine JQ N m l (k:Int) (by omega) lD HC.o_ hl _ (HS.o_.below hb) _ ?_);intro w1 ch iX;have eR:=ab ch;have El:=ab (bO (iT hb (row:=some m)) iX);clear ch iX);exact HR.o_ _ eR.o_ El.o_
theorem JR(w:World)(R:Ending→World→Prop)
 (hR:∀N m w',St w' N m []→w.heap.size≤N→w.heap.size≤m→Below w w w'→R (.returned (.pointer (some ⟨N,0,none⟩))) w'):
 Calls prog 35 #[.slice none 0 0] w R:=by
 have tC:= @run_makeMap prog;have HR:=ab hR;clear hR;go_enter func35,ntmps35;go_wp2;go_loopg [11] 0 (fun gn i wr=>i= .int .i64 0∧wr=(w.alloc (.map #[] 0)).alloc (.cells #[.map (some w.heap.size)] 143))
 case atStart=>exact ⟨rfl,rfl⟩
 case round=>
  obtain ⟨rfl,rfl⟩:=hrel;go_wp2;have hm:=(World.ownsMap_made w prog 3 (unitElem (H:=Unit))).alloc (.cells #[.map (some w.heap.size)] 143);refine HR.o_ (w.heap.size+1) w.heap.size _ ⟨?_,.nil,(fun x hx=>by simp at hx),_,hm,(fun n=>by simp [Maps.has_eq]),rfl⟩ (by omega) (Nat.le_refl _) (((Below.refl _ _).alloc (Nat.le_refl _) _).alloc (by simp) _);have:=heap_alloc_new (w.alloc (.map #[] 0)) (.cells #[.map (some w.heap.size)] 143)
  simpa using this
open List (drop_append drop_of_length_le nil_append)
open Nat (succ_mul)
variable{x:Im}{GB GM MB NB:Nat}{M M':Nat→Prop}{fv pv qv sv:Value}
structure Sb where
 filter:List UInt8
 al:Int
 lE:Bool
 lF:Bool
 jx:Int
 id:Int
deriving DecidableEq
structure Fl where
 id:Int
 state:Int
 item:Im
deriving DecidableEq
structure aF where
 dC:List UInt8
 cP:Int
 ends:Int
 eB:Bool
 ay:List Sb
 queue:List Im
 aj:List Fl
 cj:List Int
 aH:List Int
theorem jQ{α:Type}(C:Nat)(f:α→List Value)(hf:∀x,(f x).length=C):∀(l:List α)(i j:Nat)(hi:i<l.length),j<C→(l.flatMap f)[i*C+j]? =(f l[i])[j]?
 |[],i,j,hi,hj=>by simp at hi
 |x::l,0,j,hi,hj=>by
  rw [List.flatMap_cons,Nat.zero_mul,zero_add,List.getElem?_append_left (by rw [hf];omega)]
  rfl
 |x::l,i+1,j,hi,hj=>by
  rw [List.flatMap_cons,List.getElem?_append_right (by rw [hf,succ_mul];omega),hf,show (i+1) *C+j - C=i*C+j by rw [succ_mul];omega,jQ C f hf l i j (by simpa using hi) hj]
  rfl
theorem eS{α:Type}(C:Nat)(f:α→List Value)(hf:∀x,(f x).length=C):∀l:List α,(l.flatMap f).length=l.length*C
 |[]=>by simp
 |x::l=>by
  rw [List.flatMap_cons,List.length_append,hf,eS C f hf l,List.length_cons,succ_mul]
  omega
theorem AQ{α:Type}(C:Nat)(f:α→List Value)(hf:∀x,(f x).length=C):∀(l:List α)(k:Nat),(l.flatMap f).drop (k*C)=(l.drop k).flatMap f
 |l,0=>by simp
 |[],k+1=>by simp
 |x::l,k+1=>by
  rw [List.flatMap_cons,List.drop_succ_cons,←AQ C f hf l k,drop_append,drop_of_length_le (by rw [hf,succ_mul];omega),hf,nil_append]
  congr 1
  rw [succ_mul]
  omega
theorem vW{α:Type}(C:Nat)(f:α→List Value)(hf:∀x,(f x).length=C):∀(l:List α)(k:Nat),(l.flatMap f).take (k*C)=(l.take k).flatMap f
 |l,0=>by simp
 |[],k+1=>by simp
 |x::l,k+1=>by
  rw [List.flatMap_cons,List.take_succ_cons,List.flatMap_cons,←vW C f hf l k,List.take_append,List.take_of_length_le (by rw [hf,succ_mul];omega),hf]
  congr 2
  rw [succ_mul]
  omega
abbrev V3:=Value×Value×Value
def cL(p:V3×Im):List Value:= [.string (str p.2.note.aJ),p.1.1,.int .i64 p.2.note.al,.bool p.2.note.aE,.string (str p.2.note.src),.int .i64 p.2.note.aN,p.1.2.1,.int .i64 p.2.note.origin,.int .i64 p.2.note.number,.int .i64 p.2.note.aQ,.int .i64 p.2.al,.bool p.2.aM,p.1.2.2,.string (str p.2.share)]
theorem my(p:V3×Im):(cL p).length=14:=rfl
def bH(p:V3×Fl):List Value:= .int .i64 p.2.id:: .int .i64 p.2.state::cL (p.1,p.2.item)
theorem iY(p:V3×Fl):(bH p).length=16:=rfl
def aP(x:Sb):List Value:= [.string (str x.filter),.int .i64 x.al,.bool x.lE,.bool x.lF,.int .i64 x.jx,.int .i64 x.id]
theorem fT(x:Sb):(aP x).length=6:=rfl
def bA(w:World)(b:Nat):Nat:=match w.heap[b]? with
 |some (.cells _ t _)=>t+2
 |some (.map _ _)=>1
 |_=>0
theorem jR{b:Nat}{cs:Array Value}(h:w.heap[b]? =some (.cells cs t fr)):bA w b=t+2:=by
 unfold bA;rw [h]
theorem eI(h:w.ownsRow B e size v n xs):∀k,v.ownBlock=some k→bA w k=e+2:=by
 intro k hk;rcases h.2 with ⟨rfl,_⟩|⟨g,cap,cur,rfl,_,hg,_⟩
 ·simp [Value.ownBlock] at hk
 ·simp only [Value.ownBlock,Option.some.injEq] at hk;subst hk;exact jR hg
def vX(k:Nat):Prop:=k≠5+2∧k≠147+2∧k≠3+2
def Wr(w:World)(M:Nat→Prop):Nat→Prop:=fun b=>M b∨(vX (bA w b)∧∃m,M m∧m≤b)
theorem Sep.wr(h:Sep M M' w w'):Sep (Wr w M) (Wr w' M') w w':=
 ⟨h.os,h.tape,h.output,h.size,fun b hb hn=>h.block b hb (fun hm=>hn (.inl hm)),fun b hb=>by
  by_cases ao:b<w.heap.size
  ·rcases hb with hb|⟨hk,m,hm,gy⟩
   ·rcases h.new b hb with h1|h1
    ·exact .inl (.inl h1)
    ·exact .inr h1
   ·by_cases hM:M b
    ·exact .inl (.inl hM)
    ·refine .inl (.inr ⟨?_,m,?_,gy⟩)
     ·have e:bA w' b=bA w b:=by
       unfold bA;rw [h.block b ao hM]
      rw [←e];exact hk
     ·rcases h.new m hm with h1|h1
      ·exact h1
      ·omega
  ·exact .inr (by omega),fun F ⟨m,hm,hl⟩=>by
  rcases hm with hm|⟨_,m2,gJ,gy⟩
  ·obtain ⟨m3,h3,l3⟩:=h.fl F ⟨m,hm,hl⟩;exact ⟨m3,.inl h3,l3⟩
  ·obtain ⟨m3,h3,l3⟩:=h.fl F ⟨m2,gJ,Nat.le_trans gy hl⟩;exact ⟨m3,.inl h3,l3⟩⟩
theorem dJ.wr{iv:Value}(h:dJ w B pv qv iv x)(hM:∀b,M b→b<B):Safe (Wr w M) w fun y=>dJ y B pv qv iv x:=fun M' w' s=>by
 have key:∀{e size n:Nat}{v:Value}{xs:List Value},¬vX (e+2)→w.ownsRow B e size v n xs→w'.ownsRow B e size v n xs:=fun he ho=>TZ ho (fun k hk hm=>by
  rcases hm with hm|⟨hm,_⟩
  ·have:=(ho.lt k hk).1;have:=hM k hm
   omega
  ·rw [eI ho k hk] at hm;exact he hm) M' w' s
 obtain ⟨ds,hd,hr,he,ha⟩:=h.q;exact ⟨key (by unfold vX;decide) h.p,⟨ds,hd,key (by unfold vX;decide) hr,fun i hi=>key (by unfold vX;decide) (he i hi),ha⟩,key (by unfold vX;decide) h.i⟩
def db(w:World)(M:Nat→Prop)(c:V3)(x:Im):Prop:=Safe (Wr w M) w (fun y=>gH y c.1 c.2.1 c.2.2 x)∧gb x
theorem db.sep{c:V3}(h:db w M c x)(s:Sep M M' w w'):db w' M' c x:=⟨h.1.sep s.wr,h.2⟩
theorem db.Ug{c:V3}(h:db w M c x):∀u∈cL (c,x),u.oneCell'=true:=by
 obtain ⟨⟨a,b,e⟩,⟨a1,b1,e1⟩,a2,b2,e2⟩:=h.1.o_.shape;intro u hu;simp only [cL,e,e1,e2,List.mem_cons,List.not_mem_nil,or_false] at hu;rcases hu with rfl|rfl|rfl|rfl|rfl|rfl|rfl|rfl|rfl|rfl|rfl|rfl|rfl|rfl<;>rfl
theorem Uh:gb ⟨⟨[],[],0,false,[],0,[],0,0,0⟩,0,false,[],[]⟩:=⟨⟨by simp,by simp,by simp,by simp,by simp,by decide⟩,by simp,by simp,by decide⟩
def x0(w:World)(M:Nat→Prop)(v:Value)(l:List Im):Prop:=
 ∃ps:List (V3×Im),ps.map (·.2)=l∧bf w 36 14 v l.length (ps.flatMap cL)∧(∀p∈ps,db w M p.1 p.2)∧∀k,v.ownBlock=some k→M k
def x9(w:World)(M:Nat→Prop)(v:Value)(l:List Fl):Prop:=
 ∃ps:List (V3×Fl),ps.map (·.2)=l∧w.ownsRow 0 51 16 v l.length (ps.flatMap bH)∧(∀p∈ps,db w M p.1 p.2.item)∧∀k,v.ownBlock=some k→M k
theorem bf.kind(h:bf w e size v n xs):∀k,v.ownBlock=some k→bA w k=e+2:=by
 intro k hk;rcases h.2 with ⟨rfl,_⟩|⟨g,o,c,cur,rfl,hg,_⟩
 ·simp [Value.ownBlock] at hk
 ·simp only [Value.ownBlock,Option.some.injEq] at hk;subst hk;exact jR hg
theorem Nu.kind{l:List Int}(h:Nu w m l):bA w m=1:=by
 obtain ⟨D,⟨es,ck,hb,_⟩,_⟩:=h.ex;unfold bA;rw [hb]
theorem St.kinds{l:List Int}(h:St w N m l):bA w N=143+2∧bA w m=1:=⟨jR h.1,h.2.kind⟩
theorem St.sB{l:List Int}(h:St w N m l)(h1:w'.heap[N]? =w.heap[N]?)(h2:w'.heap[m]? =w.heap[m]?):St w' N m l:=⟨h1.trans h.1,h.2.uM h2⟩
theorem x0.sep{l:List Im}(h:x0 w M v l)(s:Sep M M' w w')(hb:∀k,v.ownBlock=some k→w'.heap[k]? =w.heap[k]?)(hM:∀k,v.ownBlock=some k→M' k):x0 w' M' v l:=by
 obtain ⟨ps,h1,h2,h3,_⟩:=h;exact ⟨ps,h1,h2.uM hb,fun p hp=>(h3 p hp).sep s,hM⟩
theorem j_(h:w.ownsRow B e size v n xs)(hb:∀k,v.ownBlock=some k→w'.heap[k]? =w.heap[k]?):w'.ownsRow B e size v n xs:=by
 refine ⟨h.1,?_⟩;rcases h.2 with hn|⟨g,cap,cur,rfl,hbg,hg,rest⟩
 ·exact .inl hn
 ·exact .inr ⟨g,cap,cur,rfl,hbg,(hb g rfl).trans hg,rest⟩
theorem x9.sep{l:List Fl}(h:x9 w M v l)(s:Sep M M' w w')(hb:∀k,v.ownBlock=some k→w'.heap[k]? =w.heap[k]?)(hM:∀k,v.ownBlock=some k→M' k):x9 w' M' v l:=by
 obtain ⟨ps,h1,h2,h3,_⟩:=h;exact ⟨ps,h1,j_ h2 hb,fun p hp=>(h3 p hp).sep s,hM⟩
theorem x0.kind{l:List Im}(h:x0 w M v l):∀k,v.ownBlock=some k→bA w k=36+2:=by
 obtain ⟨ps,h1,h2,_⟩:=h;exact h2.kind
theorem x9.kind{l:List Fl}(h:x9 w M v l):∀k,v.ownBlock=some k→bA w k=51+2:=by
 obtain ⟨ps,h1,h2,_⟩:=h;exact eI h2
theorem x0.own{l:List Im}(h:x0 w M v l):∀k,v.ownBlock=some k→M k:=by
 obtain ⟨ps,_,_,_,h4⟩:=h;exact h4
theorem x9.own{l:List Fl}(h:x9 w M v l):∀k,v.ownBlock=some k→M k:=by
 obtain ⟨ps,_,_,_,h4⟩:=h;exact h4
structure SX(w:World)(M:Nat→Prop)(S NB MB GB GM:Nat)(sv qv fv:Value)(s:aF):Prop where
 hS:w.heap[S]? =some (.cells #[.pointer (some ⟨NB,0,none⟩),.string (str s.dC),.int .i64 s.cP,.int .i64 s.ends,.bool s.eB,sv,qv,fv,.pointer (some ⟨GB,0,none⟩)] 94 (0,0))
 hn:St w NB MB s.cj
 hg:St w GB GM s.aH
 hs:w.ownsRow 0 64 6 sv s.ay.length (s.ay.flatMap aP)
 hq:x0 w M qv s.queue
 hf:x9 w M fv s.aj
 nb:NB≠GB
 nm:MB≠GM
 mS:M S
 mN:M MB
 mG:M GM
 ms:∀k,sv.ownBlock=some k→M k
 oP:¬M NB
 oQ:¬M GB
 lt:∀b,M b→b<w.heap.size
def SR(w:World)(M:Nat→Prop)(S:Nat)(s:aF):Prop:=∃NB MB GB GM sv qv fv,SX w M S NB MB GB GM sv qv fv s
theorem SX.below{s:aF}(h:SX w M S NB MB GB GM sv qv fv s)(hb:Below w w w'):SX w' M S NB MB GB GM sv qv fv s where
 hS:=aA h.hS hb
 hn:=h.hn.below hb
 hg:=h.hg.below hb
 hs:=aK h.hs hb
 hq:=h.hq.sep (.cU hb) (fun k hk=>hb.block k (h.lt k (h.hq.own k hk))) h.hq.own
 hf:=h.hf.sep (.cU hb) (fun k hk=>hb.block k (h.lt k (h.hf.own k hk))) h.hf.own
 nb:=h.nb
 nm:=h.nm
 mS:=h.mS
 mN:=h.mN
 mG:=h.mG
 ms:=h.ms
 oP:=h.oP
 oQ:=h.oQ
 lt:=fun b hm=>Nat.lt_of_lt_of_le (h.lt b hm) hb.size
theorem SR.below{s:aF}(h:SR w M S s)(hb:Below w w w'):SR w' M S s:=by
 obtain ⟨NB,MB,GB,GM,sv,qv,fv,hx⟩:=h;exact ⟨NB,MB,GB,GM,sv,qv,fv,hx.below hb⟩
theorem SX.parts{s:aF}(h:SX w M S NB MB GB GM sv qv fv s)(K:Nat)(hg:w.grownBy w' (some K))(hM:∀b,M b→M' b)(hs:Sep M M' w w'):
 (bA w K≠94+2→w'.heap[S]? =w.heap[S]?)∧(K≠MB→bA w K≠143+2→St w' NB MB s.cj)∧(K≠GM→bA w K≠143+2→St w' GB GM s.aH)∧
 (bA w K≠64+2→w'.ownsRow 0 64 6 sv s.ay.length (s.ay.flatMap aP))∧(bA w K≠36+2→x0 w' M' qv s.queue)∧(bA w K≠51+2→x9 w' M' fv s.aj):=by
 have key:∀b,b<w.heap.size→b≠K→w'.heap[b]? =w.heap[b]?:=fun b hb bh=>hg.block b hb (fun e=>bh (Option.some.inj e));have eJ:∀{b t:Nat}{fr:Nat×Nat}{cs:Array Value},w.heap[b]? =some (.cells cs t fr)→b<w.heap.size:=fun h=>(Array.getElem?_eq_some_iff.1 h).1;refine ⟨fun hk=>key S (eJ h.hS) (fun e=>hk (e▸jR h.hS)),fun bh hk=>h.hn.sB (key _ (eJ h.hn.1) (fun e=>hk (e▸h.hn.kinds.1))) (key _ h.hn.2.lt (fun e=>bh e.symm)),
  fun bh hk=>h.hg.sB (key _ (eJ h.hg.1) (fun e=>hk (e▸h.hg.kinds.1))) (key _ h.hg.2.lt (fun e=>bh e.symm)),
  fun hk=>j_ h.hs fun k dK=>key k (h.lt k (h.ms k dK)) (fun e=>hk (e▸eI h.hs k dK)),
  fun hk=>h.hq.sep hs (fun k dK=>key k (h.lt k (h.hq.own k dK)) (fun e=>hk (e▸h.hq.kind k dK))) (fun k dK=>hM k (h.hq.own k dK)),
  fun hk=>h.hf.sep hs (fun k dK=>key k (h.lt k (h.hf.own k dK)) (fun e=>hk (e▸h.hf.kind k dK))) (fun k dK=>hM k (h.hf.own k dK))⟩
def bB(_:Sb):Zt:=Zt.a
instance ap8{x:Sb}:CoeDep Zt (bB x) (Array Value):=⟨#[.string (str x.filter),.int .i64 x.al,.bool x.lE,.bool x.lF,.int .i64 x.jx,.int .i64 x.id]⟩
instance ap9{x:Sb}:CoeDep Zt (bB x) (List Value):=⟨[.string (str x.filter),.int .i64 x.al,.bool x.lE,.bool x.lF,.int .i64 x.jx,.int .i64 x.id]⟩
theorem Ui{P:Prop}(h:P:=by
 simp only [aP,List.mem_cons,List.not_mem_nil,or_false] at hu;rcases hu with rfl|rfl|rfl|rfl|rfl|rfl<;>rfl):P:=h
theorem Uj{P:Prop}(h:P:=by
 rcases ha with ⟨_,e⟩|⟨_,e⟩
 ·exact .inl (h.hq.own k (e▸hk))
 ·rw [e] at hk;cases hk;exact .inr (Nat.le_refl _)):P:=h
theorem Uk{P:Prop}(h:P:=by
 refine ⟨M',aI,ch.trans (.kn (bL w1 ⟨S,6,none⟩ bK) (fun k hk=>by cases hk;exact .inl h.mS)),fun b hb=> .inl hb,?_⟩;refine Lo.ac6 ?_ S bK;rcases ha with h1|⟨h1,h2⟩
 ·exact .inl h1
 ·exact .inr ⟨h1,h2⟩):P:=h
theorem JS{P:Prop}(h:P:=by
 rw [jR ((bh _ (eJ h.hg.1) (by rw [h.hg.kinds.1];decide)).trans h.hg.1)] at h1
 revert h1
 decide):P:=h
theorem JT{P:Prop}(h:P:=by
 rw [jR ((bh _ (eJ h.hn.1) (by rw [h.hn.kinds.1];decide)).trans h.hn.1)] at h1
 revert h1
 decide):P:=h
theorem Ul{P:Prop}(h:P:=by
 rcases ha with ⟨hg,e⟩|⟨hg,e⟩
 ·cases hv:qv.ownBlock with
  |none=>exact ⟨w.heap.size,uK (by rw [hv] at hg;exact hg),.inr (Nat.le_refl _)⟩
  |some k=>exact ⟨k,by rw [hv] at hg;exact hg,.inl ⟨h.hq.own k hv,AR k hv⟩⟩
 ·exact ⟨w.heap.size,uK hg,.inr (Nat.le_refl _)⟩):P:=h
theorem Es{P:Prop}(h:P:=by
 have e:=bh b hb k1;have aw:bA w1 b=bA w b:=by unfold bA;rw [e]
 exact (aM b (Nat.lt_of_lt_of_le hb hg.size) (by rw [aw];exact k2)).trans e):P:=h
variable{ec j:Nat}{s s':aF}{a d f dp h bK eN:Value}{w1:World}
theorem sC:(prog.info? 36).map (fun i=>(i.zero,i.size,i.bytes))=some (some (Value.agg a_),14,184):=by kernel_rfl
theorem x_:(prog.info? 51).map (fun i=>(i.zero,i.size,i.bytes))=some (some (Value.agg lT),16,200):=by kernel_rfl
theorem SX.set(h:SX w M S NB MB GB GM sv qv fv s)(j:Nat)(u:Value)
 (hS:(w.setCell ⟨S,j,none⟩ u).heap[S]? =some (Obj.cells #[.pointer (some ⟨NB,0,none⟩),.string (str s'.dC),.int .i64 s'.cP,.int .i64 s'.ends,.bool s'.eB,eN,bK,dp,.pointer (some ⟨GB,0,none⟩)] 94))
 (e1:s'.cj=s.cj) (e2:s'.aH=s.aH) (hs:(w.setCell ⟨S,j,none⟩ u).ownsRow 0 64 6 sv s.ay.length (s.ay.flatMap aP)→(w.setCell ⟨S,j,none⟩ u).ownsRow 0 64 6 eN s'.ay.length (s'.ay.flatMap aP)) (vY:eN=sv)
 (hq:x0 (w.setCell ⟨S,j,none⟩ u) M bK s'.queue) (hf:x9 (w.setCell ⟨S,j,none⟩ u) M dp s'.aj):SX (w.setCell ⟨S,j,none⟩ u) M S NB MB GB GM eN bK dp s':=by
 have hg:=bL w ⟨S,j,none⟩ u;have hk:=jR h.hS;have hp:=h.parts S hg (M':=M) (fun _ hm=>hm) (.kn hg (fun k hk=>by cases hk;exact h.mS));refine ⟨hS,?_,?_,hs (hp.2.2.2.1 (by rw [hk];decide)),hq,hf,h.nb,h.nm,h.mS,h.mN,h.mG,fun k dK=>h.ms k (vY▸dK),h.oP,h.oQ,fun b hb=> ?_⟩
 ·rw [e1];exact hp.2.1 (fun e=>by have:=h.hn.kinds.2;rw [←e,hk] at this;omega) (by rw [hk];decide)
 ·rw [e2];exact hp.2.2.1 (fun e=>by have:=h.hg.kinds.2;rw [←e,hk] at this;omega) (by rw [hk];decide)
 ·have:=h.lt b hb
  simpa [World.setCell] using this
def Lo(S:Nat)(w w':World)(v v':Value):Prop:=∀B,B≤S→B≤w.heap.size→(∀k,v.ownBlock=some k→B≤k)→Below B w w'∧∀k,v'.ownBlock=some k→B≤k
theorem Lo.refl(S:Nat)(w:World)(v:Value):Lo S w w v v:=fun _ _ _ hv=>⟨.refl _ _,hv⟩
theorem Lo.below{Ca:World}(hb:Below w w w')(h:Lo S w' Ca v v'):Lo S w Ca v v':=fun B h1 h2 h3=>by
 obtain ⟨k1,k2⟩:=h B h1 (Nat.le_trans h2 hb.size) h3;exact ⟨(hb.mono h2).trans k1,k2⟩
theorem Lo.ac6(ha:(w.grownBy w1 v.ownBlock∧v'.ownBlock=v.ownBlock)∨(w.grownBy w1 none∧v'.ownBlock=some w.heap.size))(S:Nat)(u:Value):Lo S w (w1.setCell ⟨S,j,none⟩ u) v v':=fun B h1 h2 h3=>by
 have bM:=ry (B:=B) (bL w1 ⟨S,j,none⟩ u);rcases ha with ⟨hg,e⟩|⟨hg,e⟩
 ·have hb:=ry hg h2 h3;exact ⟨hb.trans (bM (Nat.le_trans h2 hg.size) (fun k hk=>by cases hk;exact h1)),fun k hk=>h3 k (e▸hk)⟩
 ·have hb:=ry hg h2 (fun k hk=>by cases hk);exact ⟨hb.trans (bM (Nat.le_trans h2 hg.size) (fun k hk=>by cases hk;exact h1)),fun k hk=>by
   rw [e] at hk;cases hk;exact h2⟩
theorem SX.push{ps:List (V3×Im)}{c:V3}(h:SX w M S NB MB GB GM sv qv fv s)(aT:ps.map (·.2)=s.queue)(aS:∀p∈ps,db w M p.1 p.2)(hx:db w M c x)
 (hr:bf w1 36 14 bK (s.queue.length+1) (ps.flatMap cL++cL (c,x))) (ha:AO w w1 qv bK) (AR:∀k,qv.ownBlock=some k→bA w k=36+2):
 ∃M',SX (w1.setCell ⟨S,6,none⟩ bK) M' S NB MB GB GM sv bK fv {s with queue:=s.queue++ [x]}∧Sep M M' w (w1.setCell ⟨S,6,none⟩ bK)∧(∀b,M b→M' b)∧Lo S w (w1.setCell ⟨S,6,none⟩ bK) qv bK:=by
 obtain ⟨K,hg,hK⟩:∃K,w.grownBy w1 (some K)∧(M K∧bA w K=36+2∨w.heap.size≤K):=by
  exact Ul
 have ju:∀k,bK.ownBlock=some k→M k∨w.heap.size≤k:=fun k hk=>by
  exact Uj
 have Cf:∀k,bK.ownBlock=some k→k<w1.heap.size:=hr.lt
 let M':Nat→Prop:=fun b=>M b∨bK.ownBlock=some b
 have ch:Sep M M' w w1:=⟨hg.os,hg.tape,hg.output,hg.size,fun b hb hM=>hg.block b hb (fun e=>by
  have e:=Option.some.inj e;rcases hK with ⟨hk,_⟩|hk
  ·exact hM (e▸hk)
  ·omega),fun b hb=>by
  rcases hb with hb|hb
  ·exact .inl hb
  ·exact ju b hb,fun F ⟨m,hm,hl⟩=>⟨m,.inl hm,hl⟩⟩
 have bh:∀b,b<w.heap.size→bA w b≠36+2→w1.heap[b]? =w.heap[b]?:=fun b hb hk=>hg.block b hb (fun e=>by
  have e:=Option.some.inj e;rcases hK with ⟨_,fA⟩|fA
  ·exact hk (e▸fA)
  ·omega)
 have eJ:∀{b t:Nat}{fr:Nat×Nat}{cs:Array Value},w.heap[b]? =some (.cells cs t fr)→b<w.heap.size:=fun h=>(Array.getElem?_eq_some_iff.1 h).1;have iz:=(bh S (eJ h.hS) (by rw [jR h.hS];decide)).trans h.hS;have ib:bA w1 S=94+2:=jR iz;have aI:SX (w1.setCell ⟨S,6,none⟩ bK) M' S NB MB GB GM sv bK fv {s with queue:=s.queue++ [x]}:=by
  have bM:=bL w1 ⟨S,6,none⟩ bK;have bt:Sep M' M' w1 (w1.setCell ⟨S,6,none⟩ bK):= .kn bM (fun k hk=>by cases hk;exact .inl h.mS);have aM:∀b,b<w1.heap.size→bA w1 b≠94+2→(w1.setCell ⟨S,6,none⟩ bK).heap[b]? =w1.heap[b]?:=fun b hb hk=>bM.block b hb (fun e=>hk (Option.some.inj e▸ib));have both:∀b,b<w.heap.size→bA w b≠36+2→bA w b≠94+2→(w1.setCell ⟨S,6,none⟩ bK).heap[b]? =w.heap[b]?:=fun b hb k1 k2=>by
   exact Es
  refine ⟨?_,h.hn.sB (both _ (eJ h.hn.1) (by rw [h.hn.kinds.1];decide) (by rw [h.hn.kinds.1];decide)) (both _ h.hn.2.lt (by rw [h.hn.kinds.2];decide) (by rw [h.hn.kinds.2];decide)),
   h.hg.sB (both _ (eJ h.hg.1) (by rw [h.hg.kinds.1];decide) (by rw [h.hg.kinds.1];decide)) (both _ h.hg.2.lt (by rw [h.hg.kinds.2];decide) (by rw [h.hg.kinds.2];decide)),
   j_ h.hs (fun k hk=>both k (h.lt k (h.ms k hk)) (by rw [eI h.hs k hk];decide) (by rw [eI h.hs k hk];decide)),?_,
   h.hf.sep (ch.trans bt) (fun k hk=>both k (h.lt k (h.hf.own k hk)) (by rw [h.hf.kind k hk];decide) (by rw [h.hf.kind k hk];decide)) (fun k hk=> .inl (h.hf.own k hk)),
   h.nb,h.nm,.inl h.mS,.inl h.mN,.inl h.mG,fun k hk=> .inl (h.ms k hk),?_,?_,?_⟩
  ·rw [heap_setCell_same w1 S 6 _ _ _ iz]
   rfl
  ·refine ⟨ps++ [(c,x)],by rw [List.map_append,aT];rfl,?_,fun p hp=> ?_,fun k hk=> .inr hk⟩
   ·rw [List.flatMap_append];have:=hr.grown bM (.inl (hr.ne iz (by decide)))
    simpa using this
   ·rcases List.mem_append.1 hp with hp|hp
    ·exact ((aS p hp).sep ch).sep bt
    ·obtain rfl:=List.mem_singleton.1 hp;exact (hx.sep ch).sep bt
  ·rintro (hm|hm)
   ·exact h.oP hm
   ·have h1:=hr.kind NB hm;exact JT
  ·rintro (hm|hm)
   ·exact h.oQ hm
   ·have h1:=hr.kind GB hm;exact JS
  ·rintro b (hb|hb)
   ·have:=h.lt b hb;have:=hg.size;simp only [World.setCell,Array.size_modify]
    omega
   ·have:=Cf b hb
    simpa [World.setCell] using this
 exact Uk
theorem dy{b c e g i:Value}(hS:w.heap[S]? =some (.cells #[a,b,c,d,e,f,g,h,i] t fr)):
 (w.cell? ⟨S,0,none⟩=some a∧w.cell? ⟨S,1,none⟩=some b∧w.cell? ⟨S,2,none⟩=some c∧w.cell? ⟨S,3,none⟩=some d∧w.cell? ⟨S,4,none⟩=some e)∧w.cell? ⟨S,5,none⟩=some f∧w.cell? ⟨S,6,none⟩=some g∧w.cell? ⟨S,7,none⟩=some h∧w.cell? ⟨S,8,none⟩=some i:=
 ⟨⟨af w S 0 _ _ _ hS,af w S 1 _ _ _ hS,af w S 2 _ _ _ hS,af w S 3 _ _ _ hS,af w S 4 _ _ _ hS⟩,af w S 5 _ _ _ hS,af w S 6 _ _ _ hS,af w S 7 _ _ _ hS,af w S 8 _ _ _ hS⟩
theorem zp{a c e:ByteArray}{i j k l m n:Int}{b q:Bool}(pa qa ea:Option Addr)(pn pc qn qc:Nat){en:Nat}:∀u∈ [Value.string a,.slice pa pn pc,.int .i64 i,.bool b,.string c,.int .i64 j,.slice qa qn qc,.int .i64 k,.int .i64 l,.int .i64 m,.int .i64 n,.bool q,.slice ea en ec,.string e],u.oneCell'=true:=by
 intro u hu;simp only [List.mem_cons,List.not_mem_nil,or_false] at hu;rcases hu with rfl|rfl|rfl|rfl|rfl|rfl|rfl|rfl|rfl|rfl|rfl|rfl|rfl|rfl<;>rfl
theorem ac7(S:Nat)(s:aF)(v:Array Value)(w:World)(M:Nat→Prop)(h:SR w M S s)(hl:8≤s.queue.length)(nU:s.queue.length≤100000)(R:Ending→World→Prop)
 (hR:∀w',Below w w w'→R (.returned (.bool false)) w'):
 Calls prog 8 #[.pointer (some ⟨S,0,none⟩),.agg v] w R:=by
 obtain ⟨NB,MB,GB,GM,sv,qv,fv,hx⟩:=h;have HR:=ab hR;obtain ⟨qa,qc,rfl⟩:∃a c,qv= .slice a s.queue.length c:=by
  obtain ⟨ps,_,h2,_⟩:=hx.hq;exact h2.shape
 have aL:Below w w (w.alloc (.cells v 36)):=(Below.refl _ _).alloc (Nat.le_refl _) _;have bu:=ab aL;have c6:=(dy (hx.below aL).hS).2.2.1;have NP:(8:Int)≤(s.queue.length:Int):=by omega
 clear hR hx aL;go_enter func8,ntmps8;go_wp2;exact HR.o_ _ bu.o_
theorem Um(S NB MB GB GM:Nat)(sv qv fv:Value)(s:aF)(x:Im)(pv qw ev:Value)(w:World)(M:Nat→Prop)(hx:SX w M S NB MB GB GM sv qv fv s)(hl:s.queue.length<8)(hc:gH w pv qw ev x)(hB:gb x)(R:Ending→World→Prop)
 (hR:∀M' bK w',SX w' M' S NB MB GB GM sv bK fv {s with queue:=s.queue++ [x]}→Sep M M' w w'→(∀b,M b→M' b)→Lo S w w' qv bK→R (.returned (.bool true)) w'):
 Calls prog 8 #[.pointer (some ⟨S,0,none⟩),(Value.agg (pS x pv qw ev))] w R:=by
 have HR:=ab hR;have HC:=ab hc;have qL:=ab hB;obtain ⟨⟨pa,pc,rfl⟩,⟨qa,qc,rfl⟩,ea,ec,rfl⟩:=hc.shape;obtain ⟨va,vc,rfl⟩:∃a c,qv= .slice a s.queue.length c:=by
  obtain ⟨ps,_,h2,_⟩:=hx.hq;exact h2.shape
 obtain ⟨n,hn⟩:=ai s.queue.length;rw [hn] at hx hl;have HX:=ab hx;have HN:=ab hn;clear hR hB hc hx hn;have NP:¬(8:Int)≤(n:Int):=by omega
 have aL:Below w w (w.alloc (Obj.cells (aG x pa pc qa qc ea ec) 36)):=(Below.refl _ _).alloc (Nat.le_refl _) _;have bu:=ab aL;have Cg:=ab (heap_alloc_new w (Obj.cells (aG x pa pc qa qc ea ec) 36));have c6:=(dy (HX.o_.below aL).hS).2.2.1;clear aL;go_enter func8,ntmps8;go_wp2_with fail;clear c6;generalize w.alloc (Obj.cells (aG x pa pc qa qc ea ec) 36)=w1 at bu Cg⊢;have iU:Below w w w1.drew:=bu.o_.drew;have vZ:=ab (HX.o_.below iU);have gg:=ab (HC.o_.below iU);have c6:=(dy vZ.o_.hS).2.2.1;obtain ⟨⟨i0,i1,i2,i3,i4,i5,i6⟩,i7,i8,i9,i10,i11,i12,i13⟩:=sx (w:=w1.drew) Cg.o_;obtain ⟨ps,aT,aq,aS,aV⟩:=vZ.o_.hq;rw [HN.o_] at aq;have dn:=ab aT;have aU:=ab aq;have gK:=ab aS;clear aT aq aS aV;go_region_law (first
  |(go_simp;go_at_call 37;refine AL x _ _ _ w1.drew gg.o_ qL.o_ _ ?_;intro xV xW xX xY F1 F2 w3 bD an;have Ch:=cell_later an c6;have jS:Below w3 w3 (w3.alloc (Obj.cells (aG x xV xW xX xY F1 F2) 36)):=(Below.refl _ _).alloc (Nat.le_refl _) _;have ac8:=cell_later jS Ch;have ak:=dw an jS;have eT:=vZ.o_.below ak;have rA:=aU.o_.below ak)
  |refine Ub (by rfl) (.tmp 15) (.tmp 18) 52 (by rfl) 36 (Value.agg a_) 14 184 underlying52 sC rfl (by decide) (.slice va n vc) n _ (by rfl) rA ⟨w3,0,none⟩ 1 1 (aG x xV xW xX xY F1 F2) (by rfl) (cO w3 (aG x xV xW xX xY F1 F2) 36 14 1 rfl) (zp _ _ _ _ _ _ _) (by unfold maxLen;omega) (by omega) (by omega) ?_;intro F3 c5 w5 gz Ci;have r5:=Ci.row rA eT.hS (by decide);have ac9:=(dy r5).2.2.1;have f65:=aB r5 6)
 all_goals
  have oR:db (w3.alloc (Obj.cells (aG x xV xW xX xY F1 F2) 36)) M (.slice xV x.note.az.length xW,.slice xX x.note.props.length xY,.slice F1 x.ids.length F2) x:=⟨(((bD.wr vZ.o_.lt).sep (Sep.wr (.cU jS))).imp fun y hy=>hy.c qL.o_),qL.o_⟩
  obtain ⟨M',iI,iJ,AS,F4⟩:=SX.push eT dn.o_ (fun p hp=>(gK.o_ p hp).sep (.cU ak)) oR (by rw [HN.o_];exact gz) Ci rA.kind;have Un:Sep M M' w _:=(Sep.cU (aD iU ak iU.size)).trans iJ;have pV:=ab iI;have ada:=ab Un;have NQ:=ab AS;have iK:=ab (F4.below (aD iU ak iU.size));clear oR iI iJ Un AS F4 r5 ac9 f65 Ci gz rA eT ak ac8 jS Ch an bD i0 i1 i2 i3 i4 i5 i6 i7 i8 i9 i10 i11 i12 i13 c6 iU;go_wp2_with fail;exact HR.o_ M' _ _ pV.o_ ada.o_ NQ.o_ (by rw [HN.o_];exact iK.o_)
theorem adb(S:Nat)(s:aF)(x:Im)(pv qw ev:Value)(w:World)(M:Nat→Prop)(h:SR w M S s)(hl:s.queue.length<8)(hc:gH w pv qw ev x)(hB:gb x)(R:Ending→World→Prop)
 (hR:∀M' w',SR w' M' S {s with queue:=s.queue++ [x]}→Sep M M' w w'→R (.returned (.bool true)) w'):
 Calls prog 8 #[.pointer (some ⟨S,0,none⟩),(Value.agg (pS x pv qw ev))] w R:=by
 obtain ⟨NB,MB,GB,GM,sv,qv,fv,hx⟩:=h;exact Um S NB MB GB GM sv qv fv s x pv qw ev w M hx hl hc hB R fun M' bK w' h1 h2 _ _=>hR M' w' ⟨NB,MB,GB,GM,sv,bK,fv,h1⟩ h2
open Nat (add_zero)
theorem ade{P:Program}(w:World)(b o:Nat)(ty:TypeId)(cs:List Value)(d:TypeDesc)(hc:∀j,j<cs.length→w.cell? ⟨b,o+j,none⟩=cs[j]?)
 (hu:P.underlying ty=some d) (hd:(match d with| .struct _| .array _ _=>true|_=>false)=true) (hi:(P.info? ty).map (·.size)=some cs.length):
 (loadVar ty ⟨b,o,none⟩).run P w= .ok (.agg cs.toArray) w:=by
 have hl:(loadCells ⟨b,o,none⟩ cs.length).run P w= .ok cs.toArray w:=
  run_loadCells_list (P:=P) w ⟨b,o,none⟩ cs (fun j v hv=>by
   rw [Addr.add_lit,hc j (List.getElem?_eq_some_iff.1 hv).1];exact hv)
 cases hq:P.info? ty with
 |none=>simp [hq] at hi
 |some i=>
  have hs:i.size=cs.length:=by simpa [hq] using hi
  have adf:(isAgg ty).run P w= .ok true w:=by
   unfold isAgg;rw [Sem.run_bind,run_underlying hu w];cases d<;>simp_all
  simp [loadVar,Sem.run_bind,adf,sizeOf,typeInfo,hq,hs,hl]
theorem ie{P:Program}{ops:Array Oper}{rest:List Oper}{o:Oper}{a:Act}{Q:Exit→Act→World→Prop}(kT:o.guard=none)(ty:TypeId)(x:Operand)(ho:o.op= .load ty x)
 (b off:Nat) (hx:a.eval x= .pointer (some ⟨b,off,none⟩)) (cs:List Value) (d:TypeDesc) (hc:∀j,j<cs.length→w.cell? ⟨b,off+j,none⟩=cs[j]?)
 (hu:P.underlying ty=some d) (hd:(match d with| .struct _| .array _ _=>true|_=>false)=true) (hi:(P.info? ty).map (·.size)=some cs.length)
 (h:wpList P ops Q rest (a.put o.dst (.agg cs.toArray)) w):wpList P ops Q (o::rest) a w:=
 wpList_plain kT fun K hK=>by
  unfold Oper.wp execOp;simp only [ho,hx,Instr.loadAt,Instr.sureAddr,Sem.run_bind,Sem.run_pure,Result.andThen_ok,ade w b off ty cs d hc hu hd hi];exact hK _ _ h
theorem adg{P:Program}(w:World)(b o:Nat)(ty:TypeId)(cells:Array Value)(hc:∀j,j<cells.size→(w.cell? ⟨b,o+j,none⟩).isSome=true)(hf:∀j,j<cells.size→w.frozen? ⟨b,o+j,none⟩=false)(hi:(P.info? ty).map (·.size)=some cells.size)
 (h1:cells.all (·.oneCell')=true):(storeVar ty ⟨b,o,none⟩ (.agg cells)).run P w= .ok () (w.setCells b o cells.toList):=by
 have:=run_storeCells_cells (P:=P) b o cells.toList 0 w (by simpa using hc) (by simpa using hf) (fun v hv=>(Array.all_eq_true_iff_forall_mem.1 h1) v (by simpa using hv));simp only [add_zero] at this;cases hq:P.info? ty with
 |none=>simp [hq] at hi
 |some i=>
  have hs:cells.size=i.size:=by simp [hq] at hi;omega
  simp [storeVar,sizeOf,typeInfo,hq,Value.cells,hs,this]
theorem Et{P:Program}{ops:Array Oper}{rest:List Oper}{o:Oper}{a:Act}{Q:Exit→Act→World→Prop}(kT:o.guard=none)(ty:TypeId)(x y:Operand)(ho:o.op= .store ty x y)
 (b off:Nat) (cells:Array Value) (hx:a.eval x= .pointer (some ⟨b,off,none⟩)) (hy:a.eval y= .agg cells)
 (hc:∀j,j<cells.size→(w.cell? ⟨b,off+j,none⟩).isSome=true) (hf:∀j,j<cells.size→w.frozen? ⟨b,off+j,none⟩=false) (hi:(P.info? ty).map (·.size)=some cells.size) (h1:cells.all (·.oneCell')=true)
 (h:wpList P ops Q rest (a.put o.dst undef) (w.setCells b off cells.toList)):wpList P ops Q (o::rest) a w:=
 wpList_plain kT fun K hK=>by
  unfold Oper.wp execOp;simp only [ho,hx,hy,Instr.storeAt,Instr.sureAddr,Sem.run_bind,Sem.run_pure,Result.andThen_ok,adg w b off ty cells hc hf hi h1];exact hK _ _ h
end Go.Proofs.YtgimbocoamnkjaaGreatDoor
