/- A part of the proof of SessionReads; no conditions. -/
import Derived.WalkKit
import Derived.WalkSpells
import Derived.WalkLawsBesides
import Derived.Lib.Hide
import Derived.Laws.AppendOwnNone
import Derived.Lib.ConvBytes
import Derived.Lib.SlBytesConst
import Derived.Test.YtgimbocoamnkjaaGreatDoorProg
import Derived.Deep.RegionHeld
import Derived.Deep.LoopGhost
import Derived.Shelf.Unicode.ValidAny
import Derived.Lib.ValidU
import Derived.Lib.TrimUEq
import Derived.Lib.MapLaws
import Derived.Deep.QuietTactic
import Derived.BigQuiet
import Derived.Deep.WholeRow
import Derived.Laws.CopyOwn
import Derived.Laws.Append
import Derived.Laws.AppendOwn
import Derived.Maps.AppendAt
import Derived.Deep.RegionLaw
import Derived.Deep.Upon
import Derived.Shelf.SlSortCmp.QuietGrown
import Derived.Laws.Rows
import Derived.ArgAppend
import Derived.Maps.OwnSet
import Derived.Deep.Slices
import Derived.Deep.RegionHeld3
import Derived.Maps.RangeWalk
set_option maxRecDepth 100000
set_option maxHeartbeats 16000000
namespace Go.Proofs.YtgimbocoamnkjaaGreatDoor
open Nat (zero_add)
open Go.RowKit
theorem D{w:World}{g t:Nat}{fr:Nat×Nat}{cs:Array Value}(i:Nat)(h:w.heap[g]? =some (.cells cs t fr)):w.cell? ⟨g,i,none⟩=cs[i]? :=cell_of_row w g i cs t fr h
theorem bj{n:Nat}:n≤n:=Nat.le_refl n
theorem dg{n:Nat}{w:World}:Below n w w:=Below.refl n w
theorem aD(w:World)(o:Obj):Below w.heap.size w (w.alloc o):=(Below.refl _ _).alloc (Nat.le_refl _) o
theorem bq(w:World):Below w.heap.size w w.drew:=(Below.refl _ _).drew
abbrev ak:=Ending→World→Prop
abbrev av:=Option Addr
theorem aK{α:Type}{a b:List α}:(a++b).length=a.length+b.length:=List.length_append
theorem ey{α:Type}{a:α}{b:List α}:(a::b).length=b.length+1:=List.length_cons
theorem gi{α:Type}:([]:List α).length=0:=List.length_nil
theorem bS{α:Type}{i:Nat}{l:List α}:(l.take i).length=min i l.length:=List.length_take
theorem dw{α:Type}{i:Nat}{l:List α}:(l.drop i).length=l.length-i:=List.length_drop
abbrev bO:=@World.ownsRow_nil
abbrev aH:=@heap_alloc_new
abbrev bm:=@heap_setCell_same
abbrev eI:=@Array.getElem?_eq_some_iff
abbrev dW:=@List.getElem?_eq_getElem
abbrev kF:=@List.take_succ_eq_append_getElem
abbrev gy:=@List.take_of_length_le
abbrev eV:=@Nat.lt_of_lt_of_le
abbrev dM:=@List.mem_singleton
abbrev ez:=@List.mem_append
abbrev n_:=@List.eq_nil_of_length_eq_zero
abbrev aJ:=@Nat.le_trans
abbrev bP:=@Nat.zero_le
abbrev jZ:=@List.flatMap_append
abbrev lD:=@List.getElem_of_mem
abbrev qe:=@List.getElem?_eq_some_iff
abbrev kT:=@List.append_assoc
abbrev j0:=@List.length_map
abbrev ml:=@List.getElem?_take
abbrev lT:=@List.flatMap_cons
abbrev lE:=@Nat.le_add_right
abbrev ns:=@Bool.eq_false_iff
abbrev ug:=@List.getElem?_append_left
abbrev nv:=@List.map_append
abbrev xy:=@List.pairwise_iff_getElem
abbrev at5:=@List.drop_of_length_le
abbrev od:=@List.append_nil
abbrev qT:=@List.not_mem_nil
abbrev uh:=@Nat.mul_le_mul_right
abbrev yH:=@List.getElem?_append_right
abbrev at6:=@List.getElem_map
abbrev qU:=@List.length_set
abbrev oO:=@Nat.add_assoc
abbrev xz:=@List.getElem?_eq_none
abbrev yI:=@List.take_append_drop
abbrev dN:=@decide_eq_false
abbrev eN:=@decide_eq_true
theorem bX{p0 p1 p2:Prop}(h0:p0)(h1:p1)(h2:p2):Go.RowKit.Hid p0∧Go.RowKit.Hid p1∧Go.RowKit.Hid p2:=⟨h0,h1,h2⟩
theorem cF{p0 p1 p2 p3:Prop}(h0:p0)(h1:p1)(h2:p2)(h3:p3):Go.RowKit.Hid p0∧Go.RowKit.Hid p1∧Go.RowKit.Hid p2∧Go.RowKit.Hid p3:=⟨h0,h1,h2,h3⟩
theorem jq{p0 p1 p2 p3 p4:Prop}(h0:p0)(h1:p1)(h2:p2)(h3:p3)(h4:p4):Go.RowKit.Hid p0∧Go.RowKit.Hid p1∧Go.RowKit.Hid p2∧Go.RowKit.Hid p3∧Go.RowKit.Hid p4:=⟨h0,h1,h2,h3,h4⟩
theorem CN{p0 p1 p2 p3 p4 p5:Prop}(h0:p0)(h1:p1)(h2:p2)(h3:p3)(h4:p4)(h5:p5):Go.RowKit.Hid p0∧Go.RowKit.Hid p1∧Go.RowKit.Hid p2∧Go.RowKit.Hid p3∧Go.RowKit.Hid p4∧Go.RowKit.Hid p5:=⟨h0,h1,h2,h3,h4,h5⟩
theorem qV{p0 p1 p2 p3 p4 p5 p6:Prop}(h0:p0)(h1:p1)(h2:p2)(h3:p3)(h4:p4)(h5:p5)(h6:p6):Go.RowKit.Hid p0∧Go.RowKit.Hid p1∧Go.RowKit.Hid p2∧Go.RowKit.Hid p3∧Go.RowKit.Hid p4∧Go.RowKit.Hid p5∧Go.RowKit.Hid p6:=⟨h0,h1,h2,h3,h4,h5,h6⟩
theorem Nh{p0 p1 p2 p3 p4 p5 p6 p7:Prop}(h0:p0)(h1:p1)(h2:p2)(h3:p3)(h4:p4)(h5:p5)(h6:p6)(h7:p7):Go.RowKit.Hid p0∧Go.RowKit.Hid p1∧Go.RowKit.Hid p2∧Go.RowKit.Hid p3∧Go.RowKit.Hid p4∧Go.RowKit.Hid p5∧Go.RowKit.Hid p6∧Go.RowKit.Hid p7:=⟨h0,h1,h2,h3,h4,h5,h6,h7⟩
theorem CO{p0 p1 p2 p3 p4 p5 p6 p7 p8:Prop}(h0:p0)(h1:p1)(h2:p2)(h3:p3)(h4:p4)(h5:p5)(h6:p6)(h7:p7)(h8:p8):Go.RowKit.Hid p0∧Go.RowKit.Hid p1∧Go.RowKit.Hid p2∧Go.RowKit.Hid p3∧Go.RowKit.Hid p4∧Go.RowKit.Hid p5∧Go.RowKit.Hid p6∧Go.RowKit.Hid p7∧Go.RowKit.Hid p8:=⟨h0,h1,h2,h3,h4,h5,h6,h7,h8⟩
theorem Jn{p0 p1 p2 p3 p4 p5 p6 p7 p8 p9:Prop}(h0:p0)(h1:p1)(h2:p2)(h3:p3)(h4:p4)(h5:p5)(h6:p6)(h7:p7)(h8:p8)(h9:p9):Go.RowKit.Hid p0∧Go.RowKit.Hid p1∧Go.RowKit.Hid p2∧Go.RowKit.Hid p3∧Go.RowKit.Hid p4∧Go.RowKit.Hid p5∧Go.RowKit.Hid p6∧Go.RowKit.Hid p7∧Go.RowKit.Hid p8∧Go.RowKit.Hid p9:=⟨h0,h1,h2,h3,h4,h5,h6,h7,h8,h9⟩
theorem Xk{p0 p1 p2 p3 p4 p5 p6 p7 p8 p9 Jo:Prop}(h0:p0)(h1:p1)(h2:p2)(h3:p3)(h4:p4)(h5:p5)(h6:p6)(h7:p7)(h8:p8)(h9:p9)(h10:Jo):Go.RowKit.Hid p0∧Go.RowKit.Hid p1∧Go.RowKit.Hid p2∧Go.RowKit.Hid p3∧Go.RowKit.Hid p4∧Go.RowKit.Hid p5∧Go.RowKit.Hid p6∧Go.RowKit.Hid p7∧Go.RowKit.Hid p8∧Go.RowKit.Hid p9∧Go.RowKit.Hid Jo:=⟨h0,h1,h2,h3,h4,h5,h6,h7,h8,h9,h10⟩
theorem Jp{p0 p1 p2 p3 p4 p5 p6 p7 p8 p9 Jo Xl:Prop}(h0:p0)(h1:p1)(h2:p2)(h3:p3)(h4:p4)(h5:p5)(h6:p6)(h7:p7)(h8:p8)(h9:p9)(h10:Jo)(h11:Xl):Go.RowKit.Hid p0∧Go.RowKit.Hid p1∧Go.RowKit.Hid p2∧Go.RowKit.Hid p3∧Go.RowKit.Hid p4∧Go.RowKit.Hid p5∧Go.RowKit.Hid p6∧Go.RowKit.Hid p7∧Go.RowKit.Hid p8∧Go.RowKit.Hid p9∧Go.RowKit.Hid Jo∧Go.RowKit.Hid Xl:=⟨h0,h1,h2,h3,h4,h5,h6,h7,h8,h9,h10,h11⟩
theorem Z{p:Prop}(h:p):Go.RowKit.Hid p:=h
theorem _root_.Go.RowKit.Hid.O{p:Prop}(h:Go.RowKit.Hid p):p:=h
theorem ai{α:Type}(a:α):∃z,a=z:=⟨_,rfl⟩
instance at7:Coe World Nat:=⟨fun w=>w.heap.size⟩
abbrev oP:=@cell_of_row
def bv(l:List UInt8):List Value:=l.map fun b=>Value.int .u8 (b.toNat:Int)
@[simp] theorem Rv(l:List UInt8):(bv l).length=l.length:=by simp[bv]
theorem qf(a b:List UInt8):bv (a++b)=bv a++bv b:=by simp[bv]
theorem agM(b:UInt8):bv [b]= [Value.int .u8 (b.toNat:Int)]:=rfl
theorem fC(l:List UInt8):∀u∈bv l,u.oneCell'=true:=by
 intro u hu;obtain⟨_,_,rfl⟩:=List.mem_map.1 hu
 rfl
theorem Jq(l:List UInt8)(j:Nat)(h:j<l.length):(bv l)[j]? =some (Value.int .u8 (l[j].toNat:Int)):=by
 simp[bv,h]
def Rd(w:World)(size:Nat)(Y:av)(n:Nat)(cs:List Value):Prop:=
 cs.length=n*size∧(n*size≠0→∃b o,Y=some ⟨b,o,none⟩∧∀j,j<n*size→w.cell? ⟨b,o+j,none⟩=cs[j]?)
theorem Rd.nil(w:World)(size:Nat)(Y:av):Rd w size Y 0 []:=⟨by simp,fun h=>absurd (Nat.zero_mul _) h⟩
theorem Rd.below{w w':World}{size n:Nat}{Y:av}{cs:List Value}(h:Rd w size Y n cs)(U:Below w w w'):Rd w' size Y n cs:=by
 refine⟨h.1,fun hn=> ?_⟩;obtain⟨b,o,rfl,J⟩:=h.2 hn;refine⟨b,o,rfl,fun j hj=> ?_⟩;have Bo:=J j hj;have hl:j<cs.length:=by have:=h.1;omega
 have W:w.cell? ⟨b,o+j,none⟩=some cs[j]:=by rw[Bo,dW hl]
 rw[dW hl];exact cell_later U W
theorem Rd.CP{w:World}{n:Nat}{Y:av}{l:List UInt8}(h:Rd w 1 Y n (bv l))(hn:0<n):
 ∃b o,Y=some ⟨b,o,none⟩∧∀(j:Nat)(hj:j<l.length),w.cell? ⟨b,o+j,none⟩=some (Value.int .u8 ((l[j]).toNat:Int)):=by
 obtain⟨b,o,rfl,J⟩:=h.2 (by omega);refine⟨b,o,rfl,fun j hj=> ?_⟩;have:=h.1;simp only[Rv,Nat.mul_one] at this;rw[J j (by omega),Jq l j hj]
theorem Rd.len{w:World}{n:Nat}{Y:av}{l:List UInt8}(h:Rd w 1 Y n (bv l)):n=l.length:=by
 have:=h.1
 simpa using this.symm
theorem wv{w:World}{base e size n c:Nat}{Y:av}{cs:List Value}(h:w.ownsRow base e size (.slice Y n c) n cs):Rd w size Y n cs:=by
 refine⟨h.1,fun hn=> ?_⟩;rcases h.2 with⟨hv,h0⟩|⟨g,cap,cur,hv,_⟩
 ·subst h0;simp at hn
 simp only[Value.slice.injEq] at hv;obtain⟨rfl,-,rfl⟩:=hv;exact⟨g,0,rfl,fun j hj=>by rw[zero_add];exact h.cellAt j hj⟩
theorem aR{w w':World}{base e size n:Nat}{v:Value}{cs:List Value}(h:w.ownsRow base e size v n cs)(U:Below w w w'):w'.ownsRow base e size v n cs:=by
 refine⟨h.1,?_⟩;rcases h.2 with hn|⟨g,cap,cur,rfl,hbg,A,rest⟩
 ·exact .inl hn
 refine .inr ⟨g,cap,cur,rfl,hbg,?_,rest⟩;rw[U.block g (eI.1 A).1];exact A
theorem xA{w:World}{base e size n c:Nat}{Y:av}{cs:List Value}(h:w.ownsRow base e size (.slice Y n c) n cs):n≤c∧c≤maxLen:=by
 rcases h.2 with⟨hv,h0⟩|⟨g,cap,cur,hv,_,_,h1,h2,_⟩
 ·simp only[Value.slice.injEq] at hv;obtain⟨-,rfl,rfl⟩:=hv;exact⟨Nat.le_refl _,bP _⟩
 simp only[Value.slice.injEq] at hv;obtain⟨-,-,rfl⟩:=hv;exact⟨h1,h2⟩
theorem cR{w:World}{base e size n:Nat}{v:Value}{cs:List Value}(h:w.ownsRow base e size v n cs):∃Y c,v= .slice Y n c:=by
 rcases h.2 with⟨rfl,rfl⟩|⟨g,cap,cur,rfl,_⟩
 ·exact⟨_,_,rfl⟩
 exact⟨_,_,rfl⟩
theorem cm{w:World}{base jE e size n:Nat}{v:Value}{cs:List Value}(h:w.ownsRow base e size v n cs)(U:jE≤base):w.ownsRow jE e size v n cs:=by
 refine⟨h.1,?_⟩;rcases h.2 with hn|⟨g,cap,cur,rfl,hbg,rest⟩
 ·exact .inl hn
 exact .inr ⟨g,cap,cur,rfl,aJ U hbg,rest⟩
theorem jr{P:Program}{w:World}{ops:Array Oper}{rest:List Oper}{o:Oper}{a:Act}{Q:Exit→Act→World→Prop}(oe:o.guard=none)(s x:Operand)(t:TypeId)
 (ho:o.op= .call {callee:= .builtin .append,args:=#[s,x],argTypes:=#[t,t]})
 (base:Nat) (e:TypeId) (z:Value) (size bytes:Nat) (ht:P.underlying t=some (.slice e)) (mn:(P.info? e).map (fun i=>(i.zero,i.size,i.bytes))=some (some z,size,bytes)) (iY:z.cells.size=size) (bt:0<size)
 (Y:av) (n c:Nat) (xs:List Value) (W:a.eval s= .slice Y n c) (aU:w.ownsRow base e size (.slice Y n c) n xs)
 (lF:av) (m c2:Nat) (news:List Value) (F:a.eval x= .slice lF m c2) (bQ:Rd w size lF m news) (h1:∀u∈news,u.oneCell'=true)
 (iN:lF=none→c2=0)
 (h63:n+m≤maxLen) (gz:(n+m) *bytes≤140737488355328) (kG:base≤w.heap.size)
 (h:∀bK c' w',w'.ownsRow base e size (.slice bK (n+m) c') (n+m) (xs++news)→w.grownBy w' (Value.slice Y n c).ownBlock→((Value.slice bK (n+m) c').ownBlock=(Value.slice Y n c).ownBlock∨(Value.slice bK (n+m) c').ownBlock=some w.heap.size)→wpList P ops Q rest (a.put o.dst (.slice bK (n+m) c')) w'):
 wpList P ops Q (o::rest) a w:=by
 obtain⟨i,hi,hz,dJ,fV⟩:=info_parts mn;cases lF with
 |some a2=>
  refine wpList_append_own_at w oe s x t ho base e i z size bytes ht hi hz dJ fV iY bt _ n xs W aU a2 m c2 news F bQ.1 ?_ h1 h63 gz kG ?_
  ·intro j u hu;have hj:j<m*size:=by rw[←bQ.1];exact(qe.1 hu).1
   obtain⟨b,o',Rw,J⟩:=bQ.2 (by omega);obtain rfl:=Option.some.inj Rw;rw[Addr.add_lit,J j hj];exact hu
  intro v' w' Xm A _ bZ;obtain⟨bK,c',rfl⟩:=cR Xm;exact h bK c' w' Xm A bZ
 |none=>
  have hm:m=0:=by
   by_cases hm:m=0
   ·exact hm
   have:m*size≠0:=Nat.mul_ne_zero hm (by omega);obtain⟨_,_,h',_⟩:=bQ.2 this;cases h'
  subst hm;have dK:news= []:=n_ (by simpa using bQ.1);subst dK;have bM:c2=0:=iN rfl;subst bM;refine wpList_append_own_none oe s x t ho base e i size ht hi _ n xs W aU F ?_;have:=h Y c w (by simpa using aU) (World.grownBy.refl _ _) (.inl (by cases Y<;>rfl))
  simpa using this
theorem kU{P:Program}{w:World}{ops:Array Oper}{rest:List Oper}{o:Oper}{a:Act}{Q:Exit→Act→World→Prop}(oe:o.guard=none)(s x:Operand)(t:TypeId)
 (ho:o.op= .call {callee:= .builtin .append,args:=#[s,x],argTypes:=#[t,t]})
 (base:Nat) (e:TypeId) (z:Value) (size bytes:Nat) (ht:P.underlying t=some (.slice e)) (mn:(P.info? e).map (fun i=>(i.zero,i.size,i.bytes))=some (some z,size,bytes)) (iY:z.cells.size=size) (bt:0<size)
 (Y:av) (n c:Nat) (xs:List Value) (W:a.eval s= .slice Y n c) (aU:w.ownsRow base e size (.slice Y n c) n xs)
 (lF:av) (m c2:Nat) (news:List Value) (F:a.eval x= .slice lF m c2) (bQ:Rd w size lF m news) (h1:∀u∈news,u.oneCell'=true)
 (iN:lF=none→c2=0)
 (h63:n+m≤maxLen) (gz:(n+m) *bytes≤140737488355328) (kG:base≤w.heap.size)
 (h:∀bK c' w',w'.ownsRow base e size (.slice bK (n+m) c') (n+m) (xs++news)→w.grownBy w' (Value.slice Y n c).ownBlock→wpList P ops Q rest (a.put o.dst (.slice bK (n+m) c')) w'):
 wpList P ops Q (o::rest) a w:=
 jr oe s x t ho base e z size bytes ht mn iY bt Y n c xs W aU lF m c2 news F bQ h1 iN h63 gz kG fun bK c' w' h2 h3 _=>h bK c' w' h2 h3
def Bs(w:World)(v:Value)(l:List UInt8):Prop:=
 ∃Y c,v= .slice Y l.length c∧Rd w 1 Y l.length (bv l)∧l.length≤c∧c≤9223372036854775807∧(Y=none→c=0)
theorem Bs.below{w w':World}{v:Value}{l:List UInt8}(h:Bs w v l)(U:Below w w w'):Bs w' v l:=by
 obtain⟨Y,c,rfl,hr,h1,h2,h3⟩:=h;exact⟨Y,c,rfl,hr.below U,h1,h2,h3⟩
def yJ(w:World)(v:Value)(ls:List (List UInt8)):Prop:=
 ∃Y c,∃vs:List Value,v= .slice Y ls.length c∧Rd w 1 Y ls.length vs∧ls.length≤c∧c≤9223372036854775807∧(Y=none→c=0)∧
  ∀(i:Nat)(h:i<ls.length),∃v',vs[i]? =some v'∧Bs w v' ls[i]
theorem Xn{P:Prop}(h:P:=by
 refine⟨by have:=h.1;rw[bS];omega,fun h0=> ?_⟩;obtain⟨b,o,e,J⟩:=h.2 (by omega);refine⟨b,o,e,fun j hj=> ?_⟩;rw[J j (by omega),ml,if_pos (by omega)]):P:=h
theorem agN{w:World}{n m:Nat}{Y:av}{cs:List Value}(h:Rd w 1 Y n cs)(hm:m≤n):Rd w 1 Y m (cs.take m):=by
 exact Xn
theorem GV{w:World}{base e size n c:Nat}{Y:av}{cs:List Value}(h:w.ownsRow base e size (.slice Y n c) n cs):Y=none→c=0:=by
 rintro rfl;rcases h.2 with⟨hv,h0⟩|⟨g,cap,cur,hv,_⟩
 ·simp only[Value.slice.injEq] at hv;exact hv.2.2
 simp at hv
theorem fO{w:World}{base e c n:Nat}{Y:av}{l:List UInt8}(h:w.ownsRow base e 1 (.slice Y n c) n (bv l)):n=l.length∧Bs w (.slice Y l.length c) l:=by
 have hn:n=l.length:=by have:=h.1;simpa using this.symm
 subst hn;have:=xA h;unfold maxLen at this;exact⟨rfl,Y,c,rfl,wv h,this.1,by omega,GV h⟩
theorem Bs.cut{w:World}{Y:av}{n c k:Nat}{l:List UInt8}(h:Bs w (.slice Y n c) l)(G:k≤l.length):Bs w (.slice Y k c) (l.take k):=by
 obtain⟨bK,c',e,hr,h1,h2,h3⟩:=h;simp only[Value.slice.injEq] at e;obtain⟨rfl,rfl,rfl⟩:=e;have hl:(l.take k).length=k:=by rw[bS];omega
 refine⟨Y,c,by rw[hl],?_,by omega,h2,h3⟩;rw[hl];have:=agN hr G
 simpa [bv,List.map_take] using this
theorem Bs.parts{w:World}{Y:av}{n c:Nat}{l:List UInt8}(h:Bs w (.slice Y n c) l):n=l.length∧Rd w 1 Y l.length (bv l)∧l.length≤c∧c≤9223372036854775807∧(Y=none→c=0):=by
 obtain⟨bK,c',e,hr,h1,h2,h3⟩:=h;simp only[Value.slice.injEq] at e;obtain⟨rfl,rfl,rfl⟩:=e;exact⟨rfl,hr,h1,h2,h3⟩
theorem Jr{B:Nat}{a w w':World}{row:Option Nat}(h:Below B a w)(A:w.grownBy w' row)(hB:B≤w.heap.size)(hr:∀k,row=some k→B≤k):Below B a w':=h.grown A hB hr
theorem bT{B:Nat}{a w w':World}{e size n:Nat}{v:Value}{cs:List Value}(h:Below B a w)(A:w.grownBy w' v.ownBlock)(hB:B≤w.heap.size)(aU:w.ownsRow B e size v n cs):Below B a w':=
 h.grown A hB (fun k G=>(aU.lt k G).1)
abbrev str(l:List UInt8):ByteArray:=⟨l.toArray⟩
theorem lU{P:Program}{w:World}{src e dst:TypeId}(W:P.underlying src=some (.slice e))(he:P.underlying e=some (.int .u8))(hd:P.underlying dst=some .string)
 {v:Value} {l:List UInt8} (h:Bs w v l):(convert src dst v).run P w= .ok (.string (str l)) w:=by
 obtain⟨Y,c,rfl,hr,h1,h2,h3⟩:=h;have F:strOfNums (l.map fun b=>(b.toNat:Int))=str l:=by
  simp only[strOfNums,str]
  congr 1
  congr 1
  rw[List.map_map]
  conv=>rhs;rw[←List.map_id l]
  exact List.map_congr_left fun b _=>by simp
 by_cases hl:l= []
 ·subst hl;cases Y with
  |none=>exact run_convert_bytes_nil w src e W he 0 c dst hd
  |some a=>
   rw[run_convert_bytes_string w src dst e _ _ c W he hd];exact run_bytesToString w a 0 c [] (by simp[loadCells,loadCellsFrom])
 have u_:0<l.length:=List.length_pos_iff.2 hl;obtain⟨b,o,rfl,J⟩:=hr.CP u_;rw[run_convert_bytes_arg w src e W he b o l.length c (l.map fun b=>(b.toNat:Int)) (by simp) (fun i hi=>by rw[J i hi];simp[List.getD,hi]) dst hd,F]
theorem dO(w:World)(cs:Array Value)(e size n:Nat)(h:cs.size=n*size):Rd (w.alloc (.cells cs e)) size (some ⟨w,0,none⟩) n cs.toList:=by
 refine⟨by simpa using h,fun _=>⟨_,_,rfl,fun j hj=> ?_⟩⟩;rw[zero_add];have:=oP (w.alloc (.cells cs e)) w.heap.size j cs e (0,0) (aH w _);rw[this];simp
theorem Js{w:World}{size n:Nat}{Y:av}{cs:List Value}(h:Rd w size Y n cs)(o:Obj):Rd (w.alloc o) size Y n cs:=
 h.below (aD _ o)
theorem jF{w:World}{base e size n c:Nat}{Y:av}{cs:List Value}(h:w.ownsRow base e size (.slice Y n c) n cs)(hn:0<n):∃g,Y=some ⟨g,0,none⟩:=by
 rcases h.2 with⟨hv,h0⟩|⟨g,cap,cur,hv,_⟩
 ·omega
 simp only[Value.slice.injEq] at hv;exact⟨g,hv.1⟩
def b8(x:Int):UInt8:=UInt8.ofNat (x % 256).toNat
theorem xB(x:Int):((b8 x).toNat:Int)=x % 256:=by
 have h1:0≤x % 256:=Int.emod_nonneg _ (by omega);have h2:x % 256<256:=Int.emod_lt_of_pos _ (by omega);unfold b8;rw[UInt8.toNat_ofNat',Nat.mod_eq_of_lt (by omega)]
 omega
theorem Rx{w:World}{base e g n c:Nat}{m:List UInt8}(h:w.ownsRow base e 1 (.slice (some ⟨g,0,none⟩) n c) n (bv m))(k:Nat)(b:UInt8):
 (w.setCell ⟨g,k,none⟩ (.int .u8 (b.toNat:Int))).ownsRow base e 1 (.slice (some ⟨g,0,none⟩) n c) n (bv (m.set k b))∧w.grownBy (w.setCell ⟨g,k,none⟩ (.int .u8 (b.toNat:Int))) (some g):=by
 have:=h.stored k (.int .u8 (b.toNat:Int));refine⟨?_,this.2⟩;have e:bv (m.set k b)=(bv m).set k (.int .u8 (b.toNat:Int)):=by simp[bv,List.map_set]
 rw[e];exact this.1
theorem Jt{w:World}{base e g n c:Nat}{m:List UInt8}(h:w.ownsRow base e 1 (.slice (some ⟨g,0,none⟩) n c) n (bv m))(k:Nat)(G:k<m.length):
 w.cell? ⟨g,k,none⟩=some (.int .u8 (m[k].toNat:Int)):=by
 have hn:n=m.length:=by have:=h.1;simpa using this.symm
 rw[h.cellAt k (by omega),Jq m k G]
theorem cg{a b c:World}{row:Option Nat}(h:a.grownBy b row)(k:b.grownBy c row):a.grownBy c row:=
 ⟨k.os.trans h.os,k.tape.trans h.tape,k.output.trans h.output,aJ h.size k.size,fun i hi bf=>(k.block i (eV hi h.size) bf).trans (h.block i hi bf)⟩
theorem s_{B:Nat}{w w':World}{row:Option Nat}(A:w.grownBy w' row)(hB:B≤w.heap.size)(hr:∀k,row=some k→B≤k):Below B w w':=(Below.refl B w).grown A hB hr
theorem Xo(v:Value)(n:Nat):(madeCells #[v] n).toList=List.replicate n v:=by
 apply List.ext_getElem
 ·simp[madeCells]
 intro i h1 h2;simp[madeCells,Nat.mod_one]
theorem Xp(n:Nat)(b:UInt8):bv (List.replicate n b)=List.replicate n (Value.int .u8 (b.toNat:Int)):=by simp[bv]
theorem px(k:IntKind)(x:Int):∀u∈(#[Value.int k x]:Array Value).toList,u.oneCell'=true:=by
 intro u hu;simp at hu;subst hu
 rfl
theorem Ry{w:World}{base e n:Nat}{v:Value}{l:List UInt8}{x:Int}(b:UInt8)(F:x=(b.toNat:Int))(h:w.ownsRow base e 1 v n (bv l++#[Value.int .u8 x].toList)):w.ownsRow base e 1 v n (bv (l++ [b])):=by
 rw[qf,agM,←F];exact h
theorem cz{B C:Nat}{w w1 w2:World}(h:Below B w w1)(h2:Below C w1 w2)(hB:B≤C):Below B w w2:=
 h.trans (h2.mono hB)
theorem aQ{a b c:World}(h:Below a.heap.size a b)(k:Below b.heap.size b c):Below a.heap.size a c:=cz h k h.size
theorem CQ{w:World}{e:Nat}(vs:List Value)(ls:List (List UInt8))(hl:vs.length=ls.length)(hm:ls.length≤9223372036854775807)
 (h:∀(i:Nat)(hi:i<ls.length),∃v',vs[i]? =some v'∧Bs w v' ls[i]):yJ (w.alloc (.cells vs.toArray e)) (.slice (some ⟨w,0,none⟩) ls.length ls.length) ls:=by
 refine⟨_,_,vs,rfl,?_,Nat.le_refl _,hm,(fun h=>by cases h),fun i hi=> ?_⟩
 ·have:=dO w vs.toArray e 1 ls.length (by simp[hl])
  simpa using this
 obtain⟨v',e',hv⟩:=h i hi;exact⟨v',e',hv.below (aD _ _)⟩
theorem agO{w:World}{e:Nat}{v:Value}{l:List UInt8}(h:Bs w v l):yJ (w.alloc (.cells #[v] e)) (.slice (some ⟨w,0,none⟩) 1 1) [l]:=
 CQ [v] [l] rfl (by simp) fun i hi=>by
  match i,hi with
  |0,_=>exact⟨v,rfl,h⟩
theorem agP{w:World}{e:Nat}{v u:Value}{l m:List UInt8}(h:Bs w v l)(k:Bs w u m):yJ (w.alloc (.cells #[v,u] e)) (.slice (some ⟨w,0,none⟩) 2 2) [l,m]:=
 CQ [v,u] [l,m] rfl (by simp) fun i hi=>by
  match i,hi with
  |0,_=>exact⟨v,rfl,h⟩
  |1,_=>exact⟨u,rfl,k⟩
theorem Bs.piece{w:World}{Y:av}{n c lo hi:Nat}{l:List UInt8}(h:Bs w (.slice Y n c) l)(h1:lo≤hi)(h2:hi≤l.length):
 Bs w (.slice (if c=lo then Y else Y.map (·.add lo)) (hi - lo) (c - lo)) ((l.take hi).drop lo):=by
 obtain⟨rfl,hr,J,hm,iN⟩:=h.parts;have hl:((l.take hi).drop lo).length=hi - lo:=by rw[dw,bS];omega
 refine⟨_,_,by rw[hl],?_,by omega,by omega,?_⟩
 ·rw[hl];refine⟨by rw[Rv,hl,Nat.mul_one],fun bf=> ?_⟩;obtain⟨b,o,rfl,bg⟩:=hr.CP (by omega);rw[if_neg (by omega)];refine⟨b,o+lo,by rw[Option.map_some,Addr.add_lit],fun j hj=> ?_⟩;have gA:lo+j<l.length:=by omega
  rw[oO,bg (lo+j) gA,Jq _ j (by omega)];simp
 intro hn
 split at hn
 ·have:=iN hn;omega
 have:=iN (by simpa using hn);omega
theorem Xq(w:World)(e:Nat)(s:ByteArray):Below w w (Lib.bytesWorld w e s):=
 ⟨rfl,rfl,rfl,by rw[Lib.bytesWorld_size];omega,fun k G=>Lib.bytesWorld_at_old w e s k G⟩
theorem Xr(w:World)(e:Nat)(l:List UInt8)(h:l.length≤9223372036854775807):Bs (Lib.bytesWorld w e (str l)) (.slice (some ⟨w,0,none⟩) l.length (grownCap w l.length 0 e)) l:=by
 have J:=grownCap_le_maxLen w l.length 0 e (by unfold maxLen;omega);unfold maxLen at J;refine⟨_,_,rfl,⟨by simp,fun hn=>⟨_,_,rfl,fun j hj=> ?_⟩⟩,grownCap_ge _ _ _ _,by omega,fun h=>by cases h⟩;rw[zero_add,Jq l j (by omega)];have:=Lib.bytesWorld_cell w e (str l) j (by show j<l.length;omega);rw[this];simp[List.getD,show j<l.length by omega]
theorem agQ{w:World}{e:Nat}(vs:Array Value)(l:List UInt8)(hl:vs.toList=bv l)(hm:l.length≤9223372036854775807):Bs (w.alloc (.cells vs e)) (.slice (some ⟨w,0,none⟩) l.length l.length) l:=by
 refine⟨_,_,rfl,?_,Nat.le_refl _,hm,fun h=>by cases h⟩;have W:vs.size=l.length:=by rw[←Array.length_toList,hl,Rv]
 have:=dO w vs e 1 l.length (by omega);rw[hl] at this;exact this
theorem j1{w w':World}{row:Option Nat}{base e size n:Nat}{v:Value}{xs:List Value}(h:w.ownsRow base e size v n xs)(A:w.grownBy w' row)(bf:∀k,v.ownBlock=some k→some k≠row):w'.ownsRow base e size v n xs:=by
 refine h.kept A ?_;cases hv:v.ownBlock with
 |none=>exact .inl rfl
 |some k=>exact .inr (bf k hv)
def CS(v u:Value):Prop:=∀k,v.ownBlock=some k→u.ownBlock≠some k
def iZ(te:Nat)(w w':World):Prop:=∀base v n xs,w.ownsRow base te 1 v n xs→w'.ownsRow base te 1 v n xs
theorem iZ.trans{te:Nat}{a b c:World}(h:iZ te a b)(k:iZ te b c):iZ te a c:=fun _ _ _ _ ho=>k _ _ _ _ (h _ _ _ _ ho)
theorem iZ.below{te:Nat}{w w':World}(U:Below w w w'):iZ te w w':=fun _ _ _ _ h=>aR h U
theorem i_{w:World}{base e size n K t:Nat}{fr:Nat×Nat}{cs:Array Value}{v:Value}{xs:List Value}(hK:w.heap[K]? =some (.cells cs t fr))(h:w.ownsRow base e size v n xs)(ht:t≠e):v.ownBlock≠some K:=by
 intro J;rcases h.2 with⟨rfl,_⟩|⟨g,cap,cur,rfl,_,A,_⟩
 ·simp[Value.ownBlock] at J
 simp only[Value.ownBlock,Option.some.injEq] at J;subst J;rw[hK] at A;simp only[Option.some.injEq,Obj.cells.injEq] at A;exact ht A.2.1
theorem hZ{w w':World}{row:Option Nat}{K:Nat}{o:Obj}(A:w.grownBy w' row)(h:w.heap[K]? =some o)(bf:row≠some K):w'.heap[K]? =some o:=by
 rw[A.block K (eI.1 h).1 (fun e=>bf e.symm)];exact h
theorem br(w:World)(a:Addr)(v:Value):w.grownBy (w.setCell a v) (some a.block):=
 ⟨rfl,rfl,rfl,by simp,fun k _ G=>heap_setCell_other w a k v (fun e=>G (by rw[e]))⟩
theorem aC{w:World}{K:Nat}{cs:Array Value}{t:Nat}(h:w.heap[K]? =some (.cells cs t (0,0)))(i:Nat):w.frozen? ⟨K,i,none⟩=false:=frozen_of_row w K i cs t h
theorem js{w:World}{K:Nat}{o o':Obj}(h:w.heap[K]? =some o):(w.alloc o').heap[K]? =some o:=by
 rw[Below.heap_alloc w o' K (eI.1 h).1];exact h
theorem iZ.CT{te K t i:Nat}{cs:Array Value}{v:Value}{w:World}(hK:w.heap[K]? =some (.cells cs t (0,0)))(ht:t≠te):iZ te w (w.setCell ⟨K,i,none⟩ v):=by
 intro base u n xs hu;exact ownsRow_setCell_other hu (i_ hK hu ht) v
inductive Zt|a|b
def zq(_:Nat):Zt:=Zt.a
def E(_:Int):Zt:=Zt.a
instance aua{i:Int}:CoeDep Zt (E i) Value:=⟨.int .i64 i⟩
instance aub{i:Int}:CoeDep Zt (E i) Lit:=⟨.int .i64 i⟩
instance auc{S:Nat}:CoeDep Zt (zq S) Value:=⟨.pointer (some ⟨S,0,none⟩)⟩
def mo:Zt:=Zt.a
instance aud:CoeDep Zt (mo) (Array Value):=⟨#[.int .i64 0,.int .i64 0,.string ⟨#[]⟩,.slice none 0 0,.int .i64 0,.bool false,.string ⟨#[]⟩,.int .i64 0,.slice none 0 0,.int .i64 0,.int .i64 0,.int .i64 0,.int .i64 0,.bool false,.slice none 0 0,.string ⟨#[]⟩]⟩
instance aue:CoeDep Zt (mo) (List Value):=⟨[.int .i64 0,.int .i64 0,.string ⟨#[]⟩,.slice none 0 0,.int .i64 0,.bool false,.string ⟨#[]⟩,.int .i64 0,.slice none 0 0,.int .i64 0,.int .i64 0,.int .i64 0,.int .i64 0,.bool false,.slice none 0 0,.string ⟨#[]⟩]⟩
def aX:Zt:=Zt.a
instance auf:CoeDep Zt (aX) (Array Value):=⟨#[.string ⟨#[]⟩,.slice none 0 0,.int .i64 0,.bool false,.string ⟨#[]⟩,.int .i64 0,.slice none 0 0,.int .i64 0,.int .i64 0,.int .i64 0,.int .i64 0,.bool false,.slice none 0 0,.string ⟨#[]⟩]⟩
instance aug:CoeDep Zt (aX) (List Value):=⟨[.string ⟨#[]⟩,.slice none 0 0,.int .i64 0,.bool false,.string ⟨#[]⟩,.int .i64 0,.slice none 0 0,.int .i64 0,.int .i64 0,.int .i64 0,.int .i64 0,.bool false,.slice none 0 0,.string ⟨#[]⟩]⟩
def dP:Zt:=Zt.a
instance auh:CoeDep Zt (dP) (Array Value):=⟨#[.string ⟨#[]⟩,.slice none 0 0,.int .i64 0,.bool false,.string ⟨#[]⟩,.int .i64 0,.slice none 0 0,.int .i64 0,.int .i64 0,.int .i64 0]⟩
instance aui:CoeDep Zt (dP) (List Value):=⟨[.string ⟨#[]⟩,.slice none 0 0,.int .i64 0,.bool false,.string ⟨#[]⟩,.int .i64 0,.slice none 0 0,.int .i64 0,.int .i64 0,.int .i64 0]⟩
def jt:Zt:=Zt.a
instance auj:CoeDep Zt (jt) (Array Value):=⟨#[.int .i64 0,.int .i64 0,.string ⟨#[]⟩,.string ⟨#[]⟩,.slice none 0 0]⟩
instance auk:CoeDep Zt (jt) (List Value):=⟨[.int .i64 0,.int .i64 0,.string ⟨#[]⟩,.string ⟨#[]⟩,.slice none 0 0]⟩
def gB:Zt:=Zt.a
instance aul:CoeDep Zt (gB) (Array Value):=⟨#[.string ⟨#[]⟩,.int .i64 0,.bool false,.bool false,.int .i64 0,.int .i64 0]⟩
instance aum:CoeDep Zt (gB) (List Value):=⟨[.string ⟨#[]⟩,.int .i64 0,.bool false,.bool false,.int .i64 0,.int .i64 0]⟩
def gj(_:Int):Zt:=Zt.a
instance aun{i:Int}:CoeDep Zt (gj i) (Array Value):=⟨#[.int .i64 i,.int .i64 0,.string ⟨#[]⟩,.string ⟨#[]⟩,.slice none 0 0]⟩
instance auo{i:Int}:CoeDep Zt (gj i) (List Value):=⟨[.int .i64 i,.int .i64 0,.string ⟨#[]⟩,.string ⟨#[]⟩,.slice none 0 0]⟩
def vd(_:Int)(_:Int):Zt:=Zt.a
instance aup{i:Int}{j:Int}:CoeDep Zt (vd i j) (Array Value):=⟨#[.int .i64 i,.int .i64 j,.string ⟨#[]⟩,.string ⟨#[]⟩,.slice none 0 0]⟩
instance auq{i:Int}{j:Int}:CoeDep Zt (vd i j) (List Value):=⟨[.int .i64 i,.int .i64 j,.string ⟨#[]⟩,.string ⟨#[]⟩,.slice none 0 0]⟩
def Er(_:Int)(_:List UInt8):Zt:=Zt.a
instance aur{i:Int}{s:List UInt8}:CoeDep Zt (Er i s) (Array Value):=⟨#[.int .i64 i,.int .i64 0,.string (str s),.string ⟨#[]⟩,.slice none 0 0]⟩
instance aus{i:Int}{s:List UInt8}:CoeDep Zt (Er i s) (List Value):=⟨[.int .i64 i,.int .i64 0,.string (str s),.string ⟨#[]⟩,.slice none 0 0]⟩
def GW(_:Int)(_:av)(_:List UInt8)(_:Nat):Zt:=Zt.a
instance aut{i:Int}{a:av}{l:List UInt8}{c:Nat}:CoeDep Zt (GW i a l c) (Array Value):=⟨#[.int .i64 i,.int .i64 0,.string ⟨#[]⟩,.string ⟨#[]⟩,.slice a l.length c]⟩
instance auu{i:Int}{a:av}{l:List UInt8}{c:Nat}:CoeDep Zt (GW i a l c) (List Value):=⟨[.int .i64 i,.int .i64 0,.string ⟨#[]⟩,.string ⟨#[]⟩,.slice a l.length c]⟩
def GX(_:Int)(_:List UInt8)(_:List UInt8):Zt:=Zt.a
instance auv{i:Int}{s:List UInt8}{t:List UInt8}:CoeDep Zt (GX i s t) (Array Value):=⟨#[.int .i64 i,.int .i64 0,.string (str s),.string (str t),.slice none 0 0]⟩
instance auw{i:Int}{s:List UInt8}{t:List UInt8}:CoeDep Zt (GX i s t) (List Value):=⟨[.int .i64 i,.int .i64 0,.string (str s),.string (str t),.slice none 0 0]⟩
def Bp(_:Int)(_:Int)(_:List UInt8)(_:List UInt8)(_:av)(_:List UInt8)(_:Nat):Zt:=Zt.a
instance auy{i:Int}{n:Int}{s:List UInt8}{t:List UInt8}{a:av}{l:List UInt8}{c:Nat}:CoeDep Zt (Bp i n s t a l c) (Array Value):=⟨#[.int .i64 i,.int .i64 n,.string (str s),.string (str t),.slice a l.length c]⟩
instance auz{i:Int}{n:Int}{s:List UInt8}{t:List UInt8}{a:av}{l:List UInt8}{c:Nat}:CoeDep Zt (Bp i n s t a l c) (List Value):=⟨[.int .i64 i,.int .i64 n,.string (str s),.string (str t),.slice a l.length c]⟩
def ve(_:av)(_:Nat)(_:av)(_:Nat)(_:av)(_:Nat)(_:av)(_:Nat)(_:av)(_:Nat)(_:av)(_:Nat)(_:av)(_:Nat)(_:av)(_:Nat)(_:List UInt8)(_:List UInt8)(_:List UInt8)(_:List UInt8)(_:List UInt8)(_:List UInt8)(_:List UInt8)(_:List Int)(_:Int)(_:Int)(_:Int)(_:Int)(_:Bool)(_:Bool)(_:Int)(_:Int):Zt:=Zt.a
instance auA{a0:av}{a1:Nat}{a2:av}{a3:Nat}{a4:av}{a5:Nat}{a6:av}{a7:Nat}{a8:av}{a9:Nat}{r9:av}{r_:Nat}{a12:av}{sf:Nat}{sg:av}{si:Nat}{s0:List UInt8}{s1:List UInt8}{s2:List UInt8}{s3:List UInt8}{s4:List UInt8}{s5:List UInt8}{s6:List UInt8}{ii:List Int}{n0:Int}{n1:Int}{n2:Int}{n3:Int}{r:Bool}{k:Bool}{o:Int}{nn:Int}:CoeDep Zt (ve a0 a1 a2 a3 a4 a5 a6 a7 a8 a9 r9 r_ a12 sf sg si s0 s1 s2 s3 s4 s5 s6 ii n0 n1 n2 n3 r k o nn) (Array Value):=⟨#[.slice a0 s0.length a1,.slice a2 s1.length a3,.slice a4 s2.length a5,.slice a6 s3.length a7,.int .i64 n0,.int .i64 n1,.bool r,.bool k,.int .i64 n2,.int .i64 n3,.slice a8 s4.length a9,.slice r9 s5.length r_,.slice a12 s6.length sf,.slice sg ii.length si,.int .i64 o,.int .i64 nn]⟩
instance auB{a0:av}{a1:Nat}{a2:av}{a3:Nat}{a4:av}{a5:Nat}{a6:av}{a7:Nat}{a8:av}{a9:Nat}{r9:av}{r_:Nat}{a12:av}{sf:Nat}{sg:av}{si:Nat}{s0:List UInt8}{s1:List UInt8}{s2:List UInt8}{s3:List UInt8}{s4:List UInt8}{s5:List UInt8}{s6:List UInt8}{ii:List Int}{n0:Int}{n1:Int}{n2:Int}{n3:Int}{r:Bool}{k:Bool}{o:Int}{nn:Int}:CoeDep Zt (ve a0 a1 a2 a3 a4 a5 a6 a7 a8 a9 r9 r_ a12 sf sg si s0 s1 s2 s3 s4 s5 s6 ii n0 n1 n2 n3 r k o nn) (List Value):=⟨[.slice a0 s0.length a1,.slice a2 s1.length a3,.slice a4 s2.length a5,.slice a6 s3.length a7,.int .i64 n0,.int .i64 n1,.bool r,.bool k,.int .i64 n2,.int .i64 n3,.slice a8 s4.length a9,.slice r9 s5.length r_,.slice a12 s6.length sf,.slice sg ii.length si,.int .i64 o,.int .i64 nn]⟩
theorem c5{x:World}{K t:Nat}{a b c d e:Value}(h:x.heap[K]? =some (.cells #[a,b,c,d,e] t (0,0))):x.cell? ⟨K,0,none⟩=some a∧x.cell? ⟨K,1,none⟩=some b∧x.cell? ⟨K,2,none⟩=some c∧x.cell? ⟨K,3,none⟩=some d∧x.cell? ⟨K,4,none⟩=some e∧x.frozen? ⟨K,0,none⟩=false∧x.frozen? ⟨K,1,none⟩=false∧x.frozen? ⟨K,2,none⟩=false∧x.frozen? ⟨K,3,none⟩=false∧x.frozen? ⟨K,4,none⟩=false:=
 ⟨D 0 h,D 1 h,D 2 h,D 3 h,D 4 h,aC h 0,aC h 1,aC h 2,aC h 3,aC h 4⟩
theorem Rz{P:Prop}(h:P:=by
 unfold Oper.wp execOp;simp only[ho,resolve,invoke,builtin,Sem.run_bind,Sem.run_pure,Result.andThen_ok,List.map_toArray,List.map_cons,List.map_nil,W,F,hr];exact h bK c' w' h2 h3):P:=h
open _root_.Go.Proofs.Tryz
theorem Tryz.cP:(prog.info? 5).map (fun i=>(i.zero,i.size,i.bytes))=some (some (.int .u8 0),1,1):=by kernel_rfl
theorem Xw{P:Prop}(h:P:=by
 subst hC;have gp:=hv;obtain⟨Y,c,rfl,hr,J,hm,iN⟩:=gp;clear hr;go_enter func30,ntmps30;by_cases au:n<l.length
 ·have hB:=hv.cut (k:=n.toNat) (by omega);go_wp2;have e:(l.take n.toNat).length=n.toNat:=by rw[bS];omega
  have:=I Y c;rw[e] at this;exact this hB
 have hB:l.take n.toNat=l:=gy (by omega);go_wp2;have:=I Y c;rw[hB] at this;exact this hv):P:=h
theorem ag1(v:Value)(l C:List UInt8)(n:Int)(hC:l.take n.toNat=C)(w:World)(hv:Bs w v l)(h0:0≤n)(R:ak)
 (I:∀Y c,Bs w (.slice Y C.length c) C→R (.returned (.slice Y C.length c)) w):
 Calls prog 30 #[v,E n] w R:=by
 exact Xw
theorem Xx(v u:Value)(l m:List UInt8)(w:World)(hv:Bs w v l)(hu:Bs w u m)(R:ak)
 (I:R (.returned (.bool (l==m))) w):
 Calls prog 22 #[v,u] w R:=by
 have h1:=lU (P:=prog) underlying22 underlying5 underlying9 hv;have h2:=lU (P:=prog) underlying22 underlying5 underlying9 hu;clear hv hu;go_enter func22,ntmps22;go_wp2;exact I
theorem ag2(v:Value)(l:List UInt8)(w:World)(hv:Bs w v l)(hl:l.length≤140737488355328)(R:ak)
 (I:∀Y c w',w'.ownsRow w 5 1 (.slice Y l.length c) l.length (bv l)→Below w w w'→R (.returned (.slice Y l.length c)) w'):
 Calls prog 31 #[v] w R:=by
 obtain⟨Y,c,rfl,hr,h1,h2,h3⟩:=hv;have aU:w.ownsRow w 5 1 (.slice none 0 0) 0 (bv []):=bO _ _ _ _;go_enter func31,ntmps31;go_wp2_with (at_builtin;go_must(refine kU (by rfl) (.tmp 4) (.tmp 5) 22 (by rfl) w 5 (.int .u8 0) 1 1 underlying22 Tryz.cP rfl (by decide) _ _ _ _ rfl aU _ _ _ _ rfl hr (fC _) h3 (by unfold maxLen;omega) (by omega) bj ?_));intro h_ c3 w3 ix dz;have an:=bT dg dz bj aU;go_wp2;exact I _ _ _ ix an
theorem Xy(v:Value)(l:List UInt8)(w:World)(hv:Bs w v l)(hl:l.length+2≤140737488355328)(R:ak)
 (I:∀g c w',w'.ownsRow w 5 1 (.slice (some ⟨g,0,none⟩) (l++ [165,90]).length c) (l++ [165,90]).length (bv (l++ [165,90]))→Below w w w'→R (.returned (.slice (some ⟨g,0,none⟩) l.length c)) w'):
 Calls prog 32 #[v] w R:=by
 obtain⟨Y,c,rfl,hr,h1,h2,h3⟩:=hv;go_enter func32,ntmps32;obtain⟨i,hi,hz,dJ,fV⟩:=info_parts Tryz.cP;go_wp2_with (at_make;go_must(refine wpList_make_own _ (by rfl) _ _ 22 (by rfl) w 5 i (.int .u8 0) 1 underlying22 hi hz dJ _ _ _ (l.length+2) rfl rfl (by omega) (by rw[fV];omega) (by unfold maxLen;omega) bj ?_));intro w1 cS km;have aw:Below w w w1:=dg.grown km bj (fun k G=>by cases G);have jb:=hr.below aw;go_wp2_with (at_builtin;go_must(refine kU (by rfl) (.tmp 8) (.tmp 9) 22 (by rfl) w 5 (.int .u8 0) 1 1 underlying22 Tryz.cP rfl (by decide) _ _ _ _ rfl cS _ _ _ _ rfl jb (fC _) h3 (by unfold maxLen;omega) (by omega) aw.size ?_));intro lF c2 w2 dL bD;have aj:=bT aw bD aw.size cS;go_wp2_with (at_builtin;go_must(refine kU (by rfl) (.tmp 11) (.tmp 12) 22 (by rfl) w 5 (.int .u8 0) 1 1 underlying22 Tryz.cP rfl (by decide) _ _ _ _ rfl (dL.alloc _) _ _ _ _ rfl (show Rd _ 1 _ 2 (bv [165,90]) from dO _ _ _ 1 2 rfl) (fC _) (by simp) (by unfold maxLen;omega) (by omega) (by have:=aj.size;simp;omega) ?_));intro h_ c3 w3 ix dz;have an:=bT (aj.alloc aj.size _) dz (by have:=aj.size;simp;omega) (dL.alloc _);have CX:(l++ [165,90]).length=l.length+2:=by simp
 obtain⟨g,rfl⟩:=jF ix (by omega);rw[←qf] at ix;have Xz:=(xA ix).1;have vg:=(xA ix).2;unfold maxLen at vg;rw[CX] at I;clear CX;go_wp2;exact I _ _ _ ix an
theorem XA(g n c base:Nat)(u:Value)(l:List UInt8)(w:World)(hn:n=l.length)(aU:w.ownsRow base 5 1 (.slice (some ⟨g,0,none⟩) (n+2) c) (n+2) (bv (l++ [165,90])))(hu:Bs w u l)(R:ak)
 (I:∀w',w.grownBy w' (some g)→R (.returned (.bool true)) w'):
 Calls prog 34 #[.slice (some ⟨g,0,none⟩) n c,u] w R:=by
 have J:=xA aU;unfold maxLen at J;have bk:(l++ [165,90]).length=n+2:=by simp[hn]
 have bU:Bs w (.slice (some ⟨g,0,none⟩) n c) l:=by
  have h1:=(fO aU).2;have h2:=Bs.cut (k:=n) (by rw[bk] at h1;exact h1) (by omega);have e:(l++ [165,90]).take n=l:=by rw[hn];simp
  rw[e] at h2;exact h2
 have F:=hu;obtain⟨lF,c2,rfl,j2,h1,h2,h3⟩:=F;have m1:w.cell? ⟨g,n,none⟩=some (.int .u8 165):=by
  have:=Jt aU n (by omega);rw[this];simp[hn]
 have m2:w.cell? ⟨g,n+1,none⟩=some (.int .u8 90):=by
  have:=Jt aU (n+1) (by omega);rw[this];simp[hn]
 subst hn;have Ju:(l==l)=true:=by simp
 go_enter func34,ntmps34;go_wp2_with (go_at_call 22;go_must(refine Xx _ _ l l _ bU hu _ ?_));clear m1 m2 hu bU j2;go_loopw [6] (fun i wr=>∃k:Nat,k≤l.length∧i= .int .i64 k∧∃m:List UInt8,m.length=l.length+2∧wr.ownsRow base 5 1 (.slice (some ⟨g,0,none⟩) (l.length+2) c) (l.length+2) (bv m)∧w.grownBy wr (some g)) (fun i _=>l.length - (intOf i).toNat)
 case atStart=>exact⟨0,bP _,rfl,_,bk,aU,World.grownBy.refl _ _⟩
 case round=>
  obtain⟨k,G,rfl,m,hm,dL,bD⟩:=hrel;have j3:l.length+2≤m.length:=by omega
  by_cases au:k<l.length
  ·have gq:k<m.length:=by omega
   have bg:=Jt dL k gq;have qW:=dL.frozenAt k;have cB:=Rx dL k (b8 (m[k].toNat+77));rw[xB] at cB;have cH:=cB.1;have bF:=cg bD cB.2;have fh:=hm;rw[←qU (i:=k) (a:=b8 (m[k].toNat+77))] at fh;have HM:=Z fh;clear cB aU dL bD hm fh bk;go_wp2;go_roundw
   case rel=>exact⟨k+1,by omega,by go_num,_,HM.O,cH,bF⟩
   case measure=>simp[intOf];omega
  go_wp2;exact bD
def within(n lo hi:Int):Int:=lo+n % (hi - lo+1)
theorem vj(n lo hi:Int)(h:lo≤hi):lo≤within n lo hi∧within n lo hi≤hi:=by
 unfold within;have h1:=Int.emod_nonneg n (show hi - lo+1≠0 by omega);have h2:=Int.emod_lt_of_pos n (show 0<hi - lo+1 by omega)
 omega
theorem ag3(n m:Int)(hm:0<m):n % m=if n.tmod m<0 then n.tmod m+m else n.tmod m:=by
 rw[Int.tmod_eq_emod];have h1:=Int.emod_nonneg n (show m≠0 by omega);have h2:=Int.emod_lt_of_pos n hm;have e:(m.natAbs:Int)=m:=by omega
 split<;>split<;>omega
theorem py(n lo hi:Int)(w:World)(h0: -1000000000≤lo)(h1:lo≤hi)(h2:hi≤1000000000)(R:ak)
 (I:R (.returned (E (within n lo hi))) w):
 Calls prog 20 #[E n,E lo,E hi] w R:=by
 have hm:0<hi - lo+1:=by omega
 have F:=ag3 n (hi - lo+1) hm;have b1:n.tmod (hi - lo+1)<hi - lo+1:=Int.tmod_lt_of_pos n hm;have b2: -(hi - lo+1)<n.tmod (hi - lo+1):=by
  have q1:=Int.emod_nonneg n (show hi - lo+1≠0 by omega);rw[Int.tmod_eq_emod]
  split<;>omega
 have HX:=Z F;clear F;unfold within at I;rw[HX.O] at I;by_cases RB:n.tmod (hi - lo+1)<0
 ·rw[if_pos RB] at I;go_enter func20,ntmps20;go_wp2;exact I
 rw[if_neg RB] at I;go_enter func20,ntmps20;go_wp2;exact I
theorem XB{P:Prop}(h:P:=by
 have mu:tmps[p]?.getD undef= zq g:=by simpa using hp
 have wB:tmps[q]?.getD undef=r:=by simpa using hq
 simp[results,h,mu,wB,asAddr,run_loadVar_row w g t ty cs fr d A hu hd hi]):P:=h
theorem XC{P:Prop}(h:P:=by
 have mu:tmps[p]?.getD undef= zq g:=by simpa using hp
 have wB:tmps[q]?.getD undef=r:=by simpa using hq
 have GZ:tmps[u]?.getD undef=s:=by simpa using Nj
 simp[results,h,mu,wB,GZ,asAddr,run_loadVar_row w g t ty cs fr d A hu hd hi]):P:=h
theorem XD{P:Prop}(h:P:=by
 obtain⟨Y,c,rfl,hr,h1,h2,h3⟩:=hv;cases Y with
 |none=>
  have J:c=0:=h3 rfl;subst J;have pz:l= []:=n_ (by omega);subst pz;have he:∀w:World,(binOp .eql 22 (.slice none 0 0) (.slice none 0 0)).run prog w= .ok (.bool true) w:=fun _=>rfl;go_enter func139,ntmps139;go_wp2;exact I _ _ _ (bO _ _ _ _) dg
 |some a=>
  have he:∀w:World,(binOp .eql 22 (.slice (some a) l.length c) (.slice none 0 0)).run prog w= .ok (.bool false) w:=fun _=>rfl;have aU:=(World.ownsRow_made (base:=w.heap.size) (e:=5) (size:=1) w #[] 0 bj (by unfold maxLen;omega) rfl)
  have jb:=Js hr (.cells #[] 5);go_enter func139,ntmps139;go_wp2_with (at_builtin;go_must(refine kU (by rfl) (.tmp 5) (.tmp 6) 22 (by rfl) w 5 (.int .u8 0) 1 1 underlying22 Tryz.cP rfl (by decide) _ _ _ _ rfl aU _ _ _ _ rfl jb (fC _) h3 (by unfold maxLen;omega) (by omega) (by simp) ?_));intro lF c2 w2 dL bD;have aj:=bT (aD w _) bD (by simp) aU;clear bD aU jb hr;go_wp2;exact I _ _ _ dL aj):P:=h
open List (getElem_mem pairwise_append)
variable{ds xs:List Value}{B B' e g n size te:Nat}{Y:av}{d v v':Value}{aw4 w w':World}
structure Pr where
 id:Int
 num:Int
 text:List UInt8
 pair:List UInt8
 data:List UInt8
deriving DecidableEq
def mK:Pr:=⟨0,0,[],[],[]⟩
def CY(p q:Pr):Bool:=p.id==q.id&&(p.num==q.num&&(p.text==q.text&&(p.pair==q.pair&&p.data==q.data)))
theorem Nk(p q:Pr):CY p q=true↔p=q:=by
 obtain⟨a,b,c,d,e⟩:=p;obtain⟨a',b',c',d',e'⟩:=q;simp only[CY,Bool.and_eq_true,beq_iff_eq,Pr.mk.injEq]
def Bq(l m:List Pr):Bool:=decide (l=m)
theorem Tryz.Ar:(prog.info? 147).map (fun i=>(i.zero,i.size,i.bytes))=some (some (.agg jt),5,72):=by kernel_rfl
theorem Br(a:av)(n c:Nat){i j:Int}{s t:ByteArray}:∀u∈ [Value.int .i64 i,Value.int .i64 j,Value.string s,Value.string t,Value.slice a n c],u.oneCell'=true:=by
 intro u hu;simp at hu;rcases hu with rfl|rfl|rfl|rfl|rfl<;>rfl
structure PC(w:World)(d:Value)(p:Pr):Prop where
 hd:Bs w d p.data
 ld:p.data.length≤140737488351232
 lt:p.text.length≤140737488351232
 lp:p.pair.length≤140737488351232
 i0: -9223372036854775808≤p.id
 i1:p.id≤9223372036854775807
 n0: -9223372036854775808≤p.num
 n1:p.num≤9223372036854775807
theorem PC.below{p:Pr}(h:PC w d p)(U:Below w w w'):PC w' d p:=⟨h.hd.below U,h.ld,h.lt,h.lp,h.i0,h.i1,h.n0,h.n1⟩
def P5(w:World)(b o:Nat)(d:Value)(p:Pr):Prop:=w.cell? ⟨b,o,none⟩=some (.int .i64 p.id)∧w.cell? ⟨b,o+1,none⟩=some (.int .i64 p.num)∧w.cell? ⟨b,o+2,none⟩=some (.string (str p.text))∧w.cell? ⟨b,o+3,none⟩=some (.string (str p.pair))∧w.cell? ⟨b,o+4,none⟩=some d
theorem P5.below{b o:Nat}{p:Pr}(h:P5 w b o d p)(U:Below w w w'):P5 w' b o d p:=⟨cell_later U h.1,cell_later U h.2.1,cell_later U h.2.2.1,cell_later U h.2.2.2.1,cell_later U h.2.2.2.2⟩
def Ps(w:World)(v:Value)(l:List Pr):Prop:=
 ∃Y c,v= .slice Y l.length c∧l.length≤c∧c≤9223372036854775807∧(Y=none→c=0)∧
  (0<l.length→∃b o,Y=some ⟨b,o,none⟩∧∀(i:Nat)(h:i<l.length),∃d,P5 w b (o+i*5) d l[i]∧PC w d l[i])
theorem Ps.below{l:List Pr}(h:Ps w v l)(U:Below w w w'):Ps w' v l:=by
 obtain⟨Y,c,rfl,h1,h2,h3,h4⟩:=h;refine⟨Y,c,rfl,h1,h2,h3,fun h0=> ?_⟩;obtain⟨b,o,rfl,h5⟩:=h4 h0;refine⟨b,o,rfl,fun i hi=> ?_⟩;obtain⟨d,h6,h7⟩:=h5 i hi;exact⟨d,h6.below U,h7.below U⟩
def Pt(aw4 w:World)(v:Value)(l:List Pr):Prop:=
 ∃Y c,v= .slice Y l.length c∧l.length≤c∧c≤9223372036854775807∧(Y=none→c=0)∧
  (0<l.length→∃b o,Y=some ⟨b,o,none⟩∧∀(i:Nat)(h:i<l.length),∃d,P5 w b (o+i*5) d l[i]∧PC aw4 d l[i])
theorem Ps.pt{l:List Pr}(h:Ps w v l):Pt w w v l:=h
theorem Pt.below{l:List Pr}(h:Pt aw4 w v l)(U:Below w w w'):Pt aw4 w' v l:=by
 obtain⟨Y,c,rfl,h1,h2,h3,h4⟩:=h;refine⟨Y,c,rfl,h1,h2,h3,fun h0=> ?_⟩;obtain⟨b,o,rfl,h5⟩:=h4 h0;refine⟨b,o,rfl,fun i hi=> ?_⟩;obtain⟨d,h6,h7⟩:=h5 i hi;exact⟨d,h6.below U,h7⟩
def X(p:Value×Pr):List Value:= [.int .i64 p.2.id,.int .i64 p.2.num,.string (str p.2.text),.string (str p.2.pair),p.1]
def oQ(ds:List Value)(l:List Pr):List Value:=(ds.zip l).flatMap X
theorem XE{α:Type}(f:α→List Value)(hf:∀x,(f x).length=5):∀(l:List α)(i j:Nat)(hi:i<l.length),j<5→(l.flatMap f)[i*5+j]? =(f l[i])[j]?
 |[],i,j,hi,hj=>by simp at hi
 |x::l,0,j,hi,hj=>by
  rw[lT,Nat.zero_mul,zero_add,ug (by rw[hf];omega)]
  rfl
 |x::l,i+1,j,hi,hj=>by
  rw[lT,yH (by rw[hf];omega),hf,show(i+1) *5+j - 5=i*5+j by omega,XE f hf l i j (by simpa using hi) hj]
  rfl
theorem XF(ds:List Value)(l:List Pr)(h:ds.length=l.length)(d:Value)(p:Pr):oQ (ds++ [d]) (l++ [p])=oQ ds l++ [.int .i64 p.id,.int .i64 p.num,.string (str p.text),.string (str p.pair),d]:=by
 unfold oQ;rw[List.zip_append h,jZ]
 rfl
theorem G0(ds:List Value)(l:List Pr)(h:ds.length=l.length)(i:Nat)(hi:i<l.length)(j:Nat)(hj:j<5):(oQ ds l)[i*5+j]? =(X (ds[i]'(by omega),l[i]))[j]?:=by
 unfold oQ;rw[XE X (fun _=>rfl) (ds.zip l) i j (by rw[List.length_zip];omega) hj,List.getElem_zip]
def PB(p:Pr):Prop:=p.data.length≤140737488351232∧p.text.length≤140737488351232∧p.pair.length≤140737488351232∧ -9223372036854775808≤p.id∧p.id≤9223372036854775807∧ -9223372036854775808≤p.num∧p.num≤9223372036854775807
def cE(w:World)(B:Nat)(v:Value)(l:List Pr):Prop:=
 ∃ds:List Value,∃_:ds.length=l.length,w.ownsRow B 147 5 v l.length (oQ ds l)∧(∀(i:Nat)(h:i<l.length),w.ownsRow B 5 1 (ds[i]'(by omega)) l[i].data.length (bv l[i].data))∧ds.Pairwise CS
theorem cE.nil(w:World)(B:Nat):cE w B (.slice none 0 0) []:=⟨[],rfl,bO _ _ _ _,(fun i hi=>by simp at hi),.nil⟩
theorem cE.shape{l:List Pr}(h:cE w B v l):∃Y c,v= .slice Y l.length c:=by
 obtain⟨ds,_,h2,_⟩:=h;exact cR h2
theorem cE.below{l:List Pr}(h:cE w B v l)(U:Below w w w'):cE w' B v l:=by
 obtain⟨ds,h1,h2,h3,h4⟩:=h;exact⟨ds,h1,aR h2 U,fun i hi=>aR (h3 i hi) U,h4⟩
theorem cE.mono{l:List Pr}(h:cE w B v l)(hB:B'≤B):cE w B' v l:=by
 obtain⟨ds,h1,h2,h3,h4⟩:=h;exact⟨ds,h1,cm h2 hB,fun i hi=>cm (h3 i hi) hB,h4⟩
theorem cE.ps{l:List Pr}(h:cE w B v l)(U:∀p∈l,PB p):Ps w v l:=by
 obtain⟨ds,h1,h2,h3,_⟩:=h;obtain⟨Y,c,rfl⟩:=cR h2;have J:=xA h2;unfold maxLen at J;refine⟨Y,c,rfl,J.1,by omega,GV h2,fun h0=> ?_⟩;obtain⟨g,rfl⟩:=jF h2 h0;refine⟨g,0,rfl,fun i hi=> ?_⟩;have hB:=U _ (getElem_mem hi);have bZ:∀j,j<5→w.cell? ⟨g,0+i*5+j,none⟩=(X (ds[i]'(by omega),l[i]))[j]?:=fun j hj=>by
  rw[zero_add,←G0 ds l h1 i hi j hj];exact h2.cellAt _ (by
    have:i*5+j<l.length*5:=by omega
    omega)
 have hd:=h3 i hi;obtain⟨da,dc,XG⟩:=cR hd;refine⟨_,⟨bZ 0 (by omega),bZ 1 (by omega),bZ 2 (by omega),bZ 3 (by omega),bZ 4 (by omega)⟩,?_,hB.1,hB.2.1,hB.2.2.1,hB.2.2.2.1,hB.2.2.2.2.1,hB.2.2.2.2.2.1,hB.2.2.2.2.2.2⟩;rw[XG] at hd;show Bs w (ds[i]'(by omega)) l[i].data;rw[XG];exact(fO hd).2
theorem iZ.G1{c:Nat}(ho:w.ownsRow B e size (.slice Y n c) n xs)(A:w.grownBy w' (Value.slice Y n c).ownBlock)(he:te≠e):iZ te w w':=by
 intro base v m ys hy;refine j1 hy A fun k G J=> ?_;rcases ho.2 with⟨hn,_⟩|⟨g,cap,cur,hv,_,Nl,_⟩
 ·simp only[Value.slice.injEq] at hn;obtain⟨rfl,_,_⟩:=hn;simp[Value.ownBlock] at J
 simp only[Value.slice.injEq] at hv;obtain⟨rfl,_,_⟩:=hv;simp only[Value.ownBlock,Option.some.injEq] at J;subst J;exact i_ Nl hy (fun h=>he h.symm) G
theorem cE.push{l:List Pr}{p:Pr}(hl:ds.length=l.length)(As:∀(i:Nat)(h:i<l.length),w.ownsRow B 5 1 (ds[i]'(by omega)) l[i].data.length (bv l[i].data))
 (G:iZ 5 w w') (aU:w'.ownsRow B 147 5 v' (l.length+1) (oQ ds l++ [.int .i64 p.id,.int .i64 p.num,.string (str p.text),.string (str p.pair),d])) (he:w.ownsRow B 5 1 d p.data.length (bv p.data)) (Au:ds.Pairwise CS) (jG:∀v∈ds,CS v d):cE w' B v' (l++ [p]):=by
 refine⟨ds++ [d],by simp[hl],?_,fun i hi=> ?_,?_⟩
 ·rw[XF ds l hl]
  simpa using aU
 ·simp only[aK,ey,gi] at hi;by_cases h:i<l.length
  ·have h1:(ds++ [d])[i]'(by simp;omega)=ds[i]'(by omega):=List.getElem_append_left (by omega);have h2:(l++ [p])[i]'(by simp;omega)=l[i]:=List.getElem_append_left h;rw[h1,h2];exact G _ _ _ _ (As i h)
  ·obtain rfl:i=l.length:=by omega
   have h1:(ds++ [d])[l.length]'(by simp;omega)=d:=by
    rw[List.getElem_append_right (by omega)];simp[hl]
   have h2:(l++ [p])[l.length]'(by simp)=p:=by
    rw[List.getElem_append_right (by omega)];simp
   rw[h1,h2];exact G _ _ _ _ he
 rw[pairwise_append];refine⟨Au,by simp,fun a ha b U=> ?_⟩;obtain rfl:=dM.1 U;exact jG a ha
theorem cE.yK{l:List Pr}(h:cE w B v l)(A:w.grownBy w' (some g))(RC:g<B):cE w' B v l:=by
 obtain⟨ds,h1,h2,h3,h4⟩:=h;have key:∀{e size n:Nat}{u:Value}{xs:List Value},w.ownsRow B e size u n xs→w'.ownsRow B e size u n xs:=fun ho=>j1 ho A fun k G J=>by
  have:=(ho.lt k G).1;have:=Option.some.inj J
  omega
 exact⟨ds,h1,key h2,fun i hi=>key (h3 i hi),h4⟩
def eA(_:Pr)(_:av)(_:Nat):Zt:=Zt.a
instance auC{x:Pr}{a:av}{c:Nat}:CoeDep Zt (eA x a c) (Array Value):=⟨#[.int .i64 x.id,.int .i64 x.num,.string (str x.text),.string (str x.pair),.slice a x.data.length c]⟩
instance auD{x:Pr}{a:av}{c:Nat}:CoeDep Zt (eA x a c) (List Value):=⟨[.int .i64 x.id,.int .i64 x.num,.string (str x.text),.string (str x.pair),.slice a x.data.length c]⟩
def bL(_:Pr)(_:Value):Zt:=Zt.a
instance auE{x:Pr}{d:Value}:CoeDep Zt (bL x d) (Array Value):=⟨#[.int .i64 x.id,.int .i64 x.num,.string (str x.text),.string (str x.pair),d]⟩
instance auF{x:Pr}{d:Value}:CoeDep Zt (bL x d) (List Value):=⟨[.int .i64 x.id,.int .i64 x.num,.string (str x.text),.string (str x.pair),d]⟩
def Av(_:List UInt8)(_:av)(_:List UInt8)(_:Nat)(_:Int)(_:Bool)(_:List UInt8)(_:Int)(_:av)(_:List Pr)(_:Nat)(_:Int)(_:Int)(_:Int)(_:Bool):Zt:=Zt.a
instance auG{t:List UInt8}{a:av}{p:List UInt8}{c:Nat}{q:Int}{r:Bool}{s:List UInt8}{x:Int}{b:av}{l:List Pr}{d:Nat}{o:Int}{n:Int}{u:Int}{k:Bool}:CoeDep Zt (Av t a p c q r s x b l d o n u k) (Array Value):=⟨#[.string (str t),.slice a p.length c,E q,.bool r,.string (str s),E x,.slice b l.length d,E o,E n,E 0,E u,.bool k,.slice none 0 0,.string ⟨#[]⟩]⟩
instance auH{t:List UInt8}{a:av}{p:List UInt8}{c:Nat}{q:Int}{r:Bool}{s:List UInt8}{x:Int}{b:av}{l:List Pr}{d:Nat}{o:Int}{n:Int}{u:Int}{k:Bool}:CoeDep Zt (Av t a p c q r s x b l d o n u k) (List Value):=⟨[.string (str t),.slice a p.length c,E q,.bool r,.string (str s),E x,.slice b l.length d,E o,E n,E 0,E u,.bool k,.slice none 0 0,.string ⟨#[]⟩]⟩
def fj(_:List UInt8)(_:av)(_:List UInt8)(_:Nat)(_:Int)(_:Bool)(_:List UInt8)(_:Int)(_:av)(_:List Pr)(_:Nat)(_:Int)(_:Int)(_:Int):Zt:=Zt.a
instance auI{t:List UInt8}{a:av}{p:List UInt8}{c:Nat}{q:Int}{r:Bool}{s:List UInt8}{x:Int}{b:av}{l:List Pr}{d:Nat}{o:Int}{n:Int}{h:Int}:CoeDep Zt (fj t a p c q r s x b l d o n h) (Array Value):=⟨#[.string (str t),.slice a p.length c,E q,.bool r,.string (str s),E x,.slice b l.length d,E o,E n,E h]⟩
instance auJ{t:List UInt8}{a:av}{p:List UInt8}{c:Nat}{q:Int}{r:Bool}{s:List UInt8}{x:Int}{b:av}{l:List Pr}{d:Nat}{o:Int}{n:Int}{h:Int}:CoeDep Zt (fj t a p c q r s x b l d o n h) (List Value):=⟨[.string (str t),.slice a p.length c,E q,.bool r,.string (str s),E x,.slice b l.length d,E o,E n,E h]⟩
def qg(_:List UInt8)(_:av)(_:List UInt8)(_:Nat)(_:Int)(_:Bool)(_:List UInt8)(_:Int)(_:av)(_:List Pr)(_:Nat)(_:Int)(_:Int)(_:Int)(_:Int)(_:Bool)(_:av)(_:List Int)(_:Nat)(_:List UInt8):Zt:=Zt.a
instance auK{t:List UInt8}{a:av}{p:List UInt8}{c:Nat}{q:Int}{r:Bool}{s:List UInt8}{x:Int}{b:av}{l:List Pr}{d:Nat}{o:Int}{n:Int}{h:Int}{u:Int}{k:Bool}{e:av}{i:List Int}{f:Nat}{z:List UInt8}:CoeDep Zt (qg t a p c q r s x b l d o n h u k e i f z) (Array Value):=⟨#[.string (str t),.slice a p.length c,E q,.bool r,.string (str s),E x,.slice b l.length d,E o,E n,E h,E u,.bool k,.slice e i.length f,.string (str z)]⟩
instance auL{t:List UInt8}{a:av}{p:List UInt8}{c:Nat}{q:Int}{r:Bool}{s:List UInt8}{x:Int}{b:av}{l:List Pr}{d:Nat}{o:Int}{n:Int}{h:Int}{u:Int}{k:Bool}{e:av}{i:List Int}{f:Nat}{z:List UInt8}:CoeDep Zt (qg t a p c q r s x b l d o n h u k e i f z) (List Value):=⟨[.string (str t),.slice a p.length c,E q,.bool r,.string (str s),E x,.slice b l.length d,E o,E n,E h,E u,.bool k,.slice e i.length f,.string (str z)]⟩
theorem XH{P:Prop}(h:P:=by
 go_roundg (l.length - (k+1))
 case measure=>omega
 case rel=>exact⟨k+1,by omega,rfl,by go_num,bu,HN⟩):P:=h
theorem XI{P:Prop}(h:P:=by
 rw[←gu.O];refine dN fun h=>Nn ?_;have h1:=G2.O;rw[h,lG.O] at h1;exact(Option.some.inj h1).symm):P:=h
theorem XJ{P:Prop}(h:P:=by
 obtain rfl:r=true:=by
  rw[←gu.O];refine eN ?_;have:=HS.O
  rwa [gy (by omega),gy (by have:=oR.O;omega)] at this
 go_wp2;exact HR.O _ U):P:=h
open List (nil_append)
open Nat (add_mul)
def C2(w w':World)(v v':Value):Prop:=
 (∃b n n' c,v= .slice (some ⟨b,0,none⟩) n c∧v'= .slice (some ⟨b,0,none⟩) n' c∧w.grownBy w' (some b))∨((∃k,v'.ownBlock=some k∧w.heap.size≤k)∧w.grownBy w' none)
theorem AE{row:Option Nat}(h:w.grownBy w' none):w.grownBy w' row:=⟨h.os,h.tape,h.output,h.size,fun k G _=>h.block k G (by simp)⟩
theorem C2.grown(h:C2 w w' v v'):w.grownBy w' v.ownBlock:=by
 rcases h with⟨b,n,n',c,h1,h2,h3⟩|⟨⟨k,h1,h2⟩,h3⟩
 ·subst h1;exact h3
 exact AE h3
section
variable {P:Program} (w:World)
theorem XS{P:Prop}(h:P:=by
 rw[hr] at j2;simp only[Result.ok.injEq] at j2;obtain⟨rfl,rfl⟩:=j2;exact .inr ⟨⟨w.heap.size,rfl,Nat.le_refl _⟩,⟨rfl,rfl,rfl,by simp,fun k G _=>heap_alloc_old w.drew _ G⟩⟩):P:=h
theorem RI(base:Nat)(t ty e:TypeId)(i:TypeInfo)(z:Value)(size bytes:Nat)(ht:P.underlying t=some (.slice e))(hi:P.info? e=some i)(hz:i.zero=some z)
 (qX:i.size=size) (qY:i.bytes=bytes) (iY:z.cells.size=size) (bt:0<size)
 (v:Value) (n:Nat) (xs:List Value) (aU:w.ownsRow base e size v n xs)
 (a:Addr) (m c:Nat) (news:List Value) (hl:news.length=m*size) (nx:∀j u,news[j]? =some u→w.cell? (a.add j)=some u) (h1:∀u∈news,u.oneCell'=true)
 (h63:n+m≤maxLen) (gz:(n+m) *bytes≤140737488355328) (kG:base≤w.heap.size) (hm:0<m):
 ∃v' w',(Builtin.append_ #[t,t] ty #[v,.slice (some a) m c]).run P w= .ok v' w'∧w'.ownsRow base e size v' (n+m) (xs++news)∧C2 w w' v v':=by
 obtain⟨v',w',hr,h2,h3,_,_⟩:=run_append_own_at (P:=P) w base t ty e i z size bytes ht hi hz qX qY iY bt v n xs aU a m c news hl nx h1 h63 gz kG;refine⟨v',w',hr,h2,?_⟩;subst qX qY;have ahj:n+m≤9223372036854775807:=by simp only[maxLen] at h63;omega
 rcases aU.2 with⟨rfl,rfl⟩|⟨g,cap,cur,rfl,hbg,A,Ex,vg,dQ,htake⟩
 ·have j2:=run_append_nil (P:=P) w t ty e i z ht hi hz a m c news hl nx hm (by omega) (by have U:=gz;simp only[zero_add] at U;omega);exact XS
 by_cases BA:n+m≤cap
 ·have BC:n*i.size+news.length≤cur.size:=by rw[hl,dQ,←add_mul];exact uh _ BA
  have j2:=run_append_room (P:=P) w t ty e i ht hi g n cap cur A a m c news hl nx h1 BA BC;rw[hr] at j2;simp only[Result.ok.injEq] at j2;obtain⟨rfl,rfl⟩:=j2;exact .inl ⟨g,n,n+m,cap,rfl,rfl,h3⟩
 have holds:∀j u,xs[j]? =some u→w.cell? ((⟨g,0,none⟩:Addr).add j)=some u:=aU.cells (g:=g) rfl;have j2:=run_append_grow (P:=P) w t ty e i z ht hi hz ⟨g,0,none⟩ n cap xs aU.1 holds a m c news hl nx (by omega) (by omega) (growslice_fits (by omega) gz);exact XS
end
theorem ahk{P:Program}(base:Nat)(t ty e:TypeId)(i:TypeInfo)(z:Value)(size bytes:Nat)(ht:P.underlying t=some (.slice e))(hi:P.info? e=some i)(hz:i.zero=some z)
 (qX:i.size=size) (qY:i.bytes=bytes) (iY:z.cells.size=size) (bt:0<size)
 (a0:av) (aU:w.ownsRow base e size (.slice a0 0 0) 0 [])
 (Y:av) (m c:Nat) (news:List Value) (bQ:Rd w size Y m news) (h1:∀u∈news,u.oneCell'=true) (iN:Y=none→c=0)
 (h63:m≤maxLen) (gz:m*bytes≤140737488355328) (kG:base≤w.heap.size):
 ∃bK c' w',(Builtin.append_ #[t,t] ty #[.slice a0 0 0,.slice Y m c]).run P w= .ok (.slice bK m c') w'∧w'.ownsRow base e size (.slice bK m c') m news∧Below w w w':=by
 by_cases hm:0<m
 ·obtain⟨b,o,rfl,J⟩:=bQ.2 (by have:=Nat.mul_pos hm bt;omega);obtain⟨v',w',hr,h2,h3⟩:=RI (P:=P) w base t ty e i z size bytes ht hi hz qX qY iY bt _ 0 [] aU ⟨b,o,none⟩ m c news bQ.1 (by
   intro j q hj;have ti:j<m*size:=by rw[←bQ.1];exact(qe.1 hj).1
   rw[Addr.add_lit,J j ti];exact hj) h1 (by omega) (by simpa using gz) kG hm
  obtain⟨bK,c',rfl⟩:=cR h2;rw[zero_add,nil_append] at h2;rw[zero_add] at hr h3;refine⟨bK,c',w',hr,h2,?_⟩;rcases h3 with⟨g,n',auX,auY,q1,q2,q3⟩|⟨_,q3⟩
  ·simp only[Value.slice.injEq] at q1 q2;obtain⟨rfl,rfl,rfl⟩:=q1;have:=(xA h2).1
   omega
  exact dg.grown q3 bj (fun k G=>by cases G)
 obtain rfl:m=0:=by omega
 have dK:news= []:=n_ (by simpa using bQ.1);subst dK;refine⟨a0,0,w,?_,aU,Below.refl _ _⟩;have W:Src P i.size t (.slice Y 0 c) 0 [] w:=by
  cases Y with
  |none=>exact Src.ofNil w ht c
  |some a=>exact Src.ofSlice w ht a 0 c [] (by simp) (by simp) (by simp)
 exact run_append_nothing w t t ty e i ht hi a0 0 0 bj _ W
theorem XT{P:Program}{o:Oper}{a:Act}{K:Act→World→Prop}{Q:Exit→Act→World→Prop}(s x:Operand)(t:TypeId)
 (ho:o.op= .call {callee:= .builtin .append,args:=#[s,x],argTypes:=#[t,t]})
 (base:Nat) (e:TypeId) (z:Value) (size bytes:Nat) (ht:P.underlying t=some (.slice e)) (mn:(P.info? e).map (fun i=>(i.zero,i.size,i.bytes))=some (some z,size,bytes)) (iY:z.cells.size=size) (bt:0<size)
 (a0:av) (W:a.eval s= .slice a0 0 0) (aU:w.ownsRow base e size (.slice a0 0 0) 0 [])
 (Y:av) (m c:Nat) (news:List Value) (F:a.eval x= .slice Y m c) (bQ:Rd w size Y m news) (h1:∀u∈news,u.oneCell'=true) (iN:Y=none→c=0)
 (h63:m≤maxLen) (gz:m*bytes≤140737488355328) (kG:base≤w.heap.size)
 (h:∀bK c' w',w'.ownsRow base e size (.slice bK m c') m news→Below w w w'→K (a.put o.dst (.slice bK m c')) w'):o.wp P a w K Q:=by
 obtain⟨i,hi,hz,dJ,fV⟩:=info_parts mn;obtain⟨bK,c',w',hr,h2,h3⟩:=ahk (P:=P) base t o.type e i z size bytes ht hi hz dJ fV iY bt a0 aU Y m c news bQ h1 iN h63 gz kG;exact Rz
theorem yQ{P:Program}{ops:Array Oper}{o:Oper}{a:Act}{K:Act→World→Prop}{Q:Exit→Act→World→Prop}{awW:Prop}(oe:o.guard=none)(s x:Operand)(t:TypeId)
 (ho:o.op= .call {callee:= .builtin .append,args:=#[s,x],argTypes:=#[t,t]})
 (base:Nat) (e:TypeId) (z:Value) (size bytes:Nat) (ht:P.underlying t=some (.slice e)) (mn:(P.info? e).map (fun i=>(i.zero,i.size,i.bytes))=some (some z,size,bytes)) (iY:z.cells.size=size) (bt:0<size)
 (a0:av) (W:a.eval s= .slice a0 0 0) (aU:w.ownsRow base e size (.slice a0 0 0) 0 [])
 (Y:av) (m c:Nat) (news:List Value) (F:a.eval x= .slice Y m c) (bQ:Rd w size Y m news) (h1:∀u∈news,u.oneCell'=true) (iN:Y=none→c=0)
 (h63:m≤maxLen) (gz:m*bytes≤140737488355328) (kG:base≤w.heap.size)
 (h:∀bK c' w',w'.ownsRow base e size (.slice bK m c') m news→Below w w w'→K (a.put o.dst (.slice bK m c')) w'):
 if Region.wanted o (yielded ops a.tmps)=true then Oper.wp P o a w K Q else awW:=by
 have hw:Region.wanted o (yielded ops a.tmps)=true:=by simp[Region.wanted,oe]
 rw[if_pos hw];exact XT s x t ho base e z size bytes ht mn iY bt a0 W aU Y m c news F bQ h1 iN h63 gz kG h
theorem bG{a b c:World}(h:Below a a b)(h2:Below b b c):Below a a c:=h.trans (h2.mono h.size)
theorem ahl{P:Program}(base:Nat)(t ty e:TypeId)(i:TypeInfo)(z:Value)(size bytes:Nat)(ht:P.underlying t=some (.slice e))(hi:P.info? e=some i)(hz:i.zero=some z)
 (qX:i.size=size) (qY:i.bytes=bytes) (iY:z.cells.size=size) (bt:0<size)
 (a0:av) (n c0:Nat) (xs:List Value) (aU:w.ownsRow base e size (.slice a0 n c0) n xs)
 (Y:av) (m c:Nat) (news:List Value) (bQ:Rd w size Y m news) (h1:∀u∈news,u.oneCell'=true) (iN:Y=none→c=0)
 (h63:n+m≤maxLen) (gz:(n+m) *bytes≤140737488355328) (kG:base≤w.heap.size):
 ∃bK c' w',(Builtin.append_ #[t,t] ty #[.slice a0 n c0,.slice Y m c]).run P w= .ok (.slice bK (n+m) c') w'∧w'.ownsRow base e size (.slice bK (n+m) c') (n+m) (xs++news)∧w.grownBy w' (Value.slice a0 n c0).ownBlock∧((Value.slice bK (n+m) c').ownBlock=(Value.slice a0 n c0).ownBlock∨(Value.slice bK (n+m) c').ownBlock=some w.heap.size):=by
 by_cases hm:0<m
 ·obtain⟨b,o,rfl,J⟩:=bQ.2 (by have:=Nat.mul_pos hm bt;omega);obtain⟨v',w',hr,h2,h3,_,h5⟩:=run_append_own_at (P:=P) w base t ty e i z size bytes ht hi hz qX qY iY bt _ n xs aU ⟨b,o,none⟩ m c news bQ.1 (by
   intro j q hj;have ti:j<m*size:=by rw[←bQ.1];exact(qe.1 hj).1
   rw[Addr.add_lit,J j ti];exact hj) h1 h63 gz kG
  obtain⟨bK,c',rfl⟩:=cR h2;exact⟨bK,c',w',hr,h2,h3,h5⟩
 obtain rfl:m=0:=by omega
 have dK:news= []:=n_ (by simpa using bQ.1);subst dK;have W:Src P i.size t (.slice Y 0 c) 0 [] w:=by
  cases Y with
  |none=>obtain rfl:=iN rfl;exact Src.ofNil w ht 0
  |some a=>exact Src.ofSlice w ht a 0 c [] (by simp) (by simp) (by simp)
 exact⟨a0,c0,w,run_append_nothing w t t ty e i ht hi a0 n c0 (xA aU).1 _ W,by simpa using aU,World.grownBy.refl _ _,.inl (by cases a0<;>rfl)⟩
theorem ahm{P:Program}{o:Oper}{a:Act}{K:Act→World→Prop}{Q:Exit→Act→World→Prop}(s x:Operand)(t:TypeId)
 (ho:o.op= .call {callee:= .builtin .append,args:=#[s,x],argTypes:=#[t,t]})
 (base:Nat) (e:TypeId) (z:Value) (size bytes:Nat) (ht:P.underlying t=some (.slice e)) (mn:(P.info? e).map (fun i=>(i.zero,i.size,i.bytes))=some (some z,size,bytes)) (iY:z.cells.size=size) (bt:0<size)
 (a0:av) (n c0:Nat) (xs:List Value) (W:a.eval s= .slice a0 n c0) (aU:w.ownsRow base e size (.slice a0 n c0) n xs)
 (Y:av) (m c:Nat) (news:List Value) (F:a.eval x= .slice Y m c) (bQ:Rd w size Y m news) (h1:∀u∈news,u.oneCell'=true) (iN:Y=none→c=0)
 (h63:n+m≤maxLen) (gz:(n+m) *bytes≤140737488355328) (kG:base≤w.heap.size)
 (h:∀bK c' w',w'.ownsRow base e size (.slice bK (n+m) c') (n+m) (xs++news)→w.grownBy w' (Value.slice a0 n c0).ownBlock→((Value.slice bK (n+m) c').ownBlock=(Value.slice a0 n c0).ownBlock∨(Value.slice bK (n+m) c').ownBlock=some w.heap.size)→K (a.put o.dst (.slice bK (n+m) c')) w'):o.wp P a w K Q:=by
 obtain⟨i,hi,hz,dJ,fV⟩:=info_parts mn;obtain⟨bK,c',w',hr,h2,h3,h4⟩:=ahl (P:=P) base t o.type e i z size bytes ht hi hz dJ fV iY bt a0 n c0 xs aU Y m c news bQ h1 iN h63 gz kG;unfold Oper.wp execOp;simp only[ho,resolve,invoke,builtin,Sem.run_bind,Sem.run_pure,Result.andThen_ok,List.map_toArray,List.map_cons,List.map_nil,W,F,hr];exact h bK c' w' h2 h3 h4
theorem ig{P:Program}{ops:Array Oper}{o:Oper}{a:Act}{K:Act→World→Prop}{Q:Exit→Act→World→Prop}{awW:Prop}(oe:o.guard=none)(s x:Operand)(t:TypeId)
 (ho:o.op= .call {callee:= .builtin .append,args:=#[s,x],argTypes:=#[t,t]})
 (base:Nat) (e:TypeId) (z:Value) (size bytes:Nat) (ht:P.underlying t=some (.slice e)) (mn:(P.info? e).map (fun i=>(i.zero,i.size,i.bytes))=some (some z,size,bytes)) (iY:z.cells.size=size) (bt:0<size)
 (a0:av) (n c0:Nat) (xs:List Value) (W:a.eval s= .slice a0 n c0) (aU:w.ownsRow base e size (.slice a0 n c0) n xs)
 (Y:av) (m c:Nat) (news:List Value) (F:a.eval x= .slice Y m c) (bQ:Rd w size Y m news) (h1:∀u∈news,u.oneCell'=true) (iN:Y=none→c=0)
 (h63:n+m≤maxLen) (gz:(n+m) *bytes≤140737488355328) (kG:base≤w.heap.size)
 (h:∀bK c' w',w'.ownsRow base e size (.slice bK (n+m) c') (n+m) (xs++news)→w.grownBy w' (Value.slice a0 n c0).ownBlock→((Value.slice bK (n+m) c').ownBlock=(Value.slice a0 n c0).ownBlock∨(Value.slice bK (n+m) c').ownBlock=some w.heap.size)→K (a.put o.dst (.slice bK (n+m) c')) w'):
 if Region.wanted o (yielded ops a.tmps)=true then Oper.wp P o a w K Q else awW:=by
 have hw:Region.wanted o (yielded ops a.tmps)=true:=by simp[Region.wanted,oe]
 rw[if_pos hw];exact ahm s x t ho base e z size bytes ht mn iY bt a0 n c0 xs W aU Y m c news F bQ h1 iN h63 gz kG h
def aS(id:Int):Nat:=
 if id=1∨id=23∨id=25∨id=36∨id=37∨id=40∨id=41∨id=42 then 1
 else if id=19∨id=33∨id=34∨id=35 then 2
 else if id=2∨id=17∨id=24∨id=39 then 3
 else if id=11 then 4
 else if id=3∨id=8∨id=18∨id=21∨id=26∨id=28∨id=31 then 5
 else if id=9∨id=22 then 6
 else if id=38 then 7
 else 0
def wJ(id:Int):Nat:=
 if id=1∨id=2∨id=3∨id=8∨id=9 then 1
 else if id=11 then 2
 else if id=17 then 3
 else if id=18∨id=19∨id=26∨id=36∨id=37∨id=40∨id=41∨id=42 then 4
 else if id=21∨id=22 then 5
 else if id=23∨id=25 then 6
 else if id=24 then 7
 else if id=28 then 8
 else if id=31 then 9
 else if id=33∨id=34∨id=39 then 10
 else if id=35 then 11
 else if id=38 then 12
 else 0
def YB:Nat→Int
 |1=>65544|2=>264|3=>16390|4=>4|5=>32774|6=>2|7=>65536|8=>16388|9=>51956|10=>6|11=>8|12=> -12290|_=>0
def Sa:Nat→List Int
 |1=> [3,16]|2=> [3,8]|3=> [1,2,14]|4=> [2]|5=> [1,2,15]|6=> [1]|7=> [16]|8=> [2,14]|9=> [2,4,5,6,7,9,11,14,15]|10=> [1,2]|11=> [3]|12=> [1,2,3,4,5,6,7,8,9,10,11,14,15,16]|_=> []
def Hh(id:Int):Int:=YB (wJ id)
def ch(id wh:Int):Bool:=(Sa (wJ id)).contains wh
def pE(id wh:Int):Bool:=decide (id=38∨id=11∧wh=3)
def Dg(ps:List Int):Int:=ps.foldl (fun s p=>bits .or .i64 s (wrap64 (2 ^ p.toNat))) 0
theorem ah0(ps:List Int)(p:Int):Dg (ps++ [p])=bits .or .i64 (Dg ps) (wrap64 (2 ^ p.toNat)):=by simp[Dg,List.foldl_append]
def Sc(pl wh:Int):Bool:=bits .and .i64 (pl / 2 ^ wh.toNat) 1==1
theorem YC(id:Int):wJ id<13:=by
 unfold wJ
 repeat' split
 all_goals omega
theorem ah1:∀c:Fin 13,∀w:Fin 16,Sc (YB c.val) ((w.val:Int)+1)=(Sa c.val).contains ((w.val:Int)+1):=by decide+kernel
theorem ah2(id wh:Int)(h1:1≤wh)(h2:wh≤16):Sc (Hh id) wh=ch id wh:=by
 have:=ah1 ⟨wJ id,YC id⟩ ⟨(wh - 1).toNat,by omega⟩;have e:(((wh - 1).toNat:Nat):Int)+1=wh:=by omega
 simp only[e] at this;exact this
theorem ah3:∀c:Fin 13,∀x∈Sa c.val,1≤x∧x≤16:=by decide+kernel
theorem ah4(id wh:Int)(h:wh<1∨16<wh):ch id wh=false:=by
 cases hm:ch id wh with
 |false=>rfl
 |true=>
  have:=ah3 ⟨wJ id,YC id⟩ wh (by unfold ch at hm;simpa using hm)
  omega
variable{o:Obj}
theorem aA(h:w.heap[g]? =some o)(U:Below w w w'):w'.heap[g]? =some o:=by
 rw[U.block g (eI.1 h).1];exact h
theorem ed{a b c:World}(h:Below a a b)(h2:Below b b c):Below a a c:=h.trans (h2.mono h.size)
theorem ag4(w:World):Bs w (.slice none 0 0) []:=⟨none,0,rfl,Rd.nil _ _ _,Nat.le_refl _,by omega,fun _=>rfl⟩
theorem Jw{P:Program}{fn:Func}{p q u:Tmp}{ty:TypeId}(h:fn.results=#[.cell p ty,.tmp q,.tmp u])(tmps:Array Value)(w:World)(g:Nat)(t:TypeId)(cs:Array Value)(fr:Nat×Nat)(d:TypeDesc)(r s:Value)
 (hp:tmps.getD p undef= zq g) (hq:tmps.getD q undef=r) (Nj:tmps.getD u undef=s) (A:w.heap[g]? =some (.cells cs t fr))
 (hu:P.underlying ty=some d) (hd:(match d with| .struct _| .array _ _=>true|_=>false)=true) (hi:(P.info? ty).map (·.size)=some cs.size):
 (results fn tmps).run P w= .ok (.tuple #[.agg cs,r,s]) w:=by
 exact XC
theorem Aw{P:Program}{fn:Func}{p q:Tmp}{ty:TypeId}(h:fn.results=#[.cell p ty,.tmp q])(tmps:Array Value)(w:World)(g:Nat)(t:TypeId)(cs:Array Value)(fr:Nat×Nat)(d:TypeDesc)(r:Value)
 (hp:tmps.getD p undef= zq g) (hq:tmps.getD q undef=r) (A:w.heap[g]? =some (.cells cs t fr))
 (hu:P.underlying ty=some d) (hd:(match d with| .struct _| .array _ _=>true|_=>false)=true) (hi:(P.info? ty).map (·.size)=some cs.size):
 (results fn tmps).run P w= .ok (.tuple #[.agg cs,r]) w:=by
 exact XB
theorem XK(v:Value)(l:List UInt8)(w:World)(hv:Bs w v l)(hl:l.length≤140737488355328)(R:ak)
 (I:∀Y c w',w'.ownsRow w 5 1 (.slice Y l.length c) l.length (bv l)→Below w w w'→R (.returned (.slice Y l.length c)) w'):
 Calls prog 139 #[v] w R:=by
 exact XD
theorem ju{row:Option Nat}(h:Below w w w'):w.grownBy w' row:=⟨h.os,h.tape,h.output,h.size,fun k G _=>h.block k G⟩
structure No(w w':World):Prop where
 ex:∃q os,w'=Sort.grow (w.drewN q) os
theorem No.below{x:World}(h:No w x):Below w w x:=by
 obtain⟨q,os,rfl⟩:=h;refine⟨rfl,rfl,rfl,?_,fun k G=> ?_⟩
 ·show w.heap.size≤(w.heap++os).size;simp
 show(w.heap++os)[k]? =w.heap[k]?;exact Array.getElem?_append_left G
open Nat (add_zero)
theorem ahA{P:Program}(w:World)(b o:Nat)(ty:TypeId)(cs:List Value)(d:TypeDesc)(J:∀j,j<cs.length→w.cell? ⟨b,o+j,none⟩=cs[j]?)
 (hu:P.underlying ty=some d) (hd:(match d with| .struct _| .array _ _=>true|_=>false)=true) (hi:(P.info? ty).map (·.size)=some cs.length):
 (loadVar ty ⟨b,o,none⟩).run P w= .ok (.agg cs.toArray) w:=by
 have hl:(loadCells ⟨b,o,none⟩ cs.length).run P w= .ok cs.toArray w:=
  run_loadCells_list (P:=P) w ⟨b,o,none⟩ cs (fun j v hv=>by
   rw[Addr.add_lit,J j (qe.1 hv).1];exact hv)
 cases hq:P.info? ty with
 |none=>simp[hq] at hi
 |some i=>
  have W:i.size=cs.length:=by simpa [hq] using hi
  have ahB:(isAgg ty).run P w= .ok true w:=by
   unfold isAgg;rw[Sem.run_bind,run_underlying hu w];cases d<;>simp_all
  simp[loadVar,Sem.run_bind,ahB,sizeOf,typeInfo,hq,W,hl]
theorem ahC{P:Program}{ops:Array Oper}{rest:List Oper}{o:Oper}{a:Act}{Q:Exit→Act→World→Prop}(oe:o.guard=none)(ty:TypeId)(x:Operand)(ho:o.op= .load ty x)
 (b off:Nat) (F:a.eval x= .pointer (some ⟨b,off,none⟩)) (cs:List Value) (d:TypeDesc) (J:∀j,j<cs.length→w.cell? ⟨b,off+j,none⟩=cs[j]?)
 (hu:P.underlying ty=some d) (hd:(match d with| .struct _| .array _ _=>true|_=>false)=true) (hi:(P.info? ty).map (·.size)=some cs.length)
 (h:wpList P ops Q rest (a.put o.dst (.agg cs.toArray)) w):wpList P ops Q (o::rest) a w:=
 wpList_plain oe fun K hK=>by
  unfold Oper.wp execOp;simp only[ho,F,Instr.loadAt,Instr.sureAddr,Sem.run_bind,Sem.run_pure,Result.andThen_ok,ahA w b off ty cs d J hu hd hi];exact hK _ _ h
theorem ahD{P:Program}(w:World)(b o:Nat)(ty:TypeId)(cells:Array Value)(J:∀j,j<cells.size→(w.cell? ⟨b,o+j,none⟩).isSome=true)(hf:∀j,j<cells.size→w.frozen? ⟨b,o+j,none⟩=false)(hi:(P.info? ty).map (·.size)=some cells.size)
 (h1:cells.all (·.oneCell')=true):(storeVar ty ⟨b,o,none⟩ (.agg cells)).run P w= .ok () (w.setCells b o cells.toList):=by
 have:=run_storeCells_cells (P:=P) b o cells.toList 0 w (by simpa using J) (by simpa using hf) (fun v hv=>(Array.all_eq_true_iff_forall_mem.1 h1) v (by simpa using hv));simp only[add_zero] at this;cases hq:P.info? ty with
 |none=>simp[hq] at hi
 |some i=>
  have W:cells.size=i.size:=by simp[hq] at hi;omega
  simp[storeVar,sizeOf,typeInfo,hq,Value.cells,W,this]
theorem EF{P:Program}{ops:Array Oper}{rest:List Oper}{o:Oper}{a:Act}{Q:Exit→Act→World→Prop}(oe:o.guard=none)(ty:TypeId)(x y:Operand)(ho:o.op= .store ty x y)
 (b off:Nat) (cells:Array Value) (F:a.eval x= .pointer (some ⟨b,off,none⟩)) (hy:a.eval y= .agg cells)
 (J:∀j,j<cells.size→(w.cell? ⟨b,off+j,none⟩).isSome=true) (hf:∀j,j<cells.size→w.frozen? ⟨b,off+j,none⟩=false) (hi:(P.info? ty).map (·.size)=some cells.size) (h1:cells.all (·.oneCell')=true)
 (h:wpList P ops Q rest (a.put o.dst undef) (w.setCells b off cells.toList)):wpList P ops Q (o::rest) a w:=
 wpList_plain oe fun K hK=>by
  unfold Oper.wp execOp;simp only[ho,F,hy,Instr.storeAt,Instr.sureAddr,Sem.run_bind,Sem.run_pure,Result.andThen_ok,ahD w b off ty cells J hf hi h1];exact hK _ _ h
theorem iT {P:Program}{ops:Array Oper}{rest:List Oper}{a:Act}{w:World}{Q:Exit→Act→World→Prop}{t2 ps aft}(n ty x b off:Nat)(cs:List Value){d:TypeDesc}(J:∀j,j<cs.length→w.cell? ⟨b,off+j,none⟩=cs[j]?)(hu:P.underlying ty=some d)(h:wpList P ops Q rest (a.put (some n) (.agg cs.toArray)) w)(F:a.eval (.tmp x)= .pointer (some ⟨b,off,none⟩):=by rfl)(hd:(match d with|.struct _|.array _ _=>true|_=>false)=true:=by rfl)(hi:(P.info? ty).map (·.size)=some cs.length:=by kernel_rfl):wpList P ops Q (⟨some n,.load ty (.tmp x),t2,ps,aft,none⟩::rest) a w:=ahC rfl ty (.tmp x) rfl b off F cs d J hu hd hi h
theorem kJ {P:Program}{ops:Array Oper}{rest:List Oper}{a:Act}{w:World}{Q:Exit→Act→World→Prop}{t2 ps aft}(n ty x g:Nat){cs:Array Value}{d:TypeDesc}(A:w.heap[g]? =some (.cells cs ty (0,0)))(hu:P.underlying ty=some d)(h:wpList P ops Q rest (a.put (some n) (.agg cs)) w)(F:a.eval (.tmp x)= .pointer (some ⟨g,0,none⟩):=by rfl)(hd:(match d with|.struct _|.array _ _=>true|_=>false)=true:=by rfl)(hi:(P.info? ty).map (·.size)=some cs.size:=by kernel_rfl):wpList P ops Q (⟨some n,.load ty (.tmp x),t2,ps,aft,none⟩::rest) a w:=wpList_load_row rfl ty (.tmp x) rfl g F ty cs (0,0) d A hu hd hi h
theorem gw {P:Program}{ops:Array Oper}{rest:List Oper}{a:Act}{w:World}{Q:Exit→Act→World→Prop}{t2 ps aft}(ty x y g:Nat){old cells:Array Value}(A:w.heap[g]? =some (.cells old ty (0,0)))(h:wpList P ops Q rest (a.put none undef) (w.setRow g cells))(F:a.eval (.tmp x)= .pointer (some ⟨g,0,none⟩):=by rfl)(hy:a.eval (.tmp y)= .agg cells:=by rfl)(hi:(P.info? ty).map (·.size)=some cells.size:=by kernel_rfl)(hold:old.size=cells.size:=by rfl)(h1:cells.all (·.oneCell')=true:=by simp[Value.oneCell']):wpList P ops Q (⟨none,.store ty (.tmp x) (.tmp y),t2,ps,aft,none⟩::rest) a w:=wpList_store_row rfl ty (.tmp x) (.tmp y) rfl g cells F hy ty old A hi hold h1 h
variable{base:Nat}{M M':Nat→Prop}
structure Sep(M M':Nat→Prop)(w w':World):Prop where
 os:w'.os=w.os
 tape:w'.tape=w.tape
 output:w'.output=w.output
 size:w.heap.size≤w'.heap.size
 block:∀b,b<w.heap.size→¬M b→w'.heap[b]? =w.heap[b]?
 new:∀b,M' b→M b∨w.heap.size≤b
 fl:∀awX,(∃m,M m∧m≤awX)→∃m,M' m∧m≤awX
theorem Sep.refl(M:Nat→Prop)(w:World):Sep M M w w:=⟨rfl,rfl,rfl,Nat.le_refl _,fun _ _ _=>rfl,fun _ h=> .inl h,fun _ h=>h⟩
theorem Sep.trans{CZ:Nat→Prop}{a b c:World}(h:Sep M M' a b)(k:Sep M' CZ b c):Sep M CZ a c:=
 ⟨k.os.trans h.os,k.tape.trans h.tape,k.output.trans h.output,aJ h.size k.size,
  fun i hi hM=>(k.block i (eV hi h.size) (fun hm=>by
   rcases h.new i hm with h1|h1
   ·exact hM h1
   omega)).trans (h.block i hi hM),
  fun i hi=>by
   rcases k.new i hi with h1|h1
   ·exact h.new i h1
   have:=h.size;exact .inr (by omega),fun awX hF=>k.fl awX (h.fl awX hF)⟩
theorem Sep.cL(h:Below w w w'):Sep M M w w':=⟨h.os,h.tape,h.output,h.size,fun b U _=>h.block b U,fun _ h=> .inl h,fun _ h=>h⟩
theorem Sep.below{a:World}(h:Sep M M' a w)(U:Below w w w'):Sep M M' a w':=h.trans (.cL U)
theorem Sep.kV{row:Option Nat}(h:w.grownBy w' row)(hr:∀k,row=some k→M k):Sep M M w w':=
 ⟨h.os,h.tape,h.output,h.size,fun b U hM=>h.block b U (fun e=>hM (hr b e.symm)),fun _ h=> .inl h,fun _ h=>h⟩
theorem Sep.more{CZ:Nat→Prop}(h:Sep M M' w w')(hm:∀b,CZ b→M' b∨w.heap.size≤b)(hf:∀awX,(∃m,M' m∧m≤awX)→∃m,CZ m∧m≤awX):Sep M CZ w w':=
 ⟨h.os,h.tape,h.output,h.size,h.block,fun b U=>by
  rcases hm b U with h1|h1
  ·exact h.new b h1
  exact .inr h1,fun awX hF=>hf awX (h.fl awX hF)⟩
theorem Sep.low(h:Sep M M' w w')(hB:B≤w.heap.size)(hM:∀b,M b→B≤b):Below B w w':=
 ⟨h.os,h.tape,h.output,h.size,fun k G=>h.block k (by omega) (fun hm=>by have:=hM k hm;omega)⟩
def Safe(M:Nat→Prop)(w:World)(p:World→Prop):Prop:=∀M' w',Sep M M' w w'→p w'
theorem Safe.O{p:World→Prop}(h:Safe M w p):p w:=h M w (.refl M w)
theorem Safe.sep{p:World→Prop}(h:Safe M w p)(W:Sep M M' w w'):Safe M' w' p:=fun CZ Np k=>h CZ Np (W.trans k)
theorem Safe.imp{p q:World→Prop}(h:Safe M w p)(hi:∀x,p x→q x):Safe M w q:=fun M' w' k=>hi w' (h M' w' k)
theorem XN(h:w.ownsRow base e size v n xs)(hv:∀k,v.ownBlock=some k→¬M k):Safe M w fun x=>x.ownsRow base e size v n xs:=fun M' w' s=>by
 refine⟨h.1,?_⟩;rcases h.2 with hn|⟨g,cap,cur,rfl,hbg,A,rest⟩
 ·exact .inl hn
 refine .inr ⟨g,cap,cur,rfl,hbg,?_,rest⟩;rw[s.block g (eI.1 A).1 (hv g rfl)];exact A
theorem ah8(ps:List Int)(z:Int)(hz:Dg ps=z)(hp:∀p∈ps,0≤p∧p≤64)(Y:av)(n c:Nat)(hn:n=ps.length)(hm:ps.length≤1000)(w:World)(cs:List Value)(hr:Rd w 1 Y n cs)(dQ:cs=ps.map (Value.int .i64))(R:ak)
 (I:R (.returned (E z)) w):
 Calls prog 223 #[.slice Y n c] w R:=by
 subst hz;subst hn;subst dQ;go_enter func223,ntmps223;go_wp2;go_loop [3,5,8] (fun s _ i=>∃k:Nat,k≤ps.length∧i= .int .i64 k∧∃z:Int,Hid (z=Dg (ps.take k))∧s= .int .i64 z) (fun _ _ i=>ps.length - (intOf i).toNat)
 case atStart=>exact⟨0,bP _,rfl,0,rfl,rfl⟩
 case round=>
  obtain⟨k,G,rfl,z,hz,rfl⟩:=hrel;by_cases au:k<ps.length
  ·have bo:(k:Int)<(ps.length:Int):=by omega
   obtain⟨b,o,rfl,bg⟩:=hr.2 (by omega);have ur:=bg k (by omega);rw[List.getElem?_map,dW au,Option.map_some] at ur;obtain⟨h0,h64⟩:=hp _ (getElem_mem au);have HG:Hid (bits .or .i64 z (wrap64 (2 ^ (ps[k]).toNat))=Dg (ps.take (k+1))):=by rw[kF au,ah0,←hz.O];exact Z rfl
   obtain⟨p,sw⟩:=ai (ps[k]);rw[sw] at HG h0 h64 ur;clear bg hr hz sw;go_wp2;go_round
   case rel=>exact⟨k+1,by omega,by go_num,_,Z HG.O,by simp⟩
   case measure=>simp[intOf];omega
  have bo:¬(k:Int)<(ps.length:Int):=by omega
  have hf:z=Dg ps:=by rw[hz.O,gy (by omega)]
  clear hz;subst hf;go_wp2;exact I
theorem qx(ps:List Int)(z:Int)(hz:Dg ps=z)(hp:∀p∈ps,0≤p∧p≤64)(n:Nat)(hn:n=ps.length)(hm:ps.length≤1000)(vs:Array Value)(W:vs.toList=ps.map (Value.int .i64))(t K:Nat)(w:World)(hK:K=w.heap.size)(R:ak)
 (I:R (.returned (E z)) (w.alloc (.cells vs t))):
 Calls prog 223 #[.slice (some ⟨K,0,none⟩) n n] (w.alloc (.cells vs t)) R:=by
 subst hK;refine ah8 ps z hz hp _ n n hn hm _ vs.toList (dO w vs t 1 n ?_) W R I;have:=congrArg List.length W;simp only[j0] at this;rw[Nat.mul_one,hn,←this];simp
theorem qy(w:World)(o:Obj)(t:Nat)(k pl:Value):((w.alloc (.cells #[k,pl] t)).alloc o).heap[w.heap.size]? =some (.cells #[k,pl] t (0,0))∧Below w w ((w.alloc (.cells #[k,pl] t)).alloc o):=
 ⟨js (aH w _),(aD _ _).alloc (by simp) _⟩
theorem ah9(w:World)(t:Nat)(k pl:Value):(w.alloc (.cells #[k,pl] t)).heap[w.heap.size]? =some (.cells #[k,pl] t (0,0))∧Below w w (w.alloc (.cells #[k,pl] t)):=
 ⟨aH w _,aD _ _⟩
theorem aia(w:World)(R:ak)(I:∀w',Below w w w'→R (.returned (.agg #[E 1,E (65544)])) w'):
 Calls prog 210 #[E 1] w R:=by
 have HR:=Z I;clear I;go_enter func210,ntmps210;have eF:=qx [3,16] 65544 (by decide+kernel) (by decide) 2 rfl (by decide) #[Value.int .i64 3,Value.int .i64 16] rfl 3;go_wp2_with (go_at_call 223;refine eF _ _ ?_ _ ?_;· simp);have he:=qy w (.cells #[Value.int .i64 3,Value.int .i64 16] 3) 252 (Value.int .i64 1) (Value.int .i64 (65544));refine bodyPost_ret (results_cell_row rfl _ _ w 252 #[Value.int .i64 1,Value.int .i64 (65544)] (0,0) _ rfl he.1 underlying252 rfl (by kernel_rfl)) rfl ?_;exact HR.O _ he.2
theorem aib(w:World)(R:ak)(I:∀w',Below w w w'→R (.returned (.agg #[E 3,E (65544)])) w'):
 Calls prog 210 #[E 2] w R:=by
 have HR:=Z I;clear I;go_enter func210,ntmps210;have eF:=qx [3,16] 65544 (by decide+kernel) (by decide) 2 rfl (by decide) #[Value.int .i64 3,Value.int .i64 16] rfl 3;go_wp2_with (go_at_call 223;refine eF _ _ ?_ _ ?_;· simp);have he:=qy w (.cells #[Value.int .i64 3,Value.int .i64 16] 3) 252 (Value.int .i64 3) (Value.int .i64 (65544));refine bodyPost_ret (results_cell_row rfl _ _ w 252 #[Value.int .i64 3,Value.int .i64 (65544)] (0,0) _ rfl he.1 underlying252 rfl (by kernel_rfl)) rfl ?_;exact HR.O _ he.2
theorem YK{P:Prop}(h:P:=by
 have HR:=Z I;clear I;go_enter func210,ntmps210;have eF:=qx [3,16] 65544 (by decide+kernel) (by decide) 2 rfl (by decide) #[Value.int .i64 3,Value.int .i64 16] rfl 3;go_wp2_with (go_at_call 223;refine eF _ _ ?_ _ ?_;· simp);have he:=qy w (.cells #[Value.int .i64 3,Value.int .i64 16] 3) 252 (Value.int .i64 5) (Value.int .i64 (65544));refine bodyPost_ret (results_cell_row rfl _ _ w 252 #[Value.int .i64 5,Value.int .i64 (65544)] (0,0) _ rfl he.1 underlying252 rfl (by kernel_rfl)) rfl ?_;exact HR.O _ he.2):P:=h
theorem aic(w:World)(R:ak)(I:∀w',Below w w w'→R (.returned (.agg #[E 5,E (65544)])) w'):
 Calls prog 210 #[E 3] w R:=by
 exact YK
theorem aid(w:World)(R:ak)(I:∀w',Below w w w'→R (.returned (.agg #[E 5,E (65544)])) w'):
 Calls prog 210 #[E 8] w R:=by
 exact YK
theorem aie(w:World)(R:ak)(I:∀w',Below w w w'→R (.returned (.agg #[E 6,E (65544)])) w'):
 Calls prog 210 #[E 9] w R:=by
 have HR:=Z I;clear I;go_enter func210,ntmps210;have eF:=qx [3,16] 65544 (by decide+kernel) (by decide) 2 rfl (by decide) #[Value.int .i64 3,Value.int .i64 16] rfl 3;go_wp2_with (go_at_call 223;refine eF _ _ ?_ _ ?_;· simp);have he:=qy w (.cells #[Value.int .i64 3,Value.int .i64 16] 3) 252 (Value.int .i64 6) (Value.int .i64 (65544));refine bodyPost_ret (results_cell_row rfl _ _ w 252 #[Value.int .i64 6,Value.int .i64 (65544)] (0,0) _ rfl he.1 underlying252 rfl (by kernel_rfl)) rfl ?_;exact HR.O _ he.2
theorem aif(w:World)(R:ak)(I:∀w',Below w w w'→R (.returned (.agg #[E 4,E (264)])) w'):
 Calls prog 210 #[E 11] w R:=by
 have HR:=Z I;clear I;go_enter func210,ntmps210;have eF:=qx [3,8] 264 (by decide+kernel) (by decide) 2 rfl (by decide) #[Value.int .i64 3,Value.int .i64 8] rfl 3;go_wp2_with (go_at_call 223;refine eF _ _ ?_ _ ?_;· simp);have he:=qy w (.cells #[Value.int .i64 3,Value.int .i64 8] 3) 252 (Value.int .i64 4) (Value.int .i64 (264));refine bodyPost_ret (results_cell_row rfl _ _ w 252 #[Value.int .i64 4,Value.int .i64 (264)] (0,0) _ rfl he.1 underlying252 rfl (by kernel_rfl)) rfl ?_;exact HR.O _ he.2
theorem aih(w:World)(R:ak)(I:∀w',Below w w w'→R (.returned (.agg #[E 3,E (16390)])) w'):
 Calls prog 210 #[E 17] w R:=by
 have HR:=Z I;clear I;go_enter func210,ntmps210;have eF:=qx [1,2,14] 16390 (by decide+kernel) (by decide) 3 rfl (by decide) #[Value.int .i64 1,Value.int .i64 2,Value.int .i64 14] rfl 3;go_wp2_with (go_at_call 223;refine eF _ _ ?_ _ ?_;· simp);have he:=qy w (.cells #[Value.int .i64 1,Value.int .i64 2,Value.int .i64 14] 3) 252 (Value.int .i64 3) (Value.int .i64 (16390));refine bodyPost_ret (results_cell_row rfl _ _ w 252 #[Value.int .i64 3,Value.int .i64 (16390)] (0,0) _ rfl he.1 underlying252 rfl (by kernel_rfl)) rfl ?_;exact HR.O _ he.2
theorem YL{P:Prop}(h:P:=by
 have HR:=Z I;clear I;go_enter func210,ntmps210;have eF:=qx [2] 4 (by decide+kernel) (by decide) 1 rfl (by decide) #[Value.int .i64 2] rfl 3;go_wp2_with (go_at_call 223;refine eF _ _ ?_ _ ?_;· simp);have he:=qy w (.cells #[Value.int .i64 2] 3) 252 (Value.int .i64 5) (Value.int .i64 (4));refine bodyPost_ret (results_cell_row rfl _ _ w 252 #[Value.int .i64 5,Value.int .i64 (4)] (0,0) _ rfl he.1 underlying252 rfl (by kernel_rfl)) rfl ?_;exact HR.O _ he.2):P:=h
theorem aii(w:World)(R:ak)(I:∀w',Below w w w'→R (.returned (.agg #[E 5,E (4)])) w'):
 Calls prog 210 #[E 18] w R:=by
 exact YL
theorem aij(w:World)(R:ak)(I:∀w',Below w w w'→R (.returned (.agg #[E 5,E (4)])) w'):
 Calls prog 210 #[E 26] w R:=by
 exact YL
theorem aik(w:World)(R:ak)(I:∀w',Below w w w'→R (.returned (.agg #[E 2,E (4)])) w'):
 Calls prog 210 #[E 19] w R:=by
 have HR:=Z I;clear I;go_enter func210,ntmps210;have eF:=qx [2] 4 (by decide+kernel) (by decide) 1 rfl (by decide) #[Value.int .i64 2] rfl 3;go_wp2_with (go_at_call 223;refine eF _ _ ?_ _ ?_;· simp);have he:=qy w (.cells #[Value.int .i64 2] 3) 252 (Value.int .i64 2) (Value.int .i64 (4));refine bodyPost_ret (results_cell_row rfl _ _ w 252 #[Value.int .i64 2,Value.int .i64 (4)] (0,0) _ rfl he.1 underlying252 rfl (by kernel_rfl)) rfl ?_;exact HR.O _ he.2
theorem ail(w:World)(R:ak)(I:∀w',Below w w w'→R (.returned (.agg #[E 5,E (32774)])) w'):
 Calls prog 210 #[E 21] w R:=by
 have HR:=Z I;clear I;go_enter func210,ntmps210;have eF:=qx [1,2,15] 32774 (by decide+kernel) (by decide) 3 rfl (by decide) #[Value.int .i64 1,Value.int .i64 2,Value.int .i64 15] rfl 3;go_wp2_with (go_at_call 223;refine eF _ _ ?_ _ ?_;· simp);have he:=qy w (.cells #[Value.int .i64 1,Value.int .i64 2,Value.int .i64 15] 3) 252 (Value.int .i64 5) (Value.int .i64 (32774));refine bodyPost_ret (results_cell_row rfl _ _ w 252 #[Value.int .i64 5,Value.int .i64 (32774)] (0,0) _ rfl he.1 underlying252 rfl (by kernel_rfl)) rfl ?_;exact HR.O _ he.2
theorem aim(w:World)(R:ak)(I:∀w',Below w w w'→R (.returned (.agg #[E 6,E (32774)])) w'):
 Calls prog 210 #[E 22] w R:=by
 have HR:=Z I;clear I;go_enter func210,ntmps210;have eF:=qx [1,2,15] 32774 (by decide+kernel) (by decide) 3 rfl (by decide) #[Value.int .i64 1,Value.int .i64 2,Value.int .i64 15] rfl 3;go_wp2_with (go_at_call 223;refine eF _ _ ?_ _ ?_;· simp);have he:=qy w (.cells #[Value.int .i64 1,Value.int .i64 2,Value.int .i64 15] 3) 252 (Value.int .i64 6) (Value.int .i64 (32774));refine bodyPost_ret (results_cell_row rfl _ _ w 252 #[Value.int .i64 6,Value.int .i64 (32774)] (0,0) _ rfl he.1 underlying252 rfl (by kernel_rfl)) rfl ?_;exact HR.O _ he.2
theorem YM{P:Prop}(h:P:=by
 have HR:=Z I;clear I;go_enter func210,ntmps210;have eF:=qx [1] 2 (by decide+kernel) (by decide) 1 rfl (by decide) #[Value.int .i64 1] rfl 3;go_wp2_with (go_at_call 223;refine eF _ _ ?_ _ ?_;· simp);have he:=qy w (.cells #[Value.int .i64 1] 3) 252 (Value.int .i64 1) (Value.int .i64 (2));refine bodyPost_ret (results_cell_row rfl _ _ w 252 #[Value.int .i64 1,Value.int .i64 (2)] (0,0) _ rfl he.1 underlying252 rfl (by kernel_rfl)) rfl ?_;exact HR.O _ he.2):P:=h
theorem ain(w:World)(R:ak)(I:∀w',Below w w w'→R (.returned (.agg #[E 1,E (2)])) w'):
 Calls prog 210 #[E 23] w R:=by
 exact YM
theorem aio(w:World)(R:ak)(I:∀w',Below w w w'→R (.returned (.agg #[E 1,E (2)])) w'):
 Calls prog 210 #[E 25] w R:=by
 exact YM
theorem aip(w:World)(R:ak)(I:∀w',Below w w w'→R (.returned (.agg #[E 3,E (65536)])) w'):
 Calls prog 210 #[E 24] w R:=by
 have HR:=Z I;clear I;go_enter func210,ntmps210;have eF:=qx [16] 65536 (by decide+kernel) (by decide) 1 rfl (by decide) #[Value.int .i64 16] rfl 3;go_wp2_with (go_at_call 223;refine eF _ _ ?_ _ ?_;· simp);have he:=qy w (.cells #[Value.int .i64 16] 3) 252 (Value.int .i64 3) (Value.int .i64 (65536));refine bodyPost_ret (results_cell_row rfl _ _ w 252 #[Value.int .i64 3,Value.int .i64 (65536)] (0,0) _ rfl he.1 underlying252 rfl (by kernel_rfl)) rfl ?_;exact HR.O _ he.2
theorem aiq(w:World)(R:ak)(I:∀w',Below w w w'→R (.returned (.agg #[E 5,E (16388)])) w'):
 Calls prog 210 #[E 28] w R:=by
 have HR:=Z I;clear I;go_enter func210,ntmps210;have eF:=qx [2,14] 16388 (by decide+kernel) (by decide) 2 rfl (by decide) #[Value.int .i64 2,Value.int .i64 14] rfl 3;go_wp2_with (go_at_call 223;refine eF _ _ ?_ _ ?_;· simp);have he:=qy w (.cells #[Value.int .i64 2,Value.int .i64 14] 3) 252 (Value.int .i64 5) (Value.int .i64 (16388));refine bodyPost_ret (results_cell_row rfl _ _ w 252 #[Value.int .i64 5,Value.int .i64 (16388)] (0,0) _ rfl he.1 underlying252 rfl (by kernel_rfl)) rfl ?_;exact HR.O _ he.2
theorem air(w:World)(R:ak)(I:∀w',Below w w w'→R (.returned (.agg #[E 5,E (51956)])) w'):
 Calls prog 210 #[E 31] w R:=by
 have HR:=Z I;clear I;go_enter func210,ntmps210;have eF:=qx [2,4,5,6,7,9,11,14,15] 51956 (by decide+kernel) (by decide) 9 rfl (by decide) #[Value.int .i64 2,Value.int .i64 4,Value.int .i64 5,Value.int .i64 6,Value.int .i64 7,Value.int .i64 9,Value.int .i64 11,Value.int .i64 14,Value.int .i64 15] rfl 3;go_wp2_with (go_at_call 223;refine eF _ _ ?_ _ ?_;· simp);have he:=qy w (.cells #[Value.int .i64 2,Value.int .i64 4,Value.int .i64 5,Value.int .i64 6,Value.int .i64 7,Value.int .i64 9,Value.int .i64 11,Value.int .i64 14,Value.int .i64 15] 3) 252 (Value.int .i64 5) (Value.int .i64 (51956));refine bodyPost_ret (results_cell_row rfl _ _ w 252 #[Value.int .i64 5,Value.int .i64 (51956)] (0,0) _ rfl he.1 underlying252 rfl (by kernel_rfl)) rfl ?_;exact HR.O _ he.2
theorem YN{P:Prop}(h:P:=by
 have HR:=Z I;clear I;go_enter func210,ntmps210;have eF:=qx [1,2] 6 (by decide+kernel) (by decide) 2 rfl (by decide) #[Value.int .i64 1,Value.int .i64 2] rfl 3;go_wp2_with (go_at_call 223;refine eF _ _ ?_ _ ?_;· simp);have he:=qy w (.cells #[Value.int .i64 1,Value.int .i64 2] 3) 252 (Value.int .i64 2) (Value.int .i64 (6));refine bodyPost_ret (results_cell_row rfl _ _ w 252 #[Value.int .i64 2,Value.int .i64 (6)] (0,0) _ rfl he.1 underlying252 rfl (by kernel_rfl)) rfl ?_;exact HR.O _ he.2):P:=h
theorem ais(w:World)(R:ak)(I:∀w',Below w w w'→R (.returned (.agg #[E 2,E (6)])) w'):
 Calls prog 210 #[E 33] w R:=by
 exact YN
theorem ait(w:World)(R:ak)(I:∀w',Below w w w'→R (.returned (.agg #[E 2,E (6)])) w'):
 Calls prog 210 #[E 34] w R:=by
 exact YN
theorem aiu(w:World)(R:ak)(I:∀w',Below w w w'→R (.returned (.agg #[E 2,E (8)])) w'):
 Calls prog 210 #[E 35] w R:=by
 have HR:=Z I;clear I;go_enter func210,ntmps210;have eF:=qx [3] 8 (by decide+kernel) (by decide) 1 rfl (by decide) #[Value.int .i64 3] rfl 3;go_wp2_with (go_at_call 223;refine eF _ _ ?_ _ ?_;· simp);have he:=qy w (.cells #[Value.int .i64 3] 3) 252 (Value.int .i64 2) (Value.int .i64 (8));refine bodyPost_ret (results_cell_row rfl _ _ w 252 #[Value.int .i64 2,Value.int .i64 (8)] (0,0) _ rfl he.1 underlying252 rfl (by kernel_rfl)) rfl ?_;exact HR.O _ he.2
theorem aiv(w:World)(R:ak)(I:∀w',Below w w w'→R (.returned (.agg #[E 3,E (6)])) w'):
 Calls prog 210 #[E 39] w R:=by
 have HR:=Z I;clear I;go_enter func210,ntmps210;have eF:=qx [1,2] 6 (by decide+kernel) (by decide) 2 rfl (by decide) #[Value.int .i64 1,Value.int .i64 2] rfl 3;go_wp2_with (go_at_call 223;refine eF _ _ ?_ _ ?_;· simp);have he:=qy w (.cells #[Value.int .i64 1,Value.int .i64 2] 3) 252 (Value.int .i64 3) (Value.int .i64 (6));refine bodyPost_ret (results_cell_row rfl _ _ w 252 #[Value.int .i64 3,Value.int .i64 (6)] (0,0) _ rfl he.1 underlying252 rfl (by kernel_rfl)) rfl ?_;exact HR.O _ he.2
theorem JR{P:Prop}(h:P:=by
 have HR:=Z I;clear I;go_enter func210,ntmps210;have eF:=qx [2] 4 (by decide+kernel) (by decide) 1 rfl (by decide) #[Value.int .i64 2] rfl 3;go_wp2_with (go_at_call 223;refine eF _ _ ?_ _ ?_;· simp);have he:=qy w (.cells #[Value.int .i64 2] 3) 252 (Value.int .i64 1) (Value.int .i64 (4));refine bodyPost_ret (results_cell_row rfl _ _ w 252 #[Value.int .i64 1,Value.int .i64 (4)] (0,0) _ rfl he.1 underlying252 rfl (by kernel_rfl)) rfl ?_;exact HR.O _ he.2):P:=h
theorem aiw(w:World)(R:ak)(I:∀w',Below w w w'→R (.returned (.agg #[E 1,E (4)])) w'):
 Calls prog 210 #[E 36] w R:=by
 exact JR
theorem aix(w:World)(R:ak)(I:∀w',Below w w w'→R (.returned (.agg #[E 1,E (4)])) w'):
 Calls prog 210 #[E 37] w R:=by
 exact JR
theorem aiy(w:World)(R:ak)(I:∀w',Below w w w'→R (.returned (.agg #[E 1,E (4)])) w'):
 Calls prog 210 #[E 40] w R:=by
 exact JR
theorem aiz(w:World)(R:ak)(I:∀w',Below w w w'→R (.returned (.agg #[E 1,E (4)])) w'):
 Calls prog 210 #[E 41] w R:=by
 exact JR
theorem aiA(w:World)(R:ak)(I:∀w',Below w w w'→R (.returned (.agg #[E 1,E (4)])) w'):
 Calls prog 210 #[E 42] w R:=by
 exact JR
theorem aiB(w:World)(R:ak)(I:∀w',Below w w w'→R (.returned (.agg #[E 7,E (-12290)])) w'):
 Calls prog 210 #[E 38] w R:=by
 have HR:=Z I;clear I;go_enter func210,ntmps210;have eF:=qx [0,12,13] 12289 (by decide+kernel) (by decide) 3 rfl (by decide) #[Value.int .i64 0,Value.int .i64 12,Value.int .i64 13] rfl 3;go_wp2_with (go_at_call 223;refine eF _ _ ?_ _ ?_;· simp);have he:=qy w (.cells #[Value.int .i64 0,Value.int .i64 12,Value.int .i64 13] 3) 252 (Value.int .i64 7) (Value.int .i64 (-12290));refine bodyPost_ret (results_cell_row rfl _ _ w 252 #[Value.int .i64 7,Value.int .i64 (-12290)] (0,0) _ rfl he.1 underlying252 rfl (by kernel_rfl)) rfl ?_;exact HR.O _ he.2
theorem aiC(id:Int)(h1:¬id=1)(h2:¬id=2)(h3:¬id=3)(h8:¬id=8)(h9:¬id=9)(h11:¬id=11)(h17:¬id=17)(h18:¬id=18)(h19:¬id=19)(h21:¬id=21)(h22:¬id=22)(h23:¬id=23)(h24:¬id=24)(h25:¬id=25)(h26:¬id=26)(h28:¬id=28)(h31:¬id=31)(h33:¬id=33)(h34:¬id=34)(h35:¬id=35)(h36:¬id=36)(h37:¬id=37)(h38:¬id=38)(h39:¬id=39)(h40:¬id=40)(h41:¬id=41)(h42:¬id=42)(w:World)(R:ak)(I:∀w',Below w w w'→R (.returned (.agg #[E 0,E 0])) w'):
 Calls prog 210 #[E id] w R:=by
 have HR:=Z I;clear I;go_enter func210,ntmps210;go_wp2;have he:=ah9 w 252 (Value.int .i64 0) (Value.int .i64 0);refine bodyPost_ret (results_cell_row rfl _ _ w 252 #[Value.int .i64 0,Value.int .i64 0] (0,0) _ rfl he.1 underlying252 rfl (by kernel_rfl)) rfl ?_;exact HR.O _ he.2
theorem YO(id:Int)(w:World)(R:ak)(I:∀w',Below w w w'→R (.returned (.agg #[E (aS id),E (Hh id)])) w'):
 Calls prog 210 #[E id] w R:=by
 by_cases h1:id=1
 ·subst h1;exact aia w R I
 by_cases h2:id=2
 ·subst h2;exact aib w R I
 by_cases h3:id=3
 ·subst h3;exact aic w R I
 by_cases h8:id=8
 ·subst h8;exact aid w R I
 by_cases h9:id=9
 ·subst h9;exact aie w R I
 by_cases h11:id=11
 ·subst h11;exact aif w R I
 by_cases h17:id=17
 ·subst h17;exact aih w R I
 by_cases h18:id=18
 ·subst h18;exact aii w R I
 by_cases h19:id=19
 ·subst h19;exact aik w R I
 by_cases h21:id=21
 ·subst h21;exact ail w R I
 by_cases h22:id=22
 ·subst h22;exact aim w R I
 by_cases h23:id=23
 ·subst h23;exact ain w R I
 by_cases h24:id=24
 ·subst h24;exact aip w R I
 by_cases h25:id=25
 ·subst h25;exact aio w R I
 by_cases h26:id=26
 ·subst h26;exact aij w R I
 by_cases h28:id=28
 ·subst h28;exact aiq w R I
 by_cases h31:id=31
 ·subst h31;exact air w R I
 by_cases h33:id=33
 ·subst h33;exact ais w R I
 by_cases h34:id=34
 ·subst h34;exact ait w R I
 by_cases h35:id=35
 ·subst h35;exact aiu w R I
 by_cases h36:id=36
 ·subst h36;exact aiw w R I
 by_cases h37:id=37
 ·subst h37;exact aix w R I
 by_cases h38:id=38
 ·subst h38;exact aiB w R I
 by_cases h39:id=39
 ·subst h39;exact aiv w R I
 by_cases h40:id=40
 ·subst h40;exact aiy w R I
 by_cases h41:id=41
 ·subst h41;exact aiz w R I
 by_cases h42:id=42
 ·subst h42;exact aiA w R I
 have e1:aS id=0:=by unfold aS;simp only[h1,h2,h3,h8,h9,h11,h17,h18,h19,h21,h22,h23,h24,h25,h26,h28,h31,h33,h34,h35,h36,h37,h38,h39,h40,h41,h42,or_self,if_false]
 have e2:Hh id=0:=by unfold Hh wJ;simp only[h1,h2,h3,h8,h9,h11,h17,h18,h19,h21,h22,h23,h24,h25,h26,h28,h31,h33,h34,h35,h36,h37,h38,h39,h40,h41,h42,or_self,if_false];rfl
 rw[e1,e2] at I;exact aiC id h1 h2 h3 h8 h9 h11 h17 h18 h19 h21 h22 h23 h24 h25 h26 h28 h31 h33 h34 h35 h36 h37 h38 h39 h40 h41 h42 w R I
theorem j_(id:Int)(k:Nat)(G:aS id=k)(w:World)(R:ak)(I:∀w',Below w w w'→R (.returned (E k)) w'):
 Calls prog 189 #[E id] w R:=by
 obtain⟨pl,f_⟩:=ai (Hh id);have HR:=Z I;clear I;have HK:=Z G;have HP:=Z f_;clear G f_;have aiD:∀w:World,(Instr.field 252 (.agg #[E (k:Int),E pl]) 0).run prog w= .ok (E (k:Int)) w:=fun _=>by kernel_rfl
 go_enter func189,ntmps189;go_wp2_with (go_at_call 210;refine YO id _ _ ?_;rw[HK.O,HP.O];intro w1 aw);exact HR.O _ aw
theorem Si(id wh:Int)(w:World)(R:ak)(I:R (.returned (.bool (pE id wh))) w):
 Calls prog 214 #[E id,E wh] w R:=by
 by_cases h1:id=38
 ·have e:pE id wh=true:=by unfold pE;simp[h1]
  rw[e] at I;subst h1;go_enter func214,ntmps214;go_wp2;exact I
 by_cases h2:id=11
 ·have e:pE id wh=decide (wh=3):=by unfold pE;simp[h2]
  rw[e] at I;subst h2;clear h1;by_cases h3:wh=3
  ·subst h3;go_enter func214,ntmps214;go_wp2;exact I
  have e3:decide (wh=3)=false:=dN h3;rw[e3] at I;have b3:(wh==3)=false:=by simp[h3]
  have aiE:=Z b3;clear b3;go_enter func214,ntmps214;go_wp2
  simpa [aiE.O] using I
 have e:pE id wh=false:=by unfold pE;simp[h1,h2]
 rw[e] at I;have b1:=Z (show(id==38)=false by simp[h1]);have b2:=Z (show(id==11)=false by simp[h2]);go_enter func214,ntmps214;go_wp2
 simpa [b1.O] using I
theorem BK(id wh:Int)(m:Bool)(hm:ch id wh=m)(w:World)(R:ak)(I:∀w',Below w w w'→R (.returned (.bool m)) w'):
 Calls prog 211 #[E id,E wh] w R:=by
 have HR:=Z I;clear I;by_cases h1:wh<1∨16<wh
 ·obtain rfl:m=false:=by rw[←hm];exact ah4 id wh h1
  have HM:=Z hm;clear hm;rcases h1 with h1|h1
  ·have h2:¬1≤wh:=by omega
   go_enter func211,ntmps211;go_wp2;exact HR.O _ dg
  have h2:¬wh≤16:=by omega
  have h3:1≤wh:=by omega
  go_enter func211,ntmps211;go_wp2;exact HR.O _ dg
 have h2:1≤wh:=by omega
 have h3:wh≤16:=by omega
 have U:=ah2 id wh h2 h3;rw[hm] at U;obtain⟨pl,f_⟩:=ai (Hh id);obtain⟨k,G⟩:=ai (aS id);rw[f_] at U;obtain⟨HB,HP,HK,HM⟩:=cF U f_ G hm;clear U hm h1 f_ G;have aiD:∀w:World,(Instr.field 252 (.agg #[E (k:Int),E pl]) 1).run prog w= .ok (E pl) w:=fun _=>by kernel_rfl
 go_enter func211,ntmps211;go_wp2_with (go_at_call 210;refine YO id _ _ ?_;rw[HK.O,HP.O];intro w1 aw);have e:=HB.O;unfold Sc at e;exact(e▸HR.O _ aw)
theorem YP{P:Prop}(h:P:=by
 have Sj:=uh size hm;have XY:(n - m) *size=n*size - m*size:=Nat.sub_mul _ _ _;refine⟨by have:=h.1;rw[dw];omega,fun h0=> ?_⟩;obtain⟨b,o,rfl,J⟩:=h.2 (by omega);refine⟨b,o+m*size,by rw[Option.map_some,Addr.add_lit],fun j hj=> ?_⟩;rw[oO,J (m*size+j) (by omega),List.getElem?_drop]):P:=h
open List (take_length)
open Nat (mod_lt)
theorem pC(v:Value)(ls:List (List UInt8))(aw3:List UInt8)(hJ:ls.flatten=aw3)(w:World)(hv:yJ w v ls)(ahJ:aw3.length≤140737488355328)(R:ak)
 (I:∀Y c w',w'.ownsRow w 5 1 (.slice Y aw3.length c) aw3.length (bv aw3)→Below w w w'→R (.returned (.slice Y aw3.length c)) w'):
 Calls prog 55 #[v] w R:=by
 subst hJ;obtain⟨Y,c,vs,rfl,hr,J,hm,iN,Yh⟩:=hv;go_enter func55,ntmps55;go_wp2;go_loopw [3,8] (fun x i wr=>∃k:Nat,k≤ls.length∧i= .int .i64 k∧(∃bK c',∃j8:List UInt8,Hid (j8=(ls.take k).flatten)∧x= .slice bK j8.length c'∧wr.ownsRow w 5 1 (.slice bK j8.length c') j8.length (bv j8))∧Below w w wr) (fun _ i _=>ls.length - (intOf i).toNat)
 case atStart=>exact⟨0,bP _,rfl,⟨_,_,[],rfl,rfl,bO _ _ _ _⟩,Below.refl _ _⟩
 case round=>
  obtain⟨k,G,rfl,⟨bK,c',j8,xF,rfl,aU⟩,U⟩:=hrel;by_cases au:k<ls.length
  ·obtain⟨b,o,rfl,bg⟩:=hr.2 (by omega);obtain⟨v',gp,bU⟩:=Yh k au;have ur:=(U.cell (p:=⟨b,o+k,none⟩) (World.block_lt_of_cell? _ _ ((bg k (by omega)).trans gp))).trans ((bg k (by omega)).trans gp);have ahK:=bU.below U;have ND:Hid ((ls.take (k+1)).flatten=j8++ls[k]):=by
    rw[xF.O,kF au,List.flatten_append];simp[Hid]
   have fw:j8.length+ls[k].length≤ls.flatten.length:=by
    have:=congrArg List.length ND.O;rw[aK] at this;rw[←this]
    conv=>rhs;rw[←yI (k+1) ls,List.flatten_append,aK]
    omega
   obtain⟨lF,c2,rfl,j2,bM,fh,R6⟩:=ahK;obtain⟨p,hp⟩:∃p,p=ls[k]:=⟨_,rfl⟩
   rw[←hp] at ur j2 bM fw ND;clear bg hr Yh gp bU hp;obtain⟨N,hN⟩:∃N,N=ls.flatten.length:=⟨_,rfl⟩
   rw[←hN] at fw ahJ;clear hN;go_wp2_with (at_builtin;go_must(refine kU (by rfl) (.tmp 12) (.tmp 13) 22 (by rfl) w 5 (.int .u8 0) 1 1 underlying22 Tryz.cP rfl (by decide) _ _ _ _ rfl aU _ _ _ _ rfl j2 (fC _) R6 (by unfold maxLen;omega) (by omega) U.size ?_));intro h_ c3 w3 ix dz;have an:=bT U dz U.size aU;clear aU dz U ur j2;rw[←aK] at ix⊢;rw[←qf] at ix;obtain⟨tj,xG⟩:∃tj,tj=j8++p:=⟨_,rfl⟩
   rw[←xG] at ix ND⊢;clear xG;go_wp2;go_roundw
   case rel=>exact⟨k+1,by omega,by go_num,⟨h_,c3,tj,ND.O.symm,rfl,ix⟩,an⟩
   case measure=>simp[intOf];omega
  obtain rfl:k=ls.length:=by omega
  have hf:j8=ls.flatten:=by rw[xF.O,take_length]
  subst hf;go_wp2;exact I _ _ _ aU U
def aY(x:Nat):Nat→List UInt8
 |0=> []
 |n+1=>aY (x / 256) n++ [b8 x]
theorem fQ(x n:Nat):(aY x n).length=n:=by
 induction n generalizing x with
 |zero=>rfl
 |succ n ih=>simp[aY,ih]
theorem Yi(x k:Nat):aY x (k+1)=b8 ((x / 256 ^ k:Nat):Int)::aY x k:=by
 induction k generalizing x with
 |zero=>simp[aY]
 |succ k ih=>
  show aY (x / 256) (k+1)++ [b8 x]=_;rw[ih,Nat.div_div_eq_div_mul,←Nat.pow_succ']
  rfl
def eC(x:Nat)(ql:Int):List UInt8:=if ql<1∨8<ql then [] else aY x ql.toNat
theorem Yj{P:Prop}(h:P:=by
 rw[e] at I;go_enter func56,ntmps56;go_wp2;exact I _ _ _ (bO _ _ _ _) dg):P:=h
theorem Yk{P:Prop}(h:P:=by
 go_wp2_with (at_make;go_must(refine wpList_make_full _ (by rfl) _ _ 22 (by rfl) w 5 i (.int .u8 0) 1 underlying22 hi hz dJ _ _ _ _ n rfl rfl rfl rfl (by rw[fV];omega) (by unfold maxLen;omega) bj ?_));intro w1 cS km;have aw:Below w w w1:=dg.grown km bj (fun k G=>by cases G);rw[Xo,show(Value.int .u8 0)=Value.int .u8 (((0:UInt8).toNat:Nat):Int) from rfl,←Xp] at cS;clear km hi hz dJ fV;go_wp2;go_loopw [0,6] (fun y i wr=>∃j:Nat,j≤n∧(∃q:Int,q=(j:Int) - 1∧i= .int .i64 q)∧(∃z:Nat,Hid (z=x / 256 ^ (n - j))∧z<18446744073709551616∧y= .int .u64 (z:Int))∧(∃m:List UInt8,Hid (m=List.replicate j 0++aY x (n - j))∧n≤m.length∧wr.ownsRow w 5 1 (.slice (some ⟨w,0,none⟩) n n) n (bv m))∧Below w w wr) (fun _ i _=>(intOf i+1).toNat)
 case atStart=>exact⟨n,Nat.le_refl _,⟨_,rfl,rfl⟩,⟨x,by rw[Nat.sub_self];simp[Hid],F,rfl⟩,⟨_,by rw[Nat.sub_self,aY,od];exact Z rfl,by simp,cS⟩,aw⟩
 case round=>
  obtain⟨j,hj,⟨q,hq,rfl⟩,⟨z,hz,tk,rfl⟩,⟨m,hm,j3,aU⟩,U⟩:=hrel;cases j with
  |zero=>
   have fh:m=aY x n:=by rw[hm.O];simp
   rw[fh] at aU;clear hm fh hz cS aw;have kr:q<0:=by omega
   have HQ:=Z hq;clear hq;go_wp2;exact I _ _ _ aU U
  |succ j=>
   have gJ:q=(j:Int):=by omega
   clear hq;subst gJ;have bg:=Jt aU j (by omega);have qW:=aU.frozenAt j;have cB:=Rx aU j (b8 z);rw[xB] at cB;have cH:=cB.1;have bF:=U.grown cB.2 (by have:=U.size;omega) (fun k G=>by cases G;exact Nat.le_refl _);have vk:m.set j (b8 z)=List.replicate j 0++aY x (n - j):=by
    have e1:n - j=(n - (j+1))+1:=by omega
    rw[hm.O,e1,Yi,←hz.O,List.replicate_succ',kT];rw[List.set_append_right _ _ (by simp)];simp
   have vx:z / 256=x / 256 ^ (n - j):=by
    have e1:n - j=(n - (j+1))+1:=by omega
    rw[hz.O,Nat.div_div_eq_div_mul,e1,Nat.pow_succ]
   have HZ:=Z vx;have kZ:n≤(m.set j (b8 z)).length:=by rw[qU];exact j3
   have AI:z / 256<18446744073709551616:=by omega
   obtain⟨m2,fh⟩:∃m2,m2=m.set j (b8 z):=⟨_,rfl⟩
   rw[←fh] at cH kZ vk;have HM:=Z vk;clear cB aU U vk vx fh hm cS aw hz;go_wp2;go_roundw
   case rel=>exact⟨j,by omega,⟨_,rfl,rfl⟩,⟨z / 256,HZ,AI,by go_num⟩,⟨m2,HM,kZ,cH⟩,bF⟩
   case measure=>simp[intOf]):P:=h
theorem yW(x:Nat)(F:x<18446744073709551616)(ql:Int)(P:List UInt8)(hP:eC x ql=P)(w:World)(R:ak)
 (I:∀Y c w',w'.ownsRow w 5 1 (.slice Y P.length c) P.length (bv P)→Below w w w'→R (.returned (.slice Y P.length c)) w'):
 Calls prog 56 #[.int .u64 (x:Int),E ql] w R:=by
 subst hP;by_cases h1:ql<1
 ·have e:eC x ql= []:=by unfold eC;rw[if_pos (.inl h1)]
  exact Yj
 by_cases h2:8<ql
 ·have e:eC x ql= []:=by unfold eC;rw[if_pos (.inr h2)]
  exact Yj
 obtain⟨n,rfl⟩:=Int.eq_ofNat_of_zero_le (show 0≤ql by omega);have e:eC x n=aY x n:=by unfold eC;rw[if_neg (by omega)];rfl
 rw[e,fQ] at I;clear e;have oT:1≤n:=by omega
 have mT:n≤8:=by omega
 clear h1 h2;obtain⟨i,hi,hz,dJ,fV⟩:=info_parts Tryz.cP;go_enter func56,ntmps56;exact Yk
theorem Yl{P:Prop}(h:P:=by
 rw[e] at I;go_enter func64,ntmps64;go_wp2;exact I _ _ _ (bO _ _ _ _) dg):P:=h
theorem yX(x:Nat)(F:x<18446744073709551616)(ql:Int)(P:List UInt8)(hP:eC x ql=P)(w:World)(R:ak)
 (I:∀Y c w',w'.ownsRow w 5 1 (.slice Y P.length c) P.length (bv P)→Below w w w'→R (.returned (.slice Y P.length c)) w'):
 Calls prog 64 #[.int .u64 (x:Int),E ql] w R:=by
 subst hP;by_cases h1:ql<1
 ·have e:eC x ql= []:=by unfold eC;rw[if_pos (.inl h1)]
  exact Yl
 by_cases h2:8<ql
 ·have e:eC x ql= []:=by unfold eC;rw[if_pos (.inr h2)]
  exact Yl
 obtain⟨n,rfl⟩:=Int.eq_ofNat_of_zero_le (show 0≤ql by omega);have e:eC x n=aY x n:=by unfold eC;rw[if_neg (by omega)];rfl
 rw[e,fQ] at I;clear e;have oT:1≤n:=by omega
 have mT:n≤8:=by omega
 clear h1 h2;obtain⟨i,hi,hz,dJ,fV⟩:=info_parts Tryz.cP;go_enter func64,ntmps64;exact Yk
def cX(l:List UInt8):Nat:=l.foldl (fun x c=>(x*256+c.toNat) % 18446744073709551616) 0
theorem Hb(l:List UInt8)(c:UInt8):cX (l++ [c])=(cX l*256+c.toNat) % 18446744073709551616:=by simp[cX,List.foldl_append]
theorem ahL(l:List UInt8):cX l<18446744073709551616:=by
 rcases List.eq_nil_or_concat l with rfl|⟨l',c,rfl⟩
 ·decide
 rw[List.concat_eq_append,Hb];exact mod_lt _ (by decide)
theorem Ym{α:Type}(l:List α)(k:Nat)(h:k<l.length):l.take (k+1)=l.take k++ [l[k]]:=kF h
theorem ahM(z c:Nat)(J:c<256):bits .or .u64 (IntKind.u64.wrap ((z:Int) *256)) (IntKind.u64.wrap (c:Int))=(((z*256+c) % 18446744073709551616:Nat):Int):=by
 rw[IntKind.wrap_u64,IntKind.wrap_u64];have e1:((z:Int) *256) % 18446744073709551616=(((z*256) % 18446744073709551616:Nat):Int):=by omega
 have e2:(c:Int) % 18446744073709551616=(c:Int):=by omega
 rw[e1,e2];have h:=bits_or_u64_nat ((z*256) % 18446744073709551616) c (mod_lt _ (by decide)) (by omega);rw[h]
 congr 1
 have e3:(z*256) % 18446744073709551616=(z % 72057594037927936) *2 ^ 8:=by omega
 rw[e3,←Nat.shiftLeft_eq,←Nat.shiftLeft_add_eq_or_of_lt (by omega),Nat.shiftLeft_eq]
 omega
theorem ahN(v:Value)(l:List UInt8)(w:World)(hv:Bs w v l)(R:ak)
 (I:R (.returned (.int .u64 (cX l))) w):
 Calls prog 109 #[v] w R:=by
 obtain⟨Y,c,rfl,hr,J,hm,iN⟩:=hv;go_enter func109,ntmps109;go_wp2;go_loop [3,8] (fun x i=>∃k:Nat,k≤l.length∧i= .int .i64 k∧∃z:Nat,Hid (z=cX (l.take k))∧z<18446744073709551616∧x= .int .u64 z) (fun _ i=>l.length - (intOf i).toNat)
 case atStart=>exact⟨0,bP _,rfl,0,rfl,by decide,rfl⟩
 case round=>
  obtain⟨k,G,rfl,z,hz,tk,rfl⟩:=hrel;by_cases au:k<l.length
  ·obtain⟨b,o,rfl,bg⟩:=hr.CP (by omega);have ur:=bg k au;have rj:=ahM z l[k].toNat (by have:=l[k].toNat_lt;omega);have HG:Hid ((z*256+l[k].toNat) % 18446744073709551616=cX (l.take (k+1))):=by rw[Ym l k au,Hb,←hz.O];exact Z rfl
   have jK:(z*256+l[k].toNat) % 18446744073709551616<18446744073709551616:=mod_lt _ (by decide);have HO:=Z rj;have HL:=Z jK;clear bg hr rj hz jK;go_wp2;go_round
   case rel=>exact⟨k+1,by omega,by go_num,_,HG,HL.O,by rw[←HO.O]⟩
   case measure=>simp[intOf];omega
  have hf:z=cX l:=by rw[hz.O,gy (by omega)]
  clear hz;subst hf;go_wp2;exact I
theorem ahO(z:Nat)(b:UInt8):IntKind.u64.wrap (IntKind.u64.wrap ((z:Int) *256)+IntKind.u64.wrap (b.toNat:Int))=(((z*256+b.toNat) % 18446744073709551616:Nat):Int):=by
 rw[IntKind.wrap_u64,IntKind.wrap_u64,IntKind.wrap_u64]
 omega
theorem ahP(v:Value)(l:List UInt8)(w:World)(hv:Bs w v l)(R:ak)
 (I:R (.returned (.int .u64 (cX l))) w):
 Calls prog 136 #[v] w R:=by
 obtain⟨Y,c,rfl,hr,J,hm,iN⟩:=hv;go_enter func136,ntmps136;go_wp2;go_loop [3,4] (fun x i=>∃k:Nat,k≤l.length∧i= .int .i64 k∧∃z:Nat,Hid (z=cX (l.take k))∧z<18446744073709551616∧x= .int .u64 z) (fun _ i=>l.length - (intOf i).toNat)
 case atStart=>exact⟨0,bP _,rfl,0,rfl,by decide,rfl⟩
 case round=>
  obtain⟨k,G,rfl,z,hz,tk,rfl⟩:=hrel;by_cases au:k<l.length
  ·obtain⟨b,o,rfl,bg⟩:=hr.CP (by omega);have ur:=bg k au;have HG:Hid ((z*256+l[k].toNat) % 18446744073709551616=cX (l.take (k+1))):=by rw[Ym l k au,Hb,←hz.O];exact Z rfl
   have jK:(z*256+l[k].toNat) % 18446744073709551616<18446744073709551616:=mod_lt _ (by decide);have HL:=Z jK;clear bg hr hz jK;go_wp2;go_round
   case rel=>exact⟨k+1,by omega,by go_num,_,HG,HL.O,by rw[ahO]⟩
   case measure=>simp[intOf];omega
  have hf:z=cX l:=by rw[hz.O,gy (by omega)]
  clear hz;subst hf;go_wp2;exact I
open List (drop_eq_getElem_cons)
open Nat (div_lt_of_lt_mul mul_comm pow_le_pow_right)
def nA:Nat→Nat→List UInt8
 |0,n=> [b8 n]
 |f+1,n=>if n<128 then [b8 n] else b8 ((n % 128+128:Nat):Int)::nA f (n / 128)
def jR(n:Nat):List UInt8:=nA 3 n
theorem He(f n:Nat)(h:n<128):nA f n= [b8 n]:=by
 cases f with
 |zero=>rfl
 |succ f=>simp[nA,h]
theorem JL(f n:Nat)(h:¬n<128):nA (f+1) n=b8 ((n % 128+128:Nat):Int)::nA f (n / 128):=by simp[nA,h]
theorem ahW(x:Int)(h0:0≤x)(h1:x<256):bits .or .u8 x 128=x % 128+128:=by
 obtain⟨n,rfl⟩:=Int.eq_ofNat_of_zero_le h0;have:=u8_or_nat n 128 (by omega) (by omega);have e:∀m,m<256→m ||| 128=m % 128+128:=by decide+kernel
 rw[e n (by omega)] at this;exact this
def eE(n:Int):List UInt8×Int:=if n<0∨268435455<n then ([],10) else (jR n.toNat,0)
theorem Yu{P:Prop}(h:P:=by
 rw[e] at I;go_enter func172,ntmps172;go_wp2;exact I _ _ _ (bO _ _ _ _) dg):P:=h
theorem Yv{P:Prop}(h:P:=by
 go_wp2;go_roundw
 case rel=>exact⟨f,cur / 128,HF.O,by omega,by go_num,⟨h_,c3,tj,H2,Yw,rfl,cO⟩,an⟩
 case measure=>simp[intOf];omega):P:=h
theorem Yx{P:Prop}(h:P:=by
 intro h_ c3 w3 ix dz;have an:=bT (U.alloc bt _) dz (by simp;omega) (aU.alloc _);have cO:=Ry (b8 (cur:Int)) (by rw[xB];omega) ix;rw[H.O] at cO;have hl:j8.length+1=(jR m).length:=by rw[←H.O];simp
 rw[hl] at cO⊢;go_wp2;exact I _ _ _ cO an):P:=h
theorem vy(n:Int)(aw1:List UInt8)(er:Int)(hV:eE n=(aw1,er))(w:World)(R:ak)
 (I:∀Y c w',w'.ownsRow w 5 1 (.slice Y aw1.length c) aw1.length (bv aw1)→Below w w w'→R (.returned (.tuple #[.slice Y aw1.length c,E er])) w'):
 Calls prog 172 #[E n] w R:=by
 obtain rfl:aw1=(eE n).1:=by rw[hV]
 obtain rfl:er=(eE n).2:=by rw[hV]
 clear hV;by_cases h1:n<0
 ·have e:eE n=([],10):=by unfold eE;rw[if_pos (.inl h1)]
  exact Yu
 by_cases h2:268435455<n
 ·have e:eE n=([],10):=by unfold eE;rw[if_pos (.inr h2)]
  exact Yu
 obtain⟨m,rfl⟩:=Int.eq_ofNat_of_zero_le (show 0≤n by omega);have e:eE m=(jR m,0):=by unfold eE;rw[if_neg (by omega)];rfl
 rw[e] at I;clear e h1;have hm:m<268435456:=by omega
 clear h2;go_enter func172,ntmps172;go_wp2;go_loopw [0,4] (fun x y wr=>∃f cur:Nat,cur<128 ^ (f+1)∧cur<268435456∧x= .int .i64 cur∧(∃Y c,∃j8:List UInt8,Hid (j8++nA f cur=jR m)∧j8.length+(f+1)≤4∧y= .slice Y j8.length c∧wr.ownsRow w 5 1 (.slice Y j8.length c) j8.length (bv j8))∧Below w w wr) (fun x _ _=>(intOf x).toNat)
 case atStart=>exact⟨3,m,by omega,hm,rfl,⟨_,_,[],rfl,by simp,rfl,bO _ _ _ _⟩,Below.refl _ _⟩
 case round=>
  obtain⟨f,cur,hf,bM,rfl,⟨Y,c,j8,xF,NI,rfl,aU⟩,U⟩:=hrel;by_cases au:cur<128
  ·have H:=Z xF.O;rw[He f cur au] at H;have bt:=U.size;clear xF hf;go_wp2_with (at_builtin;go_must(refine kU (by rfl) (.tmp 21) (.tmp 24) 22 (by rfl) w 5 (.int .u8 0) 1 1 underlying22 Tryz.cP rfl (by decide) _ _ _ _ rfl (World.ownsRow.alloc aU _) _ _ _ _ rfl (dO _ _ _ 1 1 rfl) (px _ _) (by simp) (by unfold maxLen;omega) (by omega) (by simp;omega) ?_));exact Yx
  cases f with
  |zero=>omega
  |succ f=>
   have H:=Z xF.O;rw[JL f cur au] at H;have bt:=U.size;have rj:=ahW (cur % 256) (by omega) (by omega);have HO:=Z rj;have zd:cur / 128<128 ^ (f+1):=by
    rw[Nat.pow_succ] at hf;exact div_lt_of_lt_mul (by rw[mul_comm];exact hf)
   have HF:=Z zd;clear xF hf rj zd;go_wp2_with (at_builtin;go_must(refine kU (by rfl) (.tmp 15) (.tmp 19) 22 (by rfl) w 5 (.int .u8 0) 1 1 underlying22 Tryz.cP rfl (by decide) _ _ _ _ rfl (World.ownsRow.alloc aU _) _ _ _ _ rfl (dO _ _ _ 1 1 rfl) (px _ _) (by simp) (by unfold maxLen;omega) (by omega) (by simp;omega) ?_));intro h_ c3 w3 ix dz;have an:=bT (U.alloc bt _) dz (by simp;omega) (aU.alloc _);have cO:=Ry (b8 ((cur % 128+128:Nat):Int)) (by rw[xB,HO.O];omega) ix;obtain⟨tj,xG⟩:∃tj,tj=j8++ [b8 ((cur % 128+128:Nat):Int)]:=⟨_,rfl⟩
   have hl:j8.length+1=tj.length:=by rw[xG];simp
   have H2:Hid (tj++nA f (cur / 128)=jR m):=by rw[xG,kT];exact H
   rw[←xG] at cO;rw[hl] at cO⊢;have Yw:tj.length+(f+1)≤4:=by omega
   clear hl xG aU ix H dz;exact Yv
theorem Yy{P:Prop}(h:P:=by
 rw[e] at I;go_enter func204,ntmps204;go_wp2;exact I _ _ _ (bO _ _ _ _) dg):P:=h
theorem Yz(n:Int)(aw1:List UInt8)(er:Int)(hV:eE n=(aw1,er))(w:World)(R:ak)
 (I:∀Y c w',w'.ownsRow w 5 1 (.slice Y aw1.length c) aw1.length (bv aw1)→Below w w w'→R (.returned (.tuple #[.slice Y aw1.length c,E er])) w'):
 Calls prog 204 #[E n] w R:=by
 obtain rfl:aw1=(eE n).1:=by rw[hV]
 obtain rfl:er=(eE n).2:=by rw[hV]
 clear hV;by_cases h1:n<0
 ·have e:eE n=([],10):=by unfold eE;rw[if_pos (.inl h1)]
  exact Yy
 by_cases h2:268435455<n
 ·have e:eE n=([],10):=by unfold eE;rw[if_pos (.inr h2)]
  exact Yy
 obtain⟨m,rfl⟩:=Int.eq_ofNat_of_zero_le (show 0≤n by omega);have e:eE m=(jR m,0):=by unfold eE;rw[if_neg (by omega)];rfl
 rw[e] at I;clear e h1;have hm:m<268435456:=by omega
 clear h2;go_enter func204,ntmps204;go_wp2;go_loopw [0,4] (fun x y wr=>∃f cur:Nat,cur<128 ^ (f+1)∧cur<268435456∧x= .int .i64 cur∧(∃Y c,∃j8:List UInt8,Hid (j8++nA f cur=jR m)∧j8.length+(f+1)≤4∧y= .slice Y j8.length c∧wr.ownsRow w 5 1 (.slice Y j8.length c) j8.length (bv j8))∧Below w w wr) (fun x _ _=>(intOf x).toNat)
 case atStart=>exact⟨3,m,by omega,hm,rfl,⟨_,_,[],rfl,by simp,rfl,bO _ _ _ _⟩,Below.refl _ _⟩
 case round=>
  obtain⟨f,cur,hf,bM,rfl,⟨Y,c,j8,xF,NI,rfl,aU⟩,U⟩:=hrel;by_cases au:cur<128
  ·have H:=Z xF.O;rw[He f cur au] at H;have bt:=U.size;clear xF hf;go_wp2_with (at_builtin;go_must(refine kU (by rfl) (.tmp 22) (.tmp 25) 22 (by rfl) w 5 (.int .u8 0) 1 1 underlying22 Tryz.cP rfl (by decide) _ _ _ _ rfl (World.ownsRow.alloc aU _) _ _ _ _ rfl (dO _ _ _ 1 1 rfl) (px _ _) (by simp) (by unfold maxLen;omega) (by omega) (by simp;omega) ?_));exact Yx
  cases f with
  |zero=>omega
  |succ f=>
   have H:=Z xF.O;rw[JL f cur au] at H;have bt:=U.size;have zd:cur / 128<128 ^ (f+1):=by
    rw[Nat.pow_succ] at hf;exact div_lt_of_lt_mul (by rw[mul_comm];exact hf)
   have HF:=Z zd;clear xF hf zd;go_wp2_with (at_builtin;go_must(refine kU (by rfl) (.tmp 13) (.tmp 18) 22 (by rfl) w 5 (.int .u8 0) 1 1 underlying22 Tryz.cP rfl (by decide) _ _ _ _ rfl (World.ownsRow.alloc aU _) _ _ _ _ rfl (dO _ _ _ 1 1 rfl) (px _ _) (by simp) (by unfold maxLen;omega) (by omega) (by simp;omega) ?_));intro h_ c3 w3 ix dz;have an:=bT (U.alloc bt _) dz (by simp;omega) (aU.alloc _);have cO:=Ry (b8 ((cur % 128+128:Nat):Int)) (by rw[xB];omega) ix;obtain⟨tj,xG⟩:∃tj,tj=j8++ [b8 ((cur % 128+128:Nat):Int)]:=⟨_,rfl⟩
   have hl:j8.length+1=tj.length:=by rw[xG];simp
   have H2:Hid (tj++nA f (cur / 128)=jR m):=by rw[xG,kT];exact H
   rw[←xG] at cO;rw[hl] at cO⊢;have Yw:tj.length+(f+1)≤4:=by omega
   clear hl xG aU ix H dz;exact Yv
def mV:Nat→Nat→Nat→List UInt8→Nat×Nat×Nat
 |0,_,_,_=>(0,0,12)
 |_+1,_,_,[]=>(0,0,11)
 |f+1,i,n,c::r=>if c.toNat<128 then (if c.toNat=0∧0<i then (0,0,12) else (n+c.toNat % 128*128 ^ i,i+1,0)) else mV f (i+1) (n+c.toNat % 128*128 ^ i) r
def dY(l:List UInt8):Nat×Nat×Nat:=mV 4 0 0 l
theorem YA{α:Type}(l:List α)(k:Nat)(h:k<l.length):l.drop k=l[k]::l.drop (k+1):=drop_eq_getElem_cons h
theorem ze(v:Value)(l:List UInt8)(x y z:Nat)(hG:dY l=(x,y,z))(w:World)(hv:Bs w v l)(R:ak)
 (I:R (.returned (.tuple #[E x,E y,E z])) w):
 Calls prog 179 #[v] w R:=by
 obtain rfl:x=(dY l).1:=by rw[hG]
 obtain rfl:y=(dY l).2.1:=by rw[hG]
 obtain rfl:z=(dY l).2.2:=by rw[hG]
 clear hG;obtain⟨Y,c,rfl,hr,J,hm,iN⟩:=hv;go_enter func179,ntmps179;go_wp2;go_loop [5,6,7] (fun x u i=>∃k:Nat,k≤4∧k≤l.length∧i= .int .i64 k∧∃z:Nat,Hid (mV (4 - k) k z (l.drop k)=dY l)∧z<128 ^ k∧x= .int .i64 z∧u= .int .i64 (128 ^ k:Nat)) (fun _ _ i=>4 - (intOf i).toNat)
 case atStart=>exact⟨0,by omega,bP _,rfl,_,rfl,by decide,rfl,rfl⟩
 case round=>
  obtain⟨k,G,gq,rfl,z,hz,tk,rfl,rfl⟩:=hrel;by_cases rl:k=4
  ·subst rl;have e:dY l=(0,0,12):=hz.O.symm;rw[e] at I;clear hz tk e;go_wp2;go_ret3;exact I
  by_cases au:k<l.length;rotate_left
  ·obtain rfl:k=l.length:=by omega
   have e:dY l=(0,0,11):=by
    rw[←hz.O,List.drop_length,show 4 - l.length=(3 - l.length)+1 by omega,mV]
   rw[e] at I;clear hz e;go_wp2;go_ret3;exact I
  obtain⟨b,o,rfl,bg⟩:=hr.CP (by omega);have ur:=bg k au;have Hf:=l[k].toNat_lt;have H:=hz.O;rw[YA l k au,show 4 - k=(3 - k)+1 by omega,mV] at H;have H2:dY l=if l[k].toNat<128 then (if l[k].toNat=0∧0<k then (0,0,12) else (z+l[k].toNat % 128*128 ^ k,k+1,0)) else mV (3 - k) (k+1) (z+l[k].toNat % 128*128 ^ k) (l.drop (k+1)):=H.symm
  obtain⟨x,F⟩:∃x:UInt8,x=l[k]:=⟨_,rfl⟩
  rw[←F] at H2 ur Hf;clear bg hr hz H F;have AI:z+x.toNat % 128*128 ^ k<128 ^ (k+1):=by
   have h1:x.toNat % 128*128 ^ k≤127*128 ^ k:=uh _ (by omega);rw[Nat.pow_succ]
   omega
  have NJ:128 ^ (k+1)=128 ^ k*128:=Nat.pow_succ _ _;have xE:((x.toNat:Int) % 128) * ((128 ^ k:Nat):Int)=((x.toNat % 128*128 ^ k:Nat):Int):=by push_cast;rfl
  have JM:128 ^ k≤2097152:=by
   have:128 ^ k≤128 ^ 3:=pow_le_pow_right (by decide) (by omega);exact this
  obtain⟨p,hp⟩:∃p,p=128 ^ k:=⟨_,rfl⟩
  obtain⟨q,hq⟩:∃q,q=x.toNat % 128*128 ^ k:=⟨_,rfl⟩
  rw[←hp] at tk NJ xE JM⊢;rw[←hp] at hq AI;rw[←hq] at AI xE;rw[←hp,←hq] at H2;have ei:x.toNat % 128≤127:=by omega
  have sq:q≤127*p:=by rw[hq];exact uh _ ei
  rw[NJ] at AI;have au3:0≤((x.toNat:Int) % 128) * (p:Int):=by rw[xE];omega
  have au4:((x.toNat:Int) % 128) * (p:Int)≤266338304:=by rw[xE];omega
  have HM:=Z xE;have HP:=Z NJ;have mW:Hid (x.toNat=0→q=0):=by intro h0;rw[hq,h0];simp
  clear xE NJ hq hp;by_cases aO:x.toNat<128
  ·rw[if_pos aO] at H2;by_cases xH:x.toNat=0
   ·by_cases gL:0<k
    ·rw[if_pos ⟨xH,gL⟩] at H2;rw[H2] at I;have Hg:((x.toNat:Int)==0)=true:=by rw[beq_iff_eq];omega
     have R9:((k:Int)==(l.length:Int))=false:=by rw[beq_eq_false_iff_ne];omega
     go_wp2;go_ret3;exact I
    ·rw[if_neg (by omega)] at H2;rw[H2] at I;rw[mW.O xH] at I;have Hg:((x.toNat:Int)==0)=true:=by rw[beq_iff_eq];omega
     have R9:((k:Int)==(l.length:Int))=false:=by rw[beq_eq_false_iff_ne];omega
     have au5:¬(0:Int)<(k:Int):=by omega
     go_wp2;go_ret3;exact I
   ·rw[if_neg (by omega)] at H2;rw[H2] at I;have e1:((z:Int)+(x.toNat:Int) % 128* (p:Int))=((z+q:Nat):Int):=by rw[HM.O];omega
    have vz:R (.returned (.tuple #[.int .i64 ((z:Int)+(x.toNat:Int) % 128* (p:Int)),.int .i64 ((k:Int)+1),E 0])) w:=by rw[e1];exact I
    have Hg:((x.toNat:Int)==0)=false:=by rw[beq_eq_false_iff_ne];omega
    have R9:((k:Int)==(l.length:Int))=false:=by rw[beq_eq_false_iff_ne];omega
    clear e1 I;go_wp2;go_ret3;exact vz
  rw[if_neg aO] at H2;have e1:((z:Int)+(x.toNat:Int) % 128* (p:Int))=((z+q:Nat):Int):=by rw[HM.O];omega
  have E1:=Z e1;have R9:((k:Int)==(l.length:Int))=false:=by rw[beq_eq_false_iff_ne];omega
  have HG:Hid (mV (4 - (k+1)) (k+1) (z+q) (l.drop (k+1))=dY l):=by rw[show 4 - (k+1)=3 - k by omega];exact Z H2.symm
  clear e1;go_wp2;go_round
  case rel=>exact⟨k+1,by omega,by omega,by go_num,_,HG,by rw[HP.O];exact AI,by rw[E1.O],by rw[HP.O];go_num⟩
  case measure=>simp[intOf];omega
theorem ahX(x:Int)(h0:0≤x)(h1:x<256):bits .and .u8 x 127=x % 128:=bits_mask .u8 8 (by decide) wraps_u8 7 (by decide) x h0 h1
theorem NL(z y i P:Nat)(hz:z<P)(hP:P=2 ^ i)(hi:i≤21):bits .or .i64 (z:Int) ((y:Int) % 128* (P:Int))=((z+y % 128*P:Nat):Int):=by
 have J:bits .or .i64 (z:Int) ((y:Int) % 128* (P:Int))=bits .or .i64 ((y:Int) % 128* (P:Int)) (z:Int):=by simp only[bits,BitVec.or_comm]
 have au6:P≤2097152:=by rw[hP];exact aJ (pow_le_pow_right (by decide) hi) (by decide)
 have e:(y:Int) % 128* (P:Int)=((y % 128*P:Nat):Int):=by push_cast;rfl
 have hw:∀n:Int,0≤n→n<2 ^ 62→IntKind.i64.wrap n=n:=by
  intro n h0 h1;rw[IntKind.wrap_i64]
  omega
 have U:y % 128*P≤127*P:=uh _ (by omega);have h1:((y % 128*P:Nat):Int) % 2 ^ i=0:=by
  rw[hP];simp
 have h2:(z:Int)<2 ^ i:=by
  have:(z:Int)<((2 ^ i:Nat):Int):=by omega
  simpa using this
 rw[J,e,bits_join .i64 62 (by decide) hw i _ _ (by omega) h1 (by omega) (by omega) h2 (by omega)]
 omega
theorem R_{P:Prop}(h:P:=by
 by_cases xH:x.toNat=0
 ·rw[if_pos ⟨xH,by omega⟩] at H;rw[←H] at I;have Hg:((x.toNat:Int)==0)=true:=by rw[beq_iff_eq];omega
  clear H xH;go_wp2;go_ret3;exact I
 rw[if_neg (by omega)] at H;rw[←H] at I;have Hg:((x.toNat:Int)==0)=false:=by rw[beq_eq_false_iff_ne];omega
 clear H xH;go_wp2;go_ret3;exact I):P:=h
theorem vA(v:Value)(l:List UInt8)(x y z:Nat)(hG:dY l=(x,y,z))(w:World)(hv:Bs w v l)(R:ak)
 (I:R (.returned (.tuple #[E x,E y,E z])) w):
 Calls prog 190 #[v] w R:=by
 obtain rfl:x=(dY l).1:=by rw[hG]
 obtain rfl:y=(dY l).2.1:=by rw[hG]
 obtain rfl:z=(dY l).2.2:=by rw[hG]
 clear hG;obtain⟨Y,c,rfl,hr,J,hm,iN⟩:=hv;go_enter func190,ntmps190;go_wp2;go_loop [2,5,6,9] (fun x _ _ i=>∃k:Nat,k≤4∧k≤l.length∧i= .int .i64 k∧∃z:Nat,Hid (mV (4 - k) k z (l.drop k)=dY l)∧z<128 ^ k∧x= .int .i64 z) (fun _ _ _ i=>l.length - (intOf i).toNat)
 case atStart=>exact⟨0,by omega,bP _,rfl,_,rfl,by decide,rfl⟩
 case round=>
  obtain⟨k,G,gq,rfl,z,hz,tk,rfl⟩:=hrel;by_cases au:k<l.length;rotate_left
  ·obtain rfl:k=l.length:=by omega
   have H:=hz.O;rw[List.drop_length] at H;clear hz;by_cases h4:l.length=4
   ·rw[h4,show 4 - 4=0 from rfl,mV] at H;rw[←H] at I;clear H;have NM:¬(l.length:Int)<4:=by omega
    go_wp2;go_ret3;exact I
   rw[show 4 - l.length=(3 - l.length)+1 by omega,mV] at H;rw[←H] at I;clear H;have NM:(l.length:Int)<4:=by omega
   go_wp2;go_ret3;exact I
  obtain⟨b,o,rfl,bg⟩:=hr.CP (by omega);have ur:=bg k au;have Hf:=l[k].toNat_lt;have H:=hz.O;rw[YA l k au] at H;obtain⟨x,F⟩:∃x:UInt8,x=l[k]:=⟨_,rfl⟩
  rw[←F] at H ur Hf;obtain⟨r,BH⟩:∃r,r=l.drop (k+1):=⟨_,rfl⟩
  rw[←BH] at H;have NN:=Z BH;clear bg hr hz F BH;have hand:=ahX x.toNat (by omega) (by omega);rcases(show k=0∨k=1∨k=2∨k=3∨k=4 by omega) with rfl|rfl|rfl|rfl|rfl
  ·rw[add_zero] at ur;have rj:=NL z x.toNat 0 1 (by omega) (by decide) (by omega);have AI:z<1:=tk;have EP:bits .or .i64 (z:Int) ((x.toNat:Int) % 128)=((z+x.toNat % 128*1:Nat):Int):=by
    rw[show(((1:Nat)):Int)=1 from rfl,Int.mul_one] at rj;exact rj
   rw[show 4 - 0=3+1 from rfl,mV,show 128 ^ 0=1 from rfl] at H;obtain⟨y,hy⟩:∃y,y=z+x.toNat % 128*1:=⟨_,rfl⟩
   rw[←hy] at H EP;have jS:y<128:=by omega
   clear rj tk hy;by_cases aO:x.toNat<128
   ·rw[if_pos aO] at H;by_cases xH:x.toNat=0
    ·rw[if_neg (by omega)] at H;rw[←H] at I;have Hg:((x.toNat:Int)==0)=true:=by rw[beq_iff_eq];omega
     clear H xH;go_wp2;go_ret3;exact I
    ·rw[if_neg (by omega)] at H;rw[←H] at I;have Hg:((x.toNat:Int)==0)=false:=by rw[beq_eq_false_iff_ne];omega
     clear H xH;go_wp2;go_ret3;exact I
   rw[if_neg aO] at H;rw[NN.O] at H;have HG:=Z H;clear H;go_wp2;go_round
   case rel=>exact⟨1,by omega,by omega,rfl,y,HG,jS,rfl⟩
   case measure=>simp[intOf];omega
  ·have rj:=NL z x.toNat 7 128 (by omega) (by decide) (by omega);have AI:z<128:=tk;have EP:bits .or .i64 (z:Int) ((x.toNat:Int) % 128*128)=((z+x.toNat % 128*128:Nat):Int):=rj;rw[show 4 - 1=2+1 from rfl,mV,show 128 ^ 1=128 from rfl] at H;obtain⟨y,hy⟩:∃y,y=z+x.toNat % 128*128:=⟨_,rfl⟩
   rw[←hy] at H EP;have jS:y<16384:=by omega
   clear rj tk hy;by_cases aO:x.toNat<128
   ·rw[if_pos aO] at H;exact R_
   rw[if_neg aO] at H;rw[NN.O] at H;have HG:=Z H;clear H;go_wp2;go_round
   case rel=>exact⟨2,by omega,by omega,rfl,y,HG,jS,rfl⟩
   case measure=>simp[intOf];omega
  ·have rj:=NL z x.toNat 14 16384 (by omega) (by decide) (by omega);have AI:z<16384:=tk;have EP:bits .or .i64 (z:Int) ((x.toNat:Int) % 128*16384)=((z+x.toNat % 128*16384:Nat):Int):=rj;rw[show 4 - 2=1+1 from rfl,mV,show 128 ^ 2=16384 from rfl] at H;obtain⟨y,hy⟩:∃y,y=z+x.toNat % 128*16384:=⟨_,rfl⟩
   rw[←hy] at H EP;have jS:y<2097152:=by omega
   clear rj tk hy;by_cases aO:x.toNat<128
   ·rw[if_pos aO] at H;exact R_
   rw[if_neg aO] at H;rw[NN.O] at H;have HG:=Z H;clear H;go_wp2;go_round
   case rel=>exact⟨3,by omega,by omega,rfl,y,HG,jS,rfl⟩
   case measure=>simp[intOf];omega
  ·have rj:=NL z x.toNat 21 2097152 (by omega) (by decide) (by omega);have AI:z<2097152:=tk;have EP:bits .or .i64 (z:Int) ((x.toNat:Int) % 128*2097152)=((z+x.toNat % 128*2097152:Nat):Int):=rj;rw[show 4 - 3=0+1 from rfl,mV,show 128 ^ 3=2097152 from rfl] at H;obtain⟨y,hy⟩:∃y,y=z+x.toNat % 128*2097152:=⟨_,rfl⟩
   rw[←hy] at H EP;have jS:y<268435456:=by omega
   clear rj tk hy;by_cases aO:x.toNat<128
   ·rw[if_pos aO] at H;exact R_
   rw[if_neg aO] at H;rw[NN.O] at H;have HG:=Z H;clear H;go_wp2;go_round
   case rel=>exact⟨4,by omega,by omega,rfl,y,HG,jS,rfl⟩
   case measure=>simp[intOf];omega
  rw[show 4 - 4=0 from rfl,mV] at H;rw[←H] at I;clear H hand;have NM:¬(l.length:Int)<4:=by omega
  go_wp2;go_ret3;exact I
theorem NO(n:Nat)(h:n<256):(b8 (n:Int)).toNat=n:=by
 have:=xB (n:Int)
 omega
theorem R'(c:UInt8):b8 ((c.toNat:Nat):Int)=c:=by
 have h:=c.toNat_lt;apply UInt8.toNat_inj.1;exact NO _ (by omega)
theorem ahY(f g i z n:Nat)(t:List UInt8)(hn:n<128 ^ (f+1))(A:f+1≤g)(h0:0<n∨i=0):
 mV g i z (nA f n++t)=(z+n*128 ^ i,i+(nA f n).length,0):=by
 induction f generalizing g i z n with
 |zero=>
  obtain⟨g,rfl⟩:∃g',g=g'+1:=⟨g - 1,by omega⟩
  have NP:n<128:=by simpa using hn
  have J:(b8 (n:Int)).toNat=n:=NO _ (by omega);simp only[nA,List.cons_append,nil_append,mV,J];rw[if_pos NP,if_neg (by omega),Nat.mod_eq_of_lt NP]
  rfl
 |succ f ih=>
  obtain⟨g,rfl⟩:∃g',g=g'+1:=⟨g - 1,by omega⟩
  by_cases h:n<128
  ·have J:(b8 (n:Int)).toNat=n:=NO _ (by omega);rw[He _ _ h];simp only[List.cons_append,nil_append,mV,J];rw[if_pos h,if_neg (by omega),Nat.mod_eq_of_lt h]
   rfl
  have J:(b8 ((n % 128+128:Nat):Int)).toNat=n % 128+128:=NO _ (by omega);rw[JL _ _ h];simp only[List.cons_append,mV,J];rw[if_neg (by omega),ih g (i+1) _ (n / 128) (by rw[Nat.pow_succ] at hn;exact div_lt_of_lt_mul (by rw[mul_comm];exact hn)) (by omega) (by left;omega)];have e1:(n % 128+128) % 128=n % 128:=by omega
  rw[e1];have e2:z+n % 128*128 ^ i+n / 128*128 ^ (i+1)=z+n*128 ^ i:=by
   rw[Nat.pow_succ,mul_comm (128 ^ i) 128,←Nat.mul_assoc,oO,←add_mul]
   congr 2
   omega
  rw[e2,ey]
  congr 2
  omega
theorem ahZ(g i z:Nat)(l:List UInt8)(m u:Nat)(h:mV g i z l=(m,u,0)):
 ∃n k,m=z+n*128 ^ i∧u=i+k∧k≤l.length∧n<128 ^ g∧nA (g - 1) n=l.take k∧(0<i→0<n):=by
 induction g generalizing i z l with
 |zero=>simp only[mV,Prod.mk.injEq] at h;omega
 |succ g ih=>
  cases l with
  |nil=>simp only[mV,Prod.mk.injEq] at h;omega
  |cons c r=>
   simp only[mV] at h
   split at h
   ·rename_i J
    split at h
    ·simp only[Prod.mk.injEq] at h;omega
    rename_i fI
    simp only[Prod.mk.injEq] at h;refine⟨c.toNat,1,?_,by omega,by simp,?_,?_,by omega⟩
    ·rw[←h.1,Nat.mod_eq_of_lt J]
    ·exact eV J (by rw[Nat.pow_succ];exact Nat.le_mul_of_pos_left _ (Nat.pow_pos (by decide)))
    rw[He _ _ J,R']
    rfl
   rename_i J
   obtain⟨n,k,h1,h2,h3,h4,h5,h6⟩:=ih _ _ _ h;have dK:=h6 (by omega);have Hf:=c.toNat_lt;refine⟨c.toNat % 128+128*n,k+1,?_,by omega,by simpa using h3,?_,?_,by omega⟩
   ·rw[h1,Nat.pow_succ,add_mul,oO]
    congr 2
    rw[mul_comm (128 ^ i) 128,←Nat.mul_assoc,mul_comm n 128]
   ·rw[Nat.pow_succ]
    omega
   cases g with
   |zero=>simp only[mV,Prod.mk.injEq] at h;omega
   |succ g=>
    simp only[Nat.add_sub_cancel] at h5⊢;rw[JL _ _ (by omega),show(c.toNat % 128+128*n) / 128=n by omega,h5,show(c.toNat % 128+128*n) % 128+128=c.toNat by omega,R']
    rfl
theorem NQ(n:Nat)(hn:n<268435456)(t:List UInt8):dY (jR n++t)=(n,(jR n).length,0):=by
 have:=ahY 3 4 0 0 n t hn (by omega) (by right;rfl)
 simpa [dY,jR] using this
theorem Df(l:List UInt8)(m u:Nat)(h:dY l=(m,u,0)):m<268435456∧u≤l.length∧jR m=l.take u:=by
 obtain⟨n,k,h1,h2,h3,h4,h5,_⟩:=ahZ 4 0 0 l m u h;simp only[zero_add,Nat.pow_zero,Nat.mul_one] at h1 h2;subst h1 h2;exact⟨h4,h3,h5⟩
theorem JN(f n:Nat):1≤(nA f n).length∧(nA f n).length≤f+1:=by
 induction f generalizing n with
 |zero=>simp[nA]
 |succ f ih=>
  by_cases h:n<128
  ·rw[He _ _ h];simp
  rw[JL _ _ h];have:=ih (n / 128);simp only[ey]
  omega
theorem zg(n:Nat)(hn:n<268435456):eE (n:Int)=(jR n,0):=by
 unfold eE;rw[if_neg (by omega)]
 rfl
variable{K S k t:Nat}{fr:Nat×Nat}
def bh(w:World)(e size:Nat)(v:Value)(n:Nat)(xs:List Value):Prop:=
 xs.length=n*size∧((v= .slice none 0 0∧n=0)∨∃g o c,∃cur:Array Value,v= .slice (some ⟨g,o,none⟩) n c∧w.heap[g]? =some (.cells cur e (0,0))∧n≤c∧c≤maxLen∧o+c*size≤cur.size∧∀j,j<n*size→cur[o+j]? =xs[j]?)
theorem bh.nil(w:World)(e size:Nat):bh w e size (.slice none 0 0) 0 []:=⟨by simp,.inl ⟨rfl,rfl⟩⟩
theorem bh.shape(h:bh w e size v n xs):∃a c,v= .slice a n c:=by
 rcases h.2 with⟨hv,h0⟩|⟨g,o,c,cur,hv,_⟩
 ·subst h0;exact⟨_,_,hv⟩
 exact⟨_,_,hv⟩
theorem bh.iG(h:w.ownsRow B e size v n xs):bh w e size v n xs:=by
 refine⟨h.1,?_⟩;rcases h.2 with hn|⟨g,cap,cur,hv,_,A,h1,h2,h3,h4⟩
 ·exact .inl hn
 refine .inr ⟨g,0,cap,cur,hv,A,h1,h2,by omega,fun j hj=> ?_⟩;rw[zero_add,←h4,ml,if_pos hj];simp
theorem bh.lt(h:bh w e size v n xs):∀k,v.ownBlock=some k→k<w.heap.size:=by
 intro k G;rcases h.2 with⟨rfl,_⟩|⟨g,o,c,cur,rfl,A,_⟩
 ·simp[Value.ownBlock] at G
 simp only[Value.ownBlock,Option.some.injEq] at G;subst G;exact(eI.1 A).1
theorem bh.wH(h:bh w e size v n xs)(U:∀k,v.ownBlock=some k→w'.heap[k]? =w.heap[k]?):bh w' e size v n xs:=by
 refine⟨h.1,?_⟩;rcases h.2 with hn|⟨g,o,c,cur,rfl,A,rest⟩
 ·exact .inl hn
 exact .inr ⟨g,o,c,cur,rfl,(U g rfl).trans A,rest⟩
theorem bh.below(h:bh w e size v n xs)(U:Below w w w'):bh w' e size v n xs:=h.wH fun k G=>U.block k (h.lt k G)
theorem bh.ne{cs:Array Value}(h:bh w e size v n xs)(hK:w.heap[K]? =some (.cells cs t fr))(ht:t≠e):v.ownBlock≠some K:=by
 intro J;rcases h.2 with⟨rfl,_⟩|⟨g,o,c,cur,rfl,A,_⟩
 ·simp[Value.ownBlock] at J
 simp only[Value.ownBlock,Option.some.injEq] at J;subst J;rw[hK] at A;simp only[Option.some.injEq,Obj.cells.injEq] at A;exact ht A.2.1
theorem bh.grown{row:Option Nat}(h:bh w e size v n xs)(A:w.grownBy w' row)(bf:v.ownBlock≠row∨row=none):bh w' e size v n xs:=h.wH fun k G=>A.block k (h.lt k G) (fun e=>by
 rcases bf with h1|h1
 ·exact h1 (G.trans e)
 rw[h1] at e;cases e)
theorem bh.rd{c:Nat}(h:bh w e size (.slice Y n c) n xs):Rd w size Y n xs:=by
 refine⟨h.1,fun hn=> ?_⟩;rcases h.2 with⟨_,h0⟩|⟨g,o,c',cur,hv,A,h1,h2,h3,h4⟩
 ·subst h0;simp at hn
 simp only[Value.slice.injEq] at hv;obtain⟨rfl,-,rfl⟩:=hv;refine⟨g,o,rfl,fun j hj=> ?_⟩;rw[oP w g (o+j) cur e (0,0) A,h4 j hj]
theorem bh.cap{c:Nat}(h:bh w e size (.slice Y n c) n xs):n≤c∧c≤maxLen∧(Y=none→c=0):=by
 rcases h.2 with⟨hv,h0⟩|⟨g,o,c',cur,hv,A,h1,h2,h3,h4⟩
 ·simp only[Value.slice.injEq] at hv;obtain⟨rfl,-,rfl⟩:=hv;exact⟨by omega,bP _,fun _=>rfl⟩
 simp only[Value.slice.injEq] at hv;obtain⟨rfl,-,rfl⟩:=hv;exact⟨h1,h2,fun h=>by cases h⟩
theorem bh.at{c:Nat}(h:bh w e size (.slice Y n c) n xs)(hn:0<n):∃g o,Y=some ⟨g,o,none⟩∧(∀j,j<n*size→w.cell? ⟨g,o+j,none⟩=xs[j]?)∧∀i,w.frozen? ⟨g,i,none⟩=false:=by
 rcases h.2 with⟨_,h0⟩|⟨g,o,c',cur,hv,A,h1,h2,h3,h4⟩
 ·omega
 simp only[Value.slice.injEq] at hv;obtain⟨rfl,-,rfl⟩:=hv;exact⟨g,o,rfl,fun j hj=>by rw[oP w g (o+j) cur e (0,0) A,h4 j hj],fun i=>frozen_of_row w g i cur e A⟩
theorem pB(g t:Nat):∀(vs:List Value)(o:Nat)(w:World)(cur:Array Value),w.heap[g]? =some (.cells cur t (0,0))→
 ∃BD:Array Value,(w.setCells g o vs).heap[g]? =some (.cells BD t (0,0))∧BD.size=cur.size∧∀j,BD[j]? =if o≤j∧j<o+vs.length∧j<cur.size then vs[j - o]? else cur[j]?
 |[],o,w,cur,h=>⟨cur,h,rfl,fun j=>by rw[if_neg (by simp;omega)]⟩
 |v::r,o,w,cur,h=>by
  obtain⟨BD,h1,h2,h3⟩:=pB g t r (o+1) (w.setCell ⟨g,o,none⟩ v) _ (bm w g o cur t v h);refine⟨BD,h1,by rw[h2];simp,fun j=> ?_⟩;rw[h3 j,Array.getElem?_setIfInBounds];simp only[Array.size_setIfInBounds,ey];by_cases hj:o=j
  ·subst hj;rw[if_neg (by omega)];by_cases W:o<cur.size
   ·rw[if_pos rfl,if_pos W,if_pos (by omega)];simp
   ·rw[if_pos rfl,if_neg W,if_neg (by omega)];simp[W]
  rw[if_neg hj];by_cases J:o+1≤j∧j<o+1+r.length∧j<cur.size
  ·rw[if_pos J,if_pos (by omega),show j - o=(j - (o+1))+1 by omega];simp
  rw[if_neg J,if_neg (by omega)]
theorem qZ(g:Nat):∀(vs:List Value)(o:Nat)(w:World),w.grownBy (w.setCells g o vs) (some g)
 |[],_,_=>World.grownBy.refl _ _
 |v::r,o,w=>cg (br w ⟨g,o,none⟩ v) (qZ g r (o+1) _)
def C3(w w':World)(v v':Value):Prop:=(w.grownBy w' v.ownBlock∧v'.ownBlock=v.ownBlock)∨(w.grownBy w' none∧v'.ownBlock=some w.heap.size)
theorem C3.row{cs:Array Value}(h:C3 w w' v v')(hr:bh w e size v n xs)(hS:w.heap[S]? =some (.cells cs t fr))(ht:t≠e):w'.heap[S]? =some (.cells cs t fr):=by
 rcases h with⟨A,_⟩|⟨A,_⟩
 ·exact hZ A hS (hr.ne hS ht)
 exact hZ A hS (by simp)
section
variable {P:Program} (w:World)
theorem ahn(t ty e:TypeId)(i:TypeInfo)(z:Value)(size bytes:Nat)(ht:P.underlying t=some (.slice e))(hi:P.info? e=some i)(hz:i.zero=some z)
 (qX:i.size=size) (qY:i.bytes=bytes) (iY:z.cells.size=size) (bt:0<size)
 (v:Value) (n:Nat) (xs:List Value) (aU:bh w e size v n xs)
 (a:Addr) (m c:Nat) (news:List Value) (hl:news.length=m*size) (nx:∀j u,news[j]? =some u→w.cell? (a.add j)=some u) (h1:∀u∈news,u.oneCell'=true)
 (h63:n+m≤maxLen) (gz:(n+m) *bytes≤140737488355328) (hm:0<m):
 ∃bK c' w',(Builtin.append_ #[t,t] ty #[v,.slice (some a) m c]).run P w= .ok (.slice bK (n+m) c') w'∧bh w' e size (.slice bK (n+m) c') (n+m) (xs++news)∧C3 w w' v (.slice bK (n+m) c'):=by
 have bk:(xs++news).length=(n+m) *size:=by rw[aK,aU.1,hl,add_mul]
 rcases aU.2 with⟨rfl,rfl⟩|⟨g,o,cap,cur,rfl,A,Ex,vg,dQ,bZ⟩
 ·obtain⟨v',w',hr,h2,h3⟩:=RI (P:=P) w 0 t ty e i z size bytes ht hi hz qX qY iY bt _ 0 xs (by
   have:xs= []:=n_ (by have:=aU.1;simpa using this);subst this;exact bO _ _ _ _) a m c news hl nx h1 h63 gz (bP _) hm
  obtain⟨bK,c',rfl⟩:=cR h2;refine⟨bK,c',w',hr,.iG h2,?_⟩;obtain⟨v1,w1,jb,h21,h31,_,h51⟩:=run_append_own_at (P:=P) w 0 t ty e i z size bytes ht hi hz qX qY iY bt (.slice none 0 0) 0 xs (by
   have:xs= []:=n_ (by have:=aU.1;simpa using this);subst this;exact bO _ _ _ _) a m c news hl nx h1 h63 gz (bP _)
  rw[hr] at jb;simp only[Result.ok.injEq] at jb;obtain⟨rfl,rfl⟩:=jb;rcases h51 with h|h
  ·exact .inl ⟨h31,h⟩
  exact .inr ⟨h31,h⟩
 by_cases BA:n+m≤cap
 ·have xE:=uh size BA;rw[add_mul] at xE;have bg:∀j,j<news.length→(w.cell? ⟨g,o+n*i.size+j,none⟩).isSome=true:=fun j hj=>by
   rw[oP w g _ cur e (0,0) A,qX,Array.getElem?_eq_getElem (by omega)]
   rfl
  have j2:=run_append_room_cells (P:=P) w t ty e i ht hi g o n cap a m c news (by rw[hl,qX]) nx h1 BA bg (fun j _=>frozen_of_row w g _ cur e A);obtain⟨BD,k1,k2,k3⟩:=pB g e news (o+n*i.size) w cur A;refine⟨_,_,_,j2,⟨bk,.inr ⟨g,o,cap,BD,rfl,k1,BA,vg,by omega,fun j hj=> ?_⟩⟩,.inl ⟨qZ g _ _ _,rfl⟩⟩;rw[k3,qX];rw[add_mul] at hj;by_cases RJ:j<n*size
  ·rw[if_neg (by omega),bZ j RJ,ug (by rw[aU.1];exact RJ)]
  rw[if_pos (by omega),yH (by rw[aU.1];omega),aU.1]
  congr 1
  omega
 have XU:∀j u,xs[j]? =some u→w.cell? ((⟨g,o,none⟩:Addr).add j)=some u:=fun j u hu=>by
  have hj:j<n*size:=by rw[←aU.1];exact(qe.1 hu).1
  rw[Addr.add_lit,oP w g _ cur e (0,0) A,bZ j hj];exact hu
 have j2:=run_append_grow (P:=P) w t ty e i z ht hi hz ⟨g,o,none⟩ n cap xs (by rw[aU.1,qX]) XU a m c news (by rw[hl,qX]) nx (by omega) (by unfold maxLen at h63;omega) (growslice_fits (by omega) (by rw[qY];exact gz));obtain⟨v',w',G7,h4,h5⟩:=run_append_arg_grows (P:=P) w t ty e i z size bytes ht hi hz qX qY iY bt ⟨g,o,none⟩ n cap xs aU.1 XU a m c news hl nx (by omega) h63 gz;rw[j2] at G7;simp only[Result.ok.injEq] at G7;obtain⟨rfl,rfl⟩:=G7;exact⟨_,_,_,j2,.iG h4,.inr ⟨h5,rfl⟩⟩
end
theorem aho{P:Program}{o:Oper}{a:Act}{K:Act→World→Prop}{Q:Exit→Act→World→Prop}(s x:Operand)(t:TypeId)
 (ho:o.op= .call {callee:= .builtin .append,args:=#[s,x],argTypes:=#[t,t]})
 (e:TypeId) (z:Value) (size bytes:Nat) (ht:P.underlying t=some (.slice e)) (mn:(P.info? e).map (fun i=>(i.zero,i.size,i.bytes))=some (some z,size,bytes)) (iY:z.cells.size=size) (bt:0<size)
 (v:Value) (n:Nat) (xs:List Value) (W:a.eval s=v) (aU:bh w e size v n xs)
 (Y:Addr) (m c:Nat) (news:List Value) (F:a.eval x= .slice (some Y) m c) (bQ:Rd w size (some Y) m news) (h1:∀u∈news,u.oneCell'=true)
 (h63:n+m≤maxLen) (gz:(n+m) *bytes≤140737488355328) (hm:0<m)
 (h:∀bK c' w',bh w' e size (.slice bK (n+m) c') (n+m) (xs++news)→C3 w w' v (.slice bK (n+m) c')→K (a.put o.dst (.slice bK (n+m) c')) w'):o.wp P a w K Q:=by
 obtain⟨i,hi,hz,dJ,fV⟩:=info_parts mn;obtain⟨b,o',e',J⟩:=bQ.2 (by have:=Nat.mul_pos hm bt;omega);obtain rfl:=Option.some.inj e';obtain⟨bK,c',w',hr,h2,h3⟩:=ahn (P:=P) w t o.type e i z size bytes ht hi hz dJ fV iY bt v n xs aU ⟨b,o',none⟩ m c news bQ.1 (by
  intro j q hj;have ti:j<m*size:=by rw[←bQ.1];exact(qe.1 hj).1
  rw[Addr.add_lit,J j ti];exact hj) h1 h63 gz hm
 exact Rz
theorem RL{P:Program}{ops:Array Oper}{o:Oper}{a:Act}{K:Act→World→Prop}{Q:Exit→Act→World→Prop}{awW:Prop}(oe:o.guard=none)(s x:Operand)(t:TypeId)
 (ho:o.op= .call {callee:= .builtin .append,args:=#[s,x],argTypes:=#[t,t]})
 (e:TypeId) (z:Value) (size bytes:Nat) (ht:P.underlying t=some (.slice e)) (mn:(P.info? e).map (fun i=>(i.zero,i.size,i.bytes))=some (some z,size,bytes)) (iY:z.cells.size=size) (bt:0<size)
 (v:Value) (n:Nat) (xs:List Value) (W:a.eval s=v) (aU:bh w e size v n xs)
 (Y:Addr) (m c:Nat) (news:List Value) (F:a.eval x= .slice (some Y) m c) (bQ:Rd w size (some Y) m news) (h1:∀u∈news,u.oneCell'=true)
 (h63:n+m≤maxLen) (gz:(n+m) *bytes≤140737488355328) (hm:0<m)
 (h:∀bK c' w',bh w' e size (.slice bK (n+m) c') (n+m) (xs++news)→C3 w w' v (.slice bK (n+m) c')→K (a.put o.dst (.slice bK (n+m) c')) w'):
 if Region.wanted o (yielded ops a.tmps)=true then Oper.wp P o a w K Q else awW:=by
 have hw:Region.wanted o (yielded ops a.tmps)=true:=by simp[Region.wanted,oe]
 rw[if_pos hw];exact aho s x t ho e z size bytes ht mn iY bt v n xs W aU Y m c news F bQ h1 h63 gz hm h
theorem bh.from{c:Nat}{i:TypeInfo}(h:bh w e size (.slice Y n c) n xs)(ht:prog.underlying t=some (.slice e))(hi:prog.info? e=some i)(bt:i.size=size)(G:k≤n):
 ∃ax,(∀w',(Instr.slice t (.slice Y n c) (some (E (k:Int))) none none).run prog w'= .ok (.slice ax (n - k) (c - k)) w')∧bh w e size (.slice ax (n - k) (c - k)) (n - k) (xs.drop (k*size))∧(Value.slice ax (n - k) (c - k)).ownBlock=(Value.slice Y n c).ownBlock:=by
 have he:prog.elem t=e:=by simp[Program.elem,ht]
 have bk:(xs.drop (k*size)).length=(n - k) *size:=by rw[dw,h.1,Nat.sub_mul]
 have jv:=h.cap;refine⟨if c=k then Y else Y.map (·.add (k*size)),fun w'=> ?_,⟨bk,?_⟩,?_⟩
 ·rw[run_slice_l (P:=prog) w' _ Y n c (by rw[he];exact ht) .i64 k (by omega) (by omega),he];simp[sizeOf,typeInfo,hi,bt,sliced]
 ·rcases h.2 with⟨hv,h0⟩|⟨g,o,c',cur,hv,A,h1,h2,h3,h4⟩
  ·simp only[Value.slice.injEq] at hv;obtain⟨rfl,-,rfl⟩:=hv;refine .inl ⟨?_,by omega⟩;have:k=0:=by omega
   subst this h0;simp
  ·simp only[Value.slice.injEq] at hv;obtain⟨rfl,-,rfl⟩:=hv;have xE:=uh size G;have auZ:=uh size h1;refine .inr ⟨g,if c=k then o else o+k*size,c - k,cur,?_,A,by omega,by omega,?_,fun j hj=> ?_⟩
   ·split
    ·rfl
    ·rw[Option.map_some,Addr.add_lit]
   ·rw[Nat.sub_mul]
    split<;>omega
   ·rw[Nat.sub_mul] at hj;rw[List.getElem?_drop]
    split
    ·have:n=k:=by omega
     subst this
     omega
    rw[oO];exact h4 _ (by omega)
 cases Y with
 |none=>split<;>rfl
 |some a=>
  split
  ·rfl
  simp only[Option.map_some,Value.ownBlock,Option.some.injEq];unfold Addr.add
  split<;>rfl
open List (nodup_append)
variable{N m:Nat}
theorem Tryz.Ey:Maps.Keyed prog 3:=Maps.int_keyed underlying3
theorem Tryz.ahp(w:World):(zeroValue 161).run prog w= .ok (.agg #[]) w:=by kernel_rfl
def iR(n:Int):Prop:= -9223372036854775808≤n∧n≤9223372036854775807
theorem iR.key{n:Int}(h:iR n):keyOf prog 3 (E n)=some (.int .i64 n):=Maps.keyOf_int_mk underlying3 (WalkArith.wf_i64 h)
structure Nu(w:World)(m:Nat)(l:List Int):Prop where
 nd:l.Nodup
 rg:∀x∈l,1≤x∧x≤65535
 ex:∃aw2:DataW Unit,w.ownsMap prog 3 unitElem m l.length aw2∧(∀n:Int,Maps.has aw2 (E n)=l.contains n)∧Maps.size aw2=l.length
theorem ahq{H:Type}{P:Program}{k:TypeId}{R:Value→Option (DataW H×List MemPlace)}{b:Nat}{aw2:DataW H}(h:w.ownsMap P k R b n aw2)(e:w'.heap[b]? =w.heap[b]?):w'.ownsMap P k R b n aw2:=by
 obtain⟨es,clock,U,r⟩:=h;exact⟨es,clock,e.trans U,r⟩
theorem XV{H:Type}{P:Program}{k:TypeId}{R:Value→Option (DataW H×List MemPlace)}{b:Nat}{aw2:DataW H}(h:w.ownsMap P k R b n aw2):w.ownsMap P k R b (Maps.size aw2) aw2:=by
 obtain⟨es,clock,U,awX,_,rfl⟩:=h;refine⟨es,clock,U,awX,?_,rfl⟩;rw[Maps.size_eq,length_sorted];simp
theorem Nu.lt{l:List Int}(h:Nu w m l):m<w.heap.size:=by
 obtain⟨aw2,h1,_⟩:=h.ex;exact h1.lt
theorem Nu.wH{l:List Int}(h:Nu w m l)(e:w'.heap[m]? =w.heap[m]?):Nu w' m l:=by
 obtain⟨aw2,h1,h2⟩:=h.ex;exact⟨h.nd,h.rg,aw2,ahq h1 e,h2⟩
theorem Nu.below{l:List Int}(h:Nu w m l)(U:Below w w w'):Nu w' m l:=h.wH (U.block m h.lt)
theorem Nu.put{l:List Int}{aw2:DataW Unit}{d:Int}(nd:l.Nodup)(rg:∀x∈l,1≤x∧x≤65535)(hD:Maps.Tidy aw2)(hh:∀n:Int,Maps.has aw2 (E n)=l.contains n)(W:Maps.size aw2=l.length)
 (h:w'.ownsMap prog 3 unitElem m n (aw2.put (E d) (.agg []))) (h1:1≤d∧d≤65535) (hd:l.contains d=false):Nu w' m (l++ [d]):=by
 have bf:d∉l:=by simpa using hd
 have bt:Maps.size (aw2.put (E d) (.agg []))=(l++ [d]).length:=by
  rw[Maps.size_put hD,hh,hd,W];simp
 refine⟨?_,?_,_,?_,fun n=> ?_,bt⟩
 ·rw[nodup_append];exact⟨nd,by simp,fun a ha b U=>by
   obtain rfl:=dM.1 U;exact fun e=>bf (e▸ha)⟩
 ·intro x F;rcases ez.1 F with h|h
  ·exact rg x h
  ·obtain rfl:=dM.1 h;exact h1
 ·rw[←bt];exact XV h
 by_cases e:n=d
 ·subst e;rw[Maps.has_put_same hD.isMap (show WideAt.IsKeyLit (E n) from trivial)];simp
 rw[Maps.has_put_other (by simpa using e),hh];simp[e]
theorem Nu.del{l:List Int}{aw2:DataW Unit}{d:Int}(nd:l.Nodup)(rg:∀x∈l,1≤x∧x≤65535)(hD:Maps.Tidy aw2)(hh:∀n:Int,Maps.has aw2 (E n)=l.contains n)(W:Maps.size aw2=l.length)
 (h:w'.ownsMap prog 3 unitElem m n (aw2.del (E d))):Nu w' m (l.erase d):=by
 have bt:Maps.size (aw2.del (E d))=(l.erase d).length:=by
  have:=Maps.size_del (k:= .int .i64 d) hD;rw[hh,W] at this;rw[List.length_erase];cases J:l.contains d with
  |true=>
   rw[J] at this;have hm:d∈l:=by simpa using J
   simp only[if_true,hm] at this⊢
   omega
  |false=>
   rw[J] at this;have hm:d∉l:=by simpa using J
   simp only[hm,if_false] at this⊢
   simpa using this
 refine⟨nd.erase d,fun x F=>rg x (List.mem_of_mem_erase F),_,?_,fun n=> ?_,bt⟩
 ·rw[←bt];exact XV h
 by_cases e:n=d
 ·subst e;rw[Maps.has_del_same];have:n∉l.erase n:=nd.not_mem_erase;simp[this]
 rw[Maps.has_del_other (by simpa using e),hh];have:=List.mem_erase_of_ne (l:=l) e;cases J:(l.erase d).contains n with
 |true=>simpa using this.1 (by simpa using J)
 |false=>
  have h1:n∉l.erase d:=by simpa using J
  have h2:n∉l:=fun h=>h1 (this.2 h);simp[h2]
def St(w:World)(N m:Nat)(l:List Int):Prop:=w.heap[N]? =some (.cells #[.map (some m)] 143 (0,0))∧Nu w m l
theorem St.below{l:List Int}(h:St w N m l)(U:Below w w w'):St w' N m l:=⟨aA h.1 U,h.2.below U⟩
theorem St.ne{l:List Int}(h:St w N m l):N≠m:=by
 rintro rfl;obtain⟨aw2,⟨es,clock,U,_⟩,_⟩:=h.2.ex;rw[h.1] at U;cases U
theorem AF(N m:Nat)(l:List Int)(d:Int)(b:Bool)(U:l.contains d=b)(w:World)(W:St w N m l)(hd:iR d)(R:ak)
 (I:∀w',Below w w w'→R (.returned (.bool b)) w'):
 Calls prog 115 #[zq N,E d] w R:=by
 have HR:=Z I;obtain⟨aw2,hD,hh,_⟩:=W.2.ex;have c0:w.cell? ⟨N,0,none⟩=some (.map (some m)):=D 0 W.1;have ahr:=Z hd.key;have HH:=Z ((hh d).trans U);have aM:=aD w (.cells #[] 161);clear W hh hd U I;go_enter func115,ntmps115;go_wp2_with (at_lookup;refine wpList_lookup_own_unit _ rfl _ _ 141 rfl 3 161 Tryz.Ey underlying141 (Tryz.ahp _) m l.length _ rfl hD _ _ rfl ahr.O ?_;rw[HH.O]);exact HR.O _ aM
theorem RM(N m:Nat)(l:List Int)(d:Int)(h1:1≤d)(h2:d≤65535)(J:l.contains d=false)(hl:l.length≤100000)(w:World)(W:St w N m l)(R:ak)
 (I:∀w',St w' N m (l++ [d])→w.grownBy w' (some m)→R (.returned (.bool true)) w'):
 Calls prog 51 #[zq N,E d] w R:=by
 have HR:=Z I;have HS:=Z W;clear I;have hd:iR d:=⟨by omega,by omega⟩
 have HC:=Z J;clear J W;have g1:¬d<1:=by omega
 have g2:¬65535<d:=by omega
 go_enter func51,ntmps51;go_wp2_with (first
  |(go_at_call 115;go_must(refine AF N m l d false HC.O _ HS.O hd _ ?_);intro w1 aw;have c0:w1.cell? ⟨N,0,none⟩=some (.map (some m)):=D 0 (HS.O.below aw).1;have iH:=Z (HS.O.below aw))
  |(at_mapUpdate;obtain⟨aw2,hD,hh,bt⟩:=iH.O.2.ex;refine wpList_mapUpdate_own _ rfl _ _ _ 141 rfl 3 161 Tryz.Ey underlying141 (unitElem (H:=Unit)) m l.length _ rfl hD (by unfold maxLen;omega) _ _ _ rfl rfl hd.key _ [] unitElem_mk ?_;intro w5 fH RN;have HX:=Z (Nu.put iH.O.2.nd iH.O.2.rg (hD.tidy Tryz.Ey) hh bt fH ⟨h1,h2⟩ HC.O);have HG:=Z (cg (ju aw (row:=some m)) RN);have HN:=Z (hZ RN iH.O.1 (fun e=>iH.O.ne (Option.some.inj e).symm));clear fH RN hh bt hD))
 exact HR.O _ ⟨HN.O,HX.O⟩ HG.O
theorem RO(N m:Nat)(l:List Int)(d:Int)(hd:iR d)(J:d<1∨65535<d∨l.contains d=true)(w:World)(W:St w N m l)(R:ak)
 (I:∀w',Below w w w'→R (.returned (.bool false)) w'):
 Calls prog 51 #[zq N,E d] w R:=by
 have HR:=Z I;have HS:=Z W;clear I;clear W;by_cases g1:d<1
 ·clear J;go_enter func51,ntmps51;go_wp2;exact HR.O _ dg
 by_cases g2:65535<d
 ·clear J;go_enter func51,ntmps51;go_wp2;exact HR.O _ dg
 have HC:Hid (l.contains d=true):=by
  rcases J with h|h|h
  ·omega
  ·omega
  exact h
 clear J;go_enter func51,ntmps51;go_wp2_with (go_at_call 115;go_must(refine AF N m l d true HC.O _ HS.O hd _ ?_);intro w1 aw);exact HR.O _ aw
theorem XW(N m:Nat)(l:List Int)(d:Int)(hd:iR d)(b:Bool)(U:l.contains d=b)(w:World)(W:St w N m l)(R:ak)
 (I:∀w',St w' N m (l.erase d)→w.grownBy w' (some m)→R (.returned (.bool b)) w'):
 Calls prog 106 #[zq N,E d] w R:=by
 have HR:=Z I;have HS:=Z W;clear I;have HB:=Z U;clear W U;go_enter func106,ntmps106;go_wp2_with (first
  |(go_at_call 115;go_must(refine AF N m l d b HB.O _ HS.O hd _ ?_);intro w1 aw;have c0:w1.cell? ⟨N,0,none⟩=some (.map (some m)):=D 0 (HS.O.below aw).1;have iH:=Z (HS.O.below aw))
  |(at_delete;obtain⟨aw2,hD,hh,bt⟩:=iH.O.2.ex;refine wpList_delete_own _ rfl _ _ 141 3 rfl 161 Tryz.Ey underlying141 (unitElem (H:=Unit)) m l.length _ rfl hD _ _ rfl hd.key ?_;intro w5 fH RP;have HX:=Z (Nu.del iH.O.2.nd iH.O.2.rg (hD.tidy Tryz.Ey) hh bt fH);have HG:=Z (cg (ju aw (row:=some m)) RP.grown);have HN:=Z (hZ RP.grown iH.O.1 (fun e=>iH.O.ne (Option.some.inj e).symm));clear fH RP hh bt hD))
 exact HR.O _ ⟨HN.O,HX.O⟩ HG.O
theorem ahs(l:List Int):∃d:Nat,1≤d∧d≤l.length+1∧l.contains (d:Int)=false∧∀j:Nat,1≤j→j<d→l.contains (j:Int)=true:=by
 have hex:∃d:Nat,1≤d∧l.contains (d:Int)=false∧d≤l.length+1:=by
  apply Classical.byContradiction;intro lI;have j4:∀d:Nat,1≤d→d≤l.length+1→(d:Int)∈l:=fun d h1 h2=>by
   apply Classical.byContradiction;intro hm;exact lI ⟨d,h1,by simpa using hm,h2⟩
  have XY:(List.range (l.length+1)).map (fun (i:Nat)=>((i+1:Nat):Int)) ⊆ l:=by
   intro x F;obtain⟨i,hi,rfl⟩:=List.mem_map.1 F;exact j4 (i+1) (by omega) (by have:=List.mem_range.1 hi;omega)
  have XZ:((List.range (l.length+1)).map (fun (i:Nat)=>((i+1:Nat):Int))).Nodup:=by
   refine List.Pairwise.map _ (fun a b au0=> ?_) List.nodup_range;show((a+1:Nat):Int)≠((b+1:Nat):Int)
   omega
  have:=XZ.length_le_of_subset XY;simp at this
  omega
 have key:∀n:Nat,(∃d:Nat,1≤d∧l.contains (d:Int)=false∧d≤n)→∃d:Nat,1≤d∧d≤n∧l.contains (d:Int)=false∧∀j:Nat,1≤j→j<d→l.contains (j:Int)=true:=by
  intro n
  induction n with
  |zero=>
   rintro⟨d,h1,_,h3⟩
   omega
  |succ n ih=>
   intro h;by_cases W:∃d:Nat,1≤d∧l.contains (d:Int)=false∧d≤n
   ·obtain⟨d,h1,h2,h3,h4⟩:=ih W;exact⟨d,h1,by omega,h3,h4⟩
   obtain⟨d,h1,h2,h3⟩:=h;refine⟨d,h1,h3,h2,fun j q1 q2=> ?_⟩;cases J:l.contains (j:Int) with
   |true=>rfl
   |false=>exact absurd ⟨j,q1,J,by omega⟩ W
 exact key _ hex
theorem aht(N m:Nat)(l:List Int)(d:Nat)(h1:1≤d)(h2:d≤65535)(J:l.contains (d:Int)=false)(j4:∀j:Nat,1≤j→j<d→l.contains (j:Int)=true)(hl:l.length≤100000)(w:World)(W:St w N m l)(R:ak)
 (I:∀w',St w' N m (l++ [(d:Int)])→w.grownBy w' (some m)→R (.returned (.tuple #[E d,.bool true])) w'):
 Calls prog 41 #[zq N] w R:=by
 obtain⟨HS,HC,HA,HR⟩:=cF W J j4 I;clear W J j4 I;go_enter func41,ntmps41;go_wp2;go_loopg [4] (d - 1) (fun gn i wr=>∃k:Nat,1≤k∧k≤d∧gn=d - k∧i= .int .i64 k∧Below w w wr)
 case atStart=>exact⟨1,Nat.le_refl _,h1,by omega,rfl,Below.refl _ _⟩
 case round=>
  obtain⟨k,iS,G,rfl,rfl,U⟩:=hrel;obtain⟨wo,rfl⟩:∃x,x=wr:=⟨_,rfl⟩
  have lJ:(k:Int)≤65535:=by omega
  have ahu:iR (k:Int):=⟨by omega,by omega⟩
  by_cases au:k<d
  ·have HK:=Z (HA.O k iS au);go_wp2_with (go_at_call 51;go_must(refine RO N m l (k:Int) ahu (.inr (.inr HK.O)) _ (HS.O.below U) _ ?_);intro w1 aw;have aO:=aQ U aw);go_roundg (d - (k+1))
   case measure=>omega
   case rel=>exact⟨k+1,by omega,by omega,rfl,by go_num,aO⟩
  obtain rfl:k=d:=by omega
  go_wp2_with (go_at_call 51;go_must(refine RM N m l (k:Int) (by omega) lJ HC.O hl _ (HS.O.below U) _ ?_);intro w1 cH km;have iH:=Z cH;have G2:=Z (cg (ju U (row:=some m)) km);clear cH km);exact HR.O _ iH.O G2.O
theorem Ns(w:World)(R:ak)
 (I:∀N m w',St w' N m []→w.heap.size≤N→w.heap.size≤m→Below w w w'→R (.returned (zq N)) w'):
 Calls prog 35 #[.slice none 0 0] w R:=by
 have vk:= @run_makeMap prog;have HR:=Z I;clear I;go_enter func35,ntmps35;go_wp2;go_loopg [11] 0 (fun gn i wr=>i= .int .i64 0∧wr=(w.alloc (.map #[] 0)).alloc (.cells #[.map (some w.heap.size)] 143))
 case atStart=>exact⟨rfl,rfl⟩
 case round=>
  obtain⟨rfl,rfl⟩:=hrel;go_wp2;have hm:=(World.ownsMap_made w prog 3 (unitElem (H:=Unit))).alloc (.cells #[.map (some w.heap.size)] 143);refine HR.O (w.heap.size+1) w.heap.size _ ⟨?_,.nil,(fun x F=>by simp at F),_,hm,(fun n=>by simp[Maps.has_eq]),rfl⟩ (by omega) bj ((aD _ _).alloc (by simp) _);have:=aH (w.alloc (.map #[] 0)) (.cells #[.map (some w.heap.size)] 143)
  simpa using this
def iv(l:List Int):List Value:=l.map fun x=>Value.int .i64 x
def Is(w:World)(v:Value)(l:List Int):Prop:=
 ∃Y c,v= .slice Y l.length c∧Rd w 1 Y l.length (l.map fun x=>Value.int .i64 x)∧l.length≤c∧c≤9223372036854775807∧(Y=none→c=0)
theorem Is.below{l:List Int}(h:Is w v l)(U:Below w w w'):Is w' v l:=by
 obtain⟨Y,c,rfl,hr,h1,h2,h3⟩:=h;exact⟨Y,c,rfl,hr.below U,h1,h2,h3⟩
theorem Is.at{c:Nat}{l:List Int}(h:Is w (.slice Y n c) l)(k:Nat)(G:k<l.length):∃b o,Y=some ⟨b,o,none⟩∧w.cell? ⟨b,o+k,none⟩=some (.int .i64 l[k]):=by
 obtain⟨bK,c',e,hr,h1,h2,h3⟩:=h;simp only[Value.slice.injEq] at e;obtain⟨rfl,rfl,rfl⟩:=e;obtain⟨b,o,rfl,J⟩:=hr.2 (by omega);refine⟨b,o,rfl,?_⟩;rw[J k (by omega)];simp[G]
theorem Is.len{l:List Int}(h:Is w v l):l.length≤9223372036854775807:=by
 obtain⟨Y,c,_,_,h1,h2,_⟩:=h
 omega
theorem Jv{c:Nat}{L:List Int}(h:w.ownsRow B 3 1 (.slice Y n c) n (iv L))(hn:L.length=n):Is w (.slice Y n c) L:=by
 have J:=xA h;unfold maxLen at J;subst hn;exact⟨Y,c,rfl,wv h,J.1,by omega,GV h⟩
variable{l:List Pr}
theorem XL:(prog.info? 3).map (fun i=>(i.zero,i.size,i.bytes))=some (some (.int .i64 0),1,8):=by kernel_rfl
theorem Bt(l:List Int):∀u∈iv l,u.oneCell'=true:=by
 intro u hu;obtain⟨_,_,rfl⟩:=List.mem_map.1 hu
 rfl
def G3(w:World)(ds:List Value)(l:List Pr):Prop:=ds.length=l.length∧∀(i:Nat)(d:Value)(p:Pr),ds[i]? =some d→l[i]? =some p→PC w d p
theorem Pt.rd(h:Pt aw4 w v l):∃(Y:av)(c:Nat)(ds:List Value),v= .slice Y l.length c∧l.length≤c∧c≤9223372036854775807∧(Y=none→c=0)∧Rd w 5 Y l.length (oQ ds l)∧G3 aw4 ds l:=by
 obtain⟨Y,c,rfl,h1,h2,h3,h4⟩:=h;by_cases h0:0<l.length;rotate_left
 ·have XM:l= []:=n_ (by omega);subst XM;exact⟨Y,c,[],rfl,h1,h2,h3,Rd.nil _ _ _,rfl,fun i d p hd hp=>by simp at hp⟩
 obtain⟨b,o,rfl,h5⟩:=h4 h0;have hex:∀i,i<l.length→∃d,∃p,l[i]? =some p∧P5 w b (o+i*5) d p∧PC aw4 d p:=fun i hi=>by
  obtain⟨d,h6,h7⟩:=h5 i hi;exact⟨d,l[i],dW hi,h6,h7⟩
 have:Inhabited Value:=⟨undef⟩
 obtain⟨f,hf⟩:=Go.Deep.choose_lt (n:=l.length) (p:=fun i d=>∃p,l[i]? =some p∧P5 w b (o+i*5) d p∧PC aw4 d p) hex;have hl:((List.range l.length).map f).length=l.length:=by simp
 refine⟨_,_,(List.range l.length).map f,rfl,h1,h2,h3,⟨?_,fun _=>⟨b,o,rfl,fun j hj=> ?_⟩⟩,hl,fun i d0 p0 Bu tb=> ?_⟩
 ·unfold oQ;rw[List.length_flatMap];have:((((List.range l.length).map f).zip l).map fun a=>(X a).length)=List.replicate l.length 5:=by
   apply List.ext_getElem
   ·simp
   intro i q1 q2;simp[X]
  rw[this];simp
 ·have hi:j / 5<l.length:=by omega
  obtain⟨p,hp,h6,_⟩:=hf (j / 5) hi;rw[dW hi] at hp;obtain rfl:=Option.some.inj hp;have bZ:=G0 ((List.range l.length).map f) l hl (j / 5) hi (j % 5) (by omega);rw[show j / 5*5+j % 5=j by omega] at bZ;rw[bZ];have e:((List.range l.length).map f)[j / 5]'(by rw[hl];exact hi)=f (j / 5):=by simp
  rw[e];have hm:j % 5<5:=mod_lt _ (by omega);have he:j=j / 5*5+j % 5:=by omega
  obtain⟨q,hq⟩:=ai (j % 5);rw[hq] at hm he⊢;rw[show o+j=o+j / 5*5+q by omega]
  match q,hm with
  |0,_=>exact h6.1
  |1,_=>exact h6.2.1
  |2,_=>exact h6.2.2.1
  |3,_=>exact h6.2.2.2.1
  |4,_=>exact h6.2.2.2.2
 have hi:=(qe.1 tb).1;obtain⟨p,hp,_,h7⟩:=hf i hi;rw[tb] at hp;obtain rfl:=Option.some.inj hp;have e:((List.range l.length).map f)[i]? =some (f i):=by simp[hi]
 rw[e] at Bu;obtain rfl:=Option.some.inj Bu;exact h7
theorem ag5(h:G3 w ds l):∀u∈oQ ds l,u.oneCell'=true:=by
 intro u hu;unfold oQ at hu;obtain⟨x,F,RD⟩:=List.mem_flatMap.1 hu;obtain⟨i,hi,rfl⟩:=lD F;have td:i<l.length:=by rw[List.length_zip] at hi;omega
 have hid:i<ds.length:=by rw[List.length_zip] at hi;omega
 obtain⟨a,c,e,_⟩:=(h.2 i _ _ (dW hid) (dW td)).hd;rw[List.getElem_zip,e] at RD;simp only[X,List.mem_cons,qT,or_false] at RD;rcases RD with rfl|rfl|rfl|rfl|rfl<;>rfl
theorem ag6(v:Value)(l:List Int)(w:World)(hv:Is w v l)(hl:l.length≤1000000)(R:ak)
 (I:∀Y c w',w'.ownsRow w 3 1 (.slice Y l.length c) l.length (iv l)→Below w w w'→R (.returned (.slice Y l.length c)) w'):
 Calls prog 102 #[v] w R:=by
 obtain⟨Y,c,rfl,hr,h1,h2,h3⟩:=hv;cases Y with
 |none=>
  have J:c=0:=h3 rfl;subst J;have pz:l= []:=n_ (by omega);subst pz;have he:∀w:World,(binOp .eql 25 (.slice none 0 0) (.slice none 0 0)).run prog w= .ok (.bool true) w:=fun _=>rfl;go_enter func102,ntmps102;go_wp2;exact I _ _ _ (bO _ _ _ _) dg
 |some a=>
  have he:∀w:World,(binOp .eql 25 (.slice (some a) l.length c) (.slice none 0 0)).run prog w= .ok (.bool false) w:=fun _=>rfl;have aU:=(World.ownsRow_made (base:=w.heap.size) (e:=3) (size:=1) w #[] 0 bj (by unfold maxLen;omega) rfl)
  have jb:=Js hr (.cells #[] 3);go_enter func102,ntmps102;go_wp2_with (at_builtin;go_must(refine kU (by rfl) (.tmp 5) (.tmp 6) 25 (by rfl) w 3 (E 0) 1 8 underlying25 XL rfl (by decide) _ _ _ _ rfl aU _ _ _ _ rfl jb (Bt _) h3 (by unfold maxLen;omega) (by omega) (by simp) ?_));intro lF c2 w2 dL bD;have aj:=bT (aD w _) bD (by simp) aU;clear bD aU jb hr;go_wp2;exact I _ _ _ dL aj
theorem ag7(v:Value)(l:List Pr)(aw4 w:World)(hv:Pt aw4 w v l)(hl:l.length≤1000000)(R:ak)
 (I:∀Y c (ds:List Value) w',w'.ownsRow w 147 5 (.slice Y l.length c) l.length (oQ ds l)→G3 aw4 ds l→Below w w w'→R (.returned (.slice Y l.length c)) w'):
 Calls prog 140 #[v] w R:=by
 obtain⟨Y,c,ds,rfl,h1,h2,h3,hr,hd⟩:=hv.rd;have HE:=Z hd;have HR:=Z I;clear I hv hd;cases Y with
 |none=>
  have J:c=0:=h3 rfl;subst J;have pz:l= []:=n_ (by omega);subst pz;have Es:ds= []:=n_ (by have:=HE.O.1;simpa using this);subst Es;have he:∀w:World,(binOp .eql 32 (.slice none 0 0) (.slice none 0 0)).run prog w= .ok (.bool true) w:=fun _=>rfl;go_enter func140,ntmps140;go_wp2;exact HR.O none 0 [] _ (bO _ _ _ _) HE.O dg
 |some a=>
  have he:∀w:World,(binOp .eql 32 (.slice (some a) l.length c) (.slice none 0 0)).run prog w= .ok (.bool false) w:=fun _=>rfl;have aU:=(World.ownsRow_made (base:=w.heap.size) (e:=147) (size:=5) w #[] 0 bj (by unfold maxLen;omega) rfl)
  have jb:=Js hr (.cells #[] 147);have tf:=Z (ag5 HE.O);go_enter func140,ntmps140;go_wp2_with (at_builtin;go_must(refine kU (by rfl) (.tmp 5) (.tmp 6) 32 (by rfl) w 147 (.agg jt) 5 72 underlying32 Tryz.Ar rfl (by decide) _ _ _ _ rfl aU _ _ _ _ rfl jb tf.O h3 (by unfold maxLen;omega) (by omega) (by simp) ?_));intro lF c2 w2 dL bD;have aj:=bT (aD w _) bD (by simp) aU;have bn:=Z aj;have jH:=Z dL;clear bD aU jb hr dL aj;go_wp2;exact HR.O _ _ ds _ (by have:=jH.O;simpa using this) HE.O bn.O
open List (getElem_set_ne getElem_take)
variable{p:Pr}{w1:World}
structure Nt where
 aF:List UInt8
 ay:List UInt8
 ah:Int
 aL:Bool
 src:List UInt8
 aP:Int
 props:List Pr
 origin:Int
 number:Int
 aW:Int
deriving DecidableEq
structure xC(x:Nt):Prop where
 t:x.aF.length≤100000
 p:x.ay.length≤100000
 s:x.src.length≤100000
 l:x.props.length≤100000
 e:∀p∈x.props,PB p
 q: -9223372036854775808≤x.ah∧x.ah≤9223372036854775807
theorem iO{cs:Array Value}(h:w.ownsRow B e size v n xs)(hK:w.heap[K]? =some (.cells cs t fr))(ht:t≠e)(A:w.grownBy w' (some K)):w'.ownsRow B e size v n xs:=
 j1 h A fun k G J=>i_ hK h ht (by rw[G,J])
theorem cE.typed{cs:Array Value}(h:cE w B v l)(hK:w.heap[K]? =some (.cells cs t fr))(h1:t≠147)(h2:t≠5)(A:w.grownBy w' (some K)):cE w' B v l:=by
 obtain⟨ds,hd,hr,he,ha⟩:=h;exact⟨ds,hd,iO hr hK h1 A,fun i hi=>iO (he i hi) hK h2 A,ha⟩
theorem ui(w:World)(K:Nat)(cs:Array Value):w.grownBy (w.setRow K cs) (some K):=
 ⟨rfl,rfl,rfl,by simp,fun i _ hi=>setRow_other w K i cs (fun e=>hi (by rw[e]))⟩
structure Cp(aw4 w:World)(B k:Nat)(v:Value)(ds:List Value)(l:List Pr):Prop where
 len:ds.length=l.length
 row:w.ownsRow B 147 5 v l.length (oQ ds l)
 old:∀(i:Nat)(d:Value)(p:Pr),k≤i→ds[i]? =some d→l[i]? =some p→PC aw4 d p
 new:∀(i:Nat)(d:Value)(p:Pr),i<k→ds[i]? =some d→l[i]? =some p→w.ownsRow B 5 1 d p.data.length (bv p.data)
 apart:(ds.take k).Pairwise CS
theorem Cp.start(h:w.ownsRow B 147 5 v l.length (oQ ds l))(hd:G3 aw4 ds l):Cp aw4 w B 0 v ds l:=
 ⟨hd.1,h,fun i d p _ h1 h2=>hd.2 i d p h1 h2,fun i d p h1=>by omega,by simp⟩
theorem Cp.below(h:Cp aw4 w B k v ds l)(U:Below w w w'):Cp aw4 w' B k v ds l:=
 ⟨h.len,aR h.row U,h.old,fun i d p h1 h2 h3=>aR (h.new i d p h1 h2 h3) U,h.apart⟩
theorem ag8(ds:List Value)(l:List Pr)(h:ds.length=l.length)(k:Nat)(G:k<l.length)(d:Value):oQ (ds.set k d) l=(oQ ds l).set (k*5+4) d:=by
 have bk:∀ds:List Value,ds.length=l.length→(oQ ds l).length=l.length*5:=fun ds h=>by
  unfold oQ;rw[List.length_flatMap];have:((ds.zip l).map fun a=>(X a).length)=List.replicate l.length 5:=by
   apply List.ext_getElem
   ·simp[h]
   intro i q1 q2;simp[X]
  rw[this];simp
 have W:(ds.set k d).length=l.length:=by rw[qU];exact h
 apply List.ext_getElem?;intro j;by_cases hj:j<l.length*5
 ·have hi:j / 5<l.length:=by omega
  have hm:j % 5<5:=mod_lt _ (by omega);have he:j=j / 5*5+j % 5:=by omega
  obtain⟨q,hq⟩:=ai (j % 5);obtain⟨i,Bv⟩:=ai (j / 5);rw[hq,Bv] at he;rw[hq] at hm;rw[Bv] at hi;rw[List.getElem?_set,he,G0 _ l W i hi q hm,G0 ds l h i hi q hm];by_cases e:i=k
  ·subst e;simp only[List.getElem_set_self]
   match q,hm with
   |0,_=>rw[if_neg (by omega)];rfl
   |1,_=>rw[if_neg (by omega)];rfl
   |2,_=>rw[if_neg (by omega)];rfl
   |3,_=>rw[if_neg (by omega)];rfl
   |4,_=>rw[if_pos rfl,if_pos (by rw[bk ds h];omega)];rfl
  rw[getElem_set_ne (by omega),if_neg (by omega)]
 rw[xz (by rw[bk _ W];omega),xz (by rw[qU,bk _ h];omega)]
theorem Cp.step{w2:World}{c:Nat}{a:av}(h:Cp aw4 w B k (.slice (some ⟨g,0,none⟩) n c) ds l)(hB:B≤w.heap.size)(G:l[k]? =some p)(hd:w1.ownsRow w 5 1 d p.data.length (bv p.data))(U:Below w w w1)
 (h2:w2=w1.setCell ⟨g,k*5+4,none⟩ d) (_:a=some ⟨g,0,none⟩):Cp aw4 w2 B (k+1) (.slice (some ⟨g,0,none⟩) n c) (ds.set k d) l:=by
 subst h2;have gq:=(qe.1 G).1;have jb:=aR h.row U;have hn:n=l.length:=by
  obtain⟨Y,c',e⟩:=cR h.row;simp only[Value.slice.injEq] at e;exact e.2.1
 subst hn;have XO:iZ 5 w1 (w1.setCell ⟨g,k*5+4,none⟩ d):=iZ.G1 jb (jb.stored (k*5+4) d).2 (by decide);refine⟨by rw[qU];exact h.len,?_,fun i d' p' h1 h2 h3=> ?_,fun i d' p' h1 h2 h3=> ?_,?_⟩
 ·rw[ag8 ds l h.len k gq];exact(jb.stored (k*5+4) d).1
 ·rw[List.getElem?_set_ne (by omega)] at h2;exact h.old i d' p' (by omega) h2 h3
 ·by_cases e:i=k
  ·subst e;rw[List.getElem?_set_self (by rw[h.len];exact gq)] at h2;obtain rfl:=Option.some.inj h2;rw[G] at h3;obtain rfl:=Option.some.inj h3;exact XO _ _ _ _ (cm hd hB)
  ·rw[List.getElem?_set_ne (by omega)] at h2;exact XO _ _ _ _ (aR (h.new i d' p' (by omega) h2 h3) U)
 have hl:k<ds.length:=by rw[h.len];exact gq
 have e:(ds.set k d).take (k+1)=ds.take k++ [d]:=by
  rw[kF (by rw[qU];exact hl),List.take_set_of_le bj];simp
 rw[e,pairwise_append];refine⟨h.apart,by simp,fun x F y hy=> ?_⟩;obtain rfl:=dM.1 hy;intro b aw aj;obtain⟨i,hi,rfl⟩:=lD F;have Jx:i<k:=by rw[bS] at hi;omega
 rw[getElem_take] at aw;have td:i<l.length:=by omega
 have:=h.new i _ _ Jx (dW (by omega)) (dW td);have q1:=(this.lt b aw).2;have q2:=(hd.lt b aj).1
 omega
theorem Cp.ag9(h:Cp aw4 w B k v ds l)(G:l.length≤k):cE w B v l:=by
 have hl:=h.len;refine⟨ds,h.len,h.row,fun i hi=> ?_,?_⟩
 ·exact h.new i _ _ (by omega) (dW (by omega)) (dW hi)
 have:=h.apart
 rwa [gy (by omega)] at this
theorem Cp.cell{c:Nat}(h:Cp aw4 w B k (.slice (some ⟨g,0,none⟩) n c) ds l)(G:k<l.length):∃d p,l[k]? =some p∧PC aw4 d p∧w.cell? ⟨g,k*5+4,none⟩=some d:=by
 have hl:=h.len;refine⟨ds[k]'(by omega),l[k],dW G,h.old k _ _ bj (dW (by omega)) (dW G),?_⟩;have hn:n=l.length:=by
  obtain⟨Y,c',e⟩:=cR h.row;simp only[Value.slice.injEq] at e;exact e.2.1
 subst hn;have:=h.row.cellAt (k*5+4) (by omega);rw[this,G0 ds l h.len k G 4 (by omega)]
 rfl
def oh(_:Nt)(_:av)(_:Nat)(_:av)(_:Nat):Zt:=Zt.a
instance auN{x:Nt}{a:av}{b:Nat}{c:av}{d:Nat}:CoeDep Zt (oh x a b c d) (Array Value):=⟨#[.string (str x.aF),.slice a x.ay.length b,.int .i64 x.ah,.bool x.aL,.string (str x.src),.int .i64 x.aP,.slice c x.props.length d,.int .i64 x.origin,.int .i64 x.number,.int .i64 x.aW]⟩
instance auO{x:Nt}{a:av}{b:Nat}{c:av}{d:Nat}:CoeDep Zt (oh x a b c d) (List Value):=⟨[.string (str x.aF),.slice a x.ay.length b,.int .i64 x.ah,.bool x.aL,.string (str x.src),.int .i64 x.aP,.slice c x.props.length d,.int .i64 x.origin,.int .i64 x.number,.int .i64 x.aW]⟩
def uj(_:Nt)(_:Value)(_:Value):Zt:=Zt.a
instance auP{x:Nt}{a:Value}{b:Value}:CoeDep Zt (uj x a b) (Array Value):=⟨#[.string (str x.aF),a,.int .i64 x.ah,.bool x.aL,.string (str x.src),.int .i64 x.aP,b,.int .i64 x.origin,.int .i64 x.number,.int .i64 x.aW]⟩
instance auQ{x:Nt}{a:Value}{b:Value}:CoeDep Zt (uj x a b) (List Value):=⟨[.string (str x.aF),a,.int .i64 x.ah,.bool x.aL,.string (str x.src),.int .i64 x.aP,b,.int .i64 x.origin,.int .i64 x.number,.int .i64 x.aW]⟩
theorem aha(x:Nt)(pv qv:Value)(w:World)(hp:Bs w pv x.ay)(hq:Ps w qv x.props)(hB:xC x)(R:ak)
 (I:∀V X qa qc w',w'.ownsRow w 5 1 (.slice V x.ay.length X) x.ay.length (bv x.ay)→cE w' w.heap.size (.slice qa x.props.length qc) x.props→Below w w w'→R (.returned (Value.agg (oh x V X qa qc))) w'):
 Calls prog 101 #[(Value.agg (uj x pv qv))] w R:=by
 obtain⟨HR,HP,HQ,uk⟩:=cF I hp hq hB;obtain⟨V,X,rfl,_⟩:=hp;obtain⟨qa,qc,rfl,_⟩:=hq;obtain⟨aF,ay,ah,aL,src,aP,props,origin,number,aW⟩:=x;simp only at*;clear I hB;have aw:Below w w ((w.alloc (.cells (fj aF V ay X ah aL src aP qa props qc origin number aW) 34)).alloc (.cells dP 34)):=(aD _ _).alloc (by simp) _;have n0:=js (o':=(Obj.cells dP 34)) (aH w (.cells (fj aF V ay X ah aL src aP qa props qc origin number aW) 34));have n1:=aH (w.alloc (.cells (fj aF V ay X ah aL src aP qa props qc origin number aW) 34)) (.cells dP 34);rw[show(w.alloc (.cells (fj aF V ay X ah aL src aP qa props qc origin number aW) 34)).heap.size=w.heap.size+1 by simp] at n1;obtain⟨ct,N0,N1⟩:=bX aw n0 n1;clear aw n0 n1;go_enter func101,ntmps101;go_wp2_with (first
  |(go_at_call 139;go_must(refine XK _ ay _ (HP.O.below ct.O) (by have:=uk.O.p;simp only at this;omega) _ ?_);intro yL yM w3 bN an;have r3:=aA N0.O an;have f3:=aC r3 1;have c1:=D 1 r3;have c6:=D 6 r3;have R3:=Z (bm w3 w.heap.size 1 _ _ (.slice yL ay.length yM) r3);have Z3:=Z ((heap_setCell_other w3 ⟨w,1,none⟩ (w.heap.size+1) (.slice yL ay.length yM) (by simp)).trans (aA N1.O an));have cq:=Z ((aQ ct.O an).setCell (p:=⟨w,1,none⟩) bj (.slice yL ay.length yM));have iF:=Z (ownsRow_setCell_below bN (a:=⟨w,1,none⟩) ((eI.1 N0.O).1) (.slice yL ay.length yM));clear r3 bN an)
  |(go_at_call 140;go_must(refine ag7 _ props w _ (HQ.O.pt.below cq.O) (by have:=uk.O.l;simp only at this;omega) _ ?_);intro Ax xD ds w5 gC wD aE;have r5:=aA R3.O aE;have f5:=aC r5 6;have ahb:=D 6 r5;have R5:=Z (bm w5 w.heap.size 6 _ _ (.slice Ax props.length xD) r5);have Z5:=Z ((heap_setCell_other w5 ⟨w,6,none⟩ (w.heap.size+1) (.slice Ax props.length xD) (by simp)).trans (aA Z3.O aE));have XP:=aQ cq.O aE;have ib:=Z (XP.setCell (p:=⟨w,6,none⟩) bj (.slice Ax props.length xD));have kW:=Z (ownsRow_setCell_below (aR iF.O aE) (a:=⟨w,6,none⟩) ((eI.1 N0.O).1) (.slice Ax props.length xD));have Bw:=Z (show(w3.setCell ⟨w,1,none⟩ (.slice yL ay.length yM)).heap.size≤(w5.setCell ⟨w,6,none⟩ (.slice Ax props.length xD)).heap.size by have:=aE.size;simpa [World.setCell] using this);have nw:=Z (Cp.start (ownsRow_setCell_below gC (a:=⟨w,6,none⟩) ((eI.1 R3.O).1) (.slice Ax props.length xD)) wD);clear r5 gC aE XP wD))
 have G4:Hid (w.heap.size+2≤(w3.setCell ⟨w,1,none⟩ (.slice yL ay.length yM)).heap.size):=(eI.1 Z3.O).1;have Jy:=aJ G4.O Bw.O;have lH:=Z (cm kW.O (show w.heap.size≤_ by simp;omega));obtain⟨BB,XQ⟩:=ai ((w3.setCell ⟨w,1,none⟩ (.slice yL ay.length yM)).heap.size);rw[XQ] at nw G4 Bw;clear Jy XQ f3 c1 c6 f5 ahb;generalize w5.setCell ⟨w,6,none⟩ (.slice Ax props.length xD)=w6 at nw lH ib Z5 R5 Bw⊢;go_loopg [15] props.length (fun gn i wr=>∃(k:Nat)(ds:List Value),k≤props.length∧gn=props.length - k∧i= .int .i64 k∧Hid (Cp w wr BB k (.slice Ax props.length xD) ds props)∧Hid (wr.ownsRow w 5 1 (.slice yL ay.length yM) ay.length (bv ay))∧Hid (Below w w wr)∧Hid (wr.heap[w.heap.size]? =some (.cells (fj aF yL ay yM ah aL src aP Ax props xD origin number aW) 34))∧Hid (wr.heap[w.heap.size+1]? =some (.cells dP 34))∧Hid (BB≤wr.heap.size))
 case atStart=>exact⟨0,ds,bP _,by omega,rfl,nw,lH,ib,R5,Z5,Bw⟩
 case round=>
  obtain⟨k,ahc,G,rfl,rfl,HC,HO,HB,Jz,JA,eW⟩:=hrel;obtain⟨wo,rfl⟩:∃y,y=wr:=⟨_,rfl⟩
  by_cases au:k<props.length
  ·have bo:(k:Int)<(props.length:Int):=by omega
   obtain⟨g,A⟩:=jF HC.O.row (by omega);subst A;obtain⟨d,p,pA,Nq,bg⟩:=HC.O.cell au;have Ay:=Z pA;have C0:Below w w wo.drew:=HB.O.drew;obtain⟨da,dc,rfl,_⟩:=id Nq.hd;have ahd:=Z (Nq.hd.below C0);have jd:=Z Nq.ld;have c6:wo.drew.cell? ⟨w,6,none⟩=some (.slice (some ⟨g,0,none⟩) props.length xD):=D 6 Jz.O;have cd:wo.drew.cell? ⟨g,k*5+4,none⟩=some (.slice da p.data.length dc):=bg;clear pA Nq bg C0;go_wp2_with fail;go_region_law (first
    |(go_simp;go_at_call 139;refine XK _ p.data wo.drew ahd.O (aJ jd.O (by decide)) _ ?_;intro mL mM w7 gD bp;have Bx:=ed (bq wo) bp;have ahe:=cell_later bp c6;have c7:=cell_later bp cd;have f7:=(HC.O.below Bx).row.frozenAt (k*5+4)))
   all_goals
    have Et:=HC.O.below Bx;have RC:BB≤g:=(Et.row.lt g rfl).1;have By:w.heap.size+2≤g:=aJ G4.O RC;have Eu:Hid (Cp w (w7.setCell ⟨g,k*5+4,none⟩ (.slice mL p.data.length mM)) BB (k+1) (.slice (some ⟨g,0,none⟩) props.length xD) (ahc.set k (.slice mL p.data.length mM)) props):=Cp.step HC.O eW.O Ay.O gD Bx rfl rfl;have oi:Hid ((w7.setCell ⟨g,k*5+4,none⟩ (.slice mL p.data.length mM)).ownsRow w 5 1 (.slice yL ay.length yM) ay.length (bv ay)):=iZ.G1 Et.row (Et.row.stored (k*5+4) _).2 (by decide) _ _ _ _ (aR HO.O Bx);have jI:Hid (Below w w (w7.setCell ⟨g,k*5+4,none⟩ (.slice mL p.data.length mM))):=(aQ HB.O Bx).setCell (p:=⟨g,k*5+4,none⟩) (by show w.heap.size≤g;omega) _;have C1:=Z ((heap_setCell_other w7 ⟨g,k*5+4,none⟩ w.heap.size (.slice mL p.data.length mM) (by show w.heap.size≠g;omega)).trans (aA Jz.O Bx));have ahf:=Z ((heap_setCell_other w7 ⟨g,k*5+4,none⟩ (w.heap.size+1) (.slice mL p.data.length mM) (by show w.heap.size+1≠g;omega)).trans (aA JA.O Bx));have RE:Hid (BB≤(w7.setCell ⟨g,k*5+4,none⟩ (.slice mL p.data.length mM)).heap.size):=by
     show BB≤_;have h1:=eW.O;have h2:=Bx.size;simp only[World.setCell,Array.size_modify]
     omega
    clear Et RC By gD bp Bx ahe c7 f7 c6 cd;go_wp2_with fail;go_roundg (props.length - (k+1))
    case measure=>omega
    case rel=>exact⟨k+1,_,by omega,rfl,by go_num,Eu,oi,jI,C1,ahf,RE⟩
  have bo:¬(k:Int)<(props.length:Int):=by omega
  have dR:=Z ((HC.O.ag9 (by omega)).mono (aJ (lE _ 2) G4.O));clear HC;go_wp2_with (first
   |(refine wpList_load_row (o:=⟨some 31,.load 34 (.tmp 1),_,_,_,_⟩) (by rfl) 34 (.tmp 1) (by rfl) (w.heap.size) (by rfl) 34 _ (0,0) _ (Jz).O (underlying34) (by rfl) (by kernel_rfl) ?_)
   |(refine wpList_store_row (o:=⟨none,.store 34 (.tmp 2) (.tmp 31),_,_,_,_⟩) (by rfl) 34 (.tmp 2) (.tmp 31) (by rfl) (w.heap.size+1) _ (by rfl) (by rfl) 34 _ (JA).O (by kernel_rfl) (by rfl) (by simp[Value.oneCell']) ?_))
  refine bodyPost_ret (results_cell_row rfl _ _ (w.heap.size+1) 34 (fj aF yL ay yM ah aL src aP Ax props xD origin number aW) (0,0) _ rfl (setRow_heap _ (w.heap.size+1) _ _ _ _ JA.O) underlying34 rfl (by kernel_rfl)) rfl ?_;exact HR.O _ _ _ _ _ (iO HO.O JA.O (by decide) (ui _ _ _)) (dR.O.typed JA.O (by decide) (by decide) (ui _ _ _)) (below_setRow HB.O (by omega) _)
theorem XR{P:Prop}(h:P:=by
 refine cg ?_ (br _ ⟨N,9,none⟩ a9);refine cg ?_ (br _ ⟨N,8,none⟩ a8);refine cg ?_ (br _ ⟨N,7,none⟩ a7);refine cg ?_ (br _ ⟨N,6,none⟩ a6);refine cg ?_ (br _ ⟨N,5,none⟩ a5);refine cg ?_ (br _ ⟨N,4,none⟩ a4);refine cg ?_ (br _ ⟨N,3,none⟩ a3);refine cg ?_ (br _ ⟨N,2,none⟩ a2);refine cg ?_ (br _ ⟨N,1,none⟩ a1);exact br _ ⟨N,0,none⟩ a0):P:=h
variable{a h pv qv:Value}
structure Im where
 note:Nt
 ah:Int
 aI:Bool
 ids:List Int
 share:List UInt8
deriving DecidableEq
structure fX(x:Im):Prop where
 n:xC x.note
 i:x.ids.length≤100000
 s:x.share.length≤100000
 q: -9223372036854775808≤x.ah∧x.ah≤9223372036854775807
structure ie(w:World)(pv qv iv:Value)(x:Im):Prop where
 p:Bs w pv x.note.ay
 q:Ps w qv x.note.props
 i:Is w iv x.ids
structure ft(w:World)(B:Nat)(pv qv iv:Value)(x:Im):Prop where
 p:w.ownsRow B 5 1 pv x.note.ay.length (bv x.note.ay)
 q:cE w B qv x.note.props
 i:w.ownsRow B 3 1 iv x.ids.length (Go.Proofs.YtgimbocoamnkjaaGreatDoor.iv x.ids)
theorem ie.below{iv:Value}{x:Im}(h:ie w pv qv iv x)(U:Below w w w'):ie w' pv qv iv x:=⟨h.p.below U,h.q.below U,h.i.below U⟩
theorem ie.shape{iv:Value}{x:Im}(h:ie w pv qv iv x):(∃a c,pv= .slice a x.note.ay.length c)∧(∃a c,qv= .slice a x.note.props.length c)∧∃a c,iv= .slice a x.ids.length c:=by
 obtain⟨a,c,e,_⟩:=h.p;obtain⟨a1,c1,e1,_⟩:=h.q;obtain⟨a2,c2,e2,_⟩:=h.i;exact⟨⟨a,c,e⟩,⟨a1,c1,e1⟩,a2,c2,e2⟩
theorem ft.below{iv:Value}{x:Im}(h:ft w B pv qv iv x)(U:Below w w w'):ft w' B pv qv iv x:=⟨aR h.p U,h.q.below U,aR h.i U⟩
theorem ft.mono{iv:Value}{x:Im}(h:ft w B pv qv iv x)(hB:B'≤B):ft w B' pv qv iv x:=⟨cm h.p hB,h.q.mono hB,cm h.i hB⟩
theorem ft.shape{iv:Value}{x:Im}(h:ft w B pv qv iv x):(∃a c,pv= .slice a x.note.ay.length c)∧(∃a c,qv= .slice a x.note.props.length c)∧∃a c,iv= .slice a x.ids.length c:=
 ⟨cR h.p,h.q.shape,cR h.i⟩
theorem ft.c{iv:Value}{x:Im}(h:ft w B pv qv iv x)(U:fX x):ie w pv qv iv x:=by
 obtain⟨⟨a,c,rfl⟩,⟨a1,c1,rfl⟩,a2,c2,rfl⟩:=h.shape;exact⟨(fO h.p).2,h.q.ps U.n.e,Jv h.i rfl⟩
theorem ft.typed{cs:Array Value}{iv:Value}{x:Im}(h:ft w B pv qv iv x)(hK:w.heap[K]? =some (.cells cs t fr))(h1:t≠147)(h2:t≠5)(h3:t≠3)(A:w.grownBy w' (some K)):ft w' B pv qv iv x:=
 ⟨iO h.p hK h2 A,h.q.typed hK h1 h2 A,iO h.i hK h3 A⟩
theorem tg{b c e f g i j k l m n:Value}(hN:w.heap[N]? =some (.cells #[a,b,c,d,e,f,g,h,i,j,k,l,m,n] t fr)):
 (w.cell? ⟨N,0,none⟩=some a∧w.cell? ⟨N,1,none⟩=some b∧w.cell? ⟨N,2,none⟩=some c∧w.cell? ⟨N,3,none⟩=some d∧w.cell? ⟨N,4,none⟩=some e∧w.cell? ⟨N,5,none⟩=some f∧w.cell? ⟨N,6,none⟩=some g)∧(w.cell? ⟨N,7,none⟩=some h∧w.cell? ⟨N,8,none⟩=some i∧w.cell? ⟨N,9,none⟩=some j∧w.cell? ⟨N,10,none⟩=some k∧w.cell? ⟨N,11,none⟩=some l∧w.cell? ⟨N,12,none⟩=some m∧w.cell? ⟨N,13,none⟩=some n):=
 ⟨⟨D 0 hN,D 1 hN,D 2 hN,D 3 hN,D 4 hN,D 5 hN,D 6 hN⟩,D 7 hN,D 8 hN,D 9 hN,D 10 hN,D 11 hN,D 12 hN,D 13 hN⟩
theorem ahg{x:World}{o0 o1 o2 o3 o4 o5 o6 o7 o8 o9 wE wF yN wG:Value}(h:x.heap[N]? =some (.cells #[o0,o1,o2,o3,o4,o5,o6,o7,o8,o9,wE,wF,yN,wG] t (0,0)))(a0 a1 a2 a3 a4 a5 a6 a7 a8 a9 a12:Value):
 (((((((((((x.setCell ⟨N,0,none⟩ a0).setCell ⟨N,1,none⟩ a1).setCell ⟨N,2,none⟩ a2).setCell ⟨N,3,none⟩ a3).setCell ⟨N,4,none⟩ a4).setCell ⟨N,5,none⟩ a5).setCell ⟨N,6,none⟩ a6).setCell ⟨N,7,none⟩ a7).setCell ⟨N,8,none⟩ a8).setCell ⟨N,9,none⟩ a9).setCell ⟨N,12,none⟩ a12).heap[N]? =some (.cells #[a0,a1,a2,a3,a4,a5,a6,a7,a8,a9,wE,wF,a12,wG] t (0,0))∧x.grownBy (((((((((((x.setCell ⟨N,0,none⟩ a0).setCell ⟨N,1,none⟩ a1).setCell ⟨N,2,none⟩ a2).setCell ⟨N,3,none⟩ a3).setCell ⟨N,4,none⟩ a4).setCell ⟨N,5,none⟩ a5).setCell ⟨N,6,none⟩ a6).setCell ⟨N,7,none⟩ a7).setCell ⟨N,8,none⟩ a8).setCell ⟨N,9,none⟩ a9).setCell ⟨N,12,none⟩ a12) (some N):=by
 have k0:_=some (Obj.cells #[a0,o1,o2,o3,o4,o5,o6,o7,o8,o9,wE,wF,yN,wG] t (0,0)):=bm _ N 0 _ _ a0 h;have k1:_=some (Obj.cells #[a0,a1,o2,o3,o4,o5,o6,o7,o8,o9,wE,wF,yN,wG] t (0,0)):=bm _ N 1 _ _ a1 k0;have k2:_=some (Obj.cells #[a0,a1,a2,o3,o4,o5,o6,o7,o8,o9,wE,wF,yN,wG] t (0,0)):=bm _ N 2 _ _ a2 k1;have k3:_=some (Obj.cells #[a0,a1,a2,a3,o4,o5,o6,o7,o8,o9,wE,wF,yN,wG] t (0,0)):=bm _ N 3 _ _ a3 k2;have k4:_=some (Obj.cells #[a0,a1,a2,a3,a4,o5,o6,o7,o8,o9,wE,wF,yN,wG] t (0,0)):=bm _ N 4 _ _ a4 k3;have k5:_=some (Obj.cells #[a0,a1,a2,a3,a4,a5,o6,o7,o8,o9,wE,wF,yN,wG] t (0,0)):=bm _ N 5 _ _ a5 k4;have k6:_=some (Obj.cells #[a0,a1,a2,a3,a4,a5,a6,o7,o8,o9,wE,wF,yN,wG] t (0,0)):=bm _ N 6 _ _ a6 k5;have k7:_=some (Obj.cells #[a0,a1,a2,a3,a4,a5,a6,a7,o8,o9,wE,wF,yN,wG] t (0,0)):=bm _ N 7 _ _ a7 k6;have k8:_=some (Obj.cells #[a0,a1,a2,a3,a4,a5,a6,a7,a8,o9,wE,wF,yN,wG] t (0,0)):=bm _ N 8 _ _ a8 k7;have k9:_=some (Obj.cells #[a0,a1,a2,a3,a4,a5,a6,a7,a8,a9,wE,wF,yN,wG] t (0,0)):=bm _ N 9 _ _ a9 k8;have ahh:_=some (Obj.cells #[a0,a1,a2,a3,a4,a5,a6,a7,a8,a9,wE,wF,a12,wG] t (0,0)):=bm _ N 12 _ _ a12 k9;refine⟨ahh,?_⟩;refine cg ?_ (br _ ⟨N,12,none⟩ a12);exact XR
theorem Ev(x:Im)(pv qv ev:Value)(w:World)(J:ie w pv qv ev x)(hB:fX x)(R:ak)
 (I:∀V X qa qc ea ec w',ft w' w.heap.size (.slice V x.note.ay.length X) (.slice qa x.note.props.length qc) (.slice ea x.ids.length ec) x→Below w w w'→R (.returned (Value.agg (qg x.note.aF V x.note.ay X x.note.ah x.note.aL x.note.src x.note.aP qa x.note.props qc x.note.origin x.note.number x.note.aW x.ah x.aI ea x.ids ec x.share))) w'):
 Calls prog 37 #[(Value.agg #[.string (str x.note.aF),pv,.int .i64 x.note.ah,.bool x.note.aL,.string (str x.note.src),.int .i64 x.note.aP,qv,.int .i64 x.note.origin,.int .i64 x.note.number,.int .i64 x.note.aW,.int .i64 x.ah,.bool x.aI,ev,.string (str x.share)])] w R:=by
 obtain⟨HR,HC,uk⟩:=bX I J hB;obtain⟨⟨V,X,rfl⟩,⟨qa,qc,rfl⟩,ea,ec,rfl⟩:=J.shape;obtain⟨⟨aF,ay,mO,aL,src,aP,props,origin,number,aW⟩,ah,aI,ids,share⟩:=x;simp only at*;clear I hB J;obtain⟨O0,kH⟩:=ai ((Obj.cells (qg aF V ay X mO aL src aP qa props qc origin number aW ah aI ea ids ec share) 36));have aw:Below w w ((w.alloc O0).alloc (.cells aX 36)):=(aD _ _).alloc (by simp) _;have n0:=js (o':=(Obj.cells aX 36)) (aH w O0);have n1:=aH (w.alloc O0) (.cells aX 36);rw[show(w.alloc O0).heap.size=w.heap.size+1 by simp] at n1;obtain⟨ct,N0,N1⟩:=bX aw n0 n1;rw[←kH] at ct N0 N1;clear aw n0 n1 kH;have Nr:=Z (HC.O.below ct.O);go_enter func37,ntmps37;go_wp2_with fail;generalize (w.alloc (.cells (qg aF V ay X mO aL src aP qa props qc origin number aW ah aI ea ids ec share) 36)).alloc (.cells aX 36)=w1 at ct N0 N1 Nr⊢;have yO:Hid (w.heap.size+2≤w1.heap.size):=(eI.1 N1.O).1;obtain⟨⟨c0,c1,c2,c3,c4,c5,c6⟩,c7,c8,c9,fD,iP,iQ,jN⟩:=tg (w:=w1.drew) N0.O;have kI:Below w1 w1 w1.drew:=bq _;go_region_law (first
  |(go_simp;go_at_call 101;refine aha ⟨aF,ay,mO,aL,src,aP,props,origin,number,aW⟩ _ _ w1.drew (Nr.O.p.below kI) (Nr.O.q.below kI) uk.O.n _ ?_;intro Az AA AB AD w3 bN sj an;have dh:=ed kI an;have r3:=aA N0.O dh;obtain⟨⟨d0,d1,d2,d3,d4,d5,d6⟩,d7,d8,d9,d10,d11,d12,d13⟩:=tg r3)
  |(go_simp;go_at_call 102;refine ag6 _ ids w3 (Nr.O.i.below dh) (by have:=uk.O.i;simp only at this;omega) _ ?_;intro G5 G6 w5 gC aE;have r5:=aA r3 aE;obtain⟨⟨e0,e1,e2,e3,e4,e5,e6⟩,e7,e8,e9,yP,JB,Ew,ahi⟩:=tg r5;have f5:=aC r5;have z5:=aA N1.O (ed dh aE)))
 all_goals
  obtain⟨k7,kg⟩:=ahg r5 (.string (str aF)) (.slice Az ay.length AA) (E mO) (.bool aL) (.string (str src)) (E aP) (.slice AB props.length AD) (E origin) (E number) (E aW) (.slice G5 ids.length G6);have RF:=ed dh aE;have qh:=hZ kg z5 (by simp);have gD:ft w5 w1.heap.size (.slice Az ay.length AA) (.slice AB props.length AD) (.slice G5 ids.length G6) ⟨⟨aF,ay,mO,aL,src,aP,props,origin,number,aW⟩,ah,aI,ids,share⟩:=⟨aR bN aE,sj.below aE,cm gC dh.size⟩
  replace gD:=(gD.typed r5 (by decide) (by decide) (by decide) kg).mono (B':=w.heap.size) (by have:=yO.O;omega);have bp:Below w w _:=Jr (aQ ct.O RF) kg (aJ ct.O.size RF.size) (fun k G=>by cases G;exact Nat.le_refl _);clear kg r5 z5 e0 e1 e2 e3 e4 e5 e6 e7 e8 e9 yP JB Ew ahi f5 gC aE RF an dh r3 bN sj d0 d1 d2 d3 d4 d5 d6 d7 d8 d9 d10 d11 d12 d13 c0 c1 c2 c3 c4 c5 c6 c7 c8 c9 fD iP iQ jN kI;generalize (((((((((((w5.setCell ⟨w,0,none⟩ (Value.string (str aF))).setCell ⟨w,1,none⟩ (.slice Az ay.length AA)).setCell ⟨w,2,none⟩ (E mO)).setCell ⟨w,3,none⟩ (.bool aL)).setCell ⟨w,4,none⟩ (.string (str src))).setCell ⟨w,5,none⟩ (E aP)).setCell ⟨w,6,none⟩ (.slice AB props.length AD)).setCell ⟨w,7,none⟩ (E origin)).setCell ⟨w,8,none⟩ (E number)).setCell ⟨w,9,none⟩ (E aW)).setCell ⟨w,12,none⟩ (.slice G5 ids.length G6))=w7 at k7 qh gD bp⊢;obtain⟨Bz,RG,th,gE⟩:=cF k7 qh gD bp;clear k7 qh gD bp;go_wp2_with (first
   |(refine wpList_load_row (o:=⟨some 11,.load 36 (.tmp 1),_,_,_,_⟩) (by rfl) 36 (.tmp 1) (by rfl) (w.heap.size) (by rfl) 36 _ (0,0) _ (Bz).O (underlying36) (by rfl) (by kernel_rfl) ?_)
   |(refine wpList_store_row (o:=⟨none,.store 36 (.tmp 2) (.tmp 11),_,_,_,_⟩) (by rfl) 36 (.tmp 2) (.tmp 11) (by rfl) (w.heap.size+1) _ (by rfl) (by rfl) 36 _ (RG).O (by kernel_rfl) (by rfl) (by simp[Value.oneCell']) ?_))
  refine bodyPost_ret (results_cell_row rfl _ _ (w.heap.size+1) 36 (qg aF Az ay AA mO aL src aP AB props AD origin number aW ah aI G5 ids G6 share) (0,0) _ rfl (setRow_heap _ (w.heap.size+1) _ _ _ _ RG.O) underlying36 rfl (by kernel_rfl)) rfl ?_;exact HR.O _ _ _ _ _ _ _ (th.O.typed RG.O (by decide) (by decide) (by decide) (ui _ _ _)) (below_setRow gE.O (by omega) _)
def cA(_:Int)(_:Int)(_:Im)(_:av)(_:Nat)(_:av)(_:Nat)(_:av)(_:Nat):Zt:=Zt.a
instance auR{f:Int}{g:Int}{x:Im}{a:av}{b:Nat}{c:av}{d:Nat}{e:av}{h:Nat}:CoeDep Zt (cA f g x a b c d e h) (Array Value):=⟨#[E f,E g,.string (str x.note.aF),.slice a x.note.ay.length b,.int .i64 x.note.ah,.bool x.note.aL,.string (str x.note.src),.int .i64 x.note.aP,.slice c x.note.props.length d,.int .i64 x.note.origin,.int .i64 x.note.number,.int .i64 x.note.aW,.int .i64 x.ah,.bool x.aI,.slice e x.ids.length h,.string (str x.share)]⟩
instance auS{f:Int}{g:Int}{x:Im}{a:av}{b:Nat}{c:av}{d:Nat}{e:av}{h:Nat}:CoeDep Zt (cA f g x a b c d e h) (List Value):=⟨[E f,E g,.string (str x.note.aF),.slice a x.note.ay.length b,.int .i64 x.note.ah,.bool x.note.aL,.string (str x.note.src),.int .i64 x.note.aP,.slice c x.note.props.length d,.int .i64 x.note.origin,.int .i64 x.note.number,.int .i64 x.note.aW,.int .i64 x.ah,.bool x.aI,.slice e x.ids.length h,.string (str x.share)]⟩
def aG(_:Im)(_:av)(_:Nat)(_:av)(_:Nat)(_:av)(_:Nat):Zt:=Zt.a
instance auT{x:Im}{a:av}{b:Nat}{c:av}{d:Nat}{e:av}{h:Nat}:CoeDep Zt (aG x a b c d e h) (Array Value):=⟨#[.string (str x.note.aF),.slice a x.note.ay.length b,.int .i64 x.note.ah,.bool x.note.aL,.string (str x.note.src),.int .i64 x.note.aP,.slice c x.note.props.length d,.int .i64 x.note.origin,.int .i64 x.note.number,.int .i64 x.note.aW,.int .i64 x.ah,.bool x.aI,.slice e x.ids.length h,.string (str x.share)]⟩
instance auU{x:Im}{a:av}{b:Nat}{c:av}{d:Nat}{e:av}{h:Nat}:CoeDep Zt (aG x a b c d e h) (List Value):=⟨[.string (str x.note.aF),.slice a x.note.ay.length b,.int .i64 x.note.ah,.bool x.note.aL,.string (str x.note.src),.int .i64 x.note.aP,.slice c x.note.props.length d,.int .i64 x.note.origin,.int .i64 x.note.number,.int .i64 x.note.aW,.int .i64 x.ah,.bool x.aI,.slice e x.ids.length h,.string (str x.share)]⟩
def qi(_:Im)(_:Value)(_:Value)(_:Value):Zt:=Zt.a
instance auV{x:Im}{a:Value}{b:Value}{c:Value}:CoeDep Zt (qi x a b c) (Array Value):=⟨#[.string (str x.note.aF),a,.int .i64 x.note.ah,.bool x.note.aL,.string (str x.note.src),.int .i64 x.note.aP,b,.int .i64 x.note.origin,.int .i64 x.note.number,.int .i64 x.note.aW,.int .i64 x.ah,.bool x.aI,c,.string (str x.share)]⟩
instance auW{x:Im}{a:Value}{b:Value}{c:Value}:CoeDep Zt (qi x a b c) (List Value):=⟨[.string (str x.note.aF),a,.int .i64 x.note.ah,.bool x.note.aL,.string (str x.note.src),.int .i64 x.note.aP,b,.int .i64 x.note.origin,.int .i64 x.note.number,.int .i64 x.note.aW,.int .i64 x.ah,.bool x.aI,c,.string (str x.share)]⟩
open List (drop_append drop_of_length_le)
open Nat (succ_mul)
variable{x:Im}{GB GM MB NB:Nat}{fv sv:Value}
structure Sb where
 filter:List UInt8
 ah:Int
 kn:Bool
 kq:Bool
 eX:Int
 id:Int
deriving DecidableEq
structure Fl where
 id:Int
 state:Int
 item:Im
deriving DecidableEq
structure az where
 gF:List UInt8
 cI:Int
 ends:Int
 ej:Bool
 al:List Sb
 queue:List Im
 ag:List Fl
 bJ:List Int
 aB:List Int
theorem kY{α:Type}(C:Nat)(f:α→List Value)(hf:∀x,(f x).length=C):∀(l:List α)(i j:Nat)(hi:i<l.length),j<C→(l.flatMap f)[i*C+j]? =(f l[i])[j]?
 |[],i,j,hi,hj=>by simp at hi
 |x::l,0,j,hi,hj=>by
  rw[lT,Nat.zero_mul,zero_add,ug (by rw[hf];omega)]
  rfl
 |x::l,i+1,j,hi,hj=>by
  rw[lT,yH (by rw[hf,succ_mul];omega),hf,show(i+1) *C+j - C=i*C+j by rw[succ_mul];omega,kY C f hf l i j (by simpa using hi) hj]
  rfl
theorem fY{α:Type}(C:Nat)(f:α→List Value)(hf:∀x,(f x).length=C):∀l:List α,(l.flatMap f).length=l.length*C
 |[]=>by simp
 |x::l=>by
  rw[lT,aK,hf,fY C f hf l,ey,succ_mul]
  omega
theorem C4{α:Type}(C:Nat)(f:α→List Value)(hf:∀x,(f x).length=C):∀(l:List α)(k:Nat),(l.flatMap f).drop (k*C)=(l.drop k).flatMap f
 |l,0=>by simp
 |[],k+1=>by simp
 |x::l,k+1=>by
  rw[lT,List.drop_succ_cons,←C4 C f hf l k,drop_append,drop_of_length_le (by rw[hf,succ_mul];omega),hf,nil_append]
  congr 1
  rw[succ_mul]
  omega
theorem yR{α:Type}(C:Nat)(f:α→List Value)(hf:∀x,(f x).length=C):∀(l:List α)(k:Nat),(l.flatMap f).take (k*C)=(l.take k).flatMap f
 |l,0=>by simp
 |[],k+1=>by simp
 |x::l,k+1=>by
  rw[lT,List.take_succ_cons,lT,←yR C f hf l k,List.take_append,gy (by rw[hf,succ_mul];omega),hf]
  congr 2
  rw[succ_mul]
  omega
abbrev V3:=Value×Value×Value
def dX(p:V3×Im):List Value:= [.string (str p.2.note.aF),p.1.1,.int .i64 p.2.note.ah,.bool p.2.note.aL,.string (str p.2.note.src),.int .i64 p.2.note.aP,p.1.2.1,.int .i64 p.2.note.origin,.int .i64 p.2.note.number,.int .i64 p.2.note.aW,.int .i64 p.2.ah,.bool p.2.aI,p.1.2.2,.string (str p.2.share)]
theorem oS(p:V3×Im):(dX p).length=14:=rfl
def bV(p:V3×Fl):List Value:= .int .i64 p.2.id:: .int .i64 p.2.state::dX (p.1,p.2.item)
theorem j5(p:V3×Fl):(bV p).length=16:=rfl
def aT(x:Sb):List Value:= [.string (str x.filter),.int .i64 x.ah,.bool x.kn,.bool x.kq,.int .i64 x.eX,.int .i64 x.id]
theorem ij(x:Sb):(aT x).length=6:=rfl
def bw(w:World)(b:Nat):Nat:=match w.heap[b]? with
 |some (.cells _ t _)=>t+2
 |some (.map _ _)=>1
 |_=>0
theorem j6{b:Nat}{cs:Array Value}(h:w.heap[b]? =some (.cells cs t fr)):bw w b=t+2:=by
 unfold bw;rw[h]
theorem eJ(h:w.ownsRow B e size v n xs):∀k,v.ownBlock=some k→bw w k=e+2:=by
 intro k G;rcases h.2 with⟨rfl,_⟩|⟨g,cap,cur,rfl,_,A,_⟩
 ·simp[Value.ownBlock] at G
 simp only[Value.ownBlock,Option.some.injEq] at G;subst G;exact j6 A
def qj(k:Nat):Prop:=k≠5+2∧k≠147+2∧k≠3+2
def Wr(w:World)(M:Nat→Prop):Nat→Prop:=fun b=>M b∨(qj (bw w b)∧∃m,M m∧m≤b)
theorem Sep.wr(h:Sep M M' w w'):Sep (Wr w M) (Wr w' M') w w':=
 ⟨h.os,h.tape,h.output,h.size,fun b U hn=>h.block b U (fun hm=>hn (.inl hm)),fun b U=>by
  by_cases au:b<w.heap.size
  ·rcases U with U|⟨G,m,hm,fw⟩
   ·rcases h.new b U with h1|h1
    ·exact .inl (.inl h1)
    ·exact .inr h1
   ·by_cases hM:M b
    ·exact .inl (.inl hM)
    ·refine .inl (.inr ⟨?_,m,?_,fw⟩)
     ·have e:bw w' b=bw w b:=by
       unfold bw;rw[h.block b au hM]
      rw[←e];exact G
     ·rcases h.new m hm with h1|h1
      ·exact h1
      ·omega
  ·exact .inr (by omega),fun awX ⟨m,hm,hl⟩=>by
  rcases hm with hm|⟨_,m2,fh,fw⟩
  ·obtain⟨m3,h3,l3⟩:=h.fl awX ⟨m,hm,hl⟩;exact⟨m3,.inl h3,l3⟩
  obtain⟨m3,h3,l3⟩:=h.fl awX ⟨m2,fh,aJ fw hl⟩;exact⟨m3,.inl h3,l3⟩⟩
theorem ft.wr{iv:Value}(h:ft w B pv qv iv x)(hM:∀b,M b→b<B):Safe (Wr w M) w fun y=>ft y B pv qv iv x:=fun M' w' s=>by
 have key:∀{e size n:Nat}{v:Value}{xs:List Value},¬qj (e+2)→w.ownsRow B e size v n xs→w'.ownsRow B e size v n xs:=fun he ho=>XN ho (fun k G hm=>by
  rcases hm with hm|⟨hm,_⟩
  ·have:=(ho.lt k G).1;have:=hM k hm
   omega
  rw[eJ ho k G] at hm;exact he hm) M' w' s
 obtain⟨ds,hd,hr,he,ha⟩:=h.q;exact⟨key (by unfold qj;decide) h.p,⟨ds,hd,key (by unfold qj;decide) hr,fun i hi=>key (by unfold qj;decide) (he i hi),ha⟩,key (by unfold qj;decide) h.i⟩
def dk(w:World)(M:Nat→Prop)(c:V3)(x:Im):Prop:=Safe (Wr w M) w (fun y=>ie y c.1 c.2.1 c.2.2 x)∧fX x
theorem dk.sep{c:V3}(h:dk w M c x)(s:Sep M M' w w'):dk w' M' c x:=⟨h.1.sep s.wr,h.2⟩
theorem dk.X0{c:V3}(h:dk w M c x):∀u∈dX (c,x),u.oneCell'=true:=by
 obtain⟨⟨a,b,e⟩,⟨a1,b1,e1⟩,a2,b2,e2⟩:=h.1.O.shape;intro u hu;simp only[dX,e,e1,e2,List.mem_cons,qT,or_false] at hu;rcases hu with rfl|rfl|rfl|rfl|rfl|rfl|rfl|rfl|rfl|rfl|rfl|rfl|rfl|rfl<;>rfl
theorem X1:fX ⟨⟨[],[],0,false,[],0,[],0,0,0⟩,0,false,[],[]⟩:=⟨⟨by simp,by simp,by simp,by simp,by simp,by decide⟩,by simp,by simp,by decide⟩
def AG(w:World)(M:Nat→Prop)(v:Value)(l:List Im):Prop:=
 ∃ps:List (V3×Im),ps.map (·.2)=l∧bh w 36 14 v l.length (ps.flatMap dX)∧(∀p∈ps,dk w M p.1 p.2)∧∀k,v.ownBlock=some k→M k
def AH(w:World)(M:Nat→Prop)(v:Value)(l:List Fl):Prop:=
 ∃ps:List (V3×Fl),ps.map (·.2)=l∧w.ownsRow 0 51 16 v l.length (ps.flatMap bV)∧(∀p∈ps,dk w M p.1 p.2.item)∧∀k,v.ownBlock=some k→M k
theorem bh.kind(h:bh w e size v n xs):∀k,v.ownBlock=some k→bw w k=e+2:=by
 intro k G;rcases h.2 with⟨rfl,_⟩|⟨g,o,c,cur,rfl,A,_⟩
 ·simp[Value.ownBlock] at G
 simp only[Value.ownBlock,Option.some.injEq] at G;subst G;exact j6 A
theorem Nu.kind{l:List Int}(h:Nu w m l):bw w m=1:=by
 obtain⟨aw2,⟨es,ck,U,_⟩,_⟩:=h.ex;unfold bw;rw[U]
theorem St.kinds{l:List Int}(h:St w N m l):bw w N=143+2∧bw w m=1:=⟨j6 h.1,h.2.kind⟩
theorem St.vp{l:List Int}(h:St w N m l)(h1:w'.heap[N]? =w.heap[N]?)(h2:w'.heap[m]? =w.heap[m]?):St w' N m l:=⟨h1.trans h.1,h.2.wH h2⟩
theorem AG.sep{l:List Im}(h:AG w M v l)(s:Sep M M' w w')(U:∀k,v.ownBlock=some k→w'.heap[k]? =w.heap[k]?)(hM:∀k,v.ownBlock=some k→M' k):AG w' M' v l:=by
 obtain⟨ps,h1,h2,h3,_⟩:=h;exact⟨ps,h1,h2.wH U,fun p hp=>(h3 p hp).sep s,hM⟩
theorem jO(h:w.ownsRow B e size v n xs)(U:∀k,v.ownBlock=some k→w'.heap[k]? =w.heap[k]?):w'.ownsRow B e size v n xs:=by
 refine⟨h.1,?_⟩;rcases h.2 with hn|⟨g,cap,cur,rfl,hbg,A,rest⟩
 ·exact .inl hn
 exact .inr ⟨g,cap,cur,rfl,hbg,(U g rfl).trans A,rest⟩
theorem AH.sep{l:List Fl}(h:AH w M v l)(s:Sep M M' w w')(U:∀k,v.ownBlock=some k→w'.heap[k]? =w.heap[k]?)(hM:∀k,v.ownBlock=some k→M' k):AH w' M' v l:=by
 obtain⟨ps,h1,h2,h3,_⟩:=h;exact⟨ps,h1,jO h2 U,fun p hp=>(h3 p hp).sep s,hM⟩
theorem AG.kind{l:List Im}(h:AG w M v l):∀k,v.ownBlock=some k→bw w k=36+2:=by
 obtain⟨ps,h1,h2,_⟩:=h;exact h2.kind
theorem AH.kind{l:List Fl}(h:AH w M v l):∀k,v.ownBlock=some k→bw w k=51+2:=by
 obtain⟨ps,h1,h2,_⟩:=h;exact eJ h2
theorem AG.own{l:List Im}(h:AG w M v l):∀k,v.ownBlock=some k→M k:=by
 obtain⟨ps,_,_,_,h4⟩:=h;exact h4
theorem AH.own{l:List Fl}(h:AH w M v l):∀k,v.ownBlock=some k→M k:=by
 obtain⟨ps,_,_,_,h4⟩:=h;exact h4
structure SX(w:World)(M:Nat→Prop)(S NB MB GB GM:Nat)(sv qv fv:Value)(s:az):Prop where
 hS:w.heap[S]? =some (.cells #[zq NB,.string (str s.gF),.int .i64 s.cI,.int .i64 s.ends,.bool s.ej,sv,qv,fv,zq GB] 94 (0,0))
 hn:St w NB MB s.bJ
 A:St w GB GM s.aB
 W:w.ownsRow 0 64 6 sv s.al.length (s.al.flatMap aT)
 hq:AG w M qv s.queue
 hf:AH w M fv s.ag
 nb:NB≠GB
 nm:MB≠GM
 mS:M S
 mN:M MB
 mG:M GM
 ms:∀k,sv.ownBlock=some k→M k
 q_:¬M NB
 re:¬M GB
 lt:∀b,M b→b<w.heap.size
def SR(w:World)(M:Nat→Prop)(S:Nat)(s:az):Prop:=∃NB MB GB GM sv qv fv,SX w M S NB MB GB GM sv qv fv s
theorem SX.below{s:az}(h:SX w M S NB MB GB GM sv qv fv s)(U:Below w w w'):SX w' M S NB MB GB GM sv qv fv s where
 hS:=aA h.hS U
 hn:=h.hn.below U
 A:=h.A.below U
 W:=aR h.W U
 hq:=h.hq.sep (.cL U) (fun k G=>U.block k (h.lt k (h.hq.own k G))) h.hq.own
 hf:=h.hf.sep (.cL U) (fun k G=>U.block k (h.lt k (h.hf.own k G))) h.hf.own
 nb:=h.nb
 nm:=h.nm
 mS:=h.mS
 mN:=h.mN
 mG:=h.mG
 ms:=h.ms
 q_:=h.q_
 re:=h.re
 lt:=fun b hm=>eV (h.lt b hm) U.size
theorem SR.below{s:az}(h:SR w M S s)(U:Below w w w'):SR w' M S s:=by
 obtain⟨NB,MB,GB,GM,sv,qv,fv,F⟩:=h;exact⟨NB,MB,GB,GM,sv,qv,fv,F.below U⟩
theorem SX.parts{s:az}(h:SX w M S NB MB GB GM sv qv fv s)(K:Nat)(A:w.grownBy w' (some K))(hM:∀b,M b→M' b)(W:Sep M M' w w'):
 (bw w K≠94+2→w'.heap[S]? =w.heap[S]?)∧(K≠MB→bw w K≠143+2→St w' NB MB s.bJ)∧(K≠GM→bw w K≠143+2→St w' GB GM s.aB)∧
 (bw w K≠64+2→w'.ownsRow 0 64 6 sv s.al.length (s.al.flatMap aT))∧(bw w K≠36+2→AG w' M' qv s.queue)∧(bw w K≠51+2→AH w' M' fv s.ag):=by
 have key:∀b,b<w.heap.size→b≠K→w'.heap[b]? =w.heap[b]?:=fun b U bf=>A.block b U (fun e=>bf (Option.some.inj e));have gG:∀{b t:Nat}{fr:Nat×Nat}{cs:Array Value},w.heap[b]? =some (.cells cs t fr)→b<w.heap.size:=fun h=>(eI.1 h).1;refine⟨fun G=>key S (gG h.hS) (fun e=>G (e▸j6 h.hS)),fun bf G=>h.hn.vp (key _ (gG h.hn.1) (fun e=>G (e▸h.hn.kinds.1))) (key _ h.hn.2.lt (fun e=>bf e.symm)),
  fun bf G=>h.A.vp (key _ (gG h.A.1) (fun e=>G (e▸h.A.kinds.1))) (key _ h.A.2.lt (fun e=>bf e.symm)),
  fun G=>jO h.W fun k dS=>key k (h.lt k (h.ms k dS)) (fun e=>G (e▸eJ h.W k dS)),
  fun G=>h.hq.sep W (fun k dS=>key k (h.lt k (h.hq.own k dS)) (fun e=>G (e▸h.hq.kind k dS))) (fun k dS=>hM k (h.hq.own k dS)),
  fun G=>h.hf.sep W (fun k dS=>key k (h.lt k (h.hf.own k dS)) (fun e=>G (e▸h.hf.kind k dS))) (fun k dS=>hM k (h.hf.own k dS))⟩
def bH(_:Sb):Zt:=Zt.a
instance au1{x:Sb}:CoeDep Zt (bH x) (Array Value):=⟨#[.string (str x.filter),.int .i64 x.ah,.bool x.kn,.bool x.kq,.int .i64 x.eX,.int .i64 x.id]⟩
instance au2{x:Sb}:CoeDep Zt (bH x) (List Value):=⟨[.string (str x.filter),.int .i64 x.ah,.bool x.kn,.bool x.kq,.int .i64 x.eX,.int .i64 x.id]⟩
theorem X3{P:Prop}(h:P:=by
 simp only[aT,List.mem_cons,qT,or_false] at hu;rcases hu with rfl|rfl|rfl|rfl|rfl|rfl<;>rfl):P:=h
theorem X4{P:Prop}(h:P:=by
 rcases ha with⟨_,e⟩|⟨_,e⟩
 ·exact .inl (h.hq.own k (e▸G))
 rw[e] at G;cases G;exact .inr bj):P:=h
theorem X5{P:Prop}(h:P:=by
 refine⟨M',aO,cH.trans (.kV (br w1 ⟨S,6,none⟩ bY) (fun k G=>by cases G;exact .inl h.mS)),fun b U=> .inl U,?_⟩;refine Lo.ahv ?_ S bY;rcases ha with h1|⟨h1,h2⟩
 ·exact .inl h1
 exact .inr ⟨h1,h2⟩):P:=h
theorem Nv{P:Prop}(h:P:=by
 rw[j6 ((bf _ (gG h.A.1) (by rw[h.A.kinds.1];decide)).trans h.A.1)] at h1
 revert h1
 decide):P:=h
theorem Nw{P:Prop}(h:P:=by
 rw[j6 ((bf _ (gG h.hn.1) (by rw[h.hn.kinds.1];decide)).trans h.hn.1)] at h1
 revert h1
 decide):P:=h
theorem X6{P:Prop}(h:P:=by
 rcases ha with⟨A,e⟩|⟨A,e⟩
 ·cases hv:qv.ownBlock with
  |none=>exact⟨w.heap.size,AE (by rw[hv] at A;exact A),.inr bj⟩
  |some k=>exact⟨k,by rw[hv] at A;exact A,.inl ⟨h.hq.own k hv,kr k hv⟩⟩
 exact⟨w.heap.size,AE A,.inr bj⟩):P:=h
theorem Ez{P:Prop}(h:P:=by
 have e:=bf b U k1;have aw:bw w1 b=bw w b:=by unfold bw;rw[e]
 exact(aI b (eV U A.size) (by rw[aw];exact k2)).trans e):P:=h
variable{ec j:Nat}{s s':az}{ek bY dG:Value}
theorem vr:(prog.info? 36).map (fun i=>(i.zero,i.size,i.bytes))=some (some (Value.agg aX),14,184):=by kernel_rfl
theorem yS:(prog.info? 51).map (fun i=>(i.zero,i.size,i.bytes))=some (some (Value.agg mo),16,200):=by kernel_rfl
theorem SX.set(h:SX w M S NB MB GB GM sv qv fv s)(j:Nat)(u:Value)
 (hS:(w.setCell ⟨S,j,none⟩ u).heap[S]? =some (.cells #[zq NB,.string (str s'.gF),.int .i64 s'.cI,.int .i64 s'.ends,.bool s'.ej,dG,bY,ek,zq GB] 94))
 (e1:s'.bJ=s.bJ) (e2:s'.aB=s.aB) (W:(w.setCell ⟨S,j,none⟩ u).ownsRow 0 64 6 sv s.al.length (s.al.flatMap aT)→(w.setCell ⟨S,j,none⟩ u).ownsRow 0 64 6 dG s'.al.length (s'.al.flatMap aT)) (yT:dG=sv)
 (hq:AG (w.setCell ⟨S,j,none⟩ u) M bY s'.queue) (hf:AH (w.setCell ⟨S,j,none⟩ u) M ek s'.ag):SX (w.setCell ⟨S,j,none⟩ u) M S NB MB GB GM dG bY ek s':=by
 have A:=br w ⟨S,j,none⟩ u;have G:=j6 h.hS;have hp:=h.parts S A (M':=M) (fun _ hm=>hm) (.kV A (fun k G=>by cases G;exact h.mS));refine⟨hS,?_,?_,W (hp.2.2.2.1 (by rw[G];decide)),hq,hf,h.nb,h.nm,h.mS,h.mN,h.mG,fun k dS=>h.ms k (yT▸dS),h.q_,h.re,fun b U=> ?_⟩
 ·rw[e1];exact hp.2.1 (fun e=>by have:=h.hn.kinds.2;rw[←e,G] at this;omega) (by rw[G];decide)
 ·rw[e2];exact hp.2.2.1 (fun e=>by have:=h.A.kinds.2;rw[←e,G] at this;omega) (by rw[G];decide)
 have:=h.lt b U
 simpa [World.setCell] using this
def Lo(S:Nat)(w w':World)(v v':Value):Prop:=∀B,B≤S→B≤w.heap.size→(∀k,v.ownBlock=some k→B≤k)→Below B w w'∧∀k,v'.ownBlock=some k→B≤k
theorem Lo.refl(S:Nat)(w:World)(v:Value):Lo S w w v v:=fun _ _ _ hv=>⟨.refl _ _,hv⟩
theorem Lo.below{Np:World}(U:Below w w w')(h:Lo S w' Np v v'):Lo S w Np v v':=fun B h1 h2 h3=>by
 obtain⟨k1,k2⟩:=h B h1 (aJ h2 U.size) h3;exact⟨(U.mono h2).trans k1,k2⟩
theorem Lo.ahv(ha:(w.grownBy w1 v.ownBlock∧v'.ownBlock=v.ownBlock)∨(w.grownBy w1 none∧v'.ownBlock=some w.heap.size))(S:Nat)(u:Value):Lo S w (w1.setCell ⟨S,j,none⟩ u) v v':=fun B h1 h2 h3=>by
 have bD:=s_ (B:=B) (br w1 ⟨S,j,none⟩ u);rcases ha with⟨A,e⟩|⟨A,e⟩
 ·have U:=s_ A h2 h3;exact⟨U.trans (bD (aJ h2 A.size) (fun k G=>by cases G;exact h1)),fun k G=>h3 k (e▸G)⟩
 have U:=s_ A h2 (fun k G=>by cases G);exact⟨U.trans (bD (aJ h2 A.size) (fun k G=>by cases G;exact h1)),fun k G=>by
  rw[e] at G;cases G;exact h2⟩
theorem SX.push{ps:List (V3×Im)}{c:V3}(h:SX w M S NB MB GB GM sv qv fv s)(aZ:ps.map (·.2)=s.queue)(a_:∀p∈ps,dk w M p.1 p.2)(F:dk w M c x)
 (hr:bh w1 36 14 bY (s.queue.length+1) (ps.flatMap dX++dX (c,x))) (ha:C3 w w1 qv bY) (kr:∀k,qv.ownBlock=some k→bw w k=36+2):
 ∃M',SX (w1.setCell ⟨S,6,none⟩ bY) M' S NB MB GB GM sv bY fv {s with queue:=s.queue++ [x]}∧Sep M M' w (w1.setCell ⟨S,6,none⟩ bY)∧(∀b,M b→M' b)∧Lo S w (w1.setCell ⟨S,6,none⟩ bY) qv bY:=by
 obtain⟨K,A,hK⟩:∃K,w.grownBy w1 (some K)∧(M K∧bw w K=36+2∨w.heap.size≤K):=by
  exact X6
 have jG:∀k,bY.ownBlock=some k→M k∨w.heap.size≤k:=fun k G=>by
  exact X4
 have EA:∀k,bY.ownBlock=some k→k<w1.heap.size:=hr.lt
 let M':Nat→Prop:=fun b=>M b∨bY.ownBlock=some b
 have cH:Sep M M' w w1:=⟨A.os,A.tape,A.output,A.size,fun b U hM=>A.block b U (fun e=>by
  have e:=Option.some.inj e;rcases hK with⟨G,_⟩|G
  ·exact hM (e▸G)
  ·omega),fun b U=>by
  rcases U with U|U
  ·exact .inl U
  exact jG b U,fun awX ⟨m,hm,hl⟩=>⟨m,.inl hm,hl⟩⟩
 have bf:∀b,b<w.heap.size→bw w b≠36+2→w1.heap[b]? =w.heap[b]?:=fun b U G=>A.block b U (fun e=>by
  have e:=Option.some.inj e;rcases hK with⟨_,eB⟩|eB
  ·exact G (e▸eB)
  omega)
 have gG:∀{b t:Nat}{fr:Nat×Nat}{cs:Array Value},w.heap[b]? =some (.cells cs t fr)→b<w.heap.size:=fun h=>(eI.1 h).1;have jJ:=(bf S (gG h.hS) (by rw[j6 h.hS];decide)).trans h.hS;have iS:bw w1 S=94+2:=j6 jJ;have aO:SX (w1.setCell ⟨S,6,none⟩ bY) M' S NB MB GB GM sv bY fv {s with queue:=s.queue++ [x]}:=by
  have bD:=br w1 ⟨S,6,none⟩ bY;have bF:Sep M' M' w1 (w1.setCell ⟨S,6,none⟩ bY):= .kV bD (fun k G=>by cases G;exact .inl h.mS);have aI:∀b,b<w1.heap.size→bw w1 b≠94+2→(w1.setCell ⟨S,6,none⟩ bY).heap[b]? =w1.heap[b]?:=fun b U G=>bD.block b U (fun e=>G (Option.some.inj e▸iS));have both:∀b,b<w.heap.size→bw w b≠36+2→bw w b≠94+2→(w1.setCell ⟨S,6,none⟩ bY).heap[b]? =w.heap[b]?:=fun b U k1 k2=>by
   exact Ez
  refine⟨?_,h.hn.vp (both _ (gG h.hn.1) (by rw[h.hn.kinds.1];decide) (by rw[h.hn.kinds.1];decide)) (both _ h.hn.2.lt (by rw[h.hn.kinds.2];decide) (by rw[h.hn.kinds.2];decide)),
   h.A.vp (both _ (gG h.A.1) (by rw[h.A.kinds.1];decide) (by rw[h.A.kinds.1];decide)) (both _ h.A.2.lt (by rw[h.A.kinds.2];decide) (by rw[h.A.kinds.2];decide)),
   jO h.W (fun k G=>both k (h.lt k (h.ms k G)) (by rw[eJ h.W k G];decide) (by rw[eJ h.W k G];decide)),?_,
   h.hf.sep (cH.trans bF) (fun k G=>both k (h.lt k (h.hf.own k G)) (by rw[h.hf.kind k G];decide) (by rw[h.hf.kind k G];decide)) (fun k G=> .inl (h.hf.own k G)),
   h.nb,h.nm,.inl h.mS,.inl h.mN,.inl h.mG,fun k G=> .inl (h.ms k G),?_,?_,?_⟩
  ·rw[bm w1 S 6 _ _ _ jJ]
   rfl
  ·refine⟨ps++ [(c,x)],by rw[nv,aZ];rfl,?_,fun p hp=> ?_,fun k G=> .inr G⟩
   ·rw[jZ];have:=hr.grown bD (.inl (hr.ne jJ (by decide)))
    simpa using this
   ·rcases ez.1 hp with hp|hp
    ·exact((a_ p hp).sep cH).sep bF
    ·obtain rfl:=dM.1 hp;exact(F.sep cH).sep bF
  ·rintro(hm|hm)
   ·exact h.q_ hm
   ·have h1:=hr.kind NB hm;exact Nw
  ·rintro(hm|hm)
   ·exact h.re hm
   ·have h1:=hr.kind GB hm;exact Nv
  ·rintro b (U|U)
   ·have:=h.lt b U;have:=A.size;simp only[World.setCell,Array.size_modify]
    omega
   ·have:=EA b U
    simpa [World.setCell] using this
 exact X5
theorem ef{b c e f g i:Value}(hS:w.heap[S]? =some (.cells #[a,b,c,d,e,f,g,h,i] t fr)):
 (w.cell? ⟨S,0,none⟩=some a∧w.cell? ⟨S,1,none⟩=some b∧w.cell? ⟨S,2,none⟩=some c∧w.cell? ⟨S,3,none⟩=some d∧w.cell? ⟨S,4,none⟩=some e)∧w.cell? ⟨S,5,none⟩=some f∧w.cell? ⟨S,6,none⟩=some g∧w.cell? ⟨S,7,none⟩=some h∧w.cell? ⟨S,8,none⟩=some i:=
 ⟨⟨D 0 hS,D 1 hS,D 2 hS,D 3 hS,D 4 hS⟩,D 5 hS,D 6 hS,D 7 hS,D 8 hS⟩
theorem BE{a c e:ByteArray}{i j k l m n:Int}{b q:Bool}(V qa ea:av)(pn X qn qc:Nat){en:Nat}:∀u∈ [Value.string a,.slice V pn X,E i,.bool b,.string c,E j,.slice qa qn qc,E k,E l,E m,E n,.bool q,.slice ea en ec,.string e],u.oneCell'=true:=by
 intro u hu;simp only[List.mem_cons,qT,or_false] at hu;rcases hu with rfl|rfl|rfl|rfl|rfl|rfl|rfl|rfl|rfl|rfl|rfl|rfl|rfl|rfl<;>rfl
theorem X7(S:Nat)(s:az)(v:Array Value)(w:World)(M:Nat→Prop)(h:SR w M S s)(hl:8≤s.queue.length)(kZ:s.queue.length≤100000)(R:ak)
 (I:∀w',Below w w w'→R (.returned (.bool false)) w'):
 Calls prog 8 #[zq S,.agg v] w R:=by
 obtain⟨NB,MB,GB,GM,sv,qv,fv,F⟩:=h;have HR:=Z I;obtain⟨qa,qc,rfl⟩:∃a c,qv= .slice a s.queue.length c:=by
  obtain⟨ps,_,h2,_⟩:=F.hq;exact h2.shape
 have aM:Below w w (w.alloc (.cells v 36)):=aD _ _;have bB:=Z aM;have c6:=(ef (F.below aM).hS).2.2.1;have RQ:(8:Int)≤(s.queue.length:Int):=by omega
 clear I F aM;go_enter func8,ntmps8;go_wp2;exact HR.O _ bB.O
theorem X8(S NB MB GB GM:Nat)(sv qv fv:Value)(s:az)(x:Im)(pv qw ev:Value)(w:World)(M:Nat→Prop)(F:SX w M S NB MB GB GM sv qv fv s)(hl:s.queue.length<8)(J:ie w pv qw ev x)(hB:fX x)(R:ak)
 (I:∀M' bY w',SX w' M' S NB MB GB GM sv bY fv {s with queue:=s.queue++ [x]}→Sep M M' w w'→(∀b,M b→M' b)→Lo S w w' qv bY→R (.returned (.bool true)) w'):
 Calls prog 8 #[zq S,(Value.agg (qi x pv qw ev))] w R:=by
 obtain⟨HR,HC,uk⟩:=bX I J hB;obtain⟨⟨V,X,rfl⟩,⟨qa,qc,rfl⟩,ea,ec,rfl⟩:=J.shape;obtain⟨va,vc,rfl⟩:∃a c,qv= .slice a s.queue.length c:=by
  obtain⟨ps,_,h2,_⟩:=F.hq;exact h2.shape
 obtain⟨n,hn⟩:=ai s.queue.length;rw[hn] at F hl;have HX:=Z F;have HN:=Z hn;clear I hB J F hn;have RQ:¬(8:Int)≤(n:Int):=by omega
 have aM:Below w w (w.alloc (.cells (aG x V X qa qc ea ec) 36)):=aD _ _;have bB:=Z aM;have EB:=Z (aH w (.cells (aG x V X qa qc ea ec) 36));have c6:=(ef (HX.O.below aM).hS).2.2.1;clear aM;go_enter func8,ntmps8;go_wp2_with fail;clear c6;generalize w.alloc (.cells (aG x V X qa qc ea ec) 36)=w1 at bB EB⊢;have kI:Below w w w1.drew:=bB.O.drew;have yU:=Z (HX.O.below kI);have fP:=Z (HC.O.below kI);have c6:=(ef yU.O.hS).2.2.1;obtain⟨⟨i0,i1,i2,i3,i4,i5,i6⟩,i7,i8,i9,i10,i11,i12,i13⟩:=tg (w:=w1.drew) EB.O;obtain⟨ps,aZ,aq,a_,aU⟩:=yU.O.hq;rw[HN.O] at aq;obtain⟨dR,aV,je⟩:=bX aZ aq a_;clear aZ aq a_ aU;go_region_law (first
  |(go_simp;go_at_call 37;refine Ev x _ _ _ w1.drew fP.O uk.O _ ?_;intro Az AA AB AD JC JD w3 bN an;have EC:=cell_later an c6;have ny:Below w3 w3 (w3.alloc (.cells (aG x Az AA AB AD JC JD) 36)):=aD _ _;have ahw:=cell_later ny EC;have ao:=ed an ny;have fZ:=yU.O.below ao;have uq:=aV.O.below ao)
  |refine RL (by rfl) (.tmp 15) (.tmp 18) 52 (by rfl) 36 (Value.agg aX) 14 184 underlying52 vr rfl (by decide) (.slice va n vc) n _ (by rfl) uq ⟨w3,0,none⟩ 1 1 (aG x Az AA AB AD JC JD) (by rfl) (dO w3 (aG x Az AA AB AD JC JD) 36 14 1 rfl) (BE _ _ _ _ _ _ _) (by unfold maxLen;omega) (by omega) (by omega) ?_;intro ED c5 w5 fE EE;have r5:=EE.row uq fZ.hS (by decide);have ahx:=(ef r5).2.2.1;have f65:=aC r5 6)
 all_goals
  have rh:dk (w3.alloc (.cells (aG x Az AA AB AD JC JD) 36)) M (.slice Az x.note.ay.length AA,.slice AB x.note.props.length AD,.slice JC x.ids.length JD) x:=⟨(((bN.wr yU.O.lt).sep (Sep.wr (.cL ny))).imp fun y hy=>hy.c uk.O),uk.O⟩
  obtain⟨M',jP,jQ,C5,JE⟩:=SX.push fZ dR.O (fun p hp=>(je.O p hp).sep (.cL ao)) rh (by rw[HN.O];exact fE) EE uq.kind;have X9:Sep M M' w _:=(Sep.cL (aQ kI ao)).trans jQ;obtain⟨sk,ahy,RS⟩:=bX jP X9 C5;have jw:=Z (JE.below (aQ kI ao));clear rh jP jQ X9 C5 JE r5 ahx f65 EE fE uq fZ ao ahw ny EC an bN i0 i1 i2 i3 i4 i5 i6 i7 i8 i9 i10 i11 i12 i13 c6 kI;go_wp2_with fail;exact HR.O M' _ _ sk.O ahy.O RS.O (by rw[HN.O];exact jw.O)
theorem ahz(S:Nat)(s:az)(x:Im)(pv qw ev:Value)(w:World)(M:Nat→Prop)(h:SR w M S s)(hl:s.queue.length<8)(J:ie w pv qw ev x)(hB:fX x)(R:ak)
 (I:∀M' w',SR w' M' S {s with queue:=s.queue++ [x]}→Sep M M' w w'→R (.returned (.bool true)) w'):
 Calls prog 8 #[zq S,(Value.agg (qi x pv qw ev))] w R:=by
 obtain⟨NB,MB,GB,GM,sv,qv,fv,F⟩:=h;exact X8 S NB MB GB GM sv qv fv s x pv qw ev w M F hl J hB R fun M' bY w' h1 h2 _ _=>I M' w' ⟨NB,MB,GB,GM,sv,bY,fv,h1⟩ h2
open List (mem_cons_of_mem)
variable{rest:List Im}
theorem SX.EG(h:SX w M S NB MB GB GM sv qv fv s)(o:Obj):
 SX (w.alloc o) (fun b=>M b∨b=w.heap.size) S NB MB GB GM sv qv fv s∧Sep M (fun b=>M b∨b=w.heap.size) w (w.alloc o):=by
 have U:Below w w (w.alloc o):=aD _ o;have W:Sep M (fun b=>M b∨b=w.heap.size) w (w.alloc o):=(Sep.cL U).more (fun b U=>U.imp id (fun e=>by omega)) (fun awX ⟨m,hm,hl⟩=>⟨m,.inl hm,hl⟩);have h1:=h.below U;have gG:∀{b t:Nat}{fr:Nat×Nat}{cs:Array Value},w.heap[b]? =some (.cells cs t fr)→b<w.heap.size:=fun h=>(eI.1 h).1;exact⟨⟨h1.hS,h1.hn,h1.A,h1.W,h.hq.sep W (fun k G=>U.block k (h.lt k (h.hq.own k G))) (fun k G=> .inl (h.hq.own k G)),h.hf.sep W (fun k G=>U.block k (h.lt k (h.hf.own k G))) (fun k G=> .inl (h.hf.own k G)),h.nb,h.nm,.inl h.mS,.inl h.mN,.inl h.mG,fun k G=> .inl (h.ms k G),
  (fun hm=>hm.elim h.q_ (fun e=>by have:=gG h.hn.1;omega)),(fun hm=>hm.elim h.re (fun e=>by have:=gG h.A.1;omega)),fun b U=>by
    rcases U with U|U
    ·have:=h.lt b U;simp
     omega
    simp
    omega⟩,W⟩
theorem SX.X_(h:SX w M S NB MB GB GM sv qv fv s)(hN:M N)(G8:S≤N)(A:w.grownBy w' (some N))(e0:N≠S)(e1:N≠NB)(e2:N≠MB)(e3:N≠GB)(e4:N≠GM)(e5:sv.ownBlock≠some N)(e6:qv.ownBlock≠some N)(e7:fv.ownBlock≠some N):
 SX w' (fun b=>M b∧b≠N) S NB MB GB GM sv qv fv s∧Sep M (fun b=>M b∧b≠N) w w':=by
 have W:Sep M (fun b=>M b∧b≠N) w w':=(Sep.kV A (fun k G=>by cases G;exact hN)).more (fun b U=> .inl U.1) (fun awX ⟨m,hm,hl⟩=>by
  by_cases e:m=N
  ·exact⟨S,⟨h.mS,e0.symm⟩,by omega⟩
  exact⟨m,⟨hm,e⟩,hl⟩)
 have gG:∀{b t:Nat}{fr:Nat×Nat}{cs:Array Value},w.heap[b]? =some (.cells cs t fr)→b<w.heap.size:=fun h=>(eI.1 h).1;have key:∀b,b<w.heap.size→N≠b→w'.heap[b]? =w.heap[b]?:=fun b U bf=>A.block b U (fun e=>bf (Option.some.inj e).symm);have own:∀{v:Value}{k:Nat},v.ownBlock≠some N→v.ownBlock=some k→N≠k:=fun hv G e=>hv (e▸G);exact⟨⟨(key S (gG h.hS) e0).trans h.hS,h.hn.vp (key _ (gG h.hn.1) e1) (key _ h.hn.2.lt e2),h.A.vp (key _ (gG h.A.1) e3) (key _ h.A.2.lt e4),
  jO h.W (fun k G=>key k (h.lt k (h.ms k G)) (own e5 G)),h.hq.sep W (fun k G=>key k (h.lt k (h.hq.own k G)) (own e6 G)) (fun k G=>⟨h.hq.own k G,(own e6 G).symm⟩),h.hf.sep W (fun k G=>key k (h.lt k (h.hf.own k G)) (own e7 G)) (fun k G=>⟨h.hf.own k G,(own e7 G).symm⟩),
  h.nb,h.nm,⟨h.mS,e0.symm⟩,⟨h.mN,e2.symm⟩,⟨h.mG,e4.symm⟩,fun k G=>⟨h.ms k G,(own e5 G).symm⟩,fun hm=>h.q_ hm.1,fun hm=>h.re hm.1,fun b U=>eV (h.lt b U.1) A.size⟩,W⟩
theorem SX.RT{l:List Int}(h:SX w M S NB MB GB GM sv qv fv s)(A:w.grownBy w' (some MB))(hn:St w' NB MB l):
 SX w' M S NB MB GB GM sv qv fv {s with bJ:=l}∧Sep M M w w':=by
 have W:Sep M M w w':= .kV A (fun k G=>by cases G;exact h.mN);have G:=h.hn.kinds.2;obtain⟨p1,_,p3,p4,p5,p6⟩:=h.parts MB A (fun _ hm=>hm) W;exact⟨⟨(p1 (by rw[G];decide)).trans h.hS,hn,p3 h.nm (by rw[G];decide),p4 (by rw[G];decide),p5 (by rw[G];decide),p6 (by rw[G];decide),h.nb,h.nm,h.mS,h.mN,h.mG,h.ms,h.q_,h.re,fun b U=>eV (h.lt b U) A.size⟩,W⟩
theorem SX.RU{l:List Int}(h:SX w M S NB MB GB GM sv qv fv s)(A:w.grownBy w' (some GM))(hn:St w' GB GM l):
 SX w' M S NB MB GB GM sv qv fv {s with aB:=l}∧Sep M M w w':=by
 have W:Sep M M w w':= .kV A (fun k G=>by cases G;exact h.mG);have G:=h.A.kinds.2;obtain⟨p1,p2,_,p4,p5,p6⟩:=h.parts GM A (fun _ hm=>hm) W;exact⟨⟨(p1 (by rw[G];decide)).trans h.hS,p2 h.nm.symm (by rw[G];decide),hn,p4 (by rw[G];decide),p5 (by rw[G];decide),p6 (by rw[G];decide),h.nb,h.nm,h.mS,h.mN,h.mG,h.ms,h.q_,h.re,fun b U=>eV (h.lt b U) A.size⟩,W⟩
theorem SX.pop{c:V3}{pr:List (V3×Im)}(h:SX w M S NB MB GB GM sv qv fv s)(aZ:pr.map (·.2)=rest)(a_:∀p∈(c,x)::pr,dk w M p.1 p.2)
 (hr:bh w 36 14 bY rest.length (pr.flatMap dX)) (ho:bY.ownBlock=qv.ownBlock):
 SX (w.setCell ⟨S,6,none⟩ bY) M S NB MB GB GM sv bY fv {s with queue:=rest}∧Sep M M w (w.setCell ⟨S,6,none⟩ bY):=by
 have bD:=br w ⟨S,6,none⟩ bY;have G:=j6 h.hS;have bF:Sep M M w (w.setCell ⟨S,6,none⟩ bY):= .kV bD (fun k G=>by cases G;exact h.mS);have hp:=h.parts S bD (fun _ hm=>hm) bF;refine⟨h.set 6 bY ?_ rfl rfl id rfl ?_ (hp.2.2.2.2.2 (by rw[G];decide)),bF⟩
 ·rw[bm w S 6 _ _ _ h.hS]
  rfl
 exact⟨pr,aZ,hr.grown bD (.inl (hr.ne h.hS (by decide))),fun p hp=>(a_ p (mem_cons_of_mem _ hp)).sep bF,fun k G=>h.hq.own k (ho▸G)⟩
theorem SX.mP{ps:List (V3×Fl)}{fs:List Fl}(h:SX w M S NB MB GB GM sv qv fv s)(aZ:ps.map (·.2)=fs)(a_:∀p∈ps,dk w M p.1 p.2.item)
 (hr:w1.ownsRow 0 51 16 ek fs.length (ps.flatMap bV)) (A:w.grownBy w1 fv.ownBlock) (bZ:ek.ownBlock=fv.ownBlock∨ek.ownBlock=some w.heap.size):
 ∃M',SX (w1.setCell ⟨S,7,none⟩ ek) M' S NB MB GB GM sv qv ek {s with ag:=fs}∧Sep M M' w (w1.setCell ⟨S,7,none⟩ ek)∧(∀b,M b→M' b):=by
 obtain⟨K,A,hK⟩:∃K,w.grownBy w1 (some K)∧(M K∧bw w K=51+2∨w.heap.size≤K):=by
  cases hv:fv.ownBlock with
  |none=>exact⟨w.heap.size,AE (by rw[hv] at A;exact A),.inr bj⟩
  |some k=>exact⟨k,by rw[hv] at A;exact A,.inl ⟨h.hf.own k hv,h.hf.kind k hv⟩⟩
 have jG:∀k,ek.ownBlock=some k→M k∨w.heap.size≤k:=fun k G=>by
  rcases bZ with e|e
  ·exact .inl (h.hf.own k (e▸G))
  rw[e] at G;cases G;exact .inr bj
 have EA:∀k,ek.ownBlock=some k→k<w1.heap.size:=fun k G=>(hr.lt k G).2
 let M':Nat→Prop:=fun b=>M b∨ek.ownBlock=some b
 have cH:Sep M M' w w1:=⟨A.os,A.tape,A.output,A.size,fun b U hM=>A.block b U (fun e=>by
  have e:=Option.some.inj e;rcases hK with⟨G,_⟩|G
  ·exact hM (e▸G)
  ·omega),fun b U=>by
  rcases U with U|U
  ·exact .inl U
  exact jG b U,fun awX ⟨m,hm,hl⟩=>⟨m,.inl hm,hl⟩⟩
 have bf:∀b,b<w.heap.size→bw w b≠51+2→w1.heap[b]? =w.heap[b]?:=fun b U G=>A.block b U (fun e=>by
  have e:=Option.some.inj e;rcases hK with⟨_,eB⟩|eB
  ·exact G (e▸eB)
  omega)
 have gG:∀{b t:Nat}{fr:Nat×Nat}{cs:Array Value},w.heap[b]? =some (.cells cs t fr)→b<w.heap.size:=fun h=>(eI.1 h).1;have jJ:=(bf S (gG h.hS) (by rw[j6 h.hS];decide)).trans h.hS;have iS:bw w1 S=94+2:=j6 jJ;have bD:=br w1 ⟨S,7,none⟩ ek;have bF:Sep M' M' w1 (w1.setCell ⟨S,7,none⟩ ek):= .kV bD (fun k G=>by cases G;exact .inl h.mS);have aI:∀b,b<w1.heap.size→bw w1 b≠94+2→(w1.setCell ⟨S,7,none⟩ ek).heap[b]? =w1.heap[b]?:=fun b U G=>bD.block b U (fun e=>G (Option.some.inj e▸iS));have both:∀b,b<w.heap.size→bw w b≠51+2→bw w b≠94+2→(w1.setCell ⟨S,7,none⟩ ek).heap[b]? =w.heap[b]?:=fun b U k1 k2=>by
  exact Ez
 refine⟨M',⟨?_,h.hn.vp (both _ (gG h.hn.1) (by rw[h.hn.kinds.1];decide) (by rw[h.hn.kinds.1];decide)) (both _ h.hn.2.lt (by rw[h.hn.kinds.2];decide) (by rw[h.hn.kinds.2];decide)),
  h.A.vp (both _ (gG h.A.1) (by rw[h.A.kinds.1];decide) (by rw[h.A.kinds.1];decide)) (both _ h.A.2.lt (by rw[h.A.kinds.2];decide) (by rw[h.A.kinds.2];decide)),
  jO h.W (fun k G=>both k (h.lt k (h.ms k G)) (by rw[eJ h.W k G];decide) (by rw[eJ h.W k G];decide)),
  h.hq.sep (cH.trans bF) (fun k G=>both k (h.lt k (h.hq.own k G)) (by rw[h.hq.kind k G];decide) (by rw[h.hq.kind k G];decide)) (fun k G=> .inl (h.hq.own k G)),?_,
  h.nb,h.nm,.inl h.mS,.inl h.mN,.inl h.mG,fun k G=> .inl (h.ms k G),?_,?_,?_⟩,cH.trans bF,fun b U=> .inl U⟩
 ·rw[bm w1 S 7 _ _ _ jJ]
  rfl
 ·refine⟨ps,aZ,iO hr jJ (by decide) bD,fun p hp=>((a_ p hp).sep cH).sep bF,fun k G=> .inr G⟩
 ·rintro(hm|hm)
  ·exact h.q_ hm
  ·have h1:=eJ hr NB hm;exact Nw
 ·rintro(hm|hm)
  ·exact h.re hm
  ·have h1:=eJ hr GB hm;exact Nv
 ·rintro b (U|U)
  ·have:=h.lt b U;have:=A.size;simp only[World.setCell,Array.size_modify]
   omega
  ·have:=EA b U
   simpa [World.setCell] using this
theorem SX.RV(h:SX w M S NB MB GB GM sv qv fv s):
 w.heap.size≠S∧w.heap.size≠NB∧w.heap.size≠MB∧w.heap.size≠GB∧w.heap.size≠GM∧sv.ownBlock≠some w.heap.size∧qv.ownBlock≠some w.heap.size∧fv.ownBlock≠some w.heap.size:=by
 have gG:∀{b t:Nat}{fr:Nat×Nat}{cs:Array Value},w.heap[b]? =some (.cells cs t fr)→b<w.heap.size:=fun h=>(eI.1 h).1;have hn:=gG h.hn.1;have A:=gG h.A.1;refine⟨fun e=>by have:=h.lt S h.mS;omega,by omega,fun e=>by have:=h.lt MB h.mN;omega,by omega,fun e=>by have:=h.lt GM h.mG;omega,fun e=> ?_,fun e=> ?_,fun e=> ?_⟩
 ·have:=h.lt _ (h.ms _ e);omega
 ·have:=h.lt _ (h.hq.own _ e);omega
 have:=h.lt _ (h.hf.own _ e);omega
def mQ(s:az)(cu:Int):Bool:=match s.queue with
 |[]=>false
 |x::_=>x.ah==0 || (decide ((s.ag.length:Int)<cu)&&decide (s.ag.length<8))
theorem X'{P:Prop}(h:P:=by
 rw[←HZ.O];refine C6 fun x F=> ?_;obtain⟨j,hj,rfl⟩:=lD F;exact HS.O j (by omega) hj):P:=h
theorem ajo(w:World)(R:ak)(I:R (.returned (E 0)) w):
 Calls prog 175 #[.int .u64 0] w R:=by
 go_enter func175,ntmps175;go_wp2_with (go_at_call 202;go_in);refine Eq.mp (congrArg (fun v=>R (Ending.returned v) w) ?_) I
 kernel_rfl
theorem ajp(w:World)(R:ak)(I:R (.returned (.tuple #[])) w):
 Calls prog 157 #[.slice none 0 0] w R:=by
 go_enter func157,ntmps157;go_wp2_with (first
  |(go_at_call 175;go_must(refine ajo _ _ ?_))
  |(go_at_call 174;go_in)
  |(go_at_call 192;go_in))
 refine wp_loop_rounds 1 ?_;rw[rounds_succ];go_wp2_with (first
  |(go_at_call 192;go_in))
 refine wp_loop_rounds 1 ?_;rw[rounds_succ];go_wp2_with fail;go_end0;go_wp2_with fail;refine bodyPost_ret (results_none rfl _ _ _) rfl ?_;simp only[];go_wp2_with fail;go_end0;exact I
theorem aaj{o:Nat}{c:V3}{rest:List Value}(h:∀j,j<n*14→w.cell? ⟨g,o+j,none⟩=(dX (c,x)++rest)[j]?)(hn:0<n):w.cell? ⟨g,o+10,none⟩=some (.int .i64 x.ah):=by
 rw[h 10 (by omega),ug (by rw[oS];omega)]
 rfl
theorem OC(S:Nat)(s:az)(cu:Int)(b:Bool)(U:mQ s cu=b)(w:World)(M:Nat→Prop)(h:SR w M S s)(qD:s.queue.length≤100000)(R:ak)
 (I:R (.returned (.bool b)) w):
 Calls prog 40 #[zq S,E cu] w R:=by
 obtain⟨NB,MB,GB,GM,sv,qv,fv,F⟩:=h;have HR:=Z I;obtain⟨ps,aZ,aq,_,_⟩:=F.hq;obtain⟨fs,_,g_,_,_⟩:=F.hf;obtain⟨fa,fc,rfl⟩:=cR g_;obtain⟨va,vc,rfl⟩:=aq.shape;have c6:=(ef F.hS).2.2.1;have c7:=(ef F.hS).2.2.2.1;obtain⟨n,hn⟩:=ai s.queue.length;obtain⟨m,hm⟩:=ai s.ag.length;rw[hn] at c6 aq;rw[hm] at c7;obtain⟨HB,HN,HM⟩:=bX U hn hm;clear I F U g_
 match hq:s.queue with
 |[]=>
  have dK:n=0:=by rw[←HN.O,hq];rfl
  subst dK;obtain rfl:false=b:=by rw[←HB.O];unfold mQ;rw[hq]
  clear hq hn hm;go_enter func40,ntmps40;go_wp2;exact HR.O
 |x::rest=>
  have dK:0<n:=by rw[←HN.O,hq];simp
  have oT:(0:Int)<(n:Int):=by omega
  rw[hq] at aZ;obtain⟨p,pr,rfl⟩:∃p pr,ps=p::pr:=by
   cases ps with
   |nil=>simp at aZ
   |cons p pr=>exact⟨p,pr,rfl⟩
  obtain⟨c,y⟩:=p;obtain rfl:y=x:=by simp at aZ;exact aZ.1
  obtain⟨g,o,rfl,bg,_⟩:=aq.at dK;rw[lT] at bg;have fD:=aaj bg dK;have ri:(y.ah==0 || (decide ((m:Int)<cu)&&decide (m<8)))=b:=by
   rw[←HB.O,←HM.O];unfold mQ;rw[hq]
  have cT:=Z ri;clear bg aq aZ hq ri hn hm;by_cases hz:y.ah=0
  ·obtain rfl:true=b:=by rw[←cT.O];simp[hz]
   have kx:(y.ah==0)=true:=by simp[hz]
   rw[hz] at fD;clear hz kx;go_enter func40,ntmps40;go_wp2;exact HR.O
  have kx:(y.ah==0)=false:=by simp[hz]
  by_cases h1:(m:Int)<cu
  ·by_cases h2:m<8
   ·have wK:(m:Int)<8:=by omega
    obtain rfl:true=b:=by rw[←cT.O,kx];simp[h1,h2]
    go_enter func40,ntmps40;go_wp2;exact HR.O
   ·have wK:¬(m:Int)<8:=by omega
    obtain rfl:false=b:=by rw[←cT.O,kx];simp[h2]
    go_enter func40,ntmps40;go_wp2;exact HR.O
  obtain rfl:false=b:=by rw[←cT.O,kx];simp[h1]
  go_enter func40,ntmps40;go_wp2;exact HR.O
theorem aak{P:Prop}(h:P:=by
 refine bodyPost_ret (Jw rfl _ _ w 36 aX (0,0) _ (E 0) (.bool false) rfl rfl rfl (setRow_heap _ w.heap.size _ _ _ _ HN.O) underlying36 rfl (by kernel_rfl)) rfl ?_;exact HR.O _ (below_setRow bB.O bj _)):P:=h
theorem OD{P:Prop}(h:P:=by
 rw[bg j (by omega),lT,ug (by rw[oS];exact hj)]
 rfl):P:=h
