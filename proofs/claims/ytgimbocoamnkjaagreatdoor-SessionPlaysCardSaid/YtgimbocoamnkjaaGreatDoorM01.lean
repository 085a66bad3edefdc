/- A part of the proof of SessionPlays, printed small; no conditions of its own. -/
import Derived.WalkKit
import Derived.WalkSpells
import Derived.WalkLawsBesides
import Derived.Lib.Hide
import Derived.Laws.AppendOwnNone
import Derived.Lib.ConvBytes
import Derived.Lib.SlBytesConst
import Derived.Test.YtgimbocoamnkjaaGreatDoorRows
import Derived.ProofKit
import Derived.Deep.Slices
import Derived.SizedLaws
import Derived.ChangeMaps5
import Derived.Test.YtgimbocoamnkjaaGreatDoorProg
import Derived.Shelf.Unicode.ValidAny
import Derived.Lib.ValidU
import Derived.Lib.TrimUEq
import Derived.Lib.MapLaws
import Derived.Test.YtgimbocoamnkjaaGreatDoorCards
import Derived.Test.YtgimbocoamnkjaaGreatDoorTie
import Derived.Lib.LaidIn
import Derived.Lib.LaidU8T
import Derived.Deep.DeepHandedRow
import Derived.Deep.DeepWitnessRowRef
import Derived.PinnedBridge
import Derived.Deep.RegionHeld
import Derived.Deep.LoopGhost
import Derived.Deep.QuietTactic
import Derived.BigQuiet
import Derived.Deep.WholeRow
import Derived.Laws.CopyOwn
import Derived.Shelf.SlSortCmp.QuietGrown
set_option maxRecDepth 100000
set_option maxHeartbeats 16000000
namespace Go.Proofs.YtgimbocoamnkjaaGreatDoor
open Nat (zero_add)
open Go.RowKit
theorem ab{p:Prop}(h:p):Go.RowKit.Hid p:=h
theorem _root_.Go.RowKit.Hid.o_{p:Prop}(h:Go.RowKit.Hid p):p:=h
theorem ai{α:Type}(a:α):∃z,a=z:=⟨_,rfl⟩
instance apj:Coe World Nat:=⟨fun w=>w.heap.size⟩
abbrev af:=@cell_of_row
def bv(l:List UInt8):List Value:=l.map fun b=>Value.int .u8 (b.toNat:Int)
@[simp] theorem Ef(l:List UInt8):(bv l).length=l.length:=by simp [bv]
theorem oK(a b:List UInt8):bv (a++b)=bv a++bv b:=by simp [bv]
theorem aci(b:UInt8):bv [b]= [Value.int .u8 (b.toNat:Int)]:=rfl
theorem eX(l:List UInt8):∀u∈bv l,u.oneCell'=true:=by
 intro u hu;obtain ⟨_,_,rfl⟩:=List.mem_map.1 hu
 rfl
theorem FQ(l:List UInt8)(j:Nat)(h:j<l.length):(bv l)[j]? =some (Value.int .u8 (l[j].toNat:Int)):=by
 simp [bv,h]
def Rd(w:World)(size:Nat)(ad:Option Addr)(n:Nat)(cs:List Value):Prop:=
 cs.length=n*size∧(n*size≠0→∃b o,ad=some ⟨b,o,none⟩∧∀j,j<n*size→w.cell? ⟨b,o+j,none⟩=cs[j]?)
theorem Rd.nil(w:World)(size:Nat)(ad:Option Addr):Rd w size ad 0 []:=⟨by simp,fun h=>absurd (Nat.zero_mul _) h⟩
theorem Rd.below{w w':World}{size n:Nat}{ad:Option Addr}{cs:List Value}(h:Rd w size ad n cs)(hb:Below w w w'):Rd w' size ad n cs:=by
 refine ⟨h.1,fun hn=> ?_⟩;obtain ⟨b,o,rfl,hc⟩:=h.2 hn;refine ⟨b,o,rfl,fun j hj=> ?_⟩;have zb:=hc j hj;have hl:j<cs.length:=by have:=h.1;omega
 have hs:w.cell? ⟨b,o+j,none⟩=some cs[j]:=by rw [zb,List.getElem?_eq_getElem hl]
 rw [List.getElem?_eq_getElem hl];exact cell_later hb hs
theorem Rd.AA{w:World}{n:Nat}{ad:Option Addr}{l:List UInt8}(h:Rd w 1 ad n (bv l))(hn:0<n):
 ∃b o,ad=some ⟨b,o,none⟩∧∀(j:Nat)(hj:j<l.length),w.cell? ⟨b,o+j,none⟩=some (Value.int .u8 ((l[j]).toNat:Int)):=by
 obtain ⟨b,o,rfl,hc⟩:=h.2 (by omega);refine ⟨b,o,rfl,fun j hj=> ?_⟩;have:=h.1;simp only [Ef,Nat.mul_one] at this;rw [hc j (by omega),FQ l j hj]
theorem Rd.len{w:World}{n:Nat}{ad:Option Addr}{l:List UInt8}(h:Rd w 1 ad n (bv l)):n=l.length:=by
 have:=h.1
 simpa using this.symm
theorem qG{w:World}{base e size n c:Nat}{ad:Option Addr}{cs:List Value}(h:w.ownsRow base e size (.slice ad n c) n cs):Rd w size ad n cs:=by
 refine ⟨h.1,fun hn=> ?_⟩;rcases h.2 with ⟨hv,h0⟩|⟨g,cap,cur,hv,_⟩
 ·subst h0;simp at hn
 ·simp only [Value.slice.injEq] at hv;obtain ⟨rfl,-,rfl⟩:=hv;exact ⟨g,0,rfl,fun j hj=>by rw [zero_add];exact h.cellAt j hj⟩
theorem aK{w w':World}{base e size n:Nat}{v:Value}{cs:List Value}(h:w.ownsRow base e size v n cs)(hb:Below w w w'):w'.ownsRow base e size v n cs:=by
 refine ⟨h.1,?_⟩;rcases h.2 with hn|⟨g,cap,cur,rfl,hbg,hg,rest⟩
 ·exact .inl hn
 ·refine .inr ⟨g,cap,cur,rfl,hbg,?_,rest⟩;rw [hb.block g (Array.getElem?_eq_some_iff.1 hg).1];exact hg
theorem rp{w:World}{base e size n c:Nat}{ad:Option Addr}{cs:List Value}(h:w.ownsRow base e size (.slice ad n c) n cs):n≤c∧c≤maxLen:=by
 rcases h.2 with ⟨hv,h0⟩|⟨g,cap,cur,hv,_,_,h1,h2,_⟩
 ·simp only [Value.slice.injEq] at hv;obtain ⟨-,rfl,rfl⟩:=hv;exact ⟨Nat.le_refl _,Nat.zero_le _⟩
 ·simp only [Value.slice.injEq] at hv;obtain ⟨-,-,rfl⟩:=hv;exact ⟨h1,h2⟩
theorem bF{w:World}{base e size n:Nat}{v:Value}{cs:List Value}(h:w.ownsRow base e size v n cs):∃ad c,v= .slice ad n c:=by
 rcases h.2 with ⟨rfl,rfl⟩|⟨g,cap,cur,rfl,_⟩
 ·exact ⟨_,_,rfl⟩
 ·exact ⟨_,_,rfl⟩
theorem bN{w:World}{base gF e size n:Nat}{v:Value}{cs:List Value}(h:w.ownsRow base e size v n cs)(hb:gF≤base):w.ownsRow gF e size v n cs:=by
 refine ⟨h.1,?_⟩;rcases h.2 with hn|⟨g,cap,cur,rfl,hbg,rest⟩
 ·exact .inl hn
 ·exact .inr ⟨g,cap,cur,rfl,Nat.le_trans hb hbg,rest⟩
theorem gj{P:Program}{w:World}{ops:Array Oper}{rest:List Oper}{o:Oper}{a:Act}{Q:Exit→Act→World→Prop}(kT:o.guard=none)(s x:Operand)(t:TypeId)
 (ho:o.op= .call {callee:= .builtin .append,args:=#[s,x],argTypes:=#[t,t]})
 (base:Nat) (e:TypeId) (z:Value) (size bytes:Nat) (ht:P.underlying t=some (.slice e)) (j8:(P.info? e).map (fun i=>(i.zero,i.size,i.bytes))=some (some z,size,bytes)) (gp:z.cells.size=size) (bm:0<size)
 (ad:Option Addr) (n c:Nat) (xs:List Value) (hs:a.eval s= .slice ad n c) (aV:w.ownsRow base e size (.slice ad n c) n xs)
 (iR:Option Addr) (m c2:Nat) (news:List Value) (hx:a.eval x= .slice iR m c2) (bG:Rd w size iR m news) (h1:∀u∈news,u.oneCell'=true)
 (gG:iR=none→c2=0)
 (h63:n+m≤maxLen) (eQ:(n+m) *bytes≤140737488355328) (iS:base≤w.heap.size)
 (h:∀bq c' w',w'.ownsRow base e size (.slice bq (n+m) c') (n+m) (xs++news)→w.grownBy w' (Value.slice ad n c).ownBlock→((Value.slice bq (n+m) c').ownBlock=(Value.slice ad n c).ownBlock∨(Value.slice bq (n+m) c').ownBlock=some w.heap.size)→wpList P ops Q rest (a.put o.dst (.slice bq (n+m) c')) w'):
 wpList P ops Q (o::rest) a w:=by
 obtain ⟨i,hi,hz,cQ,gU⟩:=info_parts j8;cases iR with
 |some a2=>
  refine wpList_append_own_at w kT s x t ho base e i z size bytes ht hi hz cQ gU gp bm _ n xs hs aV a2 m c2 news hx bG.1 ?_ h1 h63 eQ iS ?_
  ·intro j u hu;have hj:j<m*size:=by rw [←bG.1];exact (List.getElem?_eq_some_iff.1 hu).1
   obtain ⟨b,o',FR,hc⟩:=bG.2 (by omega);obtain rfl:=Option.some.inj FR;rw [Addr.add_lit,hc j hj];exact hu
  ·intro v' w' Tz hg _ bJ;obtain ⟨bq,c',rfl⟩:=bF Tz;exact h bq c' w' Tz hg bJ
 |none=>
  have hm:m=0:=by
   by_cases hm:m=0
   ·exact hm
   ·have:m*size≠0:=Nat.mul_ne_zero hm (by omega);obtain ⟨_,_,h',_⟩:=bG.2 this;cases h'
  subst hm;have dh:news= []:=List.eq_nil_of_length_eq_zero (by simpa using bG.1);subst dh;have b_:c2=0:=gG rfl;subst b_;refine wpList_append_own_none kT s x t ho base e i size ht hi _ n xs hs aV hx ?_;have:=h ad c w (by simpa using aV) (World.grownBy.refl _ _) (.inl (by cases ad<;>rfl))
  simpa using this
theorem j9{P:Program}{w:World}{ops:Array Oper}{rest:List Oper}{o:Oper}{a:Act}{Q:Exit→Act→World→Prop}(kT:o.guard=none)(s x:Operand)(t:TypeId)
 (ho:o.op= .call {callee:= .builtin .append,args:=#[s,x],argTypes:=#[t,t]})
 (base:Nat) (e:TypeId) (z:Value) (size bytes:Nat) (ht:P.underlying t=some (.slice e)) (j8:(P.info? e).map (fun i=>(i.zero,i.size,i.bytes))=some (some z,size,bytes)) (gp:z.cells.size=size) (bm:0<size)
 (ad:Option Addr) (n c:Nat) (xs:List Value) (hs:a.eval s= .slice ad n c) (aV:w.ownsRow base e size (.slice ad n c) n xs)
 (iR:Option Addr) (m c2:Nat) (news:List Value) (hx:a.eval x= .slice iR m c2) (bG:Rd w size iR m news) (h1:∀u∈news,u.oneCell'=true)
 (gG:iR=none→c2=0)
 (h63:n+m≤maxLen) (eQ:(n+m) *bytes≤140737488355328) (iS:base≤w.heap.size)
 (h:∀bq c' w',w'.ownsRow base e size (.slice bq (n+m) c') (n+m) (xs++news)→w.grownBy w' (Value.slice ad n c).ownBlock→wpList P ops Q rest (a.put o.dst (.slice bq (n+m) c')) w'):
 wpList P ops Q (o::rest) a w:=
 gj kT s x t ho base e z size bytes ht j8 gp bm ad n c xs hs aV iR m c2 news hx bG h1 gG h63 eQ iS fun bq c' w' h2 h3 _=>h bq c' w' h2 h3
def Bs(w:World)(v:Value)(l:List UInt8):Prop:=
 ∃ad c,v= .slice ad l.length c∧Rd w 1 ad l.length (bv l)∧l.length≤c∧c≤9223372036854775807∧(ad=none→c=0)
theorem Bs.below{w w':World}{v:Value}{l:List UInt8}(h:Bs w v l)(hb:Below w w w'):Bs w' v l:=by
 obtain ⟨ad,c,rfl,hr,h1,h2,h3⟩:=h;exact ⟨ad,c,rfl,hr.below hb,h1,h2,h3⟩
def vT(w:World)(v:Value)(ls:List (List UInt8)):Prop:=
 ∃ad c,∃vs:List Value,v= .slice ad ls.length c∧Rd w 1 ad ls.length vs∧ls.length≤c∧c≤9223372036854775807∧(ad=none→c=0)∧
  ∀(i:Nat)(h:i<ls.length),∃v',vs[i]? =some v'∧Bs w v' ls[i]
theorem TA{P:Prop}(h:P:=by
 refine ⟨by have:=h.1;rw [List.length_take];omega,fun h0=> ?_⟩;obtain ⟨b,o,e,hc⟩:=h.2 (by omega);refine ⟨b,o,e,fun j hj=> ?_⟩;rw [hc j (by omega),List.getElem?_take,if_pos (by omega)]):P:=h
theorem acj{w:World}{n m:Nat}{ad:Option Addr}{cs:List Value}(h:Rd w 1 ad n cs)(hm:m≤n):Rd w 1 ad m (cs.take m):=by
 exact TA
theorem B6{w:World}{base e size n c:Nat}{ad:Option Addr}{cs:List Value}(h:w.ownsRow base e size (.slice ad n c) n cs):ad=none→c=0:=by
 rintro rfl;rcases h.2 with ⟨hv,h0⟩|⟨g,cap,cur,hv,_⟩
 ·simp only [Value.slice.injEq] at hv;exact hv.2.2
 ·simp at hv
theorem eD{w:World}{base e c n:Nat}{ad:Option Addr}{l:List UInt8}(h:w.ownsRow base e 1 (.slice ad n c) n (bv l)):n=l.length∧Bs w (.slice ad l.length c) l:=by
 have hn:n=l.length:=by have:=h.1;simpa using this.symm
 subst hn;have:=rp h;unfold maxLen at this;exact ⟨rfl,ad,c,rfl,qG h,this.1,by omega,B6 h⟩
theorem Bs.cut{w:World}{ad:Option Addr}{n c k:Nat}{l:List UInt8}(h:Bs w (.slice ad n c) l)(hk:k≤l.length):Bs w (.slice ad k c) (l.take k):=by
 obtain ⟨bq,c',e,hr,h1,h2,h3⟩:=h;simp only [Value.slice.injEq] at e;obtain ⟨rfl,rfl,rfl⟩:=e;have hl:(l.take k).length=k:=by rw [List.length_take];omega
 refine ⟨ad,c,by rw [hl],?_,by omega,h2,h3⟩;rw [hl];have:=acj hr hk
 simpa [bv,List.map_take] using this
theorem Bs.parts{w:World}{ad:Option Addr}{n c:Nat}{l:List UInt8}(h:Bs w (.slice ad n c) l):n=l.length∧Rd w 1 ad l.length (bv l)∧l.length≤c∧c≤9223372036854775807∧(ad=none→c=0):=by
 obtain ⟨bq,c',e,hr,h1,h2,h3⟩:=h;simp only [Value.slice.injEq] at e;obtain ⟨rfl,rfl,rfl⟩:=e;exact ⟨rfl,hr,h1,h2,h3⟩
theorem FT{B:Nat}{a w w':World}{row:Option Nat}(h:Below B a w)(hg:w.grownBy w' row)(hB:B≤w.heap.size)(hr:∀k,row=some k→B≤k):Below B a w':=h.grown hg hB hr
theorem bC{B:Nat}{a w w':World}{e size n:Nat}{v:Value}{cs:List Value}(h:Below B a w)(hg:w.grownBy w' v.ownBlock)(hB:B≤w.heap.size)(aV:w.ownsRow B e size v n cs):Below B a w':=
 h.grown hg hB (fun k hk=>(aV.lt k hk).1)
abbrev str(l:List UInt8):ByteArray:=⟨l.toArray⟩
theorem ru{P:Program}{w:World}{src e dst:TypeId}(hs:P.underlying src=some (.slice e))(he:P.underlying e=some (.int .u8))(hd:P.underlying dst=some .string)
 {v:Value} {l:List UInt8} (h:Bs w v l):(convert src dst v).run P w= .ok (.string (str l)) w:=by
 obtain ⟨ad,c,rfl,hr,h1,h2,h3⟩:=h;have hx:strOfNums (l.map fun b=>(b.toNat:Int))=str l:=by
  simp only [strOfNums,str]
  congr 1
  congr 1
  rw [List.map_map]
  conv=>rhs;rw [←List.map_id l]
  exact List.map_congr_left fun b _=>by simp
 by_cases hl:l= []
 ·subst hl;cases ad with
  |none=>exact run_convert_bytes_nil w src e hs he 0 c dst hd
  |some a=>
   rw [run_convert_bytes_string w src dst e _ _ c hs he hd];exact run_bytesToString w a 0 c [] (by simp [loadCells,loadCellsFrom])
 ·have sq:0<l.length:=List.length_pos_iff.2 hl;obtain ⟨b,o,rfl,hc⟩:=hr.AA sq;rw [run_convert_bytes_arg w src e hs he b o l.length c (l.map fun b=>(b.toNat:Int)) (by simp) (fun i hi=>by rw [hc i hi];simp [List.getD,hi]) dst hd,hx]
theorem cO(w:World)(cs:Array Value)(e size n:Nat)(h:cs.size=n*size):Rd (w.alloc (.cells cs e)) size (some ⟨w,0,none⟩) n cs.toList:=by
 refine ⟨by simpa using h,fun _=>⟨_,_,rfl,fun j hj=> ?_⟩⟩;rw [zero_add];have:=af (w.alloc (.cells cs e)) w.heap.size j cs e (0,0) (heap_alloc_new w _);rw [this];simp
theorem FU{w:World}{size n:Nat}{ad:Option Addr}{cs:List Value}(h:Rd w size ad n cs)(o:Obj):Rd (w.alloc o) size ad n cs:=
 h.below ((Below.refl _ _).alloc (Nat.le_refl _) o)
theorem et{w:World}{base e size n c:Nat}{ad:Option Addr}{cs:List Value}(h:w.ownsRow base e size (.slice ad n c) n cs)(hn:0<n):∃g,ad=some ⟨g,0,none⟩:=by
 rcases h.2 with ⟨hv,h0⟩|⟨g,cap,cur,hv,_⟩
 ·omega
 ·simp only [Value.slice.injEq] at hv;exact ⟨g,hv.1⟩
def b8(x:Int):UInt8:=UInt8.ofNat (x % 256).toNat
theorem uE(x:Int):((b8 x).toNat:Int)=x % 256:=by
 have h1:0≤x % 256:=Int.emod_nonneg _ (by omega);have h2:x % 256<256:=Int.emod_lt_of_pos _ (by omega);unfold b8;rw [UInt8.toNat_ofNat',Nat.mod_eq_of_lt (by omega)]
 omega
theorem TB{w:World}{base e g n c:Nat}{m:List UInt8}(h:w.ownsRow base e 1 (.slice (some ⟨g,0,none⟩) n c) n (bv m))(k:Nat)(b:UInt8):
 (w.setCell ⟨g,k,none⟩ (.int .u8 (b.toNat:Int))).ownsRow base e 1 (.slice (some ⟨g,0,none⟩) n c) n (bv (m.set k b))∧w.grownBy (w.setCell ⟨g,k,none⟩ (.int .u8 (b.toNat:Int))) (some g):=by
 have:=h.stored k (.int .u8 (b.toNat:Int));refine ⟨?_,this.2⟩;have e:bv (m.set k b)=(bv m).set k (.int .u8 (b.toNat:Int)):=by simp [bv,List.map_set]
 rw [e];exact this.1
theorem TC{w:World}{base e g n c:Nat}{m:List UInt8}(h:w.ownsRow base e 1 (.slice (some ⟨g,0,none⟩) n c) n (bv m))(k:Nat)(hk:k<m.length):
 w.cell? ⟨g,k,none⟩=some (.int .u8 (m[k].toNat:Int)):=by
 have hn:n=m.length:=by have:=h.1;simpa using this.symm
 rw [h.cellAt k (by omega),FQ m k hk]
theorem bO{a b c:World}{row:Option Nat}(h:a.grownBy b row)(k:b.grownBy c row):a.grownBy c row:=
 ⟨k.os.trans h.os,k.tape.trans h.tape,k.output.trans h.output,Nat.le_trans h.size k.size,fun i hi bh=>(k.block i (Nat.lt_of_lt_of_le hi h.size) bh).trans (h.block i hi bh)⟩
theorem ry{B:Nat}{w w':World}{row:Option Nat}(hg:w.grownBy w' row)(hB:B≤w.heap.size)(hr:∀k,row=some k→B≤k):Below B w w':=(Below.refl B w).grown hg hB hr
theorem ack(v:Value)(n:Nat):(madeCells #[v] n).toList=List.replicate n v:=by
 apply List.ext_getElem
 ·simp [madeCells]
 ·intro i h1 h2;simp [madeCells,Nat.mod_one]
theorem acm(n:Nat)(b:UInt8):bv (List.replicate n b)=List.replicate n (Value.int .u8 (b.toNat:Int)):=by simp [bv]
theorem nQ(k:IntKind)(x:Int):∀u∈(#[Value.int k x]:Array Value).toList,u.oneCell'=true:=by
 intro u hu;simp at hu;subst hu
 rfl
theorem Nz{w:World}{base e n:Nat}{v:Value}{l:List UInt8}{x:Int}(b:UInt8)(hx:x=(b.toNat:Int))(h:w.ownsRow base e 1 v n (bv l++#[Value.int .u8 x].toList)):w.ownsRow base e 1 v n (bv (l++ [b])):=by
 rw [oK,aci,←hx];exact h
theorem aD{B C:Nat}{w w1 w2:World}(h:Below B w w1)(h2:Below C w1 w2)(hB:B≤C):Below B w w2:=
 h.trans (h2.mono hB)
theorem AB{w:World}{e:Nat}(vs:List Value)(ls:List (List UInt8))(hl:vs.length=ls.length)(hm:ls.length≤9223372036854775807)
 (h:∀(i:Nat)(hi:i<ls.length),∃v',vs[i]? =some v'∧Bs w v' ls[i]):vT (w.alloc (.cells vs.toArray e)) (.slice (some ⟨w,0,none⟩) ls.length ls.length) ls:=by
 refine ⟨_,_,vs,rfl,?_,Nat.le_refl _,hm,(fun h=>by cases h),fun i hi=> ?_⟩
 ·have:=cO w vs.toArray e 1 ls.length (by simp [hl])
  simpa using this
 ·obtain ⟨v',e',hv⟩:=h i hi;exact ⟨v',e',hv.below ((Below.refl _ _).alloc (Nat.le_refl _) _)⟩
theorem acn{w:World}{e:Nat}{v:Value}{l:List UInt8}(h:Bs w v l):vT (w.alloc (.cells #[v] e)) (.slice (some ⟨w,0,none⟩) 1 1) [l]:=
 AB [v] [l] rfl (by simp) fun i hi=>by
  match i,hi with
  |0,_=>exact ⟨v,rfl,h⟩
theorem aco{w:World}{e:Nat}{v u:Value}{l m:List UInt8}(h:Bs w v l)(k:Bs w u m):vT (w.alloc (.cells #[v,u] e)) (.slice (some ⟨w,0,none⟩) 2 2) [l,m]:=
 AB [v,u] [l,m] rfl (by simp) fun i hi=>by
  match i,hi with
  |0,_=>exact ⟨v,rfl,h⟩
  |1,_=>exact ⟨u,rfl,k⟩
theorem Bs.piece{w:World}{ad:Option Addr}{n c lo hi:Nat}{l:List UInt8}(h:Bs w (.slice ad n c) l)(h1:lo≤hi)(h2:hi≤l.length):
 Bs w (.slice (if c=lo then ad else ad.map (·.add lo)) (hi - lo) (c - lo)) ((l.take hi).drop lo):=by
 obtain ⟨rfl,hr,hc,hm,gG⟩:=h.parts;have hl:((l.take hi).drop lo).length=hi - lo:=by rw [List.length_drop,List.length_take];omega
 refine ⟨_,_,by rw [hl],?_,by omega,by omega,?_⟩
 ·rw [hl];refine ⟨by rw [Ef,hl,Nat.mul_one],fun bh=> ?_⟩;obtain ⟨b,o,rfl,aW⟩:=hr.AA (by omega);rw [if_neg (by omega)];refine ⟨b,o+lo,by rw [Option.map_some,Addr.add_lit],fun j hj=> ?_⟩;have eE:lo+j<l.length:=by omega
  rw [Nat.add_assoc,aW (lo+j) eE,FQ _ j (by omega)];simp
 ·intro hn
  split at hn
  ·have:=gG hn;omega
  ·have:=gG (by simpa using hn);omega
theorem TD(w:World)(e:Nat)(s:ByteArray):Below w w (Lib.bytesWorld w e s):=
 ⟨rfl,rfl,rfl,by rw [Lib.bytesWorld_size];omega,fun k hk=>Lib.bytesWorld_at_old w e s k hk⟩
theorem TE(w:World)(e:Nat)(l:List UInt8)(h:l.length≤9223372036854775807):Bs (Lib.bytesWorld w e (str l)) (.slice (some ⟨w,0,none⟩) l.length (grownCap w l.length 0 e)) l:=by
 have hc:=grownCap_le_maxLen w l.length 0 e (by unfold maxLen;omega);unfold maxLen at hc;refine ⟨_,_,rfl,⟨by simp,fun hn=>⟨_,_,rfl,fun j hj=> ?_⟩⟩,grownCap_ge _ _ _ _,by omega,fun h=>by cases h⟩;rw [zero_add,FQ l j (by omega)];have:=Lib.bytesWorld_cell w e (str l) j (by show j<l.length;omega);rw [this];simp [List.getD,show j<l.length by omega]
theorem acp{w:World}{e:Nat}(vs:Array Value)(l:List UInt8)(hl:vs.toList=bv l)(hm:l.length≤9223372036854775807):Bs (w.alloc (.cells vs e)) (.slice (some ⟨w,0,none⟩) l.length l.length) l:=by
 refine ⟨_,_,rfl,?_,Nat.le_refl _,hm,fun h=>by cases h⟩;have hs:vs.size=l.length:=by rw [←Array.length_toList,hl,Ef]
 have:=cO w vs e 1 l.length (by omega);rw [hl] at this;exact this
theorem JD(a:Option Addr)(n c:Nat):∀u∈(#[Value.slice a n c]:Array Value).toList,u.oneCell'=true:=by
 intro u hu;simp at hu;subst hu
 rfl
theorem NC{w:World}{b1 b2 e1 e2 s1 s2 n1 n2 c1 c2 g1:Nat}{a2:Option Addr}{x1 x2:List Value}(h1:w.ownsRow b1 e1 s1 (.slice (some ⟨g1,0,none⟩) n1 c1) n1 x1)(h2:w.ownsRow b2 e2 s2 (.slice a2 n2 c2) n2 x2)(he:e1≠e2):
 ∀k,(Value.slice a2 n2 c2).ownBlock=some k→g1≠k:=by
 rintro k hk rfl;rcases h1.2 with ⟨hv,_⟩|⟨g,cap,cur,hv,_,hg,_⟩
 ·simp at hv
 ·simp only [Value.slice.injEq,Option.some.injEq,Addr.mk.injEq,and_true,true_and] at hv;obtain ⟨rfl,rfl⟩:=hv;rcases h2.2 with ⟨zd,_⟩|⟨g',cap',AD,zd,_,jL,_⟩
  ·rw [zd] at hk;simp [Value.ownBlock] at hk
  ·rw [zd] at hk;simp only [Value.ownBlock,Option.some.injEq] at hk;subst hk;rw [hg] at jL;simp only [Option.some.injEq,Obj.cells.injEq] at jL;exact he jL.2.1
theorem cY{w w':World}{row:Option Nat}{base e size n:Nat}{v:Value}{xs:List Value}(h:w.ownsRow base e size v n xs)(hg:w.grownBy w' row)(bh:∀k,v.ownBlock=some k→some k≠row):w'.ownsRow base e size v n xs:=by
 refine h.kept hg ?_;cases hv:v.ownBlock with
 |none=>exact .inl rfl
 |some k=>exact .inr (bh k hv)
theorem Bs.drew{w:World}{v:Value}{l:List UInt8}(h:Bs w v l):Bs w.drew v l:=h.below (Below.refl _ _).drew
def fR(v u:Value):Prop:=∀k,v.ownBlock=some k→u.ownBlock≠some k
def eF(te:Nat)(w w':World):Prop:=∀base v n xs,w.ownsRow base te 1 v n xs→w'.ownsRow base te 1 v n xs
theorem eF.trans{te:Nat}{a b c:World}(h:eF te a b)(k:eF te b c):eF te a c:=fun _ _ _ _ ho=>k _ _ _ _ (h _ _ _ _ ho)
theorem eF.below{te:Nat}{w w':World}(hb:Below w w w'):eF te w w':=fun _ _ _ _ h=>aK h hb
theorem eF.grown{te B e n c:Nat}{ad:Option Addr}{xs:List Value}{w w':World}(ho:w.ownsRow B e 1 (.slice ad n c) n xs)(hg:w.grownBy w' (Value.slice ad n c).ownBlock)(he:te≠e):eF te w w':=by
 intro base v m ys hy;refine cY hy hg fun k hk hc=> ?_;rcases hy.2 with ⟨rfl,rfl⟩|⟨g,cap,cur,rfl,_⟩
 ·simp [Value.ownBlock] at hk
 ·simp only [Value.ownBlock,Option.some.injEq] at hk;subst hk;exact NC hy ho he g hc.symm rfl
theorem dU{w:World}{base e size n K t:Nat}{fr:Nat×Nat}{cs:Array Value}{v:Value}{xs:List Value}(hK:w.heap[K]? =some (.cells cs t fr))(h:w.ownsRow base e size v n xs)(ht:t≠e):v.ownBlock≠some K:=by
 intro hc;rcases h.2 with ⟨rfl,_⟩|⟨g,cap,cur,rfl,_,hg,_⟩
 ·simp [Value.ownBlock] at hc
 ·simp only [Value.ownBlock,Option.some.injEq] at hc;subst hc;rw [hK] at hg;simp only [Option.some.injEq,Obj.cells.injEq] at hg;exact ht hg.2.1
theorem eG{w w':World}{row:Option Nat}{K:Nat}{o:Obj}(hg:w.grownBy w' row)(h:w.heap[K]? =some o)(bh:row≠some K):w'.heap[K]? =some o:=by
 rw [hg.block K (Array.getElem?_eq_some_iff.1 h).1 (fun e=>bh e.symm)];exact h
theorem bL(w:World)(a:Addr)(v:Value):w.grownBy (w.setCell a v) (some a.block):=
 ⟨rfl,rfl,rfl,by simp,fun k _ hk=>heap_setCell_other w a k v (fun e=>hk (by rw [e]))⟩
theorem aB{w:World}{K:Nat}{cs:Array Value}{t:Nat}(h:w.heap[K]? =some (.cells cs t (0,0)))(i:Nat):w.frozen? ⟨K,i,none⟩=false:=frozen_of_row w K i cs t h
theorem gq{w:World}{K:Nat}{o o':Obj}(h:w.heap[K]? =some o):(w.alloc o').heap[K]? =some o:=by
 rw [Below.heap_alloc w o' K (Array.getElem?_eq_some_iff.1 h).1];exact h
theorem eF.tq{te K t i:Nat}{cs:Array Value}{v:Value}{w:World}(hK:w.heap[K]? =some (.cells cs t (0,0)))(ht:t≠te):eF te w (w.setCell ⟨K,i,none⟩ v):=by
 intro base u n xs hu;exact ownsRow_setCell_other hu (dU hK hu ht) v
inductive Zt|a|b
def lT:Zt:=Zt.a
instance apk:CoeDep Zt (lT) (Array Value):=⟨#[.int .i64 0,.int .i64 0,.string ⟨#[]⟩,.slice none 0 0,.int .i64 0,.bool false,.string ⟨#[]⟩,.int .i64 0,.slice none 0 0,.int .i64 0,.int .i64 0,.int .i64 0,.int .i64 0,.bool false,.slice none 0 0,.string ⟨#[]⟩]⟩
instance apl:CoeDep Zt (lT) (List Value):=⟨[.int .i64 0,.int .i64 0,.string ⟨#[]⟩,.slice none 0 0,.int .i64 0,.bool false,.string ⟨#[]⟩,.int .i64 0,.slice none 0 0,.int .i64 0,.int .i64 0,.int .i64 0,.int .i64 0,.bool false,.slice none 0 0,.string ⟨#[]⟩]⟩
def a_:Zt:=Zt.a
instance apm:CoeDep Zt (a_) (Array Value):=⟨#[.string ⟨#[]⟩,.slice none 0 0,.int .i64 0,.bool false,.string ⟨#[]⟩,.int .i64 0,.slice none 0 0,.int .i64 0,.int .i64 0,.int .i64 0,.int .i64 0,.bool false,.slice none 0 0,.string ⟨#[]⟩]⟩
instance apn:CoeDep Zt (a_) (List Value):=⟨[.string ⟨#[]⟩,.slice none 0 0,.int .i64 0,.bool false,.string ⟨#[]⟩,.int .i64 0,.slice none 0 0,.int .i64 0,.int .i64 0,.int .i64 0,.int .i64 0,.bool false,.slice none 0 0,.string ⟨#[]⟩]⟩
def fW:Zt:=Zt.a
instance apo:CoeDep Zt (fW) (Array Value):=⟨#[.string ⟨#[]⟩,.slice none 0 0,.int .i64 0,.bool false,.string ⟨#[]⟩,.int .i64 0,.slice none 0 0,.int .i64 0,.int .i64 0,.int .i64 0]⟩
instance apq:CoeDep Zt (fW) (List Value):=⟨[.string ⟨#[]⟩,.slice none 0 0,.int .i64 0,.bool false,.string ⟨#[]⟩,.int .i64 0,.slice none 0 0,.int .i64 0,.int .i64 0,.int .i64 0]⟩
def hZ:Zt:=Zt.a
instance apr:CoeDep Zt (hZ) (Array Value):=⟨#[.int .i64 0,.int .i64 0,.string ⟨#[]⟩,.string ⟨#[]⟩,.slice none 0 0]⟩
instance aps:CoeDep Zt (hZ) (List Value):=⟨[.int .i64 0,.int .i64 0,.string ⟨#[]⟩,.string ⟨#[]⟩,.slice none 0 0]⟩
def fX:Zt:=Zt.a
instance apt:CoeDep Zt (fX) (Array Value):=⟨#[.string ⟨#[]⟩,.int .i64 0,.bool false,.bool false,.int .i64 0,.int .i64 0]⟩
instance apu:CoeDep Zt (fX) (List Value):=⟨[.string ⟨#[]⟩,.int .i64 0,.bool false,.bool false,.int .i64 0,.int .i64 0]⟩
def eY(_:Int):Zt:=Zt.a
instance apv{i:Int}:CoeDep Zt (eY i) (Array Value):=⟨#[.int .i64 i,.int .i64 0,.string ⟨#[]⟩,.string ⟨#[]⟩,.slice none 0 0]⟩
instance apw{i:Int}:CoeDep Zt (eY i) (List Value):=⟨[.int .i64 i,.int .i64 0,.string ⟨#[]⟩,.string ⟨#[]⟩,.slice none 0 0]⟩
def su(_:Int)(_:Int):Zt:=Zt.a
instance apx{i:Int}{j:Int}:CoeDep Zt (su i j) (Array Value):=⟨#[.int .i64 i,.int .i64 j,.string ⟨#[]⟩,.string ⟨#[]⟩,.slice none 0 0]⟩
instance apy{i:Int}{j:Int}:CoeDep Zt (su i j) (List Value):=⟨[.int .i64 i,.int .i64 j,.string ⟨#[]⟩,.string ⟨#[]⟩,.slice none 0 0]⟩
def B7(_:Int)(_:List UInt8):Zt:=Zt.a
instance apz{i:Int}{s:List UInt8}:CoeDep Zt (B7 i s) (Array Value):=⟨#[.int .i64 i,.int .i64 0,.string (str s),.string ⟨#[]⟩,.slice none 0 0]⟩
instance apA{i:Int}{s:List UInt8}:CoeDep Zt (B7 i s) (List Value):=⟨[.int .i64 i,.int .i64 0,.string (str s),.string ⟨#[]⟩,.slice none 0 0]⟩
def Eg(_:Int)(_:Option Addr)(_:List UInt8)(_:Nat):Zt:=Zt.a
instance apB{i:Int}{a:Option Addr}{l:List UInt8}{c:Nat}:CoeDep Zt (Eg i a l c) (Array Value):=⟨#[.int .i64 i,.int .i64 0,.string ⟨#[]⟩,.string ⟨#[]⟩,.slice a l.length c]⟩
instance apC{i:Int}{a:Option Addr}{l:List UInt8}{c:Nat}:CoeDep Zt (Eg i a l c) (List Value):=⟨[.int .i64 i,.int .i64 0,.string ⟨#[]⟩,.string ⟨#[]⟩,.slice a l.length c]⟩
def Eh(_:Int)(_:List UInt8)(_:List UInt8):Zt:=Zt.a
instance apD{i:Int}{s:List UInt8}{t:List UInt8}:CoeDep Zt (Eh i s t) (Array Value):=⟨#[.int .i64 i,.int .i64 0,.string (str s),.string (str t),.slice none 0 0]⟩
instance apE{i:Int}{s:List UInt8}{t:List UInt8}:CoeDep Zt (Eh i s t) (List Value):=⟨[.int .i64 i,.int .i64 0,.string (str s),.string (str t),.slice none 0 0]⟩
def ze(_:Int)(_:Int)(_:List UInt8)(_:List UInt8)(_:Option Addr)(_:List UInt8)(_:Nat):Zt:=Zt.a
instance apF{i:Int}{n:Int}{s:List UInt8}{t:List UInt8}{a:Option Addr}{l:List UInt8}{c:Nat}:CoeDep Zt (ze i n s t a l c) (Array Value):=⟨#[.int .i64 i,.int .i64 n,.string (str s),.string (str t),.slice a l.length c]⟩
instance apG{i:Int}{n:Int}{s:List UInt8}{t:List UInt8}{a:Option Addr}{l:List UInt8}{c:Nat}:CoeDep Zt (ze i n s t a l c) (List Value):=⟨[.int .i64 i,.int .i64 n,.string (str s),.string (str t),.slice a l.length c]⟩
def sw(_:Option Addr)(_:Nat)(_:Option Addr)(_:Nat)(_:Option Addr)(_:Nat)(_:Option Addr)(_:Nat)(_:Option Addr)(_:Nat)(_:Option Addr)(_:Nat)(_:Option Addr)(_:Nat)(_:Option Addr)(_:Nat)(_:List UInt8)(_:List UInt8)(_:List UInt8)(_:List UInt8)(_:List UInt8)(_:List UInt8)(_:List UInt8)(_:List Int)(_:Int)(_:Int)(_:Int)(_:Int)(_:Bool)(_:Bool)(_:Int)(_:Int):Zt:=Zt.a
instance apH{a0:Option Addr}{a1:Nat}{a2:Option Addr}{a3:Nat}{a4:Option Addr}{a5:Nat}{a6:Option Addr}{a7:Nat}{a8:Option Addr}{a9:Nat}{mX:Option Addr}{mY:Nat}{a12:Option Addr}{mZ:Nat}{m4:Option Addr}{m6:Nat}{s0:List UInt8}{s1:List UInt8}{s2:List UInt8}{s3:List UInt8}{s4:List UInt8}{s5:List UInt8}{s6:List UInt8}{ii:List Int}{n0:Int}{n1:Int}{n2:Int}{n3:Int}{r:Bool}{k:Bool}{o:Int}{nn:Int}:CoeDep Zt (sw a0 a1 a2 a3 a4 a5 a6 a7 a8 a9 mX mY a12 mZ m4 m6 s0 s1 s2 s3 s4 s5 s6 ii n0 n1 n2 n3 r k o nn) (Array Value):=⟨#[.slice a0 s0.length a1,.slice a2 s1.length a3,.slice a4 s2.length a5,.slice a6 s3.length a7,.int .i64 n0,.int .i64 n1,.bool r,.bool k,.int .i64 n2,.int .i64 n3,.slice a8 s4.length a9,.slice mX s5.length mY,.slice a12 s6.length mZ,.slice m4 ii.length m6,.int .i64 o,.int .i64 nn]⟩
instance apI{a0:Option Addr}{a1:Nat}{a2:Option Addr}{a3:Nat}{a4:Option Addr}{a5:Nat}{a6:Option Addr}{a7:Nat}{a8:Option Addr}{a9:Nat}{mX:Option Addr}{mY:Nat}{a12:Option Addr}{mZ:Nat}{m4:Option Addr}{m6:Nat}{s0:List UInt8}{s1:List UInt8}{s2:List UInt8}{s3:List UInt8}{s4:List UInt8}{s5:List UInt8}{s6:List UInt8}{ii:List Int}{n0:Int}{n1:Int}{n2:Int}{n3:Int}{r:Bool}{k:Bool}{o:Int}{nn:Int}:CoeDep Zt (sw a0 a1 a2 a3 a4 a5 a6 a7 a8 a9 mX mY a12 mZ m4 m6 s0 s1 s2 s3 s4 s5 s6 ii n0 n1 n2 n3 r k o nn) (List Value):=⟨[.slice a0 s0.length a1,.slice a2 s1.length a3,.slice a4 s2.length a5,.slice a6 s3.length a7,.int .i64 n0,.int .i64 n1,.bool r,.bool k,.int .i64 n2,.int .i64 n3,.slice a8 s4.length a9,.slice mX s5.length mY,.slice a12 s6.length mZ,.slice m4 ii.length m6,.int .i64 o,.int .i64 nn]⟩
theorem c5{x:World}{K t:Nat}{a b c d e:Value}(h:x.heap[K]? =some (.cells #[a,b,c,d,e] t (0,0))):x.cell? ⟨K,0,none⟩=some a∧x.cell? ⟨K,1,none⟩=some b∧x.cell? ⟨K,2,none⟩=some c∧x.cell? ⟨K,3,none⟩=some d∧x.cell? ⟨K,4,none⟩=some e∧x.frozen? ⟨K,0,none⟩=false∧x.frozen? ⟨K,1,none⟩=false∧x.frozen? ⟨K,2,none⟩=false∧x.frozen? ⟨K,3,none⟩=false∧x.frozen? ⟨K,4,none⟩=false:=
 ⟨af _ K 0 _ _ _ h,af _ K 1 _ _ _ h,af _ K 2 _ _ _ h,af _ K 3 _ _ _ h,af _ K 4 _ _ _ h,aB h 0,aB h 1,aB h 2,aB h 3,aB h 4⟩
theorem ND{P:Prop}(h:P:=by
 unfold Oper.wp execOp;simp only [ho,resolve,invoke,builtin,Sem.run_bind,Sem.run_pure,Result.andThen_ok,List.map_toArray,List.map_cons,List.map_nil,hs,hx,hr];exact h bq c' w' h2 h3):P:=h
open List (mem_cons_of_mem mem_cons_self)
variable{held:Bool}{base B8:Nat}{v:Value}{W:World}
open Go.ChangeShapes Go.WideShapes Go.ChangeAt
theorem TF(s:ByteArray):∃l:List UInt8,s=str l∧l.length=s.size:=⟨s.data.toList,by apply ByteArray.ext;simp,rfl⟩
theorem TG{H:Type}{enc:TypeId×Value→H}{P:Program}(hl:laidOutB P=true){W':World}(hb:Below W W W'):
 ∀(ts:List TypeId)(vs:List Value) (ds:List (DataW H)) (ps:List MemPlace),(∀t∈ts,P.readableRec t=true∧t<P.types.size)→
  DataW.TrodAll enc P W 0 (fun _=>true) true ts vs ds ps→(∀x∈ps,x.block<W.heap.size)→DataW.TrodAll enc P W' 0 (fun b=>decide (b<W.heap.size)) true ts vs ds ps
 |[],[],[],_,_,h,_=>h
 |t::ts,v::vs,d::ds,ps,ht,h,ao=>by
  obtain ⟨p,q,h1,h2,rfl⟩:=h;refine ⟨p,q,?_,TG hl hb ts vs ds q (fun t' h'=>ht t' (mem_cons_of_mem _ h')) h2 (fun x hx=>ao x (List.mem_append_right _ hx)),rfl⟩;have:=ht t mem_cons_self;exact Below.trod hl this.1 this.2 h1 hb (fun x hx=>ao x (List.mem_append_left _ hx))
 |[],_::_,_,_,_,h,_=>by cases h
 |[],[],_::_,_,_,h,_=>by cases h
 |_::_,[],_,_,_,h,_=>by cases h
 |_::_,_::_,[],_,_,h,_=>by cases h
theorem acq(zs:List Int)(h:∀n∈zs,(Lit.int .u8 n).wf=true):∃b:List UInt8,zs=b.map fun x=>(x.toNat:Int):=by
 refine ⟨zs.map fun z=>b8 z,?_⟩;rw [List.map_map]
 conv=>lhs;rw [←List.map_id zs]
 refine List.map_congr_left fun z hz=> ?_;have hw:=h z hz;simp [Lit.wf,IntKind.min,IntKind.max,IntKind.signed,IntKind.bits] at hw;have:=uE z;simp only [id_eq,Function.comp_apply]
 omega
theorem TH{H:Type}(d:DataW H):1≤Rows.uptoBulk d:=by
 cases d with
 |lit l=>cases l<;>simp [Rows.uptoBulk]
 |nil=>simp [Rows.uptoBulk]
 |ptr d=>simp [Rows.uptoBulk]
 |slice Ei spare=>simp [Rows.uptoBulk]
 |agg parts=>simp [Rows.uptoBulk]
 |iface t d=>simp [Rows.uptoBulk]
 |map entries=>simp [Rows.uptoBulk]
 |held h=>simp [Rows.uptoBulk]
theorem acr{H:Type}(l:List (DataW H)):l.length≤Rows.uptoBulkAll l:=by
 induction l with
 |nil=>simp
 |cons x r ih=>
  have:=TH x;simp only [Rows.uptoBulkAll,List.length_cons]
  omega
theorem NF{a:Addr}(h:W.cell? (a.add 0)=some v):a=⟨a.block,a.off,none⟩:=by
 have e0:a.add 0=a:=rfl;rw [e0] at h;cases a with
 |mk bl of sp=>
  cases sp with
  |none=>rfl
  |some s=>simp [World.cell?] at h;split at h<;>simp at h
theorem acs{H:Type}{enc:TypeId×Value→H}{P:Program}{spare:Nat→Bool}{t e:TypeId}{d:DataW H}{p:List MemPlace}(ht:P.underlying t=some (.slice e))(he:P.underlying e=some (.int .u8))(hc:P.cellsOf e=1)
 (hf:DataW.trod enc P W base spare held B8 t [v]=some (d,p)) (ey:∀b,spare b=true):∃b:List UInt8,Bs W v b∧b.length+1≤Rows.uptoBulk d:=by
 rcases open_ints ht he hc hf with ⟨dm,hx⟩|⟨a,len,cap,zs,dm,_,hl,hm,hz,hx,aW,AE⟩
 ·simp only [List.cons.injEq,and_true] at dm;subst dm;exact ⟨[],⟨none,0,rfl,Rd.nil _ _ _,Nat.le_refl _,by omega,fun _=>rfl⟩,by have:=TH d;simpa using this⟩
 ·simp only [List.cons.injEq,and_true] at dm;subst dm;rw [ey] at hz;simp only [if_true] at hz;obtain ⟨b,rfl⟩:=acq zs AE;rw [List.length_map] at hz;unfold maxLen at hm;have aX:(b.take len).length=len:=by rw [List.length_take];omega
  refine ⟨b.take len,⟨some a,cap,by rw [aX],⟨by simp,fun hn=> ?_⟩,by rw [aX];exact hl,by omega,fun h=>by cases h⟩,?_⟩
  ·rw [aX] at hn⊢;have AF:=NF (aW 0 (by rw [List.length_map];omega));refine ⟨a.block,a.off,by rw [←AF],fun j hj=> ?_⟩;have eE:=aW j (by rw [List.length_map];omega);have e1:a.add j=⟨a.block,a.off+j,none⟩:=by
    conv=>lhs;rw [AF]
    rw [Addr.add_lit]
   rw [e1] at eE;rw [eE,FQ _ j (by omega)];simp [List.getD,show j<b.length by omega]
  ·simp only [Prod.mk.injEq] at hx;rw [hx.1,aX];have h2:=acr (lits .u8 ((b.map fun x=>(x.toNat:Int)).take len):List (DataW H));have h3:(lits .u8 ((b.map fun x=>(x.toNat:Int)).take len):List (DataW H)).length=len:=by
    simp only [lits,List.length_map,List.length_take];omega
   simp only [Rows.uptoBulk]
   omega
open Go.Shelf
def Tryz.acu:Go.Shelf.Ren:=⟨fun|196=>154|259=>170|n=>n,fun|9=>9|4=>4|3=>3|5=>5|12=>12|119=>207|0=>0|46=>138|139=>210|138=>209|53=>117|n=>n,fun|3=>0|4=>1|n=>n⟩
theorem Tryz.TI:Go.Proofs.Lays.n196 Tryz.prog Tryz.acu:=
 {mixed:=by kernel_rfl,
  f196:=Tryz.func154.trans (congrArg some (by kernel_rfl)),
  f259:=Tryz.func170.trans (congrArg some (by kernel_rfl)),
  t0:=Tryz.underlying0,
  a0:=Tryz.isAgg0,
  z0:=Tryz.sizeOf0,
  v0:=Tryz.zeroValue0,
  t3:=Tryz.underlying3,
  a3:=Tryz.isAgg3,
  z3:=Tryz.sizeOf3,
  v3:=Tryz.zeroValue3,
  t4:=Tryz.underlying4,
  a4:=Tryz.isAgg4,
  z4:=Tryz.sizeOf4,
  v4:=Tryz.zeroValue4,
  t5:=Tryz.underlying5,
  a5:=Tryz.isAgg5,
  z5:=Tryz.sizeOf5,
  v5:=Tryz.zeroValue5,
  t9:=Tryz.underlying9,
  a9:=Tryz.isAgg9,
  z9:=Tryz.sizeOf9,
  v9:=Tryz.zeroValue9,
  t12:=Tryz.underlying12,
  a12:=Tryz.isAgg12,
  z12:=Tryz.sizeOf12,
  v12:=Tryz.zeroValue12,
  t46:=Tryz.underlying138,
  a46:=Tryz.isAgg138,
  z46:=Tryz.sizeOf138,
  v46:=Tryz.zeroValue138,
  t53:=Tryz.underlying117,
  a53:=Tryz.isAgg117,
  z53:=Tryz.sizeOf117,
  v53:=Tryz.zeroValue117,
  t119:=Tryz.underlying207,
  a119:=Tryz.isAgg207,
  z119:=Tryz.sizeOf207,
  t138:=Tryz.underlying209,
  a138:=Tryz.isAgg209,
  z138:=Tryz.sizeOf209,
  v138:=Tryz.zeroValue209,
  t139:=Tryz.underlying210,
  a139:=Tryz.isAgg210,
  z139:=Tryz.sizeOf210,
  v139:=Tryz.zeroValue210,
  g3:=by kernel_rfl,
  g4:=by kernel_rfl}
open _root_.Go.Proofs.Tryz
variable{w w':World}
def di(w:World):Prop:=Lib.Utf8Tabs 0 1 w
theorem di.below(h:di w)(hb:Below w w w'):di w':=Utf8Tabs_below h hb
theorem acv(l:List UInt8)(w:World)(hl:l.length≤9223372036854775807)(hT:di w)(R:Ending→World→Prop)
 (hR:∀w',Below w w w'→R (.returned (.bool (Lib.validD l))) w'):Calls prog 154 #[.string (str l)] w R:=by
 have h:Calls prog 154 #[.string (str l)] w _:=Any.utf8_ValidString Tryz.TI (str l) w hl hT;refine h.mono fun e w' he=> ?_;obtain ⟨rfl,hb⟩:=he;exact hR w' hb
open Go.Lib
theorem own:ownKnob prog.godebug=none:=by kernel_rfl
noncomputable def laidWorld (os:Os):World:=
 let w0:=World.holding prog os ⟨#[],#[],[]⟩
 let put (h:Array Obj) (g:Nat) (cs:Array Value):Array Obj:=h.modify g fun
  | .cells _ t frozen=> .cells cs t frozen
  |o=>o
 let h1:=put w0.heap 0 (Lib.firstTab.map fun z=>Value.int .u8 z).toArray
 let h2:=put h1 1 ((List.range 16).flatMap fun i=> [Value.int .u8 (Lib.accLo i),Value.int .u8 (Lib.accHi i)]).toArray
 {w0 with heap:=h2}
abbrev JE:List (String×DataW Unit):= [("unicode/utf8.acceptRanges",Rows.laid_unicode_utf8_acceptRanges),("unicode/utf8.first",Rows.laid_unicode_utf8_first)]
theorem acw(os:Os)(args:Array Value):laidMet prog JE ((laidWorld os).forCall (fun _ _=>0) ⟨#[],args,[]⟩).memory:=
 (LaidIn.of_run (l:=JE) [0,1] 8 (by kernel_rfl) (by kernel_rfl) (by kernel_rfl) (by kernel_rfl)).met
theorem acx:(Rows.laid_unicode_utf8_acceptRanges:DataW Unit)=acceptData:=by kernel_rfl
theorem acy:Rows.laid_unicode_utf8_first=firstData:=Pinned.utf8First_eq
theorem acz(hL:laidMet prog JE W):di W:=
 utf8Tabs_of_readsT (U8Types.of196 Tryz.TI) ⟨by kernel_rfl,by kernel_rfl,by kernel_rfl,by kernel_rfl,by kernel_rfl,by kernel_rfl,by kernel_rfl⟩
  (Lib.laidMet.reads hL (.tail _ (by rw [←acy];exact .head _))) (Lib.laidMet.reads hL (by rw [←acx];exact .head _))
theorem Tryz.cJ:(prog.info? 5).map (fun i=>(i.zero,i.size,i.bytes))=some (some (.int .u8 0),1,1):=by kernel_rfl
theorem TJ(v u:Value)(l m:List UInt8)(w:World)(hv:Bs w v l)(hu:Bs w u m)(R:Ending→World→Prop)
 (hR:R (.returned (.bool (l==m))) w):
 Calls prog 22 #[v,u] w R:=by
 have h1:=ru (P:=prog) underlying22 underlying5 underlying9 hv;have h2:=ru (P:=prog) underlying22 underlying5 underlying9 hu;clear hv hu;go_enter func22,ntmps22;go_wp2;exact hR
theorem acA(v:Value)(l:List UInt8)(w:World)(hv:Bs w v l)(hl:l.length≤140737488355328)(R:Ending→World→Prop)
 (hR:∀ad c w',w'.ownsRow w 5 1 (.slice ad l.length c) l.length (bv l)→Below w w w'→R (.returned (.slice ad l.length c)) w'):
 Calls prog 31 #[v] w R:=by
 obtain ⟨ad,c,rfl,hr,h1,h2,h3⟩:=hv;have aV:w.ownsRow w 5 1 (.slice none 0 0) 0 (bv []):=World.ownsRow_nil _ _ _ _;go_enter func31,ntmps31;go_wp2_with (at_builtin;go_must (refine j9 (by rfl) (.tmp 4) (.tmp 5) 22 (by rfl) w 5 (.int .u8 0) 1 1 underlying22 Tryz.cJ rfl (by decide) _ _ _ _ rfl aV _ _ _ _ rfl hr (eX _) h3 (by unfold maxLen;omega) (by omega) (Nat.le_refl _) ?_));intro fY c3 w3 iH cB;have an:=bC (Below.refl _ _) cB (Nat.le_refl _) aV;go_wp2;exact hR _ _ _ iH an
def within(n lo hi:Int):Int:=lo+n % (hi - lo+1)
theorem tu(n lo hi:Int)(h:lo≤hi):lo≤within n lo hi∧within n lo hi≤hi:=by
 unfold within;have h1:=Int.emod_nonneg n (show hi - lo+1≠0 by omega);have h2:=Int.emod_lt_of_pos n (show 0<hi - lo+1 by omega)
 omega
theorem acB(n m:Int)(hm:0<m):n % m=if n.tmod m<0 then n.tmod m+m else n.tmod m:=by
 rw [Int.tmod_eq_emod];have h1:=Int.emod_nonneg n (show m≠0 by omega);have h2:=Int.emod_lt_of_pos n hm;have e:(m.natAbs:Int)=m:=by omega
 split<;>split<;>omega
theorem mv(n lo hi:Int)(w:World)(h0: -1000000000≤lo)(h1:lo≤hi)(h2:hi≤1000000000)(R:Ending→World→Prop)
 (hR:R (.returned (.int .i64 (within n lo hi))) w):
 Calls prog 20 #[.int .i64 n,.int .i64 lo,.int .i64 hi] w R:=by
 have hm:0<hi - lo+1:=by omega
 have hx:=acB n (hi - lo+1) hm;have b1:n.tmod (hi - lo+1)<hi - lo+1:=Int.tmod_lt_of_pos n hm;have b2: -(hi - lo+1)<n.tmod (hi - lo+1):=by
  have q1:=Int.emod_nonneg n (show hi - lo+1≠0 by omega);rw [Int.tmod_eq_emod]
  split<;>omega
 have HX:=ab hx;clear hx;unfold within at hR;rw [HX.o_] at hR;by_cases NG:n.tmod (hi - lo+1)<0
 ·rw [if_pos NG] at hR;go_enter func20,ntmps20;go_wp2;exact hR
 ·rw [if_neg NG] at hR;go_enter func20,ntmps20;go_wp2;exact hR
theorem TK{P:Prop}(h:P:=by
 have ky:tmps[p]?.getD undef= .pointer (some ⟨g,0,none⟩):=by simpa using hp
 have tv:tmps[q]?.getD undef=r:=by simpa using hq
 simp [results,h,ky,tv,asAddr,run_loadVar_row w g t ty cs fr d hg hu hd hi]):P:=h
theorem TL{P:Prop}(h:P:=by
 have ky:tmps[p]?.getD undef= .pointer (some ⟨g,0,none⟩):=by simpa using hp
 have tv:tmps[q]?.getD undef=r:=by simpa using hq
 have AG:tmps[u]?.getD undef=s:=by simpa using uF
 simp [results,h,ky,tv,AG,asAddr,run_loadVar_row w g t ty cs fr d hg hu hd hi]):P:=h
theorem TM{P:Prop}(h:P:=by
 intro base v m ys hy;refine cY hy hg fun k hk hc=> ?_;rcases ho.2 with ⟨hn,_⟩|⟨g,cap,cur,hv,_,JF,_⟩
 ·simp only [Value.slice.injEq] at hn;obtain ⟨rfl,_,_⟩:=hn;simp [Value.ownBlock] at hc
 ·simp only [Value.slice.injEq] at hv;obtain ⟨rfl,_,_⟩:=hv;simp only [Value.ownBlock,Option.some.injEq] at hc;subst hc;exact dU JF hy (fun h=>he h.symm) hk):P:=h
theorem TN{P:Prop}(h:P:=by
 obtain ⟨ad,c,rfl,hr,h1,h2,h3⟩:=hv;cases ad with
 |none=>
  have hc:c=0:=h3 rfl;subst hc;have m7:l= []:=List.eq_nil_of_length_eq_zero (by omega);subst m7;have he:∀w:World,(binOp .eql 22 (.slice none 0 0) (.slice none 0 0)).run prog w= .ok (.bool true) w:=fun _=>rfl;go_enter func139,ntmps139;go_wp2;exact hR _ _ _ (World.ownsRow_nil _ _ _ _) (Below.refl _ _)
 |some a=>
  have he:∀w:World,(binOp .eql 22 (.slice (some a) l.length c) (.slice none 0 0)).run prog w= .ok (.bool false) w:=fun _=>rfl;have aV:=(World.ownsRow_made (base:=w.heap.size) (e:=5) (size:=1) w #[] 0 (Nat.le_refl _) (by unfold maxLen;omega) rfl)
  have gu:=FU hr (.cells #[] 5);go_enter func139,ntmps139;go_wp2_with (at_builtin;go_must (refine j9 (by rfl) (.tmp 5) (.tmp 6) 22 (by rfl) w 5 (.int .u8 0) 1 1 underlying22 Tryz.cJ rfl (by decide) _ _ _ _ rfl aV _ _ _ _ rfl gu (eX _) h3 (by unfold maxLen;omega) (by omega) (by simp) ?_));intro iR c2 w2 ct bM;have ah:=bC ((Below.refl w w).alloc (Nat.le_refl _) _) bM (by simp) aV;clear bM aV gu hr;go_wp2;exact hR _ _ _ ct ah):P:=h
open Bool (and_eq_true)
open List (pairwise_append)
variable{ds xs:List Value}{B B' e g n size te:Nat}{ad:Option Addr}{d v':Value}
structure Pr where
 id:Int
 num:Int
 text:List UInt8
 pair:List UInt8
 data:List UInt8
deriving DecidableEq
def kU:Pr:=⟨0,0,[],[],[]⟩
def AH(p q:Pr):Bool:=p.id==q.id&&(p.num==q.num&&(p.text==q.text&&(p.pair==q.pair&&p.data==q.data)))
theorem JG(p q:Pr):AH p q=true↔p=q:=by
 obtain ⟨a,b,c,d,e⟩:=p;obtain ⟨a',b',c',d',e'⟩:=q;simp only [AH,and_eq_true,beq_iff_eq,Pr.mk.injEq]
def B9(l m:List Pr):Bool:=decide (l=m)
theorem Tryz.xP:(prog.info? 147).map (fun i=>(i.zero,i.size,i.bytes))=some (some (.agg hZ),5,72):=by kernel_rfl
theorem zg(a:Option Addr)(n c:Nat){i j:Int}{s t:ByteArray}:∀u∈ [Value.int .i64 i,Value.int .i64 j,Value.string s,Value.string t,Value.slice a n c],u.oneCell'=true:=by
 intro u hu;simp at hu;rcases hu with rfl|rfl|rfl|rfl|rfl<;>rfl
structure PC(w:World)(d:Value)(p:Pr):Prop where
 hd:Bs w d p.data
 ld:p.data.length≤140737488351232
 lt:p.text.length≤140737488351232
 lp:p.pair.length≤140737488351232
 i0: -9223372036854775808≤p.id
 i1:p.id≤9223372036854775807
 n0: -9223372036854775808≤p.num
 n1:p.num≤9223372036854775807
theorem PC.below{p:Pr}(h:PC w d p)(hb:Below w w w'):PC w' d p:=⟨h.hd.below hb,h.ld,h.lt,h.lp,h.i0,h.i1,h.n0,h.n1⟩
def P5(w:World)(b o:Nat)(d:Value)(p:Pr):Prop:=w.cell? ⟨b,o,none⟩=some (.int .i64 p.id)∧w.cell? ⟨b,o+1,none⟩=some (.int .i64 p.num)∧w.cell? ⟨b,o+2,none⟩=some (.string (str p.text))∧w.cell? ⟨b,o+3,none⟩=some (.string (str p.pair))∧w.cell? ⟨b,o+4,none⟩=some d
theorem P5.below{b o:Nat}{p:Pr}(h:P5 w b o d p)(hb:Below w w w'):P5 w' b o d p:=⟨cell_later hb h.1,cell_later hb h.2.1,cell_later hb h.2.2.1,cell_later hb h.2.2.2.1,cell_later hb h.2.2.2.2⟩
def Ps(w:World)(v:Value)(l:List Pr):Prop:=
 ∃ad c,v= .slice ad l.length c∧l.length≤c∧c≤9223372036854775807∧(ad=none→c=0)∧
  (0<l.length→∃b o,ad=some ⟨b,o,none⟩∧∀(i:Nat)(h:i<l.length),∃d,P5 w b (o+i*5) d l[i]∧PC w d l[i])
theorem Ps.below{l:List Pr}(h:Ps w v l)(hb:Below w w w'):Ps w' v l:=by
 obtain ⟨ad,c,rfl,h1,h2,h3,h4⟩:=h;refine ⟨ad,c,rfl,h1,h2,h3,fun h0=> ?_⟩;obtain ⟨b,o,rfl,h5⟩:=h4 h0;refine ⟨b,o,rfl,fun i hi=> ?_⟩;obtain ⟨d,h6,h7⟩:=h5 i hi;exact ⟨d,h6.below hb,h7.below hb⟩
def Pt(W w:World)(v:Value)(l:List Pr):Prop:=
 ∃ad c,v= .slice ad l.length c∧l.length≤c∧c≤9223372036854775807∧(ad=none→c=0)∧
  (0<l.length→∃b o,ad=some ⟨b,o,none⟩∧∀(i:Nat)(h:i<l.length),∃d,P5 w b (o+i*5) d l[i]∧PC W d l[i])
theorem Ps.pt{l:List Pr}(h:Ps w v l):Pt w w v l:=h
theorem Pt.below{l:List Pr}(h:Pt W w v l)(hb:Below w w w'):Pt W w' v l:=by
 obtain ⟨ad,c,rfl,h1,h2,h3,h4⟩:=h;refine ⟨ad,c,rfl,h1,h2,h3,fun h0=> ?_⟩;obtain ⟨b,o,rfl,h5⟩:=h4 h0;refine ⟨b,o,rfl,fun i hi=> ?_⟩;obtain ⟨d,h6,h7⟩:=h5 i hi;exact ⟨d,h6.below hb,h7⟩
def pc(p:Value×Pr):List Value:= [.int .i64 p.2.id,.int .i64 p.2.num,.string (str p.2.text),.string (str p.2.pair),p.1]
def mw(ds:List Value)(l:List Pr):List Value:=(ds.zip l).flatMap pc
theorem TO{α:Type}(f:α→List Value)(hf:∀x,(f x).length=5):∀(l:List α)(i j:Nat)(hi:i<l.length),j<5→(l.flatMap f)[i*5+j]? =(f l[i])[j]?
 |[],i,j,hi,hj=>by simp at hi
 |x::l,0,j,hi,hj=>by
  rw [List.flatMap_cons,Nat.zero_mul,zero_add,List.getElem?_append_left (by rw [hf];omega)]
  rfl
 |x::l,i+1,j,hi,hj=>by
  rw [List.flatMap_cons,List.getElem?_append_right (by rw [hf];omega),hf,show (i+1) *5+j - 5=i*5+j by omega,TO f hf l i j (by simpa using hi) hj]
  rfl
theorem TQ(ds:List Value)(l:List Pr)(h:ds.length=l.length)(d:Value)(p:Pr):mw (ds++ [d]) (l++ [p])=mw ds l++ [.int .i64 p.id,.int .i64 p.num,.string (str p.text),.string (str p.pair),d]:=by
 unfold mw;rw [List.zip_append h,List.flatMap_append]
 rfl
theorem Ej(ds:List Value)(l:List Pr)(h:ds.length=l.length)(i:Nat)(hi:i<l.length)(j:Nat)(hj:j<5):(mw ds l)[i*5+j]? =(pc (ds[i]'(by omega),l[i]))[j]?:=by
 unfold mw;rw [TO pc (fun _=>rfl) (ds.zip l) i j (by rw [List.length_zip];omega) hj,List.getElem_zip]
def PB(p:Pr):Prop:=p.data.length≤140737488351232∧p.text.length≤140737488351232∧p.pair.length≤140737488351232∧ -9223372036854775808≤p.id∧p.id≤9223372036854775807∧ -9223372036854775808≤p.num∧p.num≤9223372036854775807
def cZ(w:World)(B:Nat)(v:Value)(l:List Pr):Prop:=
 ∃ds:List Value,∃_:ds.length=l.length,w.ownsRow B 147 5 v l.length (mw ds l)∧(∀(i:Nat)(h:i<l.length),w.ownsRow B 5 1 (ds[i]'(by omega)) l[i].data.length (bv l[i].data))∧ds.Pairwise fR
theorem cZ.nil(w:World)(B:Nat):cZ w B (.slice none 0 0) []:=⟨[],rfl,World.ownsRow_nil _ _ _ _,(fun i hi=>by simp at hi),.nil⟩
theorem cZ.shape{l:List Pr}(h:cZ w B v l):∃ad c,v= .slice ad l.length c:=by
 obtain ⟨ds,_,h2,_⟩:=h;exact bF h2
theorem cZ.below{l:List Pr}(h:cZ w B v l)(hb:Below w w w'):cZ w' B v l:=by
 obtain ⟨ds,h1,h2,h3,h4⟩:=h;exact ⟨ds,h1,aK h2 hb,fun i hi=>aK (h3 i hi) hb,h4⟩
theorem cZ.mono{l:List Pr}(h:cZ w B v l)(hB:B'≤B):cZ w B' v l:=by
 obtain ⟨ds,h1,h2,h3,h4⟩:=h;exact ⟨ds,h1,bN h2 hB,fun i hi=>bN (h3 i hi) hB,h4⟩
theorem cZ.ps{l:List Pr}(h:cZ w B v l)(hb:∀p∈l,PB p):Ps w v l:=by
 obtain ⟨ds,h1,h2,h3,_⟩:=h;obtain ⟨ad,c,rfl⟩:=bF h2;have hc:=rp h2;unfold maxLen at hc;refine ⟨ad,c,rfl,hc.1,by omega,B6 h2,fun h0=> ?_⟩;obtain ⟨g,rfl⟩:=et h2 h0;refine ⟨g,0,rfl,fun i hi=> ?_⟩;have hB:=hb _ (List.getElem_mem hi);have bJ:∀j,j<5→w.cell? ⟨g,0+i*5+j,none⟩=(pc (ds[i]'(by omega),l[i]))[j]?:=fun j hj=>by
  rw [zero_add,←Ej ds l h1 i hi j hj];exact h2.cellAt _ (by
    have:i*5+j<l.length*5:=by omega
    omega)
 have hd:=h3 i hi;obtain ⟨da,dc,TR⟩:=bF hd;refine ⟨_,⟨bJ 0 (by omega),bJ 1 (by omega),bJ 2 (by omega),bJ 3 (by omega),bJ 4 (by omega)⟩,?_,hB.1,hB.2.1,hB.2.2.1,hB.2.2.2.1,hB.2.2.2.2.1,hB.2.2.2.2.2.1,hB.2.2.2.2.2.2⟩;rw [TR] at hd;show Bs w (ds[i]'(by omega)) l[i].data;rw [TR];exact (eD hd).2
theorem eF.Ek{c:Nat}(ho:w.ownsRow B e size (.slice ad n c) n xs)(hg:w.grownBy w' (Value.slice ad n c).ownBlock)(he:te≠e):eF te w w':=by
 exact TM
theorem cZ.push{l:List Pr}{p:Pr}(hl:ds.length=l.length)(xQ:∀(i:Nat)(h:i<l.length),w.ownsRow B 5 1 (ds[i]'(by omega)) l[i].data.length (bv l[i].data))
 (hk:eF 5 w w') (aV:w'.ownsRow B 147 5 v' (l.length+1) (mw ds l++ [.int .i64 p.id,.int .i64 p.num,.string (str p.text),.string (str p.pair),d])) (he:w.ownsRow B 5 1 d p.data.length (bv p.data)) (qH:ds.Pairwise fR) (ju:∀v∈ds,fR v d):cZ w' B v' (l++ [p]):=by
 refine ⟨ds++ [d],by simp [hl],?_,fun i hi=> ?_,?_⟩
 ·rw [TQ ds l hl]
  simpa using aV
 ·simp only [List.length_append,List.length_cons,List.length_nil] at hi;by_cases h:i<l.length
  ·have h1:(ds++ [d])[i]'(by simp;omega)=ds[i]'(by omega):=List.getElem_append_left (by omega);have h2:(l++ [p])[i]'(by simp;omega)=l[i]:=List.getElem_append_left h;rw [h1,h2];exact hk _ _ _ _ (xQ i h)
  ·obtain rfl:i=l.length:=by omega
   have h1:(ds++ [d])[l.length]'(by simp;omega)=d:=by
    rw [List.getElem_append_right (by omega)];simp [hl]
   have h2:(l++ [p])[l.length]'(by simp)=p:=by
    rw [List.getElem_append_right (by omega)];simp
   rw [h1,h2];exact hk _ _ _ _ he
 ·rw [pairwise_append];refine ⟨qH,by simp,fun a ha b hb=> ?_⟩;obtain rfl:=List.mem_singleton.1 hb;exact ju a ha
theorem cZ.qI{l:List Pr}(h:cZ w B v l)(hg:w.grownBy w' (some g))(NH:g<B):cZ w' B v l:=by
 obtain ⟨ds,h1,h2,h3,h4⟩:=h;have key:∀{e size n:Nat}{u:Value}{xs:List Value},w.ownsRow B e size u n xs→w'.ownsRow B e size u n xs:=fun ho=>cY ho hg fun k hk hc=>by
  have:=(ho.lt k hk).1;have:=Option.some.inj hc
  omega
 exact ⟨ds,h1,key h2,fun i hi=>key (h3 i hi),h4⟩
def dB(_:Pr)(_:Option Addr)(_:Nat):Zt:=Zt.a
instance apJ{x:Pr}{a:Option Addr}{c:Nat}:CoeDep Zt (dB x a c) (Array Value):=⟨#[.int .i64 x.id,.int .i64 x.num,.string (str x.text),.string (str x.pair),.slice a x.data.length c]⟩
instance apK{x:Pr}{a:Option Addr}{c:Nat}:CoeDep Zt (dB x a c) (List Value):=⟨[.int .i64 x.id,.int .i64 x.num,.string (str x.text),.string (str x.pair),.slice a x.data.length c]⟩
def bz(_:Pr)(_:Value):Zt:=Zt.a
instance apL{x:Pr}{d:Value}:CoeDep Zt (bz x d) (Array Value):=⟨#[.int .i64 x.id,.int .i64 x.num,.string (str x.text),.string (str x.pair),d]⟩
instance apM{x:Pr}{d:Value}:CoeDep Zt (bz x d) (List Value):=⟨[.int .i64 x.id,.int .i64 x.num,.string (str x.text),.string (str x.pair),d]⟩
def xR(_:List UInt8)(_:Option Addr)(_:List UInt8)(_:Nat)(_:Int)(_:Bool)(_:List UInt8)(_:Int)(_:Option Addr)(_:List Pr)(_:Nat)(_:Int)(_:Int)(_:Int)(_:Bool):Zt:=Zt.a
instance apN{t:List UInt8}{a:Option Addr}{p:List UInt8}{c:Nat}{q:Int}{r:Bool}{s:List UInt8}{x:Int}{b:Option Addr}{l:List Pr}{d:Nat}{o:Int}{n:Int}{u:Int}{k:Bool}:CoeDep Zt (xR t a p c q r s x b l d o n u k) (Array Value):=⟨#[.string (str t),.slice a p.length c,.int .i64 q,.bool r,.string (str s),.int .i64 x,.slice b l.length d,.int .i64 o,.int .i64 n,.int .i64 0,.int .i64 u,.bool k,.slice none 0 0,.string ⟨#[]⟩]⟩
instance apO{t:List UInt8}{a:Option Addr}{p:List UInt8}{c:Nat}{q:Int}{r:Bool}{s:List UInt8}{x:Int}{b:Option Addr}{l:List Pr}{d:Nat}{o:Int}{n:Int}{u:Int}{k:Bool}:CoeDep Zt (xR t a p c q r s x b l d o n u k) (List Value):=⟨[.string (str t),.slice a p.length c,.int .i64 q,.bool r,.string (str s),.int .i64 x,.slice b l.length d,.int .i64 o,.int .i64 n,.int .i64 0,.int .i64 u,.bool k,.slice none 0 0,.string ⟨#[]⟩]⟩
def gV(_:List UInt8)(_:Option Addr)(_:List UInt8)(_:Nat)(_:Int)(_:Bool)(_:List UInt8)(_:Int)(_:Option Addr)(_:List Pr)(_:Nat)(_:Int)(_:Int)(_:Int):Zt:=Zt.a
instance apP{t:List UInt8}{a:Option Addr}{p:List UInt8}{c:Nat}{q:Int}{r:Bool}{s:List UInt8}{x:Int}{b:Option Addr}{l:List Pr}{d:Nat}{o:Int}{n:Int}{h:Int}:CoeDep Zt (gV t a p c q r s x b l d o n h) (Array Value):=⟨#[.string (str t),.slice a p.length c,.int .i64 q,.bool r,.string (str s),.int .i64 x,.slice b l.length d,.int .i64 o,.int .i64 n,.int .i64 h]⟩
instance apQ{t:List UInt8}{a:Option Addr}{p:List UInt8}{c:Nat}{q:Int}{r:Bool}{s:List UInt8}{x:Int}{b:Option Addr}{l:List Pr}{d:Nat}{o:Int}{n:Int}{h:Int}:CoeDep Zt (gV t a p c q r s x b l d o n h) (List Value):=⟨[.string (str t),.slice a p.length c,.int .i64 q,.bool r,.string (str s),.int .i64 x,.slice b l.length d,.int .i64 o,.int .i64 n,.int .i64 h]⟩
def qJ(_:List UInt8)(_:Option Addr)(_:List UInt8)(_:Nat)(_:Int)(_:Bool)(_:List UInt8)(_:Int)(_:Option Addr)(_:List Pr)(_:Nat)(_:Int)(_:Int)(_:Int)(_:Int)(_:Bool)(_:Option Addr)(_:List Int)(_:Nat)(_:List UInt8):Zt:=Zt.a
instance apR{t:List UInt8}{a:Option Addr}{p:List UInt8}{c:Nat}{q:Int}{r:Bool}{s:List UInt8}{x:Int}{b:Option Addr}{l:List Pr}{d:Nat}{o:Int}{n:Int}{h:Int}{u:Int}{k:Bool}{e:Option Addr}{i:List Int}{f:Nat}{z:List UInt8}:CoeDep Zt (qJ t a p c q r s x b l d o n h u k e i f z) (Array Value):=⟨#[.string (str t),.slice a p.length c,.int .i64 q,.bool r,.string (str s),.int .i64 x,.slice b l.length d,.int .i64 o,.int .i64 n,.int .i64 h,.int .i64 u,.bool k,.slice e i.length f,.string (str z)]⟩
instance apS{t:List UInt8}{a:Option Addr}{p:List UInt8}{c:Nat}{q:Int}{r:Bool}{s:List UInt8}{x:Int}{b:Option Addr}{l:List Pr}{d:Nat}{o:Int}{n:Int}{h:Int}{u:Int}{k:Bool}{e:Option Addr}{i:List Int}{f:Nat}{z:List UInt8}:CoeDep Zt (qJ t a p c q r s x b l d o n h u k e i f z) (List Value):=⟨[.string (str t),.slice a p.length c,.int .i64 q,.bool r,.string (str s),.int .i64 x,.slice b l.length d,.int .i64 o,.int .i64 n,.int .i64 h,.int .i64 u,.bool k,.slice e i.length f,.string (str z)]⟩
theorem TS{P:Prop}(h:P:=by
 go_roundg (l.length - (k+1))
 case measure=>omega
 case rel=>exact ⟨k+1,by omega,rfl,by go_num,bp,HN⟩):P:=h
theorem TU{P:Prop}(h:P:=by
 rw [←fZ.o_];refine decide_eq_false fun h=>JH ?_;have h1:=El.o_;rw [h,oL.o_] at h1;exact (Option.some.inj h1).symm):P:=h
theorem TV{P:Prop}(h:P:=by
 obtain rfl:r=true:=by
  rw [←fZ.o_];refine decide_eq_true ?_;have:=HS.o_
  rwa [List.take_of_length_le (by omega),List.take_of_length_le (by have:=m8.o_;omega)] at this
 go_wp2;exact HR.o_ _ hb):P:=h
def iv(l:List Int):List Value:=l.map fun x=>Value.int .i64 x
def Is(w:World)(v:Value)(l:List Int):Prop:=
 ∃ad c,v= .slice ad l.length c∧Rd w 1 ad l.length (l.map fun x=>Value.int .i64 x)∧l.length≤c∧c≤9223372036854775807∧(ad=none→c=0)
theorem Is.below{l:List Int}(h:Is w v l)(hb:Below w w w'):Is w' v l:=by
 obtain ⟨ad,c,rfl,hr,h1,h2,h3⟩:=h;exact ⟨ad,c,rfl,hr.below hb,h1,h2,h3⟩
theorem Is.at{c:Nat}{l:List Int}(h:Is w (.slice ad n c) l)(k:Nat)(hk:k<l.length):∃b o,ad=some ⟨b,o,none⟩∧w.cell? ⟨b,o+k,none⟩=some (.int .i64 l[k]):=by
 obtain ⟨bq,c',e,hr,h1,h2,h3⟩:=h;simp only [Value.slice.injEq] at e;obtain ⟨rfl,rfl,rfl⟩:=e;obtain ⟨b,o,rfl,hc⟩:=hr.2 (by omega);refine ⟨b,o,rfl,?_⟩;rw [hc k (by omega)];simp [hk]
theorem Is.len{l:List Int}(h:Is w v l):l.length≤9223372036854775807:=by
 obtain ⟨ad,c,_,_,h1,h2,_⟩:=h
 omega
theorem JI{c:Nat}{L:List Int}(h:w.ownsRow B 3 1 (.slice ad n c) n (iv L))(hn:L.length=n):Is w (.slice ad n c) L:=by
 have hc:=rp h;unfold maxLen at hc;subst hn;exact ⟨ad,c,rfl,qG h,hc.1,by omega,B6 h⟩
variable{o:Obj}
theorem aA(h:w.heap[g]? =some o)(hb:Below w w w'):w'.heap[g]? =some o:=by
 rw [hb.block g (Array.getElem?_eq_some_iff.1 h).1];exact h
theorem dw{a b c:World}(h:Below a a b)(h2:Below b b c):Below a a c:=h.trans (h2.mono h.size)
theorem acC(w:World):Bs w (.slice none 0 0) []:=⟨none,0,rfl,Rd.nil _ _ _,Nat.le_refl _,by omega,fun _=>rfl⟩
theorem FV{P:Program}{fn:Func}{p q u:Tmp}{ty:TypeId}(h:fn.results=#[.cell p ty,.tmp q,.tmp u])(tmps:Array Value)(w:World)(g:Nat)(t:TypeId)(cs:Array Value)(fr:Nat×Nat)(d:TypeDesc)(r s:Value)
 (hp:tmps.getD p undef= .pointer (some ⟨g,0,none⟩)) (hq:tmps.getD q undef=r) (uF:tmps.getD u undef=s) (hg:w.heap[g]? =some (.cells cs t fr))
 (hu:P.underlying ty=some d) (hd:(match d with| .struct _| .array _ _=>true|_=>false)=true) (hi:(P.info? ty).map (·.size)=some cs.size):
 (results fn tmps).run P w= .ok (.tuple #[.agg cs,r,s]) w:=by
 exact TL
theorem TW{P:Program}{fn:Func}{p q:Tmp}{ty:TypeId}(h:fn.results=#[.cell p ty,.tmp q])(tmps:Array Value)(w:World)(g:Nat)(t:TypeId)(cs:Array Value)(fr:Nat×Nat)(d:TypeDesc)(r:Value)
 (hp:tmps.getD p undef= .pointer (some ⟨g,0,none⟩)) (hq:tmps.getD q undef=r) (hg:w.heap[g]? =some (.cells cs t fr))
 (hu:P.underlying ty=some d) (hd:(match d with| .struct _| .array _ _=>true|_=>false)=true) (hi:(P.info? ty).map (·.size)=some cs.size):
 (results fn tmps).run P w= .ok (.tuple #[.agg cs,r]) w:=by
 exact TK
theorem TX(v:Value)(l:List UInt8)(w:World)(hv:Bs w v l)(hl:l.length≤140737488355328)(R:Ending→World→Prop)
 (hR:∀ad c w',w'.ownsRow w 5 1 (.slice ad l.length c) l.length (bv l)→Below w w w'→R (.returned (.slice ad l.length c)) w'):
 Calls prog 139 #[v] w R:=by
 exact TN
theorem iT{row:Option Nat}(h:Below w w w'):w.grownBy w' row:=⟨h.os,h.tape,h.output,h.size,fun k hk _=>h.block k hk⟩
structure JK(w w':World):Prop where
 ex:∃q os,w'=Sort.grow (w.drewN q) os
theorem JK.below{x:World}(h:JK w x):Below w w x:=by
 obtain ⟨q,os,rfl⟩:=h;refine ⟨rfl,rfl,rfl,?_,fun k hk=> ?_⟩
 ·show w.heap.size≤(w.heap++os).size;simp
 ·show (w.heap++os)[k]? =w.heap[k]?;exact Array.getElem?_append_left hk
end Go.Proofs.YtgimbocoamnkjaaGreatDoor
