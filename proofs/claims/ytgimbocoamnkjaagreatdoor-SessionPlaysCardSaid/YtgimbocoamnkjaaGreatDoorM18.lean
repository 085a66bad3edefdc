/- A part of the proof of SessionPlays, printed small; no conditions of its own. -/
import Derived.Test.YtgimbocoamnkjaaGreatDoorM17
set_option maxRecDepth 100000
set_option maxHeartbeats 16000000
namespace Go.Proofs.YtgimbocoamnkjaaGreatDoor
open _root_.Go.Proofs.Tryz
open List (drop_append drop_of_length_le)
open Nat (zero_add)
variable{id:Int}{l:List Pr}{ds:List Value}{B k n t:Nat}{La ad:Option Addr}{p:Pr}{a d:Value}{W w iF:World}
open Go.RowKit
def kQ(fm:Int)(co cr us:List UInt8):List Pr:=
 (if 0≤fm then [⟨1,bits .and .i64 fm 1,[],[],[]⟩] else [])++(if 0<co.length then [⟨3,0,d_ co,[],[]⟩] else [])++(if 0<cr.length then [⟨9,0,[],[],cr.take 30⟩] else [])++(us.take 4).map fun u=>⟨38,0,d_ [u],d_ us,[]⟩
structure OL(W w wr:World)(ad:Option Addr)(n c:Nat)(ds:List Value)(l:List Pr):Prop where
 nl:n=l.length
 len:ds.length=l.length
 row:wr.ownsRow w 147 5 (.slice ad n c) n (mw ds l)
 old:Em W ds l
 low:Below w w wr
 L4:Below W W w
 hn:n≤100
theorem OL.below{wr:World}{c:Nat}(h:OL W w wr ad n c ds l)(hb:Below wr wr iF):OL W w iF ad n c ds l:=⟨h.nl,h.len,aK h.row hb,h.old,aD h.low hb h.low.size,h.L4,h.hn⟩
theorem OL.push{wr:World}{bq:Option Addr}{c c':Nat}(h:OL W w wr ad n c ds l)(hd:PC W d p)(hr:iF.ownsRow w 147 5 (.slice bq (n+1) c') (n+1) (mw ds l++ (bz p d:List Value)))(hg:wr.grownBy iF (Value.slice ad n c).ownBlock)(hn:n≤99):
 OL W w iF bq (n+1) c' (ds++ [d]) (l++ [p]):=
 ⟨by rw [List.length_append,←h.nl];rfl,by rw [List.length_append,List.length_append,h.len];rfl,by rw [TQ ds l h.len];exact hr,by
  refine ⟨by rw [List.length_append,List.length_append,h.len];rfl,fun i d' p' h1 h2=> ?_⟩;by_cases hi:i<l.length
  ·rw [List.getElem?_append_left (by rw [h.len];exact hi)] at h1;rw [List.getElem?_append_left hi] at h2;exact h.old.2 i d' p' h1 h2
  ·have cQ:i=l.length:=by
    have:=(List.getElem?_eq_some_iff.1 h2).1;simp at this
    omega
   subst cQ;rw [List.getElem?_append_right (by rw [h.len];exact Nat.le_refl _),h.len,Nat.sub_self] at h1;rw [List.getElem?_append_right (Nat.le_refl _),Nat.sub_self] at h2;simp only [List.getElem?_cons_zero,Option.some.injEq] at h1 h2;subst h1 h2;exact hd,bC h.low hg h.low.size h.row,h.L4,by omega⟩
theorem Rn(w:World){num:Int}{t u:List UInt8}(h1: -9223372036854775808≤id)(h2:id≤9223372036854775807)(h3: -9223372036854775808≤num)(h4:num≤9223372036854775807)(h5:t.length≤100)(h6:u.length≤100):PC w (.slice none 0 0) ⟨id,num,t,u,[]⟩:=
 ⟨acC w,by simp,by show t.length≤_;omega,by show u.length≤_;omega,h1,h2,h3,h4⟩
theorem ajw{C:List UInt8}(h:Bs w d C)(hl:C.length≤140737488351232):PC w d ⟨9,0,[],[],C⟩:=
 ⟨h,hl,by show 0≤_;omega,by show 0≤_;omega,by show _≤(9:Int);omega,by show (9:Int)≤_;omega,by show _≤(0:Int);omega,by show (0:Int)≤_;omega⟩
theorem OL.nil(W w wr:World)(hW:Below W W w)(hb:Below w w wr):OL W w wr none 0 0 [] []:=⟨rfl,rfl,World.ownsRow_nil _ _ _ _,⟨rfl,fun i d p h=>by simp at h⟩,hb,hW,by omega⟩
structure OP(W:World)(B:Nat)(wr:World)(ad:Option Addr)(n c:Nat)(ds:List Value)(l:List Pr):Prop where
 nl:n=l.length
 len:ds.length=l.length
 row:wr.ownsRow B 147 5 (.slice ad n c) n (mw ds l)
 old:Em W ds l
 low:Below W W wr
theorem OL.op{wr:World}{c:Nat}(h:OL W w wr ad n c ds l):OP W w.heap.size wr ad n c ds l:=⟨h.nl,h.len,h.row,h.old,aD h.L4 h.low h.L4.size⟩
theorem OP.below{wr:World}{c:Nat}(h:OP W B wr ad n c ds l)(hb:Below wr wr iF):OP W B iF ad n c ds l:=⟨h.nl,h.len,aK h.row hb,h.old,aD h.low hb h.low.size⟩
theorem OP.ps{wr:World}{c:Nat}(h:OP W B wr ad n c ds l):Ps wr (.slice ad l.length c) l:=by
 have hr:=h.row;have hc:=rp hr;unfold maxLen at hc;rw [h.nl] at hr hc;refine ⟨ad,c,rfl,hc.1,by omega,B6 hr,fun h0=> ?_⟩;obtain ⟨g,rfl⟩:=et hr h0;refine ⟨g,0,rfl,fun i hi=> ?_⟩;have bJ:∀j,j<5→wr.cell? ⟨g,0+i*5+j,none⟩=(pc (ds[i]'(by rw [h.len];exact hi),l[i]))[j]?:=fun j hj=>by
  rw [zero_add,hr.cellAt (i*5+j) (by omega),Ej ds l h.len i hi j hj]
 exact ⟨ds[i]'(by rw [h.len];exact hi),⟨bJ 0 (by omega),bJ 1 (by omega),bJ 2 (by omega),bJ 3 (by omega),bJ 4 (by omega)⟩,(h.old.2 i _ _ (List.getElem?_eq_getElem _) (List.getElem?_eq_getElem hi)).below h.low⟩
theorem L5(w:World)(N:Nat)(hN:N=w.heap.size){i j:Int}{s t:ByteArray}:Rd (w.alloc (Obj.cells #[.int .i64 i,.int .i64 j,.string s,.string t,d] 147)) 5 (some ⟨N,0,none⟩) 1 [.int .i64 i,.int .i64 j,.string s,.string t,d]:=by
 subst hN;exact cO w #[.int .i64 i,.int .i64 j,.string s,.string t,d] 147 5 1 rfl
theorem Ai{M:Nat}{b c x:Value}(h:w.heap[M]? =some (.cells #[a,b,c,x] t (0,0))):w.cell? ⟨M,0,none⟩=some a∧w.cell? ⟨M,1,none⟩=some b∧w.cell? ⟨M,2,none⟩=some c∧w.cell? ⟨M,3,none⟩=some x:=
 ⟨af w M 0 _ _ _ h,af w M 1 _ _ _ h,af w M 2 _ _ _ h,af w M 3 _ _ _ h⟩
theorem ajx{c:Nat}{l:List UInt8}(h:Bs w (.slice La n c) l)(hk:k<l.length):
 ∃Lx,(∀w',(Instr.slice 22 (.slice La n c) (some (.int .i64 (k:Int))) (some (.int .i64 ((k:Int)+1))) none).run prog w'= .ok (.slice Lx 1 (c - k)) w')∧Bs w (.slice Lx 1 (c - k)) [l[k]]:=by
 have hp:=h.piece (lo:=k) (hi:=k+1) (by omega) (by omega);obtain ⟨rfl,_,hc,_,_⟩:=h.parts;have he:prog.elem 22=5:=by simp [Program.elem,underlying22]
 obtain ⟨i,bS,hz,cQ,gU⟩:=info_parts Tryz.cJ;have e:(l.take (k+1)).drop k= [l[k]]:=by
  rw [List.take_succ_eq_append_getElem hk,drop_append,drop_of_length_le (by rw [List.length_take];omega)];have:(l.take k).length=k:=by rw [List.length_take];omega
  simp [this]
 rw [e,show k+1 - k=1 by omega] at hp;refine ⟨_,fun w'=> ?_,hp⟩;rw [run_slice_lh (P:=prog) w' _ La l.length c (by rw [he];exact underlying22) .i64 .i64 k ((k:Int)+1) (by omega) (by omega) (by omega),he];have h1:((k:Int)+1).toNat=k+1:=by omega
 simp [sizeOf,typeInfo,bS,cQ,sliced,h1]
theorem Y_(v:Value)(l C:List UInt8)(n:Int)(hC:l.take n.toNat=C)(W w:World)(hv:Bs W v l)(h0:0≤n)(R:Ending→World→Prop)
 (hR:∀ad c,Bs W (.slice ad C.length c) C→R (.returned (.slice ad C.length c)) w):
 Calls prog 30 #[v,.int .i64 n] w R:=by
 subst hC;have dO:=hv;obtain ⟨ad,c,rfl,hr,hc,hm,gG⟩:=dO;clear hr;go_enter func30,ntmps30;by_cases ao:n<l.length
 ·have hB:=hv.cut (k:=n.toNat) (by omega);go_wp2;have e:(l.take n.toNat).length=n.toNat:=by rw [List.length_take];omega
  have:=hR ad c;rw [e] at this;exact this hB
 ·have hB:l.take n.toNat=l:=List.take_of_length_le (by omega);go_wp2;have:=hR ad c;rw [hB] at this;exact this hv
theorem BK{P:Prop}(h:P:=by
 go_enter func39,ntmps39;go_wp2_with (first
  |(at_builtin;have qy:=mA.o_.below ((Below.refl _ _).alloc (Nat.le_refl _) (Obj.cells (su 1 (bits .and .i64 fm 1)) 147));refine gj (by rfl) (.tmp 8) (.tmp 13) 32 (by rfl) w 147 (.agg hZ) 5 72 underlying32 Tryz.xP rfl (by decide) _ _ _ _ (by rfl) qy.row _ 1 1 _ (by rfl) (L5 _ _ (by first|rfl|simp)) (zg _ _ _) (fun h=>by cases h) (by unfold maxLen;omega) (by omega) qy.low.size ?_;intro uP Y' w1 bQ iX _;have fg:=gq (o':=(Obj.cells (su 1 (bits .and .i64 fm 1)) 147)) qz.o_;replace qz:=ab (eG iX fg (dU fg qy.row (by decide)));replace mA:=ab (qy.push (p:=⟨1,bits .and .i64 fm 1,[],[],[]⟩) (Rn W (by decide) (by decide) (bits_lo_i64 _ _ _) (bits_hi_i64 _ _ _) (by simp) (by simp)) bQ iX (by omega));clear qy bQ iX fg;obtain ⟨c0,c1,c2,c3⟩:=Ai qz.o_)
  |(go_at_call 38;refine DN _ co _ rfl _ (LZ.o_.below (aD jI.o_ mA.o_.low jI.o_.size)) _ ?_;intro w3 an;replace mA:=ab (mA.o_.below an);replace qz:=ab (aA qz.o_ an);clear an;obtain ⟨c0,c1,c2,c3⟩:=Ai qz.o_)
  |(at_builtin;have qy:=mA.o_.below ((Below.refl _ _).alloc (Nat.le_refl _) (Obj.cells (B7 3 (d_ co)) 147));refine gj (by rfl) (.tmp 19) (.tmp 24) 32 (by rfl) w 147 (.agg hZ) 5 72 underlying32 Tryz.xP rfl (by decide) _ _ _ _ (by rfl) qy.row _ 1 1 _ (by rfl) (L5 _ _ (by first|rfl|simp)) (zg _ _ _) (fun h=>by cases h) (by unfold maxLen;omega) (by omega) qy.low.size ?_;intro uP Y' w1 bQ iX _;have fg:=gq (o':=(Obj.cells (B7 3 (d_ co)) 147)) qz.o_;replace qz:=ab (eG iX fg (dU fg qy.row (by decide)));replace mA:=ab (qy.push (p:=⟨3,0,d_ co,[],[]⟩) (Rn W (by decide) (by decide) (by decide) (by decide) (Nat.le_trans (oG _) (by decide)) (by simp)) bQ iX (by omega));clear qy bQ iX fg;obtain ⟨c0,c1,c2,c3⟩:=Ai qz.o_)
  |(go_at_call 30;refine Y_ _ cr C 30 HC.o_ W _ yv.o_ (by decide) _ ?_;intro xa xc cG;have gY:=ab cG;clear cG)
  |(at_builtin;have qy:=mA.o_.below ((Below.refl _ _).alloc (Nat.le_refl _) (Obj.cells (Eg 9 xa C xc) 147));refine gj (by rfl) (.tmp 30) (.tmp 35) 32 (by rfl) w 147 (.agg hZ) 5 72 underlying32 Tryz.xP rfl (by decide) _ _ _ _ (by rfl) qy.row _ 1 1 _ (by rfl) (L5 _ _ (by first|rfl|simp)) (zg _ _ _) (fun h=>by cases h) (by unfold maxLen;omega) (by omega) qy.low.size ?_;intro uP Y' w1 bQ iX _;have fg:=gq (o':=(Obj.cells (Eg 9 xa C xc) 147)) qz.o_;replace qz:=ab (eG iX fg (dU fg qy.row (by decide)));replace mA:=ab (qy.push (p:=⟨9,0,[],[],C⟩) (ajw gY.o_ lJ.o_) bQ iX (by omega));clear qy bQ iX fg;obtain ⟨c0,c1,c2,c3⟩:=Ai qz.o_))
 go_loopg [3,4] (min us.length 4) (fun gn r i wr=>∃(k n c:Nat)(ad:Option Addr)(ds:List Value)(l:List Pr),k≤min us.length 4∧gn=min us.length 4 - k∧i= .int .i64 k∧r= .slice ad n c∧Hid (OL W w wr ad n c ds l)∧Hid (l=l0++(us.take k).map fun u=>⟨38,0,d_ [u],d_ us,[]⟩)∧Hid (wr.heap[w.heap.size]? =some (Obj.cells #[.int .i64 fm,.slice ca co.length cc,.slice ra cr.length rc,.slice ua us.length uc] 24))∧n≤3+k)
 case atStart=>exact ⟨0,_,_,_,_,_,Nat.zero_le _,by omega,rfl,rfl,mA,ab (by rw [←L6.o_];simp [h1,L7,BL]),qz,by omega⟩
 case round=>
  obtain ⟨k,n,c,ad,ds,l,hk,rfl,rfl,rfl,HL,Ro,HN,jF⟩:=hrel;obtain ⟨wo,rfl⟩:∃x,x=wr:=⟨_,rfl⟩
  clear c0 c1 c2 c3 mA qz;obtain ⟨c0,c1,c2,c3⟩:=Ai HN.o_;by_cases ao:k<min us.length 4
  ·have ib:k<us.length:=by omega
   have bd:(k:Int)<(us.length:Int):=by omega
   have kZ:(k:Int)<4:=by omega
   have hd:Below wo wo wo.drew:=(Below.refl _ _).drew;have aq2:IntKind.i64.wrap ((k:Int)+1)=(k:Int)+1:=IntWalk.i64_in _ (by omega);obtain ⟨Lx,df,lI⟩:=ajx (Rp.o_.below (aD jI.o_ HL.o_.low jI.o_.size)) ib;obtain ⟨P1,xq⟩:=ai (d_ [us[k]]);obtain ⟨P2,vE⟩:=ai (d_ us);have ajy:P1.length≤100:=by rw [←xq];exact Nat.le_trans (oG _) (by decide)
   have yw:P2.length≤100:=by rw [←vE];exact Nat.le_trans (oG _) (by decide)
   have HT:Hid (l++ [⟨38,0,P1,P2,[]⟩]=l0++(us.take (k+1)).map fun u=>⟨38,0,d_ [u],d_ us,[]⟩):=by
    show _=_;rw [←xq,←vE,Ro.o_,List.take_succ_eq_append_getElem ib,List.map_append,List.append_assoc]
    rfl
   have yH:=ab xq;have nh:=ab vE;have gR:=ab (lI.below hd);have ajz:=ab (HL.o_.below hd);have Za:=ab (aA HN.o_ hd);obtain ⟨e0,e1,e2,e3⟩:=Ai Za.o_;clear xq vE lI hd Ro;go_wp2_with fail;go_region_law (first
    |(go_simp;go_at_call_of 38 Lx;refine DN _ [us[k]] P1 yH.o_ _ gR.o_ _ ?_;intro w5 aC;have C':=ajz.o_.below aC;have dz:=aA Za.o_ aC;have f3:=(Ai dz).2.2.2)
    |(go_simp;go_at_call_of 38 us.length;refine DN _ us P2 nh.o_ _ (Rp.o_.below (aD jI.o_ C'.low jI.o_.size)) _ ?_;intro w7 aZ;have rK:=C'.below aZ;have jD:=gq (o':=(Obj.cells (Eh 38 P1 P2) 147)) (aA dz aZ);have py:=rK.below ((Below.refl w7 w7).alloc (Nat.le_refl _) (Obj.cells (Eh 38 P1 P2) 147)))
    |(refine gx (by rfl) (.tmp 48) (.tmp 60) 32 (by rfl) w 147 (.agg hZ) 5 72 underlying32 Tryz.xP rfl (by decide) ad n c _ (by rfl) py.row (some ⟨w7,0,none⟩) 1 1 _ (by rfl) (L5 _ _ rfl) (zg _ _ _) (fun h=>by cases h) (by unfold maxLen;omega) (by omega) py.low.size ?_;intro eC c9 w9 cI bo _))
   all_goals
    have qW:=ab (eG bo jD (dU jD py.row (by decide)));have iK:=ab (py.push (p:=⟨38,0,P1,P2,[]⟩) (Rn W (by decide) (by decide) (by decide) (by decide) ajy yw) cI bo (by omega));clear cI bo jD py rK C' dz f3;go_wp2_with fail;go_roundg (min us.length 4 - (k+1))
    case measure=>omega
    case rel=>exact ⟨k+1,n+1,c9,eC,_,_,by omega,rfl,by go_num,rfl,iK,HT,qW,by omega⟩
  ·have iC:k=min us.length 4:=by omega
   have cw:l=L:=by
    rw [Ro.o_,Rq.o_,iC];by_cases h:us.length≤4
    ·rw [Nat.min_eq_left h,List.take_of_length_le (Nat.le_refl _),List.take_of_length_le h]
    ·rw [Nat.min_eq_right (by omega)]
   subst cw;have dn:=ab HL.o_.op;have uX:=ab HL.o_.nl;have cK:=ab HL.o_.low;clear HL;by_cases ib:k<us.length
   ·have bd:(k:Int)<(us.length:Int):=by omega
    have kZ:¬(k:Int)<4:=by omega
    go_wp2;have Rr:=dn.o_;have lg:=uX.o_;subst lg;exact HR.o_ _ _ _ _ Rr cK.o_
   ·have bd:¬(k:Int)<(us.length:Int):=by omega
    go_wp2;have Rr:=dn.o_;have lg:=uX.o_;subst lg;exact HR.o_ _ _ _ _ Rr cK.o_):P:=h
variable{K N:Nat}{fr:Nat×Nat}{bx o:Obj}{f h:Value}{w' x':World}
theorem ajA{α β γ δ ε ω:Type}{H G:α→β→γ→δ→ε→ω→Prop}{Iu:Prop}(m:(∀a b c d e w,H a b c d e w→G a b c d e w)→Iu)(t:∀a b c d e w,H a b c d e w→G a b c d e w):Iu:=m t
structure Md where
 aJ:List UInt8
 src:List UInt8
 share:List UInt8
 az:List UInt8
 al:Int
 sub:Int
 aE:Bool
 aM:Bool
 eM:Int
 fm:Int
 co:List UInt8
 cr:List UInt8
 us:List UInt8
 ids:List Int
 origin:Int
 number:Int
structure yR(w:World)(a0 a1 a2 a3 b1 b2 b3 b4:Value)(m:Md):Prop where
 t:Bs w a0 m.aJ
 f:Bs w a1 m.src
 s:Bs w a2 m.share
 p:Bs w a3 m.az
 c:Bs w b1 m.co
 r:Bs w b2 m.cr
 u:Bs w b3 m.us
 i:Is w b4 m.ids
theorem yR.below{a0 a1 a2 a3 b1 b2 b3 b4:Value}{m:Md}(h:yR w a0 a1 a2 a3 b1 b2 b3 b4 m)(hb:Below w w w'):yR w' a0 a1 a2 a3 b1 b2 b3 b4 m:=
 ⟨h.t.below hb,h.f.below hb,h.s.below hb,h.p.below hb,h.c.below hb,h.r.below hb,h.u.below hb,h.i.below hb⟩
structure DO(m:Md):Prop where
 fm:h_ m.fm
 eM:h_ m.eM
def tf:List UInt8:= [36,115,104,97,114,101,47,103,47]
def qA(l:List Int):List Int:=(l.take 4).map fun x=>IntKind.i64.wrap (1+bits .and .i64 x 16777215)
def iO(m:Md):Im:=
 ⟨⟨116::d_ m.aJ,m.az.take 300,within m.al 0 2,m.aE,d_ m.src,if 0<m.eM then bits .and .i64 m.eM 65535 else 0,kQ m.fm m.co m.cr m.us,bits .and .i64 m.origin 255,bits .and .i64 m.number 16777215,0⟩,
  within m.sub 0 2,m.aM,qA m.ids,if 0<m.share.length then tf++d_ m.share else []⟩
theorem L8(h1:p.data.length≤30)(h2:p.text.length≤30)(h3:p.pair.length≤30)(h4:0≤p.id)(h5:p.id≤100)(h6:h_ p.num):PB p:=⟨by omega,by omega,by omega,by omega,by omega,h6.1,h6.2⟩
theorem ajB(fm:Int)(co cr us:List UInt8):∀p∈kQ fm co cr us,PB p:=by
 have hp:∀l:List UInt8,(d_ l).length≤30:=oG;have hc:(cr.take 30).length≤30:=by rw [List.length_take];omega
 have hz:([]:List UInt8).length≤30:=Nat.zero_le _;have h0:h_ 0:=⟨by omega,by omega⟩
 have hb:h_ (bits .and .i64 fm 1):=⟨bits_lo_i64 .and fm 1,bits_hi_i64 .and fm 1⟩
 obtain ⟨bb,LA⟩:=ai (bits .and .i64 fm 1);rw [LA] at hb;intro p ky;unfold kQ at ky;rw [LA] at ky;rcases List.mem_append.1 ky with ky|ky
 ·rcases List.mem_append.1 ky with ky|ky
  ·rcases List.mem_append.1 ky with ky|ky
   ·split at ky
    ·obtain rfl:=List.mem_singleton.1 ky;exact L8 hz hz hz (by show (0:Int)≤1;omega) (by show (1:Int)≤100;omega) hb
    ·cases ky
   ·split at ky
    ·obtain rfl:=List.mem_singleton.1 ky;exact L8 hz (hp _) hz (by show (0:Int)≤3;omega) (by show (3:Int)≤100;omega) h0
    ·cases ky
  ·split at ky
   ·obtain rfl:=List.mem_singleton.1 ky;exact L8 hc hz hz (by show (0:Int)≤9;omega) (by show (9:Int)≤100;omega) h0
   ·cases ky
 ·obtain ⟨u,_,rfl⟩:=List.mem_map.1 ky;exact L8 hz (hp _) (hp _) (by show (0:Int)≤38;omega) (by show (38:Int)≤100;omega) h0
theorem ajC(fm:Int)(co cr us:List UInt8):(kQ fm co cr us).length≤7:=by
 unfold kQ;rw [List.length_append,List.length_append,List.length_append,List.length_map,List.length_take]
 split<;>split<;>split<;>simp<;>omega
theorem Zb(m:Md):gb (iO m):=by
 have hq:=tu m.al 0 2 (by decide);have hs:=tu m.sub 0 2 (by decide);have hp:∀l:List UInt8,(d_ l).length≤30:=oG;refine ⟨⟨?_,?_,?_,?_,ajB _ _ _ _,?_⟩,?_,?_,?_⟩
 ·have:=hp m.aJ;show (116::d_ m.aJ).length≤_;rw [List.length_cons]
  omega
 ·show (m.az.take 300).length≤_;rw [List.length_take]
  omega
 ·have:=hp m.src;show (d_ m.src).length≤_
  omega
 ·have:=ajC m.fm m.co m.cr m.us;show (kQ m.fm m.co m.cr m.us).length≤_
  omega
 ·show _≤within m.al 0 2∧_;show _∧within m.al 0 2≤_
  omega
 ·show (qA m.ids).length≤_;unfold qA;rw [List.length_map,List.length_take]
  omega
 ·show (if 0<m.share.length then tf++d_ m.share else []).length≤_;have:=hp m.share
  split
  ·rw [List.length_append];show 9+_≤_
   omega
  ·simp
 ·show _≤within m.sub 0 2∧_;show _∧within m.sub 0 2≤_
  omega
structure IR(W:World)(N:Nat)(bx:Obj)(x:World):Prop where
 low:Below W W x
 box:x.heap[N]? =some bx
 res:x.heap[N+1]? =some (Obj.cells a_ 36)
 sz:N+2≤x.heap.size
theorem IR.below{x:World}(h:IR W N bx x)(hb:Below x x x'):IR W N bx x':=
 ⟨aD h.low hb h.low.size,(hb.block _ (Array.getElem?_eq_some_iff.1 h.box).1).trans h.box,(hb.block _ (Array.getElem?_eq_some_iff.1 h.res).1).trans h.res,Nat.le_trans h.sz hb.size⟩
theorem IR.alloc{x:World}(h:IR W N bx x)(o:Obj):IR W N bx (x.alloc o):=h.below ((Below.refl _ _).alloc (Nat.le_refl _) o)
theorem IR.grown{x:World}(h:IR W N bx x)(hg:x.grownBy x' (some K))(h1:W.heap.size≤K)(h2:K≠N)(h3:K≠N+1):IR W N bx x':=
 ⟨FT h.low hg h.low.size (fun k hk=>by cases hk;exact h1),(hg.block _ (Array.getElem?_eq_some_iff.1 h.box).1 (fun e=>h2 (Option.some.inj e).symm)).trans h.box,(hg.block _ (Array.getElem?_eq_some_iff.1 h.res).1 (fun e=>h3 (Option.some.inj e).symm)).trans h.res,Nat.le_trans h.sz hg.size⟩
theorem BM{x:World}(h:x.heap[N]? =some o)(hb:Below x x x'):x'.heap[N]? =some o:=(hb.block _ (Array.getElem?_eq_some_iff.1 h).1).trans h
theorem Rs{b c e g i j:Value}(hN:w.heap[N]? =some (.cells #[a,b,c,d,e,f,g,h,i,j] t fr)):
 (w.cell? ⟨N,0,none⟩=some a∧w.cell? ⟨N,1,none⟩=some b∧w.cell? ⟨N,2,none⟩=some c∧w.cell? ⟨N,3,none⟩=some d∧w.cell? ⟨N,4,none⟩=some e)∧w.cell? ⟨N,5,none⟩=some f∧w.cell? ⟨N,6,none⟩=some g∧w.cell? ⟨N,7,none⟩=some h∧w.cell? ⟨N,8,none⟩=some i∧w.cell? ⟨N,9,none⟩=some j:=
 ⟨⟨af w N 0 _ _ _ hN,af w N 1 _ _ _ hN,af w N 2 _ _ _ hN,af w N 3 _ _ _ hN,af w N 4 _ _ _ hN⟩,af w N 5 _ _ _ hN,af w N 6 _ _ _ hN,af w N 7 _ _ _ hN,af w N 8 _ _ _ hN,af w N 9 _ _ _ hN⟩
theorem Zc{x:World}{o0 o1 o2 o3 o4 o5 o6 o7 o8 o9:Value}(h:x.heap[N]? =some (.cells #[o0,o1,o2,o3,o4,o5,o6,o7,o8,o9] t (0,0)))(a0 a1 a2 a3 a4 a5 a6 a7 a8 a9:Value):
 ((((((((((x.setCell ⟨N,0,none⟩ a0).setCell ⟨N,1,none⟩ a1).setCell ⟨N,2,none⟩ a2).setCell ⟨N,3,none⟩ a3).setCell ⟨N,4,none⟩ a4).setCell ⟨N,5,none⟩ a5).setCell ⟨N,6,none⟩ a6).setCell ⟨N,7,none⟩ a7).setCell ⟨N,8,none⟩ a8).setCell ⟨N,9,none⟩ a9).heap[N]? =some (.cells #[a0,a1,a2,a3,a4,a5,a6,a7,a8,a9] t (0,0))∧x.grownBy ((((((((((x.setCell ⟨N,0,none⟩ a0).setCell ⟨N,1,none⟩ a1).setCell ⟨N,2,none⟩ a2).setCell ⟨N,3,none⟩ a3).setCell ⟨N,4,none⟩ a4).setCell ⟨N,5,none⟩ a5).setCell ⟨N,6,none⟩ a6).setCell ⟨N,7,none⟩ a7).setCell ⟨N,8,none⟩ a8).setCell ⟨N,9,none⟩ a9) (some N):=by
 have k0:_=some (Obj.cells #[a0,o1,o2,o3,o4,o5,o6,o7,o8,o9] t (0,0)):=heap_setCell_same _ N 0 _ _ a0 h;have k1:_=some (Obj.cells #[a0,a1,o2,o3,o4,o5,o6,o7,o8,o9] t (0,0)):=heap_setCell_same _ N 1 _ _ a1 k0;have k2:_=some (Obj.cells #[a0,a1,a2,o3,o4,o5,o6,o7,o8,o9] t (0,0)):=heap_setCell_same _ N 2 _ _ a2 k1;have k3:_=some (Obj.cells #[a0,a1,a2,a3,o4,o5,o6,o7,o8,o9] t (0,0)):=heap_setCell_same _ N 3 _ _ a3 k2;have k4:_=some (Obj.cells #[a0,a1,a2,a3,a4,o5,o6,o7,o8,o9] t (0,0)):=heap_setCell_same _ N 4 _ _ a4 k3;have k5:_=some (Obj.cells #[a0,a1,a2,a3,a4,a5,o6,o7,o8,o9] t (0,0)):=heap_setCell_same _ N 5 _ _ a5 k4;have k6:_=some (Obj.cells #[a0,a1,a2,a3,a4,a5,a6,o7,o8,o9] t (0,0)):=heap_setCell_same _ N 6 _ _ a6 k5;have k7:_=some (Obj.cells #[a0,a1,a2,a3,a4,a5,a6,a7,o8,o9] t (0,0)):=heap_setCell_same _ N 7 _ _ a7 k6;have k8:_=some (Obj.cells #[a0,a1,a2,a3,a4,a5,a6,a7,a8,o9] t (0,0)):=heap_setCell_same _ N 8 _ _ a8 k7;have k9:_=some (Obj.cells #[a0,a1,a2,a3,a4,a5,a6,a7,a8,a9] t (0,0)):=heap_setCell_same _ N 9 _ _ a9 k8;refine ⟨k9,?_⟩;exact T9
def L9(_:Md)(_:Option Addr)(_:Nat)(_:Option Addr)(_:Nat)(_:Option Addr)(_:Nat)(_:Option Addr)(_:Nat)(_:Option Addr)(_:Nat)(_:Option Addr)(_:Nat)(_:Option Addr)(_:Nat)(_:Option Addr)(_:Nat):Zt:=Zt.a
instance aq3{x:Md}{a0:Option Addr}{a1:Nat}{a2:Option Addr}{a3:Nat}{a4:Option Addr}{a5:Nat}{a6:Option Addr}{a7:Nat}{a8:Option Addr}{a9:Nat}{mX:Option Addr}{mY:Nat}{a12:Option Addr}{mZ:Nat}{m4:Option Addr}{m6:Nat}:CoeDep Zt (L9 x a0 a1 a2 a3 a4 a5 a6 a7 a8 a9 mX mY a12 mZ m4 m6) (Array Value):=⟨#[.slice a0 x.aJ.length a1,.slice a2 x.src.length a3,.slice a4 x.share.length a5,.slice a6 x.az.length a7,.int .i64 x.al,.int .i64 x.sub,.bool x.aE,.bool x.aM,.int .i64 x.eM,.int .i64 x.fm,.slice a8 x.co.length a9,.slice mX x.cr.length mY,.slice a12 x.us.length mZ,.slice m4 x.ids.length m6,.int .i64 x.origin,.int .i64 x.number]⟩
instance aq4{x:Md}{a0:Option Addr}{a1:Nat}{a2:Option Addr}{a3:Nat}{a4:Option Addr}{a5:Nat}{a6:Option Addr}{a7:Nat}{a8:Option Addr}{a9:Nat}{mX:Option Addr}{mY:Nat}{a12:Option Addr}{mZ:Nat}{m4:Option Addr}{m6:Nat}:CoeDep Zt (L9 x a0 a1 a2 a3 a4 a5 a6 a7 a8 a9 mX mY a12 mZ m4 m6) (List Value):=⟨[.slice a0 x.aJ.length a1,.slice a2 x.src.length a3,.slice a4 x.share.length a5,.slice a6 x.az.length a7,.int .i64 x.al,.int .i64 x.sub,.bool x.aE,.bool x.aM,.int .i64 x.eM,.int .i64 x.fm,.slice a8 x.co.length a9,.slice mX x.cr.length mY,.slice a12 x.us.length mZ,.slice m4 x.ids.length m6,.int .i64 x.origin,.int .i64 x.number]⟩
theorem ajD(fm:Int)(h1:0≤fm)(_: -9223372036854775808≤fm)(_:fm≤9223372036854775807)(cv rv uv:Value)(co cr us:List UInt8)(L:List Pr)(hL:kQ fm co cr us=L)(W w:World)(yS:Below W W w)(yT:Bs W cv co)(fO:Bs W rv cr)(lZ:Bs W uv us)(R:Ending→World→Prop)
 (hR:∀ad c ds w',OP W w.heap.size w' ad L.length c ds L→Below w w w'→R (.returned (.slice ad L.length c)) w'):
 Calls prog 39 #[.agg #[.int .i64 fm,cv,rv,uv]] w R:=by
 have HR:=ab hR;obtain ⟨ca,cc,rfl,_⟩:=id yT;obtain ⟨ra,rc,rfl,_⟩:=id fO;obtain ⟨ua,uc,rfl,_⟩:=id lZ;have aL:Below w w (w.alloc (Obj.cells #[.int .i64 fm,.slice ca co.length cc,.slice ra cr.length rc,.slice ua us.length uc] 24)):=(Below.refl _ _).alloc (Nat.le_refl _) _;have qz:=ab (heap_alloc_new w (Obj.cells #[.int .i64 fm,.slice ca co.length cc,.slice ra cr.length rc,.slice ua us.length uc] 24));have mA:Hid (OL W w (w.alloc (Obj.cells #[.int .i64 fm,.slice ca co.length cc,.slice ra cr.length rc,.slice ua us.length uc] 24)) none 0 0 [] []):=OL.nil W w _ yS aL;have LZ:=ab yT;have yv:=ab fO;have Rp:=ab lZ;have ku:=ab hL;have jI:=ab yS;clear hR yT fO lZ hL yS;obtain ⟨l0,m7⟩:∃l0,(if 0≤fm then [(⟨1,bits .and .i64 fm 1,[],[],[]⟩:Pr)] else [])++(if 0<co.length then [⟨3,0,d_ co,[],[]⟩] else [])++(if 0<cr.length then [⟨9,0,[],[],cr.take 30⟩] else [])=l0:=⟨_,rfl⟩
 have Rq:Hid (L=l0++(us.take 4).map fun u=>⟨38,0,d_ [u],d_ us,[]⟩):=by show _=_;rw [←ku.o_,←m7];rfl
 have L6:=ab m7;clear m7 ku;obtain ⟨C,hC⟩:=ai (cr.take (30:Int).toNat);have j3:C.length≤140737488351232:=by rw [←hC,List.length_take];have:=Nat.min_le_left (30:Int).toNat cr.length;omega
 rw [show List.take 30 cr=C from hC] at L6;have HC:=ab hC;have lJ:=ab j3;clear hC j3;obtain ⟨c0,c1,c2,c3⟩:=Ai qz.o_;by_cases h2:(0:Int)<(co.length:Int)
 ·have L7:0<co.length:=by omega
  by_cases h3:(0:Int)<(cr.length:Int)
  ·have BL:0<cr.length:=by omega
   exact BK
  ·have BL:¬0<cr.length:=by omega
   exact BK
 ·have L7:¬0<co.length:=by omega
  by_cases h3:(0:Int)<(cr.length:Int)
  ·have BL:0<cr.length:=by omega
   exact BK
  ·have BL:¬0<cr.length:=by omega
   exact BK
theorem ajG(fm:Int)(h1:¬0≤fm)(_: -9223372036854775808≤fm)(_:fm≤9223372036854775807)(cv rv uv:Value)(co cr us:List UInt8)(L:List Pr)(hL:kQ fm co cr us=L)(W w:World)(yS:Below W W w)(yT:Bs W cv co)(fO:Bs W rv cr)(lZ:Bs W uv us)(R:Ending→World→Prop)
 (hR:∀ad c ds w',OP W w.heap.size w' ad L.length c ds L→Below w w w'→R (.returned (.slice ad L.length c)) w'):
 Calls prog 39 #[.agg #[.int .i64 fm,cv,rv,uv]] w R:=by
 have HR:=ab hR;obtain ⟨ca,cc,rfl,_⟩:=id yT;obtain ⟨ra,rc,rfl,_⟩:=id fO;obtain ⟨ua,uc,rfl,_⟩:=id lZ;have aL:Below w w (w.alloc (Obj.cells #[.int .i64 fm,.slice ca co.length cc,.slice ra cr.length rc,.slice ua us.length uc] 24)):=(Below.refl _ _).alloc (Nat.le_refl _) _;have qz:=ab (heap_alloc_new w (Obj.cells #[.int .i64 fm,.slice ca co.length cc,.slice ra cr.length rc,.slice ua us.length uc] 24));have mA:Hid (OL W w (w.alloc (Obj.cells #[.int .i64 fm,.slice ca co.length cc,.slice ra cr.length rc,.slice ua us.length uc] 24)) none 0 0 [] []):=OL.nil W w _ yS aL;have LZ:=ab yT;have yv:=ab fO;have Rp:=ab lZ;have ku:=ab hL;have jI:=ab yS;clear hR yT fO lZ hL yS;obtain ⟨l0,m7⟩:∃l0,(if 0≤fm then [(⟨1,bits .and .i64 fm 1,[],[],[]⟩:Pr)] else [])++(if 0<co.length then [⟨3,0,d_ co,[],[]⟩] else [])++(if 0<cr.length then [⟨9,0,[],[],cr.take 30⟩] else [])=l0:=⟨_,rfl⟩
 have Rq:Hid (L=l0++(us.take 4).map fun u=>⟨38,0,d_ [u],d_ us,[]⟩):=by show _=_;rw [←ku.o_,←m7];rfl
 have L6:=ab m7;clear m7 ku;obtain ⟨C,hC⟩:=ai (cr.take (30:Int).toNat);have j3:C.length≤140737488351232:=by rw [←hC,List.length_take];have:=Nat.min_le_left (30:Int).toNat cr.length;omega
 rw [show List.take 30 cr=C from hC] at L6;have HC:=ab hC;have lJ:=ab j3;clear hC j3;obtain ⟨c0,c1,c2,c3⟩:=Ai qz.o_;by_cases h2:(0:Int)<(co.length:Int)
 ·have L7:0<co.length:=by omega
  by_cases h3:(0:Int)<(cr.length:Int)
  ·have BL:0<cr.length:=by omega
   exact BK
  ·have BL:¬0<cr.length:=by omega
   exact BK
 ·have L7:¬0<co.length:=by omega
  by_cases h3:(0:Int)<(cr.length:Int)
  ·have BL:0<cr.length:=by omega
   exact BK
  ·have BL:¬0<cr.length:=by omega
   exact BK
end Go.Proofs.YtgimbocoamnkjaaGreatDoor
