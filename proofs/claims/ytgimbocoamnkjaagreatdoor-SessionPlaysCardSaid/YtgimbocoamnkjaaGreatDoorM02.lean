/- A part of the proof of SessionPlays, printed small; no conditions of its own. -/
import Derived.Test.YtgimbocoamnkjaaGreatDoorM01
import Derived.Deep.RegionLaw
import Derived.Deep.RegionHeld3
import Derived.Laws.Append
import Derived.Laws.AppendOwn
import Derived.Maps.AppendAt
import Derived.Deep.Upon
set_option maxRecDepth 100000
set_option maxHeartbeats 16000000
namespace Go.Proofs.YtgimbocoamnkjaaGreatDoor
open _root_.Go.Proofs.Tryz
open Nat (mod_lt)
variable{l:List Pr}{ds:List Value}{v:Value}{W w:World}
open Go.RowKit
theorem TY:(prog.info? 3).map (fun i=>(i.zero,i.size,i.bytes))=some (some (.int .i64 0),1,8):=by kernel_rfl
theorem xS(l:List Int):∀u∈iv l,u.oneCell'=true:=by
 intro u hu;obtain ⟨_,_,rfl⟩:=List.mem_map.1 hu
 rfl
def Em(w:World)(ds:List Value)(l:List Pr):Prop:=ds.length=l.length∧∀(i:Nat)(d:Value)(p:Pr),ds[i]? =some d→l[i]? =some p→PC w d p
theorem Pt.rd(h:Pt W w v l):∃(ad:Option Addr)(c:Nat)(ds:List Value),v= .slice ad l.length c∧l.length≤c∧c≤9223372036854775807∧(ad=none→c=0)∧Rd w 5 ad l.length (mw ds l)∧Em W ds l:=by
 obtain ⟨ad,c,rfl,h1,h2,h3,h4⟩:=h;by_cases h0:0<l.length
 ·obtain ⟨b,o,rfl,h5⟩:=h4 h0;have hex:∀i,i<l.length→∃d,∃p,l[i]? =some p∧P5 w b (o+i*5) d p∧PC W d p:=fun i hi=>by
   obtain ⟨d,h6,h7⟩:=h5 i hi;exact ⟨d,l[i],List.getElem?_eq_getElem hi,h6,h7⟩
  have:Inhabited Value:=⟨undef⟩
  obtain ⟨f,hf⟩:=Go.Deep.choose_lt (n:=l.length) (p:=fun i d=>∃p,l[i]? =some p∧P5 w b (o+i*5) d p∧PC W d p) hex;have hl:((List.range l.length).map f).length=l.length:=by simp
  refine ⟨_,_,(List.range l.length).map f,rfl,h1,h2,h3,⟨?_,fun _=>⟨b,o,rfl,fun j hj=> ?_⟩⟩,hl,fun i d0 p0 zh uG=> ?_⟩
  ·unfold mw;rw [List.length_flatMap];have:((((List.range l.length).map f).zip l).map fun a=>(pc a).length)=List.replicate l.length 5:=by
    apply List.ext_getElem
    ·simp
    ·intro i q1 q2;simp [pc]
   rw [this];simp
  ·have hi:j / 5<l.length:=by omega
   obtain ⟨p,hp,h6,_⟩:=hf (j / 5) hi;rw [List.getElem?_eq_getElem hi] at hp;obtain rfl:=Option.some.inj hp;have bJ:=Ej ((List.range l.length).map f) l hl (j / 5) hi (j % 5) (by omega);rw [show j / 5*5+j % 5=j by omega] at bJ;rw [bJ];have e:((List.range l.length).map f)[j / 5]'(by rw [hl];exact hi)=f (j / 5):=by simp
   rw [e];have hm:j % 5<5:=mod_lt _ (by omega);have he:j=j / 5*5+j % 5:=by omega
   obtain ⟨q,hq⟩:=ai (j % 5);rw [hq] at hm he⊢;rw [show o+j=o+j / 5*5+q by omega]
   match q,hm with
   |0,_=>exact h6.1
   |1,_=>exact h6.2.1
   |2,_=>exact h6.2.2.1
   |3,_=>exact h6.2.2.2.1
   |4,_=>exact h6.2.2.2.2
  ·have hi:=(List.getElem?_eq_some_iff.1 uG).1;obtain ⟨p,hp,_,h7⟩:=hf i hi;rw [uG] at hp;obtain rfl:=Option.some.inj hp;have e:((List.range l.length).map f)[i]? =some (f i):=by simp [hi]
   rw [e] at zh;obtain rfl:=Option.some.inj zh;exact h7
 ·have acD:l= []:=List.eq_nil_of_length_eq_zero (by omega);subst acD;exact ⟨ad,c,[],rfl,h1,h2,h3,Rd.nil _ _ _,rfl,fun i d p hd hp=>by simp at hp⟩
theorem acE(h:Em w ds l):∀u∈mw ds l,u.oneCell'=true:=by
 intro u hu;unfold mw at hu;obtain ⟨x,hx,NI⟩:=List.mem_flatMap.1 hu;obtain ⟨i,hi,rfl⟩:=List.getElem_of_mem hx;have lB:i<l.length:=by rw [List.length_zip] at hi;omega
 have hid:i<ds.length:=by rw [List.length_zip] at hi;omega
 obtain ⟨a,c,e,_⟩:=(h.2 i _ _ (List.getElem?_eq_getElem hid) (List.getElem?_eq_getElem lB)).hd;rw [List.getElem_zip,e] at NI;simp only [pc,List.mem_cons,List.not_mem_nil,or_false] at NI;rcases NI with rfl|rfl|rfl|rfl|rfl<;>rfl
theorem acF(v:Value)(l:List Int)(w:World)(hv:Is w v l)(hl:l.length≤1000000)(R:Ending→World→Prop)
 (hR:∀ad c w',w'.ownsRow w 3 1 (.slice ad l.length c) l.length (iv l)→Below w w w'→R (.returned (.slice ad l.length c)) w'):
 Calls prog 102 #[v] w R:=by
 obtain ⟨ad,c,rfl,hr,h1,h2,h3⟩:=hv;cases ad with
 |none=>
  have hc:c=0:=h3 rfl;subst hc;have m7:l= []:=List.eq_nil_of_length_eq_zero (by omega);subst m7;have he:∀w:World,(binOp .eql 25 (.slice none 0 0) (.slice none 0 0)).run prog w= .ok (.bool true) w:=fun _=>rfl;go_enter func102,ntmps102;go_wp2;exact hR _ _ _ (World.ownsRow_nil _ _ _ _) (Below.refl _ _)
 |some a=>
  have he:∀w:World,(binOp .eql 25 (.slice (some a) l.length c) (.slice none 0 0)).run prog w= .ok (.bool false) w:=fun _=>rfl;have aV:=(World.ownsRow_made (base:=w.heap.size) (e:=3) (size:=1) w #[] 0 (Nat.le_refl _) (by unfold maxLen;omega) rfl)
  have gu:=FU hr (.cells #[] 3);go_enter func102,ntmps102;go_wp2_with (at_builtin;go_must (refine j9 (by rfl) (.tmp 5) (.tmp 6) 25 (by rfl) w 3 (.int .i64 0) 1 8 underlying25 TY rfl (by decide) _ _ _ _ rfl aV _ _ _ _ rfl gu (xS _) h3 (by unfold maxLen;omega) (by omega) (by simp) ?_));intro iR c2 w2 ct bM;have ah:=bC ((Below.refl w w).alloc (Nat.le_refl _) _) bM (by simp) aV;clear bM aV gu hr;go_wp2;exact hR _ _ _ ct ah
theorem acG(v:Value)(l:List Pr)(W w:World)(hv:Pt W w v l)(hl:l.length≤1000000)(R:Ending→World→Prop)
 (hR:∀ad c (ds:List Value) w',w'.ownsRow w 147 5 (.slice ad l.length c) l.length (mw ds l)→Em W ds l→Below w w w'→R (.returned (.slice ad l.length c)) w'):
 Calls prog 140 #[v] w R:=by
 obtain ⟨ad,c,ds,rfl,h1,h2,h3,hr,hd⟩:=hv.rd;have HE:=ab hd;have HR:=ab hR;clear hR hv hd;cases ad with
 |none=>
  have hc:c=0:=h3 rfl;subst hc;have m7:l= []:=List.eq_nil_of_length_eq_zero (by omega);subst m7;have B_:ds= []:=List.eq_nil_of_length_eq_zero (by have:=HE.o_.1;simpa using this);subst B_;have he:∀w:World,(binOp .eql 32 (.slice none 0 0) (.slice none 0 0)).run prog w= .ok (.bool true) w:=fun _=>rfl;go_enter func140,ntmps140;go_wp2;exact HR.o_ none 0 [] _ (World.ownsRow_nil _ _ _ _) HE.o_ (Below.refl _ _)
 |some a=>
  have he:∀w:World,(binOp .eql 32 (.slice (some a) l.length c) (.slice none 0 0)).run prog w= .ok (.bool false) w:=fun _=>rfl;have aV:=(World.ownsRow_made (base:=w.heap.size) (e:=147) (size:=5) w #[] 0 (Nat.le_refl _) (by unfold maxLen;omega) rfl)
  have gu:=FU hr (.cells #[] 147);have qK:=ab (acE HE.o_);go_enter func140,ntmps140;go_wp2_with (at_builtin;go_must (refine j9 (by rfl) (.tmp 5) (.tmp 6) 32 (by rfl) w 147 (.agg hZ) 5 72 underlying32 Tryz.xP rfl (by decide) _ _ _ _ rfl aV _ _ _ _ rfl gu qK.o_ h3 (by unfold maxLen;omega) (by omega) (by simp) ?_));intro iR c2 w2 ct bM;have ah:=bC ((Below.refl w w).alloc (Nat.le_refl _) _) bM (by simp) aV;have aY:=ab ah;have ix:=ab ct;clear bM aV gu hr ct ah;go_wp2;exact HR.o_ _ _ ds _ (by have:=ix.o_;simpa using this) HE.o_ aY.o_
variable{xs:List Value}{B base e n size:Nat}{M M':Nat→Prop}{w':World}
structure Sep(M M':Nat→Prop)(w w':World):Prop where
 os:w'.os=w.os
 tape:w'.tape=w.tape
 output:w'.output=w.output
 size:w.heap.size≤w'.heap.size
 block:∀b,b<w.heap.size→¬M b→w'.heap[b]? =w.heap[b]?
 new:∀b,M' b→M b∨w.heap.size≤b
 fl:∀F,(∃m,M m∧m≤F)→∃m,M' m∧m≤F
theorem Sep.refl(M:Nat→Prop)(w:World):Sep M M w w:=⟨rfl,rfl,rfl,Nat.le_refl _,fun _ _ _=>rfl,fun _ h=> .inl h,fun _ h=>h⟩
theorem Sep.trans{AI:Nat→Prop}{a b c:World}(h:Sep M M' a b)(k:Sep M' AI b c):Sep M AI a c:=
 ⟨k.os.trans h.os,k.tape.trans h.tape,k.output.trans h.output,Nat.le_trans h.size k.size,
  fun i hi hM=>(k.block i (Nat.lt_of_lt_of_le hi h.size) (fun hm=>by
   rcases h.new i hm with h1|h1
   ·exact hM h1
   ·omega)).trans (h.block i hi hM),
  fun i hi=>by
   rcases k.new i hi with h1|h1
   ·exact h.new i h1
   ·have:=h.size;exact .inr (by omega),fun F hF=>k.fl F (h.fl F hF)⟩
theorem Sep.cU(h:Below w w w'):Sep M M w w':=⟨h.os,h.tape,h.output,h.size,fun b hb _=>h.block b hb,fun _ h=> .inl h,fun _ h=>h⟩
theorem Sep.below{a:World}(h:Sep M M' a w)(hb:Below w w w'):Sep M M' a w':=h.trans (.cU hb)
theorem Sep.kn{row:Option Nat}(h:w.grownBy w' row)(hr:∀k,row=some k→M k):Sep M M w w':=
 ⟨h.os,h.tape,h.output,h.size,fun b hb hM=>h.block b hb (fun e=>hM (hr b e.symm)),fun _ h=> .inl h,fun _ h=>h⟩
theorem Sep.more{AI:Nat→Prop}(h:Sep M M' w w')(hm:∀b,AI b→M' b∨w.heap.size≤b)(hf:∀F,(∃m,M' m∧m≤F)→∃m,AI m∧m≤F):Sep M AI w w':=
 ⟨h.os,h.tape,h.output,h.size,h.block,fun b hb=>by
  rcases hm b hb with h1|h1
  ·exact h.new b h1
  ·exact .inr h1,fun F hF=>hf F (h.fl F hF)⟩
theorem Sep.low(h:Sep M M' w w')(hB:B≤w.heap.size)(hM:∀b,M b→B≤b):Below B w w':=
 ⟨h.os,h.tape,h.output,h.size,fun k hk=>h.block k (by omega) (fun hm=>by have:=hM k hm;omega)⟩
def Safe(M:Nat→Prop)(w:World)(p:World→Prop):Prop:=∀M' w',Sep M M' w w'→p w'
theorem Safe.o_{p:World→Prop}(h:Safe M w p):p w:=h M w (.refl M w)
theorem Safe.sep{p:World→Prop}(h:Safe M w p)(hs:Sep M M' w w'):Safe M' w' p:=fun AI Ca k=>h AI Ca (hs.trans k)
theorem Safe.imp{p q:World→Prop}(h:Safe M w p)(hi:∀x,p x→q x):Safe M w q:=fun M' w' k=>hi w' (h M' w' k)
theorem TZ(h:w.ownsRow base e size v n xs)(hv:∀k,v.ownBlock=some k→¬M k):Safe M w fun x=>x.ownsRow base e size v n xs:=fun M' w' s=>by
 refine ⟨h.1,?_⟩;rcases h.2 with hn|⟨g,cap,cur,rfl,hbg,hg,rest⟩
 ·exact .inl hn
 ·refine .inr ⟨g,cap,cur,rfl,hbg,?_,rest⟩;rw [s.block g (Array.getElem?_eq_some_iff.1 hg).1 (hv g rfl)];exact hg
open List (getElem_set_ne getElem_take pairwise_append)
variable{K g k t:Nat}{fr:Nat×Nat}{p:Pr}{d:Value}{w1 w2:World}
structure Nt where
 aJ:List UInt8
 az:List UInt8
 al:Int
 aE:Bool
 src:List UInt8
 aN:Int
 props:List Pr
 origin:Int
 number:Int
 aQ:Int
deriving DecidableEq
structure AJ(x:Nt):Prop where
 t:x.aJ.length≤100000
 p:x.az.length≤100000
 s:x.src.length≤100000
 l:x.props.length≤100000
 e:∀p∈x.props,PB p
 q: -9223372036854775808≤x.al∧x.al≤9223372036854775807
theorem jv{cs:Array Value}(h:w.ownsRow B e size v n xs)(hK:w.heap[K]? =some (.cells cs t fr))(ht:t≠e)(hg:w.grownBy w' (some K)):w'.ownsRow B e size v n xs:=
 cY h hg fun k hk hc=>dU hK h ht (by rw [hk,hc])
theorem cZ.typed{cs:Array Value}(h:cZ w B v l)(hK:w.heap[K]? =some (.cells cs t fr))(h1:t≠147)(h2:t≠5)(hg:w.grownBy w' (some K)):cZ w' B v l:=by
 obtain ⟨ds,hd,hr,he,ha⟩:=h;exact ⟨ds,hd,jv hr hK h1 hg,fun i hi=>jv (he i hi) hK h2 hg,ha⟩
theorem rz(w:World)(K:Nat)(cs:Array Value):w.grownBy (w.setRow K cs) (some K):=
 ⟨rfl,rfl,rfl,by simp,fun i _ hi=>setRow_other w K i cs (fun e=>hi (by rw [e]))⟩
structure Cp(W w:World)(B k:Nat)(v:Value)(ds:List Value)(l:List Pr):Prop where
 len:ds.length=l.length
 row:w.ownsRow B 147 5 v l.length (mw ds l)
 old:∀(i:Nat)(d:Value)(p:Pr),k≤i→ds[i]? =some d→l[i]? =some p→PC W d p
 new:∀(i:Nat)(d:Value)(p:Pr),i<k→ds[i]? =some d→l[i]? =some p→w.ownsRow B 5 1 d p.data.length (bv p.data)
 apart:(ds.take k).Pairwise fR
theorem Cp.start(h:w.ownsRow B 147 5 v l.length (mw ds l))(hd:Em W ds l):Cp W w B 0 v ds l:=
 ⟨hd.1,h,fun i d p _ h1 h2=>hd.2 i d p h1 h2,fun i d p h1=>by omega,by simp⟩
theorem Cp.below(h:Cp W w B k v ds l)(hb:Below w w w'):Cp W w' B k v ds l:=
 ⟨h.len,aK h.row hb,h.old,fun i d p h1 h2 h3=>aK (h.new i d p h1 h2 h3) hb,h.apart⟩
theorem acH(ds:List Value)(l:List Pr)(h:ds.length=l.length)(k:Nat)(hk:k<l.length)(d:Value):mw (ds.set k d) l=(mw ds l).set (k*5+4) d:=by
 have aX:∀ds:List Value,ds.length=l.length→(mw ds l).length=l.length*5:=fun ds h=>by
  unfold mw;rw [List.length_flatMap];have:((ds.zip l).map fun a=>(pc a).length)=List.replicate l.length 5:=by
   apply List.ext_getElem
   ·simp [h]
   ·intro i q1 q2;simp [pc]
  rw [this];simp
 have hs:(ds.set k d).length=l.length:=by rw [List.length_set];exact h
 apply List.ext_getElem?;intro j;by_cases hj:j<l.length*5
 ·have hi:j / 5<l.length:=by omega
  have hm:j % 5<5:=mod_lt _ (by omega);have he:j=j / 5*5+j % 5:=by omega
  obtain ⟨q,hq⟩:=ai (j % 5);obtain ⟨i,zi⟩:=ai (j / 5);rw [hq,zi] at he;rw [hq] at hm;rw [zi] at hi;rw [List.getElem?_set,he,Ej _ l hs i hi q hm,Ej ds l h i hi q hm];by_cases e:i=k
  ·subst e;simp only [List.getElem_set_self]
   match q,hm with
   |0,_=>rw [if_neg (by omega)];rfl
   |1,_=>rw [if_neg (by omega)];rfl
   |2,_=>rw [if_neg (by omega)];rfl
   |3,_=>rw [if_neg (by omega)];rfl
   |4,_=>rw [if_pos rfl,if_pos (by rw [aX ds h];omega)];rfl
  ·rw [getElem_set_ne (by omega),if_neg (by omega)]
 ·rw [List.getElem?_eq_none (by rw [aX _ hs];omega),List.getElem?_eq_none (by rw [List.length_set,aX _ h];omega)]
theorem Cp.step{c:Nat}{a:Option Addr}(h:Cp W w B k (.slice (some ⟨g,0,none⟩) n c) ds l)(hB:B≤w.heap.size)(hk:l[k]? =some p)(hd:w1.ownsRow w 5 1 d p.data.length (bv p.data))(hb:Below w w w1)
 (h2:w2=w1.setCell ⟨g,k*5+4,none⟩ d) (_:a=some ⟨g,0,none⟩):Cp W w2 B (k+1) (.slice (some ⟨g,0,none⟩) n c) (ds.set k d) l:=by
 subst h2;have f_:=(List.getElem?_eq_some_iff.1 hk).1;have gu:=aK h.row hb;have hn:n=l.length:=by
  obtain ⟨ad,c',e⟩:=bF h.row;simp only [Value.slice.injEq] at e;exact e.2.1
 subst hn;have T2:eF 5 w1 (w1.setCell ⟨g,k*5+4,none⟩ d):=eF.Ek gu (gu.stored (k*5+4) d).2 (by decide);refine ⟨by rw [List.length_set];exact h.len,?_,fun i d' p' h1 h2 h3=> ?_,fun i d' p' h1 h2 h3=> ?_,?_⟩
 ·rw [acH ds l h.len k f_];exact (gu.stored (k*5+4) d).1
 ·rw [List.getElem?_set_ne (by omega)] at h2;exact h.old i d' p' (by omega) h2 h3
 ·by_cases e:i=k
  ·subst e;rw [List.getElem?_set_self (by rw [h.len];exact f_)] at h2;obtain rfl:=Option.some.inj h2;rw [hk] at h3;obtain rfl:=Option.some.inj h3;exact T2 _ _ _ _ (bN hd hB)
  ·rw [List.getElem?_set_ne (by omega)] at h2;exact T2 _ _ _ _ (aK (h.new i d' p' (by omega) h2 h3) hb)
 ·have hl:k<ds.length:=by rw [h.len];exact f_
  have e:(ds.set k d).take (k+1)=ds.take k++ [d]:=by
   rw [List.take_succ_eq_append_getElem (by rw [List.length_set];exact hl),List.take_set_of_le (Nat.le_refl _)];simp
  rw [e,pairwise_append];refine ⟨h.apart,by simp,fun x hx y hy=> ?_⟩;obtain rfl:=List.mem_singleton.1 hy;intro b aw ah;obtain ⟨i,hi,rfl⟩:=List.getElem_of_mem hx;have FW:i<k:=by rw [List.length_take] at hi;omega
  rw [getElem_take] at aw;have lB:i<l.length:=by omega
  have:=h.new i _ _ FW (List.getElem?_eq_getElem (by omega)) (List.getElem?_eq_getElem lB);have q1:=(this.lt b aw).2;have q2:=(hd.lt b ah).1
  omega
theorem Cp.acI(h:Cp W w B k v ds l)(hk:l.length≤k):cZ w B v l:=by
 have hl:=h.len;refine ⟨ds,h.len,h.row,fun i hi=> ?_,?_⟩
 ·exact h.new i _ _ (by omega) (List.getElem?_eq_getElem (by omega)) (List.getElem?_eq_getElem hi)
 ·have:=h.apart
  rwa [List.take_of_length_le (by omega)] at this
theorem Cp.cell{c:Nat}(h:Cp W w B k (.slice (some ⟨g,0,none⟩) n c) ds l)(hk:k<l.length):∃d p,l[k]? =some p∧PC W d p∧w.cell? ⟨g,k*5+4,none⟩=some d:=by
 have hl:=h.len;refine ⟨ds[k]'(by omega),l[k],List.getElem?_eq_getElem hk,h.old k _ _ (Nat.le_refl _) (List.getElem?_eq_getElem (by omega)) (List.getElem?_eq_getElem hk),?_⟩;have hn:n=l.length:=by
  obtain ⟨ad,c',e⟩:=bF h.row;simp only [Value.slice.injEq] at e;exact e.2.1
 subst hn;have:=h.row.cellAt (k*5+4) (by omega);rw [this,Ej ds l h.len k hk 4 (by omega)]
 rfl
def nR(_:Nt)(_:Option Addr)(_:Nat)(_:Option Addr)(_:Nat):Zt:=Zt.a
instance apU{x:Nt}{a:Option Addr}{b:Nat}{c:Option Addr}{d:Nat}:CoeDep Zt (nR x a b c d) (Array Value):=⟨#[.string (str x.aJ),.slice a x.az.length b,.int .i64 x.al,.bool x.aE,.string (str x.src),.int .i64 x.aN,.slice c x.props.length d,.int .i64 x.origin,.int .i64 x.number,.int .i64 x.aQ]⟩
instance apV{x:Nt}{a:Option Addr}{b:Nat}{c:Option Addr}{d:Nat}:CoeDep Zt (nR x a b c d) (List Value):=⟨[.string (str x.aJ),.slice a x.az.length b,.int .i64 x.al,.bool x.aE,.string (str x.src),.int .i64 x.aN,.slice c x.props.length d,.int .i64 x.origin,.int .i64 x.number,.int .i64 x.aQ]⟩
def xT(_:Nt)(_:Value)(_:Value):Zt:=Zt.a
instance apW{x:Nt}{a:Value}{b:Value}:CoeDep Zt (xT x a b) (Array Value):=⟨#[.string (str x.aJ),a,.int .i64 x.al,.bool x.aE,.string (str x.src),.int .i64 x.aN,b,.int .i64 x.origin,.int .i64 x.number,.int .i64 x.aQ]⟩
instance apX{x:Nt}{a:Value}{b:Value}:CoeDep Zt (xT x a b) (List Value):=⟨[.string (str x.aJ),a,.int .i64 x.al,.bool x.aE,.string (str x.src),.int .i64 x.aN,b,.int .i64 x.origin,.int .i64 x.number,.int .i64 x.aQ]⟩
theorem acJ(x:Nt)(pv qv:Value)(w:World)(hp:Bs w pv x.az)(hq:Ps w qv x.props)(hB:AJ x)(R:Ending→World→Prop)
 (hR:∀pa pc qa qc w',w'.ownsRow w 5 1 (.slice pa x.az.length pc) x.az.length (bv x.az)→cZ w' w.heap.size (.slice qa x.props.length qc) x.props→Below w w w'→R (.returned (Value.agg (nR x pa pc qa qc))) w'):
 Calls prog 101 #[(Value.agg (xT x pv qv))] w R:=by
 have HR:=ab hR;have HP:=ab hp;have HQ:=ab hq;have qL:=ab hB;obtain ⟨pa,pc,rfl,_⟩:=hp;obtain ⟨qa,qc,rfl,_⟩:=hq;obtain ⟨aJ,az,al,aE,src,aN,props,origin,number,aQ⟩:=x;simp only at*;clear hR hB;have aw:Below w w ((w.alloc (Obj.cells (gV aJ pa az pc al aE src aN qa props qc origin number aQ) 34)).alloc (Obj.cells fW 34)):=((Below.refl _ _).alloc (Nat.le_refl _) _).alloc (by simp) _;have n0:=gq (o':=(Obj.cells fW 34)) (heap_alloc_new w (Obj.cells (gV aJ pa az pc al aE src aN qa props qc origin number aQ) 34));have n1:=heap_alloc_new (w.alloc (Obj.cells (gV aJ pa az pc al aE src aN qa props qc origin number aQ) 34)) (Obj.cells fW 34);rw [show (w.alloc (Obj.cells (gV aJ pa az pc al aE src aN qa props qc origin number aQ) 34)).heap.size=w.heap.size+1 by simp] at n1;have bP:=ab aw;have N0:=ab n0;have N1:=ab n1;clear aw n0 n1;go_enter func101,ntmps101;go_wp2_with (first
  |(go_at_call 139;go_must (refine TX _ az _ (HP.o_.below bP.o_) (by have:=qL.o_.p;simp only at this;omega) _ ?_);intro uH uI w3 bD an;have r3:=aA N0.o_ an;have f3:=aB r3 1;have c1:=af w3 w.heap.size 1 _ _ _ r3;have c6:=af w3 w.heap.size 6 _ _ _ r3;have R3:=ab (heap_setCell_same w3 w.heap.size 1 _ _ (.slice uH az.length uI) r3);have Z3:=ab ((heap_setCell_other w3 ⟨w,1,none⟩ (w.heap.size+1) (.slice uH az.length uI) (by simp)).trans (aA N1.o_ an));have bU:=ab ((aD bP.o_ an bP.o_.size).setCell (p:=⟨w,1,none⟩) (Nat.le_refl _) (.slice uH az.length uI));have eH:=ab (ownsRow_setCell_below bD (a:=⟨w,1,none⟩) ((Array.getElem?_eq_some_iff.1 N0.o_).1) (.slice uH az.length uI));clear r3 bD an)
  |(go_at_call 140;go_must (refine acG _ props w _ (HQ.o_.pt.below bU.o_) (by have:=qL.o_.l;simp only at this;omega) _ ?_);intro xU uJ ds w5 ez tw aC;have r5:=aA R3.o_ aC;have f5:=aB r5 6;have acK:=af w5 w.heap.size 6 _ _ _ r5;have R5:=ab (heap_setCell_same w5 w.heap.size 6 _ _ (.slice xU props.length uJ) r5);have Z5:=ab ((heap_setCell_other w5 ⟨w,6,none⟩ (w.heap.size+1) (.slice xU props.length uJ) (by simp)).trans (aA Z3.o_ aC));have T6:=aD bU.o_ aC bU.o_.size;have eb:=ab (T6.setCell (p:=⟨w,6,none⟩) (Nat.le_refl _) (.slice xU props.length uJ));have iy:=ab (ownsRow_setCell_below (aK eH.o_ aC) (a:=⟨w,6,none⟩) ((Array.getElem?_eq_some_iff.1 N0.o_).1) (.slice xU props.length uJ));have zj:=ab (show (w3.setCell ⟨w,1,none⟩ (.slice uH az.length uI)).heap.size≤(w5.setCell ⟨w,6,none⟩ (.slice xU props.length uJ)).heap.size by have:=aC.size;simpa [World.setCell] using this);have pR:=ab (Cp.start (ownsRow_setCell_below ez (a:=⟨w,6,none⟩) ((Array.getElem?_eq_some_iff.1 R3.o_).1) (.slice xU props.length uJ)) tw);clear r5 ez aC T6 tw))
 have En:Hid (w.heap.size+2≤(w3.setCell ⟨w,1,none⟩ (.slice uH az.length uI)).heap.size):=(Array.getElem?_eq_some_iff.1 Z3.o_).1;have FX:=Nat.le_trans En.o_ zj.o_;have jM:=ab (bN iy.o_ (show w.heap.size≤_ by simp;omega));obtain ⟨BB,T8⟩:=ai ((w3.setCell ⟨w,1,none⟩ (.slice uH az.length uI)).heap.size);rw [T8] at pR En zj;clear FX T8 iy bU eH R3 Z3 N0 N1 bP f3 c1 c6 f5 acK;generalize w5.setCell ⟨w,6,none⟩ (.slice xU props.length uJ)=w6 at pR jM eb Z5 R5 zj⊢;go_loopg [15] props.length (fun gn i wr=>∃(k:Nat)(ds:List Value),k≤props.length∧gn=props.length - k∧i= .int .i64 k∧Hid (Cp w wr BB k (.slice xU props.length uJ) ds props)∧Hid (wr.ownsRow w 5 1 (.slice uH az.length uI) az.length (bv az))∧Hid (Below w w wr)∧Hid (wr.heap[w.heap.size]? =some (Obj.cells (gV aJ uH az uI al aE src aN xU props uJ origin number aQ) 34))∧Hid (wr.heap[w.heap.size+1]? =some (Obj.cells fW 34))∧Hid (BB≤wr.heap.size))
 case atStart=>exact ⟨0,ds,Nat.zero_le _,by omega,rfl,pR,jM,eb,R5,Z5,zj⟩
 case round=>
  obtain ⟨k,acL,hk,rfl,rfl,HC,HO,HB,Cb,FY,eZ⟩:=hrel;obtain ⟨wo,rfl⟩:∃y,y=wr:=⟨_,rfl⟩
  clear pR jM eb R5 Z5;by_cases ao:k<props.length
  ·have bd:(k:Int)<(props.length:Int):=by omega
   obtain ⟨g,hg⟩:=et HC.o_.row (by omega);subst hg;obtain ⟨d,p,oM,JL,aW⟩:=HC.o_.cell ao;have AK:=ab oM;have zk:Below w w wo.drew:=HB.o_.drew;obtain ⟨da,dc,rfl,_⟩:=id JL.hd;have acM:=ab (JL.hd.below zk);have fz:=ab JL.ld;have c6:wo.drew.cell? ⟨w,6,none⟩=some (.slice (some ⟨g,0,none⟩) props.length uJ):=af wo w.heap.size 6 _ _ _ Cb.o_;have cd:wo.drew.cell? ⟨g,k*5+4,none⟩=some (.slice da p.data.length dc):=aW;clear oM JL aW zk;go_wp2_with fail;go_region_law (first
    |(go_simp;go_at_call 139;refine TX _ p.data wo.drew acM.o_ (Nat.le_trans fz.o_ (by decide)) _ ?_;intro jN jO w7 e_ aZ;have zl:=dw (Below.refl wo wo).drew aZ;have acN:=cell_later aZ c6;have c7:=cell_later aZ cd;have f7:=(HC.o_.below zl).row.frozenAt (k*5+4)))
   all_goals
    have JM:=HC.o_.below zl;have NH:BB≤g:=(JM.row.lt g rfl).1;have zm:w.heap.size+2≤g:=Nat.le_trans En.o_ NH;have qM:Hid (Cp w (w7.setCell ⟨g,k*5+4,none⟩ (.slice jN p.data.length jO)) BB (k+1) (.slice (some ⟨g,0,none⟩) props.length uJ) (acL.set k (.slice jN p.data.length jO)) props):=Cp.step HC.o_ eZ.o_ AK.o_ e_ zl rfl rfl;have kD:Hid ((w7.setCell ⟨g,k*5+4,none⟩ (.slice jN p.data.length jO)).ownsRow w 5 1 (.slice uH az.length uI) az.length (bv az)):=eF.Ek JM.row (JM.row.stored (k*5+4) _).2 (by decide) _ _ _ _ (aK HO.o_ zl);have fS:Hid (Below w w (w7.setCell ⟨g,k*5+4,none⟩ (.slice jN p.data.length jO))):=(aD HB.o_ zl HB.o_.size).setCell (p:=⟨g,k*5+4,none⟩) (by show w.heap.size≤g;omega) _;have JN:=ab ((heap_setCell_other w7 ⟨g,k*5+4,none⟩ w.heap.size (.slice jN p.data.length jO) (by show w.heap.size≠g;omega)).trans (aA Cb.o_ zl));have acO:=ab ((heap_setCell_other w7 ⟨g,k*5+4,none⟩ (w.heap.size+1) (.slice jN p.data.length jO) (by show w.heap.size+1≠g;omega)).trans (aA FY.o_ zl));have acP:Hid (BB≤(w7.setCell ⟨g,k*5+4,none⟩ (.slice jN p.data.length jO)).heap.size):=by
     show BB≤_;have h1:=eZ.o_;have h2:=zl.size;simp only [World.setCell,Array.size_modify]
     omega
    clear JM NH zm e_ aZ zl acN c7 f7 c6 cd;go_wp2_with fail;go_roundg (props.length - (k+1))
    case measure=>omega
    case rel=>exact ⟨k+1,_,by omega,rfl,by go_num,qM,kD,fS,JN,acO,acP⟩
  ·have bd:¬(k:Int)<(props.length:Int):=by omega
   have dn:=ab ((HC.o_.acI (by omega)).mono (Nat.le_trans (Nat.le_add_right _ 2) En.o_));clear HC;go_wp2_with (first
    |(refine wpList_load_row (o:=⟨some 31,.load 34 (.tmp 1),_,_,_,_⟩) (by rfl) 34 (.tmp 1) (by rfl) (w.heap.size) (by rfl) 34 _ (0,0) _ (Cb).o_ (underlying34) (by rfl) (by kernel_rfl) ?_)
    |(refine wpList_store_row (o:=⟨none,.store 34 (.tmp 2) (.tmp 31),_,_,_,_⟩) (by rfl) 34 (.tmp 2) (.tmp 31) (by rfl) (w.heap.size+1) _ (by rfl) (by rfl) 34 _ (FY).o_ (by kernel_rfl) (by rfl) (by simp [Value.oneCell']) ?_))
   refine bodyPost_ret (results_cell_row rfl _ _ (w.heap.size+1) 34 (gV aJ uH az uI al aE src aN xU props uJ origin number aQ) (0,0) _ rfl (setRow_heap _ (w.heap.size+1) _ _ _ _ FY.o_) underlying34 rfl (by kernel_rfl)) rfl ?_;exact HR.o_ _ _ _ _ _ (jv HO.o_ FY.o_ (by decide) (rz _ _ _)) (dn.o_.typed FY.o_ (by decide) (by decide) (rz _ _ _)) (below_setRow HB.o_ (by omega) _)
theorem T9{P:Prop}(h:P:=by
 refine bO ?_ (bL _ ⟨N,9,none⟩ a9);refine bO ?_ (bL _ ⟨N,8,none⟩ a8);refine bO ?_ (bL _ ⟨N,7,none⟩ a7);refine bO ?_ (bL _ ⟨N,6,none⟩ a6);refine bO ?_ (bL _ ⟨N,5,none⟩ a5);refine bO ?_ (bL _ ⟨N,4,none⟩ a4);refine bO ?_ (bL _ ⟨N,3,none⟩ a3);refine bO ?_ (bL _ ⟨N,2,none⟩ a2);refine bO ?_ (bL _ ⟨N,1,none⟩ a1);exact bL _ ⟨N,0,none⟩ a0):P:=h
variable{B' N:Nat}{a f h pv qv:Value}
structure Im where
 note:Nt
 al:Int
 aM:Bool
 ids:List Int
 share:List UInt8
deriving DecidableEq
structure gb(x:Im):Prop where
 n:AJ x.note
 i:x.ids.length≤100000
 s:x.share.length≤100000
 q: -9223372036854775808≤x.al∧x.al≤9223372036854775807
structure gH(w:World)(pv qv iv:Value)(x:Im):Prop where
 p:Bs w pv x.note.az
 q:Ps w qv x.note.props
 i:Is w iv x.ids
structure dJ(w:World)(B:Nat)(pv qv iv:Value)(x:Im):Prop where
 p:w.ownsRow B 5 1 pv x.note.az.length (bv x.note.az)
 q:cZ w B qv x.note.props
 i:w.ownsRow B 3 1 iv x.ids.length (Go.Proofs.YtgimbocoamnkjaaGreatDoor.iv x.ids)
theorem gH.below{iv:Value}{x:Im}(h:gH w pv qv iv x)(hb:Below w w w'):gH w' pv qv iv x:=⟨h.p.below hb,h.q.below hb,h.i.below hb⟩
theorem gH.shape{iv:Value}{x:Im}(h:gH w pv qv iv x):(∃a c,pv= .slice a x.note.az.length c)∧(∃a c,qv= .slice a x.note.props.length c)∧∃a c,iv= .slice a x.ids.length c:=by
 obtain ⟨a,c,e,_⟩:=h.p;obtain ⟨a1,c1,e1,_⟩:=h.q;obtain ⟨a2,c2,e2,_⟩:=h.i;exact ⟨⟨a,c,e⟩,⟨a1,c1,e1⟩,a2,c2,e2⟩
theorem dJ.below{iv:Value}{x:Im}(h:dJ w B pv qv iv x)(hb:Below w w w'):dJ w' B pv qv iv x:=⟨aK h.p hb,h.q.below hb,aK h.i hb⟩
theorem dJ.mono{iv:Value}{x:Im}(h:dJ w B pv qv iv x)(hB:B'≤B):dJ w B' pv qv iv x:=⟨bN h.p hB,h.q.mono hB,bN h.i hB⟩
theorem dJ.shape{iv:Value}{x:Im}(h:dJ w B pv qv iv x):(∃a c,pv= .slice a x.note.az.length c)∧(∃a c,qv= .slice a x.note.props.length c)∧∃a c,iv= .slice a x.ids.length c:=
 ⟨bF h.p,h.q.shape,bF h.i⟩
theorem dJ.c{iv:Value}{x:Im}(h:dJ w B pv qv iv x)(hb:gb x):gH w pv qv iv x:=by
 obtain ⟨⟨a,c,rfl⟩,⟨a1,c1,rfl⟩,a2,c2,rfl⟩:=h.shape;exact ⟨(eD h.p).2,h.q.ps hb.n.e,JI h.i rfl⟩
theorem dJ.typed{cs:Array Value}{iv:Value}{x:Im}(h:dJ w B pv qv iv x)(hK:w.heap[K]? =some (.cells cs t fr))(h1:t≠147)(h2:t≠5)(h3:t≠3)(hg:w.grownBy w' (some K)):dJ w' B pv qv iv x:=
 ⟨jv h.p hK h2 hg,h.q.typed hK h1 h2 hg,jv h.i hK h3 hg⟩
theorem sx{b c e g i j k l m n:Value}(hN:w.heap[N]? =some (.cells #[a,b,c,d,e,f,g,h,i,j,k,l,m,n] t fr)):
 (w.cell? ⟨N,0,none⟩=some a∧w.cell? ⟨N,1,none⟩=some b∧w.cell? ⟨N,2,none⟩=some c∧w.cell? ⟨N,3,none⟩=some d∧w.cell? ⟨N,4,none⟩=some e∧w.cell? ⟨N,5,none⟩=some f∧w.cell? ⟨N,6,none⟩=some g)∧(w.cell? ⟨N,7,none⟩=some h∧w.cell? ⟨N,8,none⟩=some i∧w.cell? ⟨N,9,none⟩=some j∧w.cell? ⟨N,10,none⟩=some k∧w.cell? ⟨N,11,none⟩=some l∧w.cell? ⟨N,12,none⟩=some m∧w.cell? ⟨N,13,none⟩=some n):=
 ⟨⟨af w N 0 _ _ _ hN,af w N 1 _ _ _ hN,af w N 2 _ _ _ hN,af w N 3 _ _ _ hN,af w N 4 _ _ _ hN,af w N 5 _ _ _ hN,af w N 6 _ _ _ hN⟩,af w N 7 _ _ _ hN,af w N 8 _ _ _ hN,af w N 9 _ _ _ hN,af w N 10 _ _ _ hN,af w N 11 _ _ _ hN,af w N 12 _ _ _ hN,af w N 13 _ _ _ hN⟩
theorem acQ{x:World}{o0 o1 o2 o3 o4 o5 o6 o7 o8 o9 tx tz vU tA:Value}(h:x.heap[N]? =some (.cells #[o0,o1,o2,o3,o4,o5,o6,o7,o8,o9,tx,tz,vU,tA] t (0,0)))(a0 a1 a2 a3 a4 a5 a6 a7 a8 a9 a12:Value):
 (((((((((((x.setCell ⟨N,0,none⟩ a0).setCell ⟨N,1,none⟩ a1).setCell ⟨N,2,none⟩ a2).setCell ⟨N,3,none⟩ a3).setCell ⟨N,4,none⟩ a4).setCell ⟨N,5,none⟩ a5).setCell ⟨N,6,none⟩ a6).setCell ⟨N,7,none⟩ a7).setCell ⟨N,8,none⟩ a8).setCell ⟨N,9,none⟩ a9).setCell ⟨N,12,none⟩ a12).heap[N]? =some (.cells #[a0,a1,a2,a3,a4,a5,a6,a7,a8,a9,tx,tz,a12,tA] t (0,0))∧x.grownBy (((((((((((x.setCell ⟨N,0,none⟩ a0).setCell ⟨N,1,none⟩ a1).setCell ⟨N,2,none⟩ a2).setCell ⟨N,3,none⟩ a3).setCell ⟨N,4,none⟩ a4).setCell ⟨N,5,none⟩ a5).setCell ⟨N,6,none⟩ a6).setCell ⟨N,7,none⟩ a7).setCell ⟨N,8,none⟩ a8).setCell ⟨N,9,none⟩ a9).setCell ⟨N,12,none⟩ a12) (some N):=by
 have k0:_=some (Obj.cells #[a0,o1,o2,o3,o4,o5,o6,o7,o8,o9,tx,tz,vU,tA] t (0,0)):=heap_setCell_same _ N 0 _ _ a0 h;have k1:_=some (Obj.cells #[a0,a1,o2,o3,o4,o5,o6,o7,o8,o9,tx,tz,vU,tA] t (0,0)):=heap_setCell_same _ N 1 _ _ a1 k0;have k2:_=some (Obj.cells #[a0,a1,a2,o3,o4,o5,o6,o7,o8,o9,tx,tz,vU,tA] t (0,0)):=heap_setCell_same _ N 2 _ _ a2 k1;have k3:_=some (Obj.cells #[a0,a1,a2,a3,o4,o5,o6,o7,o8,o9,tx,tz,vU,tA] t (0,0)):=heap_setCell_same _ N 3 _ _ a3 k2;have k4:_=some (Obj.cells #[a0,a1,a2,a3,a4,o5,o6,o7,o8,o9,tx,tz,vU,tA] t (0,0)):=heap_setCell_same _ N 4 _ _ a4 k3;have k5:_=some (Obj.cells #[a0,a1,a2,a3,a4,a5,o6,o7,o8,o9,tx,tz,vU,tA] t (0,0)):=heap_setCell_same _ N 5 _ _ a5 k4;have k6:_=some (Obj.cells #[a0,a1,a2,a3,a4,a5,a6,o7,o8,o9,tx,tz,vU,tA] t (0,0)):=heap_setCell_same _ N 6 _ _ a6 k5;have k7:_=some (Obj.cells #[a0,a1,a2,a3,a4,a5,a6,a7,o8,o9,tx,tz,vU,tA] t (0,0)):=heap_setCell_same _ N 7 _ _ a7 k6;have k8:_=some (Obj.cells #[a0,a1,a2,a3,a4,a5,a6,a7,a8,o9,tx,tz,vU,tA] t (0,0)):=heap_setCell_same _ N 8 _ _ a8 k7;have k9:_=some (Obj.cells #[a0,a1,a2,a3,a4,a5,a6,a7,a8,a9,tx,tz,vU,tA] t (0,0)):=heap_setCell_same _ N 9 _ _ a9 k8;have acR:_=some (Obj.cells #[a0,a1,a2,a3,a4,a5,a6,a7,a8,a9,tx,tz,a12,tA] t (0,0)):=heap_setCell_same _ N 12 _ _ a12 k9;refine ⟨acR,?_⟩;refine bO ?_ (bL _ ⟨N,12,none⟩ a12);exact T9
theorem AL(x:Im)(pv qv ev:Value)(w:World)(hc:gH w pv qv ev x)(hB:gb x)(R:Ending→World→Prop)
 (hR:∀pa pc qa qc ea ec w',dJ w' w.heap.size (.slice pa x.note.az.length pc) (.slice qa x.note.props.length qc) (.slice ea x.ids.length ec) x→Below w w w'→R (.returned (Value.agg (qJ x.note.aJ pa x.note.az pc x.note.al x.note.aE x.note.src x.note.aN qa x.note.props qc x.note.origin x.note.number x.note.aQ x.al x.aM ea x.ids ec x.share))) w'):
 Calls prog 37 #[(Value.agg #[.string (str x.note.aJ),pv,.int .i64 x.note.al,.bool x.note.aE,.string (str x.note.src),.int .i64 x.note.aN,qv,.int .i64 x.note.origin,.int .i64 x.note.number,.int .i64 x.note.aQ,.int .i64 x.al,.bool x.aM,ev,.string (str x.share)])] w R:=by
 have HR:=ab hR;have HC:=ab hc;have qL:=ab hB;obtain ⟨⟨pa,pc,rfl⟩,⟨qa,qc,rfl⟩,ea,ec,rfl⟩:=hc.shape;obtain ⟨⟨aJ,az,c_,aE,src,aN,props,origin,number,aQ⟩,al,aM,ids,share⟩:=x;simp only at*;clear hR hB hc;obtain ⟨O0,m9⟩:=ai ((Obj.cells (qJ aJ pa az pc c_ aE src aN qa props qc origin number aQ al aM ea ids ec share) 36));have aw:Below w w ((w.alloc O0).alloc (Obj.cells a_ 36)):=((Below.refl _ _).alloc (Nat.le_refl _) _).alloc (by simp) _;have n0:=gq (o':=(Obj.cells a_ 36)) (heap_alloc_new w O0);have n1:=heap_alloc_new (w.alloc O0) (Obj.cells a_ 36);rw [show (w.alloc O0).heap.size=w.heap.size+1 by simp] at n1;have bP:=ab aw;have N0:=ab n0;have N1:=ab n1;rw [←m9] at bP N0 N1;clear aw n0 n1 m9;have JO:=ab (HC.o_.below bP.o_);go_enter func37,ntmps37;go_wp2_with fail;generalize (w.alloc (Obj.cells (qJ aJ pa az pc c_ aE src aN qa props qc origin number aQ al aM ea ids ec share) 36)).alloc (Obj.cells a_ 36)=w1 at bP N0 N1 JO⊢;have FZ:Hid (w.heap.size+2≤w1.heap.size):=(Array.getElem?_eq_some_iff.1 N1.o_).1;obtain ⟨⟨c0,c1,c2,c3,c4,c5,c6⟩,c7,c8,c9,gw,kq,jm,jP⟩:=sx (w:=w1.drew) N0.o_;have iU:Below w1 w1 w1.drew:=(Below.refl _ _).drew;go_region_law (first
  |(go_simp;go_at_call 101;refine acJ ⟨aJ,az,c_,aE,src,aN,props,origin,number,aQ⟩ _ _ w1.drew (JO.o_.p.below iU) (JO.o_.q.below iU) qL.o_.n _ ?_;intro xV xW xX xY w3 bD AM an;have cH:=dw iU an;have r3:=aA N0.o_ cH;obtain ⟨⟨d0,d1,d2,d3,d4,d5,d6⟩,d7,d8,d9,d10,d11,d12,d13⟩:=sx r3)
  |(go_simp;go_at_call 102;refine acF _ ids w3 (JO.o_.i.below cH) (by have:=qL.o_.i;simp only at this;omega) _ ?_;intro Eo Ep w5 ez aC;have r5:=aA r3 aC;obtain ⟨⟨e0,e1,e2,e3,e4,e5,e6⟩,e7,e8,e9,NJ,F0,Cc,acS⟩:=sx r5;have f5:=aB r5;have z5:=aA N1.o_ (dw cH aC)))
 all_goals
  obtain ⟨k7,kg⟩:=acQ r5 (.string (str aJ)) (.slice xV az.length xW) (.int .i64 c_) (.bool aE) (.string (str src)) (.int .i64 aN) (.slice xX props.length xY) (.int .i64 origin) (.int .i64 number) (.int .i64 aQ) (.slice Eo ids.length Ep);have NK:=dw cH aC;have nS:=eG kg z5 (by simp);have e_:dJ w5 w1.heap.size (.slice xV az.length xW) (.slice xX props.length xY) (.slice Eo ids.length Ep) ⟨⟨aJ,az,c_,aE,src,aN,props,origin,number,aQ⟩,al,aM,ids,share⟩:=⟨aK bD aC,AM.below aC,bN ez cH.size⟩
  replace e_:=(e_.typed r5 (by decide) (by decide) (by decide) kg).mono (B':=w.heap.size) (by have:=FZ.o_;omega);have aZ:Below w w _:=FT (aD bP.o_ NK bP.o_.size) kg (Nat.le_trans bP.o_.size NK.size) (fun k hk=>by cases hk;exact Nat.le_refl _);clear kg r5 z5 e0 e1 e2 e3 e4 e5 e6 e7 e8 e9 NJ F0 Cc acS f5 ez aC NK an cH r3 bD AM d0 d1 d2 d3 d4 d5 d6 d7 d8 d9 d10 d11 d12 d13 c0 c1 c2 c3 c4 c5 c6 c7 c8 c9 gw kq jm jP iU;generalize (((((((((((w5.setCell ⟨w,0,none⟩ (Value.string (str aJ))).setCell ⟨w,1,none⟩ (.slice xV az.length xW)).setCell ⟨w,2,none⟩ (.int .i64 c_)).setCell ⟨w,3,none⟩ (.bool aE)).setCell ⟨w,4,none⟩ (.string (str src))).setCell ⟨w,5,none⟩ (.int .i64 aN)).setCell ⟨w,6,none⟩ (.slice xX props.length xY)).setCell ⟨w,7,none⟩ (.int .i64 origin)).setCell ⟨w,8,none⟩ (.int .i64 number)).setCell ⟨w,9,none⟩ (.int .i64 aQ)).setCell ⟨w,12,none⟩ (.slice Eo ids.length Ep))=w7 at k7 nS e_ aZ⊢;have Cd:=ab k7;have NL:=ab nS;have mx:=ab e_;have gf:=ab aZ;clear k7 nS e_ aZ;go_wp2_with (first
   |(refine wpList_load_row (o:=⟨some 11,.load 36 (.tmp 1),_,_,_,_⟩) (by rfl) 36 (.tmp 1) (by rfl) (w.heap.size) (by rfl) 36 _ (0,0) _ (Cd).o_ (underlying36) (by rfl) (by kernel_rfl) ?_)
   |(refine wpList_store_row (o:=⟨none,.store 36 (.tmp 2) (.tmp 11),_,_,_,_⟩) (by rfl) 36 (.tmp 2) (.tmp 11) (by rfl) (w.heap.size+1) _ (by rfl) (by rfl) 36 _ (NL).o_ (by kernel_rfl) (by rfl) (by simp [Value.oneCell']) ?_))
  refine bodyPost_ret (results_cell_row rfl _ _ (w.heap.size+1) 36 (qJ aJ xV az xW c_ aE src aN xX props xY origin number aQ al aM Eo ids Ep share) (0,0) _ rfl (setRow_heap _ (w.heap.size+1) _ _ _ _ NL.o_) underlying36 rfl (by kernel_rfl)) rfl ?_;exact HR.o_ _ _ _ _ _ _ _ (mx.o_.typed NL.o_ (by decide) (by decide) (by decide) (rz _ _ _)) (below_setRow gf.o_ (by omega) _)
def cD(_:Int)(_:Int)(_:Im)(_:Option Addr)(_:Nat)(_:Option Addr)(_:Nat)(_:Option Addr)(_:Nat):Zt:=Zt.a
instance apY{f:Int}{g:Int}{x:Im}{a:Option Addr}{b:Nat}{c:Option Addr}{d:Nat}{e:Option Addr}{h:Nat}:CoeDep Zt (cD f g x a b c d e h) (Array Value):=⟨#[.int .i64 f,.int .i64 g,.string (str x.note.aJ),.slice a x.note.az.length b,.int .i64 x.note.al,.bool x.note.aE,.string (str x.note.src),.int .i64 x.note.aN,.slice c x.note.props.length d,.int .i64 x.note.origin,.int .i64 x.note.number,.int .i64 x.note.aQ,.int .i64 x.al,.bool x.aM,.slice e x.ids.length h,.string (str x.share)]⟩
instance apZ{f:Int}{g:Int}{x:Im}{a:Option Addr}{b:Nat}{c:Option Addr}{d:Nat}{e:Option Addr}{h:Nat}:CoeDep Zt (cD f g x a b c d e h) (List Value):=⟨[.int .i64 f,.int .i64 g,.string (str x.note.aJ),.slice a x.note.az.length b,.int .i64 x.note.al,.bool x.note.aE,.string (str x.note.src),.int .i64 x.note.aN,.slice c x.note.props.length d,.int .i64 x.note.origin,.int .i64 x.note.number,.int .i64 x.note.aQ,.int .i64 x.al,.bool x.aM,.slice e x.ids.length h,.string (str x.share)]⟩
def aG(_:Im)(_:Option Addr)(_:Nat)(_:Option Addr)(_:Nat)(_:Option Addr)(_:Nat):Zt:=Zt.a
instance ap0{x:Im}{a:Option Addr}{b:Nat}{c:Option Addr}{d:Nat}{e:Option Addr}{h:Nat}:CoeDep Zt (aG x a b c d e h) (Array Value):=⟨#[.string (str x.note.aJ),.slice a x.note.az.length b,.int .i64 x.note.al,.bool x.note.aE,.string (str x.note.src),.int .i64 x.note.aN,.slice c x.note.props.length d,.int .i64 x.note.origin,.int .i64 x.note.number,.int .i64 x.note.aQ,.int .i64 x.al,.bool x.aM,.slice e x.ids.length h,.string (str x.share)]⟩
instance ap1{x:Im}{a:Option Addr}{b:Nat}{c:Option Addr}{d:Nat}{e:Option Addr}{h:Nat}:CoeDep Zt (aG x a b c d e h) (List Value):=⟨[.string (str x.note.aJ),.slice a x.note.az.length b,.int .i64 x.note.al,.bool x.note.aE,.string (str x.note.src),.int .i64 x.note.aN,.slice c x.note.props.length d,.int .i64 x.note.origin,.int .i64 x.note.number,.int .i64 x.note.aQ,.int .i64 x.al,.bool x.aM,.slice e x.ids.length h,.string (str x.share)]⟩
def pS(_:Im)(_:Value)(_:Value)(_:Value):Zt:=Zt.a
instance ap2{x:Im}{a:Value}{b:Value}{c:Value}:CoeDep Zt (pS x a b c) (Array Value):=⟨#[.string (str x.note.aJ),a,.int .i64 x.note.al,.bool x.note.aE,.string (str x.note.src),.int .i64 x.note.aN,b,.int .i64 x.note.origin,.int .i64 x.note.number,.int .i64 x.note.aQ,.int .i64 x.al,.bool x.aM,c,.string (str x.share)]⟩
instance ap3{x:Im}{a:Value}{b:Value}{c:Value}:CoeDep Zt (pS x a b c) (List Value):=⟨[.string (str x.note.aJ),a,.int .i64 x.note.al,.bool x.note.aE,.string (str x.note.src),.int .i64 x.note.aN,b,.int .i64 x.note.origin,.int .i64 x.note.number,.int .i64 x.note.aQ,.int .i64 x.al,.bool x.aM,c,.string (str x.share)]⟩
open List (nil_append)
open Nat (add_mul zero_add)
variable{o:Obj}{v':Value}
def tB(w w':World)(v v':Value):Prop:=
 (∃b n n' c,v= .slice (some ⟨b,0,none⟩) n c∧v'= .slice (some ⟨b,0,none⟩) n' c∧w.grownBy w' (some b))∨((∃k,v'.ownBlock=some k∧w.heap.size≤k)∧w.grownBy w' none)
theorem uK{row:Option Nat}(h:w.grownBy w' none):w.grownBy w' row:=⟨h.os,h.tape,h.output,h.size,fun k hk _=>h.block k hk (by simp)⟩
theorem acT{Ca:World}(h:w.grownBy w' none)(h2:w'.grownBy Ca (some k))(hk:w.heap.size≤k):w.grownBy Ca none:=
 ⟨h2.os.trans h.os,h2.tape.trans h.tape,h2.output.trans h.output,Nat.le_trans h.size h2.size,fun j hj _=>by
  rw [h2.block j (by have:=h.size;omega) (by simp;omega)];exact h.block j hj (by simp)⟩
theorem tB.alloc(h:tB (w.alloc o) w' v v'):tB w w' v v':=by
 rcases h with ⟨b,n,n',c,h1,h2,h3⟩|⟨⟨k,h1,h2⟩,h3⟩
 ·exact .inl ⟨b,n,n',c,h1,h2,bO (World.grownBy_alloc w o _) h3⟩
 ·exact .inr ⟨⟨k,h1,by simp at h2;omega⟩,bO (World.grownBy_alloc w o _) h3⟩
theorem tB.grown(h:tB w w' v v'):w.grownBy w' v.ownBlock:=by
 rcases h with ⟨b,n,n',c,h1,h2,h3⟩|⟨⟨k,h1,h2⟩,h3⟩
 ·subst h1;exact h3
 ·exact uK h3
section
variable {P:Program} (w:World)
theorem T_{P:Prop}(h:P:=by
 rw [hr] at jw;simp only [Result.ok.injEq] at jw;obtain ⟨rfl,rfl⟩:=jw;exact .inr ⟨⟨w.heap.size,rfl,Nat.le_refl _⟩,⟨rfl,rfl,rfl,by simp,fun k hk _=>heap_alloc_old w.drew _ hk⟩⟩):P:=h
theorem JP(base:Nat)(t ty e:TypeId)(i:TypeInfo)(z:Value)(size bytes:Nat)(ht:P.underlying t=some (.slice e))(hi:P.info? e=some i)(hz:i.zero=some z)
 (oN:i.size=size) (oO:i.bytes=bytes) (gp:z.cells.size=size) (bm:0<size)
 (v:Value) (n:Nat) (xs:List Value) (aV:w.ownsRow base e size v n xs)
 (a:Addr) (m c:Nat) (news:List Value) (hl:news.length=m*size) (lC:∀j u,news[j]? =some u→w.cell? (a.add j)=some u) (h1:∀u∈news,u.oneCell'=true)
 (h63:n+m≤maxLen) (eQ:(n+m) *bytes≤140737488355328) (iS:base≤w.heap.size) (hm:0<m):
 ∃v' w',(Builtin.append_ #[t,t] ty #[v,.slice (some a) m c]).run P w= .ok v' w'∧w'.ownsRow base e size v' (n+m) (xs++news)∧tB w w' v v':=by
 obtain ⟨v',w',hr,h2,h3,_,_⟩:=run_append_own_at (P:=P) w base t ty e i z size bytes ht hi hz oN oO gp bm v n xs aV a m c news hl lC h1 h63 eQ iS;refine ⟨v',w',hr,h2,?_⟩;subst oN oO;have acU:n+m≤9223372036854775807:=by simp only [maxLen] at h63;omega
 rcases aV.2 with ⟨rfl,rfl⟩|⟨g,cap,cur,rfl,hbg,hg,sy,AN,dm,htake⟩
 ·have jw:=run_append_nil (P:=P) w t ty e i z ht hi hz a m c news hl lC hm (by omega) (by have hb:=eQ;simp only [zero_add] at hb;omega);exact T_
 ·by_cases zn:n+m≤cap
  ·have zo:n*i.size+news.length≤cur.size:=by rw [hl,dm,←add_mul];exact Nat.mul_le_mul_right _ zn
   have jw:=run_append_room (P:=P) w t ty e i ht hi g n cap cur hg a m c news hl lC h1 zn zo;rw [hr] at jw;simp only [Result.ok.injEq] at jw;obtain ⟨rfl,rfl⟩:=jw;exact .inl ⟨g,n,n+m,cap,rfl,rfl,h3⟩
  ·have holds:∀j u,xs[j]? =some u→w.cell? ((⟨g,0,none⟩:Addr).add j)=some u:=aV.cells (g:=g) rfl;have jw:=run_append_grow (P:=P) w t ty e i z ht hi hz ⟨g,0,none⟩ n cap xs aV.1 holds a m c news hl lC (by omega) (by omega) (growslice_fits (by omega) eQ);exact T_
end
theorem acV{P:Program}(base:Nat)(t ty e:TypeId)(i:TypeInfo)(z:Value)(size bytes:Nat)(ht:P.underlying t=some (.slice e))(hi:P.info? e=some i)(hz:i.zero=some z)
 (oN:i.size=size) (oO:i.bytes=bytes) (gp:z.cells.size=size) (bm:0<size)
 (a0:Option Addr) (aV:w.ownsRow base e size (.slice a0 0 0) 0 [])
 (ad:Option Addr) (m c:Nat) (news:List Value) (bG:Rd w size ad m news) (h1:∀u∈news,u.oneCell'=true) (gG:ad=none→c=0)
 (h63:m≤maxLen) (eQ:m*bytes≤140737488355328) (iS:base≤w.heap.size):
 ∃bq c' w',(Builtin.append_ #[t,t] ty #[.slice a0 0 0,.slice ad m c]).run P w= .ok (.slice bq m c') w'∧w'.ownsRow base e size (.slice bq m c') m news∧Below w w w':=by
 by_cases hm:0<m
 ·obtain ⟨b,o,rfl,hc⟩:=bG.2 (by have:=Nat.mul_pos hm bm;omega);obtain ⟨v',w',hr,h2,h3⟩:=JP (P:=P) w base t ty e i z size bytes ht hi hz oN oO gp bm _ 0 [] aV ⟨b,o,none⟩ m c news bG.1 (by
   intro j q hj;have pT:j<m*size:=by rw [←bG.1];exact (List.getElem?_eq_some_iff.1 hj).1
   rw [Addr.add_lit,hc j pT];exact hj) h1 (by omega) (by simpa using eQ) iS hm
  obtain ⟨bq,c',rfl⟩:=bF h2;rw [zero_add,nil_append] at h2;rw [zero_add] at hr h3;refine ⟨bq,c',w',hr,h2,?_⟩;rcases h3 with ⟨g,n',ap4,ap5,q1,q2,q3⟩|⟨_,q3⟩
  ·simp only [Value.slice.injEq] at q1 q2;obtain ⟨rfl,rfl,rfl⟩:=q1;have:=(rp h2).1
   omega
  ·exact (Below.refl _ _).grown q3 (Nat.le_refl _) (fun k hk=>by cases hk)
 ·obtain rfl:m=0:=by omega
  have dh:news= []:=List.eq_nil_of_length_eq_zero (by simpa using bG.1);subst dh;refine ⟨a0,0,w,?_,aV,Below.refl _ _⟩;have hs:Src P i.size t (.slice ad 0 c) 0 [] w:=by
   cases ad with
   |none=>exact Src.ofNil w ht c
   |some a=>exact Src.ofSlice w ht a 0 c [] (by simp) (by simp) (by simp)
  exact run_append_nothing w t t ty e i ht hi a0 0 0 (Nat.le_refl _) _ hs
theorem T'{P:Program}{o:Oper}{a:Act}{K:Act→World→Prop}{Q:Exit→Act→World→Prop}(s x:Operand)(t:TypeId)
 (ho:o.op= .call {callee:= .builtin .append,args:=#[s,x],argTypes:=#[t,t]})
 (base:Nat) (e:TypeId) (z:Value) (size bytes:Nat) (ht:P.underlying t=some (.slice e)) (j8:(P.info? e).map (fun i=>(i.zero,i.size,i.bytes))=some (some z,size,bytes)) (gp:z.cells.size=size) (bm:0<size)
 (a0:Option Addr) (hs:a.eval s= .slice a0 0 0) (aV:w.ownsRow base e size (.slice a0 0 0) 0 [])
 (ad:Option Addr) (m c:Nat) (news:List Value) (hx:a.eval x= .slice ad m c) (bG:Rd w size ad m news) (h1:∀u∈news,u.oneCell'=true) (gG:ad=none→c=0)
 (h63:m≤maxLen) (eQ:m*bytes≤140737488355328) (iS:base≤w.heap.size)
 (h:∀bq c' w',w'.ownsRow base e size (.slice bq m c') m news→Below w w w'→K (a.put o.dst (.slice bq m c')) w'):o.wp P a w K Q:=by
 obtain ⟨i,hi,hz,cQ,gU⟩:=info_parts j8;obtain ⟨bq,c',w',hr,h2,h3⟩:=acV (P:=P) base t o.type e i z size bytes ht hi hz cQ gU gp bm a0 aV ad m c news bG h1 gG h63 eQ iS;exact ND
theorem uL{P:Program}{ops:Array Oper}{o:Oper}{a:Act}{K:Act→World→Prop}{Q:Exit→Act→World→Prop}{E:Prop}(kT:o.guard=none)(s x:Operand)(t:TypeId)
 (ho:o.op= .call {callee:= .builtin .append,args:=#[s,x],argTypes:=#[t,t]})
 (base:Nat) (e:TypeId) (z:Value) (size bytes:Nat) (ht:P.underlying t=some (.slice e)) (j8:(P.info? e).map (fun i=>(i.zero,i.size,i.bytes))=some (some z,size,bytes)) (gp:z.cells.size=size) (bm:0<size)
 (a0:Option Addr) (hs:a.eval s= .slice a0 0 0) (aV:w.ownsRow base e size (.slice a0 0 0) 0 [])
 (ad:Option Addr) (m c:Nat) (news:List Value) (hx:a.eval x= .slice ad m c) (bG:Rd w size ad m news) (h1:∀u∈news,u.oneCell'=true) (gG:ad=none→c=0)
 (h63:m≤maxLen) (eQ:m*bytes≤140737488355328) (iS:base≤w.heap.size)
 (h:∀bq c' w',w'.ownsRow base e size (.slice bq m c') m news→Below w w w'→K (a.put o.dst (.slice bq m c')) w'):
 if Region.wanted o (yielded ops a.tmps)=true then Oper.wp P o a w K Q else E:=by
 have hw:Region.wanted o (yielded ops a.tmps)=true:=by simp [Region.wanted,kT]
 rw [if_pos hw];exact T' s x t ho base e z size bytes ht j8 gp bm a0 hs aV ad m c news hx bG h1 gG h63 eQ iS h
theorem br{a b c:World}(h:Below a a b)(h2:Below b b c):Below a a c:=h.trans (h2.mono h.size)
theorem acW{P:Program}(base:Nat)(t ty e:TypeId)(i:TypeInfo)(z:Value)(size bytes:Nat)(ht:P.underlying t=some (.slice e))(hi:P.info? e=some i)(hz:i.zero=some z)
 (oN:i.size=size) (oO:i.bytes=bytes) (gp:z.cells.size=size) (bm:0<size)
 (a0:Option Addr) (n c0:Nat) (xs:List Value) (aV:w.ownsRow base e size (.slice a0 n c0) n xs)
 (ad:Option Addr) (m c:Nat) (news:List Value) (bG:Rd w size ad m news) (h1:∀u∈news,u.oneCell'=true) (gG:ad=none→c=0)
 (h63:n+m≤maxLen) (eQ:(n+m) *bytes≤140737488355328) (iS:base≤w.heap.size):
 ∃bq c' w',(Builtin.append_ #[t,t] ty #[.slice a0 n c0,.slice ad m c]).run P w= .ok (.slice bq (n+m) c') w'∧w'.ownsRow base e size (.slice bq (n+m) c') (n+m) (xs++news)∧w.grownBy w' (Value.slice a0 n c0).ownBlock∧((Value.slice bq (n+m) c').ownBlock=(Value.slice a0 n c0).ownBlock∨(Value.slice bq (n+m) c').ownBlock=some w.heap.size):=by
 by_cases hm:0<m
 ·obtain ⟨b,o,rfl,hc⟩:=bG.2 (by have:=Nat.mul_pos hm bm;omega);obtain ⟨v',w',hr,h2,h3,_,h5⟩:=run_append_own_at (P:=P) w base t ty e i z size bytes ht hi hz oN oO gp bm _ n xs aV ⟨b,o,none⟩ m c news bG.1 (by
   intro j q hj;have pT:j<m*size:=by rw [←bG.1];exact (List.getElem?_eq_some_iff.1 hj).1
   rw [Addr.add_lit,hc j pT];exact hj) h1 h63 eQ iS
  obtain ⟨bq,c',rfl⟩:=bF h2;exact ⟨bq,c',w',hr,h2,h3,h5⟩
 ·obtain rfl:m=0:=by omega
  have dh:news= []:=List.eq_nil_of_length_eq_zero (by simpa using bG.1);subst dh;have hs:Src P i.size t (.slice ad 0 c) 0 [] w:=by
   cases ad with
   |none=>obtain rfl:=gG rfl;exact Src.ofNil w ht 0
   |some a=>exact Src.ofSlice w ht a 0 c [] (by simp) (by simp) (by simp)
  exact ⟨a0,c0,w,run_append_nothing w t t ty e i ht hi a0 n c0 (rp aV).1 _ hs,by simpa using aV,World.grownBy.refl _ _,.inl (by cases a0<;>rfl)⟩
theorem acX{P:Program}{o:Oper}{a:Act}{K:Act→World→Prop}{Q:Exit→Act→World→Prop}(s x:Operand)(t:TypeId)
 (ho:o.op= .call {callee:= .builtin .append,args:=#[s,x],argTypes:=#[t,t]})
 (base:Nat) (e:TypeId) (z:Value) (size bytes:Nat) (ht:P.underlying t=some (.slice e)) (j8:(P.info? e).map (fun i=>(i.zero,i.size,i.bytes))=some (some z,size,bytes)) (gp:z.cells.size=size) (bm:0<size)
 (a0:Option Addr) (n c0:Nat) (xs:List Value) (hs:a.eval s= .slice a0 n c0) (aV:w.ownsRow base e size (.slice a0 n c0) n xs)
 (ad:Option Addr) (m c:Nat) (news:List Value) (hx:a.eval x= .slice ad m c) (bG:Rd w size ad m news) (h1:∀u∈news,u.oneCell'=true) (gG:ad=none→c=0)
 (h63:n+m≤maxLen) (eQ:(n+m) *bytes≤140737488355328) (iS:base≤w.heap.size)
 (h:∀bq c' w',w'.ownsRow base e size (.slice bq (n+m) c') (n+m) (xs++news)→w.grownBy w' (Value.slice a0 n c0).ownBlock→((Value.slice bq (n+m) c').ownBlock=(Value.slice a0 n c0).ownBlock∨(Value.slice bq (n+m) c').ownBlock=some w.heap.size)→K (a.put o.dst (.slice bq (n+m) c')) w'):o.wp P a w K Q:=by
 obtain ⟨i,hi,hz,cQ,gU⟩:=info_parts j8;obtain ⟨bq,c',w',hr,h2,h3,h4⟩:=acW (P:=P) base t o.type e i z size bytes ht hi hz cQ gU gp bm a0 n c0 xs aV ad m c news bG h1 gG h63 eQ iS;unfold Oper.wp execOp;simp only [ho,resolve,invoke,builtin,Sem.run_bind,Sem.run_pure,Result.andThen_ok,List.map_toArray,List.map_cons,List.map_nil,hs,hx,hr];exact h bq c' w' h2 h3 h4
theorem gx{P:Program}{ops:Array Oper}{o:Oper}{a:Act}{K:Act→World→Prop}{Q:Exit→Act→World→Prop}{E:Prop}(kT:o.guard=none)(s x:Operand)(t:TypeId)
 (ho:o.op= .call {callee:= .builtin .append,args:=#[s,x],argTypes:=#[t,t]})
 (base:Nat) (e:TypeId) (z:Value) (size bytes:Nat) (ht:P.underlying t=some (.slice e)) (j8:(P.info? e).map (fun i=>(i.zero,i.size,i.bytes))=some (some z,size,bytes)) (gp:z.cells.size=size) (bm:0<size)
 (a0:Option Addr) (n c0:Nat) (xs:List Value) (hs:a.eval s= .slice a0 n c0) (aV:w.ownsRow base e size (.slice a0 n c0) n xs)
 (ad:Option Addr) (m c:Nat) (news:List Value) (hx:a.eval x= .slice ad m c) (bG:Rd w size ad m news) (h1:∀u∈news,u.oneCell'=true) (gG:ad=none→c=0)
 (h63:n+m≤maxLen) (eQ:(n+m) *bytes≤140737488355328) (iS:base≤w.heap.size)
 (h:∀bq c' w',w'.ownsRow base e size (.slice bq (n+m) c') (n+m) (xs++news)→w.grownBy w' (Value.slice a0 n c0).ownBlock→((Value.slice bq (n+m) c').ownBlock=(Value.slice a0 n c0).ownBlock∨(Value.slice bq (n+m) c').ownBlock=some w.heap.size)→K (a.put o.dst (.slice bq (n+m) c')) w'):
 if Region.wanted o (yielded ops a.tmps)=true then Oper.wp P o a w K Q else E:=by
 have hw:Region.wanted o (yielded ops a.tmps)=true:=by simp [Region.wanted,kT]
 rw [if_pos hw];exact acX s x t ho base e z size bytes ht j8 gp bm a0 n c0 xs hs aV ad m c news hx bG h1 gG h63 eQ iS h
end Go.Proofs.YtgimbocoamnkjaaGreatDoor
