/- The statement SessionPlays holds for the program, as the card says it; no conditions beyond the statement's own. -/
import Derived.Test.YtgimbocoamnkjaaGreatDoorM28
import Derived.Test.YtgimbocoamnkjaaGreatDoorM27
import Derived.Test.YtgimbocoamnkjaaGreatDoorM23
set_option maxRecDepth 100000
set_option maxHeartbeats 16000000
namespace Go.Proofs.YtgimbocoamnkjaaGreatDoor
open _root_.Go.Proofs.Tryz
open List (pairwise_append)
variable{x:Im}{B k:Nat}{v v' v1 v2 v3:Value}{w' iF:World}
open Go.RowKit
structure y_(wr:World)(B k:Nat)(v:Value)(l:List Im)(qs:List (V3×Im)):Prop where
 q:zP wr B k v l qs
 a:(qs.map (·.1.1)).Pairwise fR
 c:(qs.map (·.1.2.2)).Pairwise fR
theorem y_.below{wr:World}{l:List Im}{qs:List (V3×Im)}(h:y_ wr B k v l qs)(hb:Below wr wr iF):y_ iF B k v l qs:=⟨h.q.below hb,h.a,h.c⟩
structure abO(F:Nat)(qs:List (V3×Im))(v1 v3:Value):Prop where
 a:∀p∈qs,∀k,p.1.1.ownBlock=some k→k<F
 c:∀p∈qs,∀k,p.1.2.2.ownBlock=some k→k<F
 n1:∀k,v1.ownBlock=some k→F≤k
 n3:∀k,v3.ownBlock=some k→F≤k
theorem y_.fresh{wr:World}{l:List Im}{qs:List (V3×Im)}(h:y_ wr B k v l qs)(ho:dJ w' wr.heap.size v1 v2 v3 x):abO wr.heap.size qs v1 v3:=
 ⟨fun p hp k hk=>((h.q.new p hp).p.lt k hk).2,fun p hp k hk=>((h.q.new p hp).i.lt k hk).2,fun k hk=>(ho.p.lt k hk).1,fun k hk=>(ho.i.lt k hk).1⟩
theorem y_.push{wr:World}{F:Nat}{l:List Im}{qs:List (V3×Im)}(h:y_ wr B k v l qs)(hk:k<l.length)(hx:l[k]=x)(ho:dJ wr B v1 v2 v3 x)(hb:gb x)(hf:abO F qs v1 v3)
 (hr:iF.ownsRow B 36 14 v' (k+1) (qs.flatMap cL++cL ((v1,v2,v3),x))) (hg:wr.grownBy iF v.ownBlock):y_ iF B (k+1) v' l (qs++ [((v1,v2,v3),x)]):=by
 refine ⟨h.q.push hk hx ho hb hr hg,?_,?_⟩
 ·rw [List.map_append,pairwise_append];refine ⟨h.a,by simp,fun a ha b hb j hj hc=> ?_⟩;obtain ⟨p,hp,rfl⟩:=List.mem_map.1 ha;obtain rfl:=List.mem_singleton.1 hb;have h1:=hf.a p hp j hj;have h2:=hf.n1 j hc
  omega
 ·rw [List.map_append,pairwise_append];refine ⟨h.c,by simp,fun a ha b hb j hj hc=> ?_⟩;obtain ⟨p,hp,rfl⟩:=List.mem_map.1 ha;obtain rfl:=List.mem_singleton.1 hb;have h1:=hf.c p hp j hj;have h2:=hf.n3 j hc
  omega
theorem aoM(S:Nat)(s:aF)(hl:s.queue.length≤100000)(w:World)(M:Nat→Prop)(h:SR w M S s)(R:Ending→World→Prop)
 (hR:∀ad c (qs:List (V3×Im)) w',qs.map (·.2)=s.queue→w'.ownsRow w 36 14 (.slice ad s.queue.length c) s.queue.length (qs.flatMap cL)→(∀p∈qs,dJ w' w.heap.size p.1.1 p.1.2.1 p.1.2.2 p.2)→(∀p∈qs,gb p.2)→(qs.map (·.1.1)).Pairwise fR→(qs.map (·.1.2.2)).Pairwise fR→Below w w w'→R (.returned (.slice ad s.queue.length c)) w'):
 Calls prog 25 #[.pointer (some ⟨S,0,none⟩)] w R:=by
 obtain ⟨NB,MB,GB,GM,sv,qv,fv,hx⟩:=h;have HR:=ab hR;obtain ⟨ps,aT,aq,aS,_⟩:=id hx.hq;obtain ⟨va,vc,C8⟩:=aq.shape;subst C8;have c6:=(dy hx.hS).2.2.1;obtain ⟨n,hn⟩:=ai s.queue.length;rw [hn] at c6 hl aq;have eA:ps.length=n:=by rw [←hn,←aT];simp
 have aU:=ab aq;have gK:=ab aS;have dn:=ab aT;have HN:=ab hn;have fz:=ab eA;have wR:Hid (y_ w w.heap.size 0 (.slice none 0 0) s.queue []):=⟨⟨by simp,World.ownsRow_nil _ _ _ _,fun p hp=>by simp at hp,fun p hp=>by simp at hp⟩,.nil,.nil⟩
 clear hR hx aT aq aS hn eA;go_enter func25,ntmps25;go_wp2;go_loopg [3,11] n (fun gn r i wr=>∃(k c:Nat)(ad:Option Addr) (qs:List (V3×Im)),k≤n∧gn=n - k∧i= .int .i64 k∧r= .slice ad k c∧Hid (y_ wr w.heap.size k (.slice ad k c) s.queue qs)∧Hid (Below w w wr))
 case atStart=>exact ⟨0,0,none,[],Nat.zero_le _,by omega,rfl,rfl,wR,ab (Below.refl _ _)⟩
 case round=>
  obtain ⟨k,c,ad,qs,hk,rfl,rfl,rfl,HF,HB⟩:=hrel;obtain ⟨wo,rfl⟩:∃x,x=wr:=⟨_,rfl⟩
  clear wR;by_cases ao:k<n
  ·have bd:(k:Int)<(n:Int):=by omega
   obtain ⟨g,o,kK,aW,_⟩:=(aU.o_.below HB.o_).at (by omega);subst kK;have dM:k<ps.length:=by have:=fz.o_;omega
   have mF:k<s.queue.length:=by have:=HN.o_;omega
   have oq:s.queue[k]=(ps[k]).2:=by
    have h2:=congrArg (fun l=>l[k]?) dn.o_;exact GK
   have aS:=gK.o_ _ (List.getElem_mem dM);have bJ:∀j,j<14→wo.cell? ⟨g,o+k*14+j,none⟩=(cL ps[k])[j]?:=fun j hj=>by
    exact Pf
   obtain ⟨⟨⟨v1,v2,v3⟩,x⟩,hp⟩:∃p,ps[k]=p:=⟨_,rfl⟩
   rw [hp] at oq aS bJ;obtain ⟨⟨lj,lk,e1⟩,⟨ll,ln,e2⟩,lq,lr,e3⟩:=aS.1.o_.shape;simp only at e1 e2 e3;subst e1 e2 e3;have HC:Hid (∀j,j<14→wo.cell? ⟨g,o+k*14+j,none⟩= (aG x lj lk ll ln lq lr:List Value)[j]?):=bJ;have Pg:Hid (s.queue[k]=x):=oq;have gR:=ab aS.2;have jS:Below wo wo (wo.alloc (Obj.cells (aG x lj lk ll ln lq lr) 36)):=(Below.refl _ _).alloc (Nat.le_refl _) _;have tP:=ab (show gH (wo.alloc (Obj.cells (aG x lj lk ll ln lq lr) 36)) (.slice lj x.note.az.length lk) (.slice ll x.note.props.length ln) (.slice lq x.ids.length lr) x from (aS.1.o_.below HB.o_).below jS);have sR:=ab (HF.o_.below jS);have b6:=ab (aD HB.o_ jS HB.o_.size);have N1:=ab (heap_alloc_new wo (Obj.cells a_ 36));have N2:=ab (heap_alloc_new wo (Obj.cells (aG x lj lk ll ln lq lr) 36));clear aW oq aS bJ hp jS;go_wp2_with (first
    |(refine ie (o:=⟨some 14,.load 36 (.tmp 13),_,_,_,_⟩) (by rfl) 36 (.tmp 13) (by rfl) (g) (o+k*14) (by rfl) ((aG x lj lk ll ln lq lr)) _ (HC.o_) (underlying36) (by rfl) (by kernel_rfl) ?_)
    |(refine wpList_store_row (o:=⟨none,.store 36 (.tmp 5) (.tmp 14),_,_,_,_⟩) (by rfl) 36 (.tmp 5) (.tmp 14) (by rfl) wo.heap.size _ (by rfl) (by rfl) 36 _ N1.o_ (by kernel_rfl) (by rfl) (by simp [Value.oneCell']) ?_;rw [World.setRow_alloc_new])
    |(refine wpList_load_row (o:=⟨some 16,.load 36 (.tmp 5),_,_,_,_⟩) (by rfl) 36 (.tmp 5) (by rfl) (wo.heap.size) (by rfl) 36 _ (0,0) _ (N2).o_ (underlying36) (by rfl) (by kernel_rfl) ?_)
    |(go_at_call 37;go_must (refine AL x _ _ _ _ tP.o_ gR.o_ _ ?_;intro jN jO nC nD nE nF w7 e_ aZ;have mJ:Below w7 w7 (w7.alloc (Obj.cells (aG x jN jO nC nD nE nF) 36)):=(Below.refl _ _).alloc (Nat.le_refl _) _;have mI:=ab ((sR.o_.below aZ).below mJ);have oy:=ab (sR.o_.fresh e_);have kD:=ab ((e_.mono b6.o_.size).below mJ);have fS:=ab (aD (aD b6.o_ aZ b6.o_.size) mJ (Nat.le_trans b6.o_.size aZ.size));clear e_ aZ mJ))
    |(have hq:=mI;at_builtin;go_must (refine gj (by rfl) (.tmp 15) (.tmp 18) 52 (by rfl) w 36 (Value.agg a_) 14 184 underlying52 sC rfl (by decide) ad k c _ (by rfl) mI.o_.q.row (some ⟨w7,0,none⟩) 1 1 (aG x jN jO nC nD nE nF) (by rfl) (cO w7 (aG x jN jO nC nD nE nF) 36 14 1 rfl) (zp _ _ _ _ _ _ _) (fun h=>by cases h) (by unfold maxLen;omega) (by omega) fS.o_.size ?_;intro eC c9 w9 cI bo _;have EW:=ab (mI.o_.push (by have:=HN.o_;omega) Pg.o_ kD.o_ gR.o_ oy.o_ cI bo);have ki:=ab (bC fS.o_ bo fS.o_.size mI.o_.q.row);clear hq cI bo)))
   exact WJ
  ·have bd:¬(k:Int)<(n:Int):=by omega
   obtain rfl:k=n:=by omega
   go_wp2;have:=HR.o_ ad c qs wo (by rw [HF.o_.q.eqs,List.take_of_length_le (by have:=HN.o_;omega)]) (by rw [HN.o_];exact HF.o_.q.row) HF.o_.q.new HF.o_.q.reach HF.o_.a HF.o_.c HB.o_;rw [HN.o_] at this;exact this
open List (getElem_map getElem_take)
variable{j n qc:Nat}{pa qa:Option Addr}{w0:World}
structure QB(w0:World)(B KB:Nat)(qa:Option Addr)(n qc:Nat)(qs:List (V3×Im))(wr:World)(a b:Nat):Prop where
 bk:∃v0 v1 v4 v5 us zs,uC wr B KB v0 v1 v4 v5 ((qs.take a).map (·.1.1)) us ((qs.take b).map (·.1.2.2)) zs (((qs.take a).map (·.2.note.az)).map bv) (((qs.take b).map (·.2.ids)).map iv)∧(∀u∈us,∀k,u.ownBlock=some k→KB≤k)∧(∀u∈zs,∀k,u.ownBlock=some k→KB≤k)
 low:Below B w0 wr
 row:wr.ownsRow B 36 14 (.slice qa n qc) n (qs.flatMap cL)
 Nv:∀p∈qs,wr.ownsRow B 5 1 p.1.1 p.2.note.az.length (bv p.2.note.az)
 num:∀p∈qs,wr.ownsRow B 3 1 p.1.2.2 p.2.ids.length (iv p.2.ids)
 eJ:∀p∈qs,∀k,p.1.1.ownBlock=some k→k<KB
 To:∀p∈qs,∀k,p.1.2.2.ownBlock=some k→k<KB
 JA:(qs.map (·.1.1)).Pairwise fR
 JB:(qs.map (·.1.2.2)).Pairwise fR
 len:qs.length=n
 Ec:n≤8
 small:∀p∈qs,p.2.note.az.length≤65535∧p.2.ids.length≤255
 kb:KB≤wr.heap.size
theorem Nw{α β:Type}(f:α→β){l:List α}{a:Nat}(h:a<l.length){p:α}(hp:l[a]=p):(l.take (a+1)).map f=(l.take a).map f++ [f p]:=by
 rw [List.take_succ_eq_append_getElem h,List.map_append,hp]
 rfl
theorem abP{f:V3×Im→Value}{qs:List (V3×Im)}(h:(qs.map f).Pairwise fR){a:Nat}(ha:a<qs.length){p:V3×Im}(hp:qs[a]=p):∀v∈(qs.take a).map f,fR v (f p):=by
 intro v hv;obtain ⟨q,hq,rfl⟩:=List.mem_map.1 hv;obtain ⟨i,hi,rfl⟩:=List.getElem_of_mem hq;rw [List.length_take] at hi;rw [getElem_take];have h1:=List.pairwise_iff_getElem.1 h i a (by simp;omega) (by simpa using ha) (by omega);rw [getElem_map,getElem_map,hp] at h1;exact h1
theorem aoN{KB:Nat}{qs:List (V3×Im)}{wr:World}{a b:Nat}(h:QB w0 B KB qa n qc qs wr a b)(ha:a<qs.length){p:V3×Im}(hp:qs[a]=p){pc:Nat}(e:p.1.1= .slice pa p.2.note.az.length pc)(R:Ending→World→Prop)
 (hR:∀w',QB w0 B KB qa n qc qs w' (a+1) b→R (.returned (.tuple #[])) w'):
 Calls prog 26 #[.pointer (some ⟨KB,0,none⟩),.slice pa p.2.note.az.length pc] wr R:=by
 obtain ⟨v0,v1,v4,v5,us,zs,FP,hu,hz⟩:=h.bk;have ks:p∈qs:=by rw [←hp];exact List.getElem_mem ha
 have aoO:=h.Ec;have aX:=h.len;have abQ:=h.Nv p ks;have qH:=abP h.JA ha hp;have ao:=h.eJ p ks;rw [e] at abQ qH ao;refine aos B KB v0 v1 v4 v5 _ us _ zs _ _ pa pc p.2.note.az wr FP (by simp only [List.length_map,List.length_take];omega) abQ qH (fun u uF=>FM ao (hu u uF)) (by have:=(h.small p ks).1;omega) R fun w' S7 S8 Ng Tp hb Ed lZ=>hR w' ⟨⟨S7,S8,v4,v5,Ng,zs,?_,fun u uF k hk=> ?_,hz⟩,h.low.trans hb,Ed _ _ (by decide) (by decide) _ _ _ _ h.row,fun q hq=>Ed _ _ (by decide) (by decide) _ _ _ _ (h.Nv q hq),fun q hq=>Ed _ _ (by decide) (by decide) _ _ _ _ (h.num q hq),h.eJ,h.To,h.JA,h.JB,h.len,h.Ec,h.small,Nat.le_trans h.kb hb.size⟩
 ·rw [Nw _ ha hp,Nw _ ha hp,List.map_append,e];exact Tp
 ·rcases lZ u uF with h1|h1
  ·exact hu u h1 k hk
  ·exact Nat.le_trans h.kb (h1 k hk)
theorem aoP{KB:Nat}{qs:List (V3×Im)}{wr:World}{a b:Nat}(h:QB w0 B KB qa n qc qs wr a b)(lG:b<qs.length){p:V3×Im}(hp:qs[b]=p){pc:Nat}(e:p.1.2.2= .slice pa p.2.ids.length pc)(R:Ending→World→Prop)
 (hR:∀w',QB w0 B KB qa n qc qs w' a (b+1)→R (.returned (.tuple #[])) w'):
 Calls prog 27 #[.pointer (some ⟨KB,0,none⟩),.slice pa p.2.ids.length pc] wr R:=by
 obtain ⟨v0,v1,v4,v5,us,zs,FP,hu,hz⟩:=h.bk;have ks:p∈qs:=by rw [←hp];exact List.getElem_mem lG
 have aoO:=h.Ec;have aX:=h.len;have G5:=h.num p ks;have qH:=abP h.JB lG hp;have ao:=h.To p ks;rw [e] at G5 qH ao;refine aow B KB v0 v1 v4 v5 _ us _ zs _ _ pa p.2.ids.length pc (iv p.2.ids) wr FP (by simp only [List.length_map,List.length_take];omega) G5 qH (fun u uF=>FM ao (hz u uF)) (xS _) (by have:=(h.small p ks).2;omega) R fun w' Tc Td Nj Tp hb Ed lZ=>hR w' ⟨⟨v0,v1,Tc,Td,us,Nj,?_,hu,fun u uF k hk=> ?_⟩,h.low.trans hb,Ed _ _ (by decide) (by decide) _ _ _ _ h.row,fun q hq=>Ed _ _ (by decide) (by decide) _ _ _ _ (h.Nv q hq),fun q hq=>Ed _ _ (by decide) (by decide) _ _ _ _ (h.num q hq),h.eJ,h.To,h.JA,h.JB,h.len,h.Ec,h.small,Nat.le_trans h.kb hb.size⟩
 ·rw [Nw _ lG hp,Nw _ lG hp,List.map_append,e];exact Tp
 ·rcases lZ u uF with h1|h1
  ·exact hz u h1 k hk
  ·exact Nat.le_trans h.kb (h1 k hk)
theorem QB.at{KB:Nat}{qs:List (V3×Im)}{wr:World}{a b:Nat}(h:QB w0 B KB qa n qc qs wr a b)(hj:j<qs.length){p:V3×Im}(hp:qs[j]=p):∃g pa pc ia ic,qa=some ⟨g,0,none⟩∧p.1.1= .slice pa p.2.note.az.length pc∧p.1.2.2= .slice ia p.2.ids.length ic∧wr.cell? ⟨g,j*14+1,none⟩=some (.slice pa p.2.note.az.length pc)∧wr.cell? ⟨g,j*14+12,none⟩=some (.slice ia p.2.ids.length ic):=by
 have ks:p∈qs:=by rw [←hp];exact List.getElem_mem hj
 have aX:=h.len;obtain ⟨pa,pc,e1⟩:=bF (h.Nv p ks);obtain ⟨ia,ic,e3⟩:=bF (h.num p ks);have aq:=h.row;obtain ⟨g,rfl⟩:=et aq (by omega);have hc:∀i,i<14→wr.cell? ⟨g,j*14+i,none⟩=(cL p)[i]?:=fun i hi=>by
  rw [aq.cellAt (j*14+i) (by omega),jQ 14 cL my qs j i hj hi,hp]
 refine ⟨g,pa,pc,ia,ic,rfl,e1,e3,?_,?_⟩
 ·rw [hc 1 (by decide),←e1]
  rfl
 ·rw [hc 12 (by decide),←e3]
  rfl
theorem QB.start{vS:World}{qs:List (V3×Im)}(Ec:n≤8)(len:qs.length=n)(row:vS.ownsRow w0 36 14 (.slice qa n qc) n (qs.flatMap cL))(new:∀p∈qs,dJ vS w0.heap.size p.1.1 p.1.2.1 p.1.2.2 p.2)(JA:(qs.map (·.1.1)).Pairwise fR)(JB:(qs.map (·.1.2.2)).Pairwise fR)(low:Below w0 w0 vS)
 (small:∀p∈qs,p.2.note.az.length≤65535∧p.2.ids.length≤255):
 QB w0 w0.heap.size vS.heap.size qa n qc qs (vS.alloc (.cells #[.slice none 0 0,.slice none 0 0,.slice none 0 0,.slice none 0 0,.slice none 0 0,.slice none 0 0] 78)) 0 0:=by
 have hb:Below vS vS (vS.alloc (.cells #[.slice none 0 0,.slice none 0 0,.slice none 0 0,.slice none 0 0,.slice none 0 0,.slice none 0 0] 78)):=(Below.refl _ _).alloc (Nat.le_refl _) _;exact ⟨⟨_,_,_,_,_,_,uC.start vS low.size,fun u hu=>absurd hu List.not_mem_nil,fun u hu=>absurd hu List.not_mem_nil⟩,aD low hb low.size,aK row hb,fun p hp=>aK (new p hp).p hb,fun p hp=>aK (new p hp).i hb,fun p hp k hk=>((new p hp).p.lt k hk).2,fun p hp k hk=>((new p hp).i.lt k hk).2,JA,JB,len,Ec,small,hb.size⟩
variable{s:aF}
theorem aoQ{s s':aF}{X x:Im}{id:Int}{ok:Bool}(hq:s.queue= [X])(hX:X.al=1)(hf:s.aj= [])(hn:s.cj= [])(h:wW s 1 x id ok s'):ok=true∧id=1∧s'.aj= [⟨1,1,X⟩]:=by
 have hr:kV s 1=true:=by
  unfold kV;rw [hq,hf];simp
 cases h with
 |no h=>rw [hr] at h;cases h
 |out y rest tv h hz=>rw [hq] at tv;cases tv;omega
 |qN y rest d tv h hz h1 h2 hc ha=>
  rw [hq] at tv;cases tv;rw [hn] at h2;have hd:d=1:=by simp at h2;omega
  subst hd;refine ⟨rfl,rfl,?_⟩;show s.aj++ [⟨1,X.al,X⟩]=_;rw [hf,hX]
  rfl
theorem aoR{f:Fl}(h:s.aj= [f]):(jE s 0).aj= []:=by
 unfold jE;show (s.aj.eraseIdx 0)= [];rw [h]
 rfl
theorem abR(h:s.aj= [⟨1,1,x⟩]):cV (kE 1 [1]) s.aj=0:=by
 rw [h]
 rfl
theorem aoS{p:Fl→Bool}(h:s.aj= []):cV p s.aj= -1:=by
 rw [h]
 rfl
theorem abS:gb ⟨⟨[],[],0,false,[],0,[],0,0,0⟩,1,false,[],[]⟩:=⟨⟨by simp,by simp,by simp,by simp,by simp,by decide⟩,by simp,by simp,by decide⟩
theorem aoT(w:World):gH w (.slice none 0 0) (.slice none 0 0) (.slice none 0 0) ⟨⟨[],[],0,false,[],0,[],0,0,0⟩,1,false,[],[]⟩:=
 dJ.c (B:=0) ⟨World.ownsRow_nil _ _ _ _,cZ.nil _ _,World.ownsRow_nil _ _ _ _⟩ abS
theorem aoU(w:World)(R:Ending→World→Prop)
 (hR:∀w',Below w w w'→R (.returned (.bool true)) w'):
 Calls prog 7 #[] w R:=by
 have HR:=ab hR;clear hR;obtain ⟨s0,jA⟩:=ai (fw [99]);have bS:eL s0:=jA▸eL.new [99];have ef:s0.dC= [99]:=by rw [←jA];rfl
 obtain ⟨X,hX⟩:∃x:Im,(⟨⟨[],[],0,false,[],0,[],0,0,0⟩,1,false,[],[]⟩:Im)=x:=⟨_,rfl⟩
 have abT:X.al=1:=by rw [←hX]
 obtain ⟨s1,ch⟩:∃s,pE s0 X=(s,true):=⟨{s0 with queue:=s0.queue++ [X]},by unfold pE;rw [if_pos (by rw [←jA];decide)]⟩
 have cQ:eL s1:=by
  have:=bS.pE (x:=X) (by omega);rw [ch] at this;exact this
 have C1:s1.queue= [X]∧s1.aj= []∧s1.cj= []:=by
  have h1:s1={s0 with queue:=s0.queue++ [X]}:=by
   rw [show s1=(pE s0 X).1 from (congrArg Prod.fst ch).symm];unfold pE;rw [if_pos (by rw [←jA];decide)]
  rw [h1,←jA];exact ⟨rfl,rfl,rfl⟩
 have Cg:=ab bS;have Fz:=ab cQ;have aoV:=ab jA;have eR:=ab ch;have mj:=ab ef;have Tq:=ab C1;have HX:=ab hX;have aoW:=ab abT;have fV:Hid True:=trivial;clear bS cQ jA ch ef C1 hX abT;go_enter func7,ntmps7;go_wp2_with (first
  |(go_at_call 6;go_must (refine af1 [99] _ _ ?_);intro S w1 h1;rw [aoV.o_] at h1;have Ns:=ab h1;clear h1)
  |(go_at_call 36;go_must (refine af2 S s0 w _ Ns.o_ _ ?_);rw [mj.o_])
  |(go_at_call 8;go_must (refine afY S s0 ⟨⟨[],[],0,false,[],0,[],0,0,0⟩,1,false,[],[]⟩ true s1 (by rw [HX.o_];exact eR.o_) Cg.o_ _ _ _ w _ Ns.o_ (aoT _) abS _ ?_);intro w2 h2;have Tm:=ab h2;clear h2)
  |(go_at_call 10;go_must (refine afZ S s1 1 Fz.o_ w _ Tm.o_ _ ?_);intro x id ok s3 pa pc qa qc ea ec w3 hn h3 _ _;have MD:=ab (hn.inv Fz.o_);obtain ⟨e1,e2,e3⟩:=aoQ Tq.o_.1 aoW.o_ Tq.o_.2.1 Tq.o_.2.2 hn;subst e1;subst e2;have Tn:=ab h3;have Tr:=ab e3;have N3:=ab (heap_alloc_new w3 (Obj.cells a_ 36));clear h3 hn e3)
  |(refine wpList_store_row (o:=⟨none,.store 36 (.tmp 3) (.tmp 20),_,_,_,_⟩) (by rfl) 36 (.tmp 3) (.tmp 20) (by rfl) w3.heap.size _ (by rfl) (by rfl) 36 _ N3.o_ (by kernel_rfl) (by rfl) (by simp [Value.oneCell']) ?_;rw [World.setRow_alloc_new];have h4:=Tn.o_.below ((Below.refl w3 w3).alloc (Nat.le_refl _) (Obj.cells (aG x pa pc qa qc ea ec) 36));generalize w3.alloc (Obj.cells (aG x pa pc qa qc ea ec) 36)=w4 at h4⊢;have aoX:=ab h4;clear h4)
  |(have hq:=fV;go_at_call 12;go_must (refine WV S s3 1 0 (abR Tr.o_) MD.o_ w _ aoX.o_ _ ?_);intro w5 h5;have rU:=eL.land (p:=kE 1 [1]) (z:=0) MD.o_ (abR Tr.o_);have Ts:(jE s3 0).aj= []:=aoR Tr.o_;generalize jE s3 0=s5 at h5 rU Ts;have aoY:=ab h5;have qR:=ab rU;have BU:=ab Ts;clear hq fV h5 rU Ts)
  |(go_at_call 12;go_must (refine WV S s5 1 (-1) (aoS BU.o_) qR.o_ w _ aoY.o_ _ ?_);intro w6 h6;rw [show jE s5 (-1)=s5 from if_pos (by decide)] at h6;have aoZ:=ab h6;clear h6)
  |(go_at_call 16;go_must (refine af0 S s5 0 (by rw [BU.o_,List.length_nil]) qR.o_ w _ aoZ.o_ _ ?_);intro fa fc qs w7 _ _ h7 _))
 all_goals exact HR.o_ _ h7.low
variable{ad:Option Addr}{w:World}
theorem abU{c:Nat}{Y:List UInt8}(hn:Y.length=n)(h:w.ownsRow B 5 1 (.slice ad n c) n (bv Y)):Bs w (.slice ad n c) Y:=by
 subst hn;exact cp h
theorem abV{P:Prop}(h:P:=by
 clear ao hk ao0;have MC:Hid (s.queue.length≤100000):=Nat.le_trans kP.o_.inv.qn (by decide);go_upto_region 26 with (first
  |(go_at_call 24;go_must (refine aaf S Rb s kP.o_ W W _ (fun _=>False) Ee.o_ _ ?_);intro lQ abW;have abX:=ab (Ee.o_.below abW);clear abW))
 obtain ⟨Ms,Mr,hx⟩:=abX.o_;have HX:=ab hx;obtain ⟨n3,jF⟩:=ai s.queue.length;have rR:=ab jF;clear hx jF;go_upto_region 27 with (first
  |(go_at_call 25;go_must (refine aoM S s MC.o_ _ Ms HX.o_.sr _ ?_);intro qa qc qs vS lV qZ AM ao1 IZ abY I1;have Tt:=ab lV;have nL:=ab qZ;have abZ:=ab AM;have Ja:=ab IZ;have ab0:=ab abY;have ab1:=ab I1;clear lV qZ AM ao1 IZ abY I1))
 have gO:=nL.o_;rw [rR.o_] at gO⊢;have lH:=QB.start (w0:=lQ) (n:=n3) (by rw [←rR.o_];exact kP.o_.inv.qn) (by have h9:=congrArg List.length Tt.o_;rw [List.length_map] at h9;exact h9.trans rR.o_) gO abZ.o_ Ja.o_ ab0.o_ ab1.o_ (fun p hp=>by
  have hm:p.2∈s.queue:=by rw [←Tt.o_];exact List.mem_map_of_mem hp
  have h1:=kP.o_.qk _ hm;exact ⟨h1.k.n.pl,by have:=h1.k.ni;omega⟩)
 clear gO nL abZ Ja ab0;go_upto_region 28 with fail
 generalize vS.alloc (.cells #[.slice none 0 0,.slice none 0 0,.slice none 0 0,.slice none 0 0,.slice none 0 0,.slice none 0 0] 78)=arX at lH⊢;obtain ⟨KB,oJ⟩:=ai vS.heap.size;rw [oJ] at lH⊢;have ab2:=ab lH;have arY:n3≤8:=lH.Ec;clear lH oJ ab1 Tt;go_wp2;go_loopg [17] n3 (fun gn i wr=>∃j:Nat,j≤n3∧gn=n3 - j∧i= .int .i64 j∧Hid (QB lQ lQ.heap.size KB qa n3 qc qs wr j j))
 case atStart=>exact ⟨0,Nat.zero_le _,by omega,rfl,ab2⟩
 case round=>
  clear ab2;obtain ⟨j,hj,rfl,rfl,th⟩:=hrel;obtain ⟨wp,rfl⟩:∃x,x=wr:=⟨_,rfl⟩
  by_cases cE:j<n3
  ·have lz:(j:Int)<(n3:Int):=by omega
   have ab3:j<qs.length:=by have:=th.o_.len;omega
   obtain ⟨p,hp⟩:=ai (qs[j]);obtain ⟨g,pa,pc,ia,ic,tQ,e1,e3,c1,jm⟩:=th.o_.at ab3 hp;subst tQ;have HP:=ab hp;have Tu:=ab ab3;have wK:=ab e1;have IW:=ab e3;clear hp e1 e3;go_upto_region 32 with (first
    |(go_at_call 26;go_must (refine aoN th.o_ Tu.o_ HP.o_ wK.o_ _ ?_);intro arZ h23;have ao2:=ab h23;obtain ⟨g',uH,uI,ar0,ar1,ab4,DV,Fy,ao3,ar2⟩:=h23.at Tu.o_ HP.o_;obtain rfl:g=g':=(by simpa using ab4);have Sq:=IW.o_.symm.trans Fy;simp only [Value.slice.injEq] at Sq;obtain ⟨rfl,-,rfl⟩:=Sq;clear h23 ab4 DV Fy c1 jm ao3))
   go_wp2_with (first
    |(go_at_call 27;go_must (refine aoP ao2.o_ Tu.o_ HP.o_ IW.o_ _ ?_);intro ar3 h24;have ao4:=ab h24;clear h24))
   go_roundg (n3 - (j+1))
   case measure=>omega
   case rel=>exact ⟨j+1,by omega,rfl,by go_num,ao4⟩
  ·have lz:¬(j:Int)<(n3:Int):=by omega
   obtain rfl:j=n3:=by omega
   have ab5:=th.o_.len;obtain ⟨v0,v1,v4,v5,us,zs,FP,_,_⟩:=th.o_.bk;have ao5:=ab FP;have ab6:=ab th.o_.small;have He:=ab th.o_.low;have Rq:=ab ab5;clear FP th ab5;go_wp2_with (first
    |(go_at_call 28;go_must (refine aoK lQ.heap.size KB v0 v1 v4 v5 _ us _ zs _ _ _ ao5.o_ (fun p hp=>by obtain ⟨q,hq,rfl⟩:=List.mem_map.1 hp;have:=(ab6.o_ q (List.mem_of_mem_take hq)).1;omega) (fun p hp=>by obtain ⟨q,hq,rfl⟩:=List.mem_map.1 hp;have:=(ab6.o_ q (List.mem_of_mem_take hq)).2;omega) (by rw [List.length_map,List.length_take];omega) (by rw [List.length_map,List.length_take];omega) _ ?_);intro Ah ab7;have ab8:=ab (abX.o_.below (He.o_.trans ab7));clear ab7)
    |(go_at_call 24;go_must (refine aaf S Rb s kP.o_ W W _ (fun _=>False) ab8.o_ _ ?_);intro ar4 ab9;have ao6:=ab (ab8.o_.below ab9);clear ab9))
   exact HR.o_ _ ao6.o_.low):P:=h
theorem ao7(dC:List UInt8)(j3:dC.length≤9223372036854775807)(v:Value)(l:List qC)(W:World)(hT:di W)(hv:Mv W v l)(R:Ending→World→Prop)
 (hR:∀w',Below W W w'→R (.returned (.bool true)) w'):
 Calls prog 4 #[.string (str dC),v] W R:=by
 have HR:=ab hR;have HV:=ab hv;have HT:=ab hT;obtain ⟨va,vc,rfl,_⟩:=hv;obtain ⟨N,hN⟩:=ai l.length;have ar5:N≤9223372036854775807:=by
  obtain ⟨_,_,e,h1,h2,_⟩:=HV.o_;simp only [Value.slice.injEq] at e
  omega
 rw [hN];have HN:=ab hN;obtain ⟨n,hn⟩:=ai dC.length;have bm:(str dC).size=n:=by
  rw [←hn];show dC.toArray.size=dC.length;simp
 rw [hn] at j3;have Ab:=ab hn;clear hR hN hT hn;go_enter func4,ntmps4;go_upto_region 1 with fail
 go_cut [25] from 18 to 25 (fun ao8 wx=>∃b:Bool,ao8= .bool b∧W=wx∧Hid (b=false→dV dC=true∧dC.length≤20))
 case first=>
  by_cases h20:n≤20
  ·have ao9:¬(20:Int)<(n:Int):=by omega
   have Tv:Hid (dC.length≤20):=by have:=Ab.o_;show _≤_;omega
   obtain ⟨b,hb⟩:=ai (IS dC);have HB:=ab hb;cases b with
   |true=>
    have Ft:=ab (akE hb);clear hb;go_wp2_with (first
     |(go_at_call 19;go_must (refine ZF dC Tv.o_ true HB.o_ _ _ ?_)))
    go_meet;exact ⟨false,rfl,rfl,ab (fun _=>⟨Ft.o_,Tv.o_⟩)⟩
   |false=>
    clear hb;go_wp2_with (first
     |(go_at_call 19;go_must (refine ZF dC Tv.o_ false HB.o_ _ _ ?_)))
    go_meet;exact ⟨true,rfl,rfl,ab (fun h=>by cases h)⟩
  ·have ao9:(20:Int)<(n:Int):=by omega
   go_wp2_with fail;go_meet;exact ⟨true,rfl,rfl,ab (fun h=>by cases h)⟩
 obtain ⟨b,rfl,hw,pQ⟩:=hcut;subst hw;go_upto_if 25 with fail
 go_cut [0] from 25 to 25 (fun s0 wx=>∃C:List UInt8,s0= .string (str C)∧W=wx∧Hid (dV C=true)∧Hid (C.length≤20))
 case first=>
  cases b with
  |true=>
   go_wp2_with fail;go_meet;exact ⟨[99,49],rfl,rfl,ab (by decide+kernel),ab (by decide)⟩
  |false=>
   go_wp2_with fail;go_meet;have aca:=pQ.o_ (by first|rfl|trivial);exact ⟨dC,rfl,rfl,ab aca.1,ab aca.2⟩
 obtain ⟨C,rfl,hw,Ft,lJ⟩:=hcut;subst hw;clear bm j3 Ab;go_upto_region 6 with (first
  |(go_at_call 6;go_must (refine WK C _ _ ?_);intro S M w2 bt acb ah;have pP:=ab bt;have DE:=ab acb;have aY:=ab ah;clear bt acb ah)
  |(go_at_call 7;go_must (refine aoU _ _ ?_);intro w3 an;have iD:=ab (pP.o_.below an);have bU:=ab (aD aY.o_ an aY.o_.size);clear an))
 have Nx:=LW.start iD.o_ DE.o_ bU.o_ W;have acd:=ab (du.new Ft.o_ lJ.o_);go_upto_region 7 with fail
 generalize w3.alloc (.cells #[.string (str C),.int .i64 0,.int .i64 0,.bool false,.slice none 0 0,.slice none 0 0,.slice none 0 0,.slice none 0 0] 62)=w4 at Nx⊢;obtain ⟨Rb,ace⟩:=ai w3.heap.size;rw [ace] at Nx⊢;have Ee:=ab Nx;clear Nx ace pP iD aY bU DE pQ Ft lJ;go_wp2;go_loopg [5,7] (min N 60) (fun gn sv i wr=>∃(k S:Nat)(s:aF),k≤min N 60∧gn=min N 60 - k∧sv= .pointer (some ⟨S,0,none⟩)∧i= .int .i64 k∧Hid (du s)∧Hid (LW W W (fun _=>False) wr S Rb s s))
 case atStart=>exact ⟨0,S,_,by omega,by omega,rfl,rfl,acd,Ee⟩
 case round=>
  clear Ee acd;obtain ⟨k,S,s,hk,rfl,rfl,rfl,kP,Ee⟩:=hrel;obtain ⟨wo,rfl⟩:∃x,x=wr:=⟨_,rfl⟩
  by_cases ao:k<min N 60
  ·have apa:k<l.length:=by have:=HN.o_;omega
   have bd:(k:Int)<(N:Int):=by omega
   have apb:(k:Int)<60:=by omega
   obtain ⟨g,o,c,Ny,a0,a1,a2,a3,b1,b2,b3,b4,aW,cX,cM,acf,uW,Ag⟩:=HV.o_.at Ee.o_.low k apa;rw [HN.o_] at Ny;have e1:=congrArg (fun v=>match v with|Value.slice a _ _=>a|_=>none) Ny;have e2:=congrArg (fun v=>match v with|Value.slice _ _ c=>c|_=>0) Ny;simp only at e1 e2;subst e1;subst e2;obtain ⟨x,hx⟩:=ai (l[k]);rw [hx] at aW cX cM acf uW Ag;obtain ⟨⟨ta,tc,rfl,_⟩,⟨fa,fc,rfl,_⟩,⟨sa,sc,rfl,_⟩,⟨pa,pc,rfl,_⟩,⟨ca,cc,rfl,_⟩,⟨ra,rc,rfl,_⟩,⟨ua,uc,rfl,_⟩,⟨ia,ic,rfl,_⟩⟩:=id cX;have mL:=ab aW;have rh:=ab cX;have ri:=ab cM;have rj:=ab uW;have tg:=ab Ag;clear Ny hx aW cX cM acf uW Ag;have N0:=ab (heap_alloc_new wo (Obj.cells #[.int .i64 0,.int .i64 0,.int .i64 0,.bool false,.slice none 0 0,.slice none 0 0,.slice none 0 0,.slice none 0 0,.int .i64 0,.int .i64 0,.bool false,.bool false,.int .i64 0,.int .i64 0,.slice none 0 0,.slice none 0 0,.slice none 0 0,.slice none 0 0,.int .i64 0,.int .i64 0,.string ⟨#[]⟩,.int .i64 0,.bool false,.bool false,.int .i64 0,.int .i64 0] 66));go_upto_region 11 with (first
    |(refine ie (o:=⟨some 50,.load 66 (.tmp 49),_,_,_,_⟩) (by rfl) 66 (.tmp 49) (by rfl) (g) (o+k*26) (by rfl) ((cq x ta tc fa fc sa sc pa pc ca cc ra rc ua uc ia ic)) _ (mL.o_) (underlying66) (by rfl) (by kernel_rfl) ?_)
    |(refine wpList_store_row (o:=⟨none,.store 66 (.tmp 8) (.tmp 50),_,_,_,_⟩) (by rfl) 66 (.tmp 8) (.tmp 50) (by rfl) wo.heap.size _ (by rfl) (by rfl) 66 _ N0.o_ (by kernel_rfl) (by rfl) (by simp [Value.oneCell']) ?_;rw [World.setRow_alloc_new];have h4:=Ee.o_.below ((Below.refl wo wo).alloc (Nat.le_refl _) (Obj.cells (cq x ta tc fa fc sa sc pa pc ca cc ra rc ua uc ia ic) 66));have n4:=heap_alloc_new wo (Obj.cells (cq x ta tc fa fc sa sc pa pc ca cc ra rc ua uc ia ic) 66);generalize wo.alloc (Obj.cells (cq x ta tc fa fc sa sc pa pc ca cc ra rc ua uc ia ic) 66)=w4 at h4 n4⊢;have jH:=ab h4;have N4:=ab n4;clear h4 n4))
   obtain ⟨K,hK⟩:=ai wo.heap.size;rw [hK] at N4⊢;clear N0 hK;obtain ⟨q,hq⟩:=ai (within x.d 0 13);have HQ:=ab hq;clear hq;have c0:=af w4 K 0 _ _ _ N4.o_;by_cases h13:q=13
   ·subst h13;go_upto_region 12 with (first
     |(go_at_call 20;go_must (refine mv x.d 0 13 _ (by decide) (by decide) (by decide) _ ?_);rw [HQ.o_]))
    clear c0;obtain ⟨Ms,Mr,hx⟩:=jH.o_;obtain ⟨Y,hY⟩:=ai (r8 s);have je:=YL kP.o_;have Tw:0<(r8 s).length:=by
     rw [Q3];simp only [List.length_append,List.length_cons,List.length_nil,eU]
     omega
    rw [hY] at je Tw;have HX:=ab hx;have HY:=ab hY;have mC:=ab je;have Tx:=ab (HT.o_.below jH.o_.low);obtain ⟨n2,tE⟩:=ai Y.length;have yK:=ab tE;rw [tE] at je Tw;clear hx hY tE;go_upto_region 13 with (first
     |(go_at_call 14;go_must (refine YM S s kP.o_ _ Ms HX.o_.sr Tx.o_ Y HY.o_ _ ?_);intro ba bc w5 ez aC;have iy:=ab ez;have eb:=ab aC;clear ez aC))
    have ez:=iy.o_;rw [yK.o_] at ez⊢;obtain ⟨K2,apc⟩:=et ez Tw;subst apc;have apd:=ab ez;have fA:=ez.lt K2 rfl;have kS:=ab fA;clear ez fA iy;go_upto_region 15 with (first
     |(go_at_call 21;go_must (refine an6 Rb s kP.o_ _ Ms Mr (HX.o_.below eb.o_).rr (Tx.o_.below eb.o_) Y HY.o_ mC.o_ _ ?_);intro ar6 ar7 w6 p7 bg;have jM:=ab (aK apd.o_ bg);have mP:=ab p7;have ov:=ab bg;clear p7 bg)
     |(go_at_call 13;go_must (refine ai3 s kP.o_ Y HY.o_ mC.o_ _ _ (abU yK.o_ jM.o_) ((Tx.o_.below eb.o_).below ov.o_) (fun b=>Ms b∨b=K2) (fun b hb=>by
        have h1:=eb.o_.size;have h2:=ov.o_.size;rcases hb with hb|hb
        ·have:=HX.o_.sr.lt b hb;omega
        ·have:=kS.o_.2;omega)    _ ?_);intro S' M' w7 mB Fu It aZ;have mx:=ab (aK jM.o_ aZ);have tT:=ab (aK mP.o_ aZ);have vp:=ab (HX.o_.read kS.o_.1 (aD (aD eb.o_ ov.o_ eb.o_.size) aZ (Nat.le_trans eb.o_.size ov.o_.size)) mB Fu It (Nat.le_trans eb.o_.size ov.o_.size));have Rl:=ab (Fu K2 (Or.inr rfl));clear mB Fu It aZ))
    obtain ⟨s2,bt⟩:∃t:aF,{s with aH:=bE s.aH}=t:=⟨_,rfl⟩
    have ape:Hid (du s2):=by rw [←bt];exact kP.o_.laid
    rw [bt] at vp;clear bt;have iL:n2≤9223372036854775807:=by omega
    go_wp2_with (first
     |(go_at_call 22;go_must (refine TJ _ _ Y Y _ (abU yK.o_ mx.o_) (cp tT.o_) _ ?_);rw [beq_self_eq_true])
     |(go_at_call 15;go_in))
    go_loopg [14] n2 (fun gn i wr=>∃j:Nat,j≤n2∧gn=n2 - j∧i= .int .i64 j∧∃m:List UInt8,Hid (m.length=n2)∧Hid (wr.ownsRow w4 5 1 (.slice (some ⟨K2,0,none⟩) n2 bc) n2 (bv m))∧Hid (LX W W (fun _=>False) wr M' Mr S' Rb s2 s2))
    case atStart=>exact ⟨0,Nat.zero_le _,by omega,rfl,Y,yK,mx,vp⟩
    case round=>
     obtain ⟨j,hj,rfl,rfl,m,Mt,JC,acg⟩:=hrel;obtain ⟨wp,rfl⟩:∃x,x=wr:=⟨_,rfl⟩
     by_cases cE:j<n2
     ·have lz:(j:Int)<(n2:Int):=by omega
      have apf:j<m.length:=by have:=Mt.o_;omega
      have aW:=TC JC.o_ j apf;have nW:=JC.o_.frozenAt j;have b7:=TB JC.o_ j (b8 (m[j].toNat+1));rw [uE] at b7;have Ty:(m.set j (b8 (m[j].toNat+1))).length=n2:=by rw [List.length_set];exact Mt.o_
      obtain ⟨m2,gJ⟩:=ai (m.set j (b8 (m[j].toNat+1)));rw [gJ] at b7 Ty;have DE:=ab Ty;have eR:=ab b7.1;have g_:=ab (acg.o_.RL Rl.o_ (eI JC.o_ K2 rfl) b7.2);have Jv:=rp JC.o_;unfold maxLen at Jv;clear b7 Ty gJ;go_wp2;go_roundg (n2 - (j+1))
      case measure=>omega
      case rel=>exact ⟨j+1,by omega,rfl,by go_num,m2,DE,eR,g_⟩
     ·have lz:¬(j:Int)<(n2:Int):=by omega
      have zW:Hid (LW W W (fun _=>False) wp S' Rb s2 s2):=ab ⟨_,_,acg.o_⟩;go_wp2;go_roundg (min N 60 - (k+1))
      case measure=>omega
      case rel=>exact ⟨k+1,S',s2,by omega,by omega,rfl,by go_num,ape,zW⟩
   ·have ar8:(q==13)=false:=by simpa using h13
    go_wp2_with (first
     |(go_at_call 20;go_must (refine mv x.d 0 13 _ (by decide) (by decide) (by decide) _ ?_);rw [HQ.o_])
     |(refine wpList_load_row (o:=⟨some 99,.load 66 (.tmp 8),_,_,_,_⟩) (by rfl) 66 (.tmp 8) (by rfl) (K) (by rfl) 66 _ (0,0) _ (N4).o_ (underlying66) (by rfl) (by kernel_rfl) ?_)
     |(go_at_call 23;go_must (refine alY x ta fa sa pa ca ra ua ia tc fc sc pc cc rc uc ic S Rb s kP.o_ W W _ (fun _=>False) jH.o_ rh.o_ ri.o_ rj.o_ tg.o_ _ ?_);intro w5 s' jh h5;have apg:=ab jh;have uu:=ab (h5.plain W);clear jh h5))
    go_roundg (min N 60 - (k+1))
    case measure=>omega
    case rel=>exact ⟨k+1,S,s',by omega,by omega,rfl,by go_num,apg,uu⟩
  ·by_cases ao0:N≤60
   ·have bd:¬(k:Int)<(N:Int):=by omega
    exact abV
   ·have bd:(k:Int)<(N:Int):=by omega
    have apb:¬(k:Int)<60:=by omega
    exact abV
open Go.Shelf Go.ChangeShapes Go.WideShapes Go.ChangeAt Go.Lib
theorem aph(H:Type)(enc:TypeId×Value→H)(W:World)(base:Nat)(args:Array Value)(ds gs:List (DataW H))(before:List MemPlace)
 (jC:∀(j:Nat) t v,Tryz.f4.params[j]? =some t→args[j]? =some v→Value.okWide prog W .any base t v)
 (hW:DataW.Whole enc prog Tryz.f4.params.toList Rows.sessionPlaysSpec.vars false W args.toList ds gs before) (hL:laidMetH prog JE W) (bm:(DataW.weightsEach prog (Tryz.f4.params.toList++(OpenSpec.ofChange Rows.sessionPlaysSpec).bare.plain.varTypes prog) (ds++gs)).all (· ≤reachBytes)=true):
 Calls prog 4 args W fun e W'=>∃v,e= .returned v∧Rows.sessionPlaysSpec.post enc prog Tryz.f4 false true false false W args v W':=by
 have ach:=hW;obtain ⟨p,q,hA0,hV,rfl,nW,Uf⟩:=hW;have hA:DataW.TrodAll enc prog W 0 (fun _=>true) true Tryz.f4.params.toList args.toList ds p:=hA0;have ao:∀x∈p,x.block<W.heap.size:=fun x hx=>by have:=ach.lt x;simp at this;exact this (.inl hx)
 have hT:di W:=acz hL;obtain ⟨rfl,rfl⟩:=trodVars_none hV;have api:=fun (W':World)(hb:Below W W W')=>TG (P:=prog) (by kernel_rfl) hb _ _ _ _ (by
  have iW:(Tryz.f4.params.toList.all fun t=>prog.readableRec t&&decide (t<prog.types.size))=true:=by kernel_rfl
  intro t ht;have:=List.all_eq_true.1 iW t ht
  simpa using this) hA ao
 rw [Tryz.params4] at hA jC;obtain ⟨v0,v1,d0,d1,p0,p1,rfl,rfl,rfl,h0,h1⟩:=trodAll_two hA;obtain ⟨s,rfl,rfl,rfl,hs⟩:=Go.ChangeMaps.open_string underlying9 (jC 0 9 v0 rfl rfl) h0;obtain ⟨cl,rfl,j3⟩:=TF s;unfold maxLen at hs;obtain ⟨va,vl,vc,rfl⟩:∃a n c,v1= .slice a n c:=okWide_slice underlying55 (jC 1 55 v1 rfl rfl);obtain ⟨fu,qU⟩:=h1;obtain ⟨l,hl⟩:=ak1 (fun _=>rfl) qU (akG bm (j:=1) (by kernel_rfl) rfl);clear hA0;have fin:∀W',Below W W W'→∃v,Ending.returned (Value.bool true)= .returned v∧Rows.sessionPlaysSpec.post enc prog Tryz.f4 false true false false W _ v W':=fun W' hb=>
  ⟨_,rfl,_,_,_,[],_,[],ach,trodAll_mk1 (shut_bool underlying4 _),api W' hb,rfl,hb.frame _,fun h=>by cases h⟩
 exact ao7 cl (by omega) _ l W hT hl _ fin
theorem reads(os:Os){H:Type}(enc:TypeId×Value→H):∃places,DataW.whole enc prog ((laidWorld os).forCall (fun _ _=>0) ⟨#[],#[.string ⟨#[]⟩,.slice none 0 0],[]⟩).memory Tryz.f4.params.toList Rows.sessionPlaysSpec.vars false (#[.string ⟨#[]⟩,.slice none 0 0]:Array Value).toList 8=some ([.lit (.string []),.nil],[],places):=
 ⟨[],by kernel_rfl⟩
theorem lifted(os:Os)(started:os.Started)(H:Type)(enc:TypeId×Value→H)(F:Stop.Interp):
 ReturnsInHanded {} Tryz.checked os 4 .any ((OpenSpec.ofChange Rows.sessionPlaysSpec).preRow enc prog Tryz.f4 Rows.sessionPlaysRow.domain false Rows.sessionPlaysRow.laid) (((OpenSpec.ofChange Rows.sessionPlaysSpec).at F).post enc prog Tryz.f4 false true false false):=by
 obtain ⟨places,hx⟩:=reads os enc;refine returnsInHanded_of_row (C:=Tryz.checked) (s:=OpenSpec.ofChange Rows.sessionPlaysSpec) own started (by kernel_rfl) func4
  (witness_row_atRef (enc:=enc) (C:=Tryz.checked) false (laidWorld os) #[.string ⟨#[]⟩,.slice none 0 0] rfl (by kernel_rfl) (by kernel_rfl) (by kernel_rfl)
    (OpenSpec.preRow_of_cond 8 hx (by kernel_rfl) (fun k hk=>by cases hk) (by kernel_rfl) (acw os _))) ?_
 intro W base args ds gs before jC hW _ _ bm hL _ _;exact aph H enc W base args ds gs before jC hW hL bm
theorem said:Rows.SessionPlaysSaid:=
 OpenClaim.holds_of_cond 4 Tryz.f4 rfl rfl rfl rfl rfl rfl rfl ⟨rfl,rfl,rfl,rfl,rfl⟩ rfl rfl rfl rfl rfl (by kernel_rfl) func4 (by kernel_rfl)
  (of_decide_eq_true (by kernel_rfl)) (by unfold Func.isWrapper;rw [if_neg (of_decide_eq_false (by kernel_rfl))];exact ⟨rfl,rfl⟩)
  (fun os started H enc _ F=>by rw [OpenClaim.pre_eq_preRow];exact lifted os started H enc F)
theorem plain(f:FuncId)(fn:Func)(hf:Tryz.pinned.checked.prog.funcNamed "tidings/tidingslaw20.SessionPlays" =some f)(abp:Tryz.pinned.checked.prog.funcs[f]? =some fn):
 false=Tryz.pinned.checked.prog.looks []∧∀(j:Nat) t,fn.params[j]? =some t→Tryz.pinned.checked.prog.wantsStandIn t=false:=by
 obtain rfl:f=4:=Option.some.inj ((show prog.funcNamed "tidings/tidingslaw20.SessionPlays" =some 4 by kernel_rfl).symm.trans hf) |>.symm
 obtain rfl:fn=Tryz.f4:=(Option.some.inj (func4.symm.trans abp)).symm;refine ⟨by kernel_rfl,fun j t ht=> ?_⟩;have iW:(Tryz.f4.params.toList.all fun t=> !(prog.wantsStandIn t))=true:=by kernel_rfl
 have:=List.all_eq_true.1 iW t (by rw [←Array.mem_def];exact Array.mem_of_getElem? ht);exact (by simpa using this:prog.wantsStandIn t=false)
namespace sessionPlaysClaim
theorem card:Rows.SessionPlaysCardSaid:=
 Claim7.holds_tied_plain_at .later [] _ _ _ _ said (fun _ h=>by cases h) (by kernel_rfl) (fun _ h=>by cases h) sessionPlays_row_tie rfl ⟨rfl,rfl⟩ (by kernel_rfl) rfl plain (by kernel_rfl)
end sessionPlaysClaim
end Go.Proofs.YtgimbocoamnkjaaGreatDoor
