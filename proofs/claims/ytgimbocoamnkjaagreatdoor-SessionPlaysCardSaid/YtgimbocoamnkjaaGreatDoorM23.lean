/- A part of the proof of SessionPlays, printed small; no conditions of its own. -/
import Derived.Test.YtgimbocoamnkjaaGreatDoorM22
import Derived.BigRegion
set_option maxRecDepth 100000
set_option maxHeartbeats 16000000
namespace Go.Proofs.YtgimbocoamnkjaaGreatDoor
open Int (toNat_natCast)
open List (mem_cons_of_mem mem_cons_self pairwise_append)
open Nat (succ_mul)
variable{l:List Pr}{k n:Nat}{p:Pr}
open Go.RowKit
structure vM(p:Pr):Prop where
 v:∀t,dL p.id (ff p++t)=some (p,((ff p).length:Int))
 id:∃k:Nat,p.id=(k:Int)∧k<128
 may:bR p.id 3=true
 num:cW p=0
theorem ZU(h:k<128):jz k= [b8 (k:Int)]:=by
 have key:∀k:Fin 128,jz k.val= [b8 (k.val:Int)]:=by decide+kernel
 exact key ⟨k,h⟩
theorem vM.step(h:vM p)(sA:wD p.id l=true→nj p.id 3=true)(t:List UInt8):oT 3 l (bV p++t)=(0,p,((bV p).length:Int)):=by
 obtain ⟨k,hk,fA⟩:=h.id;have hv:(dG p.id).1=jz k:=by rw [hk,zu k (by omega)]
 have hb:bV p++t=jz k++(ff p++t):=by rw [lW,hv,List.append_assoc]
 have hg:=J_ k (by omega) (ff p++t);have aX:(bV p).length=(jz k).length+(ff p).length:=by rw [lW,hv,List.length_append]
 unfold oT;rw [hb,hg];simp only [List.drop_left,←hk];rw [if_neg (by rw [h.may];simp),h.v t];simp only;rw [if_neg (by rintro ⟨h1,h2⟩;rw [sA h1] at h2;cases h2),if_neg (by rw [h.num];simp),aX];simp
theorem vM.pos(h:vM p):1≤(bV p).length:=by
 obtain ⟨k,hk,fA⟩:=h.id;rw [lW,hk,zu k (by omega),List.length_append,ZU fA];simp
theorem ZV:∀(q l:List Pr)(f:Nat),q.length≤f→(∀p∈q,vM p)→(∀p∈q,wD p.id l=true→nj p.id 3=true)→q.Pairwise (fun a b=>a.id=b.id→nj b.id 3=true)→nY f 3 l (q.flatMap bV)=(l++q,0)
 |[],l,f,_,_,_,_=>by cases f<;>simp [nY]
 |p::q,l,0,hf,_,_,_=>by simp at hf
 |p::q,l,f+1,hf,hp,hl,hw=>by
  have h1:=hp p (mem_cons_self);have hs:=h1.step (hl p mem_cons_self) (q.flatMap bV);have sq:=h1.pos;have wk:=List.pairwise_cons.1 hw;have e:(p::q).flatMap bV=bV p++q.flatMap bV:=List.flatMap_cons;rw [e];unfold nY;rw [if_neg (fun h=>by have h2:=congrArg List.length h;rw [List.length_append,List.length_nil] at h2;omega),hs];simp only [ne_eq,not_true_eq_false,if_false,toNat_natCast,List.drop_left];rw [ZV q (l++ [p]) f (by simpa using hf) (fun x hx=>hp x (mem_cons_of_mem _ hx)) (fun x hx hh=> ?_) wk.2,List.append_assoc]
  ·rfl
  ·unfold wD at hh;rw [List.any_append,Bool.or_eq_true] at hh;rcases hh with hh|hh
   ·exact hl x (mem_cons_of_mem _ hx) hh
   ·have:p.id=x.id:=by simpa using hh
    exact wk.1 x hx this
theorem ZW(hp:∀p∈l,vM p)(hw:l.Pairwise (fun a b=>a.id=b.id→nj b.id 3=true))(hn:(l.flatMap bV).length<268435456):eP 3 l=(jz (l.flatMap bV).length++l.flatMap bV,0):=by
 obtain ⟨B,hB⟩:=ai (l.flatMap bV);have gy:l.length≤B.length:=by
  rw [←hB];clear hn hw hB
  induction l with
  |nil=>simp
  |cons p l ih=>
   have h1:=(hp p mem_cons_self).pos;have h2:=ih (fun x hx=>hp x (mem_cons_of_mem _ hx));rw [List.flatMap_cons,List.length_append,List.length_cons]
   omega
 have hf:=ZV l [] B.length gy hp (fun p _ h=>by simp [wD] at h) hw;rw [hB] at hn hf;have hg:=J_ B.length hn B;have hr:nk 3 (jz B.length++B)=(l,((jz B.length++B).length:Int),0):=by
  unfold nk;rw [hg];simp only [List.drop_left,List.take_length,List.length_append];rw [if_neg (by omega),hf];simp
 unfold eP;rw [hB,zu B.length hn];simp only [ne_eq,not_true_eq_false,if_false];rw [if_pos hr]
theorem ale(x:Nat):dE x 1= [b8 (x:Int)]:=by
 unfold dE;rw [if_neg (by decide)];show aR x 1=_;simp [aR]
theorem alf(n:Int):bits .and .i64 n 1=n % 2:=by
 have h7:(BitVec.ofInt 64 1).toNat=2 ^ 1 - 1:=by decide
 have key:(BitVec.ofInt 64 n&&&BitVec.ofInt 64 1).toNat=(n % ((2 ^ 64:Nat):Int)).toNat % 2 ^ 1:=by
  rw [BitVec.toNat_and,BitVec.toNat_ofInt,h7,Nat.and_two_pow_sub_one_eq_mod]
 show IntKind.i64.wrap ((BitVec.ofInt 64 n&&&BitVec.ofInt 64 1).toNat:Nat)=n % 2;rw [key,IntKind.wrap_i64]
 omega
theorem ZX(n:Int):bits .and .i64 n 255=n % 256:=by
 have h7:(BitVec.ofInt 64 255).toNat=2 ^ 8 - 1:=by decide
 have key:(BitVec.ofInt 64 n&&&BitVec.ofInt 64 255).toNat=(n % ((2 ^ 64:Nat):Int)).toNat % 2 ^ 8:=by
  rw [BitVec.toNat_and,BitVec.toNat_ofInt,h7,Nat.and_two_pow_sub_one_eq_mod]
 show IntKind.i64.wrap ((BitVec.ofInt 64 n&&&BitVec.ofInt 64 255).toNat:Nat)=n % 256;rw [key,IntKind.wrap_i64]
 omega
theorem My(n:Int):bits .and .i64 n 65535=n % 65536:=by
 have h7:(BitVec.ofInt 64 65535).toNat=2 ^ 16 - 1:=by decide
 have key:(BitVec.ofInt 64 n&&&BitVec.ofInt 64 65535).toNat=(n % ((2 ^ 64:Nat):Int)).toNat % 2 ^ 16:=by
  rw [BitVec.toNat_and,BitVec.toNat_ofInt,h7,Nat.and_two_pow_sub_one_eq_mod]
 show IntKind.i64.wrap ((BitVec.ofInt 64 n&&&BitVec.ofInt 64 65535).toNat:Nat)=n % 65536;rw [key,IntKind.wrap_i64]
 omega
theorem R8(n:Int):bits .and .i64 n 16777215=n % 16777216:=by
 have h7:(BitVec.ofInt 64 16777215).toNat=2 ^ 24 - 1:=by decide
 have key:(BitVec.ofInt 64 n&&&BitVec.ofInt 64 16777215).toNat=(n % ((2 ^ 64:Nat):Int)).toNat % 2 ^ 24:=by
  rw [BitVec.toNat_and,BitVec.toNat_ofInt,h7,Nat.and_two_pow_sub_one_eq_mod]
 show IntKind.i64.wrap ((BitVec.ofInt 64 n&&&BitVec.ofInt 64 16777215).toNat:Nat)=n % 16777216;rw [key,IntKind.wrap_i64]
 omega
theorem Mz(l:List UInt8):dV (d_ l)=true:=IQ _ fun b hb=>by
 unfold d_ at hb;obtain ⟨x,_,rfl⟩:=List.mem_map.1 hb;exact RK ⟨x.toNat,x.toNat_lt⟩
theorem alg(l:List UInt8):dV (tf++d_ l)=true:=IQ _ fun b hb=>by
 rcases List.mem_append.1 hb with hb|hb
 ·have key:∀b∈tf,b.toNat≠0∧b.toNat<128:=by decide
  exact key b hb
 ·unfold d_ at hb;obtain ⟨x,_,rfl⟩:=List.mem_map.1 hb;exact RK ⟨x.toNat,x.toNat_lt⟩
theorem alh(n:Int)(h0:0≤n)(h1:n≤1):vM ⟨1,n,[],[],[]⟩:=by
 obtain ⟨m,rfl,hm⟩:∃m:Nat,n=(m:Int)∧m<2:=⟨n.toNat,by omega,by omega⟩
 have hu:u64 (m:Int)=m:=UY m (by omega);have e:ff ⟨1,(m:Int),[],[],[]⟩= [b8 (m:Int)]:=by
  show dE (u64 (m:Int)) 1=_;rw [hu,ale]
 have hg:cz [b8 (m:Int)]=m:=by
  have:=Cs 1 m (by decide) (by omega)
  rwa [show aR m 1= [b8 (m:Int)] by simp [aR]] at this
 refine ⟨fun t=> ?_,⟨1,rfl,by decide⟩,by show bR 1 3=true;decide,?_⟩
 ·rw [e];show (if ([b8 (m:Int)]++t).length<1 then none else some ((⟨1,cz (([b8 (m:Int)]++t).take 1),[],[],[]⟩:Pr),(1:Int)))=_;rw [if_neg (by simp)];show some ((⟨1,((cz [b8 (m:Int)]:Nat):Int),[],[],[]⟩:Pr),(1:Int))=_;rw [hg]
  rfl
 ·unfold cW;rw [if_neg (by rintro ⟨_,h⟩;simp only at h;omega),if_neg (by simp),if_neg (by simp)]
theorem R9{l:List UInt8}(h:dV l=true)(hl:l.length≤30):(b5 l).1=aR l.length 2++l:=by rw [wE l (by omega) h]
theorem ali(l:List UInt8)(h:dV l=true)(hl:l.length≤30):vM ⟨3,0,l,[],[]⟩:=by
 have e:ff ⟨3,0,l,[],[]⟩=aR l.length 2++l:=R9 h hl;refine ⟨fun t=> ?_,⟨3,rfl,by decide⟩,by show bR 3 3=true;decide,by show cW ⟨3,0,l,[],[]⟩=0;simp [cW,aO]⟩;rw [e];have hg:=Ga l t (by omega) h;show (if (dq (aR l.length 2++l++t)).2.2=0 then some ((⟨3,0,(dq (aR l.length 2++l++t)).1,[],[]⟩:Pr),(dq (aR l.length 2++l++t)).2.1) else none)=_;rw [hg];simp only [if_true,List.length_append,eU]
 congr 2
 omega
theorem alj(l:List UInt8)(hl:l.length≤30):vM ⟨9,0,[],[],l⟩:=by
 have e:ff ⟨9,0,[],[],l⟩=aR l.length 2++l:=by show (cS l).1=_;rw [J' l (by omega)]
 refine ⟨fun t=> ?_,⟨9,rfl,by decide⟩,by show bR 9 3=true;decide,by show cW ⟨9,0,[],[],l⟩=0;simp [cW,aO]⟩;rw [e];have hg:=F' l t (by omega);show (if (eO (aR l.length 2++l++t)).2.2=0 then some ((⟨9,0,[],[],(eO (aR l.length 2++l++t)).1⟩:Pr),(eO (aR l.length 2++l++t)).2.1) else none)=_;rw [hg];simp only [if_true,List.length_append,eU]
 congr 2
 omega
theorem alk(l m:List UInt8)(h:dV l=true)(hl:l.length≤30)(h2:dV m=true)(hm:m.length≤30):vM ⟨38,0,l,m,[]⟩:=by
 have e:ff ⟨38,0,l,m,[]⟩=aR l.length 2++l++(aR m.length 2++m):=by
  show (b5 l).1++(b5 m).1=_;rw [R9 h hl,R9 h2 hm]
 refine ⟨fun t=> ?_,⟨38,rfl,by decide⟩,by show bR 38 3=true;decide,by show cW ⟨38,0,l,m,[]⟩=0;simp [cW,aO]⟩;rw [e];have hb:aR l.length 2++l++(aR m.length 2++m)++t=aR l.length 2++l++(aR m.length 2++m++t):=by simp only [List.append_assoc]
 rw [hb];have hg:=Ga l (aR m.length 2++m++t) (by omega) h;have bM:=Ga m t (by omega) h2;have hd:(aR l.length 2++l++(aR m.length 2++m++t)).drop (l.length+2)=aR m.length 2++m++t:=by
  rw [List.drop_left' (by rw [List.length_append,eU];omega)]
 have hn:((l.length:Int)+2).toNat=l.length+2:=by omega
 unfold dL;rw [if_neg (show¬aO 38=1 by decide),if_neg (show¬aO 38=2 by decide),if_neg (show¬aO 38=3 by decide),if_neg (show¬aO 38=4 by decide),if_neg (show¬aO 38=5 by decide),if_neg (show¬aO 38=6 by decide),if_pos (show aO 38=7 by decide),hg];simp only [hn,hd,bM,if_true,List.length_append,eU]
 congr 2
 omega
theorem R_(fm:Int)(co cr us:List UInt8):∀p∈kQ fm co cr us,vM p:=by
 intro p hp;unfold kQ at hp;rcases List.mem_append.1 hp with hp|hp
 ·rcases List.mem_append.1 hp with hp|hp
  ·rcases List.mem_append.1 hp with hp|hp
   ·split at hp
    ·obtain rfl:=List.mem_singleton.1 hp;have:=alf fm;exact alh _ (by omega) (by omega)
    ·cases hp
   ·split at hp
    ·obtain rfl:=List.mem_singleton.1 hp;exact ali _ (Mz co) (oG co)
    ·cases hp
  ·split at hp
   ·obtain rfl:=List.mem_singleton.1 hp;exact alj _ (by rw [List.length_take];omega)
   ·cases hp
 ·obtain ⟨u,_,rfl⟩:=List.mem_map.1 hp;exact alk _ _ (Mz [u]) (oG _) (Mz us) (oG us)
theorem ZY(fm:Int)(co cr us:List UInt8):(kQ fm co cr us).Pairwise (fun a b=>a.id=b.id→nj b.id 3=true):=by
 have h38:nj 38 3=true:=by decide
 unfold kQ;rw [pairwise_append,pairwise_append,pairwise_append];refine ⟨⟨⟨?_,?_,fun a ha b hb=> ?_⟩,?_,fun a ha b hb=> ?_⟩,?_,fun a ha b hb=> ?_⟩
 ·split<;>simp
 ·split<;>simp
 ·split at ha<;>split at hb<;>simp at ha hb
  subst ha;subst hb;simp
 ·split<;>simp
 ·split at hb
  ·obtain rfl:=List.mem_singleton.1 hb;rcases List.mem_append.1 ha with ha|ha
   ·split at ha<;>simp at ha
    subst ha;simp
   ·split at ha<;>simp at ha
    subst ha;simp
  ·cases hb
 ·rw [List.pairwise_map];exact List.pairwise_iff_getElem.2 fun i j hi hj N' _=>h38
 ·obtain ⟨u,_,rfl⟩:=List.mem_map.1 hb;exact fun _=>h38
theorem alm(h:vM p)(h1:p.text.length≤30)(h2:p.pair.length≤30)(h3:p.data.length≤30)(hk:aO p.id≠4):(bV p).length≤80:=by
 obtain ⟨k,ib,fA⟩:=h.id;have t1:=wP (l:=p.text) (by omega);have t2:=wP (l:=p.pair) (by omega);have t3:=zO (l:=p.data) (by omega);have w1:(dE (u64 p.num) 1).length=1:=by simp [dE,eU]
 have w2:(dE (u64 p.num) 2).length=2:=by simp [dE,eU]
 have w4:(dE (u64 p.num) 4).length=4:=by simp [dE,eU]
 rw [lW,ib,zu k (by omega),ZU fA,List.length_append,List.length_singleton];unfold ff;rw [if_neg hk]
 (repeat' split)<;>(try simp only [List.length_append,List.length_nil])<;>omega
theorem aln(fm:Int)(co cr us:List UInt8):(kQ fm co cr us).length≤7:=by
 unfold kQ;have:((us.take 4).map fun u=>(⟨38,0,d_ [u],d_ us,[]⟩:Pr)).length≤4:=by rw [List.length_map,List.length_take];omega
 simp only [List.length_append]
 (repeat' split)<;>simp only [List.length_cons,List.length_nil]<;>omega
theorem alo(h:∀p∈l,(bV p).length≤n):(l.flatMap bV).length≤l.length*n:=by
 induction l with
 |nil=>simp
 |cons p l ih=>
  have h1:=h p mem_cons_self;have h2:=ih (fun x hx=>h x (mem_cons_of_mem _ hx));rw [List.flatMap_cons,List.length_append,List.length_cons,succ_mul]
  omega
theorem ZZ(fm:Int)(co cr us:List UInt8):∀p∈kQ fm co cr us,(p.id=1∨p.id=3∨p.id=9∨p.id=38)∧p.text.length≤30∧p.pair.length≤30∧p.data.length≤30:=by
 intro p hp;have h1:=oG co;have h2:=oG us;unfold kQ at hp;rcases List.mem_append.1 hp with hp|hp
 ·rcases List.mem_append.1 hp with hp|hp
  ·rcases List.mem_append.1 hp with hp|hp
   ·split at hp
    ·obtain rfl:=List.mem_singleton.1 hp;simp
    ·cases hp
   ·split at hp
    ·obtain rfl:=List.mem_singleton.1 hp;simp
     omega
    ·cases hp
  ·split at hp
   ·obtain rfl:=List.mem_singleton.1 hp;simp
    omega
   ·cases hp
 ·obtain ⟨u,_,rfl⟩:=List.mem_map.1 hp;have h3:=oG [u];simp
  omega
theorem R'(fm:Int)(co cr us:List UInt8):((kQ fm co cr us).flatMap bV).length≤560:=by
 have h1:=alo (l:=kQ fm co cr us) (n:=80) fun p hp=>by
  obtain ⟨hi,h1,h2,h3⟩:=ZZ fm co cr us p hp;exact alm (R_ fm co cr us p hp) h1 h2 h3 (by rcases hi with e|e|e|e<;>rw [e]<;>decide)
 have h2:=aln fm co cr us
 omega
theorem alp(l:List Pr)(h:∀p∈l,p.id=1∨p.id=3∨p.id=9∨p.id=38):(lL l [1,3,8,9,38]).length=l.length:=by
 unfold lL;rw [List.filter_eq_self.2 (fun p hp=>by rcases h p hp with e|e|e|e<;>rw [e]<;>rfl)]
theorem MA(m:Md):C5 (iO m).note where
 tt:=(Mu m.aJ).tt
 tl:=Nat.le_trans (Mu m.aJ).tl (by decide)
 pl:=by show (m.az.take 300).length≤65535;rw [List.length_take];omega
 st:=Mz m.src
 sl:=Nat.le_trans (oG m.src) (by decide)
 q0:=(tu m.al 0 2 (by decide)).1
 q1:=(tu m.al 0 2 (by decide)).2
 e0:=by
  show 0≤(if 0<m.eM then bits .and .i64 m.eM 65535 else 0);rw [My]
  split<;>omega
 e1:=by
  show (if 0<m.eM then bits .and .i64 m.eM 65535 else 0)≤_;rw [My]
  split<;>omega
 n0:=by show 0≤bits .and .i64 m.number 16777215;rw [R8];omega
 n1:=by show bits .and .i64 m.number 16777215≤_;rw [R8];omega
 o:=⟨(bits .and .i64 m.origin 255).toNat,by
  show bits .and .i64 m.origin 255=_;rw [ZX]
  omega,by rw [ZX];omega⟩
 h:=⟨0,rfl,by decide⟩
 lay:=by
  show (eP 3 (kQ m.fm m.co m.cr m.us)).2=0;have:=R' m.fm m.co m.cr m.us;rw [ZW (R_ _ _ _ _) (ZY _ _ _ _) (by omega)]
 k:=alp _ fun p hp=>(ZZ _ _ _ _ p hp).1
theorem Z1(m:Md):(eK (iO m).note).length≤1100:=by
 have h1:=wP (l:=(iO m).note.aJ) (MA m).tl;have h2:=zO (l:=(iO m).note.az) (MA m).pl;have h3:=wP (l:=(iO m).note.src) (MA m).sl;have h4:(iO m).note.aJ.length≤100:=(Mu m.aJ).tl;have h5:(iO m).note.az.length≤300:=by show (m.az.take 300).length≤300;rw [List.length_take];omega
 have h6:(iO m).note.src.length≤30:=oG m.src;have h7:(eP 3 (iO m).note.props).1.length≤564:=by
  show (eP 3 (kQ m.fm m.co m.cr m.us)).1.length≤564;have:=R' m.fm m.co m.cr m.us;rw [ZW (R_ _ _ _ _) (ZY _ _ _ _) (by omega)];have h8:=(Oh 3 ((kQ m.fm m.co m.cr m.us).flatMap bV).length).2;have h9:jz ((kQ m.fm m.co m.cr m.us).flatMap bV).length=mz 3 ((kQ m.fm m.co m.cr m.us).flatMap bV).length:=rfl;rw [List.length_append,h9]
  omega
 unfold eK;simp only [List.length_append,eU,List.length_cons,List.length_nil]
 omega
theorem Z2(l:List Int):(qA l).length≤4:=by unfold qA;rw [List.length_map,List.length_take];omega
theorem Sa(m:Md):dV (iO m).share=true∧(iO m).share.length≤60:=by
 show dV (if 0<m.share.length then tf++d_ m.share else [])=true∧(if 0<m.share.length then tf++d_ m.share else []).length≤60
 split
 ·refine ⟨alg _,?_⟩;have:=oG m.share;rw [List.length_append];show 9+_≤_
  omega
 ·exact ⟨KJ,by simp⟩
theorem Z4(m:Md):xb (iO m) where
 n:=MA m
 nb:=(Zb m).1
 nl:=Nat.le_trans (Z1 m) (by decide)
 pl:=Nat.le_trans (R' m.fm m.co m.cr m.us) (by decide)
 q0:=(tu m.sub 0 2 (by decide)).1
 q1:=(tu m.sub 0 2 (by decide)).2
 ni:=by
  have:=Z2 m.ids;show (qA m.ids).length<256
  omega
 ir:=fun i hi=>by
  have hi:i∈qA m.ids:=hi;unfold qA at hi;obtain ⟨x,_,rfl⟩:=List.mem_map.1 hi;rw [R8,IntKind.wrap_i64]
  omega
 st:=(Sa m).1
 sl:=Nat.le_trans (Sa m).2 (by decide)
theorem Z6:∀l:List Int,(l.flatMap (fun i=>aR (bj i) 4)).length=l.length*4
 |[]=>rfl
 |x::l=>by
  rw [List.flatMap_cons,List.length_append,eU,Z6 l,List.length_cons]
  omega
theorem alq(m:Md):xA (iO m):=by
 refine ⟨Z4 m,?_,Mu m.aJ⟩;have h1:=Z1 m;have h2:=zO (l:=eK (iO m).note) (by omega);have h3:=wP (l:=(iO m).share) (Z4 m).sl;have h4:=(Sa m).2;have h5:(iO m).ids.length≤4:=Z2 m.ids;unfold jf;rw [List.length_append,List.length_append,List.length_append,List.length_append,Z6];simp only [List.length_cons,List.length_nil]
 omega
open _root_.Go.Proofs.Tryz
variable{K Rb S:Nat}{Q:Nat→Prop}{s:aF}{V W w:World}
theorem LW.Z7{t:aF}(h:LW W V Q w S Rb s t):w.cell? ⟨Rb,1,none⟩=some (.int .i64 t.cP)∧w.frozen? ⟨Rb,1,none⟩=false∧w.cell? ⟨Rb,2,none⟩=some (.int .i64 t.ends)∧w.frozen? ⟨Rb,2,none⟩=false∧w.cell? ⟨Rb,3,none⟩=some (.bool t.eB)∧w.frozen? ⟨Rb,3,none⟩=false:=by
 obtain ⟨Ms,Mr,hx⟩:=h;obtain ⟨sv,qv,fv,gv,hr⟩:=hx.rr;exact ⟨af w Rb 1 _ _ _ hr.hS,aB hr.hS 1,af w Rb 2 _ _ _ hr.hS,aB hr.hS 2,af w Rb 3 _ _ _ hr.hS,aB hr.hS 3⟩
theorem LW.alr{t:aF}(h:LW W V (fun b=>b=K) w S Rb s t):K≠Rb:=fun e=>by
 obtain ⟨Ms,Mr,hx⟩:=h;obtain ⟨sv,qv,fv,gv,hr⟩:=hx.rr;exact (hx.q2 K rfl).2 (by show Mr K;rw [e];exact hr.mR)
theorem als(h1:s.aj.length≤8)(h2:s.queue.length≤8):(tZ s).length≤100000:=by
 have h3:=List.length_filter_le oB s.aj;have h4:=List.length_filter_le j7 s.queue;unfold tZ;rw [List.length_append,List.length_map]
 omega
theorem alu:ur 3:=by
 intro x ta fa sa pa ca ra ua ia tc fc sc pc cc rc uc ic S Rb s hs hq W V w Q h cX cM dA dj R hR
 obtain ⟨z,hz⟩:=ai (cV (kE x.n [2,3]) s.aj);obtain ⟨z',jr⟩:∃z,cV (fun f:Fl=>f.id==x.n) s.aj=z:=⟨_,rfl⟩
 obtain ⟨t,a,b,gu,jw⟩:=ah5 hs (fine:=x.yes) hz jr;have HZ:=ab hz;have IU:=ab jr;have mo:=ab gu;have yM:=ab jw;have fy:Hid (s.aj.length≤100000):=Nat.le_trans hs.inv.fn (by decide);clear hz jr gu jw;have HR:=ab hR;have HS:=ab hs;have HQ:=ab hq;have rh:=ab cX;have ri:=ab cM;have rj:=ab dA;have tg:=ab dj;have hl:=h.hold (Obj.cells (cq x ta tc fa fc sa sc pa pc ca cc ra rc ua uc ia ic) 66);have aq:=heap_alloc_new w (Obj.cells (cq x ta tc fa fc sa sc pa pc ca cc ra rc ua uc ia ic) 66);have c0:=af _ w 0 _ _ _ aq;clear hR hs hq h cX cM dA dj;go_enter func23,ntmps23;go_upto_region 1 with fail
 generalize w.alloc (Obj.cells (cq x ta tc fa fc sa sc pa pc ca cc ra rc ua uc ia ic) 66)=w1 at hl aq c0⊢;obtain ⟨K,hK⟩:=ai w.heap.size;rw [hK] at hl aq c0⊢;have HL:=ab hl;have aU:=ab aq;clear hl aq hK;go_upto_region 11 with (first
  |(go_at_call 20;go_must (refine mv x.d 0 12 _ (by decide) (by decide) (by decide) _ ?_);rw [HQ.o_]))
 clear c0;have c1:=af w1 K 1 _ _ _ aU.o_;have c3:=af w1 K 3 _ _ _ aU.o_;go_wp2_with (first
  |(go_at_call 11;go_must (refine akg HL.o_ HS.o_.inv x.n z x.yes HZ.o_ t a b mo.o_ _ ?_);intro w3 h3;have iP:=ab h3;have d1:=af w3 K 1 _ _ _ (h3.row rfl aU.o_);have d3:=af w3 K 3 _ _ _ (h3.row rfl aU.o_);clear h3 c1 c3)
  |(go_at_call 72;go_must (refine akj iP.o_ fy.o_ x.n z' x.yes IU.o_ _ a b yM.o_ _ ?_);intro w4 h4;have jH:=ab h4;clear h4))
 exact HR.o_ _ t (HS.o_.Pj HZ.o_ mo.o_) ((jH.o_.DH t.cj).plain _)
theorem alv:ur 5:=by
 intro x ta fa sa pa ca ra ua ia tc fc sc pc cc rc uc ic S Rb s hs hq W V w Q h cX cM dA dj R hR
 obtain ⟨t,a,b,hc⟩:∃t a b,zX s x.n=(t,a,b):=⟨_,_,_,rfl⟩
 have HC:=ab hc;have fy:Hid (s.aH.length≤100000):=Nat.le_trans hs.gn (by decide);clear hc;have HR:=ab hR;have HS:=ab hs;have HQ:=ab hq;have rh:=ab cX;have ri:=ab cM;have rj:=ab dA;have tg:=ab dj;have hl:=h.hold (Obj.cells (cq x ta tc fa fc sa sc pa pc ca cc ra rc ua uc ia ic) 66);have aq:=heap_alloc_new w (Obj.cells (cq x ta tc fa fc sa sc pa pc ca cc ra rc ua uc ia ic) 66);have c0:=af _ w 0 _ _ _ aq;clear hR hs hq h cX cM dA dj;go_enter func23,ntmps23;go_upto_region 1 with fail
 generalize w.alloc (Obj.cells (cq x ta tc fa fc sa sc pa pc ca cc ra rc ua uc ia ic) 66)=w1 at hl aq c0⊢;obtain ⟨K,hK⟩:=ai w.heap.size;rw [hK] at hl aq c0⊢;have HL:=ab hl;have aU:=ab aq;clear hl aq hK;go_upto_region 17 with (first
  |(go_at_call 20;go_must (refine mv x.d 0 12 _ (by decide) (by decide) (by decide) _ ?_);rw [HQ.o_]))
 clear c0;have c1:=af w1 K 1 _ _ _ aU.o_;go_wp2_with (first
  |(go_at_call 52;go_must (refine akk HL.o_ x.n rj.o_ t a b HC.o_ _ ?_);intro w3 h3;have iP:=ab h3;have d1:=af w3 K 1 _ _ _ (h3.row rfl aU.o_);clear h3 c1)
  |(go_at_call 74;go_must (refine akl iP.o_ fy.o_ x.n t a b HC.o_ _ ?_);intro w4 h4;have jH:=ab h4;clear h4))
 exact HR.o_ _ t (HS.o_.ah2 HC.o_) (jH.o_.plain _)
theorem alw:ur 11:=by
 intro x ta fa sa pa ca ra ua ia tc fc sc pc cc rc uc ic S Rb s hs hq W V w Q h cX cM dA dj R hR
 obtain ⟨p,hp⟩:=ai (bits .and .i64 x.n 65535);obtain ⟨q,qZ⟩:=ai (bits .and .i64 x.m 65535);have FA:0≤p∧p≤65535:=by rw [←hp,My];omega
 have lH:0≤q∧q≤65535:=by rw [←qZ,My];omega
 have fU:=ab FA;have th:=ab lH;clear FA lH;have HR:=ab hR;have HS:=ab hs;have HQ:=ab hq;have rh:=ab cX;have ri:=ab cM;have rj:=ab dA;have tg:=ab dj;have hl:=h.hold (Obj.cells (cq x ta tc fa fc sa sc pa pc ca cc ra rc ua uc ia ic) 66);have aq:=heap_alloc_new w (Obj.cells (cq x ta tc fa fc sa sc pa pc ca cc ra rc ua uc ia ic) 66);have c0:=af _ w 0 _ _ _ aq;clear hR hs hq h cX cM dA dj;go_enter func23,ntmps23;go_upto_region 1 with fail
 generalize w.alloc (Obj.cells (cq x ta tc fa fc sa sc pa pc ca cc ra rc ua uc ia ic) 66)=w1 at hl aq c0⊢;obtain ⟨K,hK⟩:=ai w.heap.size;rw [hK] at hl aq c0⊢;have HL:=ab hl;have aU:=ab aq;clear hl aq hK;go_upto_region 33 with (first
  |(go_at_call 20;go_must (refine mv x.d 0 12 _ (by decide) (by decide) (by decide) _ ?_);rw [HQ.o_]))
 clear c0;have c1:=af w1 K 1 _ _ _ aU.o_;have c2:=af w1 K 2 _ _ _ aU.o_;have c3:=af w1 K 3 _ _ _ aU.o_;go_upto_region 34 with (first
  |(go_at_call 46;go_must (refine akw HL.o_ p q x.yes _ ?_);intro w3 h3;have iP:=ab h3;clear h3))
 clear c1 c2 c3;have lA:=iP.o_.below (Below.refl _ _).drew;have c1:=af w3.drew K 1 _ _ _ (lA.row rfl aU.o_);have c2:=af w3.drew K 2 _ _ _ (lA.row rfl aU.o_);have c3:=af w3.drew K 3 _ _ _ (lA.row rfl aU.o_);have alx:=ab ((iP.o_.akx p q x.yes).1.below (Below.refl _ _).drew);obtain ⟨are,arf,arh,ari,arj,ark⟩:=iP.o_.Z7;obtain ⟨arl,arn,aro,arp,arq,ars⟩:=lA.Z7;have d1:=af w3 K 1 _ _ _ (iP.o_.row rfl aU.o_);have d2:=af w3 K 2 _ _ _ (iP.o_.row rfl aU.o_);have d3:=af w3 K 3 _ _ _ (iP.o_.row rfl aU.o_);have bh:=iP.o_.alr;have art:=bh.symm;clear lA;go_region
 all_goals
  go_wp2_with fail;exact HR.o_ _ _ (HS.o_.ah3 fU.o_ th.o_) (alx.o_.plain _)
theorem aly:ur 12:=by
 intro x ta fa sa pa ca ra ua ia tc fc sc pc cc rc uc ic S Rb s hs hq W V w Q h cX cM dA dj R hR
 obtain ⟨N,hN⟩:=ai ((tZ s).length);have HN:=ab hN;have yK:Hid (N≤100000):=by
  have h1:=hs.inv.fn;have h2:=hs.inv.qn;show N≤100000;rw [←hN];exact als h1 h2
 have fy:Hid (s.aj.length≤100000):=Nat.le_trans hs.inv.fn (by decide);have MC:Hid (s.queue.length≤100000):=Nat.le_trans hs.inv.qn (by decide);clear hN;have HR:=ab hR;have HS:=ab hs;have HQ:=ab hq;have rh:=ab cX;have ri:=ab cM;have rj:=ab dA;have tg:=ab dj;have hl:=h.hold (Obj.cells (cq x ta tc fa fc sa sc pa pc ca cc ra rc ua uc ia ic) 66);have aq:=heap_alloc_new w (Obj.cells (cq x ta tc fa fc sa sc pa pc ca cc ra rc ua uc ia ic) 66);have c0:=af _ w 0 _ _ _ aq;clear hR hs hq h cX cM dA dj;go_enter func23,ntmps23;go_upto_region 1 with fail
 generalize w.alloc (Obj.cells (cq x ta tc fa fc sa sc pa pc ca cc ra rc ua uc ia ic) 66)=w1 at hl aq c0⊢;obtain ⟨K,hK⟩:=ai w.heap.size;rw [hK] at hl aq c0⊢;have HL:=ab hl;have aU:=ab aq;clear hl aq hK;go_upto_region 36 with (first
  |(go_at_call 20;go_must (refine mv x.d 0 12 _ (by decide) (by decide) (by decide) _ ?_);rw [HQ.o_]))
 clear c0;obtain ⟨Ms,Mr,hx⟩:=HL.o_;have HX:=ab hx;clear hx;go_wp2_with (first
  |(go_at_call 17;go_must (refine ald S s N HN.o_ MC.o_ fy.o_ _ Ms HX.o_.sr _ ?_);intro xa xc qs w3 h1 h2 h3 h4 an;have gY:=ab (HX.o_.below an);have MD:Hid (xH w3 xa N (tZ s)):=ab ⟨⟨qs,h1,qG h2,fun p hp=>(h3 p hp).c (h4 p hp)⟩,HN.o_.symm⟩;clear h1 h2 h3 h4 an)
  |(go_at_call 85;go_must (refine ahg Rb s N HN.o_ MC.o_ fy.o_ _ Ms Mr gY.o_.rr _ ?_);intro ya yc alz w4 h1 h2 h3 ak;have Bk:=ab (gY.o_.below ak);have tP:=ab (MD.o_.below ak);have alA:Hid (xH w4 ya N (tZ s)):=ab ⟨⟨alz,h1,qG h2,fun p hp=>(h3 p hp).1.o_⟩,HN.o_.symm⟩;clear h1 h2 h3 ak)
  |(go_at_call 84;go_must (refine ZQ (tZ s) N yK.o_ _ _ _ _ _ tP.o_ alA.o_ _ ?_);intro w5 aC;have gQ:=ab (Bk.o_.below aC);clear aC))
 exact HR.o_ _ s HS.o_ (LW.plain (Q:=_) ⟨_,_,gQ.o_⟩ _)
variable{B:Nat}{w':World}
def FB:List (List UInt8):= [[116],[116,47,43],[35],[97,47,98],[43,47,98],[36,115,104,97,114,101,47,103,47,116],[120],[121],[122],[116,47,35]]
def uw(q:Nat):List UInt8:=FB.getD q []
def IV(x:qC):Sb:=⟨uw (within x.n 0 9).toNat,within x.sub.al 0 2,x.sub.lE,x.sub.lF,within x.sub.jx 0 2,within x.sub.id 0 300⟩
theorem alB:∀q:Fin 10,dV (uw q.val)=true∧1≤(uw q.val).length∧(uw q.val).length≤64:=by decide+kernel
theorem alC(x:qC):BH (IV x):=by
 have h1:=tu x.n 0 9 (by decide);have h2:=tu x.sub.al 0 2 (by decide);have h3:=tu x.sub.jx 0 2 (by decide);have h4:=tu x.sub.id 0 300 (by decide);have hf:=alB ⟨(within x.n 0 9).toNat,by omega⟩;refine ⟨⟨h2.1,h2.2,h3.1,h3.2,?_⟩,hf.1,hf.2.1,hf.2.2,h4.1,?_⟩
 ·have h5:(uw (within x.n 0 9).toNat).length≤64:=hf.2.2;show (uw (within x.n 0 9).toNat).length≤65535
  omega
 ·have:=h4.2;show within x.sub.id 0 300≤268435455
  omega
theorem alD(w:World)(e:Nat)(q:Nat)(hq:q<10)(K:Nat)(hK:w.heap[K]? =some (Obj.cells (FB.map fun l=>Value.string (str l)).toArray e)):w.cell? ⟨K,q,none⟩=some (.string (str (uw q))):=by
 rw [af w K q _ _ _ hK]
 match q,hq with
 |0,_|1,_|2,_|3,_|4,_|5,_|6,_|7,_|8,_|9,_=>rfl
theorem Sc(h:Below B w w')(hS:B≤S)(j:Nat)(u:Value):Below B w (w'.setCell ⟨S,j,none⟩ u):=h.setCell hS u
theorem ME(x:qC)(ta fa sa pa ca ra ua ia:Option Addr)(tc fc sc pc cc rc uc ic:Nat)(y:Sb)(hy:IV x=y)(w:World)(R:Ending→World→Prop)
 (hR:∀w',Below w w w'→R (.returned (.agg (bB y))) w'):
 Calls prog 77 #[.agg (cq x ta tc fa fc sa sc pa pc ca cc ra rc ua uc ia ic)] w R:=by
 have HR:=ab hR;obtain ⟨q,hq⟩:∃q:Nat,within x.n 0 9=(q:Int):=⟨(within x.n 0 9).toNat,by have:=(tu x.n 0 9 (by decide)).1;omega⟩
 have alE:q<10:=by have:=(tu x.n 0 9 (by decide)).2;omega
 obtain ⟨vq,Sd⟩:=ai (within x.sub.al 0 2);obtain ⟨vh,Se⟩:=ai (within x.sub.jx 0 2);obtain ⟨vi,Sf⟩:=ai (within x.sub.id 0 300);have Z8:y=⟨uw q,vq,x.sub.lE,x.sub.lF,vh,vi⟩:=by
  rw [←hy,←Sd,←Se,←Sf];unfold IV;rw [hq]
  rfl
 have wG:=ab Z8;have HQ:=ab hq;have alF:=ab Sd;have oU:=ab Se;have alG:=ab Sf;have aw:Below w w ((w.alloc (Obj.cells (cq x ta tc fa fc sa sc pa pc ca cc ra rc ua uc ia ic) 66)).alloc (Obj.cells fX 64)):=((Below.refl _ _).alloc (Nat.le_refl _) _).alloc ((Below.refl w w).alloc (Nat.le_refl _) _).size _;have gu:=gq (o':=(Obj.cells fX 64)) (heap_alloc_new w (Obj.cells (cq x ta tc fa fc sa sc pa pc ca cc ra rc ua uc ia ic) 66));have cm:=heap_alloc_new (w.alloc (Obj.cells (cq x ta tc fa fc sa sc pa pc ca cc ra rc ua uc ia ic) 66)) (Obj.cells fX 64);have bm:(w.alloc (Obj.cells (cq x ta tc fa fc sa sc pa pc ca cc ra rc ua uc ia ic) 66)).heap.size=w.heap.size+1:=by rw [World.size_alloc]
 rw [bm] at cm;have bt:((w.alloc (Obj.cells (cq x ta tc fa fc sa sc pa pc ca cc ra rc ua uc ia ic) 66)).alloc (Obj.cells fX 64)).heap.size=w.heap.size+2:=by rw [World.size_alloc,bm]
 clear hR hy hq Sd Se Sf Z8;go_enter func77,ntmps77;go_upto_region 1 with fail
 generalize ((w.alloc (Obj.cells (cq x ta tc fa fc sa sc pa pc ca cc ra rc ua uc ia ic) 66)).alloc (Obj.cells fX 64))=w2 at aw gu cm bt⊢;obtain ⟨K,hK⟩:=ai w.heap.size;rw [hK] at gu cm bt⊢;have HK:=ab hK;have mo:=ab gu;have sN:=ab cm;have bP:=ab aw;have pP:=ab bt;have HC:Hid (∀j,j<((bB x.sub):List Value).length→w2.cell? ⟨K,20+j,none⟩=((bB x.sub):List Value)[j]?):=WT (a:= (cq x ta tc fa fc sa sc pa pc ca cc ra rc ua uc ia ic)) 20 6 gu rfl;have NZ:=ab (heap_alloc_new w2 (Obj.cells fX 64));clear hK gu cm aw bt bm;go_upto_region 2 with (first
  |(refine ie (o:=⟨some 6,.load 64 (.tmp 5),_,_,_,_⟩) (by rfl) 64 (.tmp 5) (by rfl) (K) (20) (by rfl) ((bB x.sub)) _ (HC.o_) (underlying64) (by rfl) (by kernel_rfl) ?_)
  |(refine wpList_store_row (o:=⟨none,.store 64 (.tmp 3) (.tmp 6),_,_,_,_⟩) (by rfl) 64 (.tmp 3) (.tmp 6) (by rfl) w2.heap.size _ (by rfl) (by rfl) 64 _ NZ.o_ (by kernel_rfl) (by rfl) (by simp [Value.oneCell']) ?_;rw [World.setRow_alloc_new]))
 have jF:=heap_alloc_new w2 (Obj.cells (bB x.sub) 64);have an:=(Below.refl w2 w2).alloc (Nat.le_refl _) (Obj.cells (bB x.sub) 64);have fj:(w2.alloc (Obj.cells (bB x.sub) 64)).heap.size=K+3:=by rw [World.size_alloc,pP.o_]
 have yQ:=ab (aA mo.o_ an);have Z9:=ab (aA sN.o_ an);have bU:=ab (aD bP.o_ an bP.o_.size);rw [pP.o_] at jF;go_upto_region 3 with fail
 rw [pP.o_];have MF:=heap_alloc_new (w2.alloc (Obj.cells (bB x.sub) 64)) (Obj.cells (FB.map fun l=>Value.string (str l)).toArray 9);have ak:=(Below.refl (w2.alloc (Obj.cells (bB x.sub) 64)).heap.size (w2.alloc (Obj.cells (bB x.sub) 64))).alloc (Nat.le_refl _) (Obj.cells (FB.map fun l=>Value.string (str l)).toArray 9);rw [fj] at MF;have gZ:=aA jF ak;have Sg:=aA yQ.o_ ak;have Sh:=aA Z9.o_ ak;have Si:=aD bU.o_ ak bU.o_.size
 change Code.wp _ _ _ _ ((w2.alloc (Obj.cells (bB x.sub) 64)).alloc (Obj.cells (FB.map fun l=>Value.string (str l)).toArray 9))
 generalize (w2.alloc (Obj.cells (bB x.sub) 64)).alloc (Obj.cells (FB.map fun l=>Value.string (str l)).toArray 9)=w4 at MF gZ Sg Sh Si⊢;have EV:=ab gZ;have alH:=ab Sh;have b6:=ab Si;have c1:=af w4 K 1 _ _ _ Sg;have cf:=alD w4 _ q alE (K+3) MF;have t0:=af w4 (K+2) 0 _ _ _ gZ;have f0:=aB gZ 0;have xG:(q:Int)<10:=by omega
 clear MF gZ Sg Sh Si ak fj jF an yQ Z9 bU;go_upto_region 4 with (first
  |(go_at_call 20;go_must (refine mv x.n 0 9 _ (by decide) (by decide) (by decide) _ ?_);rw [HQ.o_]))
 have dz:(w4.setCell ⟨K+2,0,none⟩ (.string (str (uw q)))).heap[K+2]? =some (Obj.cells #[.string (str (uw q)),.int .i64 x.sub.al,.bool x.sub.lE,.bool x.sub.lF,.int .i64 x.sub.jx,.int .i64 x.sub.id] 64):=by
  rw [heap_setCell_same w4 (K+2) 0 _ _ _ EV.o_]
  rfl
 have fo:=bL w4 ⟨K+2,0,none⟩ (.string (str (uw q)));have FC:=dQ fo alH.o_ (show K+1≠K+2 by omega);have aC:Below w w (w4.setCell ⟨K+2,0,none⟩ (.string (str (uw q)))):=b6.o_.setCell (by have:=HK.o_;show _≤K+2;omega) _;generalize w4.setCell ⟨K+2,0,none⟩ (.string (str (uw q)))=w5 at dz FC aC⊢;have mK:=ab dz;have En:=ab FC;have eb:=ab aC;have tw:=(Below.refl w5 w5).drew;have FD:=aA dz tw;have t1:=af w5.drew (K+2) 1 _ _ _ FD;have t4:=af w5.drew (K+2) 4 _ _ _ FD;have t5:=af w5.drew (K+2) 5 _ _ _ FD;have g1:=aB FD 1;have g4:=aB FD 4;have g5:=aB FD 5;have e1:=aB dz 1;have e4:=aB dz 4;have e5:=aB dz 5;have u1:=af w5 (K+2) 1 _ _ _ dz;have u4:=af w5 (K+2) 4 _ _ _ dz;have u5:=af w5 (K+2) 5 _ _ _ dz;clear dz fo FC aC c1 cf t0 f0;have wK:Hid ((((w5.setCell ⟨K+2,1,none⟩ (.int .i64 vq)).setCell ⟨K+2,4,none⟩ (.int .i64 vh)).setCell ⟨K+2,5,none⟩ (.int .i64 vi)).drew.heap[K+2]? =some (Obj.cells (bB y) 64)):=by
  show (((w5.setCell ⟨K+2,1,none⟩ (.int .i64 vq)).setCell ⟨K+2,4,none⟩ (.int .i64 vh)).setCell ⟨K+2,5,none⟩ (.int .i64 vi)).heap[K+2]? =_;rw [heap_setCell_same _ (K+2) 5 _ _ _ (heap_setCell_same _ (K+2) 4 _ _ _ (heap_setCell_same w5 (K+2) 1 _ _ _ mK.o_)),wG.o_]
  rfl
 have Ex:w5.grownBy (((w5.setCell ⟨K+2,1,none⟩ (.int .i64 vq)).setCell ⟨K+2,4,none⟩ (.int .i64 vh)).setCell ⟨K+2,5,none⟩ (.int .i64 vi)) (some (K+2)):=bO (bO (bL w5 ⟨K+2,1,none⟩ _) (bL _ ⟨K+2,4,none⟩ _)) (bL _ ⟨K+2,5,none⟩ _);have uU:Hid ((((w5.setCell ⟨K+2,1,none⟩ (.int .i64 vq)).setCell ⟨K+2,4,none⟩ (.int .i64 vh)).setCell ⟨K+2,5,none⟩ (.int .i64 vi)).drew.heap[K+1]? =some (Obj.cells fX 64)):=ab (show (((w5.setCell ⟨K+2,1,none⟩ (.int .i64 vq)).setCell ⟨K+2,4,none⟩ (.int .i64 vh)).setCell ⟨K+2,5,none⟩ (.int .i64 vi)).heap[K+1]? =_ from dQ Ex En.o_ (show K+1≠K+2 by omega));have bd:w.heap.size≤K+2:=by have:=HK.o_;omega
 have IW:Hid (Below w w (((w5.setCell ⟨K+2,1,none⟩ (.int .i64 vq)).setCell ⟨K+2,4,none⟩ (.int .i64 vh)).setCell ⟨K+2,5,none⟩ (.int .i64 vi)).drew):=ab (Sc (Sc (Sc eb.o_ bd _ _) bd _ _) bd _ _).drew;clear Ex bd;go_cut [] from 18 to 29 (fun wx=>Hid (wx.heap[K+2]? =some (Obj.cells (bB y) 64))∧Hid (wx.heap[K+1]? =some (Obj.cells fX 64))∧Hid (Below w w wx))
 case first=>
  go_region_law (first
   |(go_simp;go_at_call_of 20 (Value.int .i64 x.sub.al);refine mv x.sub.al 0 2 _ ?_ ?_ ?_ _ ?_;decide;decide;decide;rw [alF.o_])
   |(go_simp;go_at_call_of 20 (Value.int .i64 x.sub.jx);refine mv x.sub.jx 0 2 _ ?_ ?_ ?_ _ ?_;decide;decide;decide;rw [oU.o_])
   |(go_simp;go_at_call_of 20 (Value.int .i64 x.sub.id);refine mv x.sub.id 0 300 _ ?_ ?_ ?_ _ ?_;decide;decide;decide;rw [alG.o_]))
  all_goals
   go_wp2_with fail;go_meet;exact ⟨wK,uU,IW⟩
 obtain ⟨nB,KX,ov⟩:=hcut;clear wK uU IW;go_wp2_with (first
  |(refine wpList_load_row (o:=⟨some 30,.load 64 (.tmp 3),_,_,_,_⟩) (by rfl) 64 (.tmp 3) (by rfl) ((K+2)) (by rfl) 64 _ (0,0) _ (nB).o_ (underlying64) (by rfl) (by kernel_rfl) ?_)
  |(refine wpList_store_row (o:=⟨none,.store 64 (.tmp 2) (.tmp 30),_,_,_,_⟩) (by rfl) 64 (.tmp 2) (.tmp 30) (by rfl) ((K+1)) _ (by rfl) (by rfl) 64 _ (KX).o_ (by kernel_rfl) (by rfl) (by simp [Value.oneCell']) ?_))
 refine bodyPost_ret (results_cell_row rfl _ _ (K+1) 64 (bB y) (0,0) _ rfl (setRow_heap _ (K+1) _ _ _ _ KX.o_) underlying64 rfl (by kernel_rfl)) rfl ?_;exact HR.o_ _ (below_setRow ov.o_ (by have:=HK.o_;omega) _)
variable{t:Nat}{fr:Nat×Nat}
theorem alI{P:Program}{ty b:Nat}{cs:Array Value}{Y:Sem Nat}(hY:Go.sizeOf ty=Y)(h:w.heap[b]? =some (.cells cs t fr))(hi:(P.info? ty).map (·.size)=some cs.size):
 ((Sem.run P Y w).andThen fun a w'=>(Sem.run P (loadCellsFrom ⟨b,0,none⟩ 0 a #[]) w').andThen fun a w'=>Result.ok (Value.agg a) w')=Result.ok (Value.agg cs) w:=by
 have hl:(loadCells ⟨b,0,none⟩ cs.toList.length).run P w= .ok cs.toList.toArray w:=
  run_loadCells_list (P:=P) w ⟨b,0,none⟩ cs.toList (fun j v hv=>by
   have Mf:(⟨b,0,none⟩:Addr).add j=⟨b,j,none⟩:=by unfold Addr.add;split<;>simp_all
   rw [Mf,af w b j cs t fr h]
   simpa using hv)
 simp only [loadCells,Array.length_toList,Array.toArray_toList] at hl;subst hY;cases hq:P.info? ty with
 |none=>simp [hq] at hi
 |some i=>
  have hs:i.size=cs.size:=by simpa [hq] using hi
  simp [Go.sizeOf,typeInfo,hq,hs,hl]
theorem alJ{P:Program}{ty b o:Nat}{L:List Value}{Y:Sem Nat}(hY:Go.sizeOf ty=Y)(h:∀j,j<L.length→w.cell? ⟨b,o+j,none⟩=L[j]?)(hi:(P.info? ty).map (·.size)=some L.length):
 ((Sem.run P Y w).andThen fun a w'=>(Sem.run P (loadCellsFrom ⟨b,o,none⟩ 0 a #[]) w').andThen fun a w'=>Result.ok (Value.agg a) w')=Result.ok (Value.agg L.toArray) w:=by
 have hl:(loadCells ⟨b,o,none⟩ L.length).run P w= .ok L.toArray w:=
  run_loadCells_list (P:=P) w ⟨b,o,none⟩ L (fun j v hv=>by
   have Mf:(⟨b,o,none⟩:Addr).add j=⟨b,o+j,none⟩:=by unfold Addr.add;split<;>simp_all
   rw [Mf,h j (List.getElem?_eq_some_iff.1 hv).1];exact hv)
 simp only [loadCells] at hl;subst hY;cases hq:P.info? ty with
 |none=>simp [hq] at hi
 |some i=>
  have hs:i.size=L.length:=by simpa [hq] using hi
  simp [Go.sizeOf,typeInfo,hq,hs,hl]
structure rl(K:Nat)(o:Obj)(w:World):Prop where
 row:w.heap[K]? =some o
theorem alK:ur 7:=by
 intro x ta fa sa pa ca ra ua ia tc fc sc pc cc rc uc ic S Rb s hs hq W V w Q h cX cM dA dj R hR
 obtain ⟨y,hy⟩:=ai (IV x);obtain ⟨t,a,b,hc⟩:∃t a b,v_ s y=(t,a,b):=⟨_,_,_,rfl⟩
 have HY:=ab hy;have HC:=ab hc;have alL:Hid (BH y):=by rw [←hy];exact alC x
 have jo:=ab hs.ss;have fy:Hid (s.ay.length≤100000):=Nat.le_trans hs.sn (by decide);clear hc hy;have HR:=ab hR;have HS:=ab hs;have HQ:=ab hq;have rh:=ab cX;have ri:=ab cM;have rj:=ab dA;have tg:=ab dj;have hl:=h.hold (Obj.cells (cq x ta tc fa fc sa sc pa pc ca cc ra rc ua uc ia ic) 66);have aq:=heap_alloc_new w (Obj.cells (cq x ta tc fa fc sa sc pa pc ca cc ra rc ua uc ia ic) 66);have c0:=af _ w 0 _ _ _ aq;clear hR hs hq h cX cM dA dj;go_enter func23,ntmps23;go_upto_region 1 with fail
 generalize w.alloc (Obj.cells (cq x ta tc fa fc sa sc pa pc ca cc ra rc ua uc ia ic) 66)=w1 at hl aq c0⊢;obtain ⟨K,hK⟩:=ai w.heap.size;rw [hK] at hl aq c0⊢;have HL:=ab hl;have aU:=ab aq;clear hl aq hK;go_upto_region 23 with (first
  |(go_at_call 20;go_must (refine mv x.d 0 12 _ (by decide) (by decide) (by decide) _ ?_);rw [HQ.o_]))
 clear c0;have fV:Hid True:=trivial;go_wp2_with (first
  |(refine wpList_load_row (o:=⟨some 163,.load 66 (.tmp 5),_,_,_,_⟩) (by rfl) 66 (.tmp 5) (by rfl) (K) (by rfl) 66 _ (0,0) _ (aU).o_ (underlying66) (by rfl) (by kernel_rfl) ?_)
  |(refine wpList_load_row (o:=⟨some 170,.load 66 (.tmp 5),_,_,_,_⟩) (by rfl) 66 (.tmp 5) (by rfl) (K) (by rfl) 66 _ (0,0) _ (Kt).o_ (underlying66) (by rfl) (by kernel_rfl) ?_)
  |(have lV:=fV;go_at_call 77;go_must (refine ME x ta fa sa pa ca ra ua ia tc fc sc pc cc rc uc ic y HY.o_ _ _ ?_);intro w2 ah;have mi:=ab (HL.o_.below ah);clear ah lV fV)
  |(go_at_call 47;go_must (refine ako mi.o_ y t a b HC.o_ jo.o_ fy.o_ _ ?_);intro w3 h3;have iP:=ab h3;have Kt:=ab (h3.row rfl aU.o_);clear h3)
  |(go_at_call 77;go_must (refine ME x ta fa sa pa ca ra ua ia tc fc sc pc cc rc uc ic y HY.o_ _ _ ?_);intro w4 ak;have jH:=ab (iP.o_.below ak);clear ak)
  |(go_at_call 78;go_must (refine akp jH.o_ y t a b HC.o_ jo.o_ fy.o_ _ ?_);intro w5 h5;have uu:=ab h5;clear h5))
 exact HR.o_ _ t (HS.o_.sub alL.o_ HC.o_) (uu.o_.plain _)
theorem alM:ur 8:=by
 intro x ta fa sa pa ca ra ua ia tc fc sc pc cc rc uc ic S Rb s hs hq W V w Q h cX cM dA dj R hR
 obtain ⟨y,hy⟩:=ai (IV x);obtain ⟨t,b,hc⟩:∃t b,AW s y.filter=(t,b):=⟨_,_,rfl⟩
 have HY:=ab hy;have HC:=ab hc;have jo:=ab hs.ss;have fy:Hid (s.ay.length≤100000):=Nat.le_trans hs.sn (by decide);clear hc hy;have HR:=ab hR;have HS:=ab hs;have HQ:=ab hq;have rh:=ab cX;have ri:=ab cM;have rj:=ab dA;have tg:=ab dj;have hl:=h.hold (Obj.cells (cq x ta tc fa fc sa sc pa pc ca cc ra rc ua uc ia ic) 66);have aq:=heap_alloc_new w (Obj.cells (cq x ta tc fa fc sa sc pa pc ca cc ra rc ua uc ia ic) 66);have c0:=af _ w 0 _ _ _ aq;clear hR hs hq h cX cM dA dj;go_enter func23,ntmps23;go_upto_region 1 with fail
 generalize w.alloc (Obj.cells (cq x ta tc fa fc sa sc pa pc ca cc ra rc ua uc ia ic) 66)=w1 at hl aq c0⊢;obtain ⟨K,hK⟩:=ai w.heap.size;rw [hK] at hl aq c0⊢;have HL:=ab hl;have aU:=ab aq;clear hl aq hK;go_upto_region 27 with (first
  |(go_at_call 20;go_must (refine mv x.d 0 12 _ (by decide) (by decide) (by decide) _ ?_);rw [HQ.o_]))
 clear c0;have fV:Hid True:=trivial;obtain ⟨YS,IX⟩:=ai (sizeOf 66);have aru:∀w:World,(Instr.field 64 (.agg (bB y)) 0).run prog w= .ok (.string (str y.filter)) w:=fun _=>by kernel_rfl
 have Z_:∀w',rl K (Obj.cells (cq x ta tc fa fc sa sc pa pc ca cc ra rc ua uc ia ic) 66) w'→((Sem.run prog YS w').andThen fun a w'=>(Sem.run prog (loadCellsFrom ⟨K,0,none⟩ 0 a #[]) w').andThen fun a w'=>Result.ok (Value.agg a) w')=Result.ok (Value.agg (cq x ta tc fa fc sa sc pa pc ca cc ra rc ua uc ia ic)) w':=fun w' h=>alI IX h.row (by kernel_rfl);have k0:rl K (Obj.cells (cq x ta tc fa fc sa sc pa pc ca cc ra rc ua uc ia ic) 66) w1.drew:=⟨(HL.o_.below (Below.refl _ _).drew).row rfl aU.o_⟩
 have kz:rl K (Obj.cells (cq x ta tc fa fc sa sc pa pc ca cc ra rc ua uc ia ic) 66) w1:=⟨aU.o_⟩
 go_region_held3 (fun y=>rl K (Obj.cells (cq x ta tc fa fc sa sc pa pc ca cc ra rc ua uc ia ic) 66) y)
  (first|with_reducible exact k0|with_reducible exact kz|with_reducible exact k2|with_reducible exact k3|with_reducible exact k4|with_reducible exact k5|go_keep)
  (first
   |(have lV:=fV;go_at_call 77;refine ME x ta fa sa pa ca ra ua ia tc fc sc pc cc rc uc ic y HY.o_ _ _ ?_;intro w2 ah;have mi:=ab ((HL.o_.below (Below.refl _ _).drew).below ah);have k2:rl K (Obj.cells (cq x ta tc fa fc sa sc pa pc ca cc ra rc ua uc ia ic) 66) w2:=⟨mi.o_.row rfl aU.o_⟩;clear ah lV fV)
   |(go_at_call 79;refine akq mi.o_ y.filter t b HC.o_ jo.o_ fy.o_ _ ?_;intro w3 h3;have iP:=ab h3;have k3:rl K (Obj.cells (cq x ta tc fa fc sa sc pa pc ca cc ra rc ua uc ia ic) 66) w3:=⟨iP.o_.row rfl aU.o_⟩;clear h3)
   |(go_at_call 77;refine ME x ta fa sa pa ca ra ua ia tc fc sc pc cc rc uc ic y HY.o_ _ _ ?_;intro w4 ak;have jH:=ab (iP.o_.below ak);have k4:rl K (Obj.cells (cq x ta tc fa fc sa sc pa pc ca cc ra rc ua uc ia ic) 66) w4:=⟨jH.o_.row rfl aU.o_⟩;clear ak)
   |(go_at_call 80;refine akr jH.o_ y.filter t b HC.o_ jo.o_ fy.o_ _ ?_;intro w5 h5;have uu:=ab h5;have k5:rl K (Obj.cells (cq x ta tc fa fc sa sc pa pc ca cc ra rc ua uc ia ic) 66) w5:=⟨uu.o_.row rfl aU.o_⟩;clear h5))
 all_goals
  go_wp2_with fail;exact HR.o_ _ t (HS.o_.ah4 HC.o_) (uu.o_.plain _)
open Nat (lt_irrefl)
variable{x:Im}
theorem Z'(m:Md)(X:Im)(hX:iO m=X)(hb:DO m)(a0 a1 a2 a3 b1 b2 b3 b4:Value)(W w:World)(hW:Below W W w)(IG:yR W a0 a1 a2 a3 b1 b2 b3 b4 m)(R:Ending→World→Prop)
 (hR:∀pa pc qa qc ea ec w',BN W w.heap.size w' (.slice pa X.note.az.length pc) (.slice qa X.note.props.length qc) (.slice ea X.ids.length ec) X→Below w w w'→R (.returned (Value.agg (aG X pa pc qa qc ea ec))) w'):
 Calls prog 9 #[.agg #[a0,a1,a2,a3,.int .i64 m.al,.int .i64 m.sub,.bool m.aE,.bool m.aM,.int .i64 m.eM,.int .i64 m.fm,b1,b2,b3,b4,.int .i64 m.origin,.int .i64 m.number]] w R:=by
 subst hX;exact ajS m hb a0 a1 a2 a3 b1 b2 b3 b4 W w hW IG R hR
theorem LI.alN{t:aF}{c:V3}(h:LI W V Q w S Rb s t c x)(o:Obj):LI W (w.alloc o) (fun b=>Q b∨b=w.heap.size) (w.alloc o) S Rb s t c x:=by
 obtain ⟨Ms,Mr,hx,hi⟩:=h;have hb:Below w w (w.alloc o):=(Below.refl _ _).alloc (Nat.le_refl _) _;have h2:=hx.below hb;refine ⟨Ms,Mr,⟨h2.sr,h2.rr,h2.ms,h2.mr,h2.low,fun b hb=>⟨?_,rfl⟩,fun b hb=> ?_⟩,hi.sep (.cU (Below.alloc (Below.refl _ _) (Nat.le_refl _) _))⟩
 ·rcases hb with hb|rfl
  ·exact (h2.q1 b hb).1
  ·exact (Array.getElem?_eq_some_iff.1 (heap_alloc_new w o)).1
 ·rcases hb with hb|rfl
  ·exact hx.q2 b hb
  ·refine ⟨fun hm=>lt_irrefl _ (hx.sr.lt _ hm),fun hm=> ?_⟩;obtain ⟨rv,rq,rf,rg,hr⟩:=hx.rr;exact lt_irrefl _ (hr.lt _ hm)
theorem alO:ur 0:=by
 intro x ta fa sa pa ca ra ua ia tc fc sc pc cc rc uc ic S Rb s hs hq W V w Q h cX cM dA dj R hR
 obtain ⟨X,hX⟩:=ai (iO x.it);obtain ⟨t,b,hp⟩:∃t b,pE s X=(t,b):=⟨_,_,rfl⟩
 have CW:=ab hX;have HP:=ab hp;have aaa:Hid (gb X):=by rw [←hX];exact Zb _
 have BJ:Hid (xA X):=by rw [←hX];exact alq _
 have Pe:=ab hs.inv.qn;clear hX hp;have HR:=ab hR;have HS:=ab hs;have HQ:=ab hq;have rh:=ab cX;have ri:=ab cM;have rj:=ab dA;have tg:=ab dj;have hl:=h.hold (Obj.cells (cq x ta tc fa fc sa sc pa pc ca cc ra rc ua uc ia ic) 66);have aq:=heap_alloc_new w (Obj.cells (cq x ta tc fa fc sa sc pa pc ca cc ra rc ua uc ia ic) 66);have c0:=af _ w 0 _ _ _ aq;clear hR hs hq h cX cM dA dj;go_enter func23,ntmps23;go_upto_region 1 with fail
 generalize w.alloc (Obj.cells (cq x ta tc fa fc sa sc pa pc ca cc ra rc ua uc ia ic) 66)=w1 at hl aq c0⊢;obtain ⟨K,hK⟩:=ai w.heap.size;rw [hK] at hl aq c0⊢;have HL:=ab hl;have aU:=ab aq;clear hl aq hK;go_upto_region 3 with (first
  |(go_at_call 20;go_must (refine mv x.d 0 12 _ (by decide) (by decide) (by decide) _ ?_);rw [HQ.o_]))
 clear c0;have fV:Hid True:=trivial;obtain ⟨YS,IX⟩:=ai (sizeOf 27);have Z_:∀w',rl K (Obj.cells (cq x ta tc fa fc sa sc pa pc ca cc ra rc ua uc ia ic) 66) w'→((Sem.run prog YS w').andThen fun a w'=>(Sem.run prog (loadCellsFrom ⟨K,4,none⟩ 0 a #[]) w').andThen fun a w'=>Result.ok (Value.agg a) w')=Result.ok (Value.agg (L9 x.it ta tc fa fc sa sc pa pc ca cc ra rc ua uc ia ic)) w':=fun w' h=>alJ (L:= (L9 x.it ta tc fa fc sa sc pa pc ca cc ra rc ua uc ia ic)) IX (WT (a:= (cq x ta tc fa fc sa sc pa pc ca cc ra rc ua uc ia ic)) 4 16 h.row rfl) (by kernel_rfl);have alP:∀w':World,((Sem.run prog YS w').andThen fun a w'=>if a=0 then (Sem.run prog (partAt ⟨K,0,none⟩ 4 32) w').andThen fun a w'=>Result.ok (Value.pointer (some a)) w' else Result.ok (Value.pointer (some ⟨K,4,none⟩)) w')=Result.ok (Value.pointer (some ⟨K,4,none⟩)) w':=fun w'=>by rw [←IX];kernel_rfl
 have k0:rl K (Obj.cells (cq x ta tc fa fc sa sc pa pc ca cc ra rc ua uc ia ic) 66) w1.drew:=⟨(HL.o_.below (Below.refl _ _).drew).row rfl aU.o_⟩
 have kz:rl K (Obj.cells (cq x ta tc fa fc sa sc pa pc ca cc ra rc ua uc ia ic) 66) w1:=⟨aU.o_⟩
 go_region_held3 (fun y=>rl K (Obj.cells (cq x ta tc fa fc sa sc pa pc ca cc ra rc ua uc ia ic) 66) y)
  (first|with_reducible exact k0|with_reducible exact kz|with_reducible exact k2|with_reducible exact k3|with_reducible exact k4|with_reducible exact k5|go_keep)
  (first
   |(have lV:=fV;go_at_call 9;refine Z' x.it X CW.o_ ri.o_ _ _ _ _ _ _ _ _ W _ (HL.o_.below (Below.refl _ _).drew).low rh.o_ _ ?_;intro BS BT oE oF OK OM w2 aab ah;have ek:=ab aab.c;have mi:=ab ((HL.o_.below (Below.refl _ _).drew).below ah);have k2:rl K (Obj.cells (cq x ta tc fa fc sa sc pa pc ca cc ra rc ua uc ia ic) 66) w2:=⟨mi.o_.row rfl aU.o_⟩;clear ah aab lV fV)
   |(go_at_call 8;refine aky mi.o_ HS.o_.inv X _ _ _ ek.o_ aaa.o_ t b HP.o_ _ ?_;intro w3 h3;have iP:=ab h3;have k3:rl K (Obj.cells (cq x ta tc fa fc sa sc pa pc ca cc ra rc ua uc ia ic) 66) w3:=⟨iP.o_.row rfl aU.o_⟩;clear h3)
   |(go_at_call 9;refine Z' x.it X CW.o_ ri.o_ _ _ _ _ _ _ _ _ W _ iP.o_.low rh.o_ _ ?_;intro alQ alR alS alT alU alV w4 aac ak;have alW:=ab aac;have b6:=ab ak;have k4:rl K (Obj.cells (cq x ta tc fa fc sa sc pa pc ca cc ra rc ua uc ia ic) 66) w4:=⟨(iP.o_.below ak).row rfl aU.o_⟩;clear ak aac)
   |(go_at_call 68;refine akz iP.o_ Pe.o_ X alQ alR alS alT alU alV _ b6.o_ alW.o_ aaa.o_ t b HP.o_ _ ?_;intro w5 h5;have uu:=ab h5;have k5:rl K (Obj.cells (cq x ta tc fa fc sa sc pa pc ca cc ra rc ua uc ia ic) 66) w5:=⟨uu.o_.row rfl aU.o_⟩;clear h5))
 all_goals
  clear k0 kz k2 k3 k4 k5 Z_ alP IX;go_wp2_with fail;exact HR.o_ _ t (by have h1:=HS.o_.push BJ.o_;rw [HP.o_] at h1;exact h1) (uu.o_.plain _)
theorem alX:ur 1:=by
 intro x ta fa sa pa ca ra ua ia tc fc sc pc cc rc uc ic S Rb s hs hq W V w Q h cX cM dA dj R hR
 have HR:=ab hR;have HS:=ab hs;have HQ:=ab hq;have rh:=ab cX;have ri:=ab cM;have rj:=ab dA;have tg:=ab dj;have hl:=h.hold (Obj.cells (cq x ta tc fa fc sa sc pa pc ca cc ra rc ua uc ia ic) 66);have aq:=heap_alloc_new w (Obj.cells (cq x ta tc fa fc sa sc pa pc ca cc ra rc ua uc ia ic) 66);have c0:=af _ w 0 _ _ _ aq;clear hR hs hq h cX cM dA dj;go_enter func23,ntmps23;go_upto_region 1 with fail
 generalize w.alloc (Obj.cells (cq x ta tc fa fc sa sc pa pc ca cc ra rc ua uc ia ic) 66)=w1 at hl aq c0⊢;obtain ⟨K,hK⟩:=ai w.heap.size;rw [hK] at hl aq c0⊢;have HL:=ab hl;have aU:=ab aq;clear hl aq hK;go_upto_region 5 with (first
  |(go_at_call 20;go_must (refine mv x.d 0 12 _ (by decide) (by decide) (by decide) _ ?_);rw [HQ.o_]))
 clear c0;have c1:=af w1 K 1 _ _ _ aU.o_;go_upto_region 6 with (first
  |(go_at_call 10;go_must (refine akA HL.o_ HS.o_.inv x.n _ ?_);intro y id ok s' MG MH MI MJ MK ML w6 hn h6;have Mm:=ab hn;have Sj:=ab h6;have M6:=ab (heap_alloc_new w6 (Obj.cells a_ 36));clear hn h6 c1)
  |(refine wpList_store_row (o:=⟨none,.store 36 (.tmp 7) (.tmp 48),_,_,_,_⟩) (by rfl) 36 (.tmp 7) (.tmp 48) (by rfl) w6.heap.size _ (by rfl) (by rfl) 36 _ M6.o_ (by kernel_rfl) (by rfl) (by simp [Value.oneCell']) ?_;rw [World.setRow_alloc_new];have h4:=Sj.o_.alN (Obj.cells (aG y MG MH MI MJ MK ML) 36);have n4:=heap_alloc_new w6 (Obj.cells (aG y MG MH MI MJ MK ML) 36);have r4:=gq (o':=(Obj.cells (aG y MG MH MI MJ MK ML) 36)) (Sj.o_.lw.row rfl aU.o_);generalize w6.alloc (Obj.cells (aG y MG MH MI MJ MK ML) 36)=w7 at h4 n4 r4⊢;have zS:=ab h4;have qg:=ab n4;have Cd:=ab r4;clear h4 n4 r4))
 obtain ⟨A,hA⟩:=ai w6.heap.size;rw [hA] at zS qg⊢;clear hA Sj M6;have c1:=af w7 K 1 _ _ _ Cd.o_;go_upto_region 7 with (first
  |(go_at_call 69;go_must (refine akB zS.o_ HS.o_ x.n Mm.o_ _ ?_);intro E3 E4 E5 E6 E7 E8 w8 h8 j6;have aad:=ab h8;have qM:=ab j6;have M8:=ab (heap_alloc_new w8 (Obj.cells a_ 36));clear h8 j6 c1)
  |(refine wpList_store_row (o:=⟨none,.store 36 (.tmp 10) (.tmp 56),_,_,_,_⟩) (by rfl) 36 (.tmp 10) (.tmp 56) (by rfl) w8.heap.size _ (by rfl) (by rfl) 36 _ M8.o_ (by kernel_rfl) (by rfl) (by simp [Value.oneCell']) ?_;rw [World.setRow_alloc_new];have cx:=(Below.refl w8 w8).alloc (Nat.le_refl _) (Obj.cells (aG y E3 E4 E5 E6 E7 E8) 36);have h4:=aad.o_.below cx;have iq:=qM.o_.below cx;have n4:=heap_alloc_new w8 (Obj.cells (aG y E3 E4 E5 E6 E7 E8) 36);have r4:=gq (o':=(Obj.cells (aG y E3 E4 E5 E6 E7 E8) 36)) (aad.o_.lw.row (Or.inr rfl) qg.o_);generalize w8.alloc (Obj.cells (aG y E3 E4 E5 E6 E7 E8) 36)=w9 at h4 iq n4 r4⊢;have aae:=ab h4;have DG:=ab iq;have qW:=ab n4;have yN:=ab r4;clear h4 iq n4 r4 cx))
 obtain ⟨B,hB⟩:=ai w8.heap.size;rw [hB] at qW⊢;clear hB;go_wp2_with (first
  |(refine wpList_load_row (o:=⟨some 59,.load 36 (.tmp 7),_,_,_,_⟩) (by rfl) 36 (.tmp 7) (by rfl) (A) (by rfl) 36 _ (0,0) _ (yN).o_ (underlying36) (by rfl) (by kernel_rfl) ?_)
  |(refine wpList_load_row (o:=⟨some 60,.load 36 (.tmp 10),_,_,_,_⟩) (by rfl) 36 (.tmp 10) (by rfl) (B) (by rfl) 36 _ (0,0) _ (qW).o_ (underlying36) (by rfl) (by kernel_rfl) ?_)
  |(go_at_call 70;go_must (refine R7 y _ _ _ _ _ _ _ aae.o_.im DG.o_ _ ?_);intro eo nN;have jJ:=ab (aae.o_.lw.below nN);clear nN))
 exact HR.o_ _ s' (HS.o_.next Mm.o_) (jJ.o_.plain _)
theorem alY(x:qC)(ta fa sa pa ca ra ua ia:Option Addr)(tc fc sc pc cc rc uc ic:Nat)(S Rb:Nat)(s:aF)(hs:du s)(W V w:World)(Q:Nat→Prop)(h:LW W V Q w S Rb s s)(cX:yR W (.slice ta x.it.aJ.length tc) (.slice fa x.it.src.length fc) (.slice sa x.it.share.length sc) (.slice pa x.it.az.length pc) (.slice ca x.it.co.length cc) (.slice ra x.it.cr.length rc) (.slice ua x.it.us.length uc) (.slice ia x.it.ids.length ic) x.it)(cM:DO x.it)(dA:h_ x.n)(dj:h_ x.m)(R:Ending→World→Prop)
 (hR:∀w' s',du s'→LW W w' (fun _=>False) w' S Rb s' s'→R (.returned (.bool true)) w'):
 Calls prog 23 #[.pointer (some ⟨S,0,none⟩),.pointer (some ⟨Rb,0,none⟩),.agg (cq x ta tc fa fc sa sc pa pc ca cc ra rc ua uc ia ic)] w R:=by
 obtain ⟨z,hz⟩:=ai (within x.d 0 12);have hb:=tu x.d 0 12 (by decide);rw [hz] at hb;have hc:z=0∨z=1∨z=2∨z=3∨z=4∨z=5∨z=6∨z=7∨z=8∨z=9∨z=10∨z=11∨z=12:=by omega
 rcases hc with rfl|rfl|rfl|rfl|rfl|rfl|rfl|rfl|rfl|rfl|rfl|rfl|rfl
 ·exact alO x ta fa sa pa ca ra ua ia tc fc sc pc cc rc uc ic S Rb s hs hz W V w Q h cX cM dA dj R hR
 ·exact alX x ta fa sa pa ca ra ua ia tc fc sc pc cc rc uc ic S Rb s hs hz W V w Q h cX cM dA dj R hR
 ·exact ak2 x ta fa sa pa ca ra ua ia tc fc sc pc cc rc uc ic S Rb s hs hz W V w Q h cX cM dA dj R hR
 ·exact alu x ta fa sa pa ca ra ua ia tc fc sc pc cc rc uc ic S Rb s hs hz W V w Q h cX cM dA dj R hR
 ·exact ak3 x ta fa sa pa ca ra ua ia tc fc sc pc cc rc uc ic S Rb s hs hz W V w Q h cX cM dA dj R hR
 ·exact alv x ta fa sa pa ca ra ua ia tc fc sc pc cc rc uc ic S Rb s hs hz W V w Q h cX cM dA dj R hR
 ·exact ak4 x ta fa sa pa ca ra ua ia tc fc sc pc cc rc uc ic S Rb s hs hz W V w Q h cX cM dA dj R hR
 ·exact alK x ta fa sa pa ca ra ua ia tc fc sc pc cc rc uc ic S Rb s hs hz W V w Q h cX cM dA dj R hR
 ·exact alM x ta fa sa pa ca ra ua ia tc fc sc pc cc rc uc ic S Rb s hs hz W V w Q h cX cM dA dj R hR
 ·exact ak5 x ta fa sa pa ca ra ua ia tc fc sc pc cc rc uc ic S Rb s hs hz W V w Q h cX cM dA dj R hR
 ·exact ak6 x ta fa sa pa ca ra ua ia tc fc sc pc cc rc uc ic S Rb s hs hz W V w Q h cX cM dA dj R hR
 ·exact alw x ta fa sa pa ca ra ua ia tc fc sc pc cc rc uc ic S Rb s hs hz W V w Q h cX cM dA dj R hR
 ·exact aly x ta fa sa pa ca ra ua ia tc fc sc pc cc rc uc ic S Rb s hs hz W V w Q h cX cM dA dj R hR
open List (nil_append)
variable{qc:Nat}{M Mr Ms:Nat→Prop}{qa:Option Addr}{fv gv qv sv:Value}
theorem LX.BV{t:aF}(h:LX W V Q w Ms Mr S Rb s t)(hb:Below w w w'):LX W V Q w' Ms Mr S Rb s t:=h.below hb
theorem RX.alZ(h:RX w Ms M Rb sv (.slice qa s.queue.length qc) fv gv s):xH w qa s.queue.length s.queue:=by
 obtain ⟨ps,h1,h2,h3⟩:=h.hq;exact ⟨⟨ps,h1,h2.rd,fun p hp=>(h3 p hp).1.o_⟩,rfl⟩
theorem RX.al0{fa:Option Addr}{fc:Nat}(h:RX w Ms M Rb sv qv (.slice fa s.aj.length fc) gv s):Al w fa s.aj.length s.aj:=by
 obtain ⟨ps,h1,h2,h3⟩:=h.hf;exact ⟨⟨ps,h1,qG h2,fun p hp=>(h3 p hp).1.o_⟩,rfl⟩
theorem al1{ya:Option Addr}{yc:Nat}{qs:List (V3×Im)}{l:List Im}(h1:qs.map (·.2)=l)(h2:w'.ownsRow B 36 14 (.slice ya l.length yc) l.length (qs.flatMap cL))(h3:∀p∈qs,dJ w' w.heap.size p.1.1 p.1.2.1 p.1.2.2 p.2)(h4:∀p∈qs,gb p.2):xH w' ya l.length l:=
 ⟨⟨qs,h1,qG h2,fun p hp=>(h3 p hp).c (h4 p hp)⟩,rfl⟩
theorem al2{ya:Option Addr}{yc:Nat}{qs:List (V3×Fl)}{l:List Fl}(h1:qs.map (·.2)=l)(h2:w'.ownsRow B 51 16 (.slice ya l.length yc) l.length (qs.flatMap bH))(h3:∀(j:Nat)(h:j<qs.length),dJ w' w.heap.size (qs[j]).1.1 (qs[j]).1.2.1 (qs[j]).1.2.2 (qs[j]).2.item)(h4:∀p∈qs,gb p.2.item):Al w' ya l.length l:=
 ⟨⟨qs,h1,qG h2,fun p hp=>by
  obtain ⟨j,hj,e⟩:=List.getElem_of_mem hp;subst e;exact (h3 j hj).c (h4 _ hp)⟩,rfl⟩
theorem aaf(S Rb:Nat)(s:aF)(hs:du s)(W V w:World)(Q:Nat→Prop)(h:LW W V Q w S Rb s s)(R:Ending→World→Prop)
 (hR:∀w',Below w w w'→R (.returned (.bool true)) w'):
 Calls prog 24 #[.pointer (some ⟨S,0,none⟩),.pointer (some ⟨Rb,0,none⟩)] w R:=by
 have HR:=ab hR;obtain ⟨Ms,Mr,hx⟩:=h;obtain ⟨sv,qv,fv,gv,hr⟩:=hx.rr;obtain ⟨sa,sc,rfl⟩:=bF hr.hs;obtain ⟨fa,fc,rfl⟩:∃a c,fv= .slice a s.aj.length c:=by
  obtain ⟨ps,h1,h2,h3⟩:=hr.hf;exact bF h2
 obtain ⟨qa,qc,rfl⟩:∃a c,qv= .slice a s.queue.length c:=by
  obtain ⟨ps,h1,h2,h3⟩:=hr.hq;exact h2.shape
 obtain ⟨ga,gc,rfl⟩:=bF hr.hg;have vz:Hid (s.ay.length≤100000):=Nat.le_trans hs.sn (by decide);have mi:Hid (s.queue.length≤100000):=Nat.le_trans hs.inv.qn (by decide);have iP:Hid (s.aj.length≤100000):=Nat.le_trans hs.inv.fn (by decide);have jH:Hid (s.aH.length≤100000):=Nat.le_trans hs.gn (by decide);have HX:=ab hx;have aag:=ab hr;clear hR hs hx hr;go_enter func24,ntmps24;go_wp2_with (first
  |(go_at_call 86;go_must (refine agO S s _ Ms HX.o_.sr _ ?_);intro w1 aw;have g_:=ab ((HX.o_.BV aw).BV (Below.refl _ _).drew);have yM:=ab ((aag.o_.below aw).below (Below.refl _ _).drew);have aY:=ab aw.drew;have kz:=(aag.o_.below aw).cells;clear aw))
 have k0:=yM.o_.cells;simp only [List.append_eq,List.cons_append,nil_append];go_region_held3 (fun y=>y.cell? ⟨Rb,0,none⟩=some (.string (str s.dC))∧y.cell? ⟨Rb,1,none⟩=some (.int .i64 s.cP)∧y.cell? ⟨Rb,2,none⟩=some (.int .i64 s.ends)∧y.cell? ⟨Rb,3,none⟩=some (.bool s.eB)∧y.cell? ⟨Rb,4,none⟩=some (.slice sa s.ay.length sc)∧y.cell? ⟨Rb,5,none⟩=some (.slice qa s.queue.length qc)∧y.cell? ⟨Rb,6,none⟩=some (.slice fa s.aj.length fc)∧y.cell? ⟨Rb,7,none⟩=some (.slice ga s.aH.length gc))
  (first|with_reducible exact k0|with_reducible exact kz|with_reducible exact k3|with_reducible exact k4|with_reducible exact k5|with_reducible exact k6|with_reducible exact k7|with_reducible exact k8|with_reducible exact k9|with_reducible exact aah|go_keep)
  (first
   |(go_at_call 36;refine WL S s _ Ms g_.o_.sr _ ?_)
   |(go_at_call 88;refine ah8 S s vz.o_ _ Ms g_.o_.sr _ ?_;intro xa xc w3 bD an;have gY:=ab (g_.o_.BV an);have yQ:=ab (yM.o_.below an);have bU:=ab (aD aY.o_ an aY.o_.size);have eH:=ab bD;have k3:=yQ.o_.cells;clear an bD)
   |(go_at_call 87;refine alb s.ay s.ay.length rfl vz.o_ _ _ _ _ _ (qG eH.o_) (qG yQ.o_.hs) _ ?_;intro w4 ak;have Bk:=ab (gY.o_.BV ak);have C6:=ab (yQ.o_.below ak);have b6:=ab (aD bU.o_ ak bU.o_.size);have k4:=C6.o_.cells;clear ak)
   |(go_at_call 25;refine afM S s mi.o_ _ Ms Bk.o_.sr _ ?_;intro ya yc qs w5 IZ ez rU FC aC;have gQ:=ab (Bk.o_.BV aC);have FE:=ab (C6.o_.below aC);have eb:=ab (aD b6.o_ aC b6.o_.size);have iy:=ab (al1 IZ ez rU FC);have k5:=FE.o_.cells;clear aC ez IZ rU FC)
   |(go_at_call 84;refine ZQ s.queue s.queue.length mi.o_ _ _ _ _ _ iy.o_ FE.o_.alZ _ ?_;intro w6 bg;have aai:=ab (gQ.o_.BV bg);have xI:=ab (FE.o_.below bg);have ov:=ab (aD eb.o_ bg eb.o_.size);have k6:=xI.o_.cells;clear bg)
   |(go_at_call 16;refine WH S s iP.o_ _ Ms aai.o_.sr _ ?_;intro za zc arv w7 I1 e_ aaj nS aZ;have vp:=ab (aai.o_.BV aZ);have Cd:=ab (xI.o_.below aZ);have gf:=ab (aD ov.o_ aZ ov.o_.size);have mx:=ab (al2 I1 e_ aaj nS);have k7:=Cd.o_.cells;clear aZ e_ I1 aaj nS)
   |(go_at_call 89;refine ala s.aj s.aj.length iP.o_ _ _ _ _ _ mx.o_ Cd.o_.al0 _ ?_;intro w8 gh;have Db:=ab (vp.o_.BV gh);have JN:=ab (Cd.o_.below gh);have fS:=ab (aD gf.o_ gh gf.o_.size);have k8:=JN.o_.cells;clear gh)
   |(go_at_call 61;refine Xx S s jH.o_ _ Ms Db.o_.sr _ ?_;intro ua uc w9 Bf cx;have Sk:=ab (JN.o_.below cx);have ki:=ab (aD fS.o_ cx fS.o_.size);have rL:=ab Bf;have k9:=Sk.o_.cells;clear cx Bf)
   |(go_at_call 90;refine ZM (bE s.aH) s.aH.length jH.o_ _ _ _ _ _ (qG rL.o_) (qG Sk.o_.hg) _ ?_;intro eo nN;have xr:=ab (aD ki.o_ nN ki.o_.size);have aah:=(Sk.o_.below nN).cells;clear nN))
 all_goals
  clear k0 kz k3 k4 k5 k6 k7 k8 k9 aah;go_wp2_with fail;exact HR.o_ _ xr.o_
end Go.Proofs.YtgimbocoamnkjaaGreatDoor
