/- A part of the proof of SessionReads; no conditions. -/
import Derived.Test.YtgimbocoamnkjaaGreatDoorM33
import Derived.Test.YtgimbocoamnkjaaGreatDoorM30
set_option maxRecDepth 100000
set_option maxHeartbeats 16000000
namespace Go.Proofs.YtgimbocoamnkjaaGreatDoor
open _root_.Go.Proofs.Tryz
open Int (toNat_natCast)
open List (getElem_map getElem_mem mem_cons_of_mem mem_cons_self mem_of_mem_drop mem_or_eq_of_mem_set nodup_append)
variable{fine ok:Bool}{x:Im}{id z:Int}{Rb:Nat}{M Ms:Nat→Prop}{s s':az}{fv gv qv sv:Value}{w:World}
open Go.RowKit
theorem abr(a b:List UInt8):wZ a b=decide (Lib.compareBytes a b<0):=bytesLess_eq a b
structure F4(x:Im):Prop where
 k:gh x
 l:(db x).length≤65535
 g:GT x.note.aF
theorem alK(h:F4 x):F4 (lx x):=by
 rw[aad];refine⟨⟨h.g.nt,h.g.nb,?_,?_,(by show(0:Int)≤2;decide),(by show(2:Int)≤2;decide),(by show 0<256;decide),by simp[gI],OB,by simp[gI]⟩,?_,h.g⟩
 ·have:=h.g.nl;show(eG (gN x.note.aF)).length≤65535;have h2:(eG (gN x.note.aF)).length=(eG (gI x.note.aF).note).length:=rfl
  omega
 ·show(([]:List Pr).flatMap bR).length≤65535;simp
 have:=h.g.il
 omega
structure fg(s:az):Prop where
 inv:gg s
 cl:eg s.gF=true
 cn:s.gF.length≤20
 e0:0≤s.cI
 e1:s.cI≤65535
 d0:0≤s.ends
 d1:s.ends≤65535
 sn:s.al.length≤8
 sb:∀x∈s.al,tN x
 ss:j7 s.al
 qk:∀x∈s.queue,F4 x
 fk:∀f∈s.ag,F4 f.item∧A0 f.state f.item
 gn:s.aB.length≤8
 gr:∀n∈s.aB,1≤n∧n≤65535
 gd:s.aB.Nodup
theorem fg.new{l:List UInt8}(h:eg l=true)(hn:l.length≤20):fg (cZ l):=
 ⟨.new l,h,hn,(by show(0:Int)≤0;decide),(by show(0:Int)≤65535;decide),(by show(0:Int)≤0;decide),(by show(0:Int)≤65535;decide),by simp[cZ],by simp[cZ],.nil,by simp[cZ],by simp[cZ],by simp[cZ],by simp[cZ],.nil⟩
theorem fg.push(h:fg s)(F:F4 x):fg (kk s x).1:=by
 have hi:=h.inv.kk F.k.q0;unfold Go.Proofs.YtgimbocoamnkjaaGreatDoor.kk at hi⊢
 split
 ·rename_i hl
  rw[if_pos hl] at hi;exact⟨hi,h.cl,h.cn,h.e0,h.e1,h.d0,h.d1,h.sn,h.sb,h.ss,fun y hy=>by
   rcases ez.1 hy with hy|hy
   ·exact h.qk y hy
   obtain rfl:=dM.1 hy;exact F,h.fk,h.gn,h.gr,h.gd⟩
 exact h
theorem fg.next{cu:Int}(h:fg s)(hn:zD s cu x id ok s'):fg s':=by
 have hi:=hn.inv h.inv;cases hn with
 |no _=>exact h
 |out x rest hq _ _=>exact⟨hi,h.cl,h.cn,h.e0,h.e1,h.d0,h.d1,h.sn,h.sb,h.ss,fun y hy=>h.qk y (by rw[hq];exact mem_cons_of_mem _ hy),h.fk,h.gn,h.gr,h.gd⟩
 |mP x rest d hq hr hz h1 h2 J ha=>
  have F:=h.qk x (by rw[hq];exact mem_cons_self);refine⟨hi,h.cl,h.cn,h.e0,h.e1,h.d0,h.d1,h.sn,h.sb,h.ss,fun y hy=>h.qk y (by rw[hq];exact mem_cons_of_mem _ hy),fun f hf=> ?_,h.gn,h.gr,h.gd⟩;rcases ez.1 hf with hf|hf
  ·exact h.fk f hf
  obtain rfl:=dM.1 hf;refine⟨F,?_⟩;have:=F.k.q1;have:x.ah=1∨x.ah=2:=by omega
  rcases this with e|e
  ·exact .inl ⟨e,e⟩
  exact .inr (.inl ⟨e,e⟩)
theorem fg.land{p:Fl→Bool}(h:fg s)(hz:dE p s.ag=z):fg (kM s z):=by
 have hi:=h.inv.land hz;unfold kM at hi⊢
 split
 ·exact h
 rename_i hn
 rw[if_neg hn] at hi;exact⟨hi,h.cl,h.cn,h.e0,h.e1,h.d0,h.d1,h.sn,h.sb,h.ss,h.qk,fun f hf=>h.fk f (List.mem_of_mem_eraseIdx hf),h.gn,h.gr,h.gd⟩
theorem fg.S7{p:Fl→Bool}{a b:Bool}(h:fg s)(hz:dE p s.ag=z)(hr:BW s z fine=(s',a,b)):fg s':=by
 have hi:=h.inv.S7 hz hr;by_cases hn:z<0
 ·rw[Kj hn] at hr;cases hr;exact h
 obtain⟨k,G,rfl,_⟩:=zv hz (by omega);rw[On G] at hr
 split at hr
 ·cases hr;exact h
 split at hr
 ·cases hr;exact h.land hz
 cases hr;refine⟨hi,h.cl,h.cn,h.e0,h.e1,h.d0,h.d1,h.sn,h.sb,h.ss,h.qk,fun f hf=> ?_,h.gn,h.gr,h.gd⟩;rcases mem_or_eq_of_mem_set hf with h1|h1
 ·exact h.fk f h1
 rw[h1];exact⟨alK (h.fk _ (getElem_mem G)).1,.inr (.inr ⟨rfl,_,aad _⟩)⟩
theorem fg.alL{a b:Bool}(h:fg s)(J:pU s id=(s',a,b)):fg s':=by
 unfold pU at J
 split at J
 ·cases J;exact h
 rename_i lI
 split at J
 ·rename_i h1
  cases J;refine⟨⟨h.inv.qn,h.inv.fn,h.inv.eq,h.inv.nd,h.inv.rg,h.inv.qq⟩,h.cl,h.cn,h.e0,h.e1,h.d0,h.d1,h.sn,h.sb,h.ss,h.qk,h.fk,?_,?_,?_⟩
  ·show(s.aB++ [id]).length≤8;rw[aK];show _+1≤8
   omega
  ·intro n hn;rcases ez.1 hn with hn|hn
   ·exact h.gr n hn
   ·obtain rfl:=dM.1 hn;exact h1.2
  show(s.aB++ [id]).Nodup;rw[nodup_append];exact abq
 cases J;exact h
theorem fg.left(h:fg s)(id:Int):fg {s with aB:=s.aB.erase id}:=
 ⟨⟨h.inv.qn,h.inv.fn,h.inv.eq,h.inv.nd,h.inv.rg,h.inv.qq⟩,h.cl,h.cn,h.e0,h.e1,h.d0,h.d1,h.sn,h.sb,h.ss,h.qk,h.fk,aJ (List.length_erase_le) h.gn,fun n hn=>h.gr n (List.mem_of_mem_erase hn),h.gd.erase _⟩
theorem fg.alM(h:fg s){x y:Int}{b:Bool}(F:0≤x∧x≤65535)(hy:0≤y∧y≤65535):fg {s with cI:=x,ends:=y,ej:=b}:=
 ⟨⟨h.inv.qn,h.inv.fn,h.inv.eq,h.inv.nd,h.inv.rg,h.inv.qq⟩,h.cl,h.cn,F.1,F.2,hy.1,hy.2,h.sn,h.sb,h.ss,h.qk,h.fk,h.gn,h.gr,h.gd⟩
theorem fg.old(h:fg s)(now:Int):fg {s with queue:=qK s.queue now}:=
 ⟨⟨aJ (List.length_filter_le _ _) h.inv.qn,h.inv.fn,h.inv.eq,h.inv.nd,h.inv.rg,fun x F=>h.inv.qq x (List.mem_filter.1 F).1⟩,h.cl,h.cn,h.e0,h.e1,h.d0,h.d1,h.sn,h.sb,h.ss,fun x F=>h.qk x (List.mem_filter.1 F).1,h.fk,h.gn,h.gr,h.gd⟩
theorem fg.TW(h:fg s){l:List Sb}(hn:l.length≤8)(U:∀x∈l,tN x)(W:j7 l):fg {s with al:=l}:=
 ⟨⟨h.inv.qn,h.inv.fn,h.inv.eq,h.inv.nd,h.inv.rg,h.inv.qq⟩,h.cl,h.cn,h.e0,h.e1,h.d0,h.d1,hn,U,W,h.qk,h.fk,h.gn,h.gr,h.gd⟩
theorem fg.sub{x:Sb}{a b:Bool}(h:fg s)(F:tN x)(J:om s x=(s',a,b)):fg s':=by
 unfold om at J
 split at J
 ·rename_i hi
  obtain⟨G,e⟩:=EI hi;cases J;exact h.TW (by rw[qU];exact h.sn) (fun y hy=>by
   rcases mem_or_eq_of_mem_set hy with h1|h1
   ·exact h.sb y h1
   rw[h1];exact F) (h.ss.setAt G e)
 rename_i hi
 split at J
 ·cases J;exact h
 rename_i h8
 cases J;have:=h.sn;have:=EH s.al x.filter;refine h.TW ?_ (fun y hy=> ?_) (h.ss.ins (ns.2 hi))
 ·rw[aK,aK,bS,dw];simp
  omega
 rcases ez.1 hy with hy|hy
 ·rcases ez.1 hy with hy|hy
  ·exact h.sb y (List.mem_of_mem_take hy)
  ·obtain rfl:=dM.1 hy;exact F
 exact h.sb y (mem_of_mem_drop hy)
theorem fg.alN{f:List UInt8}{b:Bool}(h:fg s)(J:C_ s f=(s',b)):fg s':=by
 unfold C_ at J
 split at J
 ·cases J;refine h.TW (aJ ?_ h.sn) (fun y hy=>h.sb y (List.mem_of_mem_eraseIdx hy)) (h.ss.erase _);rw[List.length_eraseIdx]
  split<;>omega
 cases J;exact h
theorem abt{l:List Fl}{st:List Int}(hn:(l.map (·.id)).Nodup){z':Int}(hz:dE (mv id st) l=z)(kx:dE (fun f:Fl=>f.id==id) l=z'):
 (∃(k:Nat)(G:k<l.length),z'=k∧z=k∧st.contains (l[k]).state=true)∨(z= -1∧(z'= -1∨∃(k:Nat)(G:k<l.length),z'=k∧st.contains (l[k]).state=false)):=by
 by_cases h0:0≤z'
 ·obtain⟨k,G,rfl,hp,_⟩:=zv kx h0;have hid:(l[k]).id=id:=by simpa using hp
  cases W:st.contains (l[k]).state with
  |true=>
   refine .inl ⟨k,G,rfl,?_,W⟩;rw[←hz];refine C7 G (by unfold mv;rw[W];simp[hid]) (fun j hj=> ?_);have bf:(l[j]'(by omega)).id≠id:=fun e=>by
    have h1:=xy.1 hn j k (by simp;omega) (by simp;omega) hj;rw[getElem_map,getElem_map,e,hid] at h1;exact h1 rfl
   unfold mv;simp[bf]
  |false=>
   refine .inr ⟨?_,.inr ⟨k,G,rfl,W⟩⟩;rw[←hz];refine C6 fun f hf=> ?_;obtain⟨j,hj,rfl⟩:=lD hf;unfold mv;by_cases e:(l[j]).id=id
   ·have pQ:j=k:=by
     apply Classical.byContradiction;intro bf;rcases Nat.lt_or_gt_of_ne bf with h1|h1
     ·have h2:=xy.1 hn j k (by simp;omega) (by simp;omega) h1;rw[getElem_map,getElem_map,e,hid] at h2;exact h2 rfl
     have h2:=xy.1 hn k j (by simp;omega) (by simp;omega) h1;rw[getElem_map,getElem_map,e,hid] at h2;exact h2 rfl
    subst pQ;rw[W,Bool.and_false]
   simp[e]
 obtain⟨rfl,j4⟩:=BV kx (by omega);refine .inr ⟨?_,.inl rfl⟩;rw[←hz];refine C6 fun f hf=> ?_;have h1:(f.id==id)=false:=j4 f hf;unfold mv;rw[h1,Bool.false_and]
theorem abu(h:gg s){st z':Int}(hz:dE (mv id [st]) s.ag=z)(kx:dE (fun f:Fl=>f.id==id) s.ag=z'):Cb s z' st=({kM s z with bJ:=s.bJ},decide (0≤z)):=by
 have hn:(s.ag.map (·.id)).Nodup:=h.eq▸h.nd;rcases abt hn hz kx with⟨k,G,rfl,rfl,W⟩|⟨rfl,rfl|⟨k,G,rfl,W⟩⟩
 ·have W:(s.ag[k]).state=st:=by simpa using W
  rw[OX G,if_pos W];unfold kM;rw[if_neg (by omega),toNat_natCast,eN (by omega:(0:Int)≤(k:Int))]
 ·rw[Tk (by decide)];unfold kM;rw[if_pos (by decide)]
  rfl
 have W:(s.ag[k]).state≠st:=by simpa using W
 rw[OX G,if_neg W];unfold kM;rw[if_pos (by decide)]
 rfl
theorem alO(h:fg s){z':Int}(hz:dE (mv id [2,3]) s.ag=z)(kx:dE (fun f:Fl=>f.id==id) s.ag=z'):∃t a b,BW s z fine=(t,a,b)∧FM s z' fine=({t with bJ:=s.bJ},a,b):=by
 have hn:(s.ag.map (·.id)).Nodup:=h.inv.eq▸h.inv.nd;rcases abt hn hz kx with⟨k,G,rfl,rfl,W⟩|⟨rfl,rfl|⟨k,G,rfl,W⟩⟩
 ·have W:(s.ag[k]).state=2∨(s.ag[k]).state=3:=by simpa using W
  rw[On G,To G,if_neg (by omega:¬(s.ag[k]).state=1)]
  split
  ·exact⟨_,_,_,rfl,rfl⟩
  split
  ·refine⟨_,_,_,rfl,?_⟩;unfold kM;rw[if_neg (by omega),toNat_natCast]
  exact⟨_,_,_,rfl,rfl⟩
 ·exact⟨_,_,_,Kj (by decide),aaV (by decide)⟩
 have W:(s.ag[k]).state≠2∧(s.ag[k]).state≠3:=by simpa using W
 have h1:(s.ag[k]).state=1:=by
  rcases(h.fk _ (getElem_mem G)).2 with h2|h2|h2
  ·exact h2.1
  ·exact absurd h2.1 W.1
  exact absurd h2.1 W.2
 rw[To G,if_pos h1];exact⟨_,_,_,Kj (by decide),rfl⟩
theorem alP(h:gg s){d:Int}:(s.bJ.contains d=false→dE (fun f:Fl=>f.id==d) s.ag= -1)∧(s.bJ.contains d=true→0≤dE (fun f:Fl=>f.id==d) s.ag):=by
 rw[h.eq];refine⟨fun J=>C6 fun f hf=> ?_,fun J=> ?_⟩
 ·have:d∉s.ag.map (·.id):=by simpa using J
  have bf:f.id≠d:=fun e=>this (by rw[←e];exact List.mem_map_of_mem hf)
  simpa using bf
 apply Classical.byContradiction;intro RB;obtain⟨_,j4⟩:=BV (p:=fun f:Fl=>f.id==d) (l:=s.ag) rfl (by omega);have hm:d∈s.ag.map (·.id):=by simpa using J
 obtain⟨f,hf,e⟩:=List.mem_map.1 hm;have:=j4 f hf;simp[e] at this
theorem RX.F5(h:RX w Ms M Rb sv qv fv gv s)(n:List Int):RX w Ms M Rb sv qv fv gv {s with bJ:=n}:=⟨h.hS,h.W,h.hq,h.hf,h.A,h.mR,h.ms,h.mq,h.mf,h.mg,h.kd,h.lo,h.qG,h.lt⟩
theorem RR.F5(h:RR w Ms M Rb s)(n:List Int):RR w Ms M Rb {s with bJ:=n}:=by
 obtain⟨sv,qv,fv,gv,F⟩:=h;exact⟨sv,qv,fv,gv,F.F5 n⟩
open Nat (lt_succ_self ne_of_lt)
variable{B GB GM MB N NB S t:Nat}{awW M':Nat→Prop}{ek bY dG:Value}{aw4 w' w1:World}
theorem QH(h:Below B w w')(hS:B≤S)(j:Nat)(u:Value):Below B w (w'.setCell ⟨S,j,none⟩ u):=h.setCell hS u
structure sW(w:World)(awW:Nat→Prop)(N S:Nat)(M:Nat→Prop)(NB MB GB GM:Nat)(sv qv fv:Value)(s:az):Prop where
 F:SX w M S NB MB GB GM sv qv fv s
 em:∀b,awW b→M b
 me:∀b,M b→awW b∨N<b
 s1:N<S
 mb:N<MB
 gm:N<GM
 vs:∀k,sv.ownBlock=some k→N<k
 vq:∀k,qv.ownBlock=some k→N<k
 vf:∀k,fv.ownBlock=some k→N<k
theorem sW.cur(h:sW w awW N S M NB MB GB GM sv qv fv s)(en:awW N)(A:w.grownBy w' (some N))(G:bw w N=106+2):sW w' awW N S M NB MB GB GM sv qv fv s:=by
 have W:Sep M M w w':= .kV A (fun k G=>by cases G;exact h.em N en);obtain⟨p1,p2,p3,p4,p5,p6⟩:=h.F.parts N A (fun _ hm=>hm) W;refine⟨⟨(p1 (by rw[G];decide)).trans h.F.hS,p2 (ne_of_lt h.mb) (by rw[G];decide),p3 (ne_of_lt h.gm) (by rw[G];decide),p4 (by rw[G];decide),p5 (by rw[G];decide),p6 (by rw[G];decide),h.F.nb,h.F.nm,h.F.mS,h.F.mN,h.F.mG,h.F.ms,h.F.q_,h.F.re,fun b U=>eV (h.F.lt b U) A.size⟩,h.em,h.me,h.s1,h.mb,h.gm,h.vs,h.vq,h.vf⟩
theorem sW.below(h:sW w awW N S M NB MB GB GM sv qv fv s)(U:Below w w w'):sW w' awW N S M NB MB GB GM sv qv fv s:=
 ⟨h.F.below U,h.em,h.me,h.s1,h.mb,h.gm,h.vs,h.vq,h.vf⟩
theorem sW.step(h:sW w awW N S M NB MB GB GM sv qv fv s)(hN:N<w.heap.size)(F:SX w' M' S NB MB GB GM dG bY ek s')(W:Sep M M' w w')(hm:∀b,M b→M' b)
 (vs:∀k,dG.ownBlock=some k→N<k) (vq:∀k,bY.ownBlock=some k→N<k) (vf:∀k,ek.ownBlock=some k→N<k):sW w' awW N S M' NB MB GB GM dG bY ek s':=
 ⟨F,fun b U=>hm b (h.em b U),fun b U=>by
  rcases W.new b U with h1|h1
  ·exact h.me b h1
  exact .inr (by omega),h.s1,h.mb,h.gm,vs,vq,vf⟩
theorem CR.over{s:Cu}(h:CR aw4 t N s w)(U:Below (N+1) w w'):CR aw4 t N s w':=by
 obtain⟨Y,c,hr,W⟩:=h.row;have kL:=h.nn;exact⟨⟨Y,c,(U.block N (lt_succ_self N)).trans hr,W⟩,cz h.low (U.mono (by omega)) bj,h.nn,h.len⟩
theorem CR.kind{s:Cu}(h:CR aw4 t N s w):bw w N=t+2:=by
 obtain⟨Y,c,hr,W⟩:=h.row;exact j6 hr
theorem sW.hold{l:List Int}(h:sW w awW N S M NB MB GB GM sv qv fv s)(hN:N<w.heap.size)(A:w.grownBy w' (some MB))(cB:St w' NB MB l)(cK:{s with bJ:=l}=s'):
 sW w' awW N S M NB MB GB GM sv qv fv s'∧Sep M M w w'∧Below (N+1) w w':=by
 subst cK;have h1:=SX.RT h.F A cB;exact⟨h.step hN h1.1 h1.2 (fun _ h=>h) h.vs h.vq h.vf,h1.2,s_ A hN (fun k G=>by cases G;exact h.mb)⟩
theorem sW.mP{ps:List (V3×Fl)}{fs:List Fl}(F:sW w awW N S M NB MB GB GM sv qv fv s)(hN:N<w.heap.size)(aZ:ps.map (·.2)=fs)(a_:∀p∈ps,dk w M p.1 p.2.item)
 (hr:w1.ownsRow 0 51 16 ek fs.length (ps.flatMap bV)) (A:w.grownBy w1 fv.ownBlock) (bZ:ek.ownBlock=fv.ownBlock∨ek.ownBlock=some w.heap.size) (cK:{s with ag:=fs}=s'):
 (∃M',sW (w1.setCell ⟨S,7,none⟩ ek) awW N S M' NB MB GB GM sv qv ek s')∧Below (N+1) w (w1.setCell ⟨S,7,none⟩ ek):=by
 subst cK;obtain⟨M',h1,h2,h3⟩:=SX.mP F.F aZ a_ hr A bZ;have U:Below (N+1) w (w1.setCell ⟨S,7,none⟩ ek):=QH (s_ A hN (fun k G=>F.vf k G)) F.s1 _ _;refine⟨⟨M',F.step hN h1 h2 h3 F.vs F.vq fun k G=> ?_⟩,U⟩;rcases bZ with e|e
 ·exact F.vf k (e▸G)
 rw[e] at G;cases G;exact hN
theorem arv(l:List UInt8)(w:World)(R:ak)
 (I:∀S M NB MB GB GM sv qv fv w',SX w' M S NB MB GB GM sv qv fv (cZ l)→(∀b,M b→w.heap.size≤b)→w.heap.size≤NB→w.heap.size≤GB→Below w w w'→R (.returned (zq S)) w'):
 Calls prog 6 #[.string (str l)] w R:=by
 have HR:=Z I;clear I;have Ky:Hid True:=trivial;go_enter func6,ntmps6;go_wp2_with (first
  |(have hq:=Ky;go_at_call 35;go_must(refine Ns _ _ ?_;intro NB MB w3 ik iC lP an;obtain⟨ku,sI,S5,cq⟩:=cF ik iC lP an;clear hq Ky ik iC lP an))
  |(go_at_call 35;go_must(refine Ns _ _ ?_;intro GB GM w5 jj dB tE aE;obtain⟨nH,oX,S6,ib⟩:=cF jj dB tE aE;clear jj dB tE aE)))
 have hy:Below w5 w5 (w5.alloc (.cells #[zq NB,.string (str (cZ l).gF),.int .i64 (cZ l).cI,.int .i64 (cZ l).ends,.bool (cZ l).ej,(.slice none 0 0),(.slice none 0 0),(.slice none 0 0),zq GB] 94)):=aD _ _;have bt:=cq.O.size;have Jy:=ib.O.size;have h3:=(ku.O.below ib.O).below hy;have h5:=nH.O.below hy;have gG:∀{x:World}{b t:Nat}{fr:Nat×Nat}{cs:Array Value},x.heap[b]? =some (.cells cs t fr)→b<x.heap.size:=fun h=>(eI.1 h).1;have l1:=gG ku.O.1;have l2:=ku.O.2.lt;have l3:=gG nH.O.1;have l4:=nH.O.2.lt;have n5:=oX.O;have m5:=S6.O;have n3:=sI.O;have m3:=S5.O;have e3:=ku.O.ne;have e5:=nH.O.ne;refine HR.O w5.heap.size (fun b=>b=w5.heap.size∨b=MB∨b=GM) NB MB GB GM _ _ _ _ ⟨aH w5 (.cells #[zq NB,.string (str (cZ l).gF),.int .i64 (cZ l).cI,.int .i64 (cZ l).ends,.bool (cZ l).ej,(.slice none 0 0),(.slice none 0 0),(.slice none 0 0),zq GB] 94),h3,h5,bO _ _ _ _,⟨[],rfl,bh.nil _ _ _,fun p hp=>by simp at hp,fun k G=>by simp[Value.ownBlock] at G⟩,⟨[],rfl,bO _ _ _ _,fun p hp=>by simp at hp,fun k G=>by simp[Value.ownBlock] at G⟩,by omega,by omega,.inl rfl,.inr (.inl rfl),.inr (.inr rfl),fun k G=>by simp[Value.ownBlock] at G,?_,?_,?_⟩ ?_ (by omega) (by omega) (cz (cz cq.O ib.O bt) hy (by omega))
 ·rintro(h|h|h)<;>omega
 ·rintro(h|h|h)<;>omega
 ·rintro b (h|h|h)<;>simp<;>omega
 rintro b (h|h|h)<;>omega
theorem Vy{P:Prop}(h:P:=by
 unfold fB;simp only[aK,fQ,ey,gi]
 omega):P:=h
theorem Vz{P:Prop}(h:P:=by
 unfold dF;simp only[aK,fQ,ey,gi]
 omega):P:=h
open List (drop_eq_getElem_cons drop_of_length_le getElem_take)
open Nat (succ_mul)
variable{k:Nat}
def rS(s:az)(a b c d:Nat):az:=⟨s.gF,s.cI,s.ends,s.ej,s.al.take a,s.queue.take b,s.ag.take c,(s.ag.take c).map (·.id),(bA s.aB).take d⟩
theorem MC(s:az):kP s=(b9 s.gF).1++(aY (bz s.cI) 8++(aY (bz s.ends) 8++([b8 (if s.ej then 1 else 0)]++([b8 (s.al.length:Int)]++(s.al.flatMap dF++([b8 (s.queue.length:Int)]++(s.queue.flatMap d_++([b8 (s.ag.length:Int)]++(s.ag.flatMap fB++([b8 (s.aB.length:Int)]++((bA s.aB).flatMap iD++ []))))))))))):=by
 unfold kP Ir;simp only[kT,od]
theorem Ed{α:Type}(f:α→List UInt8)(l:List α)(k:Nat)(h:k<l.length)(R:List UInt8):(l.drop k).flatMap f++R=f l[k]++((l.drop (k+1)).flatMap f++R):=by
 rw[drop_eq_getElem_cons h,lT,kT]
theorem Ee{α:Type}(f:α→List UInt8)(l:List α)(k:Nat)(h:l.length≤k)(R:List UInt8):(l.drop k).flatMap f++R=R:=by
 rw[drop_of_length_le h]
 rfl
theorem aeB(s:az):kP {s with aB:=bA s.aB}=kP s:=by
 unfold kP;simp only[tH];rw[Td (tG s.aB)]
theorem aeC{l:List Sb}(h:j7 l)(G:k<l.length):∀y∈l.take k,Lib.compareBytes y.filter (l[k]).filter<0:=fun y hy=>by
 obtain⟨i,hi,rfl⟩:=lD hy;rw[bS] at hi;rw[getElem_take];exact xy.1 h i k (by omega) G (by omega)
theorem aeD(s:az)(a:Nat)(G:k<s.queue.length):{rS s a k 0 0 with queue:=(rS s a k 0 0).queue++ [s.queue[k]]}=rS s a (k+1) 0 0:=by
 unfold rS;simp only[kF G]
theorem aeE(s:az)(a b c:Nat)(G:k<(bA s.aB).length):{rS s a b c k with aB:=(rS s a b c k).aB++ [(bA s.aB)[k]]}=rS s a b c (k+1):=by
 unfold rS;simp only[kF G]
theorem aeF(s:az)(a b c d:Nat):(rS s a b c d).al.length≤a∧(rS s a b c d).queue.length≤b∧(rS s a b c d).ag.length≤c∧(rS s a b c d).bJ.length≤c∧(rS s a b c d).aB.length≤d:=by
 unfold rS;refine⟨?_,?_,?_,?_,?_⟩<;>simp only[j0,bS]<;>omega
theorem yD{α:Type}(f:α→List UInt8)(n:Nat):∀(l:List α),(∀x∈l,(f x).length≤n)→(l.flatMap f).length≤l.length*n
 |[],_=>by simp
 |x::l,h=>by
  have h1:=h x mem_cons_self;have h2:=yD f n l (fun y hy=>h y (mem_cons_of_mem _ hy));rw[lT,aK,ey,succ_mul]
  omega
theorem arR(h:fg s):(kP s).length≤140000000:=by
 have h1:=yD dF 80 s.al fun x F=>by
  have k1:=qC (l:=x.filter) (h.sb x F).b.f;have k2:=(h.sb x F).l2;exact Vz
 have h2:=yD d_ 65537 s.queue fun x F=>by
  have k1:=uE (h.qk x F).l;have k2:=(h.qk x F).l;unfold d_
  omega
 have h3:=yD fB 65540 s.ag fun x F=>by
  have k1:=uE (h.fk x F).1.l;have k2:=(h.fk x F).1.l;exact Vy
 have h4:=yD iD 2 (bA s.aB) fun x F=>by
  unfold iD;rw[fQ]
  decide
 have k1:=qC (l:=s.gF) (by have:=h.cn;omega);have k2:=h.cn;have n1:=h.sn;have n2:=h.inv.qn;have n3:=h.inv.fn;have n4:=h.gn;have n5:=tH s.aB;rw[MC];simp only[aK,fQ,ey,gi]
 omega
theorem aeG(b:Bool):((if b then (1:Int) else 0)==1)=b:=by cases b<;>rfl
structure RH(aw4 w:World)(awW:Nat→Prop)(N S:Nat)(s:az)(r:Cu):Prop where
 cr:CR aw4 106 N r w
 en:awW N
 ex:∃M NB MB GB GM sv qv fv,sW w awW N S M NB MB GB GM sv qv fv s
theorem RH.cur{r r':Cu}(h:RH aw4 w awW N S s r)(J:CR aw4 106 N r' w')(A:w.grownBy w' (some N)):RH aw4 w' awW N S s r':=by
 obtain⟨M,NB,MB,GB,GM,sv,qv,fv,F⟩:=h.ex;exact⟨J,h.en,M,NB,MB,GB,GM,sv,qv,fv,F.cur h.en A h.cr.kind⟩
theorem RH.below{r:Cu}(h:RH aw4 w awW N S s r)(U:Below w w w'):RH aw4 w' awW N S s r:=by
 obtain⟨M,NB,MB,GB,GM,sv,qv,fv,F⟩:=h.ex;exact⟨h.cr.below U,h.en,M,NB,MB,GB,GM,sv,qv,fv,F.below U⟩
theorem RH.sr{r:Cu}(h:RH aw4 w awW N S s r):∃M,SR w M S s∧(∀b,awW b→M b)∧∀b,M b→awW b∨N<b:=by
 obtain⟨M,NB,MB,GB,GM,sv,qv,fv,F⟩:=h.ex;exact⟨M,⟨NB,MB,GB,GM,sv,qv,fv,F.F⟩,F.em,F.me⟩
theorem RH.cells{r:Cu}(h:RH aw4 w awW N S s r):w.cell? ⟨N,1,none⟩=some (.bool r.bad)∧w.frozen? ⟨N,1,none⟩=false:=by
 obtain⟨Y,c,hr,_⟩:=h.cr.row;exact⟨D 1 hr,aC hr 1⟩
theorem RH.mark{r:Cu}(h:RH aw4 w awW N S s r)(y:Bool):RH aw4 (w.setCell ⟨N,1,none⟩ (.bool y)) awW N S s ⟨r.b,y⟩:=
 h.cur (CR.mark (x:=r.bad) h.cr y) (br w ⟨N,1,none⟩ (.bool y))
theorem arN(aw4 w:World)(awW:Nat→Prop)(N S:Nat)(s:az)(r:Cu)(hG:RH aw4 w awW N S s r)(x:Sb)(s':az)(a b:Bool)(J:om s x=(s',a,b))(W:j7 s.al)(hl:s.al.length≤100000)(R:ak)
 (I:∀w',RH aw4 w' awW N S s' r→R (.returned (.tuple #[.bool a,.bool b])) w'):
 Calls prog 47 #[zq S,.agg (bH x)] w R:=by
 obtain⟨M,NB,MB,GB,GM,sv,qv,fv,F⟩:=hG.ex;refine ace S NB MB GB GM sv qv fv s x s' a b J W hl w M F.F R fun M' dG w' tq cK xO pV=> ?_;obtain⟨U,hv⟩:=pV (N+1) F.s1 hG.cr.lt F.vs;exact I w' ⟨hG.cr.over U,hG.en,M',NB,MB,GB,GM,dG,qv,fv,F.step hG.cr.lt tq cK xO hv F.vq F.vf⟩
theorem aey(aw4 w:World)(awW:Nat→Prop)(N S:Nat)(s:az)(r:Cu)(hG:RH aw4 w awW N S s r)(x:Im)(pv qw ev:Value)(hl:s.queue.length≤100000)(J:ie w pv qw ev x)(hB:fX x)(s':az)(b:Bool)(cK:kk s x=(s',b))(R:ak)
 (I:∀w',RH aw4 w' awW N S s' r→R (.returned (.bool b)) w'):
 Calls prog 8 #[zq S,(Value.agg (qi x pv qw ev))] w R:=by
 obtain⟨M,NB,MB,GB,GM,sv,qv,fv,F⟩:=hG.ex;unfold kk at cK
 split at cK
 ·rename_i h8
  cases cK;refine X8 S NB MB GB GM sv qv fv s x pv qw ev w M F.F h8 J hB R fun M' bY w' tq cK xO pV=> ?_;obtain⟨U,hv⟩:=pV (N+1) F.s1 hG.cr.lt F.vq;exact I w' ⟨hG.cr.over U,hG.en,M',NB,MB,GB,GM,sv,bY,fv,F.step hG.cr.lt tq cK xO F.vs hv F.vf⟩
 rename_i h8
 cases cK;exact X7 S s _ w M ⟨NB,MB,GB,GM,sv,qv,fv,F.F⟩ (by omega) hl R fun w' U=>I w' (hG.below U)
theorem arO(aw4 w:World)(awW:Nat→Prop)(N S:Nat)(s:az)(r:Cu)(hG:RH aw4 w awW N S s r)(x y:Int)(b:Bool)(s':az)(cK:{s with cI:=x,ends:=y,ej:=b}=s')(R:ak)
 (I:∀w',RH aw4 w' awW N S s' r→R (.returned (.tuple #[])) w'):
 Calls prog 46 #[zq S,E x,E y,.bool b] w R:=by
 have HR:=Z I;have HG:=Z hG;obtain⟨M,NB,MB,GB,GM,sv,qv,fv,ud⟩:=hG.ex;have F:=ud.F;have k1:=F.cell 2 (E x) {s with cI:=x} (by rw[bm w S 2 _ _ _ F.hS];rfl) rfl rfl rfl rfl rfl;have k2:=k1.1.cell 3 (E y) {s with cI:=x,ends:=y} (by rw[bm _ S 3 _ _ _ k1.1.hS];rfl) rfl rfl rfl rfl rfl;have k3:=k2.1.cell 4 (.bool b) {s with cI:=x,ends:=y,ej:=b} (by rw[bm _ S 4 _ _ _ k2.1.hS];rfl) rfl rfl rfl rfl rfl;have c2:=D 2 F.hS;have f2:=aC F.hS 2;have c3:=D 3 k1.1.hS;have f3:=aC k1.1.hS 3;have c4:=D 4 k2.1.hS;have f4:=aC k2.1.hS 4;have U:Below (N+1) w (((w.setCell ⟨S,2,none⟩ (E x)).setCell ⟨S,3,none⟩ (E y)).setCell ⟨S,4,none⟩ (.bool b)):=QH (QH (QH (Below.refl (N+1) w) ud.s1 _ _) ud.s1 _ _) ud.s1 _ _;have cD:RH aw4 (((w.setCell ⟨S,2,none⟩ (E x)).setCell ⟨S,3,none⟩ (E y)).setCell ⟨S,4,none⟩ (.bool b)) awW N S s' r:=by
  subst cK;exact⟨HG.O.cr.over U,HG.O.en,M,NB,MB,GB,GM,sv,qv,fv,ud.step HG.O.cr.lt k3.1 (k1.2.trans (k2.2.trans k3.2)) (fun _ h=>h) ud.vs ud.vq ud.vf⟩
 have HF:=Z cD;clear I k1 k2 k3 F hG cK ud U cD;go_enter func46,ntmps46;go_wp2;refine bodyPost_ret (results_none rfl _ _ _) rfl ?_;exact HR.O _ HF.O
def nX(l:List Int)(d:Int):List Int×Bool:=if 1≤d∧d≤65535∧l.contains d=false then (l++ [d],true) else (l,false)
theorem V1(N m:Nat)(l:List Int)(d:Int)(hd:iR d)(hl:l.length≤100000)(l':List Int)(b:Bool)(h:nX l d=(l',b))(w:World)(W:St w N m l)(R:ak)
 (I:∀w',St w' N m l'→w.grownBy w' (some m)→R (.returned (.bool b)) w'):
 Calls prog 51 #[zq N,E d] w R:=by
 unfold nX at h
 split at h
 ·rename_i J
  cases h;exact RM N m l d J.1 J.2.1 J.2.2 hl w W R I
 rename_i J
 cases h;refine RO N m l d hd ?_ w W R fun w' U=>I w' (W.below U) (ju U);by_cases h1:d<1
 ·exact .inl h1
 by_cases h2:65535<d
 ·exact .inr (.inl h2)
 refine .inr (.inr ?_);cases h3:l.contains d with
 |true=>rfl
 |false=>exact absurd ⟨by omega,by omega,h3⟩ J
theorem arP(aw4 w:World)(awW:Nat→Prop)(N S:Nat)(s:az)(r:Cu)(hG:RH aw4 w awW N S s r)(id:Int)(hid:iR id)(s':az)(a b:Bool)(J:pU s id=(s',a,b))(hl:s.aB.length≤8)(R:ak)
 (I:∀w',RH aw4 w' awW N S s' r→R (.returned (.tuple #[.bool a,.bool b])) w'):
 Calls prog 52 #[zq S,E id] w R:=by
 have HR:=Z I;have HG:=Z hG;obtain⟨M,NB,MB,GB,GM,sv,qv,fv,ud⟩:=hG.ex;have HX:=Z ud;have c8:=(ef ud.F.hS).2.2.2.2;have Ec:=Z hid;obtain⟨n,hn⟩:=ai s.aB.length;have HN:=Z hn;rw[hn] at hl;obtain⟨z,hz⟩:=ai (s.aB.contains id);have H1:=Z hz;unfold pU at J;rw[hz,hn] at J;have HL:Hid (s.aB.length≤100000):=by show _≤_;omega
 clear I ud hG hn hz hid;cases z with
 |true=>
  rw[if_pos rfl] at J;cases J;go_enter func52,ntmps52;go_wp2_with (go_at_call 115;go_must(refine AF GB GM s.aB id true H1.O _ HX.O.F.A Ec.O _ ?_);intro w2 aj;have bn:=Z aj;clear aj c8);exact HR.O _ (HG.O.below bn.O)
 |false=>
 rw[if_neg (by decide)] at J;obtain⟨l',h',hh⟩:∃l b,nX s.aB id=(l,b):=⟨_,_,rfl⟩
 have HH:=Z hh;by_cases h8:n<8
 ·have su:(n:Int)<8:=by omega
  have Xz:Hid (s'={s with aB:=l'}∧a=false∧b=h'):=by
   unfold nX at hh;rw[H1.O] at hh
   split at J
   ·rename_i h1
    rw[if_pos ⟨h1.2.1,h1.2.2,rfl⟩] at hh;cases J;cases hh;exact⟨rfl,rfl,rfl⟩
   rename_i h1
   rw[if_neg (fun h=>h1 ⟨h8,h.1,h.2.1⟩)] at hh;cases J;cases hh;exact⟨rfl,rfl,rfl⟩
  clear J hh;go_enter func52,ntmps52;go_wp2_with (first
   |(go_at_call 115;go_must(refine AF GB GM s.aB id false H1.O _ HX.O.F.A Ec.O _ ?_);intro w2 aj;have jm:=Z (HX.O.below aj);have lG:=Z (HG.O.cr.below aj);have OQ:=(ef jm.O.F.hS).2.2.2.2;clear aj c8)
   |(go_at_call 116;go_must(refine KI GB GM s.aB n HN.O _ jm.O.F.A _ ?_))
   |(go_at_call 51;go_must(refine V1 GB GM s.aB id Ec.O HL.O l' h' HH.O _ jm.O.F.A _ ?_);intro w3 zu dz;have dq:=SX.RU jm.O.F dz zu;have ji:=Z dq.1;have ku:=Z dq.2;have xp:=Z dz;clear zu dz dq))
  have U:Below (N+1) w2 w3:=s_ xp.O lG.O.lt (fun k G=>by cases G;exact jm.O.gm);obtain⟨rfl,rfl,rfl⟩:=Xz.O;exact HR.O _ ⟨lG.O.over U,HG.O.en,M,NB,MB,GB,GM,sv,qv,fv,jm.O.step lG.O.lt ji.O ku.O (fun _ h=>h) jm.O.vs jm.O.vq jm.O.vf⟩
 have su:¬(n:Int)<8:=by omega
 rw[if_neg (fun h=>h8 h.1)] at J;cases J;clear hh;go_enter func52,ntmps52;go_wp2_with (first
  |(go_at_call 115;go_must(refine AF GB GM s.aB id false H1.O _ HX.O.F.A Ec.O _ ?_);intro w2 aj;have jm:=Z (HX.O.below aj);have bn:=Z aj;have OQ:=(ef jm.O.F.hS).2.2.2.2;clear aj c8)
  |(go_at_call 116;go_must(refine KI GB GM s.aB n HN.O _ jm.O.F.A _ ?_)))
 exact HR.O _ (HG.O.below bn.O)
theorem aez{P:Prop}(h:P:=by
 have:ps= []:=by
  cases ps with
  |nil=>rfl
  |cons a b=>cases e1
 subst this;exact⟨[],e1,e2,fun p hp=>absurd hp qT,fun k G=>Or.inl (e4 k G)⟩):P:=h
theorem arQ{l:List UInt8}{r:Cu}(J:CR aw4 106 N r w)(U:Below w w w')(F:SX w' M S NB MB GB GM sv qv fv (cZ l))(hM:∀b,M b→w.heap.size≤b)(hE:∀b,awW b→b≤N)(en:awW N)
 (h1:w.heap.size≤NB) (h2:w.heap.size≤GB):RH aw4 w' awW N S (cZ l) r:=by
 have hN:=J.lt;have h1:N<NB:=by omega
 have h2:N<GB:=by omega
 have lt:∀b,M b→N<b:=fun b U=>by have:=hM b U;omega
 have aeA:∀{b},N<b→¬awW b:=fun h he=>by have:=hE _ he;omega
 refine⟨J.below U,en,fun b=>M b∨awW b,NB,MB,GB,GM,sv,qv,fv,⟨F.hS,F.hn,F.A,F.W,?_,?_,F.nb,F.nm,.inl F.mS,.inl F.mN,.inl F.mG,fun k G=> .inl (F.ms k G),?_,?_,?_⟩,fun b U=> .inr U,?_,lt _ F.mS,lt _ F.mN,lt _ F.mG,fun k G=>lt _ (F.ms k G),fun k G=>lt _ (F.hq.own k G),fun k G=>lt _ (F.hf.own k G)⟩
 ·obtain⟨ps,e1,e2,e3,e4⟩:=F.hq;exact aez
 ·obtain⟨ps,e1,e2,e3,e4⟩:=F.hf;exact aez
 ·rintro(hm|hm)
  ·exact F.q_ hm
  ·exact aeA h1 hm
 ·rintro(hm|hm)
  ·exact F.re hm
  ·exact aeA h2 hm
 ·rintro b (hm|hm)
  ·exact F.lt b hm
  ·have:=hE b hm;have:=U.size
   omega
 rintro b (hm|hm)
 ·exact .inr (lt b hm)
 exact .inl hm
def jC{α:Type}(f:α→α):Nat→α→α
 |0,x=>x
 |k+1,x=>f (jC f k x)
theorem Ah{α:Type}{f:α→α}{P:Nat→α→Prop}(x:α)(h0:P 0 x)(h1:∀k y,P k y→P (k+1) (f y)):∀k,P k (jC f k x)
 |0=>h0
 |k+1=>h1 k _ (Ah x h0 h1 k)
def pq(p:az×Cu):az×Cu:=((om p.1 (xq p.2).1).1,⟨(xq p.2).2.b,(xq p.2).2.bad || !(om p.1 (xq p.2).1).2.2⟩)
noncomputable def pw (p:az×Cu):az×Cu:=((kk p.1 (itemS p.2).1).1,⟨(itemS p.2).2.b,!(kk p.1 (itemS p.2).1).2 || (itemS p.2).2.bad⟩)
noncomputable def qd (p:az×Cu):az×Cu:=({p.1 with bJ:=(nX p.1.bJ (flightC p.2).1.id).1,ag:=p.1.ag++ [(flightC p.2).1]},⟨(flightC p.2).2.b,!(nX p.1.bJ (flightC p.2).1.id).2 || (flightC p.2).2.bad⟩)
def ue(p:az×Cu):az×Cu:=((pU p.1 (aN 2 p.2).1).1,⟨(aN 2 p.2).2.b,(aN 2 p.2).2.bad || !(pU p.1 (aN 2 p.2).1).2.2⟩)
def I9(x y:Int):Bool:=decide (x<0) || decide (x > 4611686018427387904) || decide (y<0) || decide (y > 4611686018427387904)
def I_(b:List UInt8):az×Cu:=
 let r1:=yz ⟨b,false⟩
 let r2:=aN 8 r1.2
 let r3:=aN 8 r2.2
 let r4:=aN 1 r3.2
 ({cZ r1.1 with cI:=r2.1,ends:=r3.1,ej:=r4.1==1},⟨r4.2.b,r4.2.bad || I9 r2.1 r3.1⟩)
def mj(f:az×Cu→az×Cu)(p:az×Cu):az×Cu:=jC f (aN 1 p.2).1.toNat (p.1,(aN 1 p.2).2)
noncomputable def pS (b:List UInt8):az×Cu:=mj ue (mj qd (mj pw (mj pq (I_ b))))
structure fU(s:az):Prop where
 sn:s.al.length≤8
 ss:j7 s.al
 qn:s.queue.length≤8
 nn:s.bJ.length≤s.ag.length
 gn:s.aB.length≤8
theorem fU.sub(h:fU s)(x:Sb):fU (om s x).1:=by
 unfold om
 split
 ·rename_i hi
  obtain⟨G,e⟩:=EI hi;exact⟨by rw[qU];exact h.sn,h.ss.setAt G e,h.qn,h.nn,h.gn⟩
 rename_i hi
 split
 ·exact h
 rename_i h8
 refine⟨?_,?_,h.qn,h.nn,h.gn⟩
 ·have:=h.sn;simp only[aK,bS,dw,ey,gi]
  omega
 exact h.ss.ins (ns.2 hi)
theorem fU.push(h:fU s)(x:Im):fU (kk s x).1:=by
 unfold kk
 split
 ·exact⟨h.sn,h.ss,by simp only[aK,ey,gi];omega,h.nn,h.gn⟩
 exact h
theorem fU.MA(h:fU s)(id:Int):fU (pU s id).1:=by
 unfold pU
 split
 ·exact h
 split
 ·exact⟨h.sn,h.ss,h.qn,h.nn,by simp only[aK,ey,gi];omega⟩
 exact h
theorem fU.mP(h:fU s)(f:Fl):fU {s with bJ:=(nX s.bJ f.id).1,ag:=s.ag++ [f]}:=by
 refine⟨h.sn,h.ss,h.qn,?_,h.gn⟩;have:=h.nn;unfold nX
 split<;>simp only[aK,ey,gi]<;>omega
variable{f:Fl}
theorem fU.start(cl:List UInt8)(x y:Int)(o:Bool):fU {cZ cl with cI:=x,ends:=y,ej:=o}:=⟨by simp[cZ],.nil,by simp[cZ],by simp[cZ],by simp[cZ]⟩
theorem fU.al{p q:az×Cu}(h:fU p.1)(e:mj pq p=q):fU q.1:=by
 rw[←e];exact Ah (f:=pq) (P:=fun _ (q:az×Cu)=>fU q.1) (p.1,(aN 1 p.2).2) h (fun _ y (hy:fU y.1)=>hy.sub _) _
theorem fU.arS{p q:az×Cu}(h:fU p.1)(e:mj pw p=q):fU q.1:=by
 rw[←e];exact Ah (f:=pw) (P:=fun _ (q:az×Cu)=>fU q.1) (p.1,(aN 1 p.2).2) h (fun _ y (hy:fU y.1)=>hy.push _) _
theorem fU.arT{p q:az×Cu}(h:fU p.1)(e:mj qd p=q):fU q.1:=by
 rw[←e];exact Ah (f:=qd) (P:=fun _ (q:az×Cu)=>fU q.1) (p.1,(aN 1 p.2).2) h (fun _ y (hy:fU y.1)=>hy.mP _) _
theorem arU(s:az)(c:Cu):(mj pw (mj pq (s,c))).1.ag.length=s.ag.length:=by
 have h1:∀p,(mj pq p).1.ag=p.1.ag:=fun p=>Ah (f:=pq) (P:=fun _ (q:az×Cu)=>q.1.ag=p.1.ag) (p.1,(aN 1 p.2).2) rfl (fun _ y hy=>by
  rw[←hy];show(om y.1 (xq y.2).1).1.ag=_;unfold om
  split
  ·rfl
  split<;>rfl) _
 have h2:∀p,(mj pw p).1.ag=p.1.ag:=fun p=>Ah (f:=pw) (P:=fun _ (q:az×Cu)=>q.1.ag=p.1.ag) (p.1,(aN 1 p.2).2) rfl (fun _ y hy=>by
  rw[←hy];show(kk y.1 (itemS y.2).1).1.ag=_;unfold kk
  split<;>rfl) _
 rw[h2,h1]
theorem arV{s S:Cu}(h:flightC s=(f,S)):fX f.item∧iR f.id:=by
 obtain⟨id,s1,k1⟩:∃T s',aN 2 s=(T,s'):=⟨_,_,rfl⟩
 obtain⟨state,s2,k2⟩:∃T s',aN 1 s1=(T,s'):=⟨_,_,rfl⟩
 obtain⟨x,s3,k3⟩:∃T s',itemS s2=(T,s'):=⟨_,_,rfl⟩
 unfold flightC at h;simp only[k1,k2,k3,Prod.mk.injEq] at h;obtain⟨rfl,_⟩:=h;exact⟨I7 k3,QA k1⟩
structure jY(s:az):Prop where
 cl:eg s.gF=true
 cn:s.gF.length≤65535
 e0:0≤s.cI
 e1:s.cI≤4611686018427387904
 d0:0≤s.ends
 d1:s.ends≤4611686018427387904
 sn:s.al.length≤8
 sb:∀x∈s.al,tN x
 ss:j7 s.al
 qn:s.queue.length≤8
 qk:∀x∈s.queue,gh x∧(db x).length≤65535
 fk:∀f∈s.ag,(gh f.item∧(db f.item).length≤65535)∧A0 f.state f.item
 fr:∀f∈s.ag,1≤f.id∧f.id≤8
 nd:(s.ag.map (·.id)).Nodup
 eq:s.bJ=s.ag.map (·.id)
 gn:s.aB.length≤8
 gr:∀n∈s.aB,1≤n∧n≤65535
 gd:s.aB.Nodup
noncomputable def rdZ (b:List UInt8):Option az:=open Classical in if h:∃s,jY s∧bA s.aB=s.aB∧kP s=b then some h.choose else none
theorem aeH:∀(n:Nat)(l:List Int),l.Nodup→(∀x∈l,1≤x∧x≤(n:Int))→l.length≤n
 |0,l,_,h=>by
  cases l with
  |nil=>exact Nat.le_refl _
  |cons a t=>have:=h a mem_cons_self;omega
 |n+1,l,hd,h=>by
  have h1:=aeH n (l.erase ((n+1:Nat):Int)) (hd.erase _) (fun x F=>by
   have h2:=(List.Nodup.mem_erase_iff hd).1 F;have h3:=h x h2.2;have h4:x≠((n+1:Nat):Int):=h2.1
   omega)
  have h2:l.length≤(l.erase ((n+1:Nat):Int)).length+1:=by
   rw[List.length_erase]
   split<;>omega
  omega
theorem jY.fn(h:jY s):s.ag.length≤8:=by
 have:=aeH 8 (s.ag.map (·.id)) h.nd (fun x F=>by
  obtain⟨f,hf,rfl⟩:=List.mem_map.1 F;exact h.fr f hf)
 rwa [j0] at this
theorem jY.rd(h:jY s):fU s:=⟨h.sn,h.ss,h.qn,by rw[h.eq,j0];exact Nat.le_refl _,h.gn⟩
theorem jY.sub(h:jY s){x:Sb}(F:tN x):jY (om s x).1:=by
 have h1:=(h.rd.sub x).sn;have h2:=(h.rd.sub x).ss;have h3:∀y∈(om s x).1.al,tN y:=fun y hy=>by
  unfold om at hy
  split at hy
  ·rcases mem_or_eq_of_mem_set hy with h1|h1
   ·exact h.sb y h1
   ·rw[h1];exact F
  split at hy
  ·exact h.sb y hy
  rcases ez.1 hy with hy|hy
  ·rcases ez.1 hy with hy|hy
   ·exact h.sb y (List.mem_of_mem_take hy)
   ·obtain rfl:=dM.1 hy;exact F
  exact h.sb y (mem_of_mem_drop hy)
 revert h1 h2 h3
 unfold om
 split
 ·exact fun h1 h2 h3=>⟨h.cl,h.cn,h.e0,h.e1,h.d0,h.d1,h1,h3,h2,h.qn,h.qk,h.fk,h.fr,h.nd,h.eq,h.gn,h.gr,h.gd⟩
 split
 ·exact fun _ _ _=>h
 exact fun h1 h2 h3=>⟨h.cl,h.cn,h.e0,h.e1,h.d0,h.d1,h1,h3,h2,h.qn,h.qk,h.fk,h.fr,h.nd,h.eq,h.gn,h.gr,h.gd⟩
theorem jY.push(h:jY s)(F:gh x∧(db x).length≤65535):jY (kk s x).1:=by
 have h1:=(h.rd.push x).qn
 revert h1
 unfold kk
 split
 ·exact fun h1=>⟨h.cl,h.cn,h.e0,h.e1,h.d0,h.d1,h.sn,h.sb,h.ss,h1,(fun y hy=>by
   rcases ez.1 hy with hy|hy
   ·exact h.qk y hy
   obtain rfl:=dM.1 hy;exact F),h.fk,h.fr,h.nd,h.eq,h.gn,h.gr,h.gd⟩
 exact fun _=>h
theorem jY.mP(h:jY s)(F:(gh f.item∧(db f.item).length≤65535)∧A0 f.state f.item)(h8:f.id≤8)(hh:(nX s.bJ f.id).2=true):jY {s with bJ:=(nX s.bJ f.id).1,ag:=s.ag++ [f]}:=by
 unfold nX at hh⊢
 split at hh
 ·rename_i J
  rw[if_pos J];refine⟨h.cl,h.cn,h.e0,h.e1,h.d0,h.d1,h.sn,h.sb,h.ss,h.qn,h.qk,fun g A=> ?_,fun g A=> ?_,?_,?_,h.gn,h.gr,h.gd⟩
  ·rcases ez.1 A with A|A
   ·exact h.fk g A
   ·obtain rfl:=dM.1 A;exact F
  ·rcases ez.1 A with A|A
   ·exact h.fr g A
   ·obtain rfl:=dM.1 A;exact⟨J.1,h8⟩
  ·have h3:=J.2.2;rw[h.eq] at h3;simp only[nv,List.map_cons,List.map_nil];rw[nodup_append];refine⟨h.nd,by simp,fun a ha b U=> ?_⟩;obtain rfl:=dM.1 U;rintro rfl;rw[List.contains_iff_mem.2 ha] at h3;cases h3
  simp only[nv,List.map_cons,List.map_nil];rw[h.eq]
 cases hh
theorem jY.MA(h:jY s)(id:Int):jY (pU s id).1:=by
 unfold pU
 split
 ·exact h
 rename_i lI
 split
 ·rename_i h1
  refine⟨h.cl,h.cn,h.e0,h.e1,h.d0,h.d1,h.sn,h.sb,h.ss,h.qn,h.qk,h.fk,h.fr,h.nd,h.eq,?_,fun n hn=> ?_,?_⟩
  ·simp only[aK,ey,gi]
   omega
  ·rcases ez.1 hn with hn|hn
   ·exact h.gr n hn
   ·obtain rfl:=dM.1 hn;exact h1.2
  rw[nodup_append];exact abq
 exact h
theorem aeI{P:Prop}(h:P:=by
 rcases hf with⟨e,_⟩|⟨e,_⟩|⟨e,_⟩
 ·exact⟨1,e,by decide⟩
 ·exact⟨2,e,by decide⟩
 exact⟨3,e,by decide⟩):P:=h
theorem aeJ{P:Prop}(h:P:=by
 have h4:=yD iD 2 (bA s.aB) fun x F=>by
  unfold iD;rw[fQ]
  decide
 have k1:=qC (l:=s.gF) h.cn;have k2:=h.cn;have n1:=h.sn;have n2:=h.qn;have n3:=h.fn;have n4:=h.gn;have n5:=tH s.aB;rw[MC];simp only[aK,fQ,ey,gi]
 omega):P:=h
open Bool (or_eq_false_iff)
open List (drop_left take_length)
theorem aeK{s S:Cu}{T:List UInt8}(h:yz s=(T,S))(U:S.bad=false):s.bad=false∧eg T=true∧T.length≤65535:=by
 obtain⟨aw2,u,er,hD⟩:∃aw2 u er,dp s.b=(aw2,u,er):=⟨_,_,_,rfl⟩
 unfold yz at h;rw[hD] at h;simp only[Prod.mk.injEq] at h;obtain⟨rfl,rfl⟩:=h;simp only[or_eq_false_iff,bne_eq_false_iff_eq] at U;obtain⟨h1,rfl⟩:=U;obtain⟨h2,_,_,h3,_⟩:=BI _ _ _ hD;exact⟨h1,h3,h2⟩
theorem aeL{s S:Cu}(h:itemS s=(x,S))(U:S.bad=false):s.bad=false∧gh x∧(db x).length≤65535:=by
 obtain⟨aw2,u,er,hD⟩:∃aw2 u er,eh s.b=(aw2,u,er):=⟨_,_,_,rfl⟩
 obtain⟨y,e,hI⟩:∃y e,rdI aw2=(y,e):=⟨_,_,rfl⟩
 unfold itemS at h;simp only[hD,hI,Prod.mk.injEq] at h;obtain⟨rfl,rfl⟩:=h;simp only[or_eq_false_iff,bne_eq_false_iff_eq] at U;obtain⟨⟨h1,_⟩,rfl⟩:=U;rcases Vq hI with⟨_,h2,h3⟩|⟨h2,_⟩
 ·refine⟨h1,h2,?_⟩;have:=(Mg s.b).1;rw[hD] at this;rw[h3];exact this
 cases h2
theorem arW{s S:Cu}{x:Sb}(h:xq s=(x,S))(U:S.bad=false):s.bad=false∧tN x:=by
 obtain⟨awX,s1,k1⟩:∃T s',yz s=(T,s'):=⟨_,_,rfl⟩
 obtain⟨o,s2,k2⟩:∃T s',aN 1 s1=(T,s'):=⟨_,_,rfl⟩
 obtain⟨ID,s3,k3⟩:∃T s',aN 4 s2=(T,s'):=⟨_,_,rfl⟩
 unfold xq at h;simp only[k1,k2,k3,Prod.mk.injEq] at h;obtain⟨rfl,rfl⟩:=h;simp only[or_eq_false_iff,I5,decide_eq_false_iff_not] at U;obtain⟨h3,⟨⟨⟨h4,h5⟩,h6⟩,h7⟩,h8⟩:=U;obtain⟨g1,g2,g3⟩:=aeK k1 (p_ k2 (p_ k3 h3));obtain⟨m,rfl,hm⟩:=kS (by decide) k2;obtain⟨i,rfl,hi⟩:=kS (by decide) k3;have hq:=Gp m hm;exact⟨g1,⟨⟨hq.1,by show bits .and .i64 (m:Int) 3≤(2:Int);omega,by show(0:Int)≤(m:Int) / 16;omega,by show(m:Int) / 16≤(2:Int);omega,g3⟩,g2,by show 1≤awX.length;omega,by show awX.length≤64;omega,by show(0:Int)≤(i:Int);omega,by show(i:Int)≤268435455;omega⟩⟩
theorem arX{s S:Cu}(h:flightC s=(f,S))(U:S.bad=false):s.bad=false∧((gh f.item∧(db f.item).length≤65535)∧A0 f.state f.item)∧f.id≤8:=by
 obtain⟨id,s1,k1⟩:∃T s',aN 2 s=(T,s'):=⟨_,_,rfl⟩
 obtain⟨state,s2,k2⟩:∃T s',aN 1 s1=(T,s'):=⟨_,_,rfl⟩
 obtain⟨x,s3,k3⟩:∃T s',itemS s2=(T,s'):=⟨_,_,rfl⟩
 unfold flightC at h;simp only[k1,k2,k3,Prod.mk.injEq] at h;obtain⟨rfl,rfl⟩:=h;simp only[or_eq_false_iff,decide_eq_false_iff_not] at U;obtain⟨⟨h3,h4⟩,h5⟩:=U;obtain⟨g1,g2,g3⟩:=aeL k3 h3;refine⟨p_ k1 (p_ k2 g1),⟨⟨g2,g3⟩,?_⟩,by show id≤8;omega⟩;show A0 state x;unfold badF at h4;by_cases e1:state=1
 ·rw[if_pos (.inl e1),bne_eq_false_iff_eq] at h4;exact .inl ⟨e1,by rw[h4,e1]⟩
 by_cases e2:state=2
 ·rw[if_pos (.inr e2),bne_eq_false_iff_eq] at h4;exact .inr (.inl ⟨e2,by rw[h4,e2]⟩)
 rw[if_neg (by rintro(h|h);exact e1 h;exact e2 h)] at h4;by_cases e3:state=3
 ·rw[if_pos e3] at h4;simp only[Bool.not_eq_false',decide_eq_true_eq] at h4;exact .inr (.inr ⟨e3,_,h4⟩)
 rw[if_neg e3] at h4;cases h4
def Gd(q:az×Cu):Prop:=q.2.bad=false→jY q.1
theorem QY{f:az×Cu→az×Cu}(hf:∀q,Gd q→Gd (f q)){p:az×Cu}(h:Gd p):Gd (mj f p):=
 Ah (f:=f) (P:=fun _ q=>Gd q) (p.1,(aN 1 p.2).2) (fun U=>h (p_ (n:=1) (s:=p.2) rfl U)) (fun _ y hy=>hf y hy) _
theorem aeM{b:List UInt8}{c:Cu}(h:pS b=(s,c))(U:c.bad=false):jY s:=by
 have key:Gd (pS b):=by
  refine QY (fun q hq U=> ?_) (QY (fun q hq U=> ?_) (QY (fun q hq U=> ?_) (QY (fun q hq U=> ?_) (fun U=> ?_))))
  ·obtain⟨x,S,k⟩:∃x S,aN 2 q.2=(x,S):=⟨_,_,rfl⟩
   unfold ue at U⊢;rw[k] at U⊢;simp only[or_eq_false_iff] at U;exact(hq (p_ k U.1)).MA x
  ·obtain⟨x,S,k⟩:∃x S,flightC q.2=(x,S):=⟨_,_,rfl⟩
   unfold qd at U⊢;rw[k] at U⊢;simp only[or_eq_false_iff,Bool.not_eq_false'] at U;obtain⟨g1,g2,g3⟩:=arX k U.2;exact(hq g1).mP g2 g3 U.1
  ·obtain⟨x,S,k⟩:∃x S,itemS q.2=(x,S):=⟨_,_,rfl⟩
   unfold pw at U⊢;rw[k] at U⊢;simp only[or_eq_false_iff] at U;obtain⟨g1,g2⟩:=aeL k U.2;exact(hq g1).push g2
  ·obtain⟨x,S,k⟩:∃x S,xq q.2=(x,S):=⟨_,_,rfl⟩
   unfold pq at U⊢;rw[k] at U⊢;simp only[or_eq_false_iff] at U;obtain⟨g1,g2⟩:=arW k U.1;exact(hq g1).sub g2
  obtain⟨cl,c1,k1⟩:∃T s,yz ⟨b,false⟩=(T,s):=⟨_,_,rfl⟩
  obtain⟨ex,c2,k2⟩:∃T s,aN 8 c1=(T,s):=⟨_,_,rfl⟩
  obtain⟨en,c3,k3⟩:∃T s,aN 8 c2=(T,s):=⟨_,_,rfl⟩
  obtain⟨on,c4,k4⟩:∃T s,aN 1 c3=(T,s):=⟨_,_,rfl⟩
  unfold I_ at U⊢;simp only[k1,k2,k3,k4,or_eq_false_iff,I9,decide_eq_false_iff_not] at U⊢;obtain⟨h4,⟨⟨h5,h6⟩,h7⟩,h8⟩:=U;obtain⟨_,g2,g3⟩:=aeK k1 (p_ k2 (p_ k3 (p_ k4 h4)));exact⟨g2,g3,by show 0≤ex;omega,by show ex≤4611686018427387904;omega,by show 0≤en;omega,by show en≤4611686018427387904;omega,by simp[cZ],by simp[cZ],.nil,by simp[cZ],by simp[cZ],by simp[cZ],by simp[cZ],.nil,rfl,by simp[cZ],by simp[cZ],.nil⟩
 rw[h] at key;exact key U
theorem Bg(k:Nat)(G:k≤8)(x:Int)(h0:0≤x)(h1:x<256 ^ k)(h2:x≤4611686018427387904)(t:List UInt8):aN k ⟨aY (bz x) k++t,false⟩=(x,⟨t,false⟩):=by
 rw[OA,alH k G x h0 h1 h2]
theorem aeN(l t:List UInt8)(h:l.length≤65535)(ht:eg l=true):yz ⟨(b9 l).1++t,false⟩=(l,⟨t,false⟩):=by
 have e:(b9 l).1=aY l.length 2++l:=by
  unfold b9 dn;rw[if_pos ht,if_neg (by omega)]
 have hl:(aY l.length 2++l).length=(((l.length:Int)+2).toNat):=by
  rw[aK,fQ]
  omega
 unfold yz;simp only[e,JO l t h ht];rw[←hl,drop_left]
 rfl
theorem aeO(F:gh x)(hl:(db x).length≤65535)(t:List UInt8):itemS ⟨(dn (db x)).1++t,false⟩=(x,⟨t,false⟩):=by
 have e:(dn (db x)).1=aY (db x).length 2++db x:=by
  unfold dn;rw[if_neg (by omega)]
 have hd:(aY (db x).length 2++db x).length=((((db x).length:Int)+2).toNat):=by
  rw[aK,fQ]
  omega
 unfold itemS;simp only[e,Hj (db x) t hl,QE F];rw[←hd,drop_left]
 rfl
theorem arY{x:Sb}(F:tN x)(t:List UInt8):xq ⟨dF x++t,false⟩=(x,⟨t,false⟩):=by
 obtain⟨m,hm,fh,lP,tv,tE,yB⟩:=abp x.ah x.eX x.kn x.kq F.b.q0 F.b.q1 F.b.h0 F.b.h1;have e:dF x++t=(b9 x.filter).1++([b8 (m:Int)]++(aY (bz x.id) 4++t)):=by
  unfold dF;rw[hm];simp only[kT]
 have h0:=F.i0;have h1:=F.i1;have b0:I5 x=false:=by
  have:=F.b.q1;have:=F.b.h1;have:=F.l1;have:=F.l2;unfold I5;rw[dN (by omega),dN (by omega),dN (by omega),dN (by omega),dN (by omega)]
  rfl
 rw[e];unfold xq;simp only[aeN _ _ F.b.f F.t,uD m fh,Bg 4 (by decide) x.id h0 (by omega) (by omega),lP,tv,tE,yB];rw[b0]
 rfl
theorem arZ(F:(gh f.item∧(db f.item).length≤65535)∧A0 f.state f.item)(h1:1≤f.id)(h8:f.id≤8)(t:List UInt8):flightC ⟨fB f++t,false⟩=(f,⟨t,false⟩):=by
 obtain⟨⟨G,hl⟩,hf⟩:=F;have cB:∃m:Nat,f.state=(m:Int)∧m<256:=by
  exact aeI
 obtain⟨m,hm,fh⟩:=cB;have e:fB f++t=aY (bz f.id) 2++([b8 (m:Int)]++((dn (db f.item)).1++t)):=by
  unfold fB;rw[hm];simp only[kT]
 have b0:badF f.state f.item=false:=by
  unfold badF;rcases hf with⟨e,q⟩|⟨e,q⟩|⟨e,tt,q⟩
  ·rw[if_pos (.inl e),q,e];rfl
  ·rw[if_pos (.inr e),q,e];rfl
  rw[if_neg (by omega),if_pos e,eN (by rw[q];rfl)];rfl
 rw[e];unfold flightC;simp only[Bg 2 (by decide) f.id (by omega) (by omega) (by omega),uD m fh,aeO G hl];rw[←hm,b0,dN (by omega)]
 rfl
theorem aeP{α:Type}{f:α→α}(st:Nat→α)(n:Nat)(h:∀k,k<n→f (st k)=st (k+1)):∀k,k≤n→jC f k (st 0)=st k
 |0,_=>rfl
 |k+1,G=>by
  show f (jC f k (st 0))=_;rw[aeP st n h k (by omega),h k (by omega)]
theorem QZ{f:az×Cu→az×Cu}(st:Nat→az×Cu)(n:Nat)(hn:n<256)(s:az)(r:List UInt8)(h0:st 0=(s,⟨r,false⟩))(h:∀k,k<n→f (st k)=st (k+1)):mj f (s,⟨[b8 (n:Int)]++r,false⟩)=st n:=by
 unfold mj;simp only[uD n hn,toNat_natCast];rw[←h0];exact aeP st n h n bj
theorem ar0(h:jY s)(G:k<s.al.length):om (rS s k 0 0 0) s.al[k]=(rS s (k+1) 0 0 0,true,true):=by
 have hl:=aeC h.ss G;have hp:gH (s.al.take k) (s.al[k]).filter=k:=by
  unfold gH;rw[List.countP_eq_length.2 (fun y hy=>by simpa using hl y hy),bS]
  omega
 have hi:sm (s.al.take k) (s.al[k]).filter=false:=by
  unfold sm;rw[hp,xz (by rw[bS];omega)]
 have h8:=h.sn;unfold om;show(if sm (s.al.take k) (s.al[k]).filter=true then _ else if (s.al.take k).length=8 then _ else ({rS s k 0 0 0 with al:=(s.al.take k).take (gH (s.al.take k) (s.al[k]).filter)++ [s.al[k]]++(s.al.take k).drop (gH (s.al.take k) (s.al[k]).filter)},true,true))=_;rw[if_neg (by rw[hi];decide),if_neg (by rw[bS];omega),hp];have e:(s.al.take k).take k++ [s.al[k]]++(s.al.take k).drop k=s.al.take (k+1):=by
  rw[gy (by rw[bS];omega),drop_of_length_le (by rw[bS];omega),od,kF G]
 rw[e]
 rfl
theorem ar1(h:jY s)(a b:Nat)(G:k<s.ag.length):(rS s a b k 0).bJ.contains (s.ag[k]).id=false:=by
 have hn:=h.nd;show((s.ag.take k).map (·.id)).contains _=false;rw[List.contains_eq_any_beq,List.any_eq_false];intro x F;obtain⟨f,hf,rfl⟩:=List.mem_map.1 F;obtain⟨i,hi,rfl⟩:=lD hf;rw[bS] at hi;rw[getElem_take];have h1:=xy.1 hn i k (by simp;omega) (by simp;omega) (by omega);rw[getElem_map,getElem_map] at h1
 simpa using fun e=>h1 e.symm
theorem aeQ(h:jY s)(a b c:Nat)(G:k<(bA s.aB).length):(rS s a b c k).aB.contains (bA s.aB)[k]=false:=by
 have hn:(bA s.aB).Nodup:=(tG s.aB).nodup_iff.2 h.gd;show((bA s.aB).take k).contains _=false;rw[List.contains_eq_any_beq,List.any_eq_false];intro x F;obtain⟨i,hi,rfl⟩:=lD F;rw[bS] at hi;rw[getElem_take];have h1:=xy.1 hn i k (by omega) G (by omega)
 simpa using fun e=>h1 e.symm
theorem Q0(h:jY s):pS (kP s)=({s with aB:=bA s.aB},⟨[],false⟩):=by
 have akb:=h.fn;have Q1:=h.sn;have Kv:=h.qn;have ar2:=h.gn;have dm:(bA s.aB).length=s.aB.length:=tH _;rw[MC];obtain⟨R4,aeR⟩:=ai ((bA s.aB).flatMap iD++ []);obtain⟨R3,aeS⟩:=ai ([b8 (s.aB.length:Int)]++R4);obtain⟨R2,vz⟩:=ai ([b8 (s.ag.length:Int)]++(s.ag.flatMap fB++R3));obtain⟨R1,ye⟩:=ai ([b8 (s.queue.length:Int)]++(s.queue.flatMap d_++R2));obtain⟨R0,aeT⟩:=ai ([b8 (s.al.length:Int)]++(s.al.flatMap dF++R1));rw[aeR,aeS,vz,ye,aeT];have e0:I_ ((b9 s.gF).1++(aY (bz s.cI) 8++(aY (bz s.ends) 8++([b8 (if s.ej then 1 else 0)]++R0))))=(rS s 0 0 0 0,⟨R0,false⟩):=by
  have g0:=h.e0;have g1:=h.e1;have g2:=h.d0;have g3:=h.d1;have b0:I9 s.cI s.ends=false:=by
   unfold I9;rw[dN (by omega),dN (by omega),dN (by omega),dN (by omega)]
   rfl
  have k4:aN 1 ⟨[b8 (if s.ej then 1 else 0)]++R0,false⟩=((if s.ej then 1 else 0),⟨R0,false⟩):=by
   cases s.ej
   ·exact uD 0 (by decide) R0
   exact uD 1 (by decide) R0
  unfold I_;simp only[aeN _ _ h.cn h.cl,Bg 8 (by decide) s.cI g0 (by omega) g1,Bg 8 (by decide) s.ends g2 (by omega) g3,k4];rw[b0,aeG]
  rfl
 have e1:mj pq (rS s 0 0 0 0,⟨R0,false⟩)=(rS s s.al.length 0 0 0,⟨R1,false⟩):=by
  have:=QZ (f:=pq) (fun k=>(rS s k 0 0 0,⟨(s.al.drop k).flatMap dF++R1,false⟩)) s.al.length (by omega) (rS s 0 0 0 0) (s.al.flatMap dF++R1) rfl (fun k G=>by
   rw[Ed dF s.al k G R1];unfold pq;simp only[arY (h.sb _ (getElem_mem G)),ar0 h G]
   rfl)
  rw[aeT] at this;rw[this,Ee dF s.al _ bj]
 have e2:mj pw (rS s s.al.length 0 0 0,⟨R1,false⟩)=(rS s s.al.length s.queue.length 0 0,⟨R2,false⟩):=by
  have:=QZ (f:=pw) (fun k=>(rS s s.al.length k 0 0,⟨(s.queue.drop k).flatMap d_++R2,false⟩)) s.queue.length (by omega) (rS s s.al.length 0 0 0) (s.queue.flatMap d_++R2) rfl (fun k G=>by
   have F:=h.qk _ (getElem_mem G);have h8:(rS s s.al.length k 0 0).queue.length<8:=by have:=(aeF s s.al.length k 0 0).2.1;omega
   have hp:kk (rS s s.al.length k 0 0) s.queue[k]=(rS s s.al.length (k+1) 0 0,true):=by
    unfold kk;rw[if_pos h8,aeD s s.al.length G]
   rw[Ed d_ s.queue k G R2];unfold pw;have hi:=aeO F.1 F.2 ((s.queue.drop (k+1)).flatMap d_++R2);have fV:itemS ⟨d_ s.queue[k]++((s.queue.drop (k+1)).flatMap d_++R2),false⟩=_:=hi;simp only[fV,hp]
   rfl)
  rw[ye] at this;rw[this,Ee d_ s.queue _ bj]
 have e3:mj qd (rS s s.al.length s.queue.length 0 0,⟨R2,false⟩)=(rS s s.al.length s.queue.length s.ag.length 0,⟨R3,false⟩):=by
  have:=QZ (f:=qd) (fun k=>(rS s s.al.length s.queue.length k 0,⟨(s.ag.drop k).flatMap fB++R3,false⟩)) s.ag.length (by omega) (rS s s.al.length s.queue.length 0 0) (s.ag.flatMap fB++R3) rfl (fun k G=>by
   have F:=h.fk _ (getElem_mem G);have hr:=h.fr _ (getElem_mem G);have hp:nX (rS s s.al.length s.queue.length k 0).bJ s.ag[k].id=((rS s s.al.length s.queue.length k 0).bJ++ [s.ag[k].id],true):=by
    unfold nX;rw[if_pos ⟨hr.1,by omega,ar1 h _ _ G⟩]
   rw[Ed fB s.ag k G R3];unfold qd;simp only[arZ F hr.1 hr.2,hp];unfold rS;simp only[kF G,nv,List.map_cons,List.map_nil]
   rfl)
  rw[vz] at this;rw[this,Ee fB s.ag _ bj]
 have e4:mj ue (rS s s.al.length s.queue.length s.ag.length 0,⟨R3,false⟩)=(rS s s.al.length s.queue.length s.ag.length s.aB.length,⟨[],false⟩):=by
  have:=QZ (f:=ue) (fun k=>(rS s s.al.length s.queue.length s.ag.length k,⟨((bA s.aB).drop k).flatMap iD++ [],false⟩)) s.aB.length (by omega) (rS s s.al.length s.queue.length s.ag.length 0) ((bA s.aB).flatMap iD++ []) rfl (fun k G=>by
   have eB:k<(bA s.aB).length:=by omega
   have hr:=h.gr _ ((tG s.aB).mem_iff.1 (getElem_mem eB));have h8:(rS s s.al.length s.queue.length s.ag.length k).aB.length<8:=by have:=(aeF s s.al.length s.queue.length s.ag.length k).2.2.2.2;omega
   have hp:pU (rS s s.al.length s.queue.length s.ag.length k) (bA s.aB)[k]=(rS s s.al.length s.queue.length s.ag.length (k+1),false,true):=by
    unfold pU;rw[aeQ h _ _ _ eB,if_neg (by decide),if_pos ⟨h8,hr⟩,aeE s _ _ _ eB]
   have hn:=Bg 2 (by decide) (bA s.aB)[k] (by omega) (by omega) (by omega) (((bA s.aB).drop (k+1)).flatMap iD++ []);have k_:aN 2 ⟨iD (bA s.aB)[k]++(((bA s.aB).drop (k+1)).flatMap iD++ []),false⟩=_:=hn;rw[Ed iD (bA s.aB) k eB []];unfold ue;simp only[k_,hp]
   rfl)
  rw[aeR,aeS] at this;rw[this,Ee iD (bA s.aB) _ (by omega)]
 unfold pS;rw[e0,e1,e2,e3,e4]
 congr 1
 unfold rS;rw[take_length,take_length,take_length,gy (by omega),←h.eq]
theorem aeU{b:List UInt8}(h:rdZ b=some s):jY s∧bA s.aB=s.aB∧kP s=b:=by
 unfold rdZ at h
 split at h
 ·rename_i hh
  cases h;exact hh.choose_spec
 cases h
theorem aeV(h:jY s)(A:bA s.aB=s.aB):rdZ (kP s)=some s:=by
 have hh:∃t,jY t∧bA t.aB=t.aB∧kP t=kP s:=⟨s,h,A,rfl⟩
 unfold rdZ;rw[dif_pos hh];obtain⟨h1,h2,h3⟩:=hh.choose_spec;have h4:=Q0 h1;rw[h3,Q0 h,A,h2] at h4;exact congrArg some (Prod.mk.inj h4).1.symm
theorem ar3{b:List UInt8}(h:∀s,jY s→kP s≠b):rdZ b=none:=by
 unfold rdZ;rw[dif_neg];rintro⟨s,h1,_,h3⟩;exact h s h1 h3
theorem ar4{b:List UInt8}{c:Cu}(h:pS b=(s,c))(U:c.bad=false)(hy:kP s=b):rdZ b=some s:=by
 have h1:=aeM h U;have h2:=Q0 h1;rw[hy,h] at h2;rw[←hy];exact aeV h1 (congrArg az.aB (Prod.mk.inj h2).1).symm
theorem V2{b:List UInt8}{c:Cu}(h:pS b=(s,c))(hn:¬(c.bad=false∧c.b= []∧kP s=b)):rdZ b=none:=
 ar3 fun t ht e=>hn (by
  have h1:=Q0 ht;rw[e,h] at h1;simp only[Prod.mk.injEq] at h1;obtain⟨rfl,rfl⟩:=h1;exact⟨rfl,rfl,by rw[aeB];exact e⟩)
theorem ar5(h:jY s):(kP s).length≤140000000:=by
 have h1:=yD dF 80 s.al fun x F=>by
  have k1:=qC (l:=x.filter) (h.sb x F).b.f;have k2:=(h.sb x F).l2;exact Vz
 have h2:=yD d_ 65537 s.queue fun x F=>by
  have k1:=uE (h.qk x F).2;have k2:=(h.qk x F).2;unfold d_
  omega
 have h3:=yD fB 65540 s.ag fun x F=>by
  have k1:=uE (h.fk x F).1.2;have k2:=(h.fk x F).1.2;exact Vy
 exact aeJ
theorem aeW(S:Nat)(s:az)(W:jY s)(w:World)(M:Nat→Prop)(h:SR w M S s)(hT:dy w)(aw0:List UInt8)(hY:kP s=aw0)(R:ak)
 (I:∀Y c w',w'.ownsRow w 5 1 (.slice Y aw0.length c) aw0.length (bv aw0)→Below w w w'→R (.returned (.slice Y aw0.length c)) w'):
 Calls prog 14 #[zq S] w R:=by
 have hit:∀x:Im,gh x∧(db x).length≤65535→(eG x.note).length≤65535∧(db x).length≤65535∧(x.note.props.flatMap bR).length≤65535∧x.ids.length≤255:=fun x F=>⟨F.1.nl,F.2,F.1.pl,by have:=F.1.ni;omega⟩
 have n1:=W.sn;have n2:=W.qn;have n3:=W.fn;have n4:=W.gn;have n5:=W.cn;exact aln S s (by omega) (fun x F=>(W.sb x F).b) (fun x F=>hit x (W.qk x F)) (fun f hf=>hit f.item (W.fk f hf).1) ⟨by omega,by omega,by omega,by omega⟩ w M h hT aw0 hY (by rw[←hY];exact ar5 W) R I
open List (pairwise_append pairwise_iff_getElem)
variable{i m m0 n:Nat}
theorem ae6{l:List UInt8}(h:l.length≤65535)(t:List UInt8):hO ⟨(dn l).1++t,false⟩=(l,⟨t,false⟩):=by
 have e:(dn l).1=aY l.length 2++l:=by
  unfold dn;rw[if_neg (by omega)]
 have hd:(aY l.length 2++l).length=(((l.length:Int)+2).toNat):=by
  rw[aK,fQ]
  omega
 have W:takeC (((l.length:Int)+2).toNat) ⟨aY l.length 2++l++t,false⟩=(aY l.length 2++l,⟨t,false⟩):=by
  rw[←hd];unfold takeC;rw[if_neg (by rw[Bool.false_or,decide_eq_true_eq,aK];omega),List.take_left,drop_left]
 refine Q2 ?_ rfl;unfold m6;simp only[e,Hj l t h];exact congrArg (fun q=>(l,q.2)) W
theorem ae7{l:List UInt8}(h:l.length≤65535)(ht:eg l=true)(t:List UInt8):hO ⟨(b9 l).1++t,false⟩=(l,⟨t,false⟩):=by
 unfold b9;rw[if_pos ht];exact ae6 h t
theorem ae8{s S:Cu}{T:List UInt8}(h:hO s=(T,S))(U:S.bad=false):s.bad=false:=by
 cases J:s.bad with
 |false=>rfl
 |true=>
  have:=ae5 J;rw[h] at this;rw[this] at U;cases U
def Ef(s:Cu):Sb×Cu:=
 let r1:=hO s
 let r2:=aN 1 r1.2
 let r3:=aN 4 r2.2
 (⟨r1.1,bits .and .i64 r2.1 3,bits .and .i64 r2.1 4 != 0,bits .and .i64 r2.1 8 != 0,r2.1 / 16,r3.1⟩,r3.2)
noncomputable def itemR (s:Cu):Im×Cu:=((rdI (hO s).1).1,⟨(hO s).2.b,(hO s).2.bad || (rdI (hO s).1).2 != 0⟩)
noncomputable def flR (s:Cu):Fl×Cu:=
 let r1:=aN 2 s
 let r2:=aN 1 r1.2
 let r3:=itemR r2.2
 (⟨r1.1,r2.1,r3.1⟩,r3.2)
theorem asm{x:Sb}(F:tN x)(t:List UInt8):Ef ⟨dF x++t,false⟩=(x,⟨t,false⟩):=by
 obtain⟨m,hm,fh,lP,tv,tE,yB⟩:=abp x.ah x.eX x.kn x.kq F.b.q0 F.b.q1 F.b.h0 F.b.h1;have e:dF x++t=(b9 x.filter).1++([b8 (m:Int)]++(aY (bz x.id) 4++t)):=by
  unfold dF;rw[hm];simp only[kT]
 have h0:=F.i0;have h1:=F.i1;rw[e];unfold Ef;simp only[ae7 F.b.f F.t,uD m fh,Bg 4 (by decide) x.id h0 (by omega) (by omega),lP,tv,tE,yB]
theorem ae9(F:gh x)(hl:(db x).length≤65535)(t:List UInt8):itemR ⟨(dn (db x)).1++t,false⟩=(x,⟨t,false⟩):=by
 unfold itemR;simp only[ae6 hl,QE F]
 rfl
theorem asn(F:(gh f.item∧(db f.item).length≤65535)∧A0 f.state f.item)(h1:1≤f.id)(h8:f.id≤8)(t:List UInt8):flR ⟨fB f++t,false⟩=(f,⟨t,false⟩):=by
 obtain⟨⟨G,hl⟩,hf⟩:=F;have cB:∃m:Nat,f.state=(m:Int)∧m<256:=by
  exact aeI
 obtain⟨m,hm,fh⟩:=cB;have e:fB f++t=aY (bz f.id) 2++([b8 (m:Int)]++((dn (db f.item)).1++t)):=by
  unfold fB;rw[hm];simp only[kT]
 rw[e];unfold flR;simp only[Bg 2 (by decide) f.id (by omega) (by omega) (by omega),uD m fh,ae9 G hl];rw[←hm]
def aso(t:az):List UInt8:=(bA t.aB).flatMap iD++ []
def V6(t:az):List UInt8:= [b8 (t.aB.length:Int)]++aso t
def MF(t:az):List UInt8:= [b8 (t.ag.length:Int)]++(t.ag.flatMap fB++V6 t)
def V7(t:az):List UInt8:= [b8 (t.queue.length:Int)]++(t.queue.flatMap d_++MF t)
def I'(t:az):List UInt8:= [b8 (t.al.length:Int)]++(t.al.flatMap dF++V7 t)
def Tg(b:List UInt8)(P:az→Prop):Prop:=∀t,jY t→bA t.aB=t.aB→kP t=b→P t
theorem asp{b cl:List UInt8}{ex en on:Int}{c1 c2 c3 c4:Cu}(k1:hO ⟨b,false⟩=(cl,c1))(k2:aN 8 c1=(ex,c2))(k3:aN 8 c2=(en,c3))(k4:aN 1 c3=(on,c4)):Tg b fun t=>({cZ cl with cI:=ex,ends:=en,ej:=on==1}:az)=rS t 0 0 0 0∧c4=⟨I' t,false⟩:=by
 intro t h _ U;rw[MC] at U;have e0: [b8 (t.al.length:Int)]++(t.al.flatMap dF++([b8 (t.queue.length:Int)]++(t.queue.flatMap d_++([b8 (t.ag.length:Int)]++(t.ag.flatMap fB++([b8 (t.aB.length:Int)]++((bA t.aB).flatMap iD++ [])))))))=I' t:=rfl;rw[e0] at U;have g0:=h.e0;have g1:=h.e1;have g2:=h.d0;have g3:=h.d1;have q4:aN 1 ⟨[b8 (if t.ej then 1 else 0)]++I' t,false⟩=((if t.ej then 1 else 0),⟨I' t,false⟩):=by
  cases t.ej
  ·exact uD 0 (by decide) _
  exact uD 1 (by decide) _
 rw[←U,ae7 h.cn h.cl] at k1;cases k1;rw[Bg 8 (by decide) t.cI g0 (by omega) g1] at k2;cases k2;rw[Bg 8 (by decide) t.ends g2 (by omega) g3] at k3;cases k3;rw[q4] at k4;cases k4;refine⟨?_,rfl⟩;rw[aeG]
 rfl
def T1(b:List UInt8)(m k:Nat)(s:az)(c:Cu):Prop:=Tg b fun t=>m=t.al.length∧s=rS t k 0 0 0∧c=⟨(t.al.drop k).flatMap dF++V7 t,false⟩
def T2(b:List UInt8)(m k:Nat)(s:az)(c:Cu):Prop:=Tg b fun t=>m=t.queue.length∧s=rS t t.al.length k 0 0∧c=⟨(t.queue.drop k).flatMap d_++MF t,false⟩
def T3(b:List UInt8)(m k:Nat)(s:az)(c:Cu):Prop:=Tg b fun t=>m=t.ag.length∧s=rS t t.al.length t.queue.length k 0∧c=⟨(t.ag.drop k).flatMap fB++V6 t,false⟩
def T4(b:List UInt8)(m k:Nat)(s:az)(c:Cu):Prop:=Tg b fun t=>m=t.aB.length∧s=rS t t.al.length t.queue.length t.ag.length k∧c=⟨((bA t.aB).drop k).flatMap iD++ [],false⟩
def T5(b:List UInt8)(s:az)(c:Cu):Prop:=Tg b fun t=>s=t∧c=⟨[],false⟩
def gS(l:List Sb)(f:List UInt8):Bool:=match l.getLast? with
 |some y=> !decide (Lib.compareBytes y.filter f<0)
 |none=>false
theorem asq{l:List Sb}{f:List UInt8}(h:∀y∈l,Lib.compareBytes y.filter f<0):gS l f=false:=by
 unfold gS
 split
 ·rename_i y hy
  rw[eN (h y (List.mem_of_getLast? hy))]
  rfl
 rfl
theorem Q3{P:Prop}(h:P:=by
 rw[uD _ (by omega)] at hn;simp only[Prod.mk.injEq] at hn;exact⟨by omega,e1,hn.2.symm⟩):P:=h
theorem asr{b:List UInt8}{c c':Cu}(h:Tg b fun t=>s=rS t 0 0 0 0∧c=⟨I' t,false⟩)(hn:aN 1 c=((m:Int),c')):T1 b m 0 s c':=fun t h1 h2 h3=>by
 obtain⟨e1,e2⟩:=h t h1 h2 h3;have:=h1.sn;rw[e2] at hn;unfold I' at hn;exact Q3
theorem ass{b:List UInt8}{c c':Cu}{x:Sb}(h:T1 b m k s c)(G:k<m)(F:Ef c=(x,c')):T1 b m (k+1) {s with al:=s.al++ [x]} ⟨c'.b,c'.bad || gS s.al x.filter⟩:=fun t h1 h2 h3=>by
 obtain⟨rfl,e1,e2⟩:=h t h1 h2 h3;rw[e2,Ed dF t.al k G,asm (h1.sb _ (getElem_mem G))] at F;cases F;refine⟨rfl,?_,?_⟩
 ·rw[e1];unfold rS;simp only[kF G]
 have:gS s.al (t.al[k]).filter=false:=by
  rw[e1];exact asq (aeC h1.ss G)
 rw[this]
 rfl
theorem ast{b:List UInt8}{c c':Cu}(h:T1 b m0 k s c)(G:k=m0∨c.bad=true)(hn:aN 1 c=((m:Int),c')):T2 b m 0 s c':=fun t h1 h2 h3=>by
 obtain⟨rfl,e1,e2⟩:=h t h1 h2 h3;have:=h1.qn;rcases G with rfl|U
 ·rw[e2,Ee dF t.al _ bj] at hn;unfold V7 at hn;exact Q3
 rw[e2] at U;cases U
theorem asu{b:List UInt8}{c c':Cu}(h:T2 b m k s c)(G:k<m)(F:itemR c=(x,c')):T2 b m (k+1) {s with queue:=s.queue++ [x]} c':=fun t h1 h2 h3=>by
 obtain⟨rfl,e1,e2⟩:=h t h1 h2 h3;have hq:=h1.qk _ (getElem_mem G);have hi:=ae9 hq.1 hq.2 ((t.queue.drop (k+1)).flatMap d_++MF t);have fV:itemR ⟨d_ t.queue[k]++((t.queue.drop (k+1)).flatMap d_++MF t),false⟩=_:=hi;rw[e2,Ed d_ t.queue k G,fV] at F;cases F;refine⟨rfl,?_,rfl⟩;rw[e1];exact aeD t _ G
theorem asv{b:List UInt8}{c c':Cu}(h:T2 b m0 k s c)(G:k=m0∨c.bad=true)(hn:aN 1 c=((m:Int),c')):T3 b m 0 s c':=fun t h1 h2 h3=>by
 obtain⟨rfl,e1,e2⟩:=h t h1 h2 h3;have:=h1.fn;rcases G with rfl|U
 ·rw[e2,Ee d_ t.queue _ bj] at hn;unfold MF at hn;exact Q3
 rw[e2] at U;cases U
theorem asw{b:List UInt8}{c c':Cu}(h:T3 b m k s c)(G:k<m)(F:flR c=(f,c')):T3 b m (k+1) {s with ag:=s.ag++ [f],bJ:=s.bJ++ [f.id]} c':=fun t h1 h2 h3=>by
 obtain⟨rfl,e1,e2⟩:=h t h1 h2 h3;have hr:=h1.fr _ (getElem_mem G);rw[e2,Ed fB t.ag k G,asn (h1.fk _ (getElem_mem G)) hr.1 hr.2] at F;cases F;refine⟨rfl,?_,rfl⟩;rw[e1];unfold rS;simp only[kF G,nv,List.map_cons,List.map_nil]
theorem asx{b:List UInt8}{c c':Cu}(h:T3 b m0 k s c)(G:k=m0∨c.bad=true)(hn:aN 1 c=((m:Int),c')):T4 b m 0 s c':=fun t h1 h2 h3=>by
 obtain⟨rfl,e1,e2⟩:=h t h1 h2 h3;have:=h1.gn;rcases G with rfl|U
 ·rw[e2,Ee fB t.ag _ bj] at hn;unfold V6 at hn;exact Q3
 rw[e2] at U;cases U
theorem asy{b:List UInt8}{c c':Cu}{x:Int}{l:List Int}(h:T4 b m k s c)(G:k<m)(F:aN 2 c=(x,c'))(hh:nX s.aB x=(l,ok)):T4 b m (k+1) {s with aB:=l} ⟨c'.b,!ok⟩:=fun t h1 h2 h3=>by
 obtain⟨rfl,e1,e2⟩:=h t h1 h2 h3;have eB:k<(bA t.aB).length:=by rw[tH];exact G
 have hr:=h1.gr _ ((tG t.aB).mem_iff.1 (getElem_mem eB));have hn:=Bg 2 (by decide) (bA t.aB)[k] (by omega) (by omega) (by omega) (((bA t.aB).drop (k+1)).flatMap iD++ []);have k_:aN 2 ⟨iD (bA t.aB)[k]++(((bA t.aB).drop (k+1)).flatMap iD++ []),false⟩=_:=hn;rw[e2,Ed iD (bA t.aB) k eB,k_] at F;cases F;have A:nX s.aB (bA t.aB)[k]=(s.aB++ [(bA t.aB)[k]],true):=by
  unfold nX;rw[if_pos ⟨hr.1,hr.2,by rw[e1];exact aeQ h1 _ _ _ eB⟩]
 rw[A] at hh;cases hh;refine⟨rfl,?_,rfl⟩;rw[e1,aeE t _ _ _ eB]
theorem asz{b:List UInt8}{c:Cu}(h:T4 b m0 k s c)(G:k=m0∨c.bad=true):T5 b s c:=fun t h1 h2 h3=>by
 obtain⟨rfl,e1,e2⟩:=h t h1 h2 h3;rcases G with rfl|U
 ·rw[Ee iD (bA t.aB) _ (by rw[tH];exact Nat.le_refl _)] at e2;refine⟨?_,e2⟩;rw[e1];unfold rS;rw[take_length,take_length,take_length,gy (by rw[tH];exact Nat.le_refl _),←h1.eq,h2]
 rw[e2] at U;cases U
def Bh(l:List Fl)(i:Nat)(f:Fl):Prop:=1≤f.id∧f.id≤8∧dE (fun g:Fl=>g.id==f.id) l=(i:Int)∧A0 f.state f.item
def MG(s:az):Prop:=s.al.length≤8∧s.queue.length≤8∧s.ag.length≤8∧s.aB.length≤8∧∀i (h:i<s.ag.length),Bh s.ag i s.ag[i]
structure jD(s:az)(c:Cu):Prop where
 cn:s.gF.length≤65535
 sn:s.al.length≤255
 sb:∀x∈s.al,Q4 x
 ss:c.bad=false→j7 s.al
 qn:s.queue.length≤255
 qk:c.bad=false→∀x∈s.queue,gh x∧(db x).length≤65535
 fn:s.ag.length≤255
 fk:c.bad=false→∀f∈s.ag,gh f.item∧(db f.item).length≤65535
 gn:s.aB.length≤255
 eq:s.bJ=s.ag.map (·.id)
 gr:∀n∈s.aB,1≤n∧n≤65535
 gd:s.aB.Nodup
theorem jD.lay{c:Cu}(h:jD s c)(U:c.bad=false):Q5 s:=⟨h.cn,h.sn,h.sb,h.qn,h.qk U,h.fn,h.fk U,h.gn⟩
theorem jD.more{c c':Cu}(h:jD s c)(U:c'.bad=false→c.bad=false):jD s c':=⟨h.cn,h.sn,h.sb,fun e=>h.ss (U e),h.qn,fun e=>h.qk (U e),h.fn,fun e=>h.fk (U e),h.gn,h.eq,h.gr,h.gd⟩
theorem jD.num{c c':Cu}{x:Int}(h:jD s c)(hn:aN n c=(x,c')):jD s c':=h.more fun e=>p_ hn e
theorem jD.start{cl:List UInt8}(h:cl.length≤65535)(x y:Int)(o:Bool)(c:Cu):jD {cZ cl with cI:=x,ends:=y,ej:=o} c:=
 ⟨h,by simp[cZ],fun x F=>by simp[cZ] at F,fun _=> .nil,by simp[cZ],fun _ x F=>by simp[cZ] at F,by simp[cZ],fun _ x F=>by simp[cZ] at F,by simp[cZ],rfl,fun x F=>by simp[cZ] at F,.nil⟩
theorem asA{c c':Cu}{x:Sb}(h:Ef c=(x,c')):Q4 x∧(c'.bad=false→c.bad=false):=by
 obtain⟨awX,s1,k1⟩:∃T s',hO c=(T,s'):=⟨_,_,rfl⟩
 obtain⟨o,s2,k2⟩:∃T s',aN 1 s1=(T,s'):=⟨_,_,rfl⟩
 obtain⟨ID,s3,k3⟩:∃T s',aN 4 s2=(T,s'):=⟨_,_,rfl⟩
 unfold Ef at h;simp only[k1,k2,k3,Prod.mk.injEq] at h;obtain⟨rfl,rfl⟩:=h;obtain⟨m,rfl,hm⟩:=kS (by decide) k2;obtain⟨i,rfl,hi⟩:=kS (by decide) k3;have hq:=Gp m hm;have h4:(256:Nat) ^ 4=4294967296:=by decide
 have h1:(256:Nat) ^ 1=256:=by decide
 exact⟨⟨(uf k1).1,hq.1,hq.2,by show(0:Int)≤(m:Int) / 16;omega,by show(m:Int) / 16≤(15:Int);omega,by show(0:Int)≤(i:Int);omega,by show(i:Int)<4294967296;omega⟩,fun U=>ae8 k1 (p_ k2 (p_ k3 U))⟩
theorem asB{l:List Sb}{x:Sb}(h:j7 l)(A:gS l x.filter=false):j7 (l++ [x]):=by
 unfold j7 at h⊢;rw[pairwise_append];refine⟨h,List.pairwise_singleton _ _,fun y hy z hz=> ?_⟩;obtain rfl:=dM.1 hz;unfold gS at A;rcases List.eq_nil_or_concat l with rfl|⟨l',a,rfl⟩
 ·exact(qT hy).elim
 rw[List.concat_eq_append] at A h hy;rw[List.getLast?_concat] at A;simp only[Bool.not_eq_false',decide_eq_true_eq] at A;rcases ez.1 hy with hy|hy
 ·exact compareBytes_trans _ _ _ ((List.pairwise_append.1 h).2.2 y hy a (dM.2 rfl)) A
 obtain rfl:=dM.1 hy;exact A
theorem jD.sub{c c':Cu}{x:Sb}(h:jD s c)(F:Ef c=(x,c'))(hl:s.al.length<255):jD {s with al:=s.al++ [x]} ⟨c'.b,c'.bad || gS s.al x.filter⟩:=by
 obtain⟨A,U⟩:=asA F;refine⟨h.cn,by simp only[aK,ey,gi];omega,fun y hy=> ?_,fun e=> ?_,h.qn,fun e=> ?_,h.fn,fun e=> ?_,h.gn,h.eq,h.gr,h.gd⟩
 ·rcases ez.1 hy with hy|hy
  ·exact h.sb y hy
  ·obtain rfl:=dM.1 hy;exact A
 all_goals simp only[or_eq_false_iff] at e
 ·exact asB (h.ss (U e.1)) e.2
 ·exact h.qk (U e.1)
 exact h.fk (U e.1)
theorem V8{c c':Cu}(h:itemR c=(x,c')):fX x∧(c'.bad=false→c.bad=false∧gh x∧(db x).length≤65535):=by
 obtain⟨aw2,s1,k1⟩:∃T s',hO c=(T,s'):=⟨_,_,rfl⟩
 obtain⟨y,e,hI⟩:∃y e,rdI aw2=(y,e):=⟨_,_,rfl⟩
 unfold itemR at h;simp only[k1,hI,Prod.mk.injEq] at h;obtain⟨rfl,rfl⟩:=h;refine⟨aew hI,fun U=> ?_⟩;simp only[or_eq_false_iff,bne_eq_false_iff_eq] at U;obtain⟨h1,rfl⟩:=U;rcases Vq hI with⟨_,h2,h3⟩|⟨h2,_⟩
 ·exact⟨ae8 k1 h1,h2,by rw[h3];exact(uf k1).1⟩
 cases h2
theorem jD.push{c c':Cu}(h:jD s c)(F:itemR c=(x,c'))(hl:s.queue.length<255):jD {s with queue:=s.queue++ [x]} c':=by
 obtain⟨_,U⟩:=V8 F;refine⟨h.cn,h.sn,h.sb,fun e=>h.ss (U e).1,by simp only[aK,ey,gi];omega,fun e y hy=> ?_,h.fn,fun e=>h.fk (U e).1,h.gn,h.eq,h.gr,h.gd⟩;rcases ez.1 hy with hy|hy
 ·exact h.qk (U e).1 y hy
 obtain rfl:=dM.1 hy;exact(U e).2
theorem afa{c c':Cu}(h:flR c=(f,c')):(fX f.item∧(0≤f.id∧f.id<65536)∧0≤f.state∧f.state<256)∧(c'.bad=false→c.bad=false∧gh f.item∧(db f.item).length≤65535):=by
 obtain⟨id,s1,k1⟩:∃T s',aN 2 c=(T,s'):=⟨_,_,rfl⟩
 obtain⟨state,s2,k2⟩:∃T s',aN 1 s1=(T,s'):=⟨_,_,rfl⟩
 obtain⟨x,s3,k3⟩:∃T s',itemR s2=(T,s'):=⟨_,_,rfl⟩
 unfold flR at h;simp only[k1,k2,k3,Prod.mk.injEq] at h;obtain⟨rfl,rfl⟩:=h;obtain⟨h1,h2⟩:=V8 k3;obtain⟨m,rfl,hm⟩:=kS (by decide) k1;obtain⟨i,rfl,hi⟩:=kS (by decide) k2;have h4:(256:Nat) ^ 2=65536:=by decide
 have h5:(256:Nat) ^ 1=256:=by decide
 exact⟨⟨h1,⟨by show(0:Int)≤(m:Int);omega,by show(m:Int)<65536;omega⟩,by show(0:Int)≤(i:Int);omega,by show(i:Int)<256;omega⟩,fun U=>⟨p_ k1 (p_ k2 (h2 U).1),(h2 U).2⟩⟩
theorem jD.mP{c c':Cu}(h:jD s c)(F:flR c=(f,c'))(hl:s.ag.length<255):jD {s with ag:=s.ag++ [f],bJ:=s.bJ++ [f.id]} c':=by
 obtain⟨_,U⟩:=afa F;refine⟨h.cn,h.sn,h.sb,fun e=>h.ss (U e).1,h.qn,fun e=>h.qk (U e).1,by simp only[aK,ey,gi];omega,fun e y hy=> ?_,h.gn,?_,h.gr,h.gd⟩
 ·rcases ez.1 hy with hy|hy
  ·exact h.fk (U e).1 y hy
  ·obtain rfl:=dM.1 hy;exact(U e).2
 simp only[h.eq,nv,List.map_cons,List.map_nil]
theorem jD.MA{c c':Cu}{x:Int}{l:List Int}(h:jD s c)(J:c.bad=false)(hh:nX s.aB x=(l,ok))(hl:s.aB.length<255):jD {s with aB:=l} ⟨c'.b,!ok⟩:=by
 have key:l.length≤255∧(∀n∈l,1≤n∧n≤65535)∧l.Nodup:=by
  unfold nX at hh
  split at hh<;>cases hh
  ·rename_i h3
   refine⟨by simp only[aK,ey,gi];omega,fun n hn=> ?_,?_⟩
   ·rcases ez.1 hn with hn|hn
    ·exact h.gr n hn
    ·obtain rfl:=dM.1 hn;exact⟨h3.1,h3.2.1⟩
   rw[nodup_append];refine⟨h.gd,by simp,fun a ha b U=> ?_⟩;obtain rfl:=dM.1 U;rintro rfl;have h4:=h3.2.2;rw[List.contains_iff_mem.2 ha] at h4;cases h4
  exact⟨h.gn,h.gr,h.gd⟩
 exact⟨h.cn,h.sn,h.sb,fun _=>h.ss J,h.qn,fun _=>h.qk J,h.fn,fun _=>h.fk J,key.1,h.eq,key.2.1,key.2.2⟩
theorem asC{l:List Fl}(h:∀i (h:i<l.length),Bh l i l[i]):(l.map (·.id)).Nodup:=by
 rw[List.Nodup,pairwise_iff_getElem];intro i j hi hj NC e;rw[j0] at hi hj;rw[getElem_map,getElem_map] at e;have h1:=(h i hi).2.2.1;have h2:=(h j hj).2.2.1;rw[e] at h1;rw[h1] at h2
 omega
theorem asD{l:List Fl}(h:(l.map (·.id)).Nodup)(hi:i<l.length):dE (fun g:Fl=>g.id==(l[i]).id) l=(i:Int):=by
 refine C7 hi (by simp) fun j hj=> ?_;have h1:=xy.1 h j i (by rw[j0];omega) (by rw[j0];omega) hj;rw[getElem_map,getElem_map] at h1
 simpa using h1
theorem asE{b:List UInt8}{c:Cu}(h:jD s c)(U:c.bad=false)(hf:Eg s)(J:MG s)(hy:kP s=b)(ht:T5 b s c):rdZ b=some s:=by
 obtain⟨f1,f2,f3,f4,f5,f6⟩:=hf;obtain⟨c1,c2,c3,c4,c5⟩:=J;have W:jY s:=⟨f1,h.cn,f2,f3,f4,f5,c1,f6,h.ss U,c2,h.qk U,fun f hf=>by
  obtain⟨i,hi,rfl⟩:=lD hf;exact⟨h.fk U _ (getElem_mem hi),(c5 i hi).2.2.2⟩,fun f hf=>by
  obtain⟨i,hi,rfl⟩:=lD hf;exact⟨(c5 i hi).1,(c5 i hi).2.1⟩,asC c5,h.eq,c4,h.gr,h.gd⟩
 have bF:jY {s with aB:=bA s.aB}:=⟨W.cl,W.cn,W.e0,W.e1,W.d0,W.d1,W.sn,W.sb,W.ss,W.qn,W.qk,W.fk,W.fr,W.nd,W.eq,by
  show(bA s.aB).length≤8;rw[tH];exact W.gn,fun n hn=>W.gr n ((tG s.aB).mem_iff.1 hn),(tG s.aB).nodup_iff.2 W.gd⟩
 have bD:bA (bA s.aB)=bA s.aB:=Td (tG s.aB);have h5:=(ht _ bF bD (by rw[aeB];exact hy)).1;have h6:=aeV bF bD;rw[←h5,hy] at h6;exact h6
theorem Q6{b:List UInt8}{c:Cu}(ht:T5 b s c)(hn:¬(c.bad=false∧Eg s∧MG s∧kP s=b)):rdZ b=none:=by
 cases hr:rdZ b with
 |none=>rfl
 |some t=>
  exfalso
  obtain⟨h1,h2,h3⟩:=aeU hr;obtain⟨rfl,rfl⟩:=ht t h1 h2 h3;exact hn ⟨rfl,⟨h1.cl,h1.e0,h1.e1,h1.d0,h1.d1,h1.sb⟩,⟨h1.sn,h1.qn,h1.fn,h1.gn,fun i hi=>⟨(h1.fr _ (getElem_mem hi)).1,(h1.fr _ (getElem_mem hi)).2,asD h1.nd hi,(h1.fk _ (getElem_mem hi)).2⟩⟩,h3⟩
variable{l:List Pr}{p:Pr}
structure yp(p:Pr):Prop where
 v:∀t,eK p.id (gx p++t)=some (p,((gx p).length:Int))
 id:∃k:Nat,p.id=(k:Int)∧k<128
 may:ch p.id 3=true
 num:dU p=0
theorem acD(h:k<128):jR k= [b8 (k:Int)]:=by
 have key:∀k:Fin 128,jR k.val= [b8 (k.val:Int)]:=by decide+kernel
 exact key ⟨k,h⟩
theorem yp.step(h:yp p)(lI:zh p.id l=true→pE p.id 3=true)(t:List UInt8):rm 3 l (bR p++t)=(0,p,((bR p).length:Int)):=by
 obtain⟨k,G,eB⟩:=h.id;have hv:(eE p.id).1=jR k:=by rw[G,zg k (by omega)]
 have U:bR p++t=jR k++(gx p++t):=by rw[nB,hv,kT]
 have A:=NQ k (by omega) (gx p++t);have bk:(bR p).length=(jR k).length+(gx p).length:=by rw[nB,hv,aK]
 unfold rm;rw[U,A];simp only[drop_left,←G];rw[if_neg (by rw[h.may];simp),h.v t];simp only;rw[if_neg (by rintro⟨h1,h2⟩;rw[lI h1] at h2;cases h2),if_neg (by rw[h.num];simp),bk];simp
theorem yp.pos(h:yp p):1≤(bR p).length:=by
 obtain⟨k,G,eB⟩:=h.id;rw[nB,G,zg k (by omega),aK,acD eB];simp
theorem acE:∀(q l:List Pr)(f:Nat),q.length≤f→(∀p∈q,yp p)→(∀p∈q,zh p.id l=true→pE p.id 3=true)→q.Pairwise (fun a b=>a.id=b.id→pE b.id 3=true)→qp f 3 l (q.flatMap bR)=(l++q,0)
 |[],l,f,_,_,_,_=>by cases f<;>simp[qp]
 |p::q,l,0,hf,_,_,_=>by simp at hf
 |p::q,l,f+1,hf,hp,hl,hw=>by
  have h1:=hp p (mem_cons_self);have W:=h1.step (hl p mem_cons_self) (q.flatMap bR);have u_:=h1.pos;have yY:=List.pairwise_cons.1 hw;have e:(p::q).flatMap bR=bR p++q.flatMap bR:=lT;rw[e];unfold qp;rw[if_neg (fun h=>by have h2:=congrArg List.length h;rw[aK,gi] at h2;omega),W];simp only[ne_eq,not_true_eq_false,if_false,toNat_natCast,drop_left];rw[acE q (l++ [p]) f (by simpa using hf) (fun x F=>hp x (mem_cons_of_mem _ F)) (fun x F hh=> ?_) yY.2,kT]
  ·rfl
  unfold zh at hh;rw[List.any_append,Bool.or_eq_true] at hh;rcases hh with hh|hh
  ·exact hl x (mem_cons_of_mem _ F) hh
  have:p.id=x.id:=by simpa using hh
  exact yY.1 x F this
theorem acF(hp:∀p∈l,yp p)(hw:l.Pairwise (fun a b=>a.id=b.id→pE b.id 3=true))(hn:(l.flatMap bR).length<268435456):eO 3 l=(jR (l.flatMap bR).length++l.flatMap bR,0):=by
 obtain⟨B,hB⟩:=ai (l.flatMap bR);have fw:l.length≤B.length:=by
  rw[←hB];clear hn hw hB
  induction l with
  |nil=>simp
  |cons p l ih=>
   have h1:=(hp p mem_cons_self).pos;have h2:=ih (fun x F=>hp x (mem_cons_of_mem _ F));rw[lT,aK,ey]
   omega
 have hf:=acE l [] B.length fw hp (fun p _ h=>by simp[zh] at h) hw;rw[hB] at hn hf;have A:=NQ B.length hn B;have hr:lf 3 (jR B.length++B)=(l,((jR B.length++B).length:Int),0):=by
  unfold lf;rw[A];simp only[drop_left,take_length,aK];rw[if_neg (by omega),hf];simp
 unfold eO;rw[hB,zg B.length hn];simp only[ne_eq,not_true_eq_false,if_false];rw[if_pos hr]
theorem aoc(x:Nat):eC x 1= [b8 (x:Int)]:=by
 unfold eC;rw[if_neg (by decide)];show aY x 1=_;simp[aY]
theorem aod(n:Int):bits .and .i64 n 1=n % 2:=by
 have h7:(BitVec.ofInt 64 1).toNat=2 ^ 1 - 1:=by decide
 have key:(BitVec.ofInt 64 n&&&BitVec.ofInt 64 1).toNat=(n % ((2 ^ 64:Nat):Int)).toNat % 2 ^ 1:=by
  rw[BitVec.toNat_and,BitVec.toNat_ofInt,h7,Nat.and_two_pow_sub_one_eq_mod]
 show IntKind.i64.wrap ((BitVec.ofInt 64 n&&&BitVec.ofInt 64 1).toNat:Nat)=n % 2;rw[key,IntKind.wrap_i64]
 omega
theorem acG(n:Int):bits .and .i64 n 255=n % 256:=by
 have h7:(BitVec.ofInt 64 255).toNat=2 ^ 8 - 1:=by decide
 have key:(BitVec.ofInt 64 n&&&BitVec.ofInt 64 255).toNat=(n % ((2 ^ 64:Nat):Int)).toNat % 2 ^ 8:=by
  rw[BitVec.toNat_and,BitVec.toNat_ofInt,h7,Nat.and_two_pow_sub_one_eq_mod]
 show IntKind.i64.wrap ((BitVec.ofInt 64 n&&&BitVec.ofInt 64 255).toNat:Nat)=n % 256;rw[key,IntKind.wrap_i64]
 omega
theorem P9(n:Int):bits .and .i64 n 65535=n % 65536:=by
 have h7:(BitVec.ofInt 64 65535).toNat=2 ^ 16 - 1:=by decide
 have key:(BitVec.ofInt 64 n&&&BitVec.ofInt 64 65535).toNat=(n % ((2 ^ 64:Nat):Int)).toNat % 2 ^ 16:=by
  rw[BitVec.toNat_and,BitVec.toNat_ofInt,h7,Nat.and_two_pow_sub_one_eq_mod]
 show IntKind.i64.wrap ((BitVec.ofInt 64 n&&&BitVec.ofInt 64 65535).toNat:Nat)=n % 65536;rw[key,IntKind.wrap_i64]
 omega
theorem UI(n:Int):bits .and .i64 n 16777215=n % 16777216:=by
 have h7:(BitVec.ofInt 64 16777215).toNat=2 ^ 24 - 1:=by decide
 have key:(BitVec.ofInt 64 n&&&BitVec.ofInt 64 16777215).toNat=(n % ((2 ^ 64:Nat):Int)).toNat % 2 ^ 24:=by
  rw[BitVec.toNat_and,BitVec.toNat_ofInt,h7,Nat.and_two_pow_sub_one_eq_mod]
 show IntKind.i64.wrap ((BitVec.ofInt 64 n&&&BitVec.ofInt 64 16777215).toNat:Nat)=n % 16777216;rw[key,IntKind.wrap_i64]
 omega
theorem P_(l:List UInt8):eg (e_ l)=true:=P7 _ fun b U=>by
 unfold e_ at U;obtain⟨x,_,rfl⟩:=List.mem_map.1 U;exact UH ⟨x.toNat,x.toNat_lt⟩
theorem aoe(l:List UInt8):eg (vR++e_ l)=true:=P7 _ fun b U=>by
 rcases ez.1 U with U|U
 ·have key:∀b∈vR,b.toNat≠0∧b.toNat<128:=by decide
  exact key b U
 unfold e_ at U;obtain⟨x,_,rfl⟩:=List.mem_map.1 U;exact UH ⟨x.toNat,x.toNat_lt⟩
theorem aof(n:Int)(h0:0≤n)(h1:n≤1):yp ⟨1,n,[],[],[]⟩:=by
 obtain⟨m,rfl,hm⟩:∃m:Nat,n=(m:Int)∧m<2:=⟨n.toNat,by omega,by omega⟩
 have hu:u64 (m:Int)=m:=YF m (by omega);have e:gx ⟨1,(m:Int),[],[],[]⟩= [b8 (m:Int)]:=by
  show eC (u64 (m:Int)) 1=_;rw[hu,aoc]
 have A:cX [b8 (m:Int)]=m:=by
  have:=Hi 1 m (by decide) (by omega)
  rwa [show aY m 1= [b8 (m:Int)] by simp[aY]] at this
 refine⟨fun t=> ?_,⟨1,rfl,by decide⟩,by show ch 1 3=true;decide,?_⟩
 ·rw[e];show(if ([b8 (m:Int)]++t).length<1 then none else some ((⟨1,cX (([b8 (m:Int)]++t).take 1),[],[],[]⟩:Pr),(1:Int)))=_;rw[if_neg (by simp)];show some ((⟨1,((cX [b8 (m:Int)]:Nat):Int),[],[],[]⟩:Pr),(1:Int))=_;rw[A]
  rfl
 unfold dU;rw[if_neg (by rintro⟨_,h⟩;simp only at h;omega),if_neg (by simp),if_neg (by simp)]
theorem UJ{l:List UInt8}(h:eg l=true)(hl:l.length≤30):(b9 l).1=aY l.length 2++l:=by rw[Hk l (by omega) h]
theorem aog(l:List UInt8)(h:eg l=true)(hl:l.length≤30):yp ⟨3,0,l,[],[]⟩:=by
 have e:gx ⟨3,0,l,[],[]⟩=aY l.length 2++l:=UJ h hl;refine⟨fun t=> ?_,⟨3,rfl,by decide⟩,by show ch 3 3=true;decide,by show dU ⟨3,0,l,[],[]⟩=0;simp[dU,aS]⟩;rw[e];have A:=JO l t (by omega) h;show(if (dp (aY l.length 2++l++t)).2.2=0 then some ((⟨3,0,(dp (aY l.length 2++l++t)).1,[],[]⟩:Pr),(dp (aY l.length 2++l++t)).2.1) else none)=_;rw[A];simp only[if_true,aK,fQ]
 congr 2
 omega
theorem aoh(l:List UInt8)(hl:l.length≤30):yp ⟨9,0,[],[],l⟩:=by
 have e:gx ⟨9,0,[],[],l⟩=aY l.length 2++l:=by show(dn l).1=_;rw[NU l (by omega)]
 refine⟨fun t=> ?_,⟨9,rfl,by decide⟩,by show ch 9 3=true;decide,by show dU ⟨9,0,[],[],l⟩=0;simp[dU,aS]⟩;rw[e];have A:=Hj l t (by omega);show(if (eh (aY l.length 2++l++t)).2.2=0 then some ((⟨9,0,[],[],(eh (aY l.length 2++l++t)).1⟩:Pr),(eh (aY l.length 2++l++t)).2.1) else none)=_;rw[A];simp only[if_true,aK,fQ]
 congr 2
 omega
theorem aoi(l m:List UInt8)(h:eg l=true)(hl:l.length≤30)(h2:eg m=true)(hm:m.length≤30):yp ⟨38,0,l,m,[]⟩:=by
 have e:gx ⟨38,0,l,m,[]⟩=aY l.length 2++l++(aY m.length 2++m):=by
  show(b9 l).1++(b9 m).1=_;rw[UJ h hl,UJ h2 hm]
 refine⟨fun t=> ?_,⟨38,rfl,by decide⟩,by show ch 38 3=true;decide,by show dU ⟨38,0,l,m,[]⟩=0;simp[dU,aS]⟩;rw[e];have U:aY l.length 2++l++(aY m.length 2++m)++t=aY l.length 2++l++(aY m.length 2++m++t):=by simp only[kT]
 rw[U];have A:=JO l (aY m.length 2++m++t) (by omega) h;have bD:=JO m t (by omega) h2;have hd:(aY l.length 2++l++(aY m.length 2++m++t)).drop (l.length+2)=aY m.length 2++m++t:=by
  rw[List.drop_left' (by rw[aK,fQ];omega)]
 have hn:((l.length:Int)+2).toNat=l.length+2:=by omega
 unfold eK;rw[if_neg (show¬aS 38=1 by decide),if_neg (show¬aS 38=2 by decide),if_neg (show¬aS 38=3 by decide),if_neg (show¬aS 38=4 by decide),if_neg (show¬aS 38=5 by decide),if_neg (show¬aS 38=6 by decide),if_pos (show aS 38=7 by decide),A];simp only[hn,hd,bD,if_true,aK,fQ]
 congr 2
 omega
theorem UK(fm:Int)(co cr us:List UInt8):∀p∈mJ fm co cr us,yp p:=by
 intro p hp;unfold mJ at hp;rcases ez.1 hp with hp|hp
 ·rcases ez.1 hp with hp|hp
  ·rcases ez.1 hp with hp|hp
   ·split at hp
    ·obtain rfl:=dM.1 hp;have:=aod fm;exact aof _ (by omega) (by omega)
    ·cases hp
   ·split at hp
    ·obtain rfl:=dM.1 hp;exact aog _ (P_ co) (qN co)
    ·cases hp
  ·split at hp
   ·obtain rfl:=dM.1 hp;exact aoh _ (by rw[bS];omega)
   ·cases hp
 obtain⟨u,_,rfl⟩:=List.mem_map.1 hp;exact aoi _ _ (P_ [u]) (qN _) (P_ us) (qN us)
theorem acH(fm:Int)(co cr us:List UInt8):(mJ fm co cr us).Pairwise (fun a b=>a.id=b.id→pE b.id 3=true):=by
 have h38:pE 38 3=true:=by decide
 unfold mJ;rw[pairwise_append,pairwise_append,pairwise_append];refine⟨⟨⟨?_,?_,fun a ha b U=> ?_⟩,?_,fun a ha b U=> ?_⟩,?_,fun a ha b U=> ?_⟩
 ·split<;>simp
 ·split<;>simp
 ·split at ha<;>split at U<;>simp at ha U
  subst ha;subst U;simp
 ·split<;>simp
 ·split at U
  ·obtain rfl:=dM.1 U;rcases ez.1 ha with ha|ha
   ·split at ha<;>simp at ha
    subst ha;simp
   ·split at ha<;>simp at ha
    subst ha;simp
  ·cases U
 ·rw[List.pairwise_map];exact xy.2 fun i j hi hj NC _=>h38
 obtain⟨u,_,rfl⟩:=List.mem_map.1 U;exact fun _=>h38
theorem aoj(h:yp p)(h1:p.text.length≤30)(h2:p.pair.length≤30)(h3:p.data.length≤30)(G:aS p.id≠4):(bR p).length≤80:=by
 obtain⟨k,iS,eB⟩:=h.id;have t1:=qC (l:=p.text) (by omega);have t2:=qC (l:=p.pair) (by omega);have t3:=uE (l:=p.data) (by omega);have w1:(eC (u64 p.num) 1).length=1:=by simp[eC,fQ]
 have w2:(eC (u64 p.num) 2).length=2:=by simp[eC,fQ]
 have w4:(eC (u64 p.num) 4).length=4:=by simp[eC,fQ]
 rw[nB,iS,zg k (by omega),acD eB,aK,List.length_singleton];unfold gx;rw[if_neg G]
 (repeat' split)<;>(try simp only[aK,gi])<;>omega
theorem aok(fm:Int)(co cr us:List UInt8):(mJ fm co cr us).length≤7:=by
 unfold mJ;have:((us.take 4).map fun u=>(⟨38,0,e_ [u],e_ us,[]⟩:Pr)).length≤4:=by rw[j0,bS];omega
 simp only[aK]
 (repeat' split)<;>simp only[ey,gi]<;>omega
theorem aol(h:∀p∈l,(bR p).length≤n):(l.flatMap bR).length≤l.length*n:=by
 induction l with
 |nil=>simp
 |cons p l ih=>
  have h1:=h p mem_cons_self;have h2:=ih (fun x F=>h x (mem_cons_of_mem _ F));rw[lT,aK,ey,succ_mul]
  omega
theorem acI(fm:Int)(co cr us:List UInt8):∀p∈mJ fm co cr us,(p.id=1∨p.id=3∨p.id=9∨p.id=38)∧p.text.length≤30∧p.pair.length≤30∧p.data.length≤30:=by
 intro p hp;have h1:=qN co;have h2:=qN us;unfold mJ at hp;rcases ez.1 hp with hp|hp
 ·rcases ez.1 hp with hp|hp
  ·rcases ez.1 hp with hp|hp
   ·split at hp
    ·obtain rfl:=dM.1 hp;simp
    ·cases hp
   ·split at hp
    ·obtain rfl:=dM.1 hp;simp
     omega
    ·cases hp
  ·split at hp
   ·obtain rfl:=dM.1 hp;simp
    omega
   ·cases hp
 obtain⟨u,_,rfl⟩:=List.mem_map.1 hp;have h3:=qN [u];simp
 omega
theorem UL(fm:Int)(co cr us:List UInt8):((mJ fm co cr us).flatMap bR).length≤560:=by
 have h1:=aol (l:=mJ fm co cr us) (n:=80) fun p hp=>by
  obtain⟨hi,h1,h2,h3⟩:=acI fm co cr us p hp;exact aoj (UK fm co cr us p hp) h1 h2 h3 (by rcases hi with e|e|e|e<;>rw[e]<;>decide)
 have h2:=aok fm co cr us
 omega
theorem aom(l:List Pr)(h:∀p∈l,p.id=1∨p.id=3∨p.id=9∨p.id=38):(lY l [1,3,8,9,38]).length=l.length:=by
 unfold lY;rw[List.filter_eq_self.2 (fun p hp=>by rcases h p hp with e|e|e|e<;>rw[e]<;>rfl)]
theorem P'(m:Md):lZ (jW m).note where
 tt:=(P8 m.aF).tt
 tl:=aJ (P8 m.aF).tl (by decide)
 pl:=by show(m.ay.take 300).length≤65535;rw[bS];omega
 st:=P_ m.src
 sl:=aJ (qN m.src) (by decide)
 q0:=(vj m.ah 0 2 (by decide)).1
 q1:=(vj m.ah 0 2 (by decide)).2
 e0:=by
  show 0≤(if 0<m.fM then bits .and .i64 m.fM 65535 else 0);rw[P9]
  split<;>omega
 e1:=by
  show(if 0<m.fM then bits .and .i64 m.fM 65535 else 0)≤_;rw[P9]
  split<;>omega
 n0:=by show 0≤bits .and .i64 m.number 16777215;rw[UI];omega
 n1:=by show bits .and .i64 m.number 16777215≤_;rw[UI];omega
 o:=⟨(bits .and .i64 m.origin 255).toNat,by
  show bits .and .i64 m.origin 255=_;rw[acG]
  omega,by rw[acG];omega⟩
 h:=⟨0,rfl,by decide⟩
 lay:=by
  show(eO 3 (mJ m.fm m.co m.cr m.us)).2=0;have:=UL m.fm m.co m.cr m.us;rw[acF (UK _ _ _ _) (acH _ _ _ _) (by omega)]
 k:=aom _ fun p hp=>(acI _ _ _ _ p hp).1
theorem acJ(m:Md):(eG (jW m).note).length≤1100:=by
 have h1:=qC (l:=(jW m).note.aF) (P' m).tl;have h2:=uE (l:=(jW m).note.ay) (P' m).pl;have h3:=qC (l:=(jW m).note.src) (P' m).sl;have h4:(jW m).note.aF.length≤100:=(P8 m.aF).tl;have h5:(jW m).note.ay.length≤300:=by show(m.ay.take 300).length≤300;rw[bS];omega
 have h6:(jW m).note.src.length≤30:=qN m.src;have h7:(eO 3 (jW m).note.props).1.length≤564:=by
  show(eO 3 (mJ m.fm m.co m.cr m.us)).1.length≤564;have:=UL m.fm m.co m.cr m.us;rw[acF (UK _ _ _ _) (acH _ _ _ _) (by omega)];have h8:=(JN 3 ((mJ m.fm m.co m.cr m.us).flatMap bR).length).2;have h9:jR ((mJ m.fm m.co m.cr m.us).flatMap bR).length=nA 3 ((mJ m.fm m.co m.cr m.us).flatMap bR).length:=rfl;rw[aK,h9]
  omega
 unfold eG;simp only[aK,fQ,ey,gi]
 omega
theorem acK(l:List Int):(sQ l).length≤4:=by unfold sQ;rw[j0,bS];omega
theorem UM(m:Md):eg (jW m).share=true∧(jW m).share.length≤60:=by
 show eg (if 0<m.share.length then vR++e_ m.share else [])=true∧(if 0<m.share.length then vR++e_ m.share else []).length≤60
 split
 ·refine⟨aoe _,?_⟩;have:=qN m.share;rw[aK];show 9+_≤_
  omega
 exact⟨OB,by simp⟩
theorem acL(m:Md):gh (jW m) where
 n:=P' m
 nb:=(abB m).1
 nl:=aJ (acJ m) (by decide)
 pl:=aJ (UL m.fm m.co m.cr m.us) (by decide)
 q0:=(vj m.sub 0 2 (by decide)).1
 q1:=(vj m.sub 0 2 (by decide)).2
 ni:=by
  have:=acK m.ids;show(sQ m.ids).length<256
  omega
 ir:=fun i hi=>by
  have hi:i∈sQ m.ids:=hi;unfold sQ at hi;obtain⟨x,_,rfl⟩:=List.mem_map.1 hi;rw[UI,IntKind.wrap_i64]
  omega
 st:=(UM m).1
 sl:=aJ (UM m).2 (by decide)
theorem acM:∀l:List Int,(l.flatMap (fun i=>aY (bz i) 4)).length=l.length*4
 |[]=>rfl
 |x::l=>by
  rw[lT,aK,fQ,acM l,ey]
  omega
theorem aon(m:Md):F4 (jW m):=by
 refine⟨acL m,?_,P8 m.aF⟩;have h1:=acJ m;have h2:=uE (l:=eG (jW m).note) (by omega);have h3:=qC (l:=(jW m).share) (acL m).sl;have h4:=(UM m).2;have h5:(jW m).ids.length≤4:=acK m.ids;unfold db;rw[aK,aK,aK,aK,acM];simp only[ey,gi]
 omega
