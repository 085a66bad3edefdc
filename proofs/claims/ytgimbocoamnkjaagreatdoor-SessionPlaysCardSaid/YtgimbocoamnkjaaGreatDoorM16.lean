/- A part of the proof of SessionPlays, printed small; no conditions of its own. -/
import Derived.Test.YtgimbocoamnkjaaGreatDoorM15
import Derived.Lib.BytesEntry
import Derived.Lib.Overlaps
import Derived.Lib.AppendZerosOnto
import Derived.Laws.IdiomCopy
set_option maxRecDepth 100000
set_option maxHeartbeats 16000000
namespace Go.Proofs.YtgimbocoamnkjaaGreatDoor
open Int (toNat_natCast)
open List (getElem_map mem_cons_of_mem mem_cons_self mem_or_eq_of_mem_set)
variable{fine ok:Bool}{x:Im}{id z:Int}{Rb:Nat}{M Ms:Nat→Prop}{s s':aF}{fv gv qv sv:Value}{w:World}
open Go.RowKit
theorem Ym(a b:List UInt8):tY a b=decide (Lib.compareBytes a b<0):=bytesLess_eq a b
structure xA(x:Im):Prop where
 k:xb x
 l:(jf x).length≤65535
 g:GT x.note.aJ
theorem ah1(h:xA x):xA (j4 x):=by
 rw [WC];refine ⟨⟨h.g.nt,h.g.nb,?_,?_,(by show (0:Int)≤2;decide),(by show (2:Int)≤2;decide),(by show 0<256;decide),by simp [gI],KJ,by simp [gI]⟩,?_,h.g⟩
 ·have:=h.g.nl;show (eK (gN x.note.aJ)).length≤65535;have h2:(eK (gN x.note.aJ)).length=(eK (gI x.note.aJ).note).length:=rfl
  omega
 ·show (([]:List Pr).flatMap bV).length≤65535;simp
 ·have:=h.g.il
  omega
structure du(s:aF):Prop where
 inv:eL s
 cl:dV s.dC=true
 cn:s.dC.length≤20
 e0:0≤s.cP
 e1:s.cP≤65535
 d0:0≤s.ends
 d1:s.ends≤65535
 sn:s.ay.length≤8
 sb:∀x∈s.ay,BH x
 ss:ke s.ay
 qk:∀x∈s.queue,xA x
 fk:∀f∈s.aj,xA f.item∧Yh f.state f.item
 gn:s.aH.length≤8
 gr:∀n∈s.aH,1≤n∧n≤65535
 gd:s.aH.Nodup
theorem du.new{l:List UInt8}(h:dV l=true)(hn:l.length≤20):du (fw l):=
 ⟨.new l,h,hn,(by show (0:Int)≤0;decide),(by show (0:Int)≤65535;decide),(by show (0:Int)≤0;decide),(by show (0:Int)≤65535;decide),by simp [fw],by simp [fw],.nil,by simp [fw],by simp [fw],by simp [fw],by simp [fw],.nil⟩
theorem du.push(h:du s)(hx:xA x):du (pE s x).1:=by
 have hi:=h.inv.pE hx.k.q0;unfold Go.Proofs.YtgimbocoamnkjaaGreatDoor.pE at hi⊢
 split
 ·rename_i hl
  rw [if_pos hl] at hi;exact ⟨hi,h.cl,h.cn,h.e0,h.e1,h.d0,h.d1,h.sn,h.sb,h.ss,fun y hy=>by
   rcases List.mem_append.1 hy with hy|hy
   ·exact h.qk y hy
   ·obtain rfl:=List.mem_singleton.1 hy;exact hx,h.fk,h.gn,h.gr,h.gd⟩
 ·exact h
theorem du.next{bY:Int}(h:du s)(hn:wW s bY x id ok s'):du s':=by
 have hi:=hn.inv h.inv;cases hn with
 |no _=>exact h
 |out x rest hq _ _=>exact ⟨hi,h.cl,h.cn,h.e0,h.e1,h.d0,h.d1,h.sn,h.sb,h.ss,fun y hy=>h.qk y (by rw [hq];exact mem_cons_of_mem _ hy),h.fk,h.gn,h.gr,h.gd⟩
 |qN x rest d hq hr hz h1 h2 hc ha=>
  have hx:=h.qk x (by rw [hq];exact mem_cons_self);refine ⟨hi,h.cl,h.cn,h.e0,h.e1,h.d0,h.d1,h.sn,h.sb,h.ss,fun y hy=>h.qk y (by rw [hq];exact mem_cons_of_mem _ hy),fun f hf=> ?_,h.gn,h.gr,h.gd⟩;rcases List.mem_append.1 hf with hf|hf
  ·exact h.fk f hf
  ·obtain rfl:=List.mem_singleton.1 hf;refine ⟨hx,?_⟩;have:=hx.k.q1;have:x.al=1∨x.al=2:=by omega
   rcases this with e|e
   ·exact .inl ⟨e,e⟩
   ·exact .inr (.inl ⟨e,e⟩)
theorem du.land{p:Fl→Bool}(h:du s)(hz:cV p s.aj=z):du (jE s z):=by
 have hi:=h.inv.land hz;unfold jE at hi⊢
 split
 ·exact h
 ·rename_i hn
  rw [if_neg hn] at hi;exact ⟨hi,h.cl,h.cn,h.e0,h.e1,h.d0,h.d1,h.sn,h.sb,h.ss,h.qk,fun f hf=>h.fk f (List.mem_of_mem_eraseIdx hf),h.gn,h.gr,h.gd⟩
theorem du.Pj{p:Fl→Bool}{a b:Bool}(h:du s)(hz:cV p s.aj=z)(hr:zH s z fine=(s',a,b)):du s':=by
 have hi:=h.inv.Pj hz hr;by_cases hn:z<0
 ·rw [GH hn] at hr;cases hr;exact h
 ·obtain ⟨k,hk,rfl,_⟩:=wO hz (by omega);rw [Ku hk] at hr
  split at hr
  ·cases hr;exact h
  ·split at hr
   ·cases hr;exact h.land hz
   ·cases hr;refine ⟨hi,h.cl,h.cn,h.e0,h.e1,h.d0,h.d1,h.sn,h.sb,h.ss,h.qk,fun f hf=> ?_,h.gn,h.gr,h.gd⟩;rcases mem_or_eq_of_mem_set hf with h1|h1
    ·exact h.fk f h1
    ·rw [h1];exact ⟨ah1 (h.fk _ (List.getElem_mem hk)).1,.inr (.inr ⟨rfl,_,WC _⟩)⟩
theorem du.ah2{a b:Bool}(h:du s)(hc:zX s id=(s',a,b)):du s':=by
 unfold zX at hc
 split at hc
 ·cases hc;exact h
 ·rename_i sA
  split at hc
  ·rename_i h1
   cases hc;refine ⟨⟨h.inv.qn,h.inv.fn,h.inv.eq,h.inv.nd,h.inv.rg,h.inv.qq⟩,h.cl,h.cn,h.e0,h.e1,h.d0,h.d1,h.sn,h.sb,h.ss,h.qk,h.fk,?_,?_,?_⟩
   ·show (s.aH++ [id]).length≤8;rw [List.length_append];show _+1≤8
    omega
   ·intro n hn;rcases List.mem_append.1 hn with hn|hn
    ·exact h.gr n hn
    ·obtain rfl:=List.mem_singleton.1 hn;exact h1.2
   ·show (s.aH++ [id]).Nodup;rw [List.nodup_append];refine ⟨h.gd,by simp,fun x hx y hy=> ?_⟩;obtain rfl:=List.mem_singleton.1 hy;rintro rfl;exact sA (by simpa using hx)
  ·cases hc;exact h
theorem du.left(h:du s)(id:Int):du {s with aH:=s.aH.erase id}:=
 ⟨⟨h.inv.qn,h.inv.fn,h.inv.eq,h.inv.nd,h.inv.rg,h.inv.qq⟩,h.cl,h.cn,h.e0,h.e1,h.d0,h.d1,h.sn,h.sb,h.ss,h.qk,h.fk,Nat.le_trans (List.length_erase_le) h.gn,fun n hn=>h.gr n (List.mem_of_mem_erase hn),h.gd.erase _⟩
theorem du.ah3(h:du s){x y:Int}{b:Bool}(hx:0≤x∧x≤65535)(hy:0≤y∧y≤65535):du {s with cP:=x,ends:=y,eB:=b}:=
 ⟨⟨h.inv.qn,h.inv.fn,h.inv.eq,h.inv.nd,h.inv.rg,h.inv.qq⟩,h.cl,h.cn,hx.1,hx.2,hy.1,hy.2,h.sn,h.sb,h.ss,h.qk,h.fk,h.gn,h.gr,h.gd⟩
theorem du.old(h:du s)(now:Int):du {s with queue:=oA s.queue now}:=
 ⟨⟨Nat.le_trans (List.length_filter_le _ _) h.inv.qn,h.inv.fn,h.inv.eq,h.inv.nd,h.inv.rg,fun x hx=>h.inv.qq x (List.mem_filter.1 hx).1⟩,h.cl,h.cn,h.e0,h.e1,h.d0,h.d1,h.sn,h.sb,h.ss,fun x hx=>h.qk x (List.mem_filter.1 hx).1,h.fk,h.gn,h.gr,h.gd⟩
theorem du.laid(h:du s):du {s with aH:=bE s.aH}:=
 ⟨⟨h.inv.qn,h.inv.fn,h.inv.eq,h.inv.nd,h.inv.rg,h.inv.qq⟩,h.cl,h.cn,h.e0,h.e1,h.d0,h.d1,h.sn,h.sb,h.ss,h.qk,h.fk,by rw [tW];exact h.gn,fun n hn=>h.gr n ((rV s.aH).mem_iff.1 hn),(rV s.aH).nodup_iff.2 h.gd⟩
theorem du.QT(h:du s){l:List Sb}(hn:l.length≤8)(hb:∀x∈l,BH x)(hs:ke l):du {s with ay:=l}:=
 ⟨⟨h.inv.qn,h.inv.fn,h.inv.eq,h.inv.nd,h.inv.rg,h.inv.qq⟩,h.cl,h.cn,h.e0,h.e1,h.d0,h.d1,hn,hb,hs,h.qk,h.fk,h.gn,h.gr,h.gd⟩
theorem du.sub{x:Sb}{a b:Bool}(h:du s)(hx:BH x)(hc:v_ s x=(s',a,b)):du s':=by
 unfold v_ at hc
 split at hc
 ·rename_i hi
  obtain ⟨hk,e⟩:=Ew hi;cases hc;exact h.QT (by rw [List.length_set];exact h.sn) (fun y hy=>by
   rcases mem_or_eq_of_mem_set hy with h1|h1
   ·exact h.sb y h1
   ·rw [h1];exact hx) (h.ss.setAt hk e)
 ·rename_i hi
  split at hc
  ·cases hc;exact h
  ·rename_i h8
   cases hc;have:=h.sn;have:=Cl s.ay x.filter;refine h.QT ?_ (fun y hy=> ?_) (h.ss.ins (Bool.eq_false_iff.2 hi))
   ·rw [List.length_append,List.length_append,List.length_take,List.length_drop];simp
    omega
   ·rcases List.mem_append.1 hy with hy|hy
    ·rcases List.mem_append.1 hy with hy|hy
     ·exact h.sb y (List.mem_of_mem_take hy)
     ·obtain rfl:=List.mem_singleton.1 hy;exact hx
    ·exact h.sb y (List.mem_of_mem_drop hy)
theorem du.ah4{f:List UInt8}{b:Bool}(h:du s)(hc:AW s f=(s',b)):du s':=by
 unfold AW at hc
 split at hc
 ·cases hc;refine h.QT (Nat.le_trans ?_ h.sn) (fun y hy=>h.sb y (List.mem_of_mem_eraseIdx hy)) (h.ss.erase _);rw [List.length_eraseIdx]
  split<;>omega
 ·cases hc;exact h
theorem Yn{l:List Fl}{st:List Int}(hn:(l.map (·.id)).Nodup){z':Int}(hz:cV (kE id st) l=z)(jr:cV (fun f:Fl=>f.id==id) l=z'):
 (∃(k:Nat)(hk:k<l.length),z'=k∧z=k∧st.contains (l[k]).state=true)∨(z= -1∧(z'= -1∨∃(k:Nat)(hk:k<l.length),z'=k∧st.contains (l[k]).state=false)):=by
 by_cases h0:0≤z'
 ·obtain ⟨k,hk,rfl,hp,_⟩:=wO jr h0;have hid:(l[k]).id=id:=by simpa using hp
  cases hs:st.contains (l[k]).state with
  |true=>
   refine .inl ⟨k,hk,rfl,?_,hs⟩;rw [←hz];refine Ck hk (by unfold kE;rw [hs];simp [hid]) (fun j hj=> ?_);have bh:(l[j]'(by omega)).id≠id:=fun e=>by
    have h1:=List.pairwise_iff_getElem.1 hn j k (by simp;omega) (by simp;omega) hj;rw [getElem_map,getElem_map,e,hid] at h1;exact h1 rfl
   unfold kE;simp [bh]
  |false=>
   refine .inr ⟨?_,.inr ⟨k,hk,rfl,hs⟩⟩;rw [←hz];refine AT fun f hf=> ?_;obtain ⟨j,hj,rfl⟩:=List.getElem_of_mem hf;unfold kE;by_cases e:(l[j]).id=id
   ·have mh:j=k:=by
     apply Classical.byContradiction;intro bh;rcases Nat.lt_or_gt_of_ne bh with h1|h1
     ·have h2:=List.pairwise_iff_getElem.1 hn j k (by simp;omega) (by simp;omega) h1;rw [getElem_map,getElem_map,e,hid] at h2;exact h2 rfl
     ·have h2:=List.pairwise_iff_getElem.1 hn k j (by simp;omega) (by simp;omega) h1;rw [getElem_map,getElem_map,e,hid] at h2;exact h2 rfl
    subst mh;rw [hs,Bool.and_false]
   ·simp [e]
 ·obtain ⟨rfl,iW⟩:=zG jr (by omega);refine .inr ⟨?_,.inl rfl⟩;rw [←hz];refine AT fun f hf=> ?_;have h1:(f.id==id)=false:=iW f hf;unfold kE;rw [h1,Bool.false_and]
theorem Yo(h:eL s){st z':Int}(hz:cV (kE id [st]) s.aj=z)(jr:cV (fun f:Fl=>f.id==id) s.aj=z'):z_ s z' st=({jE s z with cj:=s.cj},decide (0≤z)):=by
 have hn:(s.aj.map (·.id)).Nodup:=h.eq▸h.nd;rcases Yn hn hz jr with ⟨k,hk,rfl,rfl,hs⟩|⟨rfl,rfl|⟨k,hk,rfl,hs⟩⟩
 ·have hs:(s.aj[k]).state=st:=by simpa using hs
  rw [Lh hk,if_pos hs];unfold jE;rw [if_neg (by omega),toNat_natCast,decide_eq_true (by omega:(0:Int)≤(k:Int))]
 ·rw [PW (by decide)];unfold jE;rw [if_pos (by decide)]
  rfl
 ·have hs:(s.aj[k]).state≠st:=by simpa using hs
  rw [Lh hk,if_neg hs];unfold jE;rw [if_pos (by decide)]
  rfl
theorem ah5(h:du s){z':Int}(hz:cV (kE id [2,3]) s.aj=z)(jr:cV (fun f:Fl=>f.id==id) s.aj=z'):∃t a b,zH s z fine=(t,a,b)∧Dh s z' fine=({t with cj:=s.cj},a,b):=by
 have hn:(s.aj.map (·.id)).Nodup:=h.inv.eq▸h.inv.nd;rcases Yn hn hz jr with ⟨k,hk,rfl,rfl,hs⟩|⟨rfl,rfl|⟨k,hk,rfl,hs⟩⟩
 ·have hs:(s.aj[k]).state=2∨(s.aj[k]).state=3:=by simpa using hs
  rw [Ku hk,P8 hk,if_neg (by omega:¬(s.aj[k]).state=1)]
  split
  ·exact ⟨_,_,_,rfl,rfl⟩
  ·split
   ·refine ⟨_,_,_,rfl,?_⟩;unfold jE;rw [if_neg (by omega),toNat_natCast]
   ·exact ⟨_,_,_,rfl,rfl⟩
 ·exact ⟨_,_,_,GH (by decide),XJ (by decide)⟩
 ·have hs:(s.aj[k]).state≠2∧(s.aj[k]).state≠3:=by simpa using hs
  have h1:(s.aj[k]).state=1:=by
   rcases (h.fk _ (List.getElem_mem hk)).2 with h2|h2|h2
   ·exact h2.1
   ·exact absurd h2.1 hs.1
   ·exact absurd h2.1 hs.2
  rw [P8 hk,if_pos h1];exact ⟨_,_,_,GH (by decide),rfl⟩
theorem ah6(h:eL s){d:Int}:(s.cj.contains d=false→cV (fun f:Fl=>f.id==d) s.aj= -1)∧(s.cj.contains d=true→0≤cV (fun f:Fl=>f.id==d) s.aj):=by
 rw [h.eq];refine ⟨fun hc=>AT fun f hf=> ?_,fun hc=> ?_⟩
 ·have:d∉s.aj.map (·.id):=by simpa using hc
  have bh:f.id≠d:=fun e=>this (by rw [←e];exact List.mem_map_of_mem hf)
  simpa using bh
 ·apply Classical.byContradiction;intro NG;obtain ⟨_,iW⟩:=zG (p:=fun f:Fl=>f.id==d) (l:=s.aj) rfl (by omega);have hm:d∈s.aj.map (·.id):=by simpa using hc
  obtain ⟨f,hf,e⟩:=List.mem_map.1 hm;have:=iW f hf;simp [e] at this
theorem RX.DH(h:RX w Ms M Rb sv qv fv gv s)(n:List Int):RX w Ms M Rb sv qv fv gv {s with cj:=n}:=⟨h.hS,h.hs,h.hq,h.hf,h.hg,h.mR,h.ms,h.mq,h.mf,h.mg,h.kd,h.lo,h.qj,h.lt⟩
theorem RR.DH(h:RR w Ms M Rb s)(n:List Int):RR w Ms M Rb {s with cj:=n}:=by
 obtain ⟨sv,qv,fv,gv,hx⟩:=h;exact ⟨sv,qv,fv,gv,hx.DH n⟩
theorem RR.K9(h:RR w Ms M Rb s):RR w Ms M Rb {s with aH:=bE s.aH}:=by
 obtain ⟨sv,qv,fv,gv,hx⟩:=h;refine ⟨sv,qv,fv,gv,hx.hS,hx.hs,hx.hq,hx.hf,?_,hx.mR,hx.ms,hx.mq,hx.mf,hx.mg,hx.kd,hx.lo,hx.qj,hx.lt⟩;show w.ownsRow 0 3 1 gv (bE s.aH).length (iv (bE (bE s.aH)));rw [PN (rV s.aH),tW];exact hx.hg
open _root_.Go.Proofs.Tryz
theorem ah7(ad:Option Addr)(n c:Nat)(xs:List Value)(w:World)(hr:Rd w 6 ad n xs)(sM:∀u∈xs,u.oneCell'=true)(h1:n≤c)(h3:ad=none→c=0)(hn:n≤1000000)(R:Ending→World→Prop)
 (hR:∀bq c' w',w'.ownsRow w 64 6 (.slice bq n c') n xs→Below w w w'→R (.returned (.slice bq n c')) w'):
 Calls prog 134 #[.slice ad n c] w R:=by
 have HR:=ab hR;clear hR;cases ad with
 |none=>
  have hc:c=0:=h3 rfl;subst hc;obtain rfl:n=0:=by omega
  have hx:xs= []:=List.eq_nil_of_length_eq_zero (by have:=hr.1;omega);subst hx;have he:∀w:World,(binOp .eql 58 (.slice none 0 0) (.slice none 0 0)).run prog w= .ok (.bool true) w:=fun _=>rfl;go_enter func134,ntmps134;go_wp2;exact HR.o_ none 0 _ (World.ownsRow_nil _ _ _ _) (Below.refl _ _)
 |some a=>
  have he:∀w:World,(binOp .eql 58 (.slice (some a) n c) (.slice none 0 0)).run prog w= .ok (.bool false) w:=fun _=>rfl;have aV:=(World.ownsRow_made (base:=w.heap.size) (e:=64) (size:=6) w #[] 0 (Nat.le_refl _) (by unfold maxLen;omega) rfl)
  have gu:=FU hr (.cells #[] 64);have qK:=ab sM;go_enter func134,ntmps134;go_wp2_with (at_builtin;go_must (refine j9 (by rfl) (.tmp 5) (.tmp 6) 58 (by rfl) w 64 (.agg fX) 6 48 underlying58 kW rfl (by decide) _ _ _ _ rfl aV _ _ _ _ rfl gu qK.o_ h3 (by unfold maxLen;omega) (by omega) (by simp) ?_));exact V0
theorem ah8(S:Nat)(s:aF)(hl:s.ay.length≤100000)(w:World)(M:Nat→Prop)(h:SR w M S s)(R:Ending→World→Prop)
 (hR:∀ad c w',w'.ownsRow w 64 6 (.slice ad s.ay.length c) s.ay.length (s.ay.flatMap aP)→Below w w w'→R (.returned (.slice ad s.ay.length c)) w'):
 Calls prog 88 #[.pointer (some ⟨S,0,none⟩)] w R:=by
 have HR:=ab hR;obtain ⟨NB,MB,GB,GM,sv,qv,fv,hx⟩:=h;obtain ⟨sa,sc,rfl⟩:=bF hx.hs;have aU:=ab hx.hs;have c5:=(dy hx.hS).2.1;obtain ⟨n,hn⟩:=ai s.ay.length;rw [hn] at c5 aU hl HR;clear hR hx hn;go_enter func88,ntmps88;go_wp2_with (go_at_call 134;go_must (refine ah7 sa n sc (s.ay.flatMap aP) w (qG aU.o_) (sE _) (rp aU.o_).1 (B6 aU.o_) (Nat.le_trans hl (by decide)) _ ?_);intro fY c3 w3 bD an;have eH:=ab bD;have bU:=ab an;clear bD an);exact HR.o_ fY c3 w3 eH.o_ bU.o_
theorem ah9(a b:List UInt8)(z:Int)(hz:Lib.compareBytes a b=z)(w:World)(R:Ending→World→Prop)
 (hR:R (.returned (.int .i64 z)) w):Calls prog 164 #[.string (str a),.string (str b)] w R:=by
 have hc:(callFunc 184 #[.string (str a),.string (str b)]).run prog w= .ok (.value (.int .i64 z)) w:=by
  rw [run_callFunc_extern func184 (by kernel_rfl) (by kernel_rfl) (by kernel_rfl) (e:=Extern.BytealgCompare.compare) (by kernel_rfl),Lib.run_compareString];rw [show Lib.compareBytes (str a).data.toList (str b).data.toList=z from hz]
  rfl
 clear hz;go_enter func164,ntmps164;go_wp2;exact hR
theorem aia(a b:List UInt8)(z:Int)(hz:Lib.compareBytes a b=z)(w:World)(R:Ending→World→Prop)
 (hR:R (.returned (.int .i64 z)) w):Calls prog 144 #[.string (str a),.string (str b)] w R:=by
 have HR:=ab hR;have HZ:=ab hz;clear hR hz;go_enter func144,ntmps144;go_wp2_with (go_at_call 164;go_must (refine ah9 a b z HZ.o_ _ _ ?_));exact HR.o_
theorem QU(a f:List UInt8)(z:Int)(hz:Lib.compareBytes a f=z)(c1 c2 c3 c4 c5:Value)(w:World)(R:Ending→World→Prop)
 (hR:∀w',Below w w w'→R (.returned (.int .i64 z)) w'):Calls prog 143 #[.agg #[.string (str a),c1,c2,c3,c4,c5],.string (str f)] w R:=by
 have HR:=ab hR;have HZ:=ab hz;have aw:Below w w (w.alloc (Obj.cells #[.string (str a),c1,c2,c3,c4,c5] 64)):=(Below.refl _ _).alloc (Nat.le_refl _) _;have c0:=af _ w 0 _ _ _ (heap_alloc_new w (Obj.cells #[.string (str a),c1,c2,c3,c4,c5] 64));have bP:=ab aw;clear hR hz aw;go_enter func143,ntmps143;go_wp2_with (go_at_call 144;go_must (refine aia a f z HZ.o_ _ _ ?_));exact HR.o_ _ bP.o_
theorem aib(l:List Sb)(f:List UInt8)(k:Nat)(hk:fB l f=k)(b:Bool)(hb:pW l f=b)(hs:ke l)(hl:l.length≤100000)(sv:Value)(w:World)(ho:w.ownsRow 0 64 6 sv l.length (l.flatMap aP))(R:Ending→World→Prop)
 (hR:∀w',Below w w w'→R (.returned (.tuple #[.int .i64 k,.bool b])) w'):
 Calls prog 142 #[sv,.string (str f),.func (.func 143) #[] #[]] w R:=by
 have HR:=ab hR;have HO:=ab ho;have ey:∀j (hj:j<l.length),(Lib.compareBytes (l[j]).filter f<0↔j<k):=fun j hj=>by rw [←hk];exact AV l f hs j hj
 have f_:k≤l.length:=hk▸Cl l f;have H_:b=true→∃(h:k<l.length),(l[k]).filter=f:=fun e=>by
  obtain ⟨h1,h2⟩:=Ew (hb.trans e);subst hk;exact ⟨h1,h2⟩
 have DJ:b=false→∀(h:k<l.length),(l[k]).filter≠f:=fun e=>by
  have:=N_ (hb.trans e);subst hk;exact this
 obtain ⟨n,hn⟩:=ai l.length;have HN:=ab hn;have wM:=ab ey;have Lz:=ab H_;have H':=ab DJ;obtain ⟨sa,sc,rfl⟩:=bF ho;rw [hn] at hl f_⊢;clear hR ho ey H_ DJ hn hk hb hs;go_enter func142,ntmps142;go_wp2;go_loopg [9,10] n (fun gn s9 QV wr=>∃lo hi:Nat,s9= .int .i64 lo∧QV= .int .i64 hi∧lo≤k∧k≤hi∧hi≤n∧hi - lo≤gn∧Hid (Below w w wr))
 case atStart=>exact ⟨0,n,rfl,rfl,Nat.zero_le _,f_,Nat.le_refl _,by omega,ab (Below.refl _ _)⟩
 case round=>
  obtain ⟨lo,hi,rfl,rfl,h1,h2,h3,hg,HB⟩:=hrel;obtain ⟨wo,rfl⟩:∃x,x=wr:=⟨_,rfl⟩
  by_cases ao:lo<hi
  ·have Qc:(lo+hi) / 2<n:=by omega
   have jy:(lo+hi) / 2<l.length:=by have:=HN.o_;omega
   have aV:=aK HO.o_ HB.o_;obtain ⟨g,td⟩:=et aV (by omega);subst td;have aW:=yd aV rfl jy;have ey:=wM.o_ ((lo+hi) / 2) jy;obtain ⟨⟨yf,yq,yn,ya,yh,yi⟩,hy⟩:∃y,l[(lo+hi) / 2]=y:=⟨_,rfl⟩
   rw [hy] at aW ey;simp only at ey;have HC:Hid (∀j,j<6→wo.cell? ⟨g,(lo+hi) / 2*6+j,none⟩= [Value.string (str yf),.int .i64 yq,.bool yn,.bool ya,.int .i64 yh,.int .i64 yi][j]?):=aW;obtain ⟨z,hz⟩:=ai (Lib.compareBytes yf f);rw [hz] at ey;have HZ:=ab hz;clear aV aW hy hz;by_cases j2:z<0
   ·have gP:=ey.1 j2;clear ey;go_wp2_with (first
     |(refine ie (o:=⟨some 28,.load 64 (.tmp 27),_,_,_,_⟩) (by rfl) 64 (.tmp 27) (by rfl) (g) ((lo+hi) / 2*6) (by rfl) ([Value.string (str yf),.int .i64 yq,.bool yn,.bool ya,.int .i64 yh,.int .i64 yi]) _ (HC.o_) (underlying64) (by rfl) (by kernel_rfl) ?_)
     |(go_at_call 143;go_must (refine QU yf f z HZ.o_ _ _ _ _ _ _ _ ?_);intro w7 aZ;have gf:=ab (aD HB.o_ aZ HB.o_.size);clear aZ))
    go_roundg (hi - ((lo+hi) / 2+1))
    case measure=>omega
    case rel=>exact ⟨(lo+hi) / 2+1,hi,by rw [show ((lo:Int)+(hi:Int)) / 2+1=(((lo+hi) / 2+1:Nat):Int) by omega],rfl,by omega,h2,h3,Nat.le_refl _,gf⟩
   ·have gP:¬(lo+hi) / 2<k:=fun h=>j2 (ey.2 h);clear ey;go_wp2_with (first
     |(refine ie (o:=⟨some 28,.load 64 (.tmp 27),_,_,_,_⟩) (by rfl) 64 (.tmp 27) (by rfl) (g) ((lo+hi) / 2*6) (by rfl) ([Value.string (str yf),.int .i64 yq,.bool yn,.bool ya,.int .i64 yh,.int .i64 yi]) _ (HC.o_) (underlying64) (by rfl) (by kernel_rfl) ?_)
     |(go_at_call 143;go_must (refine QU yf f z HZ.o_ _ _ _ _ _ _ _ ?_);intro w7 aZ;have gf:=ab (aD HB.o_ aZ HB.o_.size);clear aZ))
    go_roundg ((lo+hi) / 2 - lo)
    case measure=>omega
    case rel=>exact ⟨lo,(lo+hi) / 2,rfl,by rw [show ((lo:Int)+(hi:Int)) / 2=(((lo+hi) / 2:Nat):Int) by omega],h1,by omega,by omega,Nat.le_refl _,gf⟩
  ·have nH:lo=k:=by omega
   subst nH;by_cases iC:lo<n
   ·have jy:lo<l.length:=by have:=HN.o_;omega
    have aV:=aK HO.o_ HB.o_;obtain ⟨g,td⟩:=et aV (by omega);subst td;have aW:=yd aV rfl jy;have H_:=Lz.o_;have DJ:=H'.o_;obtain ⟨⟨yf,yq,yn,ya,yh,yi⟩,hy⟩:∃y,l[lo]=y:=⟨_,rfl⟩
    rw [hy] at aW;have oO:b=true↔yf=f:=by
     cases b with
     |true=>
      obtain ⟨_,e⟩:=H_ rfl;rw [hy] at e;exact ⟨fun _=>e,fun _=>rfl⟩
     |false=>
      have e:=DJ rfl jy;rw [hy] at e;exact ⟨fun h=>(by cases h),fun h=>absurd h e⟩
    have d0:wo.cell? ⟨g,lo*6,none⟩=some (.string (str yf)):=aW 0 (by omega);have d1:wo.cell? ⟨g,lo*6+1,none⟩=some (.int .i64 yq):=aW 1 (by omega);have d2:wo.cell? ⟨g,lo*6+2,none⟩=some (.bool yn):=aW 2 (by omega);have d3:wo.cell? ⟨g,lo*6+3,none⟩=some (.bool ya):=aW 3 (by omega);have d4:wo.cell? ⟨g,lo*6+4,none⟩=some (.int .i64 yh):=aW 4 (by omega);have d5:wo.cell? ⟨g,lo*6+5,none⟩=some (.int .i64 yi):=aW 5 (by omega);obtain ⟨z,hz⟩:=ai (Lib.compareBytes yf f);have DK:(z==0)=b:=by
     have h0:=JX yf f;rw [hz] at h0;cases b with
     |true=>simp [h0.2 (oO.1 rfl)]
     |false=>
      have:z≠0:=fun e=>by have:=oO.2 (h0.1 e);cases this
      simpa using this
    have HZ:=ab hz;have aic:=ab DK;have zi:¬(lo:Int)<(hi:Int):=by omega
    have uW:(lo:Int)<(n:Int):=by omega
    clear aV aW hy hz H_ DJ oO DK;go_wp2_with (first
     |(go_at_call 143;go_must (refine QU yf f z HZ.o_ _ _ _ _ _ _ _ ?_);intro w7 aZ;have gf:=ab (aD HB.o_ aZ HB.o_.size);clear aZ))
    rw [aic.o_];exact HR.o_ _ gf.o_
   ·have zi:¬(lo:Int)<(hi:Int):=by omega
    have uW:¬(lo:Int)<(n:Int):=by omega
    have LA:b=false:=by
     cases hb:b with
     |false=>rfl
     |true=>
      obtain ⟨h,_⟩:=Lz.o_ hb;have:=HN.o_
      omega
    subst LA;go_wp2;exact HR.o_ _ HB.o_
theorem Ia(S NB MB GB GM:Nat)(sv qv fv:Value)(s:aF)(f:List UInt8)(k:Nat)(hk:fB s.ay f=k)(b:Bool)(hb:pW s.ay f=b)(hs:ke s.ay)(hl:s.ay.length≤100000)(w:World)(M:Nat→Prop)(hx:SX w M S NB MB GB GM sv qv fv s)(R:Ending→World→Prop)
 (hR:∀w',Below w w w'→R (.returned (.tuple #[.int .i64 k,.bool b])) w'):
 Calls prog 110 #[.pointer (some ⟨S,0,none⟩),.string (str f)] w R:=by
 have HR:=ab hR;have HX:=ab hx;have HK:=ab hk;have cK:=ab hb;have HS:=ab hs;have c5:=(dy hx.hS).2.1;clear hR hx hk hb hs;go_enter func110,ntmps110;go_wp2_with (go_at_call 142;go_must (refine aib s.ay f k HK.o_ b cK.o_ HS.o_ hl sv w HX.o_.hs _ ?_);intro w2 ah;have aY:=ab ah;clear ah);exact HR.o_ _ aY.o_
open List (eraseIdx_eq_take_drop_succ)
open Nat (min_def zero_add)
variable{B N g i k n:Nat}
theorem aid(w:World):(zeroValue 64).run prog w= .ok (.agg fX) w:=by kernel_rfl
theorem aie:∀v∈(fX:Array Value).toList,v.oneCell'=true:=by
 intro v hv;simp only [List.mem_cons,List.not_mem_nil,or_false] at hv;rcases hv with rfl|rfl|rfl|rfl|rfl|rfl<;>rfl
theorem Yp{c:Nat}{ps:List Sb}(hi:i+(k - i)=k)(hk:k+1=ps.length)(h:w.ownsRow B 64 6 (.slice (some ⟨g,0,none⟩) ps.length c) ps.length (ps.flatMap aP))(zs:List Value):
 ((w.setCells g (0+i*6) ((ps.drop (i+1)).flatMap aP)).setCells g (k*6) zs).ownsRow B 64 6 (.slice (some ⟨g,0,none⟩) k c) k ((ps.eraseIdx i).flatMap aP):=by
 have aX:(ps.eraseIdx i).length=k:=by rw [List.length_eraseIdx_of_lt (by omega)];omega
 refine ⟨by rw [eS 6 aP fT,aX],?_⟩;rcases h.2 with ⟨hv,h0⟩|⟨g',cap,cur,hv,hB,hg,h1,h2,h3,h4⟩
 ·cases hv
 ·simp only [Value.slice.injEq,Option.some.injEq,Addr.mk.injEq] at hv;obtain ⟨⟨rfl,-,-⟩,-,rfl⟩:=hv;obtain ⟨jq,k1,k2,k3⟩:=nT g 64 ((ps.drop (i+1)).flatMap aP) (0+i*6) w cur hg;obtain ⟨jg,m1,m2,m3⟩:=nT g 64 zs (k*6) _ jq k1;refine .inr ⟨g,c,jg,rfl,hB,m1,by omega,h2,by rw [m2,k2];exact h3,?_⟩;have jT:((ps.drop (i+1)).flatMap aP).length=(k - i) *6:=by
   rw [eS 6 aP fT,List.length_drop]
   congr 1
   omega
  have dm:ps.length*6≤cur.size:=by
   have:=congrArg List.length h4;rw [eS 6 aP fT,List.length_take] at this;simp at this
   omega
  have bJ:∀j,j<ps.length*6→cur[j]? =(ps.flatMap aP)[j]?:=fun j hj=>by
   rw [←h4,List.getElem?_take,if_pos hj];simp
  apply List.ext_getElem?;intro j;rw [List.getElem?_take];by_cases hj:j<k*6
  ·rw [if_pos hj];have e0:jg.toList[j]? =jg[j]?:=by simp
   rw [e0,m3,if_neg (by omega),k3,jT,eraseIdx_eq_take_drop_succ,List.flatMap_append];have iB:((ps.take i).flatMap aP).length=i*6:=by
    rw [eS 6 aP fT,List.length_take]
    congr 1
    omega
   by_cases kj:j<i*6
   ·rw [if_neg (by omega),bJ j (by omega),List.getElem?_append_left (by rw [iB];exact kj),←vW 6 aP fT,List.getElem?_take,if_pos kj]
   ·rw [if_pos (by omega),List.getElem?_append_right (by rw [iB];omega),iB]
    congr 1
    omega
  ·rw [if_neg hj,List.getElem?_eq_none (by rw [eS 6 aP fT,aX];omega)]
theorem aif(g c:Nat)(ps:List Sb)(i:Nat)(hi:i<ps.length)(hl:ps.length≤100000)(w:World)(sM:∀u∈ps.flatMap aP,u.oneCell'=true)(hf:w.ownsRow 0 64 6 (.slice (some ⟨g,0,none⟩) ps.length c) ps.length (ps.flatMap aP))(R:Ending→World→Prop)
 (hR:∀w',w'.ownsRow 0 64 6 (.slice (some ⟨g,0,none⟩) (ps.length - 1) c) (ps.length - 1) ((ps.eraseIdx i).flatMap aP)→w.grownBy w' (some g)→R (.returned (.slice (some ⟨g,0,none⟩) (ps.length - 1) c)) w'):
 Calls prog 129 #[.slice (some ⟨g,0,none⟩) ps.length c,.int .i64 i,.int .i64 ((i:Int)+1)] w R:=by
 have HR:=ab hR;have HF:=ab hf;clear hR hf;obtain ⟨k,hk⟩:∃k,k+1=ps.length:=⟨ps.length - 1,by omega⟩
 obtain ⟨n,hn⟩:=ai ps.length;have iC:n - 1=k:=by omega
 have iV:=(bf.gW HF.o_).cap;obtain ⟨i0,bS,_,cm,_⟩:=info_parts kW;have uW:i<n:=by omega
 have sD:Below w w w.drew:=(Below.refl w w).drew;have aq:=(bf.gW HF.o_)
 obtain ⟨ax,df,bW,km⟩:=bf.from (k:=i+1) aq underlying58 bS cm (by omega);rw [AQ 6 aP fT] at bW;have OO:∃A,ax=some A:=by
  cases ax with
  |some A=>exact ⟨A,rfl⟩
  |none=>cases km
 obtain ⟨A,rfl⟩:=OO;have bG:=(bW.below sD).rd;have lC:∀j u,((ps.drop (i+1)).flatMap aP)[j]? =some u→w.drew.cell? (A.add j)=some u:=fun j u hj=>by
  have pT:j<(ps.length - (i+1)) *6:=by
   rw [←bG.1];exact (List.getElem?_eq_some_iff.1 hj).1
  exact Us
 have lg:=bG.1;have GD:∀j,j<((ps.drop (i+1)).flatMap aP).length→(w.drew.cell? ⟨g,0+i*6+j,none⟩).isSome=true∧w.drew.frozen? ⟨g,0+i*6+j,none⟩=false:=fun j hj=>by
  rw [lg] at hj;have h0:=aK HF.o_ sD;refine ⟨?_,h0.frozenAt _⟩;rw [h0.cellAt _ (by omega),List.getElem?_eq_getElem (by rw [eS 6 aP fT];omega)]
  rfl
 have GF:∀u∈(ps.drop (i+1)).flatMap aP,u.oneCell'=true:=fun u hu=>sM u (by
  obtain ⟨p,hp,hu⟩:=List.mem_flatMap.1 hu;exact List.mem_flatMap.2 ⟨p,List.mem_of_mem_drop hp,hu⟩)
 obtain ⟨W1,lU⟩:=ai (w.drew.setCells g (0+i*6) ((ps.drop (i+1)).flatMap aP));have cw:=Yp (i:=i) (k:=k) (by omega) hk (aK HF.o_ sD) (fX:Array Value).toList;have GG:=Yp (i:=i) (k:=k) (by omega) hk (aK HF.o_ sD) [];have zm:w.grownBy (W1.setCells g (k*6) (fX:Array Value).toList) (some g):=by
  exact Uu
 rw [lU] at cw GG;have j3:∀ty,(Builtin.clear_ #[58] ty #[.slice (some ⟨g,k*6,none⟩) 1 (c - k)]).run prog W1= .ok (.tuple #[]) (W1.setCells g (k*6) (fX:Array Value).toList):=fun ty=>by
  obtain ⟨jq,k1,k2,_⟩:∃jq:Array Value,W1.heap[g]? =some (.cells jq 64 (0,0))∧n*6≤jq.size∧True:=by
   rcases (aK HF.o_ sD).2 with ⟨hv,h0⟩|⟨g',cap,cur,hv,hB,hg,h1,h2,h3,h4⟩
   ·cases hv
   ·simp only [Value.slice.injEq,Option.some.injEq,Addr.mk.injEq] at hv;obtain ⟨⟨rfl,-,-⟩,-,rfl⟩:=hv;obtain ⟨jq,k1,k2,k3⟩:=nT g 64 ((ps.drop (i+1)).flatMap aP) (0+i*6) w.drew cur hg;rw [lU] at k1;have:=congrArg List.length h4;rw [eS 6 aP fT,List.length_take] at this;simp at this;exact ⟨jq,k1,by omega,trivial⟩
  refine VM W1 _ 64 ty (.agg fX) _ underlying58 aid rfl aie g (k*6) _ (fun j hj=> ?_) (fun j hj=> ?_)
  ·have hj:j<6:=hj;rw [af W1 g _ jq _ _ k1,Array.getElem?_eq_getElem (by omega)]
   rfl
  ·exact frozen_of_row W1 g _ jq _ k1
 have he:prog.elem 58=64:=by simp [Program.elem,underlying58]
 have bt:∀w',(Instr.slice 58 (.slice (some ⟨g,0,none⟩) k c) (some (.int .i64 (k:Int))) (some (.int .i64 (n:Int))) none).run prog w'= .ok (.slice (some ⟨g,k*6,none⟩) 1 (c - k)) w':=fun w'=>by
  rw [run_slice_lh (P:=prog) w' _ _ k c (by rw [he];exact underlying58) .i64 .i64 k n (by omega) (by omega) (by omega),he];exact Ut
 replace df:∀w',(Instr.slice 58 (.slice (some ⟨g,0,none⟩) n c) (some (.int .i64 ((i:Int)+1))) none none).run prog w'= .ok (.slice (some A) (n - (i+1)) (c - (i+1))) w':=fun w'=>by
  have:=df w';rw [hn] at this;exact this
 rw [hn] at iV aq bW km⊢;rw [hn,iC] at HR;have kH:=ab cw;have OQ:=ab zm;have HW:=ab lU;have HN:=ab lC;have wM:=ab GD;have zE:=ab GF;have uX:Hid (((ps.drop (i+1)).flatMap aP).length=(n - (i+1)) *6):=by show _=_;rw [←hn];exact lg
 have tC:i+(n - (i+1))=k:=by omega
 have OR:=ab tC;have OS:i≤c:=by omega
 have ae6:i+1≤c:=by omega
 have zi:((i:Int)==(i:Int)+1)=false:=by simp;omega
 clear cw GG zm lU lC GD GF lg tC bG aq bW km sM HF sD hn hk;go_enter func129,ntmps129;go_wp2_with fail;go_region_law (refine step_append_room rfl (.tmp 22) (.tmp 25) 58 rfl 64 i0 6 underlying58 bS cm g 0 i c (by rfl) A (n - (i+1)) (c - (i+1)) _ (by rfl) uX.o_ HN.o_ zE.o_ (by omega) wM.o_ ?_;rw [HW.o_,OR.o_]);go_wp2;exact HR.o_ _ kH.o_ OQ.o_
theorem LC{P:Program}(w:World)(dT sT ty elem:TypeId)(k b o QX aih:Nat)(a:Addr)(QY aii:Nat)(cs:List Value)
 (hu:P.underlying dT=some (.slice elem)) (hs:(P.info? elem).map (·.size)=some k) (hn:cs.length=Nat.min QY QX*k)
 (LD:∀j v,cs[j]? =some v→w.cell? (a.add j)=some v) (hc:∀j,j<cs.length→(w.cell? ⟨b,o+j,none⟩).isSome=true) (hf:∀j,j<cs.length→w.frozen? ⟨b,o+j,none⟩=false) (h1:∀v∈cs,v.oneCell'=true):
 (Builtin.copy_ #[dT,sT] ty #[.slice (some ⟨b,o,none⟩) QX aih,.slice (some a) QY aii]).run P w= .ok (goInt (Nat.min QY QX)) (w.setCells b o cs):=by
 have hl:=run_loadCells_list (P:=P) w a cs LD;have b7:=run_storeCells_cells (P:=P) b o cs 0 w (by simpa using hc) (by simpa using hf) h1;cases hq:P.info? elem with
 |none=>simp [hq] at hs
 |some i=>
  have hi:i.size=k:=by simpa [hq] using hs
  simp [Builtin.copy_,run_underlying hu,Builtin.lenOf,Builtin.firstCells,sizeOf,typeInfo,hq,hi,←hn,hl,b7]
theorem aij{P:Program}(w:World){o:Oper}{a:Act}{K:Act→World→Prop}{Q:Exit→Act→World→Prop}(d s:Operand)(t t':TypeId)
 (ho:o.op= .call {callee:= .builtin .copy,args:=#[d,s],argTypes:=#[t,t']}) (v u:Value) (hd:a.eval d=v) (hs:a.eval s=u) {v':Value} {w':World}
 (hr:(Builtin.copy_ #[t,t'] o.type #[v,u]).run P w= .ok v' w') (h:K (a.put o.dst v') w'):o.wp P a w K Q:=by
 unfold Oper.wp execOp;simp only [ho,resolve,invoke,builtin,Sem.run_bind,Sem.run_pure,Result.andThen_ok,List.map_toArray,List.map_cons,List.map_nil,hd,hs,hr];exact h
theorem Yq{P:Program}(w:World){ops:Array Oper}{rest:List Oper}{o:Oper}{a:Act}{Q:Exit→Act→World→Prop}(kT:o.guard=none)(d s:Operand)(t t':TypeId)
 (ho:o.op= .call {callee:= .builtin .copy,args:=#[d,s],argTypes:=#[t,t']}) (v u:Value) (hd:a.eval d=v) (hs:a.eval s=u) {v':Value} {w':World}
 (hr:(Builtin.copy_ #[t,t'] o.type #[v,u]).run P w= .ok v' w') (h:wpList P ops Q rest (a.put o.dst v') w'):wpList P ops Q (o::rest) a w:=
 wpList_plain kT fun _ hK=>aij w d s t t' ho v u hd hs hr (hK _ _ h)
theorem Yr{P:Program}{ops:Array Oper}{o:Oper}{a:Act}{K:Act→World→Prop}{Q:Exit→Act→World→Prop}{E:Prop}
 (hg:o.guard=none) (d x:Operand) (dT sT:TypeId) (yO:o.op=Op.call {callee:=Callee.builtin Builtin.copy,args:=#[d,x],argTypes:=#[dT,sT]})
 (v u:Value) (hd:a.eval d=v) (hx:a.eval x=u) {v':Value} {w':World} (hr:(Builtin.copy_ #[dT,sT] o.type #[v,u]).run P w= .ok v' w') (hK:K (a.put o.dst v') w'):
 if Region.wanted o (yielded ops a.tmps)=true then Oper.wp P o a w K Q else E:=by
 have hw:Region.wanted o (yielded ops a.tmps)=true:=by simp [Region.wanted,hg]
 rw [if_pos hw];unfold Oper.wp;simp [execOp,yO,resolve,invoke,builtin,hd,hx,hr,Result.andThen];exact hK
theorem aik{c:Nat}{ps:List Sb}{x:Sb}(hi:i≤n)(hn:ps.length=n)(hc:n+1≤c)(h:w.ownsRow B 64 6 (.slice (some ⟨g,0,none⟩) n c) n (ps.flatMap aP)):
 ((w.setCells g ((i+1) *6) ((ps.drop i).flatMap aP)).setCells g (i*6) (aP x)).ownsRow B 64 6 (.slice (some ⟨g,0,none⟩) (n+1) c) (n+1) ((ps.take i++ [x]++ps.drop i).flatMap aP):=by
 have aX:(ps.take i++ [x]++ps.drop i).length=n+1:=by
  rw [List.length_append,List.length_append,List.length_take,List.length_drop];simp
  omega
 refine ⟨by rw [eS 6 aP fT,aX],?_⟩;rcases h.2 with ⟨hv,h0⟩|⟨g',cap,cur,hv,hB,hg,h1,h2,h3,h4⟩
 ·cases hv
 ·simp only [Value.slice.injEq,Option.some.injEq,Addr.mk.injEq] at hv;obtain ⟨⟨rfl,-,-⟩,-,rfl⟩:=hv;obtain ⟨jq,k1,k2,k3⟩:=nT g 64 ((ps.drop i).flatMap aP) ((i+1) *6) w cur hg;obtain ⟨jg,m1,m2,m3⟩:=nT g 64 (aP x) (i*6) _ jq k1;refine .inr ⟨g,c,jg,rfl,hB,m1,hc,h2,by rw [m2,k2];exact h3,?_⟩;have jT:((ps.drop i).flatMap aP).length=(n - i) *6:=by
   rw [eS 6 aP fT,List.length_drop,hn]
  have nG:(aP x).length=6:=rfl;have iB:((ps.take i).flatMap aP).length=i*6:=by
   rw [eS 6 aP fT,List.length_take,Nat.min_eq_left (by omega)]
  have bJ:∀j,j<n*6→cur[j]? =(ps.flatMap aP)[j]?:=fun j hj=>by
   rw [←h4,List.getElem?_take,if_pos hj];simp
  apply List.ext_getElem?;intro j;rw [List.getElem?_take];have e0:jg.toList[j]? =jg[j]?:=by simp
  by_cases hj:j<(n+1) *6
  ·rw [if_pos hj,e0,m3,nG,k2,k3,jT,List.flatMap_append,List.flatMap_append,List.flatMap_singleton];by_cases kj:j<i*6
   ·rw [if_neg (by omega),if_neg (by omega),bJ j (by omega),List.getElem?_append_left (by rw [List.length_append,iB];omega),List.getElem?_append_left (by rw [iB];exact kj),←vW 6 aP fT,List.getElem?_take,if_pos kj]
   ·by_cases QZ:j<i*6+6
    ·rw [if_pos (by omega),List.getElem?_append_left (by rw [List.length_append,iB];omega),List.getElem?_append_right (by rw [iB];omega),iB]
    ·rw [if_neg (by omega),if_pos (by omega),List.getElem?_append_right (by rw [List.length_append,iB];omega),List.length_append,iB,nG,show j - (i+1) *6=j - (i*6+6) by omega]
  ·rw [if_neg hj,List.getElem?_eq_none (by rw [eS 6 aP fT,aX];omega)]
theorem Fq(g n c k:Nat)(z:Int)(hz:z=(k:Int))(hk:k≤n)(hc:c≠k):∀w',(Instr.slice 58 (.slice (some ⟨g,0,none⟩) n c) (some (.int .i64 z)) none none).run prog w'= .ok (.slice (some ⟨g,k*6,none⟩) (n - k) (c - k)) w':=fun w'=>by
 obtain ⟨i0,bS,_,cm,_⟩:=info_parts kW;have he:prog.elem 58=64:=by simp [Program.elem,underlying58]
 subst hz;rw [run_slice_l (P:=prog) w' _ _ n c (by rw [he];exact underlying58) .i64 k (by omega) (by omega),he];simp [sizeOf,typeInfo,bS,cm,sliced,hc,Addr.add_lit]
theorem Ys(g n c k:Nat)(z:Int)(hz:z=(k:Int))(hk:k≤c):∀w',(Instr.slice 58 (.slice (some ⟨g,0,none⟩) n c) none (some (.int .i64 z)) none).run prog w'= .ok (.slice (some ⟨g,0,none⟩) k c) w':=fun w'=>by
 obtain ⟨i0,bS,_,cm,_⟩:=info_parts kW;have he:prog.elem 58=64:=by simp [Program.elem,underlying58]
 subst hz;rw [run_slice_h (P:=prog) w' _ _ n c (by rw [he];exact underlying58) .i64 k (by omega) (by omega),he];by_cases h0:c=0
 ·simp [sizeOf,typeInfo,bS,cm,sliced,h0]
 ·simp [sizeOf,typeInfo,bS,cm,sliced,h0,Addr.add_lit]
theorem Q0(x:Sb):∀u∈aP x,u.oneCell'=true:=fun u hu=>by
 exact Ui
theorem ail{vb:Nat}{x:Sb}(hv:w.heap[vb]? =some (Obj.cells (bB x) 64)):Rd w 6 (some ⟨vb,0,none⟩) 1 (aP x):=⟨rfl,fun _=>⟨vb,0,rfl,fun j hj=>by
 rw [zero_add,af w vb j _ _ _ hv];simp [aP]⟩⟩
theorem aim(l:List Sb)(x:Sb)(n:Nat)(hl:n≤100000)(sv:Value)(w:World)(ho:w.ownsRow 0 64 6 sv n (l.flatMap aP))(vb:Nat)(hv:w.heap[vb]? =some (Obj.cells (bB x) 64))(R:Ending→World→Prop)
 (hR:∀ad c w',w'.ownsRow 0 64 6 (.slice ad (n+1) c) (n+1) (l.flatMap aP++aP x)→w.grownBy w' sv.ownBlock→((Value.slice ad (n+1) c).ownBlock=sv.ownBlock∨(Value.slice ad (n+1) c).ownBlock=some w.heap.size)→R (.returned (.slice ad (n+1) c)) w'):
 Calls prog 111 #[sv,.int .i64 n,.slice (some ⟨vb,0,none⟩) 1 1] w R:=by
 have HR:=ab hR;obtain ⟨sa,sc,rfl⟩:=bF ho;obtain ⟨i0,bS,_,cm,_⟩:=info_parts kW;obtain ⟨ax,df,_,_⟩:=bf.from (k:=n) (bf.gW ho) underlying58 bS cm (Nat.le_refl _);have HO:=ab ho;have bG:=ail hv;clear hR ho hv;go_enter func111,ntmps111;go_wp2_with (first
  |(at_builtin;have hq:=bG;go_must (refine gj (by rfl) (.tmp 23) (.tmp 24) 58 (by rfl) 0 64 (.agg fX) 6 48 underlying58 kW rfl (by decide) sa n sc _ (by rfl) HO.o_ (some ⟨vb,0,none⟩) 1 1 (aP x) (by rfl) bG (Q0 x) (fun h=>by cases h) (by unfold maxLen;omega) (by omega) (Nat.zero_le _) ?_);intro eC c9 w9 cI bo Yt;have rL:=ab cI;have s_:=ab bo;have ain:=ab Yt;clear bG hq cI bo Yt))
 exact HR.o_ _ _ _ rL.o_ s_.o_ ain.o_
theorem aio(l:List Sb)(x:Sb)(n:Nat)(hn:l.length=n)(hl:n≤100000)(i:Nat)(hi:i<n)(g c:Nat)(hc:n+1≤c)(w:World)(ho:w.ownsRow 0 64 6 (.slice (some ⟨g,0,none⟩) n c) n (l.flatMap aP))(vb:Nat)(hv:w.heap[vb]? =some (Obj.cells (bB x) 64))(bh:vb≠g)(R:Ending→World→Prop)
 (hR:∀w',w'.ownsRow 0 64 6 (.slice (some ⟨g,0,none⟩) (n+1) c) (n+1) ((l.take i++ [x]++l.drop i).flatMap aP)→w.grownBy w' (some g)→R (.returned (.slice (some ⟨g,0,none⟩) (n+1) c)) w'):
 Calls prog 111 #[.slice (some ⟨g,0,none⟩) n c,.int .i64 i,.slice (some ⟨vb,0,none⟩) 1 1] w R:=by
 have HR:=ab hR;obtain ⟨i0,bS,_,cm,_⟩:=info_parts kW;have bm:(prog.info? 64).map (·.size)=some 6:=by rw [bS];simp [cm]
 obtain ⟨cur,vI,dm,j3⟩:∃cur:Array Value,w.heap[g]? =some (.cells cur 64 (0,0))∧cur.size=c*6∧c≤maxLen:=by
  rcases ho.2 with ⟨hv,_⟩|⟨g',cap,cur,hv,_,hg,_,h2,h3,_⟩
  ·cases hv
  ·simp only [Value.slice.injEq,Option.some.injEq,Addr.mk.injEq] at hv;obtain ⟨⟨rfl,-,-⟩,-,rfl⟩:=hv;exact ⟨cur,hg,h3,h2⟩
 have aqH:c≤9223372036854775807:=j3;have cw:=aik (i:=i) (x:=x) (Nat.le_of_lt hi) hn hc (aK ho (Below.refl w w).drew);have aip:=Fq g n c i (i:Int) rfl (Nat.le_of_lt hi) (by omega);have aiq:=Ys g n c (n+1) ((n:Int)+1) (by omega) hc;have Yu:=Fq g (n+1) c (i+1) ((i:Int)+1) (by omega) (by omega) (by omega);have rQ:n+1 - (i+1)=n - i:=by omega
 rw [rQ] at Yu;clear rQ;have Yv:=Fq g (n+1) c i (i:Int) rfl (by omega) (by omega);have jT:((l.drop i).flatMap aP).length=(n - i) *6:=by rw [eS 6 aP fT,List.length_drop,hn]
 have aq:=ho;have LD:∀j v,((l.drop i).flatMap aP)[j]? =some v→w.drew.cell? ⟨g,i*6+j,none⟩=some v:=fun j v hj=>by
  have pT:j<(n - i) *6:=by rw [←jT];exact (List.getElem?_eq_some_iff.1 hj).1
  show w.cell? _=_;rw [ho.cellAt (i*6+j) (by omega)];rw [←AQ 6 aP fT,List.getElem?_drop] at hj;exact hj
 have aW:∀(y:World),(∃cy:Array Value,y.heap[g]? =some (.cells cy 64 (0,0))∧cy.size=c*6)→∀j,j<c*6→(y.cell? ⟨g,j,none⟩).isSome=true∧y.frozen? ⟨g,j,none⟩=false:=fun y ⟨cy,h1,h2⟩ j hj=>by
  refine ⟨?_,frozen_of_row y g j cy _ h1⟩;rw [af y g j cy _ _ h1,Array.getElem?_eq_getElem (by omega)]
  rfl
 obtain ⟨W1,lU⟩:=ai (w.drew.setCells g ((i+1) *6) ((l.drop i).flatMap aP));have air:∀ty,(Builtin.copy_ #[58,58] ty #[.slice (some ⟨g,(i+1) *6,none⟩) (n - i) (c - (i+1)),.slice (some ⟨g,i*6,none⟩) (n+1 - i) (c - i)]).run prog w.drew= .ok (goInt ((n - i:Nat):Int)) W1:=fun ty=>by
  rw [←lU,LC w.drew _ _ ty 64 6 g ((i+1) *6) _ _ ⟨g,i*6,none⟩ _ _ ((l.drop i).flatMap aP) underlying58 bm (by rw [jT];congr 1;simp only [min_def];split<;>omega) (fun j v hj=>by rw [Addr.add_lit];exact LD j v hj) (fun j hj=>(aW w.drew ⟨cur,vI,dm⟩ _ (by rw [jT] at hj;omega)).1) (fun j hj=>(aW w.drew ⟨cur,vI,dm⟩ _ (by rw [jT] at hj;omega)).2) (sE _),show Nat.min (n+1 - i) (n - i)=n - i by simp only [min_def];split<;>omega]
 obtain ⟨jq,q1,q2,_⟩:=nT g 64 ((l.drop i).flatMap aP) ((i+1) *6) w.drew cur vI;have iX:w.grownBy W1 (some g):=by rw [←lU];exact bO (iT ((Below.refl w w).drew)) (pU _ _ _ _)
 rw [lU] at q1 cw;have Ib:W1.heap[vb]? =some (Obj.cells (bB x) 64):=(iX.block vb (Array.getElem?_eq_some_iff.1 hv).1 (fun e=>bh (Option.some.inj e))).trans hv;have ais:∀ty,(Builtin.copy_ #[58,58] ty #[.slice (some ⟨g,i*6,none⟩) (n+1 - i) (c - i),.slice (some ⟨vb,0,none⟩) 1 1]).run prog W1= .ok (goInt 1) (W1.setCells g (i*6) (aP x)):=fun ty=>by
  rw [LC W1 _ _ ty 64 6 g (i*6) _ _ ⟨vb,0,none⟩ _ _ (aP x) underlying58 bm (by rw [show Nat.min 1 (n+1 - i)=1 by simp only [min_def];split<;>omega];rfl) (fun j v hj=>by rw [Addr.add_lit,zero_add,af W1 vb j _ _ _ Ib,←hj];simp [aP]) (fun j hj=>(aW W1 ⟨jq,q1,by rw [q2,dm]⟩ _ (by have hj:j<6:=hj;omega)).1) (fun j hj=>(aW W1 ⟨jq,q1,by rw [q2,dm]⟩ _ (by have hj:j<6:=hj;omega)).2) (Q0 x),show Nat.min 1 (n+1 - i)=1 by simp only [min_def];split<;>omega]
  rfl
 have Yw:∀w',w'.heap[vb]? =some (Obj.cells (bB x) 64)→(∃cy:Array Value,w'.heap[g]? =some (.cells cy 64 (0,0))∧cy.size=c*6)→(callFunc 145 #[.slice (some ⟨vb,0,none⟩) 1 1,.slice (some ⟨g,(i+1) *6,none⟩) (n - i) (c - (i+1))]).run prog w'= .ok (.value (.bool false)) w':=fun w' dO ⟨cy,h1,h2⟩=>by
  rw [run_callFunc_extern func145 (by kernel_rfl) (by kernel_rfl) (by kernel_rfl) (e:=Extern.SlicesOverlaps.overlaps #[58,58] #[4]) (by kernel_rfl),
   Lib.run_overlaps_apart w' 58 4 64 underlying58 6 (fun w=>by simp [sizeOf,typeInfo,bS,cm]) ⟨vb,0,none⟩ ⟨g,(i+1) *6,none⟩ _ _ _ _ bh 64 64 6 cy.size (by simp [World.shape?,dO]) (by simp [World.shape?,h1]) (by omega) (frozen_of_row w' vb 0 _ _ dO) (frozen_of_row w' vb 6 _ _ dO)]
  rfl
 have ait:=Yw w hv ⟨cur,vI,dm⟩;have kH:=ab cw;have Q1:=ab (bO iX (pU _ _ _ _:W1.grownBy (W1.setCells g (i*6) (aP x)) (some g)));have zi:((i:Int)==(n:Int))=false:=by simp;omega
 have gU:¬(i:Int)=(n:Int):=by omega
 have aiu:IntKind.i64.wrap ((n:Int)+1)=(n:Int)+1:=by rw [IntKind.wrap_i64];omega
 have pF:IntKind.i64.wrap ((i:Int)+1)=(i:Int)+1:=by rw [IntKind.wrap_i64];omega
 have sy:¬(c:Int)<(n:Int)+1:=by omega
 have HW:=ab lU;clear hR ho aq hv LD aW vI dm q1 q2 iX Ib Yw cw jT hn lU hi bh;go_enter func111,ntmps111;go_wp2_with (simp only [ait]);go_region_law (refine Yr rfl _ _ 58 58 rfl (.slice (some ⟨g,(i+1) *6,none⟩) (n - i) (c - (i+1))) (.slice (some ⟨g,i*6,none⟩) (n+1 - i) (c - i)) (by simp [Act.eval,Act.put]) (by simp [Act.eval,Act.put]) (air _) ?_);go_wp2_with (at_builtin;refine Yq _ rfl _ _ 58 58 rfl (.slice (some ⟨g,i*6,none⟩) (n+1 - i) (c - i)) (.slice (some ⟨vb,0,none⟩) 1 1) rfl rfl (ais _) ?_);exact HR.o_ _ kH.o_ Q1.o_
theorem aiv{c:Nat}{sf:Array Value}{ps:List Sb}{x:Sb}(hi:i≤n)(hn:ps.length=n)(hc:n+1≤c)(AN:c≤maxLen)(hN:w.heap[N]? =some (.cells sf 64 (0,0)))(hR:sf.size=c*6)(LF:∀j,j<i*6→sf[j]? =(ps.flatMap aP)[j]?):
 ((w.setCells N (i*6) (aP x)).drew.setCells N ((i+1) *6) ((ps.drop i).flatMap aP)).ownsRow N 64 6 (.slice (some ⟨N,0,none⟩) (n+1) c) (n+1) ((ps.take i++ [x]++ps.drop i).flatMap aP):=by
 have aX:(ps.take i++ [x]++ps.drop i).length=n+1:=by
  rw [List.length_append,List.length_append,List.length_take,List.length_drop];simp
  omega
 refine ⟨by rw [eS 6 aP fT,aX],?_⟩;obtain ⟨jq,k1,k2,k3⟩:=nT N 64 (aP x) (i*6) w sf hN;generalize w.setCells N (i*6) (aP x)=V at k1⊢;have aiw:V.drew.heap[N]? =some (.cells jq 64 (0,0)):=k1;obtain ⟨jg,m1,m2,m3⟩:=nT N 64 ((ps.drop i).flatMap aP) ((i+1) *6) V.drew jq aiw;refine .inr ⟨N,c,jg,rfl,Nat.le_refl _,m1,hc,AN,by rw [m2,k2];exact hR,?_⟩;have jT:((ps.drop i).flatMap aP).length=(n - i) *6:=by
  rw [eS 6 aP fT,List.length_drop,hn]
 have nG:(aP x).length=6:=rfl;have iB:((ps.take i).flatMap aP).length=i*6:=by
  rw [eS 6 aP fT,List.length_take,Nat.min_eq_left (by omega)]
 apply List.ext_getElem?;intro j;rw [List.getElem?_take];have e0:jg.toList[j]? =jg[j]?:=by simp
 by_cases hj:j<(n+1) *6
 ·have Yx:=k3 j;rw [nG] at Yx;rw [if_pos hj,e0,m3,Yx,k2,jT,List.flatMap_append,List.flatMap_append,List.flatMap_singleton];by_cases kj:j<i*6
  ·rw [if_neg (by omega),if_neg (by omega),LF j kj,List.getElem?_append_left (by rw [List.length_append,iB];omega),List.getElem?_append_left (by rw [iB];exact kj),←vW 6 aP fT,List.getElem?_take,if_pos kj]
  ·by_cases QZ:j<i*6+6
   ·rw [if_neg (by omega),if_pos (by omega),List.getElem?_append_left (by rw [List.length_append,iB];omega),List.getElem?_append_right (by rw [iB];omega),iB]
   ·rw [if_pos (by omega),List.getElem?_append_right (by rw [List.length_append,iB];omega),List.length_append,iB,nG,show j - (i+1) *6=j - (i*6+6) by omega]
 ·rw [if_neg hj,List.getElem?_eq_none (by rw [eS 6 aP fT,aX];omega)]
theorem aix(l:List Sb)(x:Sb)(n:Nat)(hn:l.length=n)(hl:n≤100000)(i:Nat)(hi:i<n)(g c:Nat)(hc:c<n+1)(w:World)(ho:w.ownsRow 0 64 6 (.slice (some ⟨g,0,none⟩) n c) n (l.flatMap aP))(vb:Nat)(hv:w.heap[vb]? =some (Obj.cells (bB x) 64))(R:Ending→World→Prop)
 (hR:∀N c' w',w'.ownsRow 0 64 6 (.slice (some ⟨N,0,none⟩) (n+1) c') (n+1) ((l.take i++ [x]++l.drop i).flatMap aP)→w.grownBy w' (some g)→N=w.heap.size→R (.returned (.slice (some ⟨N,0,none⟩) (n+1) c')) w'):
 Calls prog 111 #[.slice (some ⟨g,0,none⟩) n c,.int .i64 i,.slice (some ⟨vb,0,none⟩) 1 1] w R:=by
 have HR:=ab hR;obtain ⟨i0,bS,j2,cm,DK⟩:=info_parts kW;have bm:(prog.info? 64).map (·.size)=some 6:=by rw [bS];simp [cm]
 obtain ⟨cur,vI,dm,Yy,Yz⟩:∃cur:Array Value,w.heap[g]? =some (.cells cur 64 (0,0))∧cur.size=c*6∧n≤c∧cur.toList.take (n*6)=l.flatMap aP:=by
  rcases ho.2 with ⟨hv,_⟩|⟨g',cap,cur,hv,_,hg,h1,h2,h3,h4⟩
  ·cases hv
  ·simp only [Value.slice.injEq,Option.some.injEq,Addr.mk.injEq] at hv;obtain ⟨⟨rfl,-,-⟩,-,rfl⟩:=hv;exact ⟨cur,hg,h3,h1,h4⟩
 obtain rfl:c=n:=by omega
 have zm:g<w.heap.size:=(Array.getElem?_eq_some_iff.1 vI).1;have aiy:vb<w.heap.size:=(Array.getElem?_eq_some_iff.1 hv).1;have dI:(l.flatMap aP).length=c*6:=by rw [eS 6 aP fT,hn]
 have bd:(c:Int)+1 - (i:Int)=((c+1 - i:Nat):Int):=by omega
 have FW:i+(c+1 - i)=c+1:=by omega
 have iB:((l.take i).flatMap aP).length=i*6:=by
  rw [eS 6 aP fT,List.length_take,Nat.min_eq_left (by omega)]
 have jT:((l.drop i).flatMap aP).length=(c - i) *6:=by rw [eS 6 aP fT,List.length_drop,hn]
 have hold:(Builtin.firstCells i0.size i (.slice (some ⟨g,0,none⟩) i c)).run prog w.drew= .ok ((l.take i).flatMap aP).toArray w.drew:=by
  rw [cm];have h:=run_loadCells_list (P:=prog) w.drew ⟨g,0,none⟩ ((l.take i).flatMap aP) (fun j v hj=>by
   rw [Addr.add_lit,zero_add];show w.cell? _=_;have pT:j<i*6:=by rw [←iB];exact (List.getElem?_eq_some_iff.1 hj).1
   rw [ho.cellAt j (by omega)];rw [←vW 6 aP fT,List.getElem?_take,if_pos pT] at hj;exact hj)
  rw [iB] at h;exact h
 obtain ⟨G,hG⟩:∃G,G=grownCap w (c+1) c 64:=⟨_,rfl⟩
 obtain ⟨sf,LG⟩:∃sf:Array Value,sf=((l.take i).flatMap aP).toArray++Builtin.zeroCells (Value.agg (fX:Array Value)).cells (c+1 - i)++Builtin.zeroCells (Value.agg (fX:Array Value)).cells (G - (c+1)):=⟨_,rfl⟩
 have aiz:c+1≤G:=by rw [hG];exact grownCap_ge w _ _ _
 have YA:G≤maxLen:=by
  rw [hG];exact grownCap_le_maxLen w (c+1) c 64 (by unfold maxLen;omega)
 have Kr:(Value.agg (fX:Array Value)).cells.size=6:=rfl;have Fs:sf.size=G*6:=by
  rw [LG];simp only [Array.size_append,Builtin.zeroCells,Array.size_map,Array.size_range,Kr,List.size_toArray,iB]
  omega
 have YB:∀j,j<i*6→sf[j]? =(l.flatMap aP)[j]?:=fun j hj=>by
  rw [LG,Array.getElem?_append_left (by simp only [Array.size_append,List.size_toArray,iB];omega),Array.getElem?_append_left (by simp only [List.size_toArray,iB];omega),List.getElem?_toArray,←vW 6 aP fT,List.getElem?_take,if_pos hj]
 have YC:∀ty,(Builtin.append_ #[58,3] ty #[.slice (some ⟨g,0,none⟩) i c,.int .i64 ((c:Int)+1 - (i:Int))]).run prog w=
  .ok (.slice (some ⟨w,0,none⟩) (c+1) G) (w.drew.alloc (.cells sf 64)):=fun ty=>by
  have h:=Lib.run_append_grow_zeros w 58 3 ty 64 i0 _ .i64 .i64 underlying58 underlying3 bS j2 (some ⟨g,0,none⟩) i c _ hold (c+1 - i) (by omega) (by rw [cm];omega) (by omega) (by omega) (by rw [DK];omega) (by rw [DK,FW];exact growslice_fits (by omega) (by omega));rw [FW,←hG,←LG] at h;rw [bd];exact h
 obtain ⟨N,hN⟩:=ai w.heap.size;obtain ⟨W0,Q2⟩:=ai (w.drew.alloc (.cells sf 64));rw [Q2,hN] at YC;have Ic:W0.heap[N]? =some (.cells sf 64 (0,0)):=by rw [←Q2,←hN];exact heap_alloc_new w.drew _
 have aL:Below w w W0:=by rw [←Q2];exact (Below.refl w w).drew.alloc (Nat.le_refl _) _
 have Ie:∀(y:World),(∃cy:Array Value,y.heap[N]? =some (.cells cy 64 (0,0))∧cy.size=G*6)→∀j,j<G*6→(y.cell? ⟨N,j,none⟩).isSome=true∧y.frozen? ⟨N,j,none⟩=false:=fun y ⟨cy,h1,h2⟩ j hj=>by
  refine ⟨?_,frozen_of_row y N j cy _ h1⟩;rw [af y N j cy _ _ h1,Array.getElem?_eq_getElem (by omega)]
  rfl
 have YD:W0.heap[vb]? =some (Obj.cells (bB x) 64):=aA hv aL;obtain ⟨W1,lU⟩:=ai (W0.setCells N (i*6) (aP x));have aiA:∀ty,(Builtin.copy_ #[58,58] ty #[.slice (some ⟨N,i*6,none⟩) (c+1 - i) (G - i),.slice (some ⟨vb,0,none⟩) 1 1]).run prog W0= .ok (goInt 1) W1:=fun ty=>by
  rw [LC W0 _ _ ty 64 6 N (i*6) _ _ ⟨vb,0,none⟩ _ _ (aP x) underlying58 bm (by rw [show Nat.min 1 (c+1 - i)=1 by simp only [min_def];split<;>omega];rfl) (fun j v hj=>by rw [Addr.add_lit,zero_add,af W0 vb j _ _ _ YD,←hj];simp [aP]) (fun j hj=>(Ie W0 ⟨sf,Ic,Fs⟩ _ (by have hj:j<6:=hj;omega)).1) (fun j hj=>(Ie W0 ⟨sf,Ic,Fs⟩ _ (by have hj:j<6:=hj;omega)).2) (Q0 x),show Nat.min 1 (c+1 - i)=1 by simp only [min_def];split<;>omega,lU]
  rfl
 obtain ⟨jq,q1,q2,_⟩:=nT N 64 (aP x) (i*6) W0 sf Ic;rw [lU] at q1;have iX:W0.grownBy W1 (some N):=by rw [←lU];exact pU _ _ _ _
 have YE:g≠N:=by omega
 have YF:W1.heap[g]? =some (.cells cur 64 (0,0)):=(iX.block g (by have:=aL.size;omega) (fun e=>YE (Option.some.inj e))).trans (aA vI aL);have aiB:∀ty,(Builtin.copy_ #[58,58] ty #[.slice (some ⟨N,(i+1) *6,none⟩) (c - i) (G - (i+1)),.slice (some ⟨g,i*6,none⟩) (c - i) (c - i)]).run prog W1.drew= .ok (goInt ((c - i:Nat):Int)) (W1.drew.setCells N ((i+1) *6) ((l.drop i).flatMap aP)):=fun ty=>by
  rw [LC W1.drew _ _ ty 64 6 N ((i+1) *6) _ _ ⟨g,i*6,none⟩ _ _ ((l.drop i).flatMap aP) underlying58 bm (by rw [jT,show Nat.min (c - i) (c - i)=c - i by simp only [min_def];split<;>omega]) (fun j v hj=>by
   have pT:j<(c - i) *6:=by rw [←jT];exact (List.getElem?_eq_some_iff.1 hj).1
   rw [Addr.add_lit];show W1.cell? _=_;rw [af W1 g _ cur _ _ YF];rw [←AQ 6 aP fT,List.getElem?_drop] at hj;rw [←hj,←Yz,List.getElem?_take,if_pos (by omega)];simp) (fun j hj=>(Ie W1.drew ⟨jq,q1,by rw [q2,Fs]⟩ _ (by rw [jT] at hj;omega)).1) (fun j hj=>(Ie W1.drew ⟨jq,q1,by rw [q2,Fs]⟩ _ (by rw [jT] at hj;omega)).2) (sE _),show Nat.min (c - i) (c - i)=c - i by simp only [min_def];split<;>omega]
 have cw:=aiv (x:=x) (Nat.le_of_lt hi) hn aiz YA Ic Fs YB;rw [lU] at cw;have aip:=Fq g c c i (i:Int) rfl (by omega) (by omega);have aiq:=Ys g c c i (i:Int) rfl (by omega);have Yu:=Fq N (c+1) G i (i:Int) rfl (by omega) (by omega);have Yv:=Fq N (c+1) G (i+1) ((i:Int)+1) (by omega) (by omega) (by omega);have rQ:c+1 - (i+1)=c - i:=by omega
 rw [rQ] at Yv;have gU:¬(i:Int)=(c:Int):=by omega
 have aiu:IntKind.i64.wrap ((c:Int)+1)=(c:Int)+1:=by rw [IntKind.wrap_i64];omega
 have pF:IntKind.i64.wrap ((i:Int)+1)=(i:Int)+1:=by rw [IntKind.wrap_i64];omega
 have aiC:IntKind.i64.wrap ((c:Int)+1 - (i:Int))=(c:Int)+1 - (i:Int):=by rw [IntKind.wrap_i64];omega
 have sy:(c:Int)<(c:Int)+1:=by omega
 have kH:Hid ((W1.drew.setCells N ((i+1) *6) ((l.drop i).flatMap aP)).ownsRow 0 64 6 (.slice (some ⟨N,0,none⟩) (c+1) G) (c+1) ((l.take i++ [x]++l.drop i).flatMap aP)):=ab (bN cw (Nat.zero_le _));have YG:w.grownBy (W1.drew.setCells N ((i+1) *6) ((l.drop i).flatMap aP)) (some g):=by
  have h1:Below w w W1:=aL.trans (ry iX aL.size (fun k hk=>by cases hk;omega));have h2:Below w w W1.drew:=h1.drew;exact iT (h2.trans (ry (pU _ _ _ _:W1.drew.grownBy (W1.drew.setCells N ((i+1) *6) ((l.drop i).flatMap aP)) (some N)) h2.size (fun k hk=>by cases hk;omega)))
 have Q1:=ab YG;have vB:Hid (N=w.heap.size):=hN.symm;clear hR ho hv vI dm Yy Yz zm aiy dI bd FW iB jT hold hG LG Fs YB YA Kr Ie Ic aL YD lU q1 q2 iX YE YF cw rQ YG hN hn hi bS j2 cm DK bm;go_enter func111,ntmps111;go_wp2_with (first
  |(at_builtin;refine Lib.wpList_append_run _ rfl _ _ _ _ rfl _ _ rfl rfl _ _ (YC _) ?_)
  |(at_builtin;refine Yq _ rfl _ _ 58 58 rfl (.slice (some ⟨N,i*6,none⟩) (c+1 - i) (G - i)) (.slice (some ⟨vb,0,none⟩) 1 1) rfl rfl (aiA _) ?_))
 go_region_law (refine Yr rfl _ _ 58 58 rfl (.slice (some ⟨N,(i+1) *6,none⟩) (c - i) (G - (i+1))) (.slice (some ⟨g,i*6,none⟩) (c - i) (c - i)) (by simp [Act.eval,Act.put]) (by simp [Act.eval,Act.put]) (aiB _) ?_);go_wp2;exact HR.o_ N G _ kH.o_ Q1.o_ vB.o_
end Go.Proofs.YtgimbocoamnkjaaGreatDoor
