/- A part of the proof of SessionPlays, printed small; no conditions of its own. -/
import Derived.Test.YtgimbocoamnkjaaGreatDoorM11
import Derived.Sort.OwnSortedInts
set_option maxRecDepth 100000
set_option maxHeartbeats 16000000
namespace Go.Proofs.YtgimbocoamnkjaaGreatDoor
open _root_.Go.Proofs.Tryz
open List (drop_eq_getElem_cons)
open Nat (ne_of_gt)
variable{x:Im}{l:List Pr}{xs:List Value}{A B B' N T dc e j k n size t:Nat}{ad da pa:Option Addr}{v v':Value}{w w' w0:World}
open Go.RowKit
structure xb(x:Im):Prop where
 n:C5 x.note
 nb:AJ x.note
 nl:(eK x.note).length≤65535
 pl:(x.note.props.flatMap bV).length≤65535
 q0:0≤x.al
 q1:x.al≤2
 ni:x.ids.length<256
 ir:∀i∈x.ids,1≤i∧i≤268435455
 st:dV x.share=true
 sl:x.share.length≤65535
theorem xb.b(h:xb x):gb x:=⟨h.nb,by have:=h.ni;omega,by have:=h.sl;omega,by have:=h.q0;have:=h.q1;omega⟩
theorem aga(x:Int)(h0:0≤x)(h1:x<4294967296)(t:List UInt8):ny 4 ⟨aR (bj x) 4++t,false⟩=(x,⟨t,false⟩):=by
 have e:((bj x:Nat):Int)=x:=by
  unfold bj
  omega
 rw [O9,Cs 4 (bj x) (by decide) (by have:=e;omega),IntKind.wrap_i64,e];simp only [Prod.mk.injEq,and_true]
 omega
def pG(l:List Int):List UInt8:=l.flatMap (fun i=>aR (bj i) 4)
theorem agb(l:List Int):(pG l).length=l.length*4:=by
 unfold pG
 induction l with
 |nil=>rfl
 |cons a t ih=>rw [List.flatMap_cons,List.length_append,ih,eU,List.length_cons];omega
theorem xb.il(h:xb x):(jf x).length≤200000:=by
 have h1:=h.nl;have h2:=zO (l:=eK x.note) h1;have h3:=wP (l:=x.share) h.sl;have h4:=agb x.ids;have h5:=h.ni;have h6:=h.sl;unfold pG at h4;unfold jf;simp only [List.length_append,List.length_cons,List.length_nil]
 omega
theorem agc(x:Im)(h:xb x):∃m:Nat,m<256∧bits .and .i64 (m:Int) 3=x.al∧(bits .and .i64 (m:Int) 4 != 0)=x.aM∧C2 ⟨jf x,false⟩=(eK x.note,⟨[b8 (kr x.al x.aM)]++([b8 (x.ids.length:Int)]++(pG x.ids++(b5 x.share).1)),false⟩)∧
 ny 1 ⟨[b8 (kr x.al x.aM)]++([b8 (x.ids.length:Int)]++(pG x.ids++(b5 x.share).1)),false⟩=((m:Int),⟨[b8 (x.ids.length:Int)]++(pG x.ids++(b5 x.share).1),false⟩)∧ny 1 ⟨[b8 (x.ids.length:Int)]++(pG x.ids++(b5 x.share).1),false⟩=((x.ids.length:Int),⟨pG x.ids++(b5 x.share).1,false⟩)∧zJ ⟨(b5 x.share).1,false⟩=(x.share,⟨[],false⟩):=by
 obtain ⟨m,hm,gJ,lM,vd⟩:=Wx x.al x.aM h.q0 h.q1;refine ⟨m,gJ,lM,vd,?_,?_,GW x.ids.length h.ni _,?_⟩
 ·have e:jf x=(cS (eK x.note)).1++([b8 (kr x.al x.aM)]++([b8 (x.ids.length:Int)]++(pG x.ids++(b5 x.share).1))):=by
   unfold jf pG;simp only [List.append_assoc]
  rw [e];exact Wv _ _ h.nl
 ·rw [hm];exact GW m gJ _
 ·have:=O8 x.share [] h.sl h.st
  rwa [List.append_nil] at this
theorem agd{l:List Int}(hk:k<l.length):pG (l.drop k)=aR (bj l[k]) 4++pG (l.drop (k+1)):=by
 unfold pG;rw [drop_eq_getElem_cons hk,List.flatMap_cons]
theorem qV:(prog.info? 3).map (fun i=>(i.zero,i.size,i.bytes))=some (some (.int .i64 0),1,8):=by kernel_rfl
theorem G8{e' Pp n':Nat}{Pq:List Value}(h:w.ownsRow B e size v n xs)(h':w.ownsRow B' e' Pp v' n' Pq)(ht:e≠e')(hg:w.grownBy w' v'.ownBlock):w'.ownsRow B e size v n xs:=
 cY h hg fun k hk hc=>by
  have h1:=eI h k hk;have h2:=eI h' k hc.symm
  omega
theorem cZ.kinds{e' Pp n':Nat}{Pq:List Value}(h:cZ w B v l)(h':w.ownsRow B' e' Pp v' n' Pq)(h1:e'≠147)(h2:e'≠5)(hg:w.grownBy w' v'.ownBlock):cZ w' B v l:=by
 obtain ⟨ds,hd,hr,he,ha⟩:=h;exact ⟨ds,hd,G8 hr h' (Ne.symm h1) hg,fun i hi=>G8 (he i hi) h' (Ne.symm h2) hg,ha⟩
theorem CR.app{s:Cu}(h:CR w0 t N s w)(ho:w.ownsRow B e size v n xs)(ht:t≠e)(hB:w0.heap.size≤B)(hg:w.grownBy w' v.ownBlock):CR w0 t N s w':=by
 obtain ⟨ad,c,hr,hs⟩:=h.row;exact ⟨⟨ad,c,eG hg hr (dU hr ho ht),hs⟩,bC h.low hg h.low.size (bN ho hB),h.nn,h.len⟩
structure IL(w wr:World)(N A T B0:Nat)(aJ az:List UInt8)(c_:Int)(aE:Bool)(src:List UInt8)(aN:Int)(props:List Pr)(origin number aQ al:Int)(aM:Bool)(ids:List Int)(SS:List UInt8)(da:Option Addr)(dc:Nat)(pa:Option Addr)(pc:Nat)(j k:Nat)(ia:Option Addr)(ic:Nat):Prop where
 cr:CR w 189 N ⟨pG (ids.drop j)++SS,false⟩ wr
 tr:wr.heap[T]? =some (Obj.cells #[.string (str aJ),.slice da az.length dc,.int .i64 c_,.bool aE,.string (str src),.int .i64 aN,.slice pa props.length pc,.int .i64 origin,.int .i64 number,.int .i64 aQ,.int .i64 al,.bool aM,.slice ia k ic,.string ⟨#[]⟩] 36)
 ar:wr.heap[A]? =some (Obj.cells a_ 36)
 po:wr.ownsRow B0 5 1 (.slice da az.length dc) az.length (bv az)
 qo:cZ wr B0 (.slice pa props.length pc) props
 io:wr.ownsRow B0 3 1 (.slice ia k ic) k (Go.Proofs.YtgimbocoamnkjaaGreatDoor.iv (ids.take k))
theorem IL.cur{wr:World}{B0:Nat}{aJ az:List UInt8}{c_:Int}{aE:Bool}{src:List UInt8}{aN:Int}{props:List Pr}{origin number aQ al:Int}{aM:Bool}{ids:List Int}{SS:List UInt8}{pc:Nat}{j':Nat}{ia:Option Addr}{ic:Nat}(h:IL w wr N A T B0 aJ az c_ aE src aN props origin number aQ al aM ids SS da dc pa pc j k ia ic)(hc:CR w 189 N ⟨pG (ids.drop j')++SS,false⟩ w')(hg:wr.grownBy w' (some N))(hN:N<B0)(hT:T≠N)(hA:A≠N):IL w w' N A T B0 aJ az c_ aE src aN props origin number aQ al aM ids SS da dc pa pc j' k ia ic:=
 ⟨hc,dQ hg h.tr hT,dQ hg h.ar hA,cY h.po hg (ik h.po hN),h.qo.qI hg hN,cY h.io hg (ik h.io hN)⟩
theorem IL.below{wr:World}{B0:Nat}{aJ az:List UInt8}{c_:Int}{aE:Bool}{src:List UInt8}{aN:Int}{props:List Pr}{origin number aQ al:Int}{aM:Bool}{ids:List Int}{SS:List UInt8}{pc:Nat}{ia:Option Addr}{ic:Nat}(h:IL w wr N A T B0 aJ az c_ aE src aN props origin number aQ al aM ids SS da dc pa pc j k ia ic)(hb:Below wr wr w'):IL w w' N A T B0 aJ az c_ aE src aN props origin number aQ al aM ids SS da dc pa pc j k ia ic:=
 ⟨h.cr.below hb,aA h.tr hb,aA h.ar hb,aK h.po hb,h.qo.below hb,aK h.io hb⟩
theorem IL.app{wr:World}{B0:Nat}{aJ az:List UInt8}{c_:Int}{aE:Bool}{src:List UInt8}{aN:Int}{props:List Pr}{origin number aQ al:Int}{aM:Bool}{ids:List Int}{SS:List UInt8}{pc:Nat}{ia:Option Addr}{ic c:Nat}(h:IL w wr N A T B0 aJ az c_ aE src aN props origin number aQ al aM ids SS da dc pa pc j k ia ic)(x:Int)(hx:ids.take (k+1)=ids.take k++ [x])(hg:wr.grownBy w' (Value.slice ia k ic).ownBlock)(ho:w'.ownsRow B0 3 1 (.slice ad (k+1) c) (k+1) (Go.Proofs.YtgimbocoamnkjaaGreatDoor.iv (ids.take k)++ [.int .i64 x]))(hN:w.heap.size≤B0)(Dc:T≠N)(age:A≠T)(agf:w.heap.size≤T):
 IL w (w'.setCell ⟨T,12,none⟩ (.slice ad (k+1) c)) N A T B0 aJ az c_ aE src aN props origin number aQ al aM ids SS da dc pa pc j (k+1) ad c:=by
 have ht:=eG hg h.tr (dU h.tr h.io (by decide));have bM:=bL w' ⟨T,12,none⟩ (.slice ad (k+1) c);have hc:=h.cr.app h.io (by decide) hN hg;refine ⟨hc.other bM Dc.symm (hc.low.setCell agf _),?_,dQ bM (eG hg h.ar (dU h.ar h.io (by decide))) age,jv (G8 h.po h.io (by decide) hg) ht (by decide) bM,(h.qo.kinds h.io (by decide) (by decide) hg).typed ht (by decide) (by decide) bM,?_⟩
 ·rw [heap_setCell_same w' T 12 _ _ _ ht]
  rfl
 ·rw [hx];have e:Go.Proofs.YtgimbocoamnkjaaGreatDoor.iv (ids.take k++ [x])=Go.Proofs.YtgimbocoamnkjaaGreatDoor.iv (ids.take k)++ [.int .i64 x]:=by
   unfold Go.Proofs.YtgimbocoamnkjaaGreatDoor.iv;simp
  rw [e];exact jv ho ht (by decide) bM
theorem agh(x:Im)(hx:xb x)(v:Value)(w:World)(hv:Bs w v (jf x))(hT:di w)(R:Ending→World→Prop)
 (hR:∀da dc pa pc ia ic w',dJ w' w.heap.size (.slice da x.note.az.length dc) (.slice pa x.note.props.length pc) (.slice ia x.ids.length ic) x→Below w w w'→R (.returned (.tuple #[(Value.agg (aG x da dc pa pc ia ic)),.int .i64 0])) w'):
 Calls prog 113 #[v] w R:=by
 have HR:=ab hR;have HX:=ab hx;have ow:=ab hx.b;obtain ⟨m,hm,lM,vd,k1,k2,k3,k4⟩:=agc x hx;have lB:=hx.il;obtain ⟨⟨aJ,az,c_,aE,src,aN,props,origin,number,aQ⟩,al,aM,ids,share⟩:=x;simp only at lM vd k1 k2 k3 k4;have HV:=ab hv;have HT:=ab hT;obtain ⟨Y,hY⟩:=ai (jf (⟨(⟨aJ,az,c_,aE,src,aN,props,origin,number,aQ⟩:Nt),al,aM,ids,share⟩:Im));rw [hY] at k1 hv lB HV;obtain ⟨va,vc,rfl,_⟩:=id hv;have b1:Below w w (w.alloc (Obj.cells a_ 36)):=(Below.refl _ _).alloc (Nat.le_refl _) _;have b2:Below w w ((w.alloc (Obj.cells a_ 36)).alloc (Obj.cells #[.slice va Y.length vc,.bool false] 189)):=b1.alloc b1.size _;have fO:CR w 189 (w.alloc (Obj.cells a_ 36)).heap.size ⟨Y,false⟩ ((w.alloc (Obj.cells a_ 36)).alloc (Obj.cells #[.slice va Y.length vc,.bool false] 189)):=⟨⟨va,vc,heap_alloc_new _ _,hv⟩,b2,b1.size,by simp only;omega⟩
 have hz:(w.alloc (Obj.cells a_ 36)).heap.size=w.heap.size+1:=(CV w _).symm;rw [hz] at fO;have hA2:=aA (heap_alloc_new w (Obj.cells a_ 36)) ((Below.refl (w.alloc (Obj.cells a_ 36)).heap.size (w.alloc (Obj.cells a_ 36))).alloc (Nat.le_refl _) (Obj.cells #[.slice va Y.length vc,.bool false] 189));obtain ⟨SS,wX⟩:=ai ((b5 share).1);rw [wX] at k1 k2 k3 k4;obtain ⟨s1,ch⟩:∃s:Cu,(⟨[b8 (kr al aM)]++([b8 (ids.length:Int)]++(pG ids++SS)),false⟩:Cu)=s:=⟨_,rfl⟩
 obtain ⟨s2,bt⟩:∃s:Cu,(⟨[b8 (ids.length:Int)]++(pG ids++SS),false⟩:Cu)=s:=⟨_,rfl⟩
 rw [ch] at k1 k2;rw [bt] at k2 k3;have K1:=ab k1;have K2:=ab k2;have K3:=ab k3;have K4:=ab k4;have G2:=ab lM;have agi:=ab vd;have HY:=ab hY;have E':=ab lB;have yv:=ab fO;have aY:=ab b2;have sU:Hid (C5 (⟨aJ,az,c_,aE,src,aN,props,origin,number,aQ⟩:Nt)):=hx.n;have qi:Hid (AJ (⟨aJ,az,c_,aE,src,aN,props,origin,number,aQ⟩:Nt)):=hx.nb;have uX:Hid ((eK (⟨aJ,az,c_,aE,src,aN,props,origin,number,aQ⟩:Nt)).length≤100000000):=Nat.le_trans hx.nl (by decide);have WZ:Hid (((⟨aJ,az,c_,aE,src,aN,props,origin,number,aQ⟩:Nt).props.flatMap bV).length≤90000000):=Nat.le_trans hx.pl (by decide);have agj:Hid ((eK (⟨aJ,az,c_,aE,src,aN,props,origin,number,aQ⟩:Nt)).length≤140737488355328):=Nat.le_trans hx.nl (by decide);have agk:Hid (ids.length≤100000):=Nat.le_trans (Nat.le_of_lt hx.ni) (by decide);have Pu:Hid (ids.length<256):=hx.ni;have HQ:Hid (al<3):=Int.lt_of_le_of_lt (show al≤2 from hx.q1) (by decide);have Pv:Hid (∀i∈ids,1≤i∧i≤268435455):=hx.ir;clear hR hv hT hm lM vd k1 k2 k3 k4 lB hY b1 b2 fO hz ch bt wX hx;go_enter func113,ntmps113;go_upto_region 2 with fail
 generalize (w.alloc (Obj.cells a_ 36)).alloc (Obj.cells #[.slice va Y.length vc,.bool false] 189)=w2 at yv aY hA2⊢;have pB:=ab hA2;have W2:w.heap.size≠w.heap.size+1:=Nat.ne_of_lt (Nat.lt_succ_self _);have jj:=ab W2;clear hA2 W2;go_upto_region 3 with (first
  |(go_at_call 148;go_must (refine V8 _ _ _ _ _ K1.o_ w _ yv.o_ _ ?_);intro xa xc w3 bD j5 cB;have eH:=ab (cp bD);have tN:=ab j5;have yF:=ab (dQ cB pB.o_ jj.o_);clear bD j5 cB)
  |(go_at_call 147;go_must (refine afE (⟨aJ,az,c_,aE,src,aN,props,origin,number,aQ⟩:Nt) sU.o_ qi.o_ _ _ eH.o_ uX.o_ WZ.o_ (HT.o_.below tN.o_.low) _ ?_);intro da dc pa pc w4 W3 W4 ak;have KO:=ab ak.size;have W5:=ab W3;have W6:=ab W4;have mH:=ab (tN.o_.below ak);have yy:=ab (aA yF.o_ ak);clear W3 W4 ak))
 have dz:=heap_alloc_new w4 (Obj.cells (gV aJ da az dc c_ aE src aN pa props pc origin number aQ) 34);have aC:=(Below.refl w4 w4).alloc (Nat.le_refl _) (Obj.cells (gV aJ da az dc c_ aE src aN pa props pc origin number aQ) 34);generalize w4.alloc (Obj.cells (gV aJ da az dc c_ aE src aN pa props pc origin number aQ) 34)=w5 at dz aC⊢;have mE:=ab aC.size;obtain ⟨T5,pH⟩:=ai w4.heap.size;rw [pH] at dz⊢;have mK:=ab dz;have pR:=ab (mH.o_.below aC);have Bn:=ab (aA yy.o_ aC);have W7:=ab (aK W5.o_ aC);have W8:=ab (W6.o_.below aC);have eZ:Hid (w.heap.size+1<w3.heap.size):=tN.o_.lt;clear dz aC pH;go_upto_region 4 with (first
  |(refine wpList_load_row (o:=⟨some 22,.load 34 (.tmp 5),_,_,_,_⟩) (by rfl) 34 (.tmp 5) (by rfl) (T5) (by rfl) 34 _ (0,0) _ (mK).o_ (underlying34) (by rfl) (by kernel_rfl) ?_))
 have iA:=heap_alloc_new w5 (Obj.cells #[.string (str aJ),.slice da az.length dc,.int .i64 c_,.bool aE,.string (str src),.int .i64 aN,.slice pa props.length pc,.int .i64 origin,.int .i64 number,.int .i64 aQ,.int .i64 0,.bool false,.slice none 0 0,.string ⟨#[]⟩] 36);have bg:=(Below.refl w5 w5).alloc (Nat.le_refl _) (Obj.cells #[.string (str aJ),.slice da az.length dc,.int .i64 c_,.bool aE,.string (str src),.int .i64 aN,.slice pa props.length pc,.int .i64 origin,.int .i64 number,.int .i64 aQ,.int .i64 0,.bool false,.slice none 0 0,.string ⟨#[]⟩] 36);generalize w5.alloc (Obj.cells #[.string (str aJ),.slice da az.length dc,.int .i64 c_,.bool aE,.string (str src),.int .i64 aN,.slice pa props.length pc,.int .i64 origin,.int .i64 number,.int .i64 aQ,.int .i64 0,.bool false,.slice none 0 0,.string ⟨#[]⟩] 36)=w6 at iA bg⊢;have ao:=pR.o_.lt;have jh:w3.heap.size≤w5.heap.size:=Nat.le_trans KO.o_ mE.o_;obtain ⟨T,dN⟩:=ai w5.heap.size;rw [dN] at jh;have ep:=ab jh;have bu:=ab tN.o_.low.size;clear jh;rw [dN] at iA ao⊢;have Dc:T≠w.heap.size+1:=ne_of_gt ao;have lu:=ab Dc;have ft:=ab ao;have nB:=ab iA;have mP:=ab (pR.o_.below bg);have xd:=ab (aA Bn.o_ bg);have Pw:=ab (aK W7.o_ bg);have W9:=ab (W8.o_.below bg);clear iA bg dN Dc ao;go_upto_region 5 with (first
  |(go_at_call 149;go_must (refine V9 _ _ _ _ _ K2.o_ w _ mP.o_ _ ?_);intro w7 sO iu;rw [G2.o_,agi.o_];have jD:=dQ iu nB.o_ lu.o_;have qg:=ab jD;have tT:=ab sO;have tO:=ab (dQ iu xd.o_ jj.o_);have W_:=ab (cY Pw.o_ iu (ik Pw.o_ eZ.o_));have Xa:=ab (W9.o_.qI iu eZ.o_);have gw:=af w7 T 10 _ _ _ jD;have f10:=aB jD 10;have kq:=af w7 T 11 _ _ _ jD;have f11:=aB jD 11;clear sO iu jD))
 have gy:w.heap.size≤T:=by have:=ft.o_;omega
 have ig:((w7.setCell ⟨T,10,none⟩ (.int .i64 al)).setCell ⟨T,11,none⟩ (.bool aM)).heap[T]? =some (Obj.cells #[.string (str aJ),.slice da az.length dc,.int .i64 c_,.bool aE,.string (str src),.int .i64 aN,.slice pa props.length pc,.int .i64 origin,.int .i64 number,.int .i64 aQ,.int .i64 al,.bool aM,.slice none 0 0,.string ⟨#[]⟩] 36):=by
  rw [heap_setCell_same _ T 11 _ _ _ (heap_setCell_same w7 T 10 _ _ _ qg.o_)]
  rfl
 have dk:=bO (bL w7 ⟨T,10,none⟩ (.int .i64 al)) (bL _ ⟨T,11,none⟩ (.bool aM));have j6:=tT.o_.other dk lu.o_.symm ((tT.o_.low.setCell gy _).setCell gy _);have Px:w.heap.size≠T:=by have:=ft.o_;omega
 have ox:=dQ dk tO.o_ Px;have Py:=jv W_.o_ qg.o_ (by decide) dk;have Pz:=Xa.o_.typed qg.o_ (by decide) (by decide) dk;generalize (w7.setCell ⟨T,10,none⟩ (.int .i64 al)).setCell ⟨T,11,none⟩ (.bool aM)=w8 at ig j6 ox Py Pz⊢;have agl:=af w8 T 10 _ _ _ ig;have Ks:=ab gy;have zV:=ab Px;have yG:=ab ig;have qM:=ab j6;have xf:=ab ox;have PA:=ab Py;have Xb:=ab Pz;have hq:=HQ.o_;clear ig dk j6 ox Py Pz gw kq f10 f11 gy Px;go_wp2_with (first
  |(go_at_call 150;go_must (refine C3 _ _ _ _ _ _ K3.o_ (by decide) w _ qM.o_ _ ?_);intro w9 nA bo;have iK:Hid (IL w w9 (w.heap.size+1) w.heap.size T w3.heap.size aJ az c_ aE src aN props origin number aQ al aM ids SS da dc pa pc 0 0 none 0):=ab ⟨nA,dQ bo yG.o_ lu.o_,dQ bo xf.o_ jj.o_,cY PA.o_ bo (ik PA.o_ eZ.o_),Xb.o_.qI bo eZ.o_,World.ownsRow_nil _ _ _ _⟩;clear nA bo agl))
 go_loopg [8,9,42] ids.length (fun gn f _ i wr=>∃(k:Nat)(ia:Option Addr)(ic:Nat),k≤ids.length∧gn=ids.length - k∧f= .bool true∧i= .int .i64 k∧Hid (IL w wr (w.heap.size+1) w.heap.size T w3.heap.size aJ az c_ aE src aN props origin number aQ al aM ids SS da dc pa pc k k ia ic))
 case atStart=>exact ⟨0,none,0,Nat.zero_le _,by omega,rfl,rfl,iK⟩
 case round=>
  obtain ⟨k,ia,ic,hk,rfl,rfl,rfl,gi⟩:=hrel;obtain ⟨wo,rfl⟩:∃x,x=wr:=⟨_,rfl⟩
  clear qM yG xf PA Xb iK tT qg tO W_ Xa mP nB xd Pw W9 W7 W8 pR Bn mK W5 W6 mH yy yF;have agm:Hid (w3.heap.size≤wo.heap.size):=Nat.le_of_lt (Nat.lt_of_le_of_lt ep.o_ (Array.getElem?_eq_some_iff.1 gi.o_.tr).1);by_cases ao:k<ids.length
  ·have bd:(k:Int)<(ids.length:Int):=by omega
   have rQ:=Pu.o_;obtain ⟨aI,bn⟩:=Pv.o_ _ (List.getElem_mem ao);have fO:CR w 189 (w.heap.size+1) ⟨aR (bj ids[k]) 4++(pG (ids.drop (k+1))++SS),false⟩ wo:=by
    have:=gi.o_.cr;rw [agd ao,List.append_assoc] at this;exact this
   have qU:ids.take (k+1)=ids.take k++ [ids[k]]:=List.take_succ_eq_append_getElem ao;obtain ⟨x,hx⟩:=ai (ids[k]);rw [hx] at fO aI bn qU;have PD:=ab fO;have E_:=ab qU;have sG:0≤x:=by omega
   have cG:x<4294967296:=by omega
   have pF:Value.int .i64 (wrap64 ((k:Int)+1))= .int .i64 ((k+1:Nat):Int):=by
    have:wrap64 ((k:Int)+1)=(k:Int)+1:=by unfold wrap64;omega
    rw [this];simp
   clear fO qU hx;go_wp2_with (first
    |(go_at_call 150;go_must (refine C3 _ _ _ _ _ _ (aga x sG cG _) (by decide) w _ PD.o_ _ ?_);intro eo sP iE;have Fa:=gi.o_.cur sP iE eZ.o_ lu.o_ jj.o_;have jJ:=ab Fa;have FZ:Hid (w3.heap.size≤(eo.alloc (Obj.cells #[Value.int .i64 x] 3)).heap.size):=ab (Nat.le_trans (Nat.le_trans agm.o_ iE.size) (Nat.le_of_lt (Nat.lt_of_lt_of_le (Nat.lt_succ_self _) (Nat.le_of_eq (CV eo _)))));have jm:=af eo T 12 _ _ _ Fa.tr;clear sP iE Fa)
    |(at_builtin;go_must (refine gj (by rfl) (.tmp 58) (.tmp 60) 25 (by rfl) w3 3 (.int .i64 0) 1 8 underlying25 qV rfl (by decide) ia k ic _ (by rfl) (jJ.o_.below ((Below.refl eo eo).alloc (Nat.le_refl _) (Obj.cells #[Value.int .i64 x] 3))).io (some ⟨eo,0,none⟩) 1 1 [Value.int .i64 x] (by rfl) (cO eo #[Value.int .i64 x] 3 1 1 rfl) (nQ _ _) (fun h=>by cases h) (by unfold maxLen;omega) (by omega) FZ.o_ ?_);intro KR kq dR G9 mQ _;have Xc:=(jJ.o_.below ((Below.refl eo eo).alloc (Nat.le_refl _) (Obj.cells #[Value.int .i64 x] 3))).app x E_.o_ mQ G9 bu.o_ lu.o_ zV.o_ Ks.o_;have sV:=ab Xc;have KT:=jJ.o_.below ((Below.refl eo eo).alloc (Nat.le_refl _) (Obj.cells #[Value.int .i64 x] 3));have PE:=eG mQ KT.tr (dU KT.tr KT.io (by decide));have aqr:=af dR T 12 _ _ _ PE;have f12:=aB PE 12;clear KT PE G9 mQ Xc))
   go_roundg (ids.length - (k+1))
   case measure=>omega
   case rel=>exact ⟨k+1,KR,kq,by omega,rfl,rfl,(by first|exact pF|go_num),sV⟩
  ·have iC:k=ids.length:=by omega
   subst iC;have bd:¬(ids.length:Int)<(ids.length:Int):=by omega
   have fO:CR w 189 (w.heap.size+1) ⟨SS,false⟩ wo:=by
    have:=gi.o_.cr;rw [List.drop_length] at this;exact this
   have Xd:wo.ownsRow w3 3 1 (.slice ia ids.length ic) ids.length (Go.Proofs.YtgimbocoamnkjaaGreatDoor.iv ids):=by
    have:=gi.o_.io;rw [List.take_length] at this;exact this
   have Xe:=ab Xd;have PD:=ab fO;clear fO Xd;go_upto_region 13 with (first
    |(go_at_call 151;go_must (refine OY _ _ _ _ _ K4.o_ w _ PD.o_ HT.o_ _ ?_);intro eo sP iE;have KU:=dQ iE gi.o_.tr lu.o_;have Xf:=ab sP;have tU:=ab KU;have agn:=ab (dQ iE gi.o_.ar jj.o_);have ago:=ab (cY gi.o_.po iE (ik gi.o_.po eZ.o_));have agp:=ab (gi.o_.qo.qI iE eZ.o_);have agq:=ab (cY Xe.o_ iE (ik Xe.o_ eZ.o_));have jP:=af eo T 13 _ _ _ KU;have f13:=aB KU 13;clear sP iE KU))
   have PF:(eo.setCell ⟨T,13,none⟩ (.string (str share))).heap[T]? =some (Obj.cells (qJ aJ da az dc c_ aE src aN pa props pc origin number aQ al aM ia ids ic share) 36):=by
    rw [heap_setCell_same eo T 13 _ _ _ tU.o_]
    rfl
   have mQ:=bL eo ⟨T,13,none⟩ (.string (str share));have KV:=Xf.o_.other mQ lu.o_.symm (Xf.o_.low.setCell Ks.o_ _);have PG:=dQ mQ agn.o_ zV.o_;have PH:=jv ago.o_ tU.o_ (by decide) mQ;have PI:=agp.o_.typed tU.o_ (by decide) (by decide) mQ;have PJ:=jv agq.o_ tU.o_ (by decide) mQ;generalize eo.setCell ⟨T,13,none⟩ (.string (str share))=dR at PF KV PG PH PI PJ⊢;obtain ⟨la,lc,Xg,_⟩:=KV.row;have c1:dR.cell? ⟨w.heap.size+1,1,none⟩=some (.bool false):=af dR _ 1 _ _ _ Xg;have PK:dJ dR w3.heap.size (.slice da az.length dc) (.slice pa props.length pc) (.slice ia ids.length ic) (⟨(⟨aJ,az,c_,aE,src,aN,props,origin,number,aQ⟩:Nt),al,aM,ids,share⟩:Im):=⟨PH,PI,PJ⟩
   have agr:=ab PK;have ags:=ab (PK.c ow.o_);have Xh:=ab PF;have PL:=ab KV;have agt:=ab PG;obtain ⟨⟨i0,i1,i2,i3,i4,i5,i6⟩,i7,i8,i9,i10,i11,i12,i13⟩:=sx (w:=dR) Xh.o_;have mC:Hid (Y.length≤140737488355328):=Nat.le_trans E'.o_ (by decide);clear PF mQ KV PG PH PI PJ PK jP f13 Xg;go_wp2_with (first
    |(go_at_call 60;go_must (refine Pk (⟨(⟨aJ,az,c_,aE,src,aN,props,origin,number,aQ⟩:Nt),al,aM,ids,share⟩:Im) _ _ _ _ ags.o_ ow.o_ WZ.o_ (HT.o_.below PL.o_.low) Y HY.o_ agj.o_ mC.o_ agk.o_ _ ?_);intro ya yc fP mT iN;have agu:=ab (cp mT);have agv:=ab (aA Xh.o_ iN);have Xi:=ab (aA agt.o_ iN);have Fb:=ab (aD PL.o_.low iN PL.o_.low.size);have tV:=ab (agr.o_.below iN);clear mT iN i0 i1 i2 i3 i4 i5 i6 i7 i8 i9 i10 i11 i12 i13 c1)
    |(go_at_call 53;go_must (refine KH _ _ Y Y _ agu.o_ (HV.o_.below Fb.o_) _ ?_);rw [beq_self_eq_true])
    |(refine wpList_load_row (o:=⟨some 86,.load 36 (.tmp 7),_,_,_,_⟩) (by rfl) 36 (.tmp 7) (by rfl) (T) (by rfl) 36 _ (0,0) _ (agv).o_ (underlying36) (by rfl) (by kernel_rfl) ?_)
    |(refine wpList_store_row (o:=⟨none,.store 36 (.tmp 2) (.tmp 86),_,_,_,_⟩) (by rfl) 36 (.tmp 2) (.tmp 86) (by rfl) (w.heap.size) _ (by rfl) (by rfl) 36 _ (Xi).o_ (by kernel_rfl) (by rfl) (by simp [Value.oneCell']) ?_))
   refine bodyPost_ret (TW rfl _ _ w 36 (qJ aJ da az dc c_ aE src aN pa props pc origin number aQ al aM ia ids ic share) (0,0) _ (.int .i64 0) rfl rfl (setRow_heap _ w.heap.size _ _ _ _ Xi.o_) underlying36 rfl (by kernel_rfl)) rfl ?_;have rN:=zM fP w.heap.size (qJ aJ da az dc c_ aE src aN pa props pc origin number aQ al aM ia ids ic share);have qd:w.heap.size<w3.heap.size:=by have:=eZ.o_;omega
   exact HR.o_ da dc pa pc ia ic _ ⟨bN (cY tV.o_.p rN (ik tV.o_.p qd)) bu.o_,(tV.o_.q.qI rN qd).mono bu.o_,bN (cY tV.o_.i rN (ik tV.o_.i qd)) bu.o_⟩ (below_setRow Fb.o_ (Nat.le_refl _) _)
def bE(l:List Int):List Int:=l.mergeSort fun x y=>decide (x≤y)
theorem rV(l:List Int):(bE l).Perm l:=List.mergeSort_perm _ _
theorem Bo(l:List Int):(bE l).Pairwise (· ≤·):=by
 have:=List.pairwise_mergeSort (le:=fun x y:Int=>decide (x≤y)) (by intro a b c;simp;omega) (by intro a b;simp;omega) l;exact this.imp fun h=>by simpa using h
theorem PM{a b:List Int}(h:a.Perm b)(ha:a.Pairwise (· ≤·))(hb:b.Pairwise (· ≤·)):a=b:=
 List.Perm.eq_of_pairwise (fun x y _ _ h1 h2=>by omega) ha hb h
theorem PN{a b:List Int}(h:a.Perm b):bE a=bE b:=PM (((rV a).trans h).trans (rV b).symm) (Bo a) (Bo b)
theorem tW(l:List Int):(bE l).length=l.length:=(rV l).length_eq
theorem agw:bE []= []:=List.eq_nil_of_length_eq_zero (tW [])
theorem agx(ad:Option Addr)(n c B:Nat)(L:List Int)(w:World)(h:w.ownsRow B 3 1 (.slice ad n c) n (iv L))(hn:L.length=n)(h0:0<n)(bm:n≤10000000)(R:Ending→World→Prop)
 (hR:∀w',w'.ownsRow B 3 1 (.slice ad n c) n (iv (bE L))→w.grownBy w' (Value.slice ad n c).ownBlock→R (.returned (.tuple #[])) w'):
 Calls prog 157 #[.slice ad n c] w R:=by
 subst hn;obtain ⟨g,rfl⟩:=et h h0;rcases h.2 with ⟨gG,_⟩|⟨g',cap,cur,e,iS,hb,h1,h2,h3,h4⟩
 ·simp at gG
 ·simp only [Value.slice.injEq,Option.some.injEq,Addr.mk.injEq,and_true] at e;obtain ⟨rfl,-,rfl⟩:=e;have hH:=holds_of_blockI (ss:=L) hb (by simpa [iv] using h4);refine (Any.slices_Sort_int Tryz.af6 g 0 c L w hH (Array.getElem?_eq_some_iff.1 hb).1 (by omega)).mono ?_;rintro e w' ⟨rfl,m,os,rfl⟩;exact hR _ (ownsRow_sortedI (by simp) iS hb h1 h2 h3) (grownBy_sortedI _)
theorem agy{a b:List Int}(ha:a.Nodup)(hb:b.Nodup)(h:∀x,x∈a↔x∈b):a.Perm b:=by
 rw [List.perm_iff_count];intro x;rw [ha.count,hb.count];by_cases hx:x∈a
 ·rw [if_pos hx,if_pos ((h x).1 hx)]
 ·rw [if_neg hx,if_neg (fun hm=>hx ((h x).2 hm))]
theorem agz(N m:Nat)(l:List Int)(nv:l.length≤100000)(w:World)(hs:St w N m l)(R:Ending→World→Prop)
 (hR:∀ad c w',w'.ownsRow w 3 1 (.slice ad l.length c) l.length (iv (bE l))→Below w w w'→R (.returned (.slice ad l.length c)) w'):
 Calls prog 121 #[.pointer (some ⟨N,0,none⟩)] w R:=by
 have HR:=ab hR;obtain ⟨D,hD,hh,bm⟩:=hs.2.ex;have c0:w.cell? ⟨N,0,none⟩=some (.map (some m)):=af w N 0 _ _ _ hs.1;have HH:=ab hh;have agA:=ab hs.2.nd;have aqs:m<w.heap.size:=hs.2.lt;clear hs hR hh;go_enter func121,ntmps121;go_wp2_with (first
  |(at_range;refine wpList_range_own _ rfl _ 141 rfl 3 161 Tryz.Ce underlying141 _ m _ D rfl hD ?_;intro w0 Xj lK jA))
 go_frame;have aL:Below w w w0:=ry lK (Nat.le_refl _) (fun k hk=>by cases hk);have agB:w.heap.size+1≤w0.heap.size:=Nat.le_of_eq jA.symm;go_loopg [3,4] (Maps.size D) (fun gn L _ wr=>∃(P:List Int)(oa:Option Addr)(oc:Nat)(left:Lit→Bool),L= .slice oa P.length oc∧(P= []→oa=none∧oc=0)∧P.length+gn≤l.length∧Hid (wr.ranges prog 3 unitElem m w.heap.size l.length D left gn)∧Hid (∀n:Int,left (.int .i64 n)=(l.contains n&& !P.contains n))∧Hid P.Nodup∧Hid (∀x∈P,x∈l)∧Hid (wr.ownsRow (w.heap.size+1) 3 1 (.slice oa P.length oc) P.length (iv P))∧Below w w wr∧w.heap.size+1≤wr.heap.size)
 case atStart=>exact ⟨[],none,0,_,rfl,fun _=>⟨rfl,rfl⟩,by rw [bm];simp,ab Xj,ab (fun n=>by rw [HH.o_ n];simp),ab .nil,ab (fun x hx=>by cases hx),ab (World.ownsRow_nil _ _ _ _),aL,agB⟩
 case round=>
  obtain ⟨P,oa,oc,left,rfl,Xk,G_,agC,zW,Xl,Xm,KW,hb,aqt⟩:=hrel;obtain ⟨wo,rfl⟩:∃x,x=wr:=⟨_,rfl⟩
  clear Xj lK jA;go_wp2_with (first
   |(at_next;refine wpList_next_ranges _ rfl _ rfl 3 Tryz.Ce _ (fun x:Int=>Value.int .i64 x) (fun v:Value=>v) (fun key kl hk=>by obtain ⟨x,e,_⟩:=Maps.keyOf_int_inv underlying3 hk;exact ⟨x,e⟩) (fun v y _=>⟨v,rfl⟩) m w.heap.size _ _ _ _ rfl agC.o_ ?_ ?_))
  ·intro h0 hl;have Xn:∀x,x∈P↔x∈l:=fun x=>⟨Xm.o_ x,fun hx=>by
    have h1:=zW.o_ x;rw [hl] at h1;have h2:l.contains x=true:=by simpa using hx
    rw [h2,Bool.true_and] at h1;have h3:P.contains x=true:=by
     cases hc:P.contains x with
     |true=>rfl
     |false=>rw [hc] at h1;cases h1
    simpa using h3⟩
   have PO:=agy Xl.o_ agA.o_ Xn;have Xo:Hid (bE P=bE l):=PN PO;have m8:Hid (P.length=l.length):=PO.length_eq;clear Xn PO hl;by_cases hP:P= []
   ·obtain ⟨rfl,rfl⟩:=Xk hP;subst hP;have mA:Hid (l= []):=List.eq_nil_of_length_eq_zero m8.o_.symm;clear m8 Xo Xk;go_wp2_with (first
     |(go_at_call 157;go_must (refine ae2 _ _ ?_)))
    have h9:=HR.o_ none 0 wo;rw [mA.o_,agw] at h9;exact h9 (World.ownsRow_nil _ _ _ _) hb
   ·have sq:0<P.length:=List.length_pos_iff.2 hP;have agD:=ab sq;have agE:Hid (P.length≤10000000):=by show _≤_;omega
    clear sq;go_wp2_with (first
     |(go_at_call 157;go_must (refine agx oa P.length oc (w.heap.size+1) P _ KW.o_ rfl agD.o_ agE.o_ _ ?_);intro w6 p7 bI;have jM:=ab p7;have ov:=ab (bC hb bI hb.size (bN KW.o_ (Nat.le_succ _)));clear p7 bI))
    have h9:=HR.o_ oa oc w6;rw [←m8.o_,←Xo.o_] at h9;exact h9 (bN jM.o_ (Nat.le_succ _)) ov.o_
  ·intro x c kl ya yb w5 Xp Xq Xr hy bJ Xs Bp fo FX aqu;obtain ⟨x',e,rfl,agF⟩:=Maps.keyOf_int_inv underlying3 Xq;cases e;have pC:=zW.o_ x;rw [Xr] at pC;have nG:x∈l:=by
    cases hc:l.contains x with
    |true=>simpa using hc
    |false=>rw [hc] at pC;simp at pC
   have Xt:x∉P:=fun hm=>by
    have h3:P.contains x=true:=by simpa using hm
    rw [h3] at pC;simp at pC
   have ez:=cY KW.o_ fo (ik KW.o_ (Nat.lt_succ_self _));have aC:=hb.grown fo hb.size (fun k hk=>by cases hk;exact Nat.le_refl _);have agG:w.heap.size+1≤w5.heap.size:=by omega
   have iy:=ab ez;have eb:=ab aC;have agH:=ab Xs;have G':=ab nG;have Fc:=ab Xt;have Xu:=ab agG;have agI:P.length+1+Xp≤l.length:=by omega
   have agJ:=ab agI;have Fe:=ab Bp;clear Xq Xr hy bJ Xs fo FX pC nG Xt ez aC Bp agF;go_wp2_with (first
    |(at_builtin;go_must (refine gj (by rfl) (.tmp 14) (.tmp 16) 25 (by rfl) (w.heap.size+1) 3 (.int .i64 0) 1 8 underlying25 qV rfl (by decide) oa P.length oc _ (by rfl) (iy.o_.alloc (Obj.cells #[Value.int .i64 x] 3)) (some ⟨w5,0,none⟩) 1 1 [Value.int .i64 x] (by rfl) (cO w5 #[Value.int .i64 x] 3 1 1 rfl) (nQ _ _) (fun h=>by cases h) (by unfold maxLen;omega) (by omega) (Nat.le_trans Xu.o_ (by simp)) ?_);intro fM c6 w6 dt bI _;have lD:∀b,b<w.heap.size+1→some b≠(Value.slice oa P.length oc).ownBlock:=(fun b hb hc=>by have h1:=(iy.o_.lt b hc.symm).1;omega);have Xv:=(agH.o_.alloc (Obj.cells #[Value.int .i64 x] 3)).kept bI (lD m (by omega)) (lD w.heap.size (Nat.lt_succ_self _));have bg:=bC (eb.o_.alloc eb.o_.size (Obj.cells #[Value.int .i64 x] 3)) bI (Nat.le_trans eb.o_.size (by simp)) (bN (iy.o_.alloc (Obj.cells #[Value.int .i64 x] 3)) (Nat.le_succ _));have Xw:w.heap.size+1≤w6.heap.size:=Nat.le_trans (Nat.le_trans Xu.o_ (by simp)) bI.size;have agK:=ab Xv;have jM:=ab dt;have ov:=ab bg;have KX:=ab Xw;clear lD Xv dt bg Xw bI))
   go_roundg Xp
   case measure=>exact Fe.o_
   case rel=>
    refine ⟨P++ [x],fM,c6,_,by rw [List.length_append];rfl,fun h=>by simp at h,by rw [List.length_append];exact agJ.o_,agK,ab fun n=> ?_,ab ?_,ab ?_,ab ?_,ov.o_,KX.o_⟩
    ·simp only [zW.o_ n];by_cases rC:n=x
     ·subst rC;have e1:(Lit.int .i64 n).sameKey (.int .i64 n)=true:=by simp [Lit.sameKey]
      simp [e1]
     ·rw [Maps.sameKey_ne (by simpa using rC)];simp [rC]
    ·rw [List.nodup_append];exact ⟨Xl.o_,by simp,fun a ha b hb=>by
      obtain rfl:=List.mem_singleton.1 hb;exact fun e=>Fc.o_ (e▸ha)⟩
    ·intro y hy;rcases List.mem_append.1 hy with h|h
     ·exact Xm.o_ y h
     ·obtain rfl:=List.mem_singleton.1 h;exact G'.o_
    ·have e2:iv (P++ [x])=iv P++ [.int .i64 x]:=by
      unfold iv;simp
     rw [e2,List.length_append];exact jM.o_
theorem Xx(S:Nat)(s:aF)(hl:s.aH.length≤100000)(w:World)(M:Nat→Prop)(h:SR w M S s)(R:Ending→World→Prop)
 (hR:∀ad c w',w'.ownsRow w 3 1 (.slice ad s.aH.length c) s.aH.length (iv (bE s.aH))→Below w w w'→R (.returned (.slice ad s.aH.length c)) w'):
 Calls prog 61 #[.pointer (some ⟨S,0,none⟩)] w R:=by
 obtain ⟨NB,MB,GB,GM,sv,qv,fv,hx⟩:=h;have HR:=ab hR;have c8:=(dy hx.hS).2.2.2.2;have ep:=ab hx.hg;clear hR hx;go_enter func61,ntmps61;go_wp2_with (go_at_call 121;go_must (refine agz GB GM s.aH hl _ ep.o_ _ ?_);intro ad c w3 bD an;have eH:=ab bD;clear bD)
 all_goals exact HR.o_ _ _ _ eH.o_ an
theorem Xy{P:Prop}(h:P:=by
 have h1:=congrArg List.length yH.o_;have h3:=vv.o_;have h4:=mC.o_;rw [List.length_append] at h1
 omega):P:=h
theorem Xz{P:Prop}(h:P:=by
 have agL:Hid (P4=Y):=by
  show _=_;rw [zN.o_,List.take_of_length_le (by have:=sS.o_;omega),←wG.o_,KY.o_,rW.o_,oy.o_,xg.o_]
 go_wp2_with fail;have h9:=HR.o_ vw vx wg;rw [←agL.o_] at h9;exact h9 xh.o_.own xh.o_.low):P:=h
theorem KZ{P:Prop}(h:P:=by
 have h3:=vv.o_;have h4:=mC.o_;simp only [List.length_append,List.length_cons,List.length_nil] at h1
 omega):P:=h
theorem K0{P:Prop}(h:P:=by
 simp only [List.getElem?_map,List.getElem?_eq_getElem dM,List.getElem?_eq_getElem yI,Option.map_some] at h2;exact (Option.some.inj h2).symm):P:=h
theorem K5(N m:Nat)(l:List Int)(n:Nat)(hn:l.length=n)(w:World)(hs:St w N m l)(R:Ending→World→Prop)
 (hR:R (.returned (.int .i64 n)) w):
 Calls prog 116 #[.pointer (some ⟨N,0,none⟩)] w R:=by
 subst hn;have HR:=ab hR;obtain ⟨D,hD,_,bm⟩:=hs.2.ex;have c0:w.cell? ⟨N,0,none⟩=some (.map (some m)):=af w N 0 _ _ _ hs.1;have FZ:=ab bm;clear hs hR bm;go_enter func116,ntmps116;go_wp2_with (first
  |(at_len;refine wpList_len_own _ rfl _ 141 rfl 3 161 underlying141 _ m _ D rfl hD ?_;rw [FZ.o_]))
 exact HR.o_
def zX(s:aF)(id:Int):aF×Bool×Bool:=
 if s.aH.contains id=true then (s,true,true)
 else if s.aH.length<8∧1≤id∧id≤65535 then ({s with aH:=s.aH++ [id]},false,true) else (s,false,false)
theorem agM(S:Nat)(s:aF)(id:Int)(hid:h_ id)(s':aF)(a b:Bool)(hc:zX s id=(s',a,b))(w:World)(M:Nat→Prop)(h:SR w M S s)(R:Ending→World→Prop)
 (hR:∀w',SR w' M S s'→Sep M M w w'→R (.returned (.tuple #[.bool a,.bool b])) w'):
 Calls prog 52 #[.pointer (some ⟨S,0,none⟩),.int .i64 id] w R:=by
 have HR:=ab hR;obtain ⟨NB,MB,GB,GM,sv,qv,fv,hx⟩:=h;have HX:=ab hx;have c8:=(dy hx.hS).2.2.2.2;clear hR hx;unfold zX at hc;by_cases h1:s.aH.contains id=true
 ·rw [if_pos h1] at hc;simp only [Prod.mk.injEq] at hc;obtain ⟨rfl,rfl,rfl⟩:=hc;have H1:=ab h1;clear h1;go_enter func52,ntmps52;go_wp2_with (go_at_call 115;go_must (refine AP GB GM s.aH id true H1.o_ _ HX.o_.hg hid _ ?_);intro w2 ah;have aY:=ab ah;clear ah);exact HR.o_ _ ⟨NB,MB,GB,GM,sv,qv,fv,HX.o_.below aY.o_⟩ (.cU aY.o_)
 ·rw [if_neg h1] at hc;have H1:Hid (s.aH.contains id=false):=ab (Bool.eq_false_iff.2 h1);clear h1;obtain ⟨n,hn⟩:=ai s.aH.length;have HN:=ab hn;rw [hn] at hc;by_cases h2:n<8∧1≤id∧id≤65535
  ·rw [if_pos h2] at hc;simp only [Prod.mk.injEq] at hc;obtain ⟨rfl,rfl,rfl⟩:=hc;obtain ⟨h3,h4,h5⟩:=h2;have wF:(n:Int)<8:=by omega
   have HL:Hid (s.aH.length≤100000):=by have:=HN.o_;show _≤_;omega
   clear hn;go_enter func52,ntmps52;go_wp2_with (first
    |(go_at_call 115;go_must (refine AP GB GM s.aH id false H1.o_ _ HX.o_.hg hid _ ?_);intro w2 ah;have g_:=ab (HX.o_.below ah);have aY:=ab ah;have PQ:=(dy (HX.o_.below ah).hS).2.2.2.2;clear ah c8)
    |(go_at_call 116;go_must (refine K5 GB GM s.aH n HN.o_ _ g_.o_.hg _ ?_))
    |(go_at_call 51;go_must (refine JQ GB GM s.aH id h4 h5 H1.o_ HL.o_ _ g_.o_.hg _ ?_);intro w3 wN cB;have cG:=SX.NV g_.o_ cB wN;have gY:=ab cG.1;have iD:=ab cG.2;clear wN cB cG))
   exact HR.o_ _ ⟨NB,MB,GB,GM,sv,qv,fv,gY.o_⟩ ((Sep.cU aY.o_).trans iD.o_)
  ·rw [if_neg h2] at hc;simp only [Prod.mk.injEq] at hc;obtain ⟨rfl,rfl,rfl⟩:=hc;clear hn;by_cases h3:n<8
   ·have wF:(n:Int)<8:=by omega
    have h4:id<1∨65535<id∨s.aH.contains id=true:=by omega
    have H4:=ab h4;clear h2 h4;go_enter func52,ntmps52;go_wp2_with (first
     |(go_at_call 115;go_must (refine AP GB GM s.aH id false H1.o_ _ HX.o_.hg hid _ ?_);intro w2 ah;have g_:=ab (HX.o_.below ah);have aY:=ab ah;have PQ:=(dy (HX.o_.below ah).hS).2.2.2.2;clear ah c8)
     |(go_at_call 116;go_must (refine K5 GB GM s.aH n HN.o_ _ g_.o_.hg _ ?_))
     |(go_at_call 51;go_must (refine Ud GB GM s.aH id hid H4.o_ _ g_.o_.hg _ ?_);intro w3 an;have gY:=ab (g_.o_.below an);have iD:Hid (Sep M M w2 w3):=ab (.cU an);clear an))
    exact HR.o_ _ ⟨NB,MB,GB,GM,sv,qv,fv,gY.o_⟩ ((Sep.cU aY.o_).trans iD.o_)
   ·have wF:¬(n:Int)<8:=by omega
    clear h2;go_enter func52,ntmps52;go_wp2_with (first
     |(go_at_call 115;go_must (refine AP GB GM s.aH id false H1.o_ _ HX.o_.hg hid _ ?_);intro w2 ah;have g_:=ab (HX.o_.below ah);have aY:=ab ah;have PQ:=(dy (HX.o_.below ah).hS).2.2.2.2;clear ah c8)
     |(go_at_call 116;go_must (refine K5 GB GM s.aH n HN.o_ _ g_.o_.hg _ ?_)))
    exact HR.o_ _ ⟨NB,MB,GB,GM,sv,qv,fv,g_.o_⟩ (.cU aY.o_)
theorem agN(S:Nat)(s:aF)(id:Int)(hid:h_ id)(b:Bool)(hb:s.aH.contains id=b)(w:World)(M:Nat→Prop)(h:SR w M S s)(R:Ending→World→Prop)
 (hR:∀w',SR w' M S {s with aH:=s.aH.erase id}→Sep M M w w'→R (.returned (.bool b)) w'):
 Calls prog 75 #[.pointer (some ⟨S,0,none⟩),.int .i64 id] w R:=by
 have HR:=ab hR;obtain ⟨NB,MB,GB,GM,sv,qv,fv,hx⟩:=h;have HX:=ab hx;have cK:=ab hb;have c8:=(dy hx.hS).2.2.2.2;clear hR hx hb;go_enter func75,ntmps75;go_wp2_with (go_at_call 106;go_must (refine Ue GB GM s.aH id hid b cK.o_ _ HX.o_.hg _ ?_);intro w3 wN cB;have cG:=SX.NV HX.o_ cB wN;have gY:=ab cG.1;have iD:=ab cG.2;clear wN cB cG);exact HR.o_ _ ⟨NB,MB,GB,GM,sv,qv,fv,gY.o_⟩ iD.o_
theorem agO(S:Nat)(s:aF)(w:World)(M:Nat→Prop)(h:SR w M S s)(R:Ending→World→Prop)
 (hR:∀w',Below w w w'→R (.returned (.tuple #[.int .i64 s.cP,.int .i64 s.ends,.bool s.eB])) w'):
 Calls prog 86 #[.pointer (some ⟨S,0,none⟩)] w R:=by
 have HR:=ab hR;obtain ⟨NB,MB,GB,GM,sv,qv,fv,hx⟩:=h;obtain ⟨⟨c0,c1,c2,c3,c4⟩,c5,c6,c7,c8⟩:(w.cell? ⟨S,0,none⟩=_∧w.cell? ⟨S,1,none⟩=_∧w.cell? ⟨S,2,none⟩=some (.int .i64 s.cP)∧w.cell? ⟨S,3,none⟩=some (.int .i64 s.ends)∧w.cell? ⟨S,4,none⟩=some (.bool s.eB))∧True∧True∧True∧True:=⟨⟨af w S 0 _ _ _ hx.hS,af w S 1 _ _ _ hx.hS,af w S 2 _ _ _ hx.hS,af w S 3 _ _ _ hx.hS,af w S 4 _ _ _ hx.hS⟩,trivial,trivial,trivial,trivial⟩
 have k2:w.drew.cell? ⟨S,2,none⟩=_:=c2;have k3:w.drew.cell? ⟨S,3,none⟩=_:=c3;have k4:w.drew.cell? ⟨S,4,none⟩=_:=c4;clear hR hx c0 c1 c5 c6 c7 c8;go_enter func86,ntmps86;go_upto_region 1 with fail
 go_region
 all_goals
  go_wp2_with fail;go_ret3;exact HR.o_ _ (Below.refl _ _).drew
theorem Ha{P:Prop}(h:P:=by
 go_wp2;go_roundg (n - (k+1))
 case measure=>omega
 case rel=>exact ⟨k+1,by omega,rfl,by go_num,rfl,Hb⟩):P:=h
open Nat (add_zero)
variable{GB GM MB NB Rb S:Nat}{M M' Ms:Nat→Prop}{s:aF}{fv gv qv sv:Value}
def sW(k:Nat):Prop:=k=62+2∨k=36+2∨k=51+2∨k=64+2
theorem sW.up(h:sW k):vX k:=by
 rcases h with rfl|rfl|rfl|rfl<;>(unfold vX;decide)
theorem sW.set(h:sW k):k≠143+2:=by
 rcases h with rfl|rfl|rfl|rfl<;>decide
theorem sW.int(h:sW k):k≠3+2:=by
 rcases h with rfl|rfl|rfl|rfl<;>decide
structure RX(w:World)(Ms M:Nat→Prop)(Rb:Nat)(sv qv fv gv:Value)(s:aF):Prop where
 hS:w.heap[Rb]? =some (.cells #[.string (str s.dC),.int .i64 s.cP,.int .i64 s.ends,.bool s.eB,sv,qv,fv,gv] 62 (0,0))
 hs:w.ownsRow 0 64 6 sv s.ay.length (s.ay.flatMap aP)
 hq:∃ps:List (V3×Im),ps.map (·.2)=s.queue∧bf w 36 14 qv s.queue.length (ps.flatMap cL)∧∀p∈ps,db w Ms p.1 p.2
 hf:∃ps:List (V3×Fl),ps.map (·.2)=s.aj∧w.ownsRow 0 51 16 fv s.aj.length (ps.flatMap bH)∧∀p∈ps,db w Ms p.1 p.2.item
 hg:w.ownsRow 0 3 1 gv s.aH.length (iv (bE s.aH))
 mR:M Rb
 ms:∀k,sv.ownBlock=some k→M k
 mq:∀k,qv.ownBlock=some k→M k
 mf:∀k,fv.ownBlock=some k→M k
 mg:∀k,gv.ownBlock=some k→¬Ms k
 kd:∀b,M b→sW (bA w b)
 lo:∀b,M b→∃m,Ms m∧m≤b
 qj:∀b,M b→¬Ms b
 lt:∀b,M b→b<w.heap.size
def RR(w:World)(Ms M:Nat→Prop)(Rb:Nat)(s:aF):Prop:=∃sv qv fv gv,RX w Ms M Rb sv qv fv gv s
theorem xi{b:Nat}(h:w'.heap[b]? =w.heap[b]?):bA w' b=bA w b:=by
 unfold bA;rw [h]
theorem RX.sep{zY:Nat→Prop}(h:RX w Ms M Rb sv qv fv gv s)(hs:Sep Ms zY w w'):RX w' zY M Rb sv qv fv gv s:=by
 have own:∀b,M b→w'.heap[b]? =w.heap[b]?:=fun b hb=>hs.block b (h.lt b hb) (h.qj b hb);refine ⟨(own Rb h.mR).trans h.hS,j_ h.hs (fun k hk=>own k (h.ms k hk)),?_,?_,j_ h.hg (fun k hk=>hs.block k (h.hg.lt k hk).2 (h.mg k hk)),h.mR,h.ms,h.mq,h.mf,fun k hk hm=> ?_,fun b hb=>by rw [xi (own b hb)];exact h.kd b hb,fun b hb=>hs.fl b (h.lo b hb),fun b hb hm=> ?_,fun b hb=>Nat.lt_of_lt_of_le (h.lt b hb) hs.size⟩
 ·obtain ⟨ps,h1,h2,h3⟩:=h.hq;exact ⟨ps,h1,h2.uM (fun k hk=>own k (h.mq k hk)),fun p hp=>(h3 p hp).sep hs⟩
 ·obtain ⟨ps,h1,h2,h3⟩:=h.hf;exact ⟨ps,h1,j_ h2 (fun k hk=>own k (h.mf k hk)),fun p hp=>(h3 p hp).sep hs⟩
 ·rcases hs.new k hm with h1|h1
  ·exact h.mg k hk h1
  ·have:=(h.hg.lt k hk).2
   omega
 ·rcases hs.new b hm with h1|h1
  ·exact h.qj b hb h1
  ·have:=h.lt b hb
   omega
theorem RX.below(h:RX w Ms M Rb sv qv fv gv s)(hb:Below w w w'):RX w' Ms M Rb sv qv fv gv s:=h.sep (.cU hb)
theorem db.apart{c:V3}(h:db w Ms c x)(kd:∀b,M b→sW (bA w b))(lo:∀b,M b→∃m,Ms m∧m≤b)(hs:Sep M M' w w'):db w' Ms c x:=by
 have hw:∀b,M b→Wr w Ms b:=fun b hb=> .inr ⟨(kd b hb).up,lo b hb⟩;refine ⟨h.1.sep ⟨hs.os,hs.tape,hs.output,hs.size,fun b hb hn=>hs.block b hb (fun hm=>hn (hw b hm)),fun b hb=> ?_,fun F ⟨m,hm,hl⟩=> ?_⟩,h.2⟩
 ·by_cases ao:b<w.heap.size
  ·rcases hb with hb|⟨hk,hm⟩
   ·exact .inl (.inl hb)
   ·by_cases hM:M b
    ·exact .inl (hw b hM)
    ·exact .inl (.inr ⟨by rw [←xi (hs.block b ao hM)];exact hk,hm⟩)
  ·exact .inr (by omega)
 ·rcases hm with hm|⟨_,m2,gJ,gy⟩
  ·exact ⟨m,.inl hm,hl⟩
  ·exact ⟨m2,.inl gJ,Nat.le_trans gy hl⟩
theorem SX.apart(h:SX w Ms S NB MB GB GM sv qv fv s)(kd:∀b,M b→sW (bA w b))(lo:∀b,M b→∃m,Ms m∧m≤b)(qj:∀b,M b→¬Ms b)(hs:Sep M M' w w'):SX w' Ms S NB MB GB GM sv qv fv s:=by
 have eJ:∀{b t:Nat}{fr:Nat×Nat}{cs:Array Value},w.heap[b]? =some (.cells cs t fr)→b<w.heap.size:=fun h=>(Array.getElem?_eq_some_iff.1 h).1;have own:∀b,Ms b→w'.heap[b]? =w.heap[b]?:=fun b hb=>hs.block b (h.lt b hb) (fun hm=>qj b hm hb);have iC:¬M NB:=fun hm=>(kd NB hm).set h.hn.kinds.1;have Dd:¬M GB:=fun hm=>(kd GB hm).set h.hg.kinds.1;refine ⟨(own S h.mS).trans h.hS,h.hn.sB (hs.block NB (eJ h.hn.1) iC) (own MB h.mN),h.hg.sB (hs.block GB (eJ h.hg.1) Dd) (own GM h.mG),j_ h.hs (fun k dK=>own k (h.ms k dK)),?_,?_,h.nb,h.nm,h.mS,h.mN,h.mG,h.ms,h.oP,h.oQ,fun b hb=>Nat.lt_of_lt_of_le (h.lt b hb) hs.size⟩
 ·obtain ⟨ps,h1,h2,h3,h4⟩:=h.hq;exact ⟨ps,h1,h2.uM (fun k dK=>own k (h4 k dK)),fun p hp=>(h3 p hp).apart kd lo hs,h4⟩
 ·obtain ⟨ps,h1,h2,h3,h4⟩:=h.hf;exact ⟨ps,h1,j_ h2 (fun k dK=>own k (h4 k dK)),fun p hp=>(h3 p hp).apart kd lo hs,h4⟩
theorem RX.cells(h:RX w Ms M Rb sv qv fv gv s):w.cell? ⟨Rb,0,none⟩=some (.string (str s.dC))∧w.cell? ⟨Rb,1,none⟩=some (.int .i64 s.cP)∧w.cell? ⟨Rb,2,none⟩=some (.int .i64 s.ends)∧w.cell? ⟨Rb,3,none⟩=some (.bool s.eB)∧w.cell? ⟨Rb,4,none⟩=some sv∧w.cell? ⟨Rb,5,none⟩=some qv∧w.cell? ⟨Rb,6,none⟩=some fv∧w.cell? ⟨Rb,7,none⟩=some gv:=
 ⟨af w Rb 0 _ _ _ h.hS,af w Rb 1 _ _ _ h.hS,af w Rb 2 _ _ _ h.hS,af w Rb 3 _ _ _ h.hS,af w Rb 4 _ _ _ h.hS,af w Rb 5 _ _ _ h.hS,af w Rb 6 _ _ _ h.hS,af w Rb 7 _ _ _ h.hS⟩
theorem yJ(Rb:Nat)(s:aF)(id:Int)(z:Int)(hz:cV (fun f:Fl=>f.id==id) s.aj=z)(hl:s.aj.length≤100000)(w:World)(Ms M:Nat→Prop)(h:RR w Ms M Rb s)(R:Ending→World→Prop)
 (hR:R (.returned (.int .i64 z)) w):
 Calls prog 125 #[.pointer (some ⟨Rb,0,none⟩),.int .i64 id] w R:=by
 obtain ⟨sv,qv,fv,gv,hx⟩:=h;have HR:=ab hR;obtain ⟨ps,aT,aq,_⟩:=hx.hf;obtain ⟨n,hn⟩:=ai s.aj.length;rw [hn] at aq hl;obtain ⟨fa,fc,mD⟩:=bF aq;subst mD;have eA:ps.length=n:=by rw [←hn,←aT];simp
 have c6:=hx.cells.2.2.2.2.2.2.1;have aU:=ab aq;have dn:=ab aT;have HZ:=ab hz;have HN:=ab hn;have fz:=ab eA;clear hR hx aT aq hn eA hz;go_enter func125,ntmps125;go_wp2;go_loopg [5] n (fun gn i wr=>∃k:Nat,k≤n∧gn=n - k∧i= .int .i64 k∧wr=w∧Hid (∀j (hj:j<k) (eE:j<s.aj.length),((s.aj[j]).id==id)=false))
 case atStart=>exact ⟨0,Nat.zero_le _,by omega,rfl,rfl,ab (fun j hj=>by omega)⟩
 case round=>
  obtain ⟨k,hk,rfl,rfl,rfl,lv⟩:=hrel;by_cases ao:k<n
  ·have bd:(k:Int)<(n:Int):=by omega
   have dM:k<ps.length:=by have:=fz.o_;omega
   have yI:k<s.aj.length:=by have:=HN.o_;omega
   obtain ⟨g,hg⟩:=et aU.o_ (by omega);subst hg;have lx:s.aj[k]=(ps[k]).2:=by
    have h2:=congrArg (fun l=>l[k]?) dn.o_;exact K0
   have ef:wr.cell? ⟨g,k*16,none⟩=some (.int .i64 (s.aj[k]).id):=by
    have h1:=fz.o_;have h2:=aU.o_.cellAt (k*16+0) (by omega);rw [add_zero] at h2;rw [h2];have h3:=jQ 16 bH iY ps k 0 dM (by omega);rw [add_zero] at h3;rw [h3,lx]
    rfl
   obtain ⟨cR,De⟩:=ai ((s.aj[k]).id);rw [De] at ef;by_cases he:cR=id
   ·subst he;have zZ:Hid (z=(k:Int)):=by
     show _=_;rw [←HZ.o_];exact Ck yI (by simp [De]) (fun j hj=>lv.o_ j hj (by omega))
    clear lx De;go_wp2;rw [←zZ.o_];exact HR.o_
   ·have Hb:Hid (∀j (hj:j<k+1) (eE:j<s.aj.length),((s.aj[j]).id==id)=false):=fun j hj eE=>by
     by_cases mh:j=k
     ·subst mh;rw [De]
      simpa using he
     ·exact lv.o_ j (by omega) eE
    clear lx De;exact Ha
  ·have bd:¬(k:Int)<(n:Int):=by omega
   have zZ:Hid (z= -1):=by
    show _=_;rw [←HZ.o_];unfold cV;rw [List.findIdx?_eq_none_iff.2 (fun x hx=>by
     obtain ⟨j,hj,rfl⟩:=List.getElem_of_mem hx;exact lv.o_ j (by have:=HN.o_;omega) hj)]
   go_wp2;rw [←zZ.o_];exact HR.o_
open List (mem_cons_of_mem)
variable{rest:List Im}{dp bK eN:Value}{w1:World}
abbrev XA(s:aF)(sv qv fv gv:Value):Obj:= .cells #[.string (str s.dC),.int .i64 s.cP,.int .i64 s.ends,.bool s.eB,sv,qv,fv,gv] 62 (0,0)
theorem RX.Bq(h:RX w Ms M Rb sv qv fv gv s):bA w Rb=62+2:=jR h.hS
theorem RX.K6(h:RX w Ms M Rb sv qv fv gv s):∀k,qv.ownBlock=some k→bA w k=36+2:=by
 obtain ⟨ps,_,h2,_⟩:=h.hq;exact h2.kind
theorem RX.Hc(h:RX w Ms M Rb sv qv fv gv s):∀k,fv.ownBlock=some k→bA w k=51+2:=by
 obtain ⟨ps,_,h2,_⟩:=h.hf;exact eI h2
theorem RX.rb(h:RX w Ms M Rb sv qv fv gv s):Rb<w.heap.size:=(Array.getElem?_eq_some_iff.1 h.hS).1
theorem RX.fresh(h:RX w Ms M Rb sv qv fv gv s)(ao:∀b,Ms b→b<w.heap.size)(hb:Below w w w1)(j:Nat)(u v:Value)
 (hv:∀k,v.ownBlock=some k→w.heap.size≤k∧k<w1.heap.size∧sW (bA w1 k)):
 Sep M (fun b=>M b∨v.ownBlock=some b) w (w1.setCell ⟨Rb,j,none⟩ u)∧
 ((∀b,(M b∨v.ownBlock=some b)→sW (bA (w1.setCell ⟨Rb,j,none⟩ u) b))∧(∀b,(M b∨v.ownBlock=some b)→∃m,Ms m∧m≤b)∧(∀b,(M b∨v.ownBlock=some b)→¬Ms b)∧∀b,(M b∨v.ownBlock=some b)→b<(w1.setCell ⟨Rb,j,none⟩ u).heap.size)∧
 (w1.setCell ⟨Rb,j,none⟩ u).ownsRow 0 64 6 sv s.ay.length (s.ay.flatMap aP)∧
 (∃ps:List (V3×Im),ps.map (·.2)=s.queue∧bf (w1.setCell ⟨Rb,j,none⟩ u) 36 14 qv s.queue.length (ps.flatMap cL)∧∀p∈ps,db (w1.setCell ⟨Rb,j,none⟩ u) Ms p.1 p.2)∧
 (∃ps:List (V3×Fl),ps.map (·.2)=s.aj∧(w1.setCell ⟨Rb,j,none⟩ u).ownsRow 0 51 16 fv s.aj.length (ps.flatMap bH)∧∀p∈ps,db (w1.setCell ⟨Rb,j,none⟩ u) Ms p.1 p.2.item)∧
 (w1.setCell ⟨Rb,j,none⟩ u).ownsRow 0 3 1 gv s.aH.length (iv (bE s.aH)):=by
 have bM:=bL w1 ⟨Rb,j,none⟩ u;have iz:w1.heap[Rb]? =some (XA s sv qv fv gv):=aA h.hS hb;have ib:bA w1 Rb=62+2:=jR iz;have hz:(w1.setCell ⟨Rb,j,none⟩ u).heap.size=w1.heap.size:=by simp [World.setCell]
 have ch:Sep M (fun b=>M b∨v.ownBlock=some b) w w1:=(Sep.cU hb).more (fun b lG=>lG.imp id (fun e=>(hv b e).1)) (fun F ⟨m,hm,hl⟩=>⟨m,.inl hm,hl⟩);have hs:Sep M (fun b=>M b∨v.ownBlock=some b) w (w1.setCell ⟨Rb,j,none⟩ u):=ch.trans (.kn bM (fun k hk=>by cases hk;exact .inl h.mR));have aM:∀b,b<w.heap.size→b≠Rb→(w1.setCell ⟨Rb,j,none⟩ u).heap[b]? =w.heap[b]?:=fun b lG bh=>(bM.block b (Nat.lt_of_lt_of_le lG hb.size) (fun e=>bh (Option.some.inj e))).trans (hb.block b lG);have kind:∀b,b<w.heap.size→bA (w1.setCell ⟨Rb,j,none⟩ u) b=bA w b:=fun b lG=>by
  by_cases e:b=Rb
  ·subst e;unfold bA;rw [heap_setCell_same _ _ _ _ _ _ iz,h.hS]
  ·exact xi (aM b lG e)
 have agP:∀b,w.heap.size≤b→bA (w1.setCell ⟨Rb,j,none⟩ u) b=bA w1 b:=fun b lG=>xi (heap_setCell_other _ _ _ _ (fun e=>by have:=h.rb;have e':b=Rb:=e;omega));have PR:∀b,(M b∨v.ownBlock=some b)→sW (bA (w1.setCell ⟨Rb,j,none⟩ u) b):=by
  rintro b (hm|hm)
  ·rw [kind b (h.lt b hm)];exact h.kd b hm
  ·rw [agP b (hv b hm).1];exact (hv b hm).2.2
 have nH:∀b,(M b∨v.ownBlock=some b)→∃m,Ms m∧m≤b:=by
  rintro b (hm|hm)
  ·exact h.lo b hm
  ·obtain ⟨m,h1,h2⟩:=h.lo Rb h.mR;have:=h.rb;have:=(hv b hm).1;exact ⟨m,h1,by omega⟩
 have K7:∀{c:V3}{x:Im},db w Ms c x→db (w1.setCell ⟨Rb,j,none⟩ u) Ms c x:=fun hx=>hx.apart h.kd h.lo hs;refine ⟨hs,⟨PR,nH,?_,?_⟩,?_,?_,?_,?_⟩
 ·rintro b (hm|hm)
  ·exact h.qj b hm
  ·intro h1;have:=ao b h1;have:=(hv b hm).1
   omega
 ·rintro b (hm|hm)
  ·have:=h.lt b hm;have:=hb.size
   omega
  ·have:=(hv b hm).2.1
   omega
 ·exact j_ h.hs (fun k hk=>aM k (h.hs.lt k hk).2 (fun e=>by
   have h1:=eI h.hs k hk;rw [e,h.Bq] at h1
   revert h1
   decide))
 ·obtain ⟨ps,h1,h2,h3⟩:=h.hq;exact ⟨ps,h1,h2.uM (fun k hk=>aM k (h2.lt k hk) (fun e=>by
   have h1:=h2.kind k hk;rw [e,h.Bq] at h1
   revert h1
   decide)),fun p hp=>K7 (h3 p hp)⟩
 ·obtain ⟨ps,h1,h2,h3⟩:=h.hf;exact ⟨ps,h1,j_ h2 (fun k hk=>aM k (h2.lt k hk).2 (fun e=>by
   have h1:=eI h2 k hk;rw [e,h.Bq] at h1
   revert h1
   decide)),fun p hp=>K7 (h3 p hp)⟩
 ·exact j_ h.hg (fun k hk=>aM k (h.hg.lt k hk).2 (fun e=>by
   have h1:=eI h.hg k hk;rw [e,h.Bq] at h1
   revert h1
   decide))
theorem PT(hr:w1.ownsRow w e size v n xs)(hk:sW (e+2)):∀k,v.ownBlock=some k→w.heap.size≤k∧k<w1.heap.size∧sW (bA w1 k):=fun k dK=>⟨(hr.lt k dK).1,(hr.lt k dK).2,by rw [eI hr k dK];exact hk⟩
theorem K8(h:w.ownsRow B e size v n xs):w.ownsRow 0 e size v n xs:=by
 refine ⟨h.1,?_⟩;rcases h.2 with hn|⟨g,cap,cur,rfl,hbg,rest⟩
 ·exact .inl hn
 ·exact .inr ⟨g,cap,cur,rfl,Nat.zero_le _,rest⟩
theorem RX.XB{ps:List (V3×Fl)}{fs:List Fl}(h:RX w Ms M Rb sv qv fv gv s)(ao:∀b,Ms b→b<w.heap.size)(hb:Below w w w1)
 (aT:ps.map (·.2)=fs) (aS:∀p∈ps,db w Ms p.1 p.2.item) (hr:w1.ownsRow w 51 16 dp fs.length (ps.flatMap bH)):
 ∃M',RX (w1.setCell ⟨Rb,6,none⟩ dp) Ms M' Rb sv qv dp gv {s with aj:=fs}∧Sep M M' w (w1.setCell ⟨Rb,6,none⟩ dp):=by
 obtain ⟨hs,⟨k1,k2,k3,k4⟩,p1,p2,_,p4⟩:=h.fresh ao hb 6 dp dp (PT hr (.inr (.inr (.inl rfl))));refine ⟨_,⟨?_,p1,p2,⟨ps,aT,K8 (jv hr (aA h.hS hb) (by decide) (bL w1 ⟨Rb,6,none⟩ dp)),fun p hp=>(aS p hp).apart h.kd h.lo hs⟩,p4,.inl h.mR,fun k hk=> .inl (h.ms k hk),fun k hk=> .inl (h.mq k hk),fun k hk=> .inr hk,h.mg,k1,k2,k3,k4⟩,hs⟩;rw [heap_setCell_same _ _ _ _ _ _ (aA h.hS hb)]
 rfl
theorem RX.Hd{ss:List Sb}(h:RX w Ms M Rb sv qv fv gv s)(ao:∀b,Ms b→b<w.heap.size)(hb:Below w w w1)
 (hr:w1.ownsRow w 64 6 eN ss.length (ss.flatMap aP)):
 ∃M',RX (w1.setCell ⟨Rb,4,none⟩ eN) Ms M' Rb eN qv fv gv {s with ay:=ss}∧Sep M M' w (w1.setCell ⟨Rb,4,none⟩ eN):=by
 obtain ⟨hs,⟨k1,k2,k3,k4⟩,p1,p2,p3,p4⟩:=h.fresh ao hb 4 eN eN (PT hr (.inr (.inr (.inr rfl))));refine ⟨_,⟨?_,K8 (jv hr (aA h.hS hb) (by decide) (bL w1 ⟨Rb,4,none⟩ eN)),p2,p3,p4,.inl h.mR,fun k hk=> .inr hk,fun k hk=> .inl (h.mq k hk),fun k hk=> .inl (h.mf k hk),h.mg,k1,k2,k3,k4⟩,hs⟩;rw [heap_setCell_same _ _ _ _ _ _ (aA h.hS hb)]
 rfl
theorem RX.PU{ps:List (V3×Im)}{qs:List Im}(h:RX w Ms M Rb sv qv fv gv s)(ao:∀b,Ms b→b<w.heap.size)(hb:Below w w w1)
 (aT:ps.map (·.2)=qs) (aS:∀p∈ps,db w Ms p.1 p.2) (hr:w1.ownsRow w 36 14 bK qs.length (ps.flatMap cL)):
 ∃M',RX (w1.setCell ⟨Rb,5,none⟩ bK) Ms M' Rb sv bK fv gv {s with queue:=qs}∧Sep M M' w (w1.setCell ⟨Rb,5,none⟩ bK):=by
 obtain ⟨hs,⟨k1,k2,k3,k4⟩,p1,_,p3,p4⟩:=h.fresh ao hb 5 bK bK (PT hr (.inr (.inl rfl)));refine ⟨_,⟨?_,p1,⟨ps,aT,bf.gW (jv hr (aA h.hS hb) (by decide) (bL w1 ⟨Rb,5,none⟩ bK)),fun p hp=>(aS p hp).apart h.kd h.lo hs⟩,p3,p4,.inl h.mR,fun k hk=> .inl (h.ms k hk),fun k hk=> .inr hk,fun k hk=> .inl (h.mf k hk),h.mg,k1,k2,k3,k4⟩,hs⟩;rw [heap_setCell_same _ _ _ _ _ _ (aA h.hS hb)]
 rfl
theorem RX.K9{Ff:Value}{gs:List Int}(h:RX w Ms M Rb sv qv fv gv s)(ao:∀b,Ms b→b<w.heap.size)(hb:Below w w w1)
 (hr:w1.ownsRow w 3 1 Ff gs.length (iv (bE gs))):
 ∃M',RX (w1.setCell ⟨Rb,7,none⟩ Ff) Ms M' Rb sv qv fv Ff {s with aH:=gs}∧Sep M M' w (w1.setCell ⟨Rb,7,none⟩ Ff):=by
 obtain ⟨hs,⟨k1,k2,k3,k4⟩,p1,p2,p3,_⟩:=h.fresh ao hb 7 Ff (.slice none 0 0) (fun k hk=>by simp [Value.ownBlock] at hk);refine ⟨_,⟨?_,p1,p2,p3,K8 (jv hr (aA h.hS hb) (by decide) (bL w1 ⟨Rb,7,none⟩ Ff)),.inl h.mR,fun k hk=> .inl (h.ms k hk),fun k hk=> .inl (h.mq k hk),fun k hk=> .inl (h.mf k hk),fun k hk hm=> ?_,k1,k2,k3,k4⟩,hs⟩
 ·rw [heap_setCell_same _ _ _ _ _ _ (aA h.hS hb)]
  rfl
 ·have:=(hr.lt k hk).1;have:=ao k hm
  omega
theorem RX.cell(h:RX w Ms M Rb sv qv fv gv s)(ao:∀b,Ms b→b<w.heap.size)(j:Nat)(u:Value)(s':aF)(hS:(w.setCell ⟨Rb,j,none⟩ u).heap[Rb]? =some (XA s' sv qv fv gv))
 (e3:s'.ay=s.ay) (e4:s'.queue=s.queue) (e5:s'.aj=s.aj) (e6:s'.aH=s.aH):RX (w.setCell ⟨Rb,j,none⟩ u) Ms M Rb sv qv fv gv s'∧Sep M M w (w.setCell ⟨Rb,j,none⟩ u):=by
 obtain ⟨hs,⟨k1,k2,k3,k4⟩,p1,p2,p3,p4⟩:=h.fresh ao (Below.refl _ _) j u (.slice none 0 0) (fun k hk=>by simp [Value.ownBlock] at hk);refine ⟨⟨hS,by rw [e3];exact p1,by rw [e4];exact p2,by rw [e5];exact p3,by rw [e6];exact p4,h.mR,h.ms,h.mq,h.mf,h.mg,fun b hb=>k1 b (.inl hb),fun b hb=>k2 b (.inl hb),fun b hb=>k3 b (.inl hb),fun b hb=>k4 b (.inl hb)⟩,.kn (bL w ⟨Rb,j,none⟩ u) (fun k hk=>by cases hk;exact h.mR)⟩
theorem RX.pop{c:V3}{pr:List (V3×Im)}(h:RX w Ms M Rb sv qv fv gv s)(ao:∀b,Ms b→b<w.heap.size)(aT:pr.map (·.2)=rest)(aS:∀p∈(c,x)::pr,db w Ms p.1 p.2)
 (hr:bf w 36 14 bK rest.length (pr.flatMap cL)) (ho:bK.ownBlock=qv.ownBlock):
 RX (w.setCell ⟨Rb,5,none⟩ bK) Ms M Rb sv bK fv gv {s with queue:=rest}∧Sep M M w (w.setCell ⟨Rb,5,none⟩ bK):=by
 obtain ⟨hs,⟨k1,k2,k3,k4⟩,p1,p2,p3,p4⟩:=h.fresh ao (Below.refl _ _) 5 bK (.slice none 0 0) (fun k hk=>by simp [Value.ownBlock] at hk);refine ⟨⟨?_,p1,⟨pr,aT,hr.grown (bL w ⟨Rb,5,none⟩ bK) (.inl (hr.ne h.hS (by decide))),fun p hp=>(aS p (mem_cons_of_mem _ hp)).apart h.kd h.lo hs⟩,p3,p4,h.mR,h.ms,fun k hk=>h.mq k (ho▸hk),h.mf,h.mg,fun b hb=>k1 b (.inl hb),fun b hb=>k2 b (.inl hb),fun b hb=>k3 b (.inl hb),fun b hb=>k4 b (.inl hb)⟩,.kn (bL w ⟨Rb,5,none⟩ bK) (fun k hk=>by cases hk;exact h.mR)⟩;rw [heap_setCell_same _ _ _ _ _ _ h.hS]
 rfl
open List (eraseIdx_eq_take_drop_succ)
theorem bf.upto{c:Nat}{i:TypeInfo}(h:bf w e size (.slice ad n c) n xs)(ht:prog.underlying t=some (.slice e))(hi:prog.info? e=some i)(bm:i.size=size)(hk:k≤n):
 (∀w',(Instr.slice t (.slice ad n c) none (some (.int .i64 (k:Int))) none).run prog w'= .ok (.slice ad k c) w')∧Rd w size ad k (xs.take (k*size)):=by
 have he:prog.elem t=e:=by simp [Program.elem,ht]
 have iV:=h.cap;refine ⟨fun w'=> ?_,?_⟩
 ·rw [run_slice_h (P:=prog) w' _ ad n c (by rw [he];exact ht) .i64 k (by omega) (by omega),he];cases ad with
  |none=>simp [sizeOf,typeInfo,hi,bm,sliced]
  |some a=>simp [sizeOf,typeInfo,hi,bm,sliced,Addr.add]
 ·have hr:=h.rd;have xZ:=Nat.mul_le_mul_right size hk;refine ⟨by rw [List.length_take,hr.1];omega,fun h0=> ?_⟩;obtain ⟨b,o,e,hc⟩:=hr.2 (by omega);exact ⟨b,o,e,fun j hj=>by rw [hc j (by omega),List.getElem?_take,if_pos hj]⟩
theorem Df{c:Nat}(h:bf w e size (.slice ad n c) n xs)(hb:Below w w w'):Rd w' size ad n xs:=(h.below hb).rd
theorem xj(h:∀u∈xs,u.oneCell'=true):∀u∈xs.take k,u.oneCell'=true:=fun u hu=>h u (List.mem_of_mem_take hu)
theorem Dg(h:∀u∈xs,u.oneCell'=true):∀u∈xs.drop k,u.oneCell'=true:=fun u hu=>h u (List.mem_of_mem_drop hu)
theorem XC{ps:List (V3×Fl)}(h:∀p∈ps,db w M p.1 p.2.item):∀u∈ps.flatMap bH,u.oneCell'=true:=fun u hu=>by
 obtain ⟨p,hp,hu⟩:=List.mem_flatMap.1 hu;simp only [bH,List.mem_cons] at hu;rcases hu with rfl|rfl|hu
 ·rfl
 ·rfl
 ·exact (h p hp).Ug u hu
theorem XD(Rb:Nat)(s:aF)(i:Nat)(hi:i<s.aj.length)(hl:s.aj.length≤100000)(w:World)(Ms M:Nat→Prop)(h:RR w Ms M Rb s)(ao:∀b,Ms b→b<w.heap.size)(R:Ending→World→Prop)
 (hR:∀M' w',RR w' Ms M' Rb {s with aj:=s.aj.eraseIdx i}→Sep M M' w w'→R (.returned (.tuple #[])) w'):
 Calls prog 127 #[.pointer (some ⟨Rb,0,none⟩),.int .i64 i] w R:=by
 have HR:=ab hR;obtain ⟨sv,qv,fv,gv,hx⟩:=h;obtain ⟨ps,aT,aq,aS⟩:=hx.hf;obtain ⟨n,hn⟩:=ai s.aj.length;rw [hn] at aq hl hi;obtain ⟨fa,fc,rfl⟩:=bF aq;have eA:ps.length=n:=by rw [←hn,←aT];simp
 obtain ⟨i0,bS,_,cm,_⟩:=info_parts x_;have iV:=(bf.gW aq).cap;obtain ⟨Fg,ly⟩:=bf.upto (k:=i) (bf.gW (aK aq (Below.refl w w).drew)) underlying48 bS cm (by omega);obtain ⟨ax,oe,bW,_⟩:=bf.from (k:=i+1) (bf.gW aq) underlying48 bS cm (by omega);have nJ:=bW.cap;have sM:=XC aS;have c6:w.drew.cell? ⟨Rb,6,none⟩=_:=hx.cells.2.2.2.2.2.2.1;have HX:=ab hx;have dn:=ab aT;have wQ:=ab bW;have rX:=ab ly;have gK:=ab aS;have K_:=ab sM;have HN:=ab hn;have fz:=ab eA;have gg:=ab iV;have ek:=ab nJ;have ft:=ab ao;have XE:∀w',(Instr.slice 48 (.slice fa n fc) (some (.int .i64 ((i:Int)+1))) none none).run prog w'= .ok (.slice ax (n - (i+1)) (fc - (i+1))) w':=oe;have PV:IntKind.i64.wrap ((i:Int)+1)=(i:Int)+1:=by rw [IntKind.wrap_i64];omega
 clear hR hx aT aq aS eA sM ly bW iV nJ hn ao oe;go_enter func127,ntmps127;go_wp2_with fail;go_region_law (first
  |(refine uL (by rfl) (.tmp 6) (.tmp 12) 48 (by rfl) w 51 (Value.agg lT) 16 200 underlying48 x_ rfl (by decide) none (by rfl) (World.ownsRow_nil _ _ _ _) fa i fc _ (by rfl) rX.o_ (xj K_.o_) gg.o_.2.2 (by unfold maxLen;omega) (by omega) (Nat.le_refl _) ?_;intro fY c3 w3 bD an;have Ch:=cell_later an c6;have cH:Below w w w3:=dw (Below.refl w w).drew an)
  |(refine gx (by rfl) (.tmp 13) (.tmp 20) 48 (by rfl) w 51 (Value.agg lT) 16 200 underlying48 x_ rfl (by decide) fY i c3 _ (by rfl) bD ax (n - (i+1)) (fc - (i+1)) _ (by rfl) (Df wQ.o_ cH) (Dg K_.o_) ek.o_.2.2 (by unfold maxLen;omega) (by omega) cH.size ?_;intro gL c4 w4 eh cT _;have ak:=bC cH cT cH.size bD;have r4:=aA HX.o_.hS ak;have e4:=af w4 Rb 6 _ _ _ r4;have f4:=aB r4 6))
 all_goals
  have aX:i+(n - (i+1))=(s.aj.eraseIdx i).length:=by rw [List.length_eraseIdx_of_lt (by have:=HN.o_;omega),HN.o_];omega
  obtain ⟨M',iI,iJ⟩:=RX.XB (fs:=s.aj.eraseIdx i) (ps:=ps.eraseIdx i) HX.o_ ft.o_ ak (by rw [←dn.o_,map_eraseIdx]) (fun p hp=>gK.o_ p (List.mem_of_mem_eraseIdx hp)) (by
   rw [←aX,eraseIdx_eq_take_drop_succ,List.flatMap_append,←vW 16 bH iY,←AQ 16 bH iY];exact eh)
  have pV:=ab iI;have rY:=ab iJ;clear iI iJ eh cT ak r4 e4 f4 cH bD Ch an aX;go_wp2_with fail;refine bodyPost_ret (results_none rfl _ _ _) rfl ?_;exact HR.o_ M' _ ⟨sv,qv,_,gv,pV.o_⟩ rY.o_
end Go.Proofs.YtgimbocoamnkjaaGreatDoor
