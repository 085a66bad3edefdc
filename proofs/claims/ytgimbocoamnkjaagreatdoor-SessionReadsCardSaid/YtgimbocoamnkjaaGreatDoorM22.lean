/- A part of the proof of SessionReads; no conditions. -/
import Derived.Test.YtgimbocoamnkjaaGreatDoorM18
import Derived.Test.YtgimbocoamnkjaaGreatDoorM17
import Derived.Test.YtgimbocoamnkjaaGreatDoorM16
import Derived.Test.YtgimbocoamnkjaaGreatDoorM33
import Derived.Test.YtgimbocoamnkjaaGreatDoorM30
set_option maxRecDepth 100000
set_option maxHeartbeats 16000000
namespace Go.Proofs.YtgimbocoamnkjaaGreatDoor
open _root_.Go.Proofs.Tryz
open Bool (or_eq_false_iff)
open Nat (ne_of_gt ne_of_lt)
variable{l:List Pr}{aw2:List UInt8}{B K N T dc i t:Nat}{fr:Nat×Nat}{da:av}{v:Value}{w w' w0:World}
open Go.RowKit
structure NK(w0:World)(N T:Nat)(da:av)(dc:Nat)(aw2:List UInt8)(s:Cu)(cs:Array Value)(wx:World):Prop where
 cr:CR w0 137 N s wx
 tr:wx.heap[T]? =some (Obj.cells cs 34)
 ar:wx.heap[w0.heap.size]? =some (.cells dP 34)
 ow:wx.ownsRow w0 5 1 (.slice da aw2.length dc) aw2.length (bv aw2)
theorem NK.below{s:Cu}{cs:Array Value}(h:NK w0 N T da dc aw2 s cs w)(U:Below w w w'):NK w0 N T da dc aw2 s cs w':=
 ⟨h.cr.below U,aA h.tr U,aA h.ar U,aR h.ow U⟩
theorem NK.cur{s s':Cu}{cs:Array Value}(h:NK w0 N T da dc aw2 s cs w)(J:CR w0 137 N s' w')(A:w.grownBy w' (some N))(hT:T≠N)(hA:w0.heap.size≠N):NK w0 N T da dc aw2 s' cs w':=by
 obtain⟨Y,c,hr,_⟩:=h.cr.row;exact⟨J,dI A h.tr hT,dI A h.ar hA,iO h.ow hr (by decide) A⟩
theorem NK.set{s:Cu}{cs Aj:Array Value}(h:NK w0 N T da dc aw2 s cs w)(hT:N<T)(hA:w0.heap.size<N)(e:(w.setCell ⟨T,i,none⟩ v).heap[T]? =some (Obj.cells Aj 34)):NK w0 N T da dc aw2 s Aj (w.setCell ⟨T,i,none⟩ v):=by
 have A:=br w ⟨T,i,none⟩ v;exact⟨h.cr.other A (ne_of_lt hT) (h.cr.low.setCell (by show w0.heap.size≤T;omega) _),e,dI A h.ar (show w0.heap.size≠T by omega),iO h.ow h.tr (by decide) A⟩
theorem cE.note{cs:Array Value}(h:cE w B v l)(hK:w.heap[K]? =some (.cells cs t fr))(h1:t≠147)(h2:t≠5)(A:w.grownBy w' (some K)):cE w' B v l:=h.typed hK h1 h2 A
theorem afw{P:Prop}(h:P:=by
 go_wp2_with (first
  |(go_at_call 163;go_must(refine IN 3 _ _ M u cd K9.O oE.O _ GG.O (HT.O.below wm.O.cr.low) _ ?_);intro V X Fv MN MO;have Wo:=Z (MN.mono wm.O.cr.low.size);have rZ:=Z (wm.O.below MO);obtain⟨as2,as3,oA,_⟩:=rZ.O.cr.row;have d0:=D 0 oA;have d1:=aC oA 1;have d6:=aC rZ.O.tr 6;have d2:=D 1 oA;have d3:=D 6 rZ.O.tr;clear MN MO oA))
 go_meet
 try rw[GZ]
 have hm:=(rZ.O.cr.mark true)
 have G:=rZ.O.cur hm (br _ _ _) eM.O Ek.O;have eB:=G.set (i:=6) (v:= .slice V M.length X) (Aj:=(fj T1 da D2 dc q rt T4 x5 V M X x7 x6 x8)) nS.O kO.O (by rw[bm _ T 6 _ _ _ G.tr];rfl);obtain⟨_,_,oA,_⟩:=rZ.O.cr.row;exact⟨V,X,Z eB,Z (cE.note (cE.note Wo.O oA (by decide) (by decide) (br _ _ _)) G.tr (by decide) (by decide) (br _ _ _))⟩):P:=h
theorem Wp{P:Prop}(h:P:=by
 go_wp2_with (refine gw 34 2 94 w.heap.size Jb.O ?_);refine bodyPost_ret (Aw rfl _ _ w 34 dP (0,0) _ (E 190) rfl rfl (setRow_heap MP w.heap.size _ _ _ _ Jb.O) underlying34 rfl (by kernel_rfl)) rfl ?_;exact HR.O none 0 none 0 _ (bO _ _ _ _) (cE.nil _ _) (below_setRow Wq.O bj dP)):P:=h
theorem as4(b:List UInt8)(x:Nt)(er:Int)(F:rdN b=(x,er))(v:Value)(w:World)(hv:Bs w v b)(ep:b.length≤65535)(hT:dy w)(R:ak)
 (I:∀da dc V X w',w'.ownsRow w 5 1 (.slice da x.ay.length dc) x.ay.length (bv x.ay)→cE w' w.heap.size (.slice V x.props.length X) x.props→Below w w w'→R (.returned (.tuple #[(Value.agg (oh x da dc V X)),E er])) w'):
 Calls prog 138 #[v] w R:=by
 have HR:=Z I;have HV:=Z hv;obtain⟨T1,s1,k1⟩:∃T s,hO ⟨b,false⟩=(T,s):=⟨_,_,rfl⟩
 obtain⟨D2,s2,k2⟩:∃T s,hO s1=(T,s):=⟨_,_,rfl⟩
 obtain⟨x3,s3,k3⟩:∃T s,aN 1 s2=(T,s):=⟨_,_,rfl⟩
 obtain⟨T4,s4,k4⟩:∃T s,hO s3=(T,s):=⟨_,_,rfl⟩
 obtain⟨x5,s5,k5⟩:∃T s,aN 8 s4=(T,s):=⟨_,_,rfl⟩
 obtain⟨x6,s6,k6⟩:∃T s,aN 8 s5=(T,s):=⟨_,_,rfl⟩
 obtain⟨x7,s7,k7⟩:∃T s,aN 1 s6=(T,s):=⟨_,_,rfl⟩
 obtain⟨x8,s8,k8⟩:∃T s,aN 1 s7=(T,s):=⟨_,_,rfl⟩
 obtain⟨M,u,cd,k9⟩:∃l u c,lf 3 s8.b=(l,u,c):=⟨_,_,_,rfl⟩
 obtain⟨q,hq⟩:=ai (bits .and .i64 x3 3);obtain⟨rt,Gq⟩:∃q,(bits .and .i64 x3 4 != 0)=q:=⟨_,rfl⟩
 obtain⟨e9,Ws⟩:∃z,((cd:Int) != 0 || u != (s8.b.length:Int))=z:=⟨_,rfl⟩
 obtain⟨L,hL⟩:∃z,(if s8.bad=true then [] else M)=z:=⟨_,rfl⟩
 have hp:pD b=((⟨T1,D2,q,rt,T4,x5,L,x7,x6,x8⟩:Nt),s8.bad || e9):=by
  show(_,_)=_;simp only[k1,k2,k3,k4,k5,k6,k7,k8,k9,hq,Gq,Ws,hL]
 have zC:s8.b.length≤b.length:=by
  have:=(uf k1).2.1;have:=(uf k2).2.1;have:=Ad k3;have:=(uf k4).2.1;have:=Ad k5;have:=Ad k6;have:=Ad k7;have:=Ad k8;simp only at*
  omega
 obtain⟨g1,g2,g3,g4⟩:=QB k9;have Wt:(∀p∈L,PB p)∧L.length≤b.length∧(L.flatMap bR).length≤b.length:=by
  rw[←hL]
  split
  ·exact⟨fun p hp=>(qT hp).elim,by simp,by simp⟩
  exact⟨g1,by omega,by omega⟩
 have sj:0≤q∧q≤3:=by
  obtain⟨m,rfl,hm⟩:=kS (by decide) k3;rw[←hq];exact Gp m hm
 have hB:xC (⟨T1,D2,q,rt,T4,x5,L,x7,x6,x8⟩:Nt):=⟨aJ (uf k1).1 (by decide),aJ (uf k2).1 (by decide),aJ (uf k4).1 (by decide),by show L.length≤100000;omega,Wt.1,by show -9223372036854775808≤q∧q≤9223372036854775807;omega⟩
 have hG:Va (⟨T1,D2,q,rt,T4,x5,L,x7,x6,x8⟩:Nt):=⟨hB,(uf k1).1,(uf k2).1,(uf k4).1,sj.1,sj.2,kS (n:=1) (by decide) k7,kS (n:=1) (by decide) k8,by show(L.flatMap bR).length≤65535;omega⟩
 obtain⟨awX,hF⟩:∃z:Bool,z=true↔lZ (⟨T1,D2,q,rt,T4,x5,L,x7,x6,x8⟩:Nt):=by
  by_cases h:lZ (⟨T1,D2,q,rt,T4,x5,L,x7,x6,x8⟩:Nt)
  ·exact⟨true,by simp[h]⟩
  exact⟨false,by simp[h]⟩
 obtain⟨aw0,hY⟩:=ai (eG (⟨T1,D2,q,rt,T4,x5,L,x7,x6,x8⟩:Nt));have Gs:Hid (¬(s8.bad=false∧e9=false∧awX=true∧aw0=b)→x=⟨[],[],0,false,[],0,[],0,0,0⟩∧er=190):=Z fun J=>by
  rw[adV fun z hz U=>J (by
   rw[←U,ase hz] at hp;obtain⟨rfl,h2⟩:=Prod.mk.inj hp;have wK:s8.bad=false∧e9=false:=by simpa using h2.symm
   exact⟨wK.1,wK.2,hF.2 hz,by rw[←hY,U]⟩)] at F
  cases F;exact⟨rfl,rfl⟩
 have as5:Hid (awX=true→aw0=b→x=(⟨T1,D2,q,rt,T4,x5,L,x7,x6,x8⟩:Nt)∧er=0):=Z fun h1 h2=>by
  rw[←h2,←hY,QC (hF.1 h1)] at F;cases F;exact⟨rfl,rfl⟩
 obtain⟨va,vc,rfl,_⟩:=id hv;have b1:Below w w (w.alloc (.cells dP 34)):=aD _ _;have b2:Below w w ((w.alloc (.cells dP 34)).alloc (.cells #[.slice va b.length vc,.bool false] 137)):=b1.alloc b1.size _;have fL:CR w 137 (w.alloc (.cells dP 34)).heap.size ⟨b,false⟩ ((w.alloc (.cells dP 34)).alloc (.cells #[.slice va b.length vc,.bool false] 137)):=⟨⟨va,vc,aH _ _,hv⟩,b2,b1.size,by simp only;omega⟩
 have hz:(w.alloc (.cells dP 34)).heap.size=w.heap.size+1:=(AP w _).symm;rw[hz] at fL;obtain⟨oW,HT,cT,HG,HQ,VB,afx,HL,HF,HY,oI,RE⟩:=Jp fL hT hB hG hq Gq Ws hL hF hY Wt zC;obtain⟨K1,K2,K3,K4,K5,K6,K7,K8,K9⟩:=CO k1 k2 k3 k4 k5 k6 k7 k8 k9;have qP:=Z (aA (aH w (.cells dP 34)) ((Below.refl (w.alloc (.cells dP 34)).heap.size (w.alloc (.cells dP 34))).alloc bj (.cells #[.slice va b.length vc,.bool false] 137)));clear I hv fL b1 b2 hz hT hp hB hG F g1 g2 g3 g4 hq Gq Ws hL hF hY Wt sj zC k1 k2 k3 k4 k5 k6 k7 k8 k9;go_enter func138,ntmps138;go_upto_region 2 with fail
 generalize (w.alloc (.cells dP 34)).alloc (.cells #[.slice va b.length vc,.bool false] 137)=w2 at oW qP⊢;obtain⟨N,hN⟩:=ai (w.heap.size+1);rw[hN] at oW⊢;have kO:Hid (w.heap.size<N):=by show _<_;omega
 clear hN;go_upto_region 3 with(first
  |(go_at_call 95;go_must(refine ME N _ T1 s1 K1.O w _ oW.O _ ?_);intro w3 iB dz;have np:=Z iB;have wk:=Z (dI dz qP.O (ne_of_lt kO.O));clear iB dz)
  |(go_at_call 98;go_must(refine MD N _ D2 s2 K2.O w _ np.O _ ?_);intro da dc w4 eQ fy cV;have jz:=Z fy;have rY:=Z (dI cV wk.O (ne_of_lt kO.O));have oU:=Z (cm (jE:=w.heap.size) eQ np.O.low.size);have Wu:=Z (aH w4 (.cells dP 34));clear eQ fy cV)
  |(refine gw 34 5 19 w4.heap.size Wu.O ?_;rw[World.setRow_alloc_new]))
 have dB:=aH w4 (.cells #[.string (str T1),.slice da D2.length dc,E 0,.bool false,.string ⟨#[]⟩,E 0,.slice none 0 0,E 0,E 0,E 0] 34);have aE:=aD w4 (.cells #[.string (str T1),.slice da D2.length dc,E 0,.bool false,.string ⟨#[]⟩,E 0,.slice none 0 0,E 0,E 0,E 0] 34);generalize w4.alloc (.cells #[.string (str T1),.slice da D2.length dc,E 0,.bool false,.string ⟨#[]⟩,E 0,.slice none 0 0,E 0,E 0,E 0] 34)=w5 at dB aE⊢;obtain⟨T,cQ⟩:=ai w4.heap.size;have nS:Hid (N<T):=by have:=jz.O.lt;show _<_;omega
 rw[cQ] at dB⊢;have Ak:Hid (NK w N T da dc D2 s2 #[.string (str T1),.slice da D2.length dc,E 0,.bool false,.string ⟨#[]⟩,E 0,.slice none 0 0,E 0,E 0,E 0] w5):=Z ⟨jz.O.below aE,dB,aA rY.O aE,aR oU.O aE⟩;have eM:Hid (T≠N):=ne_of_gt nS.O;have Ek:Hid (w.heap.size≠N):=ne_of_lt kO.O;clear dB aE cQ;go_upto_region 4 with(first
  |(go_at_call 96;go_must(refine nY N 1 _ x3 s3 K3.O (by decide) w _ Ak.O.cr _ ?_);intro w6 rP bI;have tZ:=Z (Ak.O.cur rP bI eM.O Ek.O);clear rP bI))
 have f6:=aC tZ.O.tr 2;have f7:=aC tZ.O.tr 3;have c6:=D 2 tZ.O.tr;have c7:=D 3 tZ.O.tr;go_upto_region 5 with fail
 rw[HQ.O,VB.O];have GH:=tZ.O.set (i:=2) (v:= .int .i64 q) (Aj:=#[.string (str T1),.slice da D2.length dc,E q,.bool false,.string ⟨#[]⟩,E 0,.slice none 0 0,E 0,E 0,E 0]) nS.O kO.O (by rw[bm w6 T 2 _ _ _ tZ.O.tr];rfl);have Wv:=Z (GH.set (i:=3) (v:= .bool rt) (Aj:=#[.string (str T1),.slice da D2.length dc,E q,.bool rt,.string ⟨#[]⟩,E 0,.slice none 0 0,E 0,E 0,E 0]) nS.O kO.O (by rw[bm _ T 3 _ _ _ GH.tr];rfl));clear GH f6 f7 c6 c7;generalize (w6.setCell ⟨T,2,none⟩ (E q)).setCell ⟨T,3,none⟩ (.bool rt)=w8 at Wv⊢;go_upto_region 6 with(first
  |(go_at_call 95;go_must(refine ME N _ T4 s4 K4.O w _ Wv.O.cr _ ?_);intro w9 lX bW;have Jc:=Z (Wv.O.cur lX bW eM.O Ek.O);have f9:=aC Jc.O.tr 4;have c9:=D 4 Jc.O.tr;clear lX bW))
 have Ww:=Z (Jc.O.set (i:=4) (v:= .string (str T4)) (Aj:=#[.string (str T1),.slice da D2.length dc,E q,.bool rt,.string (str T4),E 0,.slice none 0 0,E 0,E 0,E 0]) nS.O kO.O (by rw[bm _ T 4 _ _ _ Jc.O.tr];rfl));clear f9 c9;generalize w9.setCell ⟨T,4,none⟩ (.string (str T4))=df at Ww⊢;have m1:Hid True:=trivial;go_upto_region 7 with(first
  |(have hq:=m1;go_at_call 96;go_must(refine nY N 8 _ x5 s5 K5.O (by decide) w _ Ww.O.cr _ ?_);intro du J A;have Jd:=Z (Ww.O.cur J A eM.O Ek.O);have m2:Hid True:=trivial;clear J A hq m1)
  |(have hq:=m2;go_at_call 96;go_must(refine nY N 8 _ x6 s6 K6.O (by decide) w _ Jd.O.cr _ ?_);intro cY J A;have t_:=Z (Jd.O.cur J A eM.O Ek.O);have m3:Hid True:=trivial;clear J A hq m2)
  |(have hq:=m3;go_at_call 96;go_must(refine nY N 1 _ x7 s7 K7.O (by decide) w _ t_.O.cr _ ?_);intro mD J A;have Je:=Z (t_.O.cur J A eM.O Ek.O);have m4:Hid True:=trivial;clear J A hq m3)
  |(have hq:=m4;go_at_call 96;go_must(refine nY N 1 _ x8 s8 K8.O (by decide) w _ Je.O.cr _ ?_);intro rM J A;have xv:=Z (Je.O.cur J A eM.O Ek.O);have f5:=aC xv.O.tr 5;have f8:=aC xv.O.tr 8;have f7:=aC xv.O.tr 7;have f9:=aC xv.O.tr 9;have c5:=D 5 xv.O.tr;have c8:=D 8 xv.O.tr;have c7:=D 7 xv.O.tr;have c9:=D 9 xv.O.tr;clear J A hq m4))
 have xQ:=xv.O.set (i:=5) (v:= .int .i64 x5) (Aj:=#[.string (str T1),.slice da D2.length dc,E q,.bool rt,.string (str T4),E x5,.slice none 0 0,E 0,E 0,E 0]) nS.O kO.O (by rw[bm _ T 5 _ _ _ xv.O.tr];rfl);have lJ:=xQ.set (i:=8) (v:= .int .i64 x6) (Aj:=#[.string (str T1),.slice da D2.length dc,E q,.bool rt,.string (str T4),E x5,.slice none 0 0,E 0,E x6,E 0]) nS.O kO.O (by rw[bm _ T 8 _ _ _ xQ.tr];rfl);have GH:=lJ.set (i:=7) (v:= .int .i64 x7) (Aj:=#[.string (str T1),.slice da D2.length dc,E q,.bool rt,.string (str T4),E x5,.slice none 0 0,E x7,E x6,E 0]) nS.O kO.O (by rw[bm _ T 7 _ _ _ lJ.tr];rfl);have wm:=Z (GH.set (i:=9) (v:= .int .i64 x8) (Aj:=#[.string (str T1),.slice da D2.length dc,E q,.bool rt,.string (str T4),E x5,.slice none 0 0,E x7,E x6,E x8]) nS.O kO.O (by rw[bm _ T 9 _ _ _ GH.tr];rfl));clear xQ lJ GH f5 f8 f7 f9 c5 c8 c7 c9;generalize (((rM.setCell ⟨T,5,none⟩ (E x5)).setCell ⟨T,8,none⟩ (E x6)).setCell ⟨T,7,none⟩ (E x7)).setCell ⟨T,9,none⟩ (E x8)=oF at wm⊢;obtain⟨la,lc,Wx,Dx⟩:=wm.O.cr.row;have c0:=D 0 Wx;have c1:oF.cell? ⟨N,1,none⟩=some (.bool s8.bad):=D 1 Wx;have GG:=Z (Dx.below wm.O.cr.low);have oE:Hid (s8.b.length≤100000000):=by have:=RE.O;show _≤_;omega
 clear Wx Dx;go_upto_if 48 with fail
 go_cut [] from 49 to 73 (fun wx=>∃(V:av)(X:Nat),Hid (NK w N T da dc D2 ⟨s8.b,s8.bad || e9⟩ (fj T1 da D2 dc q rt T4 x5 V L X x7 x6 x8) wx)∧Hid (cE wx w.heap.size (.slice V L.length X) L))
 case first=>
  obtain⟨sb,bad⟩:=s8;cases bad with
  |true=>
   go_wp2_with fail;go_meet;obtain rfl: []=L:=HL.O;exact⟨none,0,wm,Z (cE.nil _ _)⟩
  |false=>
   obtain rfl:M=L:=HL.O;simp only at c0 c1 GG oE;cases e9 with
   |true=>
    by_cases as6:cd=0
    ·have afy:(cd:Int)=0:=by omega
     have afz:u≠(sb.length:Int):=by
      have:=afx.O;simp only[as6,Bool.or_eq_true,bne_iff_ne] at this;rcases this with h|h
      ·exact absurd rfl h
      exact h
     have GZ:(u != (sb.length:Int))=true:=by simpa using afz
     exact afw
    have afy:¬(cd:Int)=0:=by omega
    exact afw
   |false=>
    have he:=afx.O;simp only[or_eq_false_iff,bne_eq_false_iff_eq] at he;obtain⟨afy,afz⟩:=he;go_wp2_with (first
     |(go_at_call 163;go_must(refine IN 3 _ _ M u cd K9.O oE.O _ GG.O (HT.O.below wm.O.cr.low) _ ?_);intro V X Fv MN MO;have Wo:=Z (MN.mono wm.O.cr.low.size);have rZ:=Z (wm.O.below MO);obtain⟨as2,as3,oA,_⟩:=rZ.O.cr.row;have d0:=D 0 oA;have d1:=aC oA 1;have d6:=aC rZ.O.tr 6;have d2:=D 1 oA;have d3:=D 6 rZ.O.tr;clear MN MO oA))
    go_meet
    try rw[GZ]
    have hm:=(rZ.O.cr.mark false)
    have G:=rZ.O.cur hm (br _ _ _) eM.O Ek.O;have eB:=G.set (i:=6) (v:= .slice V M.length X) (Aj:=(fj T1 da D2 dc q rt T4 x5 V M X x7 x6 x8)) nS.O kO.O (by rw[bm _ T 6 _ _ _ G.tr];rfl);obtain⟨_,_,oA,_⟩:=rZ.O.cr.row;exact⟨V,X,Z eB,Z (cE.note (cE.note Wo.O oA (by decide) (by decide) (br _ _ _)) G.tr (by decide) (by decide) (br _ _ _))⟩
 obtain⟨V,X,yF,Ks⟩:=hcut;obtain⟨kv,rfl⟩:∃x,x=wc:=⟨_,rfl⟩
 obtain⟨la,lc,afA,_⟩:=yF.O.cr.row;obtain⟨u0,u1,u2,u3,u4,u5,u6,u7,u8,u9,u10⟩:=Fw afA yF.O.tr;have afB:=b_ yF.O.ow;have afC:=Ks.O.ps cT.O.e;have as7:=Z afB;have as8:=Z afC;have as9:=Z (HT.O.below yF.O.cr.low);clear afA afB afC;go_upto_region 12 with(first
  |(go_at_call 123;go_must(refine adB (⟨T1,D2,q,rt,T4,x5,L,x7,x6,x8⟩:Nt) HG.O awX HF.O _ _ _ as7.O as8.O as9.O aw0 HY.O _ ?_);intro ya yc MP afD Wy;have MQ:=Z (yF.O.below Wy);have ata:=Z (Ks.O.below Wy);have atb:=Z (b_ afD);clear Wy afD))
 clear u0 u1 u2 u3 u4 u5 u6 u7 u8 u9 u10 yF Ks;have Jb:=Z MQ.O.ar;have Wq:=Z MQ.O.cr.low;obtain⟨la,lc,afE,_⟩:=MQ.O.cr.row;obtain⟨u0,u1,u2,u3,u4,u5,u6,u7,u8,u9,u10⟩:=Fw afE MQ.O.tr;have Jf:=lU (P:=prog) underlying22 underlying5 underlying9 atb.O;have EO:=lU (P:=prog) underlying22 underlying5 underlying9 (HV.O.below Wq.O);clear afE;obtain⟨sh,lW⟩:=ai ((s8.bad || e9));have u11:MP.cell? ⟨N,1,none⟩=some (.bool (s8.bad || e9)):=u0;rw[lW] at u11;clear u0;have Cq:=Z lW;clear lW;cases sh with
 |true=>
  obtain⟨rfl,rfl⟩:=Gs.O (fun h=>by have:=Cq.O;rw[h.1,h.2.1] at this;cases this);exact Wp
 |false=>
  cases awX with
  |false=>
   obtain⟨rfl,rfl⟩:=Gs.O (fun h=>by cases h.2.2.1);exact Wp
  |true=>
   by_cases jS:aw0=b
   ·obtain⟨rfl,rfl⟩:=as5.O rfl jS;have Rf:=Z jS;obtain⟨sY,Al⟩:=ai (str aw0);have x_:str b=sY:=by rw[←jS,Al]
    rw[Al] at Jf;rw[x_] at EO;clear jS Al x_;go_wp2_with (refine gw 34 2 95 w.heap.size Jb.O ?_);have bt:w.heap.size<N:=kO.O;have ho:=MQ.O.ow;have aU:=iO ho Jb.O (by decide) (BY MP w.heap.size (fj T1 da D2 dc q rt T4 x5 V L X x7 x6 x8));have aZ:=ata.O.note Jb.O (by decide) (by decide) (BY MP w.heap.size (fj T1 da D2 dc q rt T4 x5 V L X x7 x6 x8));have xZ:=Z (HR.O da dc V X _ aU aZ (below_setRow Wq.O bj (fj T1 da D2 dc q rt T4 x5 V L X x7 x6 x8)));clear aU aZ bt ho;refine bodyPost_ret (Aw rfl _ _ w 34 (fj T1 da D2 dc q rt T4 x5 V L X x7 x6 x8) (0,0) _ (E 0) rfl rfl (setRow_heap MP w.heap.size _ _ _ _ Jb.O) underlying34 rfl (by kernel_rfl)) rfl ?_;exact xZ.O
   obtain⟨rfl,rfl⟩:=Gs.O (fun h=>jS h.2.2.2);have iy:(aw0==b)=false:=by simpa using jS
   exact Wp
open Nat (le_of_eq le_of_lt lt_succ_self)
variable{aI:Bool}{x:Im}{ah:Int}{awY B0 ic:Nat}{Y ia V:av}{pv qv:Value}
structure wu(w wr:World)(N awY T B0:Nat)(n:Nt)(ah:Int)(aI:Bool)(da:av)(dc:Nat)(V:av)(X:Nat)(s:Cu)(l:List Int)(ia:av)(ic:Nat):Prop where
 cr:CR w 137 N s wr
 tr:wr.heap[T]? =some (.cells #[.string (str n.aF),.slice da n.ay.length dc,.int .i64 n.ah,.bool n.aL,.string (str n.src),.int .i64 n.aP,.slice V n.props.length X,.int .i64 n.origin,.int .i64 n.number,.int .i64 n.aW,E ah,.bool aI,.slice ia l.length ic,.string ⟨#[]⟩] 36)
 ar:wr.heap[awY]? =some (.cells aX 36)
 po:wr.ownsRow B0 5 1 (.slice da n.ay.length dc) n.ay.length (bv n.ay)
 qo:cE wr B0 (.slice V n.props.length X) n.props
 io:wr.ownsRow B0 3 1 (.slice ia l.length ic) l.length (Go.Proofs.YtgimbocoamnkjaaGreatDoor.iv l)
theorem wu.cur{wr:World}{n:Nt}{X:Nat}{s s':Cu}{l:List Int}(h:wu w wr N awY T B0 n ah aI da dc V X s l ia ic)(J:CR w 137 N s' w')(A:wr.grownBy w' (some N))(hN:N<B0)(hT:T≠N)(hA:awY≠N):wu w w' N awY T B0 n ah aI da dc V X s' l ia ic:=
 ⟨J,dI A h.tr hT,dI A h.ar hA,j1 h.po A (m8 h.po hN),h.qo.yK A hN,j1 h.io A (m8 h.io hN)⟩
theorem wu.below{wr:World}{n:Nt}{X:Nat}{s:Cu}{l:List Int}(h:wu w wr N awY T B0 n ah aI da dc V X s l ia ic)(U:Below wr wr w'):wu w w' N awY T B0 n ah aI da dc V X s l ia ic:=
 ⟨h.cr.below U,aA h.tr U,aA h.ar U,aR h.po U,h.qo.below U,aR h.io U⟩
theorem wu.app{wr:World}{n:Nt}{X:Nat}{s:Cu}{l:List Int}{c:Nat}(h:wu w wr N awY T B0 n ah aI da dc V X s l ia ic)(x:Int)(A:wr.grownBy w' (Value.slice ia l.length ic).ownBlock)(ho:w'.ownsRow B0 3 1 (.slice Y (l.length+1) c) (l.length+1) (Go.Proofs.YtgimbocoamnkjaaGreatDoor.iv l++ [.int .i64 x]))(hN:w.heap.size≤B0)(zV:T≠N)(aei:awY≠T)(aeh:w.heap.size≤T):
 wu w (w'.setCell ⟨T,12,none⟩ (.slice Y (l.length+1) c)) N awY T B0 n ah aI da dc V X s (l++ [x]) Y c:=by
 exact aeg
theorem ft.cG{iv:Value}(h:ft w B pv qv iv x)(U:xC x.note):ie w pv qv iv x:=by
 obtain⟨⟨a,c,rfl⟩,⟨a1,c1,rfl⟩,a2,c2,rfl⟩:=h.shape;exact⟨(fO h.p).2,h.q.ps U.e,Jv h.i rfl⟩
theorem Rh{P:Prop}(h:P:=by
 go_wp2_with (refine gw 36 2 81 (w.heap.size) CE.O ?_);refine bodyPost_ret (Aw rfl _ _ w 36 aX (0,0) _ (E 190) rfl rfl (setRow_heap cY w.heap.size _ _ _ _ CE.O) underlying36 rfl (by kernel_rfl)) rfl ?_;exact HR.O none 0 none 0 none 0 _ ⟨bO _ _ _ _,cE.nil _ _,bO _ _ _ _⟩ (below_setRow (mi.O) bj aX)):P:=h
theorem afF(b:List UInt8)(x:Im)(er:Int)(F:rdI b=(x,er))(v:Value)(w:World)(hv:Bs w v b)(ep:b.length≤65535)(hT:dy w)(R:ak)
 (I:∀da dc V X ia ic w',ft w' w.heap.size (.slice da x.note.ay.length dc) (.slice V x.note.props.length X) (.slice ia x.ids.length ic) x→Below w w w'→R (.returned (.tuple #[(Value.agg (aG x da dc V X ia ic)),E er])) w'):
 Calls prog 97 #[v] w R:=by
 have HR:=Z I;obtain⟨aw2,s1,k1⟩:∃T s,hO ⟨b,false⟩=(T,s):=⟨_,_,rfl⟩
 obtain⟨n,e,k6⟩:∃T s,rdN aw2=(T,s):=⟨_,_,rfl⟩
 obtain⟨x2,s2,k2⟩:∃T s,aN 1 s1=(T,s):=⟨_,_,rfl⟩
 obtain⟨x3,s3,k3⟩:∃T s,aN 1 s2=(T,s):=⟨_,_,rfl⟩
 obtain⟨m,rfl,hm⟩:=kS (by decide) k3;obtain⟨ah,hq⟩:=ai (bits .and .i64 x2 3);obtain⟨aI,G⟩:∃q,(bits .and .i64 x2 4 != 0)=q:=⟨_,rfl⟩
 have sj:0≤ah∧ah≤3:=by
  obtain⟨j,rfl,hj⟩:=kS (by decide) k2;rw[←hq];exact Gp j hj
 have gK:aw2.length≤65535:=(uf k1).1;have fh:m<256:=hm;obtain⟨oT,k_⟩:=asj k6 gK;obtain⟨iC,iq⟩:=oT.b k_;have HV:=Z hv;have HT:=Z hT;obtain⟨va,vc,rfl,_⟩:=id hv;have b1:Below w w (w.alloc (.cells aX 36)):=aD _ _;have b2:Below w w ((w.alloc (.cells aX 36)).alloc (.cells #[.slice va b.length vc,.bool false] 137)):=b1.alloc b1.size _;have fL:CR w 137 (w.alloc (.cells aX 36)).heap.size ⟨b,false⟩ ((w.alloc (.cells aX 36)).alloc (.cells #[.slice va b.length vc,.bool false] 137)):=⟨⟨va,vc,aH _ _,hv⟩,b2,b1.size,by simp only;omega⟩
 have hz:(w.alloc (.cells aX 36)).heap.size=w.heap.size+1:=(AP w _).symm;rw[hz] at fL;have hA2:=aA (aH w (.cells aX 36)) ((Below.refl (w.alloc (.cells aX 36)).heap.size (w.alloc (.cells aX 36))).alloc bj (.cells #[.slice va b.length vc,.bool false] 137));obtain⟨K1,K2,K3,K6,HQ,HK,HX,afG,uB,Gg,sI,A_⟩:=Jp k1 k2 k3 k6 hq G F sj oT k_ iC iq;have oW:=Z fL;have bn:=Z b2;clear I hv hT k1 k2 k3 k6 hq G F b1 b2 fL hz sj oT k_ iC iq;go_enter func97,ntmps97;go_upto_region 2 with fail
 generalize (w.alloc (.cells aX 36)).alloc (.cells #[.slice va b.length vc,.bool false] 137)=w2 at oW bn hA2⊢;have qP:=Z hA2;have Mk:w.heap.size≠w.heap.size+1:=ne_of_lt (lt_succ_self _);have fA:=Z Mk;clear hA2 Mk;go_upto_region 3 with(first
  |(go_at_call 98;go_must(refine MD _ _ aw2 s1 K1.O w _ oW.O _ ?_);intro xa xc w3 bN iB dz;have iF:=Z (b_ bN);have np:=Z iB;have wk:=Z (dI dz qP.O fA.O);clear bN iB dz)
  |(go_at_call 138;go_must(refine as4 aw2 n e K6.O _ _ iF.O gK (HT.O.below np.O.low) _ ?_);intro da dc V X w4 Ml Mm ao;have Hz:=Z ao.size;have QL:=Z Ml;have QM:=Z Mm;have jz:=Z (np.O.below ao);have rY:=Z (aA wk.O ao);have Wu:=Z (aH w4 (.cells dP 34));clear Ml Mm ao)
  |(refine gw 34 5 20 w4.heap.size Wu.O ?_;rw[World.setRow_alloc_new]))
 have dB:=aH w4 (.cells (oh n da dc V X) 34);have aE:=aD w4 (.cells (oh n da dc V X) 34);generalize w4.alloc (.cells (oh n da dc V X) 34)=w5 at dB aE⊢;have nH:=Z aE.size;obtain⟨T5,pd⟩:=ai w4.heap.size;rw[pd] at dB⊢;have oX:=Z dB;have nw:=Z (jz.O.below aE);have D8:=Z (aA rY.O aE);have QN:=Z (aR QL.O aE);have QO:=Z (QM.O.below aE);have eW:Hid (w.heap.size+1<w3.heap.size):=np.O.lt;have atc:=Z (aH w5 (.cells aX 36));clear dB aE pd;go_upto_region 4 with(first
  |(refine kJ 22 34 5 T5 oX.O underlying34 ?_)
  |(refine gw 36 7 23 w5.heap.size atc.O ?_;rw[World.setRow_alloc_new]))
 have jy:=aH w5 (.cells #[.string (str n.aF),.slice da n.ay.length dc,.int .i64 n.ah,.bool n.aL,.string (str n.src),.int .i64 n.aP,.slice V n.props.length X,.int .i64 n.origin,.int .i64 n.number,.int .i64 n.aW,E 0,.bool false,.slice none 0 0,.string ⟨#[]⟩] 36);have bd:=aD w5 (.cells #[.string (str n.aF),.slice da n.ay.length dc,.int .i64 n.ah,.bool n.aL,.string (str n.src),.int .i64 n.aP,.slice V n.props.length X,.int .i64 n.origin,.int .i64 n.number,.int .i64 n.aW,E 0,.bool false,.slice none 0 0,.string ⟨#[]⟩] 36);generalize w5.alloc (.cells #[.string (str n.aF),.slice da n.ay.length dc,.int .i64 n.ah,.bool n.aL,.string (str n.src),.int .i64 n.aP,.slice V n.props.length X,.int .i64 n.origin,.int .i64 n.number,.int .i64 n.aW,E 0,.bool false,.slice none 0 0,.string ⟨#[]⟩] 36)=w6 at jy bd⊢;have au:=nw.O.lt;have jj:w3.heap.size≤w5.heap.size:=aJ Hz.O nH.O;obtain⟨T,cQ⟩:=ai w5.heap.size;rw[cQ] at jj;have jl:=Z jj;have bB:=Z np.O.low.size;clear jj;rw[cQ] at jy au⊢;have zV:T≠w.heap.size+1:=ne_of_gt au;obtain⟨eM,fx,oM⟩:=bX zV au jy;have tU:=Z (nw.O.below bd);have yv:=Z (aA D8.O bd);have I2:=Z (aR QN.O bd);have QP:=Z (QO.O.below bd);clear jy bd cQ zV au;go_upto_region 5 with(first
  |(go_at_call 96;go_must(refine nY _ 1 _ x2 s2 K2.O (by decide) w _ tU.O _ ?_);intro w7 tu fT;have iV:=dI fT oM.O eM.O;have sS:=Z iV;have xm:=Z tu;have I3:=Z (dI fT yv.O fA.O);have QQ:=Z (j1 I2.O fT (m8 I2.O eW.O));have QR:=Z (QP.O.yK fT eW.O);have fD:=D 10 iV;have f10:=aC iV 10;have iP:=D 11 iV;have f11:=aC iV 11;clear tu fT iV))
 go_upto_region 6 with fail
 rw[HQ.O,HK.O];have fw:w.heap.size≤T:=by have:=fx.O;omega
 have mT:((w7.setCell ⟨T,10,none⟩ (E ah)).setCell ⟨T,11,none⟩ (.bool aI)).heap[T]? =some (.cells #[.string (str n.aF),.slice da n.ay.length dc,.int .i64 n.ah,.bool n.aL,.string (str n.src),.int .i64 n.aP,.slice V n.props.length X,.int .i64 n.origin,.int .i64 n.number,.int .i64 n.aW,E ah,.bool aI,.slice none 0 0,.string ⟨#[]⟩] 36):=by
  rw[bm _ T 11 _ _ _ (bm w7 T 10 _ _ _ sS.O)]
  rfl
 have eL:=cg (br w7 ⟨T,10,none⟩ (E ah)) (br _ ⟨T,11,none⟩ (.bool aI));have kR:=xm.O.other eL eM.O.symm ((xm.O.low.setCell fw _).setCell fw _);have Gt:w.heap.size≠T:=by have:=fx.O;omega
 have Af:=dI eL I3.O Gt;have Gu:=iO QQ.O sS.O (by decide) eL;have Gv:=QR.O.typed sS.O (by decide) (by decide) eL;generalize (w7.setCell ⟨T,10,none⟩ (E ah)).setCell ⟨T,11,none⟩ (.bool aI)=w8 at mT kR Af Gu Gv⊢;have VF:=D 10 mT;have Fo:=Z fw;have x9:=Z Gt;have I4:Hid (wu w w8 (w.heap.size+1) w.heap.size T w3.heap.size n ah aI da dc V X s2 [] none 0):=Z ⟨kR,mT,Af,Gu,Gv,bO _ _ _ _⟩;clear mT eL kR Af Gu Gv fD iP f10 f11 fw Gt;clear VF;go_upto_block 0 with(first
  |(go_at_call 96;go_must(refine nY _ 1 _ _ s3 K3.O (by decide) w _ I4.O.cr _ ?_);intro w9 lX bW;have jw:Hid (wu w w9 (w.heap.size+1) w.heap.size T w3.heap.size n ah aI da dc V X s3 [] none 0):=Z (I4.O.cur lX bW eW.O eM.O fA.O);clear lX bW))
 go_cut [] from 35 to 53 (fun wx=>∃(k:Nat)(l:List Int)(ia:av)(ic:Nat),k≤m∧Hid (l=(fG k s3).1)∧l.length≤k∧Hid (k=m∨(fG k s3).2.bad=true)∧Hid (wu w wx (w.heap.size+1) w.heap.size T w3.heap.size n ah aI da dc V X (fG k s3).2 l ia ic))
 case first=>
  go_wp2_with fail;go_loopg [10] m (fun gn i wr=>∃(k:Nat)(l:List Int)(ia:av)(ic:Nat),k≤m∧gn=m - k∧i= .int .i64 k∧Hid (l=(fG k s3).1)∧l.length≤k∧Hid (wu w wr (w.heap.size+1) w.heap.size T w3.heap.size n ah aI da dc V X (fG k s3).2 l ia ic))
  case atStart=>exact⟨0,[],none,0,bP _,by omega,rfl,Z rfl,Nat.le_refl _,jw⟩
  case round=>
   obtain⟨k,l,ia,ic,G,rfl,rfl,HL,B8,eb⟩:=hrel;obtain⟨wo,rfl⟩:∃x,x=wr:=⟨_,rfl⟩
   have VG:Hid (w3.heap.size≤wo.heap.size):=le_of_lt (Nat.lt_of_le_of_lt jl.O (eI.1 eb.O.tr).1);obtain⟨bad,fb⟩:=ai ((fG k s3).2.bad);obtain⟨la,lc,hr,_⟩:=eb.O.cr.row;have c1:wo.cell? ⟨w.heap.size+1,1,none⟩=some (.bool bad):=by rw[←fb];exact D 1 hr
   have ly:=Z fb;clear hr fb;by_cases au:k<m;rotate_left
   ·have bo:¬(k:Int)<(m:Int):=by omega
    go_wp2_with fail;go_meet;exact⟨k,l,ia,ic,G,HL,B8,Z (.inl (by omega)),eb⟩
   have bo:(k:Int)<(m:Int):=by omega
   cases bad with
   |true=>
    go_wp2_with fail;go_meet;exact⟨k,l,ia,ic,G,HL,B8,Z (.inr ly.O),eb⟩
   |false=>
    obtain⟨x,s',pg⟩:∃x s',aN 4 (fG k s3).2=(x,s'):=⟨_,_,rfl⟩
    have nj:=Z pg;have qI:Hid (l++ [x]=(fG (k+1) s3).1):=by
     show _=_;rw[QK,pg,HL.O]
    have iH:Hid (s'=(fG (k+1) s3).2):=by
     show _=_;rw[QK,pg]
    have l8:Value.int .i64 (wrap64 ((k:Int)+1))= .int .i64 ((k+1:Nat):Int):=by
     have:wrap64 ((k:Int)+1)=(k:Int)+1:=by unfold wrap64;omega
     rw[this];simp
    have VH:=Z l8;clear pg l8;go_upto_block 1 with fail
    clear c1;have hd:=bq wo;have Wz:=eb.O.below hd;have k0:=oP wo.drew T 12 _ _ _ Wz.tr;have afH:=Z Wz;have atd:Hid (w3.heap.size≤wo.drew.heap.size):=aJ VG.O hd.size;clear hd Wz;go_cut [] from 47 to 53 (fun wx=>∃(Y:av)(c:Nat),Hid (wu w wx (w.heap.size+1) w.heap.size T w3.heap.size n ah aI da dc V X s' (l++ [x]) Y c))
    case first=>
     go_upto_region 10 with fail
     go_region_law
      (first
       |(go_simp;go_at_call 96;refine nY _ 4 _ x s' nj.O (by decide) w _ afH.O.cr _ ?_;intro df jk eU;have Gl:=afH.O.cur jk eU eW.O eM.O fA.O;have WA:df.cell? ⟨T,12,none⟩=some (.slice ia l.length ic):=D 12 Gl.tr;have dZ:=Z Gl;have Jg:=Z (Gl.below (aD df (.cells #[Value.int .i64 x] 3)));have awz:(df.alloc (.cells #[Value.int .i64 x] 3)).cell? ⟨T,12,none⟩=some (.slice ia l.length ic):=D 12 Jg.O.tr;have yO:Hid (w3.heap.size≤(df.alloc (.cells #[Value.int .i64 x] 3)).heap.size):=Z (aJ (aJ atd.O eU.size) (le_of_lt (eV (lt_succ_self _) (le_of_eq (AP df _)))));clear jk eU Gl)
       |(refine ig ?_ (.tmp 48) (.tmp 51) 25 ?_ w3 3 (E 0) 1 8 underlying25 sK rfl ?_ ia l.length ic (Go.Proofs.YtgimbocoamnkjaaGreatDoor.iv l) ?_ ?_ (some ⟨df,0,none⟩) 1 1 [Value.int .i64 x] ?_ ?_ ?_ ?_ ?_ ?_ ?_ ?_;rfl;rfl;decide;rfl;exact Jg.O.io;rfl;exact dO df #[Value.int .i64 x] 3 1 1 rfl;exact px _ _;exact(fun h=>by cases h);unfold maxLen;omega;omega;exact yO.O;intro IP iP du D3 fN _;have Mn:=Jg.O.app x fN D3 bB.O eM.O x9.O Fo.O;have tL:=Z Mn;have Gw:=hZ fN Jg.O.tr (i_ Jg.O.tr Jg.O.io (by decide));have arz:=D 12 Gw;have f12:=aC Gw 12;clear Gw D3 fN Mn))
     all_goals
      go_wp2_with fail;go_meet;exact⟨IP,iP,tL⟩
    obtain⟨Vj,iQ,iE⟩:=hcut;go_wp2_with fail;have l8:=VH.O;go_roundg (m - (k+1))
    case measure=>omega
    case rel=>exact⟨k+1,l++ [x],Vj,iQ,by omega,rfl,(by first|exact l8|go_num),qI,by rw[aK];simp;omega,by rw[←iH.O];exact iE⟩
 obtain⟨k,l,ia,ic,G,HL,B8,LP,eb⟩:=hcut;obtain⟨wo,rfl⟩:∃x,x=wc:=⟨_,rfl⟩
 obtain⟨s4,h4⟩:=ai ((fG k s3).2);obtain⟨share,s5,k5⟩:∃T s,hO s4=(T,s):=⟨_,_,rfl⟩
 have dm:share.length≤65535:=(uf k5).1;rw[h4] at eb LP;obtain⟨awX,hF⟩:∃z:Bool,z=true↔gh ⟨n,ah,aI,l,share⟩:=by
  by_cases h:gh ⟨n,ah,aI,l,share⟩
  ·exact⟨true,by simp[h]⟩
  exact⟨false,by simp[h]⟩
 obtain⟨aw0,hY⟩:=ai (db ⟨n,ah,aI,l,share⟩);have vX:=asl K1.O K6.O K2.O K3.O G h4 k5 LP.O HX.O ⟨n,ah,aI,l,share⟩ (by rw[HQ.O,HK.O,HL.O]) awX hF aw0 hY;have eR:=Z vX.1;have lC:=Z vX.2;have afI:Vr ⟨n,ah,aI,l,share⟩:=⟨uB.O,sI.O,Gg.O,A_.O,afG.O.1,afG.O.2,by show l.length<256;omega,by show∀i∈l,_;rw[HL.O];exact ash k s3,dm⟩
 obtain⟨ate,HF,HY,K5⟩:=cF afI hF hY k5;clear vX afI hF hY k5 h4 dm LP HL;go_upto_region 12 with(first
  |(go_at_call 95;go_must(refine ME _ _ share s5 K5.O w _ eb.O.cr _ ?_);intro df jk eU;have dZ:=Z (eb.O.cur jk eU eW.O eM.O fA.O);have jN:=D 13 dZ.O.tr;have f13:=aC dZ.O.tr 13;clear jk eU))
 have yw:(df.setCell ⟨T,13,none⟩ (.string (str share))).heap[T]? =some (.cells (qg n.aF da n.ay dc n.ah n.aL n.src n.aP V n.props X n.origin n.number n.aW ah aI ia l ic share) 36):=by
  rw[bm df T 13 _ _ _ dZ.O.tr]
  rfl
 have fN:=br df ⟨T,13,none⟩ (.string (str share));have yx:=dZ.O.cr.other fN eM.O.symm (dZ.O.cr.low.setCell Fo.O _);have Gx:=dI fN dZ.O.ar x9.O;have Gy:=iO dZ.O.po dZ.O.tr (by decide) fN;have Gz:=dZ.O.qo.typed dZ.O.tr (by decide) (by decide) fN;have GA:=iO dZ.O.io dZ.O.tr (by decide) fN;generalize df.setCell ⟨T,13,none⟩ (.string (str share))=du at yw yx Gx Gy Gz GA⊢;obtain⟨la,lc,D9,_⟩:=yx.row;have c1:du.cell? ⟨w.heap.size+1,1,none⟩=some (.bool s5.bad):=D 1 D9;have Mo:ft du w3.heap.size (.slice da n.ay.length dc) (.slice V n.props.length X) (.slice ia l.length ic) ⟨n,ah,aI,l,share⟩:=⟨Gy,Gz,GA⟩
 obtain⟨QJ,Bf,Be,IZ⟩:=cF Mo yw yx Gx;have rX:Hid (w.heap.size<w3.heap.size):=by have:=eW.O;show _<_;omega
 obtain⟨⟨i0,i1,i2,i3,i4,i5,i6⟩,i7,i8,i9,i10,i11,i12,i13⟩:=tg (w:=du) Bf.O;clear yw fN yx Gx Gy Gz GA Mo jN f13 D9 eb B8 hm;have zP:=Z (QJ.O.cG sI.O);go_upto_region 13 with(first
  |(refine kJ 58 36 7 T Bf.O underlying36 ?_)
  |(go_at_call 66;go_must(refine Vs ⟨n,ah,aI,l,share⟩ ate.O awX HF.O _ _ _ _ zP.O (HT.O.below Be.O.low) aw0 HY.O _ ?_);intro ya yc cY lR dC;have Mp:=Z (b_ lR);have yy:=Z (aA Bf.O dC);have CE:=Z (aA IZ.O dC);have MR:=Z (Be.O.below dC);have t_:=Z dC;clear lR dC i0 i1 i2 i3 i4 i5 i6 i7 i8 i9 i10 i11 i12 i13 c1))
 have mi:=Z MR.O.low;obtain⟨awA,awB,afJ,_⟩:=MR.O.row;have c1:cY.cell? ⟨w.heap.size+1,1,none⟩=some (.bool s5.bad):=D 1 afJ;have Jf:=lU (P:=prog) underlying22 underlying5 underlying9 Mp.O;have EO:=lU (P:=prog) underlying22 underlying5 underlying9 (HV.O.below mi.O);obtain⟨sh,lW⟩:=ai s5.bad;rw[lW] at c1 eR;clear lW afJ;by_cases he:e=0
 ·subst he;cases sh with
  |true=>
   obtain⟨rfl,rfl⟩:=eR.O (fun h=>by cases h.2.1);exact Rh
  |false=>
   cases awX with
   |false=>
    obtain⟨rfl,rfl⟩:=eR.O (fun h=>by cases h.2.2.1);exact Rh
   |true=>
    by_cases jS:aw0=b
    ·obtain⟨rfl,rfl⟩:=lC.O rfl jS;obtain⟨sY,Al⟩:=ai (str aw0);have x_:str b=sY:=by rw[←jS,Al]
     rw[Al] at Jf;rw[x_] at EO;clear jS Al x_;go_wp2_with (first
      |(refine kJ 82 36 7 T yy.O underlying36 ?_)
      |(refine gw 36 2 82 (w.heap.size) CE.O ?_))
     exact aef
    obtain⟨rfl,rfl⟩:=eR.O (fun h=>jS h.2.2.2);have iy:(aw0==b)=false:=by simpa using jS
    exact Rh
 have G9:(e==0)=false:=by simpa using he
 have Hu:(e != 0)=true:=by simpa using he
 obtain⟨rfl,rfl⟩:=eR.O (fun h=>he h.1);exact Rh
