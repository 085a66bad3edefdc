/- A part of the proof of SessionPlays, printed small; no conditions of its own. -/
import Derived.Test.YtgimbocoamnkjaaGreatDoorM21
set_option maxRecDepth 100000
set_option maxHeartbeats 16000000
namespace Go.Proofs.YtgimbocoamnkjaaGreatDoor
open _root_.Go.Proofs.Tryz
variable{d:Value}{w w':World}
open Go.RowKit
theorem Mw{P:Prop}(h:P:=by
 obtain rfl:r=false:=HR.o_.symm;clear HR;go_enter func178,ntmps178;go_wp2
 all_goals first|exact aL|exact hR _ aL):P:=h
theorem ak7(d e:Value)(p q:Pr)(r:Bool)(hr:AH p q=r)(w:World)(hp:PC w d p)(hq:PC w e q)(R:Ending→World→Prop)
 (hR:∀w',Below w w w'→R (.returned (.bool r)) w'):
 Calls prog 178 #[.agg (bz p d),.agg (bz q e)] w R:=by
 obtain ⟨i,n,t,u,x⟩:=p;obtain ⟨i',n',t',u',x'⟩:=q;have aL:=((Below.refl w w).alloc (Nat.le_refl _) (Obj.cells #[Value.int .i64 i,Value.int .i64 n,.string (str t),.string (str u),d] 147)).alloc (by simp) (Obj.cells #[Value.int .i64 i',Value.int .i64 n',.string (str t'),.string (str u'),e] 147);have k1:=ru (P:=prog) underlying22 underlying5 underlying9 (hp.hd.below aL);have k2:=ru (P:=prog) underlying22 underlying5 underlying9 (hq.hd.below aL);unfold AH at hr;simp only at*;obtain ⟨r1,h1⟩:∃x,(i==i')=x:=⟨_,rfl⟩
 obtain ⟨r2,h2⟩:∃x,(n==n')=x:=⟨_,rfl⟩
 obtain ⟨r3,h3⟩:∃x,(t==t')=x:=⟨_,rfl⟩
 obtain ⟨r4,h4⟩:∃x,(u==u')=x:=⟨_,rfl⟩
 obtain ⟨r5,h5⟩:∃y,(x==x')=y:=⟨_,rfl⟩
 rw [h1,h2,h3,h4,h5] at hr;have HR:=ab hr;clear hp hq hr;cases r1 with
 |false=>
  exact Mw
 |true=>
  cases r2 with
  |false=>
   exact Mw
  |true=>
   cases r3 with
   |false=>
    exact Mw
   |true=>
    cases r4 with
    |false=>
     exact Mw
    |true=>
     obtain rfl:r=r5:=by have:=HR.o_;simpa using this.symm
     clear HR;go_enter func178,ntmps178;go_wp2
     all_goals first|exact aL|exact hR _ aL
theorem ZK{b o:Nat}{y:Pr}(hb:Below w w w')(h:(w.cell? ⟨b,o,none⟩=some (Value.int .i64 y.id)∧w.cell? ⟨b,o+1,none⟩=some (Value.int .i64 y.num)∧w.cell? ⟨b,o+2,none⟩=some (Value.string (str y.text))∧w.cell? ⟨b,o+3,none⟩=some (Value.string (str y.pair))∧w.cell? ⟨b,o+4,none⟩=some d)):(w'.cell? ⟨b,o,none⟩=some (Value.int .i64 y.id)∧w'.cell? ⟨b,o+1,none⟩=some (Value.int .i64 y.num)∧w'.cell? ⟨b,o+2,none⟩=some (Value.string (str y.text))∧w'.cell? ⟨b,o+3,none⟩=some (Value.string (str y.pair))∧w'.cell? ⟨b,o+4,none⟩=some d):=⟨cell_later hb h.1,cell_later hb h.2.1,cell_later hb h.2.2.1,cell_later hb h.2.2.2.1,cell_later hb h.2.2.2.2⟩
theorem R6(v u:Value)(l m:List Pr)(r:Bool)(hr:B9 l m=r)(w:World)(hv:Ps w v l)(hu:Ps w u m)(R:Ending→World→Prop)
 (hR:∀w',Below w w w'→R (.returned (.bool r)) w'):
 Calls prog 161 #[v,u] w R:=by
 have HR:=ab hR;have HV:=ab hv;have HU:=ab hu;have fZ:=ab hr;clear hR hr;obtain ⟨va,vc,rfl,_⟩:=hv;obtain ⟨ua,uc,rfl,_⟩:=hu;by_cases aX:l.length=m.length
 ·have Gq:(l.length:Int)=(m.length:Int):=by omega
  have m8:=ab aX;have bh:((l.length:Int) != (m.length:Int))=false:=by simp [aX]
  clear aX Gq;go_enter func161,ntmps161;go_wp2;go_loopg [5] l.length (fun gn i wr=>∃k:Nat,k≤l.length∧gn=l.length - k∧i= .int .i64 k∧Below w w wr∧Hid (l.take k=m.take k))
  case atStart=>exact ⟨0,Nat.zero_le _,by omega,rfl,Below.refl _ _,ab rfl⟩
  case round=>
   obtain ⟨k,hk,rfl,rfl,hb,HS⟩:=hrel;obtain ⟨wo,rfl⟩:∃x,x=wr:=⟨_,rfl⟩
   by_cases ao:k<l.length
   ·have bd:(k:Int)<(l.length:Int):=by omega
    have ij:k<m.length:=by have:=m8.o_;omega
    have Gr:(k:Int)<(m.length:Int):=by omega
    obtain ⟨Cy,Cz,ee,_,_,_,v4⟩:=HV.o_.below hb;simp only [Value.slice.injEq] at ee;obtain ⟨rfl,-,rfl⟩:=ee;obtain ⟨vb,vo,rfl,v5⟩:=v4 (by omega);obtain ⟨d0,⟨p0,p1,p2,p3,p4⟩,gC⟩:=v5 k ao;obtain ⟨aeG,aeH,ee,_,_,_,u4⟩:=HU.o_.below hb;simp only [Value.slice.injEq] at ee;obtain ⟨rfl,-,rfl⟩:=ee;obtain ⟨ub,uo,rfl,u5⟩:=u4 (by omega);obtain ⟨e0,⟨q0,q1,q2,q3,q4⟩,uR⟩:=u5 k ij;have oh:Hid (l.take (k+1)=l.take k++ [l[k]]):=ab (List.take_succ_eq_append_getElem ao);have Gs:Hid (m.take (k+1)=m.take k++ [m[k]]):=ab (List.take_succ_eq_append_getElem ij);have El:Hid (l[k]? =some l[k]):=ab (List.getElem?_eq_getElem ao);have oL:Hid (m[k]? =some m[k]):=ab (List.getElem?_eq_getElem ij);obtain ⟨y,hy⟩:=ai (l[k]);obtain ⟨y',Gt⟩:=ai (m[k]);rw [hy] at p0 p1 p2 p3 gC oh El;rw [Gt] at q0 q1 q2 q3 uR Gs oL;obtain ⟨d1,d2,d3,rfl⟩:∃a n c,d0= .slice a n c:=by obtain ⟨a,c,h,_⟩:=gC.hd;exact ⟨_,_,_,h⟩
    obtain ⟨e1,e2,e3,rfl⟩:∃a n c,e0= .slice a n c:=by obtain ⟨a,c,h,_⟩:=uR.hd;exact ⟨_,_,_,h⟩
    obtain ⟨g,hg⟩:=ai (AH y y');have A':=ab hg;clear v4 v5 u4 u5 hy Gt hg;go_wp2;have zk:Below w w wo.drew:=hb.drew;have tH:Hid (PC wo.drew (.slice d1 d2 d3) y):=ab (gC.below (Below.refl _ _).drew);have Kg:Hid (PC wo.drew (.slice e1 e2 e3) y'):=ab (uR.below (Below.refl _ _).drew);have c0:(wo.drew.cell? ⟨vb,vo+k*5,none⟩=some (Value.int .i64 y.id)∧wo.drew.cell? ⟨vb,vo+k*5+1,none⟩=some (Value.int .i64 y.num)∧wo.drew.cell? ⟨vb,vo+k*5+2,none⟩=some (Value.string (str y.text))∧wo.drew.cell? ⟨vb,vo+k*5+3,none⟩=some (Value.string (str y.pair))∧wo.drew.cell? ⟨vb,vo+k*5+4,none⟩=some (Value.slice d1 d2 d3)):=⟨p0,p1,p2,p3,p4⟩
    have c1:(wo.drew.cell? ⟨ub,uo+k*5,none⟩=some (Value.int .i64 y'.id)∧wo.drew.cell? ⟨ub,uo+k*5+1,none⟩=some (Value.int .i64 y'.num)∧wo.drew.cell? ⟨ub,uo+k*5+2,none⟩=some (Value.string (str y'.text))∧wo.drew.cell? ⟨ub,uo+k*5+3,none⟩=some (Value.string (str y'.pair))∧wo.drew.cell? ⟨ub,uo+k*5+4,none⟩=some (Value.slice e1 e2 e3)):=⟨q0,q1,q2,q3,q4⟩
    clear p0 p1 p2 p3 p4 q0 q1 q2 q3 q4 gC uR;go_region_held (fun w'=>(w'.cell? ⟨vb,vo+k*5,none⟩=some (Value.int .i64 y.id)∧w'.cell? ⟨vb,vo+k*5+1,none⟩=some (Value.int .i64 y.num)∧w'.cell? ⟨vb,vo+k*5+2,none⟩=some (Value.string (str y.text))∧w'.cell? ⟨vb,vo+k*5+3,none⟩=some (Value.string (str y.pair))∧w'.cell? ⟨vb,vo+k*5+4,none⟩=some (Value.slice d1 d2 d3))∧(w'.cell? ⟨ub,uo+k*5,none⟩=some (Value.int .i64 y'.id)∧w'.cell? ⟨ub,uo+k*5+1,none⟩=some (Value.int .i64 y'.num)∧w'.cell? ⟨ub,uo+k*5+2,none⟩=some (Value.string (str y'.text))∧w'.cell? ⟨ub,uo+k*5+3,none⟩=some (Value.string (str y'.pair))∧w'.cell? ⟨ub,uo+k*5+4,none⟩=some (Value.slice e1 e2 e3)))
     (first|exact ⟨c0,c1⟩|exact ⟨f0,f1⟩|go_keep)
     (first|(go_at_call 178;refine ak7 _ _ y y' g A'.o_ _ tH.o_ Kg.o_ _ ?_;intro w5 aC;have f0:=ZK aC c0;have f1:=ZK aC c1;have bp:=aD zk aC zk.size;clear c0 c1))
    cases g with
    |true=>
     have Gu:y=y':=(JG y y').1 A'.o_;have HN:Hid (l.take (k+1)=m.take (k+1)):=by
      refine ab ?_;rw [oh.o_,Gs.o_,HS.o_,Gu]
     clear Gu;go_wp2;exact TS
    |false=>
     have JH:y≠y':=fun h=>by have:=(JG y y').2 h;rw [A'.o_] at this;cases this
     obtain rfl:r=false:=by
      exact TU
     clear JH;go_wp2;exact HR.o_ _ bp
   ·have bd:¬(k:Int)<(l.length:Int):=by omega
    exact TV
 ·have bh:((l.length:Int) != (m.length:Int))=true:=by simp;omega
  obtain rfl:r=false:=by
   rw [←fZ.o_];exact decide_eq_false fun h=>aX (by rw [h])
  have Gq:¬(l.length:Int)=(m.length:Int):=by omega
  clear aX;go_enter func161,ntmps161;go_wp2;exact HR.o_ _ (Below.refl _ _)
theorem ak8(x:Nt)(pv qv pu qu:Value)(w:World)(hp:Bs w pv x.az)(hq:Ps w qv x.props)(yw:Bs w pu x.az)(qZ:Ps w qu x.props)(R:Ending→World→Prop)
 (hR:∀w',Below w w w'→R (.returned (.bool true)) w'):
 Calls prog 126 #[.agg (xT x pv qv),.agg (xT x pu qu)] w R:=by
 obtain ⟨aJ,az,al,aE,src,aN,props,origin,number,aQ⟩:=x;simp only at*;obtain ⟨O0,m9⟩:=ai ((Obj.cells #[.string (str aJ),pv,.int .i64 al,.bool aE,.string (str src),.int .i64 aN,qv,.int .i64 origin,.int .i64 number,.int .i64 aQ] 34));obtain ⟨O1,fh⟩:=ai ((Obj.cells #[.string (str aJ),pu,.int .i64 al,.bool aE,.string (str src),.int .i64 aN,qu,.int .i64 origin,.int .i64 number,.int .i64 aQ] 34));have aL:Below w w ((w.alloc O0).alloc O1):=((Below.refl _ _).alloc (Nat.le_refl _) _).alloc (by simp) _;have n0:=gq (o':=O1) (heap_alloc_new w O0);have n1:=heap_alloc_new (w.alloc O0) O1;rw [show (w.alloc O0).heap.size=w.heap.size+1 by simp] at n1;have bu:=ab aL;have N0:=ab n0;have N1:=ab n1;rw [←m9,←fh] at bu N0 N1;clear aL n0 n1 m9 fh;have k1:=ru (P:=prog) underlying22 underlying5 underlying9 (hp.below bu.o_);have k2:=ru (P:=prog) underlying22 underlying5 underlying9 (yw.below bu.o_);have HR:=ab hR;have HQ:=ab (hq.below bu.o_);have nL:=ab (qZ.below bu.o_);have mB:Hid (B9 props props=true):=decide_eq_true rfl;clear hp hq yw qZ hR;go_enter func126,ntmps126;go_wp2_with (first
  |(go_at_call 161;go_must (refine R6 _ _ props props true mB.o_ _ HQ.o_ nL.o_ _ ?_);intro w3 an;have r0:=aA N0.o_ an;have r1:=aA N1.o_ an;have c7:=af w3 _ 7 _ _ _ r0;have c8:=af w3 _ 8 _ _ _ r0;have c9:=af w3 _ 9 _ _ _ r0;have d7:=af w3 _ 7 _ _ _ r1;have d8:=af w3 _ 8 _ _ _ r1;have d9:=af w3 _ 9 _ _ _ r1))
 all_goals exact HR.o_ _ (aD bu.o_ an bu.o_.size)
theorem R7(x:Im)(pv qv ev pu qu eu:Value)(w:World)(h:gH w pv qv ev x)(h2:gH w pu qu eu x)(R:Ending→World→Prop)
 (hR:∀w',Below w w w'→R (.returned (.bool true)) w'):
 Calls prog 70 #[(Value.agg (pS x pv qv ev)),(Value.agg (pS x pu qu eu))] w R:=by
 have HR:=ab hR;have HC:=ab h;have ek:=ab h2;obtain ⟨⟨pa,pc,rfl⟩,⟨qa,qc,rfl⟩,ea,ec,rfl⟩:=h.shape;obtain ⟨⟨BS,BT,rfl⟩,⟨oE,oF,rfl⟩,OK,OM,rfl⟩:=h2.shape;obtain ⟨⟨aJ,az,c_,aE,src,aN,props,origin,number,aQ⟩,al,aM,ids,share⟩:=x;simp only at*;clear hR h h2;obtain ⟨O0,m9⟩:=ai ((Obj.cells (qJ aJ pa az pc c_ aE src aN qa props qc origin number aQ al aM ea ids ec share) 36));obtain ⟨O1,fh⟩:=ai ((Obj.cells (qJ aJ BS az BT c_ aE src aN oE props oF origin number aQ al aM OK ids OM share) 36));have aw:Below w w ((w.alloc O0).alloc O1):=((Below.refl _ _).alloc (Nat.le_refl _) _).alloc (by simp) _;have n0:=gq (o':=O1) (heap_alloc_new w O0);have n1:=heap_alloc_new (w.alloc O0) O1;rw [show (w.alloc O0).heap.size=w.heap.size+1 by simp] at n1;have bP:=ab aw;have N0:=ab n0;have N1:=ab n1;rw [←m9,←fh] at bP N0 N1;clear aw n0 n1 m9 fh;have HA:=ab (HC.o_.below bP.o_);have pB:=ab (ek.o_.below bP.o_);go_enter func70,ntmps70;go_wp2_with (first
  |(go_at_call 126;go_must (refine ak8 ⟨aJ,az,c_,aE,src,aN,props,origin,number,aQ⟩ _ _ _ _ _ HA.o_.p HA.o_.q pB.o_.p pB.o_.q _ ?_);intro w3 an;have r0:=aA N0.o_ an;have r1:=aA N1.o_ an;have gw:=af w3 _ 10 _ _ _ r0;have kq:=af w3 _ 11 _ _ _ r0;have jm:=af w3 _ 12 _ _ _ r0;have jP:=af w3 _ 13 _ _ _ r0;have d10:=af w3 _ 10 _ _ _ r1;have d11:=af w3 _ 11 _ _ _ r1;have d12:=af w3 _ 12 _ _ _ r1;have d13:=af w3 _ 13 _ _ _ r1;have bU:=ab an;have Cb:=ab r0;have mo:=ab r1;clear an r0 r1))
 go_loopg [5] ids.length (fun gn i wr=>∃k:Nat,k≤ids.length∧gn=ids.length - k∧i= .int .i64 k∧Hid (Below w3 w3 wr))
 case atStart=>exact ⟨0,Nat.zero_le _,by omega,rfl,ab (Below.refl _ _)⟩
 case round=>
  obtain ⟨k,hk,rfl,rfl,HB⟩:=hrel;obtain ⟨wo,rfl⟩:∃x,x=wr:=⟨_,rfl⟩
  clear gw kq jm jP d10 d11 d12 d13;have l_:Hid (Below w w wo):=aD (aD bP.o_ bU.o_ bP.o_.size) HB.o_ (aD bP.o_ bU.o_ bP.o_.size).size;have jm:=af wo _ 12 _ _ _ (aA Cb.o_ HB.o_);have d12:=af wo _ 12 _ _ _ (aA mo.o_ HB.o_);have lB:=HC.o_.i.len;by_cases ao:k<ids.length
  ·have bd:(k:Int)<(ids.length:Int):=by omega
   obtain ⟨g,o,Da,qT⟩:=(HC.o_.i.below l_.o_).at k ao;obtain ⟨g2,o2,ak9,ZL⟩:=(ek.o_.i.below l_.o_).at k ao;subst Da;subst ak9;obtain ⟨x,hx⟩:=ai (ids[k]);rw [hx] at qT ZL;have bh:(x != x)=false:=by simp
   have ara:wo.drew.cell? ⟨w,12,none⟩=_:=jm;have arb:wo.drew.cell? ⟨w.heap.size+1,12,none⟩=_:=d12;have arc:wo.drew.cell? ⟨g,o+k,none⟩=_:=qT;have ard:wo.drew.cell? ⟨g2,o2+k,none⟩=_:=ZL;clear hx;go_wp2_with fail;go_region
   all_goals go_wp2_with fail
   go_roundg (ids.length - (k+1))
   case measure=>omega
   case rel=>exact ⟨k+1,by omega,rfl,by go_num,ab HB.o_.drew⟩
  ·have bd:¬(k:Int)<(ids.length:Int):=by omega
   go_wp2;exact HR.o_ _ l_.o_
theorem Mx{P:Prop}(h:P:=by
 go_roundg (n - (k+1))
 case measure=>omega
 case rel=>exact ⟨k+1,by omega,rfl,by go_num,b6⟩):P:=h
theorem ZM(l:List Int)(n:Nat)(hn:n≤100000)(a1 a2:Option Addr)(c1 c2:Nat)(w:World)(h1:Rd w 1 a1 n (iv l))(h2:Rd w 1 a2 n (iv l))(R:Ending→World→Prop)
 (hR:∀w',Below w w w'→R (.returned (.bool true)) w'):
 Calls prog 90 #[.slice a1 n c1,.slice a2 n c2] w R:=by
 have HR:=ab hR;have H1:=ab h1;have H2:=ab h2;have lg:n=l.length:=by have:=h1.1;unfold iv at this;rw [List.length_map] at this;omega
 have HN:=ab lg;clear hR h1 h2 lg;go_enter func90,ntmps90;go_wp2;go_loopg [5] n (fun gn i wr=>∃k:Nat,k≤n∧gn=n - k∧i= .int .i64 k∧Hid (Below w w wr))
 case atStart=>exact ⟨0,Nat.zero_le _,by omega,rfl,ab (Below.refl _ _)⟩
 case round=>
  obtain ⟨k,hk,rfl,rfl,HB⟩:=hrel;obtain ⟨wo,rfl⟩:∃x,x=wr:=⟨_,rfl⟩
  by_cases ao:k<n
  ·have bd:(k:Int)<(n:Int):=by omega
   have f_:k<l.length:=by have:=HN.o_;omega
   obtain ⟨g1,o1,e1,dF⟩:=(H1.o_.below HB.o_).2 (by omega);obtain ⟨g2,o2,e2,b_⟩:=(H2.o_.below HB.o_).2 (by omega);obtain ⟨x,hx⟩:=ai (l[k]);have hv:(iv l)[k]? =some (.int .i64 x):=by unfold iv;rw [List.getElem?_map,List.getElem?_eq_getElem f_,hx];rfl
   subst e1 e2;have d1:wo.cell? ⟨g1,o1+k,none⟩=some (.int .i64 x):=(dF k (by omega)).trans hv;have d2:wo.cell? ⟨g2,o2+k,none⟩=some (.int .i64 x):=(b_ k (by omega)).trans hv;have b6:=ab (HB.o_.drew);clear dF b_ hv hx;go_wp2;go_region
   all_goals go_wp2_with fail
   exact Mx
  ·have bd:¬(k:Int)<(n:Int):=by omega
   go_wp2;exact HR.o_ _ HB.o_
open List (getElem_map)
variable{x:Im}{ec g k n qc:Nat}{ad pa qa:Option Addr}
structure xH(w:World)(ad:Option Addr)(n:Nat)(l:List Im):Prop where
 ex:∃qs:List (V3×Im),qs.map (·.2)=l∧Rd w 14 ad n (qs.flatMap cL)∧∀p∈qs,gH w p.1.1 p.1.2.1 p.1.2.2 p.2
 len:n=l.length
structure Al(w:World)(ad:Option Addr)(n:Nat)(l:List Fl):Prop where
 ex:∃qs:List (V3×Fl),qs.map (·.2)=l∧Rd w 16 ad n (qs.flatMap bH)∧∀p∈qs,gH w p.1.1 p.1.2.1 p.1.2.2 p.2.item
 len:n=l.length
theorem xH.below{l:List Im}(h:xH w ad n l)(hb:Below w w w'):xH w' ad n l:=by
 obtain ⟨qs,h1,h2,h3⟩:=h.ex;exact ⟨⟨qs,h1,h2.below hb,fun p hp=>(h3 p hp).below hb⟩,h.len⟩
theorem Al.below{l:List Fl}(h:Al w ad n l)(hb:Below w w w'):Al w' ad n l:=by
 obtain ⟨qs,h1,h2,h3⟩:=h.ex;exact ⟨⟨qs,h1,h2.below hb,fun p hp=>(h3 p hp).below hb⟩,h.len⟩
theorem xH.at{l:List Im}(h:xH w ad n l)(hk:k<n)(hl:k<l.length):∃g o pa pc qa qc ea ec,ad=some ⟨g,o,none⟩∧(∀j,j<14→w.cell? ⟨g,o+k*14+j,none⟩= [.string (str l[k].note.aJ),(.slice pa l[k].note.az.length pc),.int .i64 l[k].note.al,.bool l[k].note.aE,.string (str l[k].note.src),.int .i64 l[k].note.aN,(.slice qa l[k].note.props.length qc),.int .i64 l[k].note.origin,.int .i64 l[k].note.number,.int .i64 l[k].note.aQ,.int .i64 l[k].al,.bool l[k].aM,(.slice ea l[k].ids.length ec),.string (str l[k].share)][j]?)∧gH w (.slice pa l[k].note.az.length pc) (.slice qa l[k].note.props.length qc) (.slice ea l[k].ids.length ec) l[k]:=by
 obtain ⟨qs,h1,h2,h3⟩:=h.ex;subst h1;have mF:k<qs.length:=by simpa using hl
 obtain ⟨g,o,rfl,hc⟩:=h2.2 (by omega);obtain ⟨⟨⟨v1,v2,v3⟩,x⟩,iM⟩:∃p,qs[k]=p:=⟨_,rfl⟩
 have hm:(((v1,v2,v3),x):V3×Im)∈qs:=by rw [←iM];exact List.getElem_mem mF
 have hC:=h3 _ hm;simp only at hC;obtain ⟨⟨pa,pc,e1⟩,⟨qa,qc,e2⟩,ea,ec,e3⟩:=hC.shape;subst e1 e2 e3;have hx:(qs.map (·.2))[k]=x:=by rw [getElem_map,iM]
 rw [hx];refine ⟨g,o,pa,pc,qa,qc,ea,ec,rfl,fun j hj=> ?_,hC⟩;rw [Nat.add_assoc,hc (k*14+j) (by omega),jQ 14 cL my qs k j mF hj,iM]
 rfl
theorem Al.at{l:List Fl}(h:Al w ad n l)(hk:k<n)(hl:k<l.length):∃g o pa pc qa qc ea ec,ad=some ⟨g,o,none⟩∧(∀j,j<16→w.cell? ⟨g,o+k*16+j,none⟩= [.int .i64 l[k].id,.int .i64 l[k].state,.string (str l[k].item.note.aJ),(.slice pa l[k].item.note.az.length pc),.int .i64 l[k].item.note.al,.bool l[k].item.note.aE,.string (str l[k].item.note.src),.int .i64 l[k].item.note.aN,(.slice qa l[k].item.note.props.length qc),.int .i64 l[k].item.note.origin,.int .i64 l[k].item.note.number,.int .i64 l[k].item.note.aQ,.int .i64 l[k].item.al,.bool l[k].item.aM,(.slice ea l[k].item.ids.length ec),.string (str l[k].item.share)][j]?)∧gH w (.slice pa l[k].item.note.az.length pc) (.slice qa l[k].item.note.props.length qc) (.slice ea l[k].item.ids.length ec) l[k].item:=by
 obtain ⟨qs,h1,h2,h3⟩:=h.ex;subst h1;have mF:k<qs.length:=by simpa using hl
 obtain ⟨g,o,rfl,hc⟩:=h2.2 (by omega);obtain ⟨⟨⟨v1,v2,v3⟩,x⟩,iM⟩:∃p,qs[k]=p:=⟨_,rfl⟩
 have hm:(((v1,v2,v3),x):V3×Fl)∈qs:=by rw [←iM];exact List.getElem_mem mF
 have hC:=h3 _ hm;simp only at hC;obtain ⟨⟨pa,pc,e1⟩,⟨qa,qc,e2⟩,ea,ec,e3⟩:=hC.shape;subst e1 e2 e3;have hx:(qs.map (·.2))[k]=x:=by rw [getElem_map,iM]
 rw [hx];refine ⟨g,o,pa,pc,qa,qc,ea,ec,rfl,fun j hj=> ?_,hC⟩;rw [Nat.add_assoc,hc (k*16+j) (by omega),jQ 16 bH iY qs k j mF hj,iM]
 rfl
theorem ZN{P:Prop}(h:P:=by
 obtain ⟨h0,h1,h2,h3,h4,h5,h6,h7,h8,h9,h10,h11,h12,h13⟩:=h;exact ⟨cell_later hb h0,cell_later hb h1,cell_later hb h2,cell_later hb h3,cell_later hb h4,cell_later hb h5,cell_later hb h6,cell_later hb h7,cell_later hb h8,cell_later hb h9,cell_later hb h10,cell_later hb h11,cell_later hb h12,cell_later hb h13⟩):P:=h
theorem ZO{b:Nat}{ea:Option Addr}{pc:Nat}(hb:Below w w w')(h:w.cell? ⟨g,b,none⟩=some (.string (str x.note.aJ))∧w.cell? ⟨g,b+1,none⟩=some (.slice pa x.note.az.length pc)∧w.cell? ⟨g,b+2,none⟩=some (.int .i64 x.note.al)∧w.cell? ⟨g,b+3,none⟩=some (.bool x.note.aE)∧w.cell? ⟨g,b+4,none⟩=some (.string (str x.note.src))∧w.cell? ⟨g,b+5,none⟩=some (.int .i64 x.note.aN)∧w.cell? ⟨g,b+6,none⟩=some (.slice qa x.note.props.length qc)∧w.cell? ⟨g,b+7,none⟩=some (.int .i64 x.note.origin)∧w.cell? ⟨g,b+8,none⟩=some (.int .i64 x.note.number)∧w.cell? ⟨g,b+9,none⟩=some (.int .i64 x.note.aQ)∧w.cell? ⟨g,b+10,none⟩=some (.int .i64 x.al)∧w.cell? ⟨g,b+11,none⟩=some (.bool x.aM)∧w.cell? ⟨g,b+12,none⟩=some (.slice ea x.ids.length ec)∧w.cell? ⟨g,b+13,none⟩=some (.string (str x.share))):w'.cell? ⟨g,b,none⟩=some (.string (str x.note.aJ))∧w'.cell? ⟨g,b+1,none⟩=some (.slice pa x.note.az.length pc)∧w'.cell? ⟨g,b+2,none⟩=some (.int .i64 x.note.al)∧w'.cell? ⟨g,b+3,none⟩=some (.bool x.note.aE)∧w'.cell? ⟨g,b+4,none⟩=some (.string (str x.note.src))∧w'.cell? ⟨g,b+5,none⟩=some (.int .i64 x.note.aN)∧w'.cell? ⟨g,b+6,none⟩=some (.slice qa x.note.props.length qc)∧w'.cell? ⟨g,b+7,none⟩=some (.int .i64 x.note.origin)∧w'.cell? ⟨g,b+8,none⟩=some (.int .i64 x.note.number)∧w'.cell? ⟨g,b+9,none⟩=some (.int .i64 x.note.aQ)∧w'.cell? ⟨g,b+10,none⟩=some (.int .i64 x.al)∧w'.cell? ⟨g,b+11,none⟩=some (.bool x.aM)∧w'.cell? ⟨g,b+12,none⟩=some (.slice ea x.ids.length ec)∧w'.cell? ⟨g,b+13,none⟩=some (.string (str x.share)):=by
 exact ZN
theorem ZP{b:Nat}{ea:Option Addr}{pc:Nat}(hb:Below w w w')(h:w.cell? ⟨g,b+2,none⟩=some (.string (str x.note.aJ))∧w.cell? ⟨g,b+3,none⟩=some (.slice pa x.note.az.length pc)∧w.cell? ⟨g,b+4,none⟩=some (.int .i64 x.note.al)∧w.cell? ⟨g,b+5,none⟩=some (.bool x.note.aE)∧w.cell? ⟨g,b+6,none⟩=some (.string (str x.note.src))∧w.cell? ⟨g,b+7,none⟩=some (.int .i64 x.note.aN)∧w.cell? ⟨g,b+8,none⟩=some (.slice qa x.note.props.length qc)∧w.cell? ⟨g,b+9,none⟩=some (.int .i64 x.note.origin)∧w.cell? ⟨g,b+10,none⟩=some (.int .i64 x.note.number)∧w.cell? ⟨g,b+11,none⟩=some (.int .i64 x.note.aQ)∧w.cell? ⟨g,b+12,none⟩=some (.int .i64 x.al)∧w.cell? ⟨g,b+13,none⟩=some (.bool x.aM)∧w.cell? ⟨g,b+14,none⟩=some (.slice ea x.ids.length ec)∧w.cell? ⟨g,b+15,none⟩=some (.string (str x.share))):w'.cell? ⟨g,b+2,none⟩=some (.string (str x.note.aJ))∧w'.cell? ⟨g,b+3,none⟩=some (.slice pa x.note.az.length pc)∧w'.cell? ⟨g,b+4,none⟩=some (.int .i64 x.note.al)∧w'.cell? ⟨g,b+5,none⟩=some (.bool x.note.aE)∧w'.cell? ⟨g,b+6,none⟩=some (.string (str x.note.src))∧w'.cell? ⟨g,b+7,none⟩=some (.int .i64 x.note.aN)∧w'.cell? ⟨g,b+8,none⟩=some (.slice qa x.note.props.length qc)∧w'.cell? ⟨g,b+9,none⟩=some (.int .i64 x.note.origin)∧w'.cell? ⟨g,b+10,none⟩=some (.int .i64 x.note.number)∧w'.cell? ⟨g,b+11,none⟩=some (.int .i64 x.note.aQ)∧w'.cell? ⟨g,b+12,none⟩=some (.int .i64 x.al)∧w'.cell? ⟨g,b+13,none⟩=some (.bool x.aM)∧w'.cell? ⟨g,b+14,none⟩=some (.slice ea x.ids.length ec)∧w'.cell? ⟨g,b+15,none⟩=some (.string (str x.share)):=by
 exact ZN
theorem ZQ(l:List Im)(n:Nat)(hn:n≤100000)(a1 a2:Option Addr)(c1 c2:Nat)(w:World)(h1:xH w a1 n l)(h2:xH w a2 n l)(R:Ending→World→Prop)
 (hR:∀w',Below w w w'→R (.returned (.bool true)) w'):
 Calls prog 84 #[.slice a1 n c1,.slice a2 n c2] w R:=by
 have HR:=ab hR;have H1:=ab h1;have H2:=ab h2;have HN:=ab h1.len;clear hR h1 h2;go_enter func84,ntmps84;go_wp2;go_loopg [5] n (fun gn i wr=>∃k:Nat,k≤n∧gn=n - k∧i= .int .i64 k∧Hid (Below w w wr))
 case atStart=>exact ⟨0,Nat.zero_le _,by omega,rfl,ab (Below.refl _ _)⟩
 case round=>
  obtain ⟨k,hk,rfl,rfl,HB⟩:=hrel;obtain ⟨wo,rfl⟩:∃x,x=wr:=⟨_,rfl⟩
  by_cases ao:k<n
  ·have bd:(k:Int)<(n:Int):=by omega
   have f_:k<l.length:=by have:=HN.o_;omega
   have hd:Below wo wo wo.drew:=(Below.refl _ _).drew;obtain ⟨g1,o1,pa,pc,qa,qc,ea,ec,e1,dF,cQ⟩:=(H1.o_.below HB.o_).at ao f_;obtain ⟨g2,o2,ra,rc,sa,sc,ta,tc,e2,b_,gU⟩:=(H2.o_.below HB.o_).at ao f_;obtain ⟨x,hx⟩:=ai (l[k]);rw [hx] at dF cQ b_ gU;subst e1 e2;have Fz:=ab cQ;have DW:=ab gU;have k0:(wo.cell? ⟨g1,o1+k*14,none⟩=some (.string (str x.note.aJ))∧wo.cell? ⟨g1,o1+k*14+1,none⟩=some (.slice pa x.note.az.length pc)∧wo.cell? ⟨g1,o1+k*14+2,none⟩=some (.int .i64 x.note.al)∧wo.cell? ⟨g1,o1+k*14+3,none⟩=some (.bool x.note.aE)∧wo.cell? ⟨g1,o1+k*14+4,none⟩=some (.string (str x.note.src))∧wo.cell? ⟨g1,o1+k*14+5,none⟩=some (.int .i64 x.note.aN)∧wo.cell? ⟨g1,o1+k*14+6,none⟩=some (.slice qa x.note.props.length qc)∧wo.cell? ⟨g1,o1+k*14+7,none⟩=some (.int .i64 x.note.origin)∧wo.cell? ⟨g1,o1+k*14+8,none⟩=some (.int .i64 x.note.number)∧wo.cell? ⟨g1,o1+k*14+9,none⟩=some (.int .i64 x.note.aQ)∧wo.cell? ⟨g1,o1+k*14+10,none⟩=some (.int .i64 x.al)∧wo.cell? ⟨g1,o1+k*14+11,none⟩=some (.bool x.aM)∧wo.cell? ⟨g1,o1+k*14+12,none⟩=some (.slice ea x.ids.length ec)∧wo.cell? ⟨g1,o1+k*14+13,none⟩=some (.string (str x.share)))∧(wo.cell? ⟨g2,o2+k*14,none⟩=some (.string (str x.note.aJ))∧wo.cell? ⟨g2,o2+k*14+1,none⟩=some (.slice ra x.note.az.length rc)∧wo.cell? ⟨g2,o2+k*14+2,none⟩=some (.int .i64 x.note.al)∧wo.cell? ⟨g2,o2+k*14+3,none⟩=some (.bool x.note.aE)∧wo.cell? ⟨g2,o2+k*14+4,none⟩=some (.string (str x.note.src))∧wo.cell? ⟨g2,o2+k*14+5,none⟩=some (.int .i64 x.note.aN)∧wo.cell? ⟨g2,o2+k*14+6,none⟩=some (.slice sa x.note.props.length sc)∧wo.cell? ⟨g2,o2+k*14+7,none⟩=some (.int .i64 x.note.origin)∧wo.cell? ⟨g2,o2+k*14+8,none⟩=some (.int .i64 x.note.number)∧wo.cell? ⟨g2,o2+k*14+9,none⟩=some (.int .i64 x.note.aQ)∧wo.cell? ⟨g2,o2+k*14+10,none⟩=some (.int .i64 x.al)∧wo.cell? ⟨g2,o2+k*14+11,none⟩=some (.bool x.aM)∧wo.cell? ⟨g2,o2+k*14+12,none⟩=some (.slice ta x.ids.length tc)∧wo.cell? ⟨g2,o2+k*14+13,none⟩=some (.string (str x.share))):=⟨⟨dF 0 (by decide),dF 1 (by decide),dF 2 (by decide),dF 3 (by decide),dF 4 (by decide),dF 5 (by decide),dF 6 (by decide),dF 7 (by decide),dF 8 (by decide),dF 9 (by decide),dF 10 (by decide),dF 11 (by decide),dF 12 (by decide),dF 13 (by decide)⟩,b_ 0 (by decide),b_ 1 (by decide),b_ 2 (by decide),b_ 3 (by decide),b_ 4 (by decide),b_ 5 (by decide),b_ 6 (by decide),b_ 7 (by decide),b_ 8 (by decide),b_ 9 (by decide),b_ 10 (by decide),b_ 11 (by decide),b_ 12 (by decide),b_ 13 (by decide)⟩
   clear dF b_ cQ gU hx hd;go_upto_region 6 with fail
   go_region_held3 (fun y=>(y.cell? ⟨g1,o1+k*14,none⟩=some (.string (str x.note.aJ))∧y.cell? ⟨g1,o1+k*14+1,none⟩=some (.slice pa x.note.az.length pc)∧y.cell? ⟨g1,o1+k*14+2,none⟩=some (.int .i64 x.note.al)∧y.cell? ⟨g1,o1+k*14+3,none⟩=some (.bool x.note.aE)∧y.cell? ⟨g1,o1+k*14+4,none⟩=some (.string (str x.note.src))∧y.cell? ⟨g1,o1+k*14+5,none⟩=some (.int .i64 x.note.aN)∧y.cell? ⟨g1,o1+k*14+6,none⟩=some (.slice qa x.note.props.length qc)∧y.cell? ⟨g1,o1+k*14+7,none⟩=some (.int .i64 x.note.origin)∧y.cell? ⟨g1,o1+k*14+8,none⟩=some (.int .i64 x.note.number)∧y.cell? ⟨g1,o1+k*14+9,none⟩=some (.int .i64 x.note.aQ)∧y.cell? ⟨g1,o1+k*14+10,none⟩=some (.int .i64 x.al)∧y.cell? ⟨g1,o1+k*14+11,none⟩=some (.bool x.aM)∧y.cell? ⟨g1,o1+k*14+12,none⟩=some (.slice ea x.ids.length ec)∧y.cell? ⟨g1,o1+k*14+13,none⟩=some (.string (str x.share)))∧(y.cell? ⟨g2,o2+k*14,none⟩=some (.string (str x.note.aJ))∧y.cell? ⟨g2,o2+k*14+1,none⟩=some (.slice ra x.note.az.length rc)∧y.cell? ⟨g2,o2+k*14+2,none⟩=some (.int .i64 x.note.al)∧y.cell? ⟨g2,o2+k*14+3,none⟩=some (.bool x.note.aE)∧y.cell? ⟨g2,o2+k*14+4,none⟩=some (.string (str x.note.src))∧y.cell? ⟨g2,o2+k*14+5,none⟩=some (.int .i64 x.note.aN)∧y.cell? ⟨g2,o2+k*14+6,none⟩=some (.slice sa x.note.props.length sc)∧y.cell? ⟨g2,o2+k*14+7,none⟩=some (.int .i64 x.note.origin)∧y.cell? ⟨g2,o2+k*14+8,none⟩=some (.int .i64 x.note.number)∧y.cell? ⟨g2,o2+k*14+9,none⟩=some (.int .i64 x.note.aQ)∧y.cell? ⟨g2,o2+k*14+10,none⟩=some (.int .i64 x.al)∧y.cell? ⟨g2,o2+k*14+11,none⟩=some (.bool x.aM)∧y.cell? ⟨g2,o2+k*14+12,none⟩=some (.slice ta x.ids.length tc)∧y.cell? ⟨g2,o2+k*14+13,none⟩=some (.string (str x.share))))
    (first|with_reducible exact k0|with_reducible exact k1|go_keep)
    (first
     |(go_at_call 70;refine R7 x _ _ _ _ _ _ _ (Fz.o_.below (Below.refl _ _).drew) (DW.o_.below (Below.refl _ _).drew) _ ?_;intro w4 ak;have b6:=ab (HB.o_.trans (((Below.refl wo wo).drew.trans ak).mono HB.o_.size));have aC:=(Below.refl wo wo).drew.trans ak;have k1:=And.intro (ZO aC k0.1) (ZO aC k0.2);clear ak aC))
   all_goals
    clear k0 k1;go_wp2;exact Mx
  ·have bd:¬(k:Int)<(n:Int):=by omega
   go_wp2;exact HR.o_ _ HB.o_
theorem ala(l:List Fl)(n:Nat)(hn:n≤100000)(a1 a2:Option Addr)(c1 c2:Nat)(w:World)(h1:Al w a1 n l)(h2:Al w a2 n l)(R:Ending→World→Prop)
 (hR:∀w',Below w w w'→R (.returned (.bool true)) w'):
 Calls prog 89 #[.slice a1 n c1,.slice a2 n c2] w R:=by
 have HR:=ab hR;have H1:=ab h1;have H2:=ab h2;have HN:=ab h1.len;clear hR h1 h2;go_enter func89,ntmps89;go_wp2;go_loopg [5] n (fun gn i wr=>∃k:Nat,k≤n∧gn=n - k∧i= .int .i64 k∧Hid (Below w w wr))
 case atStart=>exact ⟨0,Nat.zero_le _,by omega,rfl,ab (Below.refl _ _)⟩
 case round=>
  obtain ⟨k,hk,rfl,rfl,HB⟩:=hrel;obtain ⟨wo,rfl⟩:∃x,x=wr:=⟨_,rfl⟩
  by_cases ao:k<n
  ·have bd:(k:Int)<(n:Int):=by omega
   have f_:k<l.length:=by have:=HN.o_;omega
   obtain ⟨g1,o1,pa,pc,qa,qc,ea,ec,e1,dF,cQ⟩:=(H1.o_.below HB.o_).at ao f_;obtain ⟨g2,o2,ra,rc,sa,sc,ta,tc,e2,b_,gU⟩:=(H2.o_.below HB.o_).at ao f_;obtain ⟨⟨fi,fs,x⟩,hx⟩:∃x,l[k]=x:=⟨_,rfl⟩
   rw [hx] at dF cQ b_ gU;simp only at dF cQ b_ gU;subst e1 e2;have Fz:=ab cQ;have DW:=ab gU;have k0:((wo.cell? ⟨g1,o1+k*16,none⟩=some (.int .i64 fi)∧wo.cell? ⟨g1,o1+k*16+1,none⟩=some (.int .i64 fs))∧wo.cell? ⟨g2,o2+k*16,none⟩=some (.int .i64 fi)∧wo.cell? ⟨g2,o2+k*16+1,none⟩=some (.int .i64 fs))∧(wo.cell? ⟨g1,o1+k*16+2,none⟩=some (.string (str x.note.aJ))∧wo.cell? ⟨g1,o1+k*16+3,none⟩=some (.slice pa x.note.az.length pc)∧wo.cell? ⟨g1,o1+k*16+4,none⟩=some (.int .i64 x.note.al)∧wo.cell? ⟨g1,o1+k*16+5,none⟩=some (.bool x.note.aE)∧wo.cell? ⟨g1,o1+k*16+6,none⟩=some (.string (str x.note.src))∧wo.cell? ⟨g1,o1+k*16+7,none⟩=some (.int .i64 x.note.aN)∧wo.cell? ⟨g1,o1+k*16+8,none⟩=some (.slice qa x.note.props.length qc)∧wo.cell? ⟨g1,o1+k*16+9,none⟩=some (.int .i64 x.note.origin)∧wo.cell? ⟨g1,o1+k*16+10,none⟩=some (.int .i64 x.note.number)∧wo.cell? ⟨g1,o1+k*16+11,none⟩=some (.int .i64 x.note.aQ)∧wo.cell? ⟨g1,o1+k*16+12,none⟩=some (.int .i64 x.al)∧wo.cell? ⟨g1,o1+k*16+13,none⟩=some (.bool x.aM)∧wo.cell? ⟨g1,o1+k*16+14,none⟩=some (.slice ea x.ids.length ec)∧wo.cell? ⟨g1,o1+k*16+15,none⟩=some (.string (str x.share)))∧(wo.cell? ⟨g2,o2+k*16+2,none⟩=some (.string (str x.note.aJ))∧wo.cell? ⟨g2,o2+k*16+3,none⟩=some (.slice ra x.note.az.length rc)∧wo.cell? ⟨g2,o2+k*16+4,none⟩=some (.int .i64 x.note.al)∧wo.cell? ⟨g2,o2+k*16+5,none⟩=some (.bool x.note.aE)∧wo.cell? ⟨g2,o2+k*16+6,none⟩=some (.string (str x.note.src))∧wo.cell? ⟨g2,o2+k*16+7,none⟩=some (.int .i64 x.note.aN)∧wo.cell? ⟨g2,o2+k*16+8,none⟩=some (.slice sa x.note.props.length sc)∧wo.cell? ⟨g2,o2+k*16+9,none⟩=some (.int .i64 x.note.origin)∧wo.cell? ⟨g2,o2+k*16+10,none⟩=some (.int .i64 x.note.number)∧wo.cell? ⟨g2,o2+k*16+11,none⟩=some (.int .i64 x.note.aQ)∧wo.cell? ⟨g2,o2+k*16+12,none⟩=some (.int .i64 x.al)∧wo.cell? ⟨g2,o2+k*16+13,none⟩=some (.bool x.aM)∧wo.cell? ⟨g2,o2+k*16+14,none⟩=some (.slice ta x.ids.length tc)∧wo.cell? ⟨g2,o2+k*16+15,none⟩=some (.string (str x.share))):=⟨⟨⟨dF 0 (by decide),dF 1 (by decide)⟩,b_ 0 (by decide),b_ 1 (by decide)⟩,⟨dF 2 (by decide),dF 3 (by decide),dF 4 (by decide),dF 5 (by decide),dF 6 (by decide),dF 7 (by decide),dF 8 (by decide),dF 9 (by decide),dF 10 (by decide),dF 11 (by decide),dF 12 (by decide),dF 13 (by decide),dF 14 (by decide),dF 15 (by decide)⟩,b_ 2 (by decide),b_ 3 (by decide),b_ 4 (by decide),b_ 5 (by decide),b_ 6 (by decide),b_ 7 (by decide),b_ 8 (by decide),b_ 9 (by decide),b_ 10 (by decide),b_ 11 (by decide),b_ 12 (by decide),b_ 13 (by decide),b_ 14 (by decide),b_ 15 (by decide)⟩
   clear dF b_ cQ gU hx;go_upto_region 6 with fail
   go_region_held3 (fun y=>((y.cell? ⟨g1,o1+k*16,none⟩=some (.int .i64 fi)∧y.cell? ⟨g1,o1+k*16+1,none⟩=some (.int .i64 fs))∧y.cell? ⟨g2,o2+k*16,none⟩=some (.int .i64 fi)∧y.cell? ⟨g2,o2+k*16+1,none⟩=some (.int .i64 fs))∧(y.cell? ⟨g1,o1+k*16+2,none⟩=some (.string (str x.note.aJ))∧y.cell? ⟨g1,o1+k*16+3,none⟩=some (.slice pa x.note.az.length pc)∧y.cell? ⟨g1,o1+k*16+4,none⟩=some (.int .i64 x.note.al)∧y.cell? ⟨g1,o1+k*16+5,none⟩=some (.bool x.note.aE)∧y.cell? ⟨g1,o1+k*16+6,none⟩=some (.string (str x.note.src))∧y.cell? ⟨g1,o1+k*16+7,none⟩=some (.int .i64 x.note.aN)∧y.cell? ⟨g1,o1+k*16+8,none⟩=some (.slice qa x.note.props.length qc)∧y.cell? ⟨g1,o1+k*16+9,none⟩=some (.int .i64 x.note.origin)∧y.cell? ⟨g1,o1+k*16+10,none⟩=some (.int .i64 x.note.number)∧y.cell? ⟨g1,o1+k*16+11,none⟩=some (.int .i64 x.note.aQ)∧y.cell? ⟨g1,o1+k*16+12,none⟩=some (.int .i64 x.al)∧y.cell? ⟨g1,o1+k*16+13,none⟩=some (.bool x.aM)∧y.cell? ⟨g1,o1+k*16+14,none⟩=some (.slice ea x.ids.length ec)∧y.cell? ⟨g1,o1+k*16+15,none⟩=some (.string (str x.share)))∧(y.cell? ⟨g2,o2+k*16+2,none⟩=some (.string (str x.note.aJ))∧y.cell? ⟨g2,o2+k*16+3,none⟩=some (.slice ra x.note.az.length rc)∧y.cell? ⟨g2,o2+k*16+4,none⟩=some (.int .i64 x.note.al)∧y.cell? ⟨g2,o2+k*16+5,none⟩=some (.bool x.note.aE)∧y.cell? ⟨g2,o2+k*16+6,none⟩=some (.string (str x.note.src))∧y.cell? ⟨g2,o2+k*16+7,none⟩=some (.int .i64 x.note.aN)∧y.cell? ⟨g2,o2+k*16+8,none⟩=some (.slice sa x.note.props.length sc)∧y.cell? ⟨g2,o2+k*16+9,none⟩=some (.int .i64 x.note.origin)∧y.cell? ⟨g2,o2+k*16+10,none⟩=some (.int .i64 x.note.number)∧y.cell? ⟨g2,o2+k*16+11,none⟩=some (.int .i64 x.note.aQ)∧y.cell? ⟨g2,o2+k*16+12,none⟩=some (.int .i64 x.al)∧y.cell? ⟨g2,o2+k*16+13,none⟩=some (.bool x.aM)∧y.cell? ⟨g2,o2+k*16+14,none⟩=some (.slice ta x.ids.length tc)∧y.cell? ⟨g2,o2+k*16+15,none⟩=some (.string (str x.share))))
    (first|with_reducible exact k0|with_reducible exact k1|go_keep)
    (first
     |(go_at_call 70;refine R7 x _ _ _ _ _ _ _ (Fz.o_.below (Below.refl _ _).drew) (DW.o_.below (Below.refl _ _).drew) _ ?_;intro w4 ak;have b6:=ab (HB.o_.trans (((Below.refl wo wo).drew.trans ak).mono HB.o_.size));have aC:=(Below.refl wo wo).drew.trans ak;have k1:=And.intro (And.intro (And.intro (cell_later aC k0.1.1.1) (cell_later aC k0.1.1.2)) (And.intro (cell_later aC k0.1.2.1) (cell_later aC k0.1.2.2))) (And.intro (ZP aC k0.2.1) (ZP aC k0.2.2));clear ak aC))
   all_goals
    clear k0 k1;go_wp2;exact Mx
  ·have bd:¬(k:Int)<(n:Int):=by omega
   go_wp2;exact HR.o_ _ HB.o_
theorem alb(l:List Sb)(n:Nat)(hl:n=l.length)(hn:n≤100000)(a1 a2:Option Addr)(c1 c2:Nat)(w:World)(h1:Rd w 6 a1 n (l.flatMap aP))(h2:Rd w 6 a2 n (l.flatMap aP))(R:Ending→World→Prop)
 (hR:∀w',Below w w w'→R (.returned (.bool true)) w'):
 Calls prog 87 #[.slice a1 n c1,.slice a2 n c2] w R:=by
 have HR:=ab hR;have H1:=ab h1;have H2:=ab h2;have HN:=ab hl;clear hR h1 h2 hl;go_enter func87,ntmps87;go_wp2;go_loopg [5] n (fun gn i wr=>∃k:Nat,k≤n∧gn=n - k∧i= .int .i64 k∧Hid (Below w w wr))
 case atStart=>exact ⟨0,Nat.zero_le _,by omega,rfl,ab (Below.refl _ _)⟩
 case round=>
  obtain ⟨k,hk,rfl,rfl,HB⟩:=hrel;obtain ⟨wo,rfl⟩:∃x,x=wr:=⟨_,rfl⟩
  by_cases ao:k<n
  ·have bd:(k:Int)<(n:Int):=by omega
   have f_:k<l.length:=by have:=HN.o_;omega
   obtain ⟨g1,o1,e1,dF⟩:=(H1.o_.below HB.o_).2 (by omega);obtain ⟨g2,o2,e2,b_⟩:=(H2.o_.below HB.o_).2 (by omega);obtain ⟨x,hx⟩:=ai (l[k]);have hv:∀j,j<6→(l.flatMap aP)[k*6+j]? =(aP x)[j]?:=fun j hj=>by rw [jQ 6 aP fT l k j f_ hj,hx]
   subst e1 e2;have d1:∀j,j<6→wo.cell? ⟨g1,o1+k*6+j,none⟩=(aP x)[j]?:=fun j hj=>by rw [Nat.add_assoc,dF (k*6+j) (by omega),hv j hj]
   have d2:∀j,j<6→wo.cell? ⟨g2,o2+k*6+j,none⟩=(aP x)[j]?:=fun j hj=>by rw [Nat.add_assoc,b_ (k*6+j) (by omega),hv j hj]
   have p0:wo.cell? ⟨g1,o1+k*6,none⟩=some (.string (str x.filter)):=d1 0 (by decide);have p1:wo.cell? ⟨g1,o1+k*6+1,none⟩=some (.int .i64 x.al):=d1 1 (by decide);have p2:wo.cell? ⟨g1,o1+k*6+2,none⟩=some (.bool x.lE):=d1 2 (by decide);have p3:wo.cell? ⟨g1,o1+k*6+3,none⟩=some (.bool x.lF):=d1 3 (by decide);have p4:wo.cell? ⟨g1,o1+k*6+4,none⟩=some (.int .i64 x.jx):=d1 4 (by decide);have p5:wo.cell? ⟨g1,o1+k*6+5,none⟩=some (.int .i64 x.id):=d1 5 (by decide);have q0:wo.cell? ⟨g2,o2+k*6,none⟩=some (.string (str x.filter)):=d2 0 (by decide);have q1:wo.cell? ⟨g2,o2+k*6+1,none⟩=some (.int .i64 x.al):=d2 1 (by decide);have q2:wo.cell? ⟨g2,o2+k*6+2,none⟩=some (.bool x.lE):=d2 2 (by decide);have q3:wo.cell? ⟨g2,o2+k*6+3,none⟩=some (.bool x.lF):=d2 3 (by decide);have q4:wo.cell? ⟨g2,o2+k*6+4,none⟩=some (.int .i64 x.jx):=d2 4 (by decide);have q5:wo.cell? ⟨g2,o2+k*6+5,none⟩=some (.int .i64 x.id):=d2 5 (by decide);have b6:=ab (HB.o_.drew);clear dF b_ hv hx d1 d2;go_wp2;go_region
   all_goals go_wp2_with fail
   exact Mx
  ·have bd:¬(k:Int)<(n:Int):=by omega
   go_wp2;exact HR.o_ _ HB.o_
variable{B m:Nat}{v v' v1 v2 v3:Value}{iF:World}
structure sh(wr:World)(B m:Nat)(v:Value)(L:List Im)(qs:List (V3×Im)):Prop where
 eqs:qs.map (·.2)=L
 row:wr.ownsRow B 36 14 v m (qs.flatMap cL)
 new:∀p∈qs,dJ wr B p.1.1 p.1.2.1 p.1.2.2 p.2
 reach:∀p∈qs,gb p.2
theorem sh.below{wr:World}{L:List Im}{qs:List (V3×Im)}(h:sh wr B m v L qs)(hb:Below wr wr iF):sh iF B m v L qs:=
 ⟨h.eqs,aK h.row hb,fun p hp=>(h.new p hp).below hb,h.reach⟩
theorem sh.push{wr:World}{L L':List Im}{qs:List (V3×Im)}(h:sh wr B m v L qs)(hL:L'=L++ [x])(ho:dJ wr B v1 v2 v3 x)(hb:gb x)
 (hr:iF.ownsRow B 36 14 v' (m+1) (qs.flatMap cL++cL ((v1,v2,v3),x))) (hg:wr.grownBy iF v.ownBlock):sh iF B (m+1) v' L' (qs++ [((v1,v2,v3),x)]):=by
 refine ⟨by rw [hL,List.map_append,h.eqs];rfl,by rw [List.flatMap_append];simpa using hr,fun p hp=> ?_,fun p hp=> ?_⟩
 ·rcases List.mem_append.1 hp with hp|hp
  ·exact (h.new p hp).app h.row (by decide) (by decide) (by decide) hg
  ·obtain rfl:=List.mem_singleton.1 hp;exact ho.app h.row (by decide) (by decide) (by decide) hg
 ·rcases List.mem_append.1 hp with hp|hp
  ·exact h.reach p hp
  ·obtain rfl:=List.mem_singleton.1 hp;exact hb
def rk(fs:List Fl):List Im:=(fs.filter oB).map (·.item)
theorem alc(fs:List Fl)(k:Nat)(h:k<fs.length):rk (fs.take (k+1))=rk (fs.take k)++(if oB fs[k]=true then [(fs[k]).item] else []):=by
 unfold rk;rw [Fi _ fs k h,List.map_append]
 congr 1
 split<;>rfl
theorem ZR{P:Prop}(h:P:=by
 go_wp2;go_roundg (n - (k+1))
 case measure=>omega
 case rel=>exact ⟨k+1,m,c,ad,qs,by omega,rfl,by go_num,rfl,by omega,BU,b6⟩):P:=h
theorem ZS{P:Prop}(h:P:=by
 go_wp2;go_roundg (nf - (k+1))
 case measure=>omega
 case rel=>exact ⟨k+1,m,c,ad,qs,by omega,rfl,by go_num,rfl,by omega,BU,b6⟩):P:=h
theorem ald(S:Nat)(s:aF)(N:Nat)(hN:(tZ s).length=N)(hl:s.queue.length≤100000)(pC:s.aj.length≤100000)(w:World)(M:Nat→Prop)(h:SR w M S s)(R:Ending→World→Prop)
 (hR:∀ad c (qs:List (V3×Im)) w',qs.map (·.2)=tZ s→w'.ownsRow w 36 14 (.slice ad N c) N (qs.flatMap cL)→(∀p∈qs,dJ w' w.heap.size p.1.1 p.1.2.1 p.1.2.2 p.2)→(∀p∈qs,gb p.2)→Below w w w'→R (.returned (.slice ad N c)) w'):
 Calls prog 17 #[.pointer (some ⟨S,0,none⟩)] w R:=by
 have HR:=ab hR;obtain ⟨NB,MB,GB,GM,sv,qv,fv,hx⟩:=h;obtain ⟨ps,aT,aq,aS,_⟩:=id hx.hq;obtain ⟨fQ,jG,fx,kL,_⟩:=id hx.hf;obtain ⟨n,hn⟩:=ai s.queue.length;obtain ⟨nf,mn⟩:=ai s.aj.length;have eA:ps.length=n:=by rw [←hn,←aT];simp
 have xm:fQ.length=nf:=by rw [←mn,←jG];simp
 rw [hn] at aq hl;rw [mn] at fx pC;obtain ⟨va,vc,rfl⟩:=aq.shape;obtain ⟨fa,fc,rfl⟩:=bF fx;have c7:=(dy hx.hS).2.2.2.1;have HX:=ab hx;have dn:=ab aT;have aU:=ab aq;have gK:=ab aS;have wV:=ab jG;have pD:=ab fx;have vk:=ab kL;have fz:=ab eA;have sY:=ab xm;have vB:=ab hN;have rW:=ab hn;have oy:=ab mn;have wR:Hid (sh w w.heap.size 0 (.slice none 0 0) (rk (s.aj.take 0)) []):=⟨by simp [rk],World.ownsRow_nil _ _ _ _,fun p hp=>by simp at hp,fun p hp=>by simp at hp⟩
 clear hR hx aT aq aS hn eA jG fx kL mn xm hN;go_enter func17,ntmps17;go_wp2;go_loopg [3,13] nf (fun gn r i wr=>∃(k m c:Nat)(ad:Option Addr) (qs:List (V3×Im)),k≤nf∧gn=nf - k∧i= .int .i64 k∧r= .slice ad m c∧m≤k∧Hid (sh wr w.heap.size m (.slice ad m c) (rk (s.aj.take k)) qs)∧Hid (Below w w wr))
 case atStart=>exact ⟨0,0,0,none,[],Nat.zero_le _,by omega,rfl,rfl,Nat.le_refl _,wR,ab (Below.refl _ _)⟩
 case round=>
  clear wR c7;obtain ⟨k,m,c,ad,qs,hk,rfl,rfl,rfl,gP,HF,HB⟩:=hrel;obtain ⟨wo,rfl⟩:∃x,x=wr:=⟨_,rfl⟩
  by_cases ao:k<nf
  ·have bd:(k:Int)<(nf:Int):=by omega
   have dM:k<fQ.length:=by have:=sY.o_;omega
   have yI:k<s.aj.length:=by have:=oy.o_;omega
   have lx:s.aj[k]=(fQ[k]).2:=by
    have h2:=congrArg (fun l=>l[k]?) wV.o_;exact K0
   have b7:=alc s.aj k yI;have aS:=vk.o_ _ (List.getElem_mem dM);have Di:=aK pD.o_ HB.o_;obtain ⟨g,kK⟩:=et Di (by omega);subst kK;have dI:∀j,j<16→wo.cell? ⟨g,k*16+j,none⟩=(bH fQ[k])[j]?:=fun j hj=>by
    have:=sY.o_;rw [Di.cellAt (k*16+j) (by omega),jQ 16 bH iY fQ k j dM hj]
   obtain ⟨⟨⟨v1,v2,v3⟩,⟨cR,fst,x⟩⟩,iM⟩:∃p,fQ[k]=p:=⟨_,rfl⟩
   rw [iM] at lx aS dI;rw [lx] at b7;simp only at b7;obtain ⟨⟨pa,pc,e1⟩,⟨qa,qc,e2⟩,ea,ec,e3⟩:=aS.1.o_.shape;simp only at e1 e2 e3;subst e1 e2 e3;have fy:Hid (∀j,j<16→wo.cell? ⟨g,k*16+j,none⟩= (cD cR fst x pa pc qa qc ea ec:List Value)[j]?):=dI;have gR:=ab aS.2;have jS:Below wo wo (wo.alloc (Obj.cells (cD cR fst x pa pc qa qc ea ec) 51)):=(Below.refl _ _).alloc (Nat.le_refl _) _;have tP:=ab (show gH (wo.alloc (Obj.cells (cD cR fst x pa pc qa qc ea ec) 51)) (.slice pa x.note.az.length pc) (.slice qa x.note.props.length qc) (.slice ea x.ids.length ec) x from (aS.1.o_.below HB.o_).below jS);have sR:=ab (HF.o_.below jS);have b6:=ab (aD HB.o_ jS HB.o_.size);have hT:=heap_alloc_new wo (Obj.cells (cD cR fst x pa pc qa qc ea ec) 51);have ep:=ab b7;clear dI b7 iM lx aS Di jS;go_upto_region 5 with (first
    |(refine ie (o:=⟨some 16,.load 51 (.tmp 15),_,_,_,_⟩) (by rfl) 51 (.tmp 15) (by rfl) (g) ((k*16)) (by rfl) ((cD cR fst x pa pc qa qc ea ec)) _ (fy.o_) (underlying51) (by rfl) (by kernel_rfl) ?_))
   generalize wo.alloc (Obj.cells (cD cR fst x pa pc qa qc ea ec) 51)=w1 at tP sR b6 hT⊢;obtain ⟨T,dN⟩:=ai wo.heap.size;rw [dN] at hT⊢;have d1:w1.cell? ⟨T,1,none⟩=some (.int .i64 fst):=af w1 T 1 _ _ _ hT;have d15:w1.cell? ⟨T,15,none⟩=some (.string (str x.share)):=af w1 T 15 _ _ _ hT;have ek:Hid (∀j,j<14→w1.cell? ⟨T,2+j,none⟩= (aG x pa pc qa qc ea ec:List Value)[j]?):=ab (fun j hj=>by
    rw [af w1 T (2+j) _ _ _ hT]
    match j,hj with
    |0,_|1,_|2,_|3,_|4,_|5,_|6,_|7,_|8,_|9,_|10,_|11,_|12,_|13,_=>rfl)
   have HT:=ab hT;clear hT dN fy HF HB;by_cases ch:fst=1
   ·subst ch;by_cases bt:x.share= []
    ·have BU:Hid (sh w1 w.heap.size m (.slice ad m c) (rk (s.aj.take (k+1))) qs):=by
      have:=ep.o_;rw [show oB ⟨cR,1,x⟩=false by simp [oB,bt],if_neg (by decide),List.append_nil] at this;rw [this];exact sR
     rw [bt] at d15;have Ll:w1.cell? ⟨T,15,none⟩=some (.string ⟨#[]⟩):=d15;clear ep bt d15;exact ZS
    ·have uu:Hid (rk (s.aj.take (k+1))=rk (s.aj.take k)++ [x]):=by
      have:=ep.o_;rw [show oB ⟨cR,1,x⟩=true by simp [oB,bt],if_pos rfl] at this;exact this
     have fj:((str x.share).toList==ByteArray.toList ⟨#[]⟩)=false:=by rw [Lk];simpa using bt
     have Hj:(x.share== [])=false:=by simpa using bt
     clear ep;go_wp2_with (first
      |(refine ie (o:=⟨some 28,.load 36 (.tmp 27),_,_,_,_⟩) (by rfl) 36 (.tmp 27) (by rfl) (T) (2) (by rfl) ((aG x pa pc qa qc ea ec)) _ (ek.o_) (underlying36) (by rfl) (by kernel_rfl) ?_)
      |(go_at_call 37;go_must (refine AL x _ _ _ _ tP.o_ gR.o_ _ ?_;intro jN jO nC nD nE nF w7 e_ aZ;have mJ:Below w7 w7 (w7.alloc (Obj.cells (aG x jN jO nC nD nE nF) 36)):=(Below.refl _ _).alloc (Nat.le_refl _) _;have mI:=ab ((sR.o_.below aZ).below mJ);have kD:=ab ((e_.mono b6.o_.size).below mJ);have fS:=ab (aD (aD b6.o_ aZ b6.o_.size) mJ (Nat.le_trans b6.o_.size aZ.size));clear e_ aZ mJ))
      |(have hq:=mI;at_builtin;go_must (refine gj (by rfl) (.tmp 26) (.tmp 30) 52 (by rfl) w 36 (Value.agg a_) 14 184 underlying52 sC rfl (by decide) ad m c _ (by rfl) mI.o_.row (some ⟨w7,0,none⟩) 1 1 (aG x jN jO nC nD nE nF) (by rfl) (cO w7 (aG x jN jO nC nD nE nF) 36 14 1 rfl) (zp _ _ _ _ _ _ _) (fun h=>by cases h) (by unfold maxLen;omega) (by omega) fS.o_.size ?_;intro eC c9 w9 cI bo _;have EW:=ab (mI.o_.push uu.o_ kD.o_ gR.o_ cI bo);have ki:=ab (bC fS.o_ bo fS.o_.size mI.o_.row);clear hq cI bo)))
     go_roundg (nf - (k+1))
     case measure=>omega
     case rel=>exact ⟨k+1,m+1,c9,eC,_,by omega,rfl,by go_num,rfl,by omega,EW,ki⟩
   ·have BU:Hid (sh w1 w.heap.size m (.slice ad m c) (rk (s.aj.take (k+1))) qs):=by
     have:=ep.o_;rw [show oB ⟨cR,fst,x⟩=false by simp [oB,ch],if_neg (by decide),List.append_nil] at this;rw [this];exact sR
    have fj:(fst==1)=false:=by simpa using ch
    clear ep;exact ZS
  ·have bd:¬(k:Int)<(nf:Int):=by omega
   obtain rfl:nf=k:=by omega
   have ZT:Hid (sh wo w.heap.size m (.slice ad m c) (rk s.aj++(s.queue.take 0).filter j7) qs):=by
    have:=HF.o_;rw [List.take_of_length_le (by have:=oy.o_;omega)] at this;show sh _ _ _ _ _ _
    simpa using this
   have c6:=cell_later HB.o_ (dy HX.o_.hS).2.2.1;have ns:m≤nf:=gP;clear HF;go_wp2;go_loopg [3,38] n (fun gn r i wr=>∃(k m c:Nat)(ad:Option Addr) (qs:List (V3×Im)),k≤n∧gn=n - k∧i= .int .i64 k∧r= .slice ad m c∧m≤nf+k∧Hid (sh wr w.heap.size m (.slice ad m c) (rk s.aj++(s.queue.take k).filter j7) qs)∧Hid (Below w w wr))
   case atStart=>exact ⟨0,m,c,ad,qs,Nat.zero_le _,by omega,rfl,rfl,ns,ZT,HB⟩
   case round=>
    clear ZT HB c6 gP hk bd;obtain ⟨k,m,c,ad,qs,hk,rfl,rfl,rfl,gP,HF,HB⟩:=hrel;obtain ⟨wo,rfl⟩:∃x,x=wr:=⟨_,rfl⟩
    by_cases ao:k<n
    ·have bd:(k:Int)<(n:Int):=by omega
     have dM:k<ps.length:=by have:=fz.o_;omega
     have mF:k<s.queue.length:=by have:=rW.o_;omega
     have oq:s.queue[k]=(ps[k]).2:=by
      have h2:=congrArg (fun l=>l[k]?) dn.o_;exact GK
     have b7:=Fi j7 s.queue k mF;have aS:=gK.o_ _ (List.getElem_mem dM);obtain ⟨g,o,kK,aW,_⟩:=(aU.o_.below HB.o_).at (by omega);subst kK;have bJ:∀j,j<14→wo.cell? ⟨g,o+k*14+j,none⟩=(cL ps[k])[j]?:=fun j hj=>by
      exact Pf
     obtain ⟨⟨⟨v1,v2,v3⟩,x⟩,hp⟩:∃p,ps[k]=p:=⟨_,rfl⟩
     rw [hp] at oq aS bJ;rw [oq] at b7;simp only at b7;obtain ⟨⟨pa,pc,e1⟩,⟨qa,qc,e2⟩,ea,ec,e3⟩:=aS.1.o_.shape;simp only at e1 e2 e3;subst e1 e2 e3;have HC:Hid (∀j,j<14→wo.cell? ⟨g,o+k*14+j,none⟩= (aG x pa pc qa qc ea ec:List Value)[j]?):=bJ;have gR:=ab aS.2;have jS:Below wo wo (wo.alloc (Obj.cells (aG x pa pc qa qc ea ec) 36)):=(Below.refl _ _).alloc (Nat.le_refl _) _;have tP:=ab (show gH (wo.alloc (Obj.cells (aG x pa pc qa qc ea ec) 36)) (.slice pa x.note.az.length pc) (.slice qa x.note.props.length qc) (.slice ea x.ids.length ec) x from (aS.1.o_.below HB.o_).below jS);have sR:=ab (HF.o_.below jS);have b6:=ab (aD HB.o_ jS HB.o_.size);have hT:=heap_alloc_new wo (Obj.cells (aG x pa pc qa qc ea ec) 36);have ep:=ab b7;clear aW oq aS bJ hp jS b7;go_upto_region 11 with (first
      |(refine ie (o:=⟨some 41,.load 36 (.tmp 40),_,_,_,_⟩) (by rfl) 36 (.tmp 40) (by rfl) (g) ((o+k*14)) (by rfl) ((aG x pa pc qa qc ea ec)) _ (HC.o_) (underlying36) (by rfl) (by kernel_rfl) ?_))
     generalize wo.alloc (Obj.cells (aG x pa pc qa qc ea ec) 36)=w1 at tP sR b6 hT⊢;obtain ⟨T,dN⟩:=ai wo.heap.size;rw [dN] at hT⊢;have d10:w1.cell? ⟨T,10,none⟩=some (.int .i64 x.al):=af w1 T 10 _ _ _ hT;have d13:w1.cell? ⟨T,13,none⟩=some (.string (str x.share)):=af w1 T 13 _ _ _ hT;have HT:=ab hT;clear hT dN HC HF HB;by_cases hq:(0:Int)<x.al
     ·have tv:decide ((0:Int)<x.al)=true:=decide_eq_true hq;by_cases bt:x.share= []
      ·have BU:Hid (sh w1 w.heap.size m (.slice ad m c) (rk s.aj++(s.queue.take (k+1)).filter j7) qs):=by
        have:=ep.o_;rw [show j7 x=false by simp [j7,bt],if_neg (by decide),List.append_nil] at this;rw [this];exact sR
       rw [bt] at d13;have ahh:w1.cell? ⟨T,13,none⟩=some (.string ⟨#[]⟩):=d13;clear ep bt d13;exact ZR
      ·have uu:Hid (rk s.aj++(s.queue.take (k+1)).filter j7=(rk s.aj++(s.queue.take k).filter j7)++ [x]):=by
        have:=ep.o_;rw [show j7 x=true by simp [j7,bt,hq],if_pos rfl] at this;show _=_;rw [this,List.append_assoc]
       have fj:((str x.share).toList==ByteArray.toList ⟨#[]⟩)=false:=by rw [Lk];simpa using bt
       have Hj:(x.share== [])=false:=by simpa using bt
       clear ep;go_wp2_with (first
        |(refine wpList_load_row (o:=⟨some 51,.load 36 (.tmp 7),_,_,_,_⟩) (by rfl) 36 (.tmp 7) (by rfl) (T) (by rfl) 36 _ (0,0) _ (HT).o_ (underlying36) (by rfl) (by kernel_rfl) ?_)
        |(go_at_call 37;go_must (refine AL x _ _ _ _ tP.o_ gR.o_ _ ?_;intro jN jO nC nD nE nF w7 e_ aZ;have mJ:Below w7 w7 (w7.alloc (Obj.cells (aG x jN jO nC nD nE nF) 36)):=(Below.refl _ _).alloc (Nat.le_refl _) _;have mI:=ab ((sR.o_.below aZ).below mJ);have kD:=ab ((e_.mono b6.o_.size).below mJ);have fS:=ab (aD (aD b6.o_ aZ b6.o_.size) mJ (Nat.le_trans b6.o_.size aZ.size));clear e_ aZ mJ))
        |(have hq:=mI;at_builtin;go_must (refine gj (by rfl) (.tmp 50) (.tmp 53) 52 (by rfl) w 36 (Value.agg a_) 14 184 underlying52 sC rfl (by decide) ad m c _ (by rfl) mI.o_.row (some ⟨w7,0,none⟩) 1 1 (aG x jN jO nC nD nE nF) (by rfl) (cO w7 (aG x jN jO nC nD nE nF) 36 14 1 rfl) (zp _ _ _ _ _ _ _) (fun h=>by cases h) (by unfold maxLen;omega) (by omega) fS.o_.size ?_;intro eC c9 w9 cI bo _;have EW:=ab (mI.o_.push uu.o_ kD.o_ gR.o_ cI bo);have ki:=ab (bC fS.o_ bo fS.o_.size mI.o_.row);clear hq cI bo)))
       go_roundg (n - (k+1))
       case measure=>omega
       case rel=>exact ⟨k+1,m+1,c9,eC,_,by omega,rfl,by go_num,rfl,by omega,EW,ki⟩
     ·have tv:decide ((0:Int)<x.al)=false:=decide_eq_false hq;have BU:Hid (sh w1 w.heap.size m (.slice ad m c) (rk s.aj++(s.queue.take (k+1)).filter j7) qs):=by
       have:=ep.o_;rw [show j7 x=false by simp [j7,hq],if_neg (by decide),List.append_nil] at this;rw [this];exact sR
      clear ep;exact ZR
    ·have bd:¬(k:Int)<(n:Int):=by omega
     obtain rfl:n=k:=by omega
     have pz:qs.map (·.2)=tZ s:=by
      rw [HF.o_.eqs,List.take_of_length_le (by have:=rW.o_;omega)]
      rfl
     have Qi:m=N:=by
      have h1:=HF.o_.row.1;rw [eS 14 cL my] at h1;rw [←vB.o_,←pz,List.length_map]
      omega
     subst Qi;have kH:=ab (HR.o_ ad c qs wo pz HF.o_.row HF.o_.new HF.o_.reach HB.o_);clear pz;go_wp2;exact kH.o_
end Go.Proofs.YtgimbocoamnkjaaGreatDoor
