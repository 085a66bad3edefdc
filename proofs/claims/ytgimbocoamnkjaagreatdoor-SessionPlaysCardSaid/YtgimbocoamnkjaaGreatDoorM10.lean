/- A part of the proof of SessionPlays, printed small; no conditions of its own. -/
import Derived.Test.YtgimbocoamnkjaaGreatDoorM09
set_option maxRecDepth 100000
set_option maxHeartbeats 16000000
namespace Go.Proofs.YtgimbocoamnkjaaGreatDoor
open _root_.Go.Proofs.Tryz
variable{T t:Nat}{fr:Nat×Nat}{a d f h:Value}{w:World}
open Go.RowKit
theorem KH(v u:Value)(l m:List UInt8)(w:World)(hv:Bs w v l)(hu:Bs w u m)(R:Ending→World→Prop)
 (hR:R (.returned (.bool (l==m))) w):Calls prog 53 #[v,u] w R:=by
 obtain ⟨ad,c,rfl,_⟩:=id hv;obtain ⟨ae,d,rfl,_⟩:=id hu;have c1:=ru (P:=prog) underlying22 underlying5 underlying9 hv;have c2:=ru (P:=prog) underlying22 underlying5 underlying9 hu;obtain ⟨b,hb⟩:∃b,(l==m)=b:=⟨_,rfl⟩
 rw [hb] at hR;go_enter func53,ntmps53;go_wp2;exact hR
def lL(l:List Pr)(ids:List Int):List Pr:=l.filter fun p=>ids.contains p.id
theorem Wp(l:List Pr)(p:Pr)(ids:List Int):lL (l++ [p]) ids=lL l ids++if ids.contains p.id=true then [p] else []:=by
 unfold lL;rw [List.filter_append]
 congr 1
 rw [List.filter_cons]
 split<;>rfl
theorem afy(v:Value)(l:List Pr)(ids:List Int)(hm:ids.length≤1000)(iw:Value)(w:World)(hi:Is w iw ids)(hv:Ps w v l)(nv:l.length≤1000000)(R:Ending→World→Prop)
 (hR:∀ad cc w',cZ w' w.heap.size (.slice ad (lL l ids).length cc) (lL l ids)→Below w w w'→R (.returned (.slice ad (lL l ids).length cc)) w'):
 Calls prog 209 #[v,iw] w R:=by
 have HR:=ab hR;have HV:=ab hv;have HI:=ab hi;obtain ⟨ia,c,rfl,_⟩:=id hi;obtain ⟨va,vc,rfl,_⟩:=_root_.id hv;clear hR hv hi;go_enter func209,ntmps209;go_wp2;go_loopg [5,7,10] l.length (fun gn L _ i wr=>∃(k:Nat)(o:List Pr)(oa:Option Addr)(oc:Nat),k≤l.length∧gn=l.length - k∧i= .int .i64 k∧L= .slice oa o.length oc∧Hid (o=lL (l.take k) ids)∧o.length≤k∧Hid (cZ wr w.heap.size (.slice oa o.length oc) o)∧Below w w wr)
 case atStart=>exact ⟨0,[],none,0,Nat.zero_le _,by omega,rfl,rfl,ab rfl,Nat.le_refl _,ab (cZ.nil _ _),Below.refl _ _⟩
 case round=>
  obtain ⟨k,o,oa,oc,hk,rfl,rfl,rfl,HO,gX,dn,hb⟩:=hrel;obtain ⟨wo,rfl⟩:∃y,y=wr:=⟨_,rfl⟩
  by_cases ao:k<l.length
  ·have bd:(k:Int)<(l.length:Int):=by omega
   obtain ⟨Cy,Cz,ee,_,_,_,v4⟩:=HV.o_.below hb;simp only [Value.slice.injEq] at ee;obtain ⟨rfl,-,rfl⟩:=ee;obtain ⟨vb,vo,rfl,v5⟩:=v4 (by omega);obtain ⟨d0,⟨p0,p1,p2,p3,p4⟩,gC⟩:=v5 k ao;have oh:Hid (l.take (k+1)=l.take k++ [l[k]]):=ab (List.take_succ_eq_append_getElem ao);obtain ⟨y,hy⟩:=ai (l[k]);rw [hy] at p0 p1 p2 p3 gC oh;obtain ⟨d1,d3,rfl,_⟩:=_root_.id gC.hd;have ob:Below wo wo (wo.alloc (Obj.cells (dB y d1 d3) 147)):=(Below.refl _ _).alloc (Nat.le_refl _) _;have tH:=ab (gC.below ob);have O7:=br hb ob;have wG:=ab ob;obtain ⟨z,hz⟩:=ai (ids.contains y.id);have fh:lL (l.take (k+1)) ids=o++(if z=true then [y] else []):=by rw [oh.o_,Wp,←HO.o_,hz]
   have sQ:=ab fh;have HZ:=ab hz;clear v4 v5 hy gC ob hz fh;cases z with
   |false=>
    go_wp2_with (go_at_call 105;go_must (refine NX _ ids y.id false HZ.o_ (by omega) _ (HI.o_.below O7) _ ?_));go_roundg (l.length - (k+1))
    case measure=>omega
    case rel=>exact ⟨k+1,o,oa,oc,by omega,rfl,by go_num,rfl,ab (by rw [sQ.o_];simp),by omega,ab (dn.o_.below wG.o_),O7⟩
   |true=>
    obtain ⟨ds,B_,aq,xQ,qH⟩:=dn.o_;have yk:=ab B_;have yl:=ab xQ;have aU:=ab aq;have uQ:=ab qH;clear xQ aq qH;go_wp2_with (first
     |(go_at_call 105;go_must (refine NX _ ids y.id true HZ.o_ (by omega) _ (HI.o_.below O7) _ ?_))
     |(go_at_call 222;go_must (refine Vj _ y _ tH.o_ _ ?_);intro ca cc w5 ed aC;have dW:=br wG.o_ aC;have bp:=aD hb dW hb.size;have gz:=aK aU.o_ dW;have bG:=cO w5 (dB y ca cc) 147 5 1 rfl;have oi:=bN (gF:=wo.heap.size) ed wG.o_.size;clear ed aC)
     |(at_builtin;go_must (refine j9 (by rfl) (.tmp 18) (.tmp 21) 32 (by rfl) w 147 (.agg hZ) 5 72 underlying32 Tryz.xP rfl (by decide) _ _ _ _ rfl (World.ownsRow.alloc gz _) _ _ _ _ rfl bG (zg _ _ _) (by simp) (by unfold maxLen;omega) (by omega) (Nat.le_trans bp.size (by simp)) ?_)))
    intro fM c6 w6 dt bI;have lD:eF 5 w5 w6:=(eF.below ((Below.refl _ _).alloc (Nat.le_refl _) _)).trans (eF.Ek (gz.alloc _) bI (by decide));have zA:Below w w w6:=bC (bp.alloc bp.size _) bI (Nat.le_trans bp.size (by simp)) (gz.alloc _);have ju:∀v∈ds,fR v (.slice ca y.data.length cc):=by
     intro v hv k hk hc;obtain ⟨i,hi,rfl⟩:=List.getElem_of_mem hv;have h1:=((yl.o_ i (by rw [←yk.o_];exact hi)).lt k hk).2;have h2:=(oi.lt k hc).1
     omega
    have wI:cZ w6 w.heap.size (.slice fM (o.length+1) c6) (o++ [y]):=cZ.push yk.o_ (fun i hi=>aK (yl.o_ i hi) dW) lD dt (bN oi hb.size) uQ.o_ ju;have CQ:Hid (cZ w6 w.heap.size (.slice fM (o++ [y]).length c6) (o++ [y])):=ab (by rw [List.length_append];exact wI);clear wI ju lD dt bI gz bG bp dW oi;go_wp2;go_roundg (l.length - (k+1))
    case measure=>omega
    case rel=>exact ⟨k+1,o++ [y],fM,c6,by omega,rfl,by go_num,by rw [List.length_append];rfl,ab (by rw [sQ.o_];simp),by rw [List.length_append];simp;omega,CQ,zA⟩
  ·have bd:¬(k:Int)<(l.length:Int):=by omega
   have wJ:lL l ids=o:=by rw [HO.o_,List.take_of_length_le (by omega)]
   have HF:=ab wJ;clear wJ;go_wp2;have h9:=HR.o_ oa oc _ (by rw [HF.o_];exact dn.o_) hb;rw [HF.o_] at h9;exact h9
theorem afz{a b c d e:Int}:Is (w.alloc (Obj.cells #[Value.int .i64 a,Value.int .i64 b,Value.int .i64 c,Value.int .i64 d,Value.int .i64 e] 3)) (.slice (some ⟨w,0,none⟩) 5 5) [a,b,c,d,e]:=
 ⟨_,5,rfl,cO w #[Value.int .i64 a,Value.int .i64 b,Value.int .i64 c,Value.int .i64 d,Value.int .i64 e] 3 1 5 rfl,Nat.le_refl _,by decide,fun h=>by cases h⟩
theorem afA(v:Value)(l:List Pr)(w:World)(hv:Ps w v l)(nv:l.length≤1000000)(R:Ending→World→Prop)
 (hR:∀ad cc w',cZ w' w.heap.size (.slice ad (lL l [1,3,8,9,38]).length cc) (lL l [1,3,8,9,38])→Below w w w'→R (.returned (.slice ad (lL l [1,3,8,9,38]).length cc)) w'):
 Calls prog 186 #[v] w R:=by
 have HR:=ab hR;have aL:Below w w (w.alloc (Obj.cells #[Value.int .i64 1,Value.int .i64 3,Value.int .i64 8,Value.int .i64 9,Value.int .i64 38] 3)):=(Below.refl _ _).alloc (Nat.le_refl _) _;have bu:=ab aL;have HV:=ab (hv.below aL);have HI:=ab (afz (w:=w) (a:=1) (b:=3) (c:=8) (d:=9) (e:=38));obtain ⟨va,vc,rfl,_⟩:=id hv;clear hR aL hv;go_enter func186,ntmps186;go_wp2_with (first
  |(go_at_call 209;go_must (refine afy _ l [1,3,8,9,38] (by decide) _ _ HI.o_ HV.o_ nv _ ?_);intro oa oc w3 yx an;have u_:=ab (yx.mono bu.o_.size);have bU:=ab (aD bu.o_ an bu.o_.size);clear yx an))
 exact HR.o_ _ _ _ u_.o_ bU.o_
structure Wq(x:Nt):Prop where
 q:x.al<3
 e0:0≤x.aN
 e1:x.aN≤4611686018427387904
 n0:0≤x.number
 n1:x.number≤4611686018427387904
 k:(lL x.props [1,3,8,9,38]).length=x.props.length
theorem Ws{x:World}{b c e g i j:Value}(q:x.heap[T]? =some (.cells #[a,b,c,d,e,f,g,h,i,j] t fr)):x.cell? ⟨T,2,none⟩=some c∧x.cell? ⟨T,5,none⟩=some f∧x.cell? ⟨T,6,none⟩=some g∧x.cell? ⟨T,8,none⟩=some i:=
 ⟨af x T 2 _ _ _ q,af x T 5 _ _ _ q,af x T 6 _ _ _ q,af x T 8 _ _ _ q⟩
theorem afB(x:Nt)(hm:Wq x)(pv qv:Value)(w:World)(hp:Bs w pv x.az)(hq:Ps w qv x.props)(nv:x.props.length≤1000000)(R:Ending→World→Prop)
 (hR:∀w',Below w w w'→R (.returned (.bool true)) w'):
 Calls prog 167 #[(Value.agg (xT x pv qv))] w R:=by
 have HR:=ab hR;obtain ⟨qa,qc,rfl,_⟩:=id hq;obtain ⟨pa,pc,rfl,_⟩:=id hp;have n0:=heap_alloc_new w (Obj.cells (nR x pa pc qa qc) 34);have aL:Below w w (w.alloc (Obj.cells (nR x pa pc qa qc) 34)):=(Below.refl _ _).alloc (Nat.le_refl _) _;have bu:=ab aL;have HQ:=ab (hq.below aL);have h1:=hm.q;have h2:=hm.e0;have h3:=hm.e1;have h4:=hm.n0;have h5:=hm.n1;have HK:=ab hm.k;have N0:=ab n0;clear hR aL hp hq hm;go_enter func167,ntmps167;go_upto_region 1 with fail
 generalize w.alloc (Obj.cells (nR x pa pc qa qc) 34)=w1 at n0 bu HQ N0⊢;obtain ⟨T,hT⟩:=ai w.heap.size;rw [hT] at n0 N0;have dh:=aA n0 (Below.refl w1 w1).drew;have AR:=HQ.o_.below (Below.refl w1 w1).drew;have aL:=aD bu.o_ (Below.refl w1 w1).drew bu.o_.size;clear n0;go_region_held3 (fun z=>z.cell? ⟨T,2,none⟩=some (.int .i64 x.al)∧z.cell? ⟨T,5,none⟩=some (.int .i64 x.aN)∧z.cell? ⟨T,6,none⟩=some (.slice qa x.props.length qc)∧z.cell? ⟨T,8,none⟩=some (.int .i64 x.number))
  (first|with_reducible exact Ws dh|with_reducible exact Ws jF|go_keep)
  (first
   |(go_at_call 186;refine afA _ x.props _ AR nv _ ?_;intro ka kc w3 yx an;have jF:=aA dh an;have bU:=ab (aD aL an aL.size);clear yx an))
 all_goals
  go_wp2_with fail;have e:(((lL x.props [1,3,8,9,38]).length:Int)==(x.props.length:Int))=true:=by rw [HK.o_];simp
  show R (.returned (.bool (((lL x.props [1,3,8,9,38]).length:Int)==(x.props.length:Int)))) w3;rw [e];exact HR.o_ _ bU.o_
theorem Wt(a t:List UInt8)(n:Nat)(hn:a.length=n):takeC n ⟨a++t,false⟩=(a,⟨t,false⟩):=by
 subst hn;unfold takeC;rw [if_neg (by simp)];simp
theorem Wu{P:Prop}(h:P:=by
 simp only [e,hb];have hl:(aR l.length 2++l).length=(((l.length:Int)+2).toNat):=by
  rw [List.length_append,eU]
  omega
 have:=Wt (aR l.length 2++l) t _ hl;simp only [bne_self_eq_false,Bool.or_false];rw [this]):P:=h
theorem Wv(l t:List UInt8)(h:l.length≤65535):C2 ⟨(cS l).1++t,false⟩=(l,⟨t,false⟩):=by
 have e:(cS l).1=aR l.length 2++l:=by
  unfold cS;rw [if_neg (by omega)]
 have hb:=F' l t h;unfold C2;exact Wu
theorem O8(l t:List UInt8)(h:l.length≤65535)(ht:dV l=true):zJ ⟨(b5 l).1++t,false⟩=(l,⟨t,false⟩):=by
 have e:(b5 l).1=aR l.length 2++l:=by
  unfold b5 cS;rw [if_pos ht,if_neg (by omega)]
 have hb:=Ga l t h ht;unfold zJ;exact Wu
theorem O9(x k:Nat)(t:List UInt8):ny k ⟨aR x k++t,false⟩=(IntKind.i64.wrap (cz (aR x k)),⟨t,false⟩):=by
 unfold ny;rw [Wt _ _ _ (eU x k)]
theorem GW(x:Nat)(hx:x<256)(t:List UInt8):ny 1 ⟨[b8 (x:Int)]++t,false⟩=((x:Int),⟨t,false⟩):=by
 have e: [b8 (x:Int)]=aR x 1:=by
  rw [Ob x 0];simp [aR]
 rw [e,O9,Cs 1 x (by decide) (by omega),IntKind.wrap_i64];simp only [Prod.mk.injEq,and_true]
 omega
theorem Ww(x:Int)(h0:0≤x)(h1:x≤4611686018427387904)(t:List UInt8):ny 8 ⟨aR (bj x) 8++t,false⟩=(x,⟨t,false⟩):=by
 have e:((bj x:Nat):Int)=x:=by
  unfold bj
  omega
 rw [O9,Cs 8 (bj x) (by decide) (by have:=e;omega),IntKind.wrap_i64,e];simp only [Prod.mk.injEq,and_true]
 omega
theorem Wx(q:Int)(r:Bool)(h0:0≤q)(h1:q≤2):∃m:Nat,kr q r=(m:Int)∧m<256∧bits .and .i64 (m:Int) 3=q∧(bits .and .i64 (m:Int) 4 != 0)=r:=by
 have hq:q=0∨q=1∨q=2:=by omega
 rcases hq with rfl|rfl|rfl<;>cases r
 ·exact ⟨0,by decide,by decide,by decide,by decide⟩
 ·exact ⟨4,by decide,by decide,by decide,by decide⟩
 ·exact ⟨1,by decide,by decide,by decide,by decide⟩
 ·exact ⟨5,by decide,by decide,by decide,by decide⟩
 ·exact ⟨2,by decide,by decide,by decide,by decide⟩
 ·exact ⟨6,by decide,by decide,by decide,by decide⟩
structure C5(x:Nt):Prop where
 tt:dV x.aJ=true
 tl:x.aJ.length≤65535
 pl:x.az.length≤65535
 st:dV x.src=true
 sl:x.src.length≤65535
 q0:0≤x.al
 q1:x.al≤2
 e0:0≤x.aN
 e1:x.aN≤4611686018427387904
 n0:0≤x.number
 n1:x.number≤4611686018427387904
 o:∃k:Nat,x.origin=(k:Int)∧k<256
 h:∃k:Nat,x.aQ=(k:Int)∧k<256
 lay:(eP 3 x.props).2=0
 k:(lL x.props [1,3,8,9,38]).length=x.props.length
theorem afC(x:Nt)(h:C5 x):∃(m:Nat),bits .and .i64 (m:Int) 3=x.al∧(bits .and .i64 (m:Int) 4 != 0)=x.aE∧
 zJ ⟨eK x,false⟩=(x.aJ,⟨((cS x.az).1++([b8 (kr x.al x.aE)]++((b5 x.src).1++(aR (bj x.aN) 8++(aR (bj x.number) 8++([b8 x.origin]++([b8 x.aQ]++(eP 3 x.props).1))))))),false⟩)∧C2 ⟨((cS x.az).1++([b8 (kr x.al x.aE)]++((b5 x.src).1++(aR (bj x.aN) 8++(aR (bj x.number) 8++([b8 x.origin]++([b8 x.aQ]++(eP 3 x.props).1))))))),false⟩=(x.az,⟨([b8 (kr x.al x.aE)]++((b5 x.src).1++(aR (bj x.aN) 8++(aR (bj x.number) 8++([b8 x.origin]++([b8 x.aQ]++(eP 3 x.props).1)))))),false⟩)∧ny 1 ⟨([b8 (kr x.al x.aE)]++((b5 x.src).1++(aR (bj x.aN) 8++(aR (bj x.number) 8++([b8 x.origin]++([b8 x.aQ]++(eP 3 x.props).1)))))),false⟩=((m:Int),⟨((b5 x.src).1++(aR (bj x.aN) 8++(aR (bj x.number) 8++([b8 x.origin]++([b8 x.aQ]++(eP 3 x.props).1))))),false⟩)∧zJ ⟨((b5 x.src).1++(aR (bj x.aN) 8++(aR (bj x.number) 8++([b8 x.origin]++([b8 x.aQ]++(eP 3 x.props).1))))),false⟩=(x.src,⟨(aR (bj x.aN) 8++(aR (bj x.number) 8++([b8 x.origin]++([b8 x.aQ]++(eP 3 x.props).1)))),false⟩)∧
 ny 8 ⟨(aR (bj x.aN) 8++(aR (bj x.number) 8++([b8 x.origin]++([b8 x.aQ]++(eP 3 x.props).1)))),false⟩=(x.aN,⟨(aR (bj x.number) 8++([b8 x.origin]++([b8 x.aQ]++(eP 3 x.props).1))),false⟩)∧ny 8 ⟨(aR (bj x.number) 8++([b8 x.origin]++([b8 x.aQ]++(eP 3 x.props).1))),false⟩=(x.number,⟨([b8 x.origin]++([b8 x.aQ]++(eP 3 x.props).1)),false⟩)∧ny 1 ⟨([b8 x.origin]++([b8 x.aQ]++(eP 3 x.props).1)),false⟩=(x.origin,⟨([b8 x.aQ]++(eP 3 x.props).1),false⟩)∧ny 1 ⟨([b8 x.aQ]++(eP 3 x.props).1),false⟩=(x.aQ,⟨(eP 3 x.props).1,false⟩)∧
 nk 3 (eP 3 x.props).1=(x.props,((eP 3 x.props).1.length:Int),0):=by
 obtain ⟨m,hm,gJ,lM,vd⟩:=Wx x.al x.aE h.q0 h.q1;obtain ⟨o,ho,gO⟩:=h.o;obtain ⟨k,hk,fA⟩:=h.h;refine ⟨m,lM,vd,?_,Wv _ _ h.pl,?_,O8 _ _ h.sl h.st,Ww _ h.e0 h.e1 _,Ww _ h.n0 h.n1 _,?_,?_,?_⟩
 ·have e:eK x=(b5 x.aJ).1++((cS x.az).1++([b8 (kr x.al x.aE)]++((b5 x.src).1++(aR (bj x.aN) 8++(aR (bj x.number) 8++([b8 x.origin]++([b8 x.aQ]++(eP 3 x.props).1))))))):=by
   unfold eK;simp only [List.append_assoc]
   rfl
  rw [e];exact O8 _ _ h.tl h.tt
 ·rw [hm];exact GW m gJ _
 ·rw [ho];exact GW o gO _
 ·rw [hk];exact GW k fA _
 ·obtain ⟨n,_,_,_,hr⟩:=U3 (wh:=3) (l:=x.props) (x:=(eP 3 x.props).1) (by rw [←h.lay]);exact hr
variable{N:Nat}{v:Value}
theorem O_{x:World}{t':Nat}{afD:Nat×Nat}{u b c e g i j:Value}(q':x.heap[N]? =some (.cells #[u,v] t' afD))(q:x.heap[T]? =some (.cells #[a,b,c,d,e,f,g,h,i,j] t fr)):x.cell? ⟨N,1,none⟩=some v∧x.cell? ⟨T,0,none⟩=some a∧x.cell? ⟨T,1,none⟩=some b∧x.cell? ⟨T,2,none⟩=some c∧x.cell? ⟨T,3,none⟩=some d∧x.cell? ⟨T,4,none⟩=some e∧x.cell? ⟨T,5,none⟩=some f∧x.cell? ⟨T,6,none⟩=some g∧x.cell? ⟨T,7,none⟩=some h∧x.cell? ⟨T,8,none⟩=some i∧x.cell? ⟨T,9,none⟩=some j:=
 ⟨af x N 1 _ _ _ q',af x T 0 _ _ _ q,af x T 1 _ _ _ q,af x T 2 _ _ _ q,af x T 3 _ _ _ q,af x T 4 _ _ _ q,af x T 5 _ _ _ q,af x T 6 _ _ _ q,af x T 7 _ _ _ q,af x T 8 _ _ _ q,af x T 9 _ _ _ q⟩
theorem afE(x:Nt)(hx:C5 x)(hb:AJ x)(v:Value)(w:World)(hv:Bs w v (eK x))(eV:(eK x).length≤100000000)(oM:(x.props.flatMap bV).length≤90000000)(hT:di w)(R:Ending→World→Prop)
 (hR:∀da dc pa pc w',w'.ownsRow w 5 1 (.slice da x.az.length dc) x.az.length (bv x.az)→cZ w' w.heap.size (.slice pa x.props.length pc) x.props→Below w w w'→R (.returned (.tuple #[(Value.agg (nR x da dc pa pc)),.int .i64 0])) w'):
 Calls prog 147 #[v] w R:=by
 have HR:=ab hR;have HV:=ab hv;have HX:=ab hx;obtain ⟨va,vc,rfl,_⟩:=id hv;have b1:Below w w (w.alloc (Obj.cells fW 34)):=(Below.refl _ _).alloc (Nat.le_refl _) _;have b2:Below w w ((w.alloc (Obj.cells fW 34)).alloc (Obj.cells #[.slice va (eK x).length vc,.bool false] 189)):=b1.alloc b1.size _;have fO:CR w 189 (w.alloc (Obj.cells fW 34)).heap.size ⟨eK x,false⟩ ((w.alloc (Obj.cells fW 34)).alloc (Obj.cells #[.slice va (eK x).length vc,.bool false] 189)):=⟨⟨va,vc,heap_alloc_new _ _,hv⟩,b2,b1.size,by have:=eV;simp only;omega⟩
 obtain ⟨m,fV,gJ,k1,k2,k3,k4,k5,k6,k7,k8,k9⟩:=afC x hx;have py:((eP 3 x.props).1).length≤100000000:=by
  have:=eV;unfold eK at this;simp only [List.length_append] at this
  omega
 have hz:(w.alloc (Obj.cells fW 34)).heap.size=w.heap.size+1:=(CV w _).symm;rw [hz] at fO;have yv:=ab fO;have aY:=ab b2;have HT:=ab hT;have hA2:=aA (heap_alloc_new w (Obj.cells fW 34)) ((Below.refl (w.alloc (Obj.cells fW 34)).heap.size (w.alloc (Obj.cells fW 34))).alloc (Nat.le_refl _) (Obj.cells #[.slice va (eK x).length vc,.bool false] 189));clear hR hv hx fO b1 b2 hz hT;go_enter func147,ntmps147;go_upto_region 2 with fail
 generalize (w.alloc (Obj.cells fW 34)).alloc (Obj.cells #[.slice va (eK x).length vc,.bool false] 189)=w2 at yv aY hA2⊢;have pB:=ab hA2;clear hA2;go_upto_region 3 with (first
  |(go_at_call 166;go_must (refine afq _ _ _ _ _ _ _ _ _ _ _ _ _ _ _ _ _ _ _ k1 k2 k3 k4 k5 k6 k7 k8 _ _ _ k9 py w _ yv.o_ HT.o_ _ ?_);intro da dc pa pc w3 bD yx j5 cB;have eH:=ab bD;have u_:=ab yx;have tN:=ab j5;have rO:=ab cB;clear bD yx j5 cB))
 have j5:CR w 189 (w.heap.size+1) ⟨(eP 3 x.props).1,false⟩ w3:=by
  have:=tN.o_
  simpa using this
 have gZ:=heap_alloc_new w3 (Obj.cells (nR x da dc pa pc) 34);have ak:=(Below.refl w3 w3).alloc (Nat.le_refl _) (Obj.cells (nR x da dc pa pc) 34);generalize w3.alloc (Obj.cells (nR x da dc pa pc) 34)=w4 at gZ ak⊢;have iq:=j5.below ak;have Wy:=(cp eH.o_).below ak;have Wz:=(u_.o_.ps hb.e).below ak;obtain ⟨T,dN⟩:=ai w3.heap.size;rw [dN] at gZ⊢;obtain ⟨la,lc,O',_⟩:=iq.row;have cM:Wq x:=⟨by have:=HX.o_.q1;omega,HX.o_.e0,HX.o_.e1,HX.o_.n0,HX.o_.n1,HX.o_.k⟩
 have kt:di w4:=(HT.o_.below j5.low).below ak;have WA:Bs w4 (.slice va (eK x).length vc) (eK x):=(HV.o_.below j5.low).below ak;obtain ⟨u0,u1,u2,u3,u4,u5,u6,u7,u8,u9,u10⟩:=O_ O' gZ;have yy:=ab (aA (dQ rO.o_ pB.o_ (Nat.ne_of_lt (Nat.lt_succ_self _))) ak);have EV:=ab gZ;have C6:=ab O';have zN:=ab Wy;have WB:=ab Wz;have afF:=ab kt;have Pa:=ab WA;have b6:=ab ak;have Pb:=ab j5;clear gZ Wy Wz O' iq dN kt WA ak j5 k1 k2 k3 k4 k5 k6 k7 k8 k9 fV gJ;go_wp2_with (first
  |(go_at_call 167;go_must (refine afB x cM _ _ _ zN.o_ WB.o_ (by have:=hb.l;omega) _ ?_);intro w6 bg;obtain ⟨t0,t1,t2,t3,t4,t5,t6,t7,t8,t9,t10⟩:=O_ (aA C6.o_ bg) (aA EV.o_ bg);have nB:=ab (aA EV.o_ bg);have KI:=ab bg;clear bg u0 u1 u2 u3 u4 u5 u6 u7 u8 u9 u10)
  |(go_at_call 119;go_must (refine VE x _ _ _ (zN.o_.below KI.o_) (WB.o_.below KI.o_) hb oM (afF.o_.below KI.o_) (eK x) rfl (by omega) _ ?_);intro ya yc w7 e_ aZ;have qg:=ab (aA nB.o_ aZ);have C7:=ab (dw KI.o_ aZ);have afG:=ab (cp e_);clear aZ e_ t0 t1 t2 t3 t4 t5 t6 t7 t8 t9 t10)
  |(go_at_call 53;go_must (refine KH _ _ (eK x) (eK x) _ afG.o_ (Pa.o_.below C7.o_) _ ?_);rw [beq_self_eq_true];have tO:=ab (aA yy.o_ C7.o_);obtain ⟨u0,u1,u2,u3,u4,u5,u6,u7,u8,u9,u10⟩:=O_ (aA C6.o_ C7.o_) qg.o_)
  |(refine wpList_store_row (o:=⟨none,.store 34 (.tmp 2) (.tmp 30),_,_,_,_⟩) (by rfl) 34 (.tmp 2) (.tmp 30) (by rfl) w.heap.size _ (by rfl) (by rfl) 34 _ tO.o_ (by kernel_rfl) (by rfl) (by simp [Value.oneCell']) ?_))
 have bm:w.heap.size<w2.heap.size+1:=Nat.lt_succ_of_le aY.o_.size;have jn:=aD (aD Pb.o_.low b6.o_ Pb.o_.low.size) C7.o_ (Nat.le_trans Pb.o_.low.size b6.o_.size);have aV:=bN (gF:=w.heap.size) (cY (aK (aK eH.o_ b6.o_) C7.o_) (zM w7 w.heap.size (nR x da dc pa pc)) (ik (aK (aK eH.o_ b6.o_) C7.o_) bm)) (Nat.le_of_lt bm);have aT:=(((u_.o_.below b6.o_).below C7.o_).qI (zM w7 w.heap.size (nR x da dc pa pc)) bm).mono (B':=w.heap.size) (Nat.le_of_lt bm);have HF:=ab (HR.o_ da dc pa pc _ aV aT (below_setRow jn (Nat.le_refl _) (nR x da dc pa pc)));clear aV aT jn bm;refine bodyPost_ret (TW rfl _ _ w 34 (nR x da dc pa pc) (0,0) _ (.int .i64 0) rfl rfl (setRow_heap w7 w.heap.size _ _ _ _ tO.o_) underlying34 rfl (by kernel_rfl)) rfl ?_;exact HF.o_
open Nat (lt_irrefl)
def gN(t:List UInt8):Nt:=⟨t,[],0,false,[],0,[],0,0,0⟩
def gI(t:List UInt8):Im:=⟨gN t,2,false,[],[]⟩
theorem WC(x:Im):j4 x=gI x.note.aJ:=rfl
structure GT(t:List UInt8):Prop where
 tt:dV t=true
 tl:t.length≤100
theorem KJ:dV []=true:=UZ
theorem WD:eP 3 ([]:List Pr)=([0],0):=by decide
theorem GT.nt{t:List UInt8}(h:GT t):C5 (gN t) where
 tt:=h.tt
 tl:=Nat.le_trans h.tl (by decide)
 pl:=by simp [gN]
 st:=KJ
 sl:=by simp [gN]
 q0:=by simp [gN]
 q1:=by simp [gN]
 e0:=by simp [gN]
 e1:=by simp [gN]
 n0:=by simp [gN]
 n1:=by simp [gN]
 o:=⟨0,rfl,by decide⟩
 h:=⟨0,rfl,by decide⟩
 lay:=by show (eP 3 ([]:List Pr)).2=0;rw [WD]
 k:=rfl
theorem GT.nb{t:List UInt8}(h:GT t):AJ (gN t):=⟨Nat.le_trans h.tl (by decide),by simp [gN],by simp [gN],by simp [gN],by simp [gN],by simp [gN]⟩
theorem wP{l:List UInt8}(h:l.length≤65535):(b5 l).1.length≤l.length+2:=by
 unfold b5
 split
 ·unfold cS;rw [if_neg (by omega)];simp [eU]
  omega
 ·simp
theorem zO{l:List UInt8}(h:l.length≤65535):(cS l).1.length=l.length+2:=by
 unfold cS;rw [if_neg (by omega)];simp [eU]
 omega
theorem GT.nl{t:List UInt8}(h:GT t):(eK (gN t)).length≤200:=by
 have h1:=wP (l:=t) (Nat.le_trans h.tl (by decide));have h2:=zO (l:= []) (by decide);have h3:=wP (l:= []) (by decide);have h4:=h.tl;unfold eK gN;simp only [WD,List.length_append,eU,List.length_cons,List.length_nil] at h2 h3⊢
 omega
theorem GT.il{t:List UInt8}(h:GT t):(jf (gI t)).length≤300:=by
 have h1:=h.nl;have h2:=zO (l:=eK (gN t)) (by omega);have h3:=wP (l:= []) (by decide);unfold jf gI;simp only [List.length_append,List.length_cons,List.length_nil,List.flatMap_nil] at h3⊢
 omega
def Z0(a:Option Addr)(c:Nat):Prop:=c≤9223372036854775807∧(a=none→c=0)
theorem Z0.bs{a:Option Addr}{c:Nat}(h:Z0 a c)(w:World):Bs w (.slice a 0 c) []:=⟨a,c,rfl,Rd.nil _ _ _,Nat.zero_le _,h.1,h.2⟩
theorem Z0.is{a:Option Addr}{c:Nat}(h:Z0 a c)(w:World):Is w (.slice a 0 c) []:=⟨a,c,rfl,Rd.nil _ _ _,Nat.zero_le _,h.1,h.2⟩
theorem Z0.ps{a:Option Addr}{c:Nat}(h:Z0 a c)(w:World):Ps w (.slice a 0 c) []:=⟨a,c,rfl,Nat.zero_le _,h.1,h.2,fun h=>absurd h (lt_irrefl _)⟩
theorem Z0.nil:Z0 none 0:=⟨by decide,fun _=>rfl⟩
theorem afH{a:Option Addr}{c:Nat}(h:Bs w (.slice a 0 c) []):Z0 a c:=⟨h.parts.2.2.2.1,h.parts.2.2.2.2⟩
theorem afI{a:Option Addr}{c:Nat}(h:Ps w (.slice a 0 c) []):Z0 a c:=by
 obtain ⟨a',c',e,_,h1,h2,_⟩:=h;simp only [Value.slice.injEq] at e;obtain ⟨rfl,-,rfl⟩:=e;exact ⟨h1,h2⟩
structure afJ(w0:World)(t N n:Nat)(sb a r:List UInt8)(ad:Option Addr)(c:Nat)(Lx:Option Addr)(w:World):Prop where
 cr:CR w0 t N ⟨r,false⟩ (w.setCell ⟨N,0,none⟩ (.slice Lx (sb.length - n) (c - n)))
 bw:Bs w0 (.slice ad n c) a
theorem Pc(t N n:Nat)(sb a r:List UInt8)(lN:a++r=sb)(ha:a.length=n)(w0 w:World)(ad:Option Addr)(c:Nat)(aq:w.heap[N]? =some (.cells #[.slice ad sb.length c,.bool false] t (0,0)))(bX:Bs w0 (.slice ad sb.length c) sb)(qd:Below w0 w0 w)(lf:w0.heap.size≤N)(aX:sb.length≤140737488355328):
 ∃Lx,(∀w,(Instr.slice 22 (.slice ad sb.length c) (some (.int .i64 (n:Int))) none none).run prog w= .ok (.slice Lx (sb.length - n) (c - n)) w)∧afJ w0 t N n sb a r ad c Lx w:=by
 have hp:=bX.parts;have hn:n≤sb.length:=by rw [←lN,List.length_append];omega
 obtain ⟨Lx,df,rC,GN⟩:=V4 (P:=prog) (j:=n) underlying22 Tryz.cJ hn hp.2.2.1 hp.2.2.2.2;have GX:sb.drop n=r:=by rw [←lN,←ha,List.drop_left]
 have rP:sb.take n=a:=by rw [←lN,←ha,List.take_left]
 have bG:Rd w0 1 Lx (sb.length - n) (bv r):=by
  have:=GN w0 _ hp.2.1;rw [Nat.mul_one] at this;have e:(bv sb).drop n=bv (sb.drop n):=by unfold bv;rw [List.map_drop]
  rwa [e,GX] at this
 obtain ⟨jT,Ky⟩:=V2 (c:=c - n) bG (by have:=hp.2.2.1;omega) (by have:=hp.2.2.2.1;omega) rC;have jn:Bs w0 (.slice ad n c) (sb.take n):=Bs.cut bX (by omega);rw [rP] at jn;refine ⟨Lx,df,⟨⟨Lx,c - n,?_,?_⟩,qd.setCell lf _,lf,by simp only;omega⟩,jn⟩
 ·rw [heap_setCell_same w N 0 _ _ _ aq,jT]
  rfl
 ·simp only;rw [←jT];exact Ky
theorem ve(N n:Nat)(a r:List UInt8)(ha:a.length=n)(x:Int)(hx:IntKind.i64.wrap (cz a)=x)(w0 w:World)(h:CR w0 106 N ⟨a++r,false⟩ w)(R:Ending→World→Prop)
 (hR:∀w',CR w0 106 N ⟨r,false⟩ w'→w.grownBy w' (some N)→R (.returned (.int .i64 x)) w'):
 Calls prog 45 #[.pointer (some ⟨N,0,none⟩),.int .i64 n] w R:=by
 have HR:=ab hR;obtain ⟨⟨ad,c,aq,bX⟩,qd,lf,aX⟩:=h;simp only at aq bX aX;obtain ⟨sb,lN⟩:=ai (a++r);rw [lN] at aq bX aX;obtain ⟨Lx,df,hcut⟩:=Pc 106 N n sb a r lN ha w0 w ad c aq bX qd lf aX;have Kw:¬(sb.length:Int)<(n:Int):=by have:=congrArg List.length lN;rw [List.length_append] at this;omega
 have OX:(n:Int)≤(c:Int):=by have:=bX.parts.2.2.1;omega
 have c0:=af w N 0 _ _ _ aq;have c1:w.cell? ⟨N,1,none⟩=some (.bool false):=af w N 1 _ _ _ aq;have f0:=aB aq 0;obtain ⟨g,hg⟩:=ai (cz a);rw [hg] at hx;have HX:=ab hx;have HG:=ab hg;have GY:=ab hcut;have l_:=ab (hcut.bw.below qd);clear hR hx hg hcut aq bX qd lN ha;go_enter func45,ntmps45;go_wp2_with (first
  |(go_at_call 109;go_must (refine get_at _ a g HG.o_ _ l_.o_ _ ?_)))
 have e:wrap64 (g:Int)=x:=by rw [←HX.o_,IntKind.wrap_i64];unfold wrap64;omega
 show R (.returned (.int .i64 (wrap64 (g:Int)))) (w.setCell ⟨N,0,none⟩ (.slice Lx (sb.length - n) (c - n)));rw [e];exact HR.o_ _ GY.o_.cr (bL w ⟨N,0,none⟩ _)
theorem WE(N:Nat)(l r:List UInt8)(hl:l.length≤65535)(ht:dV l=true)(w0 w:World)(h:CR w0 106 N ⟨(b5 l).1++r,false⟩ w)(hT:di w0)(R:Ending→World→Prop)
 (hR:∀w',CR w0 106 N ⟨r,false⟩ w'→w.grownBy w' (some N)→R (.returned (.string (str l))) w'):
 Calls prog 44 #[.pointer (some ⟨N,0,none⟩)] w R:=by
 have HR:=ab hR;obtain ⟨⟨ad,c,aq,bX⟩,qd,lf,aX⟩:=h;simp only at aq bX aX;have hG:=Ga l r hl ht;have hE:(b5 l).1=aR l.length 2++l:=by rw [wE l hl ht]
 rw [←hE] at hG;have wv:(b5 l).1.length=l.length+2:=by rw [hE,List.length_append,eU];omega
 clear hE;obtain ⟨a,GZ⟩:=ai ((b5 l).1);rw [GZ] at hG wv aq bX aX;obtain ⟨sb,lN⟩:=ai (a++r);rw [lN] at hG aq bX aX;obtain ⟨n,hn⟩:=ai (l.length+2);have rQ:(l.length:Int)+2=(n:Int):=by omega
 rw [rQ] at hG;rw [hn] at wv;have fO:CR w0 106 N ⟨sb,false⟩ w:=⟨⟨ad,c,aq,bX⟩,qd,lf,aX⟩
 have OX:(n:Int)≤(c:Int):=by have:=bX.parts.2.2.1;have:=congrArg List.length lN;rw [List.length_append] at this;omega
 have Kw:(n:Int)≤(sb.length:Int):=by have:=congrArg List.length lN;rw [List.length_append] at this;omega
 have c0:=af w N 0 _ _ _ aq;have HG:=ab hG;have eZ:=ab (bX.below qd);have bu:=ab bX;have EP:=ab (hT.below qd);have HC:=ab fO;have vg:=ab lN;have Pd:=ab wv;have aU:=ab aq;clear hR hG fO bX qd hT lN GZ hn rQ ht hl wv aq;go_enter func44,ntmps44;go_wp2_with (first
  |(go_at_call 108;go_must (refine Co _ sb l n 0 HG.o_ _ eZ.o_ EP.o_ _ ?_);intro w2 ah;have bW:=aA aU.o_ ah;have WG:=af w2 N 0 _ _ _ bW;have c1:w2.cell? ⟨N,1,none⟩=some (.bool false):=af w2 N 1 _ _ _ bW;have f1:=aB bW 1;have f0:=aB bW 0;have ek:=ab (HC.o_.below ah);have wQ:=ab bW;have aY:=ab ah;obtain ⟨Lx,df,hcut⟩:=Pc 106 N n sb a r vg.o_ Pd.o_ w0 (w2.setCell ⟨N,1,none⟩ (.bool false)) ad c (by rw [heap_setCell_same w2 N 1 _ _ _ wQ.o_];rfl) bu.o_ (ek.o_.low.setCell HC.o_.nn _) HC.o_.nn HC.o_.len;have GY:=ab hcut;clear hcut ah bW c0))
 exact HR.o_ _ GY.o_.cr (bO (iT aY.o_) (bO (bL w2 ⟨N,1,none⟩ (.bool false)) (bL _ ⟨N,0,none⟩ _)))
open List (getElem_set_ne mem_or_eq_of_mem_set)
open Nat (mod_lt)
variable{B g k:Nat}{v1 v2 v3:Value}{iF:World}
theorem afK(ad:Option Addr)(n c:Nat)(xs:List Value)(w:World)(hr:Rd w 16 ad n xs)(sM:∀u∈xs,u.oneCell'=true)(h1:n≤c)(h3:ad=none→c=0)(hn:n≤1000000)(R:Ending→World→Prop)
 (hR:∀bq c' w',w'.ownsRow w 51 16 (.slice bq n c') n xs→Below w w w'→R (.returned (.slice bq n c')) w'):
 Calls prog 62 #[.slice ad n c] w R:=by
 have HR:=ab hR;clear hR;cases ad with
 |none=>
  have hc:c=0:=h3 rfl;subst hc;obtain rfl:n=0:=by omega
  have hx:xs= []:=List.eq_nil_of_length_eq_zero (by have:=hr.1;omega);subst hx;have he:∀w:World,(binOp .eql 48 (.slice none 0 0) (.slice none 0 0)).run prog w= .ok (.bool true) w:=fun _=>rfl;go_enter func62,ntmps62;go_wp2;exact HR.o_ none 0 _ (World.ownsRow_nil _ _ _ _) (Below.refl _ _)
 |some a=>
  have he:∀w:World,(binOp .eql 48 (.slice (some a) n c) (.slice none 0 0)).run prog w= .ok (.bool false) w:=fun _=>rfl;have aV:=(World.ownsRow_made (base:=w.heap.size) (e:=51) (size:=16) w #[] 0 (Nat.le_refl _) (by unfold maxLen;omega) rfl)
  have gu:=FU hr (.cells #[] 51);have qK:=ab sM;go_enter func62,ntmps62;go_wp2_with (at_builtin;go_must (refine j9 (by rfl) (.tmp 5) (.tmp 6) 48 (by rfl) w 51 (Value.agg lT) 16 200 underlying48 x_ rfl (by decide) _ _ _ _ rfl aV _ _ _ _ rfl gu qK.o_ h3 (by unfold maxLen;omega) (by omega) (by simp) ?_));exact V0
theorem afL{c:Nat}{ps:List (V3×Fl)}(hk:k<ps.length)(h:w.ownsRow B 51 16 (.slice (some ⟨g,0,none⟩) ps.length c) ps.length (ps.flatMap bH))(vs:List Value)(p:V3×Fl)
 (h0:(bH p)[0]? =(bH ps[k])[0]?) (h1:(bH p)[1]? =(bH ps[k])[1]?) (h2:∀j,j<14→(bH p)[j+2]? =vs[j]?) (hv:vs.length=14):
 (w.setCells g (k*16+2) vs).ownsRow B 51 16 (.slice (some ⟨g,0,none⟩) ps.length c) ps.length ((ps.set k p).flatMap bH):=by
 have aX:(ps.set k p).length=ps.length:=by simp
 refine ⟨by rw [eS 16 bH iY,aX],?_⟩;rcases h.2 with ⟨hv,h0⟩|⟨g',cap,cur,dO,hB,hg,e1,e2,e3,e4⟩
 ·cases hv
 ·simp only [Value.slice.injEq,Option.some.injEq,Addr.mk.injEq] at dO;obtain ⟨⟨rfl,-,-⟩,-,rfl⟩:=dO;obtain ⟨jg,m1,m2,m3⟩:=nT g 51 vs (k*16+2) w cur hg;refine .inr ⟨g,c,jg,rfl,hB,m1,e1,e2,by rw [m2];exact e3,?_⟩;have dm:ps.length*16≤cur.size:=by
   exact VU
  have bJ:∀j,j<ps.length*16→cur[j]? =(ps.flatMap bH)[j]?:=fun j hj=>by
   rw [←e4,List.getElem?_take,if_pos hj];simp
  apply List.ext_getElem?;intro j;rw [List.getElem?_take];by_cases hj:j<ps.length*16
  ·rw [if_pos hj];have e0:jg.toList[j]? =jg[j]?:=by simp
   have hi:j / 16<ps.length:=by omega
   have hr:j % 16<16:=mod_lt _ (by omega);have kj:j / 16*16+j % 16=j:=by omega
   have hs:=jQ 16 bH iY (ps.set k p) (j / 16) (j % 16) (by simpa using hi) hr;have ho:=jQ 16 bH iY ps (j / 16) (j % 16) hi hr;rw [kj] at hs ho;have aff:k*16+2+14≤ps.length*16:=by omega
   rw [e0,m3,hs,hv];by_cases tD:j / 16=k
   ·have kJ:(ps.set k p)[j / 16]'(by simpa using hi)=p:=by simp [tD]
    rw [kJ];by_cases c1:k*16+2≤j
    ·rw [if_pos (by omega)];have:=h2 (j - (k*16+2)) (by omega);rw [←this]
     congr 1
     omega
    ·have iM:ps[j / 16]=ps[k]:=by congr
     rw [if_neg (by omega),bJ j hj,ho,iM];by_cases c2:j % 16=0
     ·rw [c2,h0]
     ·rw [show j % 16=1 by omega,h1]
   ·have kJ:(ps.set k p)[j / 16]'(by simpa using hi)=ps[j / 16]:=by
     rw [getElem_set_ne (by omega)]
    rw [kJ,if_neg (by omega),bJ j hj,ho]
  ·rw [if_neg hj,List.getElem?_eq_none (by rw [eS 16 bH iY,aX];omega)]
structure yz(w wr:World)(B k:Nat)(v:Value)(ps qs:List (V3×Fl)):Prop where
 len:qs.length=ps.length
 eqs:qs.map (·.2)=ps.map (·.2)
 row:wr.ownsRow B 51 16 v ps.length (qs.flatMap bH)
 new:∀(j:Nat)(h:j<qs.length),j<k→dJ wr B (qs[j]).1.1 (qs[j]).1.2.1 (qs[j]).1.2.2 (qs[j]).2.item
 old:∀(j:Nat)(h:j<qs.length),k≤j→gH w (qs[j]).1.1 (qs[j]).1.2.1 (qs[j]).1.2.2 (qs[j]).2.item
 reach:∀p∈qs,gb p.2.item
theorem yz.below{wr:World}{ps qs:List (V3×Fl)}(h:yz w wr B k v ps qs)(hb:Below wr wr iF):yz w iF B k v ps qs:=
 ⟨h.len,h.eqs,aK h.row hb,fun j hj hk=>(h.new j hj hk).below hb,h.old,h.reach⟩
theorem yz.step{wr:World}{c:Nat}{ps qs:List (V3×Fl)}(h:yz w wr B k (.slice (some ⟨g,0,none⟩) ps.length c) ps qs)(hk:k<qs.length){f:Fl}(hf:(qs[k]).2=f)(ho:dJ wr B v1 v2 v3 f.item):
 yz w (wr.setCells g (k*16+2) (pS f.item v1 v2 v3)) B (k+1) (.slice (some ⟨g,0,none⟩) ps.length c) ps (qs.set k ((v1,v2,v3),f)):=by
 have aq:=h.row;rw [←h.len] at aq;have kJ:=afL hk aq (pS f.item v1 v2 v3) ((v1,v2,v3),f) (by rw [←hf];rfl) (by rw [←hf];rfl) (fun j _=>rfl) rfl;rw [h.len] at kJ;obtain ⟨cur,hg⟩:∃cur:Array Value,wr.heap[g]? =some (.cells cur 51 (0,0)):=by
  rcases aq.2 with ⟨hv,h0⟩|⟨g',cap,cur,hv,hB,hg,_⟩
  ·cases hv
  ·simp only [Value.slice.injEq,Option.some.injEq,Addr.mk.injEq] at hv;obtain ⟨⟨rfl,-,-⟩,-,rfl⟩:=hv;exact ⟨cur,hg⟩
 have uZ:=pU g (pS f.item v1 v2 v3) (k*16+2) wr;refine ⟨by rw [List.length_set,h.len],?_,kJ,fun j hj mh=> ?_,fun j hj mh=> ?_,fun p hp=> ?_⟩
 ·rw [List.map_set,←h.eqs];apply List.ext_getElem?;intro j;rw [List.getElem?_set]
  split
  ·rename_i e
   subst e;simp [hk,hf]
  ·rfl
 ·by_cases e:j=k
  ·subst e;simp only [List.getElem_set_self];exact ho.typed hg (by decide) (by decide) (by decide) uZ
  ·have zb:j<qs.length:=by simpa using hj
   rw [getElem_set_ne (fun h=>e h.symm)];exact (h.new j zb (by omega)).typed hg (by decide) (by decide) (by decide) uZ
 ·have zb:j<qs.length:=by simpa using hj
  rw [getElem_set_ne (by omega)];exact h.old j zb (by omega)
 ·rcases mem_or_eq_of_mem_set hp with hp|rfl
  ·exact h.reach p hp
  ·show gb f.item;rw [←hf];exact h.reach _ (List.getElem_mem hk)
theorem WH(S:Nat)(s:aF)(hl:s.aj.length≤100000)(w:World)(M:Nat→Prop)(h:SR w M S s)(R:Ending→World→Prop)
 (hR:∀ad c (qs:List (V3×Fl)) w',qs.map (·.2)=s.aj→w'.ownsRow w 51 16 (.slice ad s.aj.length c) s.aj.length (qs.flatMap bH)→(∀(j:Nat)(h:j<qs.length),dJ w' w.heap.size (qs[j]).1.1 (qs[j]).1.2.1 (qs[j]).1.2.2 (qs[j]).2.item)→(∀p∈qs,gb p.2.item)→Below w w w'→R (.returned (.slice ad s.aj.length c)) w'):
 Calls prog 16 #[.pointer (some ⟨S,0,none⟩)] w R:=by
 obtain ⟨NB,MB,GB,GM,sv,qv,fv,hx⟩:=h;have HR:=ab hR;obtain ⟨ps,aT,aq,aS,_⟩:=id hx.hf;have aX:s.aj.length=ps.length:=by rw [←aT];simp
 rw [aX] at aq hl;obtain ⟨fa,fc,mD⟩:=bF aq;subst mD;have c7:=(dy hx.hS).2.2.2.1;have aU:=ab aq;have gK:=ab aS;have dn:=ab aT;have m8:=ab aX;obtain ⟨n,hn⟩:=ai ps.length;have HN:=ab hn;rw [hn] at c7 hl;clear hR hx aT aq aS aX hn;go_enter func16,ntmps16;go_wp2_with (go_at_call 62;go_must (refine afK fa n fc (ps.flatMap bH) w (by have:=qG aU.o_;rw [HN.o_] at this;exact this) (VO gK.o_) (by have:=(rp aU.o_).1;rw [HN.o_] at this;exact this) (B6 aU.o_) (Nat.le_trans hl (by decide)) _ ?_);intro fY c3 w3 bD an;have eH:=ab bD;have bU:=ab an;clear bD an);have wR:Hid (yz w w3 w.heap.size 0 (.slice fY n c3) ps ps):=⟨rfl,rfl,by rw [HN.o_];exact eH.o_,fun j hj h0=>by omega,fun j hj _=>(gK.o_ _ (List.getElem_mem hj)).1.o_,fun p hp=>(gK.o_ p hp).2⟩
 clear c7;go_loopg [4,12] n (fun gn _ i wr=>∃(k:Nat) (qs:List (V3×Fl)),k≤n∧gn=n - k∧i= .int .i64 k∧Hid (yz w wr w.heap.size k (.slice fY n c3) ps qs)∧Hid (Below w w wr))
 case atStart=>exact ⟨0,ps,Nat.zero_le _,by omega,rfl,wR,bU⟩
 case round=>
  obtain ⟨k,qs,hk,rfl,rfl,HF,HB⟩:=hrel;obtain ⟨wo,rfl⟩:∃x,x=wr:=⟨_,rfl⟩
  clear wR eH bU;by_cases ao:k<n
  ·have bd:(k:Int)<(n:Int):=by omega
   have aq:=HF.o_.row;rw [HN.o_] at aq;obtain ⟨g,hg⟩:=et aq (by omega);subst hg;have KK:qs.length=n:=HF.o_.len.trans HN.o_;have mF:k<qs.length:=by omega
   rw [←KK] at aq;have aW:=F6 aq mF;have hold:=HF.o_.old k mF (Nat.le_refl _);have lI:=HF.o_.reach _ (List.getElem_mem mF);obtain ⟨⟨⟨v1,v2,v3⟩,⟨cR,fst,x⟩⟩,hp⟩:∃p,qs[k]=p:=⟨_,rfl⟩
   rw [hp] at aW hold lI;have HC:Hid (∀j,j<14→wo.cell? ⟨g,k*16+2+j,none⟩= (pS x v1 v2 v3:List Value)[j]?):=fun j hj=>by
    have:=aW (j+2) (by omega);rw [show k*16+(j+2)=k*16+2+j by omega] at this;exact this
   have WI:=ab (show gH wo v1 v2 v3 x from gH.below hold HB.o_);have gR:=ab (show gb x from lI);have HP:Hid ((qs[k]).2=⟨cR,fst,x⟩):=by show _=_;rw [hp]
   have Pe:=ab KK;clear aq aW hold lI hp KK;go_wp2_with (first
    |(refine ie (o:=⟨some 21,.load 36 (.tmp 20),_,_,_,_⟩) (by rfl) 36 (.tmp 20) (by rfl) (g) (k*16+2) (by rfl) ((pS x v1 v2 v3)) _ (HC.o_) (underlying36) (by rfl) (by kernel_rfl) ?_)
    |(go_at_call 37;go_must (refine AL x v1 v2 v3 wo WI.o_ gR.o_ _ ?_;intro jN jO nC nD nE nF w7 e_ aZ;have G0:=ab (HF.o_.below aZ);have mx:=ab (e_.mono HB.o_.size);have gf:=ab (aD HB.o_ aZ HB.o_.size);clear e_ aZ))
    |(refine Et (o:=⟨none,.store 36 (.tmp 24) (.tmp 22),_,_,_,_⟩) (by rfl) 36 (.tmp 24) (.tmp 22) (by rfl) g (k*16+2) (aG x jN jO nC nD nE nF) (by rfl) (by rfl) ?_ ?_ (by kernel_rfl) (by simp [Value.oneCell']) ?_))
   ·intro j hj;have hj:j<14:=hj;have h7:=G0.o_.row;rw [HN.o_] at h7;have dI:=eS 16 bH iY qs;have:=Pe.o_;rw [Nat.add_assoc,h7.cellAt (k*16+(2+j)) (by omega),List.getElem?_eq_getElem (by rw [dI];omega)]
    rfl
   ·intro j hj;have h7:=G0.o_.row;rw [HN.o_] at h7;exact h7.frozenAt _
   have mI:Hid (yz w (w7.setCells g (k*16+2) (aG x jN jO nC nD nE nF)) w.heap.size (k+1) (.slice (some ⟨g,0,none⟩) n c3) ps (qs.set k ((.slice jN x.note.az.length jO,.slice nC x.note.props.length nD,.slice nE x.ids.length nF),⟨cR,fst,x⟩))):=by
    have:=yz.step (f:=⟨cR,fst,x⟩) (by have:=G0.o_;rw [←HN.o_] at this;exact this) mF HP.o_ mx.o_;rw [HN.o_] at this;exact this
   have fS:Hid (Below w w (w7.setCells g (k*16+2) (aG x jN jO nC nD nE nF))):=by
    refine FT gf.o_ (pU _ _ _ _) gf.o_.size (fun k hk=> ?_);cases hk;have h7:=G0.o_.row;exact (h7.lt g rfl).1
   clear G0 mx gf HC WI;go_wp2_with fail;go_roundg (n - (k+1))
   case measure=>omega
   case rel=>exact ⟨k+1,_,by omega,rfl,by go_num,mI,fS⟩
  ·have bd:¬(k:Int)<(n:Int):=by omega
   have iC:k=n:=by omega
   go_wp2;have:=HR.o_ fY c3 qs wo (HF.o_.eqs.trans dn.o_) (by rw [m8.o_,HN.o_];have:=HF.o_.row;rw [HN.o_] at this;exact this) (fun j hj=>HF.o_.new j hj (by have:=HF.o_.len;have:=HN.o_;omega)) HF.o_.reach HB.o_;rw [m8.o_,HN.o_] at this;exact this
theorem WJ{P:Prop}(h:P:=by
 go_roundg (n - (k+1))
 case measure=>omega
 case rel=>exact ⟨k+1,c9,eC,_,by omega,rfl,by go_num,rfl,EW,ki⟩):P:=h
theorem Pf{P:Prop}(h:P:=by
 have:=fz.o_;rw [Nat.add_assoc,aW (k*14+j) (by omega),jQ 14 cL my ps k j dM hj]):P:=h
variable{x:Im}{xs:List Value}{B' e n size:Nat}{pv qv v':Value}{w':World}
theorem dJ.app{ev:Value}(h:dJ w B pv qv ev x)(hr:w.ownsRow B' e size v n xs)(h1:e≠147)(h2:e≠5)(h3:e≠3)(hg:w.grownBy w' v.ownBlock):dJ w' B pv qv ev x:=by
 rcases hr.2 with ⟨rfl,_⟩|⟨g,cap,cur,rfl,_,hk,_⟩
 ·exact h.below (ry hg (Nat.le_refl _) (fun k hk=>by simp [Value.ownBlock] at hk))
 ·exact h.typed hk h1 h2 h3 hg
structure zP(wr:World)(B k:Nat)(v:Value)(l:List Im)(qs:List (V3×Im)):Prop where
 eqs:qs.map (·.2)=l.take k
 row:wr.ownsRow B 36 14 v k (qs.flatMap cL)
 new:∀p∈qs,dJ wr B p.1.1 p.1.2.1 p.1.2.2 p.2
 reach:∀p∈qs,gb p.2
theorem zP.below{wr:World}{l:List Im}{qs:List (V3×Im)}(h:zP wr B k v l qs)(hb:Below wr wr iF):zP iF B k v l qs:=
 ⟨h.eqs,aK h.row hb,fun p hp=>(h.new p hp).below hb,h.reach⟩
theorem zP.push{wr:World}{l:List Im}{qs:List (V3×Im)}(h:zP wr B k v l qs)(hk:k<l.length)(hx:l[k]=x)(ho:dJ wr B v1 v2 v3 x)(hb:gb x)
 (hr:iF.ownsRow B 36 14 v' (k+1) (qs.flatMap cL++cL ((v1,v2,v3),x))) (hg:wr.grownBy iF v.ownBlock):zP iF B (k+1) v' l (qs++ [((v1,v2,v3),x)]):=by
 refine ⟨?_,by rw [List.flatMap_append];simpa using hr,fun p hp=> ?_,fun p hp=> ?_⟩
 ·rw [List.map_append,h.eqs,List.take_succ_eq_append_getElem hk,hx]
  rfl
 ·rcases List.mem_append.1 hp with hp|hp
  ·exact (h.new p hp).app h.row (by decide) (by decide) (by decide) hg
  ·obtain rfl:=List.mem_singleton.1 hp;exact ho.app h.row (by decide) (by decide) (by decide) hg
 ·rcases List.mem_append.1 hp with hp|hp
  ·exact h.reach p hp
  ·obtain rfl:=List.mem_singleton.1 hp;exact hb
theorem afM(S:Nat)(s:aF)(hl:s.queue.length≤100000)(w:World)(M:Nat→Prop)(h:SR w M S s)(R:Ending→World→Prop)
 (hR:∀ad c (qs:List (V3×Im)) w',qs.map (·.2)=s.queue→w'.ownsRow w 36 14 (.slice ad s.queue.length c) s.queue.length (qs.flatMap cL)→(∀p∈qs,dJ w' w.heap.size p.1.1 p.1.2.1 p.1.2.2 p.2)→(∀p∈qs,gb p.2)→Below w w w'→R (.returned (.slice ad s.queue.length c)) w'):
 Calls prog 25 #[.pointer (some ⟨S,0,none⟩)] w R:=by
 obtain ⟨NB,MB,GB,GM,sv,qv,fv,hx⟩:=h;have HR:=ab hR;obtain ⟨ps,aT,aq,aS,_⟩:=id hx.hq;obtain ⟨va,vc,C8⟩:=aq.shape;subst C8;have c6:=(dy hx.hS).2.2.1;obtain ⟨n,hn⟩:=ai s.queue.length;rw [hn] at c6 hl aq;have eA:ps.length=n:=by rw [←hn,←aT];simp
 have aU:=ab aq;have gK:=ab aS;have dn:=ab aT;have HN:=ab hn;have fz:=ab eA;have wR:Hid (zP w w.heap.size 0 (.slice none 0 0) s.queue []):=⟨by simp,World.ownsRow_nil _ _ _ _,fun p hp=>by simp at hp,fun p hp=>by simp at hp⟩
 clear hR hx aT aq aS hn eA;go_enter func25,ntmps25;go_wp2;go_loopg [3,11] n (fun gn r i wr=>∃(k c:Nat)(ad:Option Addr) (qs:List (V3×Im)),k≤n∧gn=n - k∧i= .int .i64 k∧r= .slice ad k c∧Hid (zP wr w.heap.size k (.slice ad k c) s.queue qs)∧Hid (Below w w wr))
 case atStart=>exact ⟨0,0,none,[],Nat.zero_le _,by omega,rfl,rfl,wR,ab (Below.refl _ _)⟩
 case round=>
  obtain ⟨k,c,ad,qs,hk,rfl,rfl,rfl,HF,HB⟩:=hrel;obtain ⟨wo,rfl⟩:∃x,x=wr:=⟨_,rfl⟩
  clear wR;by_cases ao:k<n
  ·have bd:(k:Int)<(n:Int):=by omega
   obtain ⟨g,o,kK,aW,_⟩:=(aU.o_.below HB.o_).at (by omega);subst kK;have dM:k<ps.length:=by have:=fz.o_;omega
   have mF:k<s.queue.length:=by have:=HN.o_;omega
   have oq:s.queue[k]=(ps[k]).2:=by
    have h2:=congrArg (fun l=>l[k]?) dn.o_;exact GK
   have aS:=gK.o_ _ (List.getElem_mem dM);have bJ:∀j,j<14→wo.cell? ⟨g,o+k*14+j,none⟩=(cL ps[k])[j]?:=fun j hj=>by
    exact Pf
   obtain ⟨⟨⟨v1,v2,v3⟩,x⟩,hp⟩:∃p,ps[k]=p:=⟨_,rfl⟩
   rw [hp] at oq aS bJ;obtain ⟨⟨lj,lk,e1⟩,⟨ll,ln,e2⟩,lq,lr,e3⟩:=aS.1.o_.shape;simp only at e1 e2 e3;subst e1 e2 e3;have HC:Hid (∀j,j<14→wo.cell? ⟨g,o+k*14+j,none⟩= (aG x lj lk ll ln lq lr:List Value)[j]?):=bJ;have Pg:Hid (s.queue[k]=x):=oq;have gR:=ab aS.2;have jS:Below wo wo (wo.alloc (Obj.cells (aG x lj lk ll ln lq lr) 36)):=(Below.refl _ _).alloc (Nat.le_refl _) _;have tP:=ab (show gH (wo.alloc (Obj.cells (aG x lj lk ll ln lq lr) 36)) (.slice lj x.note.az.length lk) (.slice ll x.note.props.length ln) (.slice lq x.ids.length lr) x from (aS.1.o_.below HB.o_).below jS);have sR:=ab (HF.o_.below jS);have b6:=ab (aD HB.o_ jS HB.o_.size);have N1:=ab (heap_alloc_new wo (Obj.cells a_ 36));have N2:=ab (heap_alloc_new wo (Obj.cells (aG x lj lk ll ln lq lr) 36));clear aW oq aS bJ hp jS;go_wp2_with (first
    |(refine ie (o:=⟨some 14,.load 36 (.tmp 13),_,_,_,_⟩) (by rfl) 36 (.tmp 13) (by rfl) (g) (o+k*14) (by rfl) ((aG x lj lk ll ln lq lr)) _ (HC.o_) (underlying36) (by rfl) (by kernel_rfl) ?_)
    |(refine wpList_store_row (o:=⟨none,.store 36 (.tmp 5) (.tmp 14),_,_,_,_⟩) (by rfl) 36 (.tmp 5) (.tmp 14) (by rfl) wo.heap.size _ (by rfl) (by rfl) 36 _ N1.o_ (by kernel_rfl) (by rfl) (by simp [Value.oneCell']) ?_;rw [World.setRow_alloc_new])
    |(refine wpList_load_row (o:=⟨some 16,.load 36 (.tmp 5),_,_,_,_⟩) (by rfl) 36 (.tmp 5) (by rfl) (wo.heap.size) (by rfl) 36 _ (0,0) _ (N2).o_ (underlying36) (by rfl) (by kernel_rfl) ?_)
    |(go_at_call 37;go_must (refine AL x _ _ _ _ tP.o_ gR.o_ _ ?_;intro jN jO nC nD nE nF w7 e_ aZ;have mJ:Below w7 w7 (w7.alloc (Obj.cells (aG x jN jO nC nD nE nF) 36)):=(Below.refl _ _).alloc (Nat.le_refl _) _;have mI:=ab ((sR.o_.below aZ).below mJ);have kD:=ab ((e_.mono b6.o_.size).below mJ);have fS:=ab (aD (aD b6.o_ aZ b6.o_.size) mJ (Nat.le_trans b6.o_.size aZ.size));clear e_ aZ mJ))
    |(have hq:=mI;at_builtin;go_must (refine gj (by rfl) (.tmp 15) (.tmp 18) 52 (by rfl) w 36 (Value.agg a_) 14 184 underlying52 sC rfl (by decide) ad k c _ (by rfl) mI.o_.row (some ⟨w7,0,none⟩) 1 1 (aG x jN jO nC nD nE nF) (by rfl) (cO w7 (aG x jN jO nC nD nE nF) 36 14 1 rfl) (zp _ _ _ _ _ _ _) (fun h=>by cases h) (by unfold maxLen;omega) (by omega) fS.o_.size ?_;intro eC c9 w9 cI bo _;have EW:=ab (mI.o_.push (by have:=HN.o_;omega) Pg.o_ kD.o_ gR.o_ cI bo);have ki:=ab (bC fS.o_ bo fS.o_.size mI.o_.row);clear hq cI bo)))
   exact WJ
  ·have bd:¬(k:Int)<(n:Int):=by omega
   obtain rfl:k=n:=by omega
   go_wp2;have:=HR.o_ ad c qs wo (by rw [HF.o_.eqs,List.take_of_length_le (by have:=HN.o_;omega)]) (by rw [HN.o_];exact HF.o_.row) HF.o_.new HF.o_.reach HB.o_;rw [HN.o_] at this;exact this
def fw(l:List UInt8):aF:=⟨l,0,0,false,[],[],[],[],[]⟩
theorem WK(l:List UInt8)(w:World)(R:Ending→World→Prop)
 (hR:∀S M w',SR w' M S (fw l)→(∀b,M b→w.heap.size≤b)→Below w w w'→R (.returned (.pointer (some ⟨S,0,none⟩))) w'):
 Calls prog 6 #[.string (str l)] w R:=by
 have HR:=ab hR;clear hR;have G1:Hid True:=trivial;go_enter func6,ntmps6;go_wp2_with (first
  |(have hq:=G1;go_at_call 35;go_must (refine JR _ _ ?_;intro NB MB w3 fj jF lM an;have iD:=ab fj;have rR:=ab jF;have G2:=ab lM;have bU:=ab an;clear hq G1 fj jF lM an))
  |(go_at_call 35;go_must (refine JR _ _ ?_;intro GB GM w5 jh dz yA aC;have mE:=ab jh;have mK:=ab dz;have Ph:=ab yA;have eb:=ab aC;clear jh dz yA aC)))
 have hy:Below w5 w5 (w5.alloc (Obj.cells #[.pointer (some ⟨NB,0,none⟩),.string (str (fw l).dC),.int .i64 (fw l).cP,.int .i64 (fw l).ends,.bool (fw l).eB,(.slice none 0 0),(.slice none 0 0),(.slice none 0 0),.pointer (some ⟨GB,0,none⟩)] 94)):=(Below.refl _ _).alloc (Nat.le_refl _) _;have bm:=bU.o_.size;have FX:=eb.o_.size;have h3:=(iD.o_.below eb.o_).below hy;have h5:=mE.o_.below hy;have eJ:∀{x:World}{b t:Nat}{fr:Nat×Nat}{cs:Array Value},x.heap[b]? =some (.cells cs t fr)→b<x.heap.size:=fun h=>(Array.getElem?_eq_some_iff.1 h).1;have l1:=eJ iD.o_.1;have l2:=iD.o_.2.lt;have l3:=eJ mE.o_.1;have l4:=mE.o_.2.lt;have n5:=mK.o_;have m5:=Ph.o_;have n3:=rR.o_;have m3:=G2.o_;have e3:=iD.o_.ne;have e5:=mE.o_.ne;refine HR.o_ w5.heap.size (fun b=>b=w5.heap.size∨b=MB∨b=GM) _ ⟨NB,MB,GB,GM,_,_,_,⟨heap_alloc_new w5 (Obj.cells #[.pointer (some ⟨NB,0,none⟩),.string (str (fw l).dC),.int .i64 (fw l).cP,.int .i64 (fw l).ends,.bool (fw l).eB,(.slice none 0 0),(.slice none 0 0),(.slice none 0 0),.pointer (some ⟨GB,0,none⟩)] 94),h3,h5,World.ownsRow_nil _ _ _ _,⟨[],rfl,bf.nil _ _ _,fun p hp=>by simp at hp,fun k hk=>by simp [Value.ownBlock] at hk⟩,⟨[],rfl,World.ownsRow_nil _ _ _ _,fun p hp=>by simp at hp,fun k hk=>by simp [Value.ownBlock] at hk⟩,by omega,by omega,.inl rfl,.inr (.inl rfl),.inr (.inr rfl),fun k hk=>by simp [Value.ownBlock] at hk,?_,?_,?_⟩⟩ ?_ (aD (aD bU.o_ eb.o_ bm) hy (by omega))
 ·rintro (h|h|h)<;>omega
 ·rintro (h|h|h)<;>omega
 ·rintro b (h|h|h)<;>simp<;>omega
 ·rintro b (h|h|h)<;>omega
theorem WL(S:Nat)(s:aF)(w:World)(M:Nat→Prop)(h:SR w M S s)(R:Ending→World→Prop)
 (hR:R (.returned (.string (str s.dC))) w):
 Calls prog 36 #[.pointer (some ⟨S,0,none⟩)] w R:=by
 obtain ⟨NB,MB,GB,GM,sv,qv,fv,hx⟩:=h;have HR:=ab hR;have c1:=(dy hx.hS).1.2.1;clear hR hx;go_enter func36,ntmps36;go_wp2;exact HR.o_
theorem WM{o:Nat}{c:V3}{rest:List Value}(h:∀j,j<n*14→w.cell? ⟨g,o+j,none⟩=(cL (c,x)++rest)[j]?)(hn:0<n):w.cell? ⟨g,o+10,none⟩=some (.int .i64 x.al):=by
 rw [h 10 (by omega),List.getElem?_append_left (by rw [my];omega)]
 rfl
theorem KL(S:Nat)(s:aF)(bY:Int)(b:Bool)(hb:kV s bY=b)(w:World)(M:Nat→Prop)(h:SR w M S s)(qh:s.queue.length≤100000)(R:Ending→World→Prop)
 (hR:R (.returned (.bool b)) w):
 Calls prog 40 #[.pointer (some ⟨S,0,none⟩),.int .i64 bY] w R:=by
 obtain ⟨NB,MB,GB,GM,sv,qv,fv,hx⟩:=h;have HR:=ab hR;obtain ⟨ps,aT,aq,_,_⟩:=hx.hq;obtain ⟨fs,_,dI,_,_⟩:=hx.hf;obtain ⟨fa,fc,rfl⟩:=bF dI;obtain ⟨va,vc,rfl⟩:=aq.shape;have c6:=(dy hx.hS).2.2.1;have c7:=(dy hx.hS).2.2.2.1;obtain ⟨n,hn⟩:=ai s.queue.length;obtain ⟨m,hm⟩:=ai s.aj.length;rw [hn] at c6 aq;rw [hm] at c7;have HB:=ab hb;have HN:=ab hn;have HM:=ab hm;clear hR hx hb dI
 match hq:s.queue with
 |[]=>
  have dh:n=0:=by rw [←HN.o_,hq];rfl
  subst dh;obtain rfl:false=b:=by rw [←HB.o_];unfold kV;rw [hq]
  clear hq hn hm;go_enter func40,ntmps40;go_wp2;exact HR.o_
 |x::rest=>
  have dh:0<n:=by rw [←HN.o_,hq];simp
  have yg:(0:Int)<(n:Int):=by omega
  rw [hq] at aT;obtain ⟨p,pr,rfl⟩:∃p pr,ps=p::pr:=by
   cases ps with
   |nil=>simp at aT
   |cons p pr=>exact ⟨p,pr,rfl⟩
  obtain ⟨c,y⟩:=p;obtain rfl:y=x:=by simp at aT;exact aT.1
  obtain ⟨g,o,rfl,aW,_⟩:=aq.at dh;rw [List.flatMap_cons] at aW;have gw:=WM aW dh;have lG:(y.al==0 || (decide ((m:Int)<bY)&&decide (m<8)))=b:=by
   rw [←HB.o_,←HM.o_];unfold kV;rw [hq]
  have cK:=ab lG;clear aW aq aT hq lG hn hm;by_cases hz:y.al=0
  ·obtain rfl:true=b:=by rw [←cK.o_];simp [hz]
   have jr:(y.al==0)=true:=by simp [hz]
   rw [hz] at gw;clear hz jr;go_enter func40,ntmps40;go_wp2;exact HR.o_
  ·have jr:(y.al==0)=false:=by simp [hz]
   by_cases h1:(m:Int)<bY
   ·by_cases h2:m<8
    ·have Gb:(m:Int)<8:=by omega
     obtain rfl:true=b:=by rw [←cK.o_,jr];simp [h1,h2]
     clear cK;go_enter func40,ntmps40;go_wp2;exact HR.o_
    ·have Gb:¬(m:Int)<8:=by omega
     obtain rfl:false=b:=by rw [←cK.o_,jr];simp [h2]
     clear cK;go_enter func40,ntmps40;go_wp2;exact HR.o_
   ·obtain rfl:false=b:=by rw [←cK.o_,jr];simp [h1]
    clear cK;go_enter func40,ntmps40;go_wp2;exact HR.o_
theorem WN{P:Prop}(h:P:=by
 refine bodyPost_ret (FV rfl _ _ w 36 a_ (0,0) _ (.int .i64 0) (.bool false) rfl rfl rfl (setRow_heap _ w.heap.size _ _ _ _ HN.o_) underlying36 rfl (by kernel_rfl)) rfl ?_;exact HR.o_ _ (below_setRow bu.o_ (Nat.le_refl _) _)):P:=h
theorem KM{P:Prop}(h:P:=by
 rw [aW j (by omega),List.flatMap_cons,List.getElem?_append_left (by rw [my];exact hj)]
 rfl):P:=h
end Go.Proofs.YtgimbocoamnkjaaGreatDoor
