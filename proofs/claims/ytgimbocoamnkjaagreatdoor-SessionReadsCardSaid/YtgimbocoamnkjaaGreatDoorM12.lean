/- A part of the proof of SessionReads; no conditions. -/
import Derived.Test.YtgimbocoamnkjaaGreatDoorM10
import Derived.Test.YtgimbocoamnkjaaGreatDoorM08
import Derived.Test.YtgimbocoamnkjaaGreatDoorM03
import Derived.Sort.OwnSortedInts
import Derived.StillTailTactics
set_option maxRecDepth 100000
set_option maxHeartbeats 16000000
namespace Go.Proofs.YtgimbocoamnkjaaGreatDoor
open _root_.Go.Proofs.Tryz
open Int (toNat_natCast)
open List (drop_of_length_le)
variable{cs xs:List Value}{B N e j m n size t:Nat}{La Y:av}{v:Value}{w w' w0:World}
open Go.RowKit
structure Cu where
 b:List UInt8
 bad:Bool
deriving DecidableEq
def takeC(n:Nat)(s:Cu):List UInt8×Cu:=if (s.bad || decide (s.b.length<n))=true then ([],⟨s.b,true⟩) else (s.b.take n,⟨s.b.drop n,s.bad⟩)
def aN(n:Nat)(s:Cu):Int×Cu:=(IntKind.i64.wrap (cX (takeC n s).1),(takeC n s).2)
def mZ(s:Cu):List UInt8×Cu:=((dp s.b).1,(takeC (dp s.b).2.1.toNat ⟨s.b,s.bad || (dp s.b).2.2 != 0⟩).2)
def m6(s:Cu):List UInt8×Cu:=((eh s.b).1,(takeC (eh s.b).2.1.toNat ⟨s.b,s.bad || (eh s.b).2.2 != 0⟩).2)
structure CR(w0:World)(t N:Nat)(s:Cu)(w:World):Prop where
 row:∃Y c,w.heap[N]? =some (.cells #[.slice Y s.b.length c,.bool s.bad] t (0,0))∧Bs w0 (.slice Y s.b.length c) s.b
 low:Below w0 w0 w
 nn:w0.heap.size≤N
 len:s.b.length≤140737488355328
theorem CR.below{s:Cu}(h:CR w0 t N s w)(U:Below w w w'):CR w0 t N s w':=by
 obtain⟨Y,c,hr,W⟩:=h.row;exact⟨⟨Y,c,aA hr U,W⟩,cz h.low U h.low.size,h.nn,h.len⟩
theorem SN{c:Nat}{l:List UInt8}(h:Rd w 1 Y n (bv l))(J:n≤c)(hm:c≤9223372036854775807)(hn:Y=none→c=0):n=l.length∧Bs w (.slice Y n c) l:=by
 have e:=h.len;subst e;exact⟨rfl,Y,c,rfl,h,J,hm,hn⟩
theorem ajI(h:Rd w size Y n cs)(hm:m≤n):Rd w size (Y.map (·.add (m*size))) (n - m) (cs.drop (m*size)):=by
 exact YP
theorem SO{P:Program}{t e:TypeId}{c bytes:Nat}{z:Value}(ht:P.underlying t=some (.slice e))(mn:(P.info? e).map (fun i=>(i.zero,i.size,i.bytes))=some (some z,size,bytes))(hj:j≤n)(J:n≤c)(iN:La=none→c=0):
 ∃Lx,(∀w,(Instr.slice t (.slice La n c) (some (E (j:Int))) none none).run P w= .ok (.slice Lx (n - j) (c - j)) w)∧(Lx=none→c - j=0)∧∀w cs,Rd w size La n cs→Rd w size Lx (n - j) (cs.drop (j*size)):=by
 obtain⟨i,hi,hz,dJ,fV⟩:=info_parts mn;have he:P.elem t=e:=by simp[Program.elem,ht]
 refine⟨if c=j then La else La.map (·.add (j*size)),fun w=> ?_,fun h=> ?_,fun w cs h=> ?_⟩
 ·rw[run_slice_l (P:=P) w t La n c (by rw[he];exact ht) .i64 j (by omega) (by omega),he];simp[sizeOf,typeInfo,hi,dJ,sliced]
 ·by_cases vB:c=j
  ·omega
  ·rw[if_neg vB] at h;have:=iN (by simpa using h)
   omega
 by_cases vB:c=j
 ·have ajJ:n - j=0:=by omega
  have dQ:cs.drop (j*size)= []:=drop_of_length_le (by rw[h.1];exact uh _ (by omega));rw[ajJ,dQ];exact Rd.nil _ _ _
 rw[if_neg vB];exact ajI h hj
theorem ZI{P:Prop}(h:P:=by
 clear hT;have K1:=Z k1;clear k1;go_enter func168,ntmps168;go_wp2;exact HR.O none 0 _ k2 K1.O (br w ⟨N,1,none⟩ _)):P:=h
theorem Kn(t N n:Nat)(s:Cu)(T:List UInt8)(S:Cu)(hT:takeC n s=(T,S))(hn:n≤9223372036854775807)(w0 w:World)(h:CR w0 t N s w)(R:ak)
 (I:∀xa xc w',Bs w0 (.slice xa T.length xc) T→CR w0 t N S w'→w.grownBy w' (some N)→R (.returned (.slice xa T.length xc)) w'):
 Calls prog 168 #[zq N,E n] w R:=by
 obtain⟨sb,bad⟩:=s;obtain⟨⟨Y,c,aq,bU⟩,pO,kL,bk⟩:=h;simp only at aq bU bk;have HR:=Z I;have aV:=Z aq;have c0:=D 0 aq;have c1:w.cell? ⟨N,1,none⟩=some (.bool bad):=D 1 aq;have f1:=aC aq 1;have f0:=aC aq 0;have hp:=bU.parts;have eW:=Z bU;have HB:=Z pO;clear I aq bU pO;have ly:Hid (takeC n ⟨sb,bad⟩=([],⟨sb,true⟩)→CR w0 t N S (w.setCell ⟨N,1,none⟩ (.bool true))∧T= []∧Bs w0 (.slice none T.length 0) T):=by
  intro e;rw[e] at hT;cases hT;refine⟨⟨⟨Y,c,?_,eW.O⟩,HB.O.setCell kL _,kL,bk⟩,rfl,⟨none,0,rfl,⟨rfl,fun h=>absurd rfl h⟩,Nat.le_refl _,by omega,fun _=>rfl⟩⟩;rw[bm w N 1 _ _ _ aV.O]
  rfl
 cases bad with
 |true=>
  obtain⟨k1,rfl,k2⟩:=ly.O (by unfold takeC;simp);exact ZI
 |false=>
 by_cases hl:sb.length<n
 ·have BX:(n:Int) > (sb.length:Int):=by omega
  obtain⟨k1,rfl,k2⟩:=ly.O (by unfold takeC;simp[hl]);exact ZI
 have BX:¬(n:Int) > (sb.length:Int):=by omega
 have Ot:(n:Int)≤(c:Int):=by have:=hp.2.2.1;omega
 have e:takeC n ⟨sb,false⟩=(sb.take n,⟨sb.drop n,false⟩):=by unfold takeC;simp;omega
 rw[e] at hT;obtain⟨Lx,dm,so,Km⟩:=SO (P:=prog) (j:=n) underlying22 Tryz.cP (show n≤sb.length by omega) hp.2.2.1 hp.2.2.2.2;have bQ:Rd w0 1 Lx (sb.length - n) (bv (sb.drop n)):=by
  exact SM
 obtain⟨gK,Fs⟩:=SN (c:=c - n) bQ (by have:=hp.2.2.1;omega) (by have:=hp.2.2.2.1;omega) so;have jg:Bs w0 (.slice Y n c) (sb.take n):=Bs.cut eW.O (by omega);have iX:(sb.take n).length=n:=by rw[bS];omega
 cases hT;have m7:=Z jg;have fL:CR w0 t N ⟨sb.drop n,false⟩ (w.setCell ⟨N,0,none⟩ (.slice Lx (sb.length - n) (c - n))):=by
  refine⟨⟨Lx,c - n,?_,?_⟩,HB.O.setCell kL _,kL,by simp only[dw];omega⟩
  ·rw[bm w N 0 _ _ _ aV.O,gK]
   rfl
  simp only;rw[←gK];exact Fs
 have oW:=Z fL;have vI:=Z iX;clear hp Km bQ Fs jg gK fL e iX f1;go_enter func168,ntmps168;go_wp2;have hr:=HR.O Y c (w.setCell ⟨N,0,none⟩ (.slice Lx (sb.length - n) (c - n)));rw[vI.O] at hr;exact hr m7.O oW.O (br w ⟨N,0,none⟩ _)
theorem CR.lt{s:Cu}(h:CR w0 t N s w):N<w.heap.size:=by
 obtain⟨Y,c,hr,_⟩:=h.row;exact(eI.1 hr).1
theorem CR.mark{b:List UInt8}{x:Bool}(h:CR w0 t N ⟨b,x⟩ w)(y:Bool):CR w0 t N ⟨b,y⟩ (w.setCell ⟨N,1,none⟩ (.bool y)):=by
 obtain⟨Y,c,hr,W⟩:=h.row;refine⟨⟨Y,c,?_,W⟩,h.low.setCell h.nn _,h.nn,h.len⟩;rw[bm w N 1 _ _ _ hr]
 rfl
theorem m8(h:w.ownsRow B e size v n xs)(hN:N<B):∀k,v.ownBlock=some k→some k≠some N:=fun k G e=>by
 have:=(h.lt k G).1;cases e
 omega
theorem ZJ(l aw2:List UInt8)(u er:Int)(h:eh l=(aw2,u,er)):0≤u∧u≤65537:=by
 rcases EL l with⟨_,e⟩|⟨n,hn,k_,kZ,⟨_,e⟩|⟨h2,e⟩⟩<;>(rw[h] at e;simp only[Prod.mk.injEq] at e;omega)
theorem ajK(l aw2:List UInt8)(u er:Int)(h:dp l=(aw2,u,er)):0≤u∧u≤65537:=by
 obtain⟨D',u',ZK,hd⟩:∃aw2 u er,eh l=(aw2,u,er):=⟨_,_,_,rfl⟩
 have:=ZJ l D' u' ZK hd;unfold dp at h;rw[hd] at h;simp only at h
 split at h
 ·cases h;omega
 split at h<;>cases h<;>omega
theorem Ft(t N n:Nat)(s:Cu)(x:Int)(S:Cu)(F:aN n s=(x,S))(hn:n≤9223372036854775807)(w0 w:World)(h:CR w0 t N s w)(R:ak)
 (I:∀w',CR w0 t N S w'→w.grownBy w' (some N)→R (.returned (E x)) w'):
 Calls prog 150 #[zq N,E n] w R:=by
 have HR:=Z I;obtain⟨T,S',hT⟩:∃T S,takeC n s=(T,S):=⟨_,_,rfl⟩
 unfold aN at F;rw[hT] at F;simp only[Prod.mk.injEq] at F;obtain⟨F,rfl⟩:=F;obtain⟨g,A⟩:=ai (cX T);rw[A] at F;obtain⟨HX,HG,HT,HC⟩:=cF F A hT h;clear I hT F A h;go_enter func150,ntmps150;go_wp2_with (first
  |(go_at_call 168;go_must(refine Kn t N n s T S' HT.O hn w0 _ HC.O _ ?_);intro xa xc w2 aj bM bD;have bn:=Z (aj.below bM.low);have eT:=Z bM;have lG:=Z bD;clear aj bM bD)
  |(go_at_call 109;go_must(refine get_at _ T g HG.O _ bn.O _ ?_)))
 exact ZH
theorem SQ(t N:Nat)(s:Cu)(T:List UInt8)(S:Cu)(F:mZ s=(T,S))(w0 w:World)(h:CR w0 t N s w)(hT:dy w0)(R:ak)
 (I:∀w',CR w0 t N S w'→w.grownBy w' (some N)→R (.returned (.string (str T))) w'):
 Calls prog 151 #[zq N] w R:=by
 have HR:=Z I;obtain⟨sb,bad⟩:=s;obtain⟨aw2,u,er,hD⟩:∃aw2 u er,dp sb=(aw2,u,er):=⟨_,_,_,rfl⟩
 have hu:=ajK _ _ _ _ hD;obtain⟨n,rfl⟩:∃n:Nat,u=(n:Int):=⟨u.toNat,by omega⟩
 unfold mZ at F;simp only[hD,toNat_natCast] at F;obtain⟨awZ,S',G⟩:∃awZ S,takeC n ⟨sb,bad || er != 0⟩=(awZ,S):=⟨_,_,rfl⟩
 rw[G] at F;simp only[Prod.mk.injEq] at F;obtain⟨rfl,rfl⟩:=F;obtain⟨HD,HC,HT⟩:=bX hD h hT;have au:=h.lt;obtain⟨Y,c,aq,bU⟩:=h.row;simp only at aq bU;have c0:=D 0 aq;have eW:=Z (bU.below h.low);have hn:n≤9223372036854775807:=by omega
 have fx:=Z au;clear I hD h bU hu aq au hT;cases bad with
 |true=>
  rw[Bool.true_or] at G;have HK:=Z G;clear G;go_enter func151,ntmps151;go_wp2_with (first
   |(go_at_call 108;go_must(refine De _ sb aw2 n _ HD.O _ eW.O (HT.O.below HC.O.low) _ ?_);intro w2 aj;have bn:=Z aj;obtain⟨lF,c2,bE,_⟩:=(HC.O.below aj).row;have c1:=D 1 bE;have f1:=aC bE 1;clear aj bE c0)
   |(go_at_call 168;go_must(refine Kn t N n ⟨sb,true⟩ awZ S' HK.O hn w0 _ ((HC.O.below bn.O).mark true) _ ?_);intro xa xc w4 _ fy cV;have jz:=Z fy;have Ou:=Z cV;have oD:=Z (cg (ju bn.O) (cg (br w2 ⟨N,1,none⟩ (.bool true)) cV));clear fy cV))
  exact HR.O _ jz.O oD.O
 |false=>
  rw[Bool.false_or] at G;have HK:=Z G;clear G;go_enter func151,ntmps151;go_wp2_with (first
   |(go_at_call 108;go_must(refine De _ sb aw2 n _ HD.O _ eW.O (HT.O.below HC.O.low) _ ?_);intro w2 aj;have bn:=Z aj;obtain⟨lF,c2,bE,_⟩:=(HC.O.below aj).row;have c1:=D 1 bE;have f1:=aC bE 1;clear aj bE c0)
   |(go_at_call 168;go_must(refine Kn t N n ⟨sb,er != 0⟩ awZ S' HK.O hn w0 _ ((HC.O.below bn.O).mark (er != 0)) _ ?_);intro xa xc w4 _ fy cV;have jz:=Z fy;have Ou:=Z cV;have oD:=Z (cg (ju bn.O) (cg (br w2 ⟨N,1,none⟩ (.bool (er != 0))) cV));clear fy cV))
  exact HR.O _ jz.O oD.O
theorem ZL{P:Prop}(h:P:=by
 exact HR.O da dc _ (j1 (j1 jH.O (br w2 ⟨N,1,none⟩ _) (m8 jH.O fx.O)) Ou.O (m8 jH.O fx.O)) jz.O oD.O):P:=h
theorem ZM(t N:Nat)(s:Cu)(T:List UInt8)(S:Cu)(F:m6 s=(T,S))(w0 w:World)(h:CR w0 t N s w)(R:ak)
 (I:∀xa xc w',w'.ownsRow w 5 1 (.slice xa T.length xc) T.length (bv T)→CR w0 t N S w'→w.grownBy w' (some N)→R (.returned (.slice xa T.length xc)) w'):
 Calls prog 148 #[zq N] w R:=by
 have HR:=Z I;obtain⟨sb,bad⟩:=s;obtain⟨aw2,u,er,hD⟩:∃aw2 u er,eh sb=(aw2,u,er):=⟨_,_,_,rfl⟩
 have hu:=ZJ _ _ _ _ hD;obtain⟨n,rfl⟩:∃n:Nat,u=(n:Int):=⟨u.toNat,by omega⟩
 unfold m6 at F;simp only[hD,toNat_natCast] at F;obtain⟨awZ,S',G⟩:∃awZ S,takeC n ⟨sb,bad || er != 0⟩=(awZ,S):=⟨_,_,rfl⟩
 rw[G] at F;simp only[Prod.mk.injEq] at F;obtain⟨rfl,rfl⟩:=F;have HD:=Z hD;have HC:=Z h;have au:=h.lt;obtain⟨Y,c,aq,bU⟩:=h.row;simp only at aq bU;have c0:=D 0 aq;have eW:=Z (bU.below h.low);have hn:n≤9223372036854775807:=by omega
 have fx:=Z au;clear I hD h bU hu aq au;cases bad with
 |true=>
  rw[Bool.true_or] at G;have HK:=Z G;clear G;go_enter func148,ntmps148;go_wp2_with (first
   |(go_at_call 112;go_must(refine EN _ sb aw2 n _ HD.O _ eW.O _ ?_);intro da dc w2 jx aj;have jH:=Z jx;clear jx;have bn:=Z aj;obtain⟨lF,c2,bE,_⟩:=(HC.O.below aj).row;have c1:=D 1 bE;have f1:=aC bE 1;clear aj bE c0)
   |(go_at_call 168;go_must(refine Kn t N n ⟨sb,true⟩ awZ S' HK.O hn w0 _ ((HC.O.below bn.O).mark true) _ ?_);intro xa xc w4 _ fy cV;have jz:=Z fy;have Ou:=Z cV;have oD:=Z (cg (ju bn.O) (cg (br w2 ⟨N,1,none⟩ (.bool true)) cV));clear fy cV))
  exact ZL
 |false=>
  rw[Bool.false_or] at G;have HK:=Z G;clear G;go_enter func148,ntmps148;go_wp2_with (first
   |(go_at_call 112;go_must(refine EN _ sb aw2 n _ HD.O _ eW.O _ ?_);intro da dc w2 jx aj;have jH:=Z jx;clear jx;have bn:=Z aj;obtain⟨lF,c2,bE,_⟩:=(HC.O.below aj).row;have c1:=D 1 bE;have f1:=aC bE 1;clear aj bE c0)
   |(go_at_call 168;go_must(refine Kn t N n ⟨sb,er != 0⟩ awZ S' HK.O hn w0 _ ((HC.O.below bn.O).mark (er != 0)) _ ?_);intro xa xc w4 _ fy cV;have jz:=Z fy;have Ou:=Z cV;have oD:=Z (cg (ju bn.O) (cg (br w2 ⟨N,1,none⟩ (.bool (er != 0))) cV));clear fy cV))
  exact ZL
theorem ZN(t N:Nat)(s:Cu)(x:Int)(S:Cu)(F:aN 1 s=(x,S))(w0 w:World)(h:CR w0 t N s w)(R:ak)
 (I:∀w',CR w0 t N S w'→w.grownBy w' (some N)→R (.returned (.tuple #[E (bits .and .i64 x 3),.bool (bits .and .i64 x 4 != 0)])) w'):
 Calls prog 149 #[zq N] w R:=by
 obtain⟨HR,HX,HC⟩:=bX I F h;clear I F h;go_enter func149,ntmps149;go_wp2_with (first
  |(go_at_call 150;go_must(refine Ft t N 1 s x S HX.O (by decide) w0 _ HC.O _ ?_);intro w2 bM bD;have eT:=Z bM;have lG:=Z bD;clear bM bD))
 exact HR.O _ eT.O lG.O
open Nat (le_of_eq le_of_lt lt_succ_self ne_of_gt)
variable{aw2:List UInt8}{awY dc:Nat}{o:Obj}{da:av}{v0 v1 v2 v3:Value}{w1:World}
theorem dI(A:w.grownBy w' (some N))(hB:w.heap[B]? =some o)(bf:B≠N):w'.heap[B]? =some o:=by
 have au:=(eI.1 hB).1;rw[A.block B au (by simpa using bf)];exact hB
def SU(x:World)(N:Nat)(v0 v1 v2 v3 v4 v5 v6 v7 v8 v9:Value):World:=((((((((((x.setCell ⟨N,0,none⟩ v0).setCell ⟨N,1,none⟩ v1).setCell ⟨N,2,none⟩ v2).setCell ⟨N,3,none⟩ v3).setCell ⟨N,4,none⟩ v4).setCell ⟨N,5,none⟩ v5).setCell ⟨N,6,none⟩ v6).setCell ⟨N,7,none⟩ v7).setCell ⟨N,8,none⟩ v8).setCell ⟨N,9,none⟩ v9)
theorem ZO{x:World}{c0 c1 c2 c3 c4 c5 c6 c7 c8 c9:Value}(q0:x.heap[N]? =some (.cells #[c0,c1,c2,c3,c4,c5,c6,c7,c8,c9] t (0,0)))(v0 v1 v2 v3 v4 v5 v6 v7 v8 v9:Value):(SU x N v0 v1 v2 v3 v4 v5 v6 v7 v8 v9).heap[N]? =some (.cells #[v0,v1,v2,v3,v4,v5,v6,v7,v8,v9] t (0,0)):=by
 have q1:(x.setCell ⟨N,0,none⟩ v0).heap[N]? =some (.cells #[v0,c1,c2,c3,c4,c5,c6,c7,c8,c9] t (0,0)):=bm _ _ 0 _ _ _ q0;have q2:((x.setCell ⟨N,0,none⟩ v0).setCell ⟨N,1,none⟩ v1).heap[N]? =some (.cells #[v0,v1,c2,c3,c4,c5,c6,c7,c8,c9] t (0,0)):=bm _ _ 1 _ _ _ q1;have q3:(((x.setCell ⟨N,0,none⟩ v0).setCell ⟨N,1,none⟩ v1).setCell ⟨N,2,none⟩ v2).heap[N]? =some (.cells #[v0,v1,v2,c3,c4,c5,c6,c7,c8,c9] t (0,0)):=bm _ _ 2 _ _ _ q2;have q4:((((x.setCell ⟨N,0,none⟩ v0).setCell ⟨N,1,none⟩ v1).setCell ⟨N,2,none⟩ v2).setCell ⟨N,3,none⟩ v3).heap[N]? =some (.cells #[v0,v1,v2,v3,c4,c5,c6,c7,c8,c9] t (0,0)):=bm _ _ 3 _ _ _ q3;have q5:(((((x.setCell ⟨N,0,none⟩ v0).setCell ⟨N,1,none⟩ v1).setCell ⟨N,2,none⟩ v2).setCell ⟨N,3,none⟩ v3).setCell ⟨N,4,none⟩ v4).heap[N]? =some (.cells #[v0,v1,v2,v3,v4,c5,c6,c7,c8,c9] t (0,0)):=bm _ _ 4 _ _ _ q4;have q6:((((((x.setCell ⟨N,0,none⟩ v0).setCell ⟨N,1,none⟩ v1).setCell ⟨N,2,none⟩ v2).setCell ⟨N,3,none⟩ v3).setCell ⟨N,4,none⟩ v4).setCell ⟨N,5,none⟩ v5).heap[N]? =some (.cells #[v0,v1,v2,v3,v4,v5,c6,c7,c8,c9] t (0,0)):=bm _ _ 5 _ _ _ q5;have q7:(((((((x.setCell ⟨N,0,none⟩ v0).setCell ⟨N,1,none⟩ v1).setCell ⟨N,2,none⟩ v2).setCell ⟨N,3,none⟩ v3).setCell ⟨N,4,none⟩ v4).setCell ⟨N,5,none⟩ v5).setCell ⟨N,6,none⟩ v6).heap[N]? =some (.cells #[v0,v1,v2,v3,v4,v5,v6,c7,c8,c9] t (0,0)):=bm _ _ 6 _ _ _ q6;have q8:((((((((x.setCell ⟨N,0,none⟩ v0).setCell ⟨N,1,none⟩ v1).setCell ⟨N,2,none⟩ v2).setCell ⟨N,3,none⟩ v3).setCell ⟨N,4,none⟩ v4).setCell ⟨N,5,none⟩ v5).setCell ⟨N,6,none⟩ v6).setCell ⟨N,7,none⟩ v7).heap[N]? =some (.cells #[v0,v1,v2,v3,v4,v5,v6,v7,c8,c9] t (0,0)):=bm _ _ 7 _ _ _ q7;have q9:(((((((((x.setCell ⟨N,0,none⟩ v0).setCell ⟨N,1,none⟩ v1).setCell ⟨N,2,none⟩ v2).setCell ⟨N,3,none⟩ v3).setCell ⟨N,4,none⟩ v4).setCell ⟨N,5,none⟩ v5).setCell ⟨N,6,none⟩ v6).setCell ⟨N,7,none⟩ v7).setCell ⟨N,8,none⟩ v8).heap[N]? =some (.cells #[v0,v1,v2,v3,v4,v5,v6,v7,v8,c9] t (0,0)):=bm _ _ 8 _ _ _ q8;have ajL:((((((((((x.setCell ⟨N,0,none⟩ v0).setCell ⟨N,1,none⟩ v1).setCell ⟨N,2,none⟩ v2).setCell ⟨N,3,none⟩ v3).setCell ⟨N,4,none⟩ v4).setCell ⟨N,5,none⟩ v5).setCell ⟨N,6,none⟩ v6).setCell ⟨N,7,none⟩ v7).setCell ⟨N,8,none⟩ v8).setCell ⟨N,9,none⟩ v9).heap[N]? =some (.cells #[v0,v1,v2,v3,v4,v5,v6,v7,v8,v9] t (0,0)):=bm _ _ 9 _ _ _ q9;exact ajL
theorem Hw(x:World)(N:Nat)(v0 v1 v2 v3 v4 v5 v6 v7 v8 v9:Value):x.grownBy (SU x N v0 v1 v2 v3 v4 v5 v6 v7 v8 v9) (some N):=
 cg (cg (cg (cg (cg (cg (cg (cg (cg (br _ ⟨N,0,none⟩ _) (br _ ⟨N,1,none⟩ _)) (br _ ⟨N,2,none⟩ _)) (br _ ⟨N,3,none⟩ _)) (br _ ⟨N,4,none⟩ _)) (br _ ⟨N,5,none⟩ _)) (br _ ⟨N,6,none⟩ _)) (br _ ⟨N,7,none⟩ _)) (br _ ⟨N,8,none⟩ _)) (br _ ⟨N,9,none⟩ _)
theorem ZP{x:World}(U:Below B w x)(hN:B≤N)(v0 v1 v2 v3 v4 v5 v6 v7 v8 v9:Value):Below B w (SU x N v0 v1 v2 v3 v4 v5 v6 v7 v8 v9):=(((((((((U.setCell hN v0).setCell hN v1).setCell hN v2).setCell hN v3).setCell hN v4).setCell hN v5).setCell hN v6).setCell hN v7).setCell hN v8).setCell hN v9
theorem Dt{x:World}{v4 v5 v6 v7 v8 v9:Value}(q:x.heap[N]? =some (.cells #[v0,v1,v2,v3,v4,v5,v6,v7,v8,v9] t (0,0))):(x.cell? ⟨N,0,none⟩=some v0∧x.frozen? ⟨N,0,none⟩=false)∧(x.cell? ⟨N,1,none⟩=some v1∧x.frozen? ⟨N,1,none⟩=false)∧(x.cell? ⟨N,2,none⟩=some v2∧x.frozen? ⟨N,2,none⟩=false)∧(x.cell? ⟨N,3,none⟩=some v3∧x.frozen? ⟨N,3,none⟩=false)∧(x.cell? ⟨N,4,none⟩=some v4∧x.frozen? ⟨N,4,none⟩=false)∧(x.cell? ⟨N,5,none⟩=some v5∧x.frozen? ⟨N,5,none⟩=false)∧(x.cell? ⟨N,6,none⟩=some v6∧x.frozen? ⟨N,6,none⟩=false)∧(x.cell? ⟨N,7,none⟩=some v7∧x.frozen? ⟨N,7,none⟩=false)∧(x.cell? ⟨N,8,none⟩=some v8∧x.frozen? ⟨N,8,none⟩=false)∧(x.cell? ⟨N,9,none⟩=some v9∧x.frozen? ⟨N,9,none⟩=false):=
 ⟨⟨D 0 q,aC q 0⟩,⟨D 1 q,aC q 1⟩,⟨D 2 q,aC q 2⟩,⟨D 3 q,aC q 3⟩,⟨D 4 q,aC q 4⟩,⟨D 5 q,aC q 5⟩,⟨D 6 q,aC q 6⟩,⟨D 7 q,aC q 7⟩,⟨D 8 q,aC q 8⟩,⟨D 9 q,aC q 9⟩⟩
theorem AT{x y:World}(h:w.grownBy x (some N))(A:x.grownBy y (some B))(hB:w.heap.size≤B):w.grownBy y (some N):=
 ⟨A.os.trans h.os,A.tape.trans h.tape,A.output.trans h.output,aJ h.size A.size,fun k G bf=>(A.block k (eV G h.size) (fun e=>by cases e;omega)).trans (h.block k G bf)⟩
theorem CR.other{s:Cu}(h:CR w0 t N s w)(A:w.grownBy w' (some B))(bf:N≠B)(hl:Below w0 w0 w'):CR w0 t N s w':=by
 obtain⟨Y,c,hr,W⟩:=h.row;exact⟨⟨Y,c,dI A hr bf,W⟩,hl,h.nn,h.len⟩
theorem BY(w:World)(g:Nat)(cs:Array Value):w.grownBy (w.setRow g cs) (some g):=
 ⟨rfl,rfl,rfl,by simp,fun k _ bf=>setRow_other w g k cs (fun e=>bf (by rw[e]))⟩
structure NS(w0 w1:World)(t N awY B:Nat)(s:Cu)(cs:List Value)(da:av)(dc:Nat)(aw2:List UInt8)(w:World):Prop where
 row:w.heap[B]? =some (.cells cs.toArray 34 (0,0))
 own:w.ownsRow (awY+1) 5 1 (.slice da aw2.length dc) aw2.length (bv aw2)
 cr:CR w0 t N s w
 gr:w1.grownBy w (some N)
 lt:awY<B
 nb:N≠B
 Ov:w1.heap.size≤B
 Ko:w0.heap.size≤awY
theorem NS.set{s:Cu}(h:NS w0 w1 t N awY B s cs da dc aw2 w)(i:Nat)(v:Value):NS w0 w1 t N awY B s (cs.set i v) da dc aw2 (w.setCell ⟨B,i,none⟩ v):=by
 have A:=br w ⟨B,i,none⟩ v;refine⟨?_,iO h.own h.row (by decide) A,h.cr.other A h.nb (h.cr.low.setCell ?_ _),AT h.gr A h.Ov,h.lt,h.nb,h.Ov,h.Ko⟩
 ·rw[bm w B i _ _ _ h.row];simp
 exact aJ h.Ko (le_of_lt h.lt)
theorem NS.call{s s':Cu}(h:NS w0 w1 t N awY B s cs da dc aw2 w)(hN:N<awY+1)(A:w.grownBy w' (some N))(J:CR w0 t N s' w'):NS w0 w1 t N awY B s' cs da dc aw2 w':=
 ⟨dI A h.row (Ne.symm h.nb),j1 h.own A (m8 h.own hN),J,cg h.gr A,h.lt,h.nb,h.Ov,h.Ko⟩
theorem NS.below{s:Cu}(h:NS w0 w1 t N awY B s cs da dc aw2 w)(U:Below w w w'):NS w0 w1 t N awY B s cs da dc aw2 w':=
 ⟨aA h.row U,aR h.own U,h.cr.below U,cg h.gr (ju U),h.lt,h.nb,h.Ov,h.Ko⟩
theorem ajM(t N:Nat)(s s1 s2 s3 s4 s5 s6 s7 s8:Cu)(T1 D2 T4:List UInt8)(x3 x5 x6 x7 x8:Int)(h1:mZ s=(T1,s1))(h2:m6 s1=(D2,s2))(h3:aN 1 s2=(x3,s3))(h4:mZ s3=(T4,s4))(h5:aN 8 s4=(x5,s5))(h6:aN 8 s5=(x6,s6))(h7:aN 1 s6=(x7,s7))(h8:aN 1 s7=(x8,s8))(L:List Pr)(used:Int)(cd:Nat)(h9:lf 3 s8.b=(L,used,cd))(ep:s8.b.length≤100000000)(w0 w:World)(h:CR w0 t N s w)(hT:dy w0)(R:ak)
 (I:∀da dc V X w',w'.ownsRow (w.heap.size+1) 5 1 (.slice da D2.length dc) D2.length (bv D2)→cE w' (w.heap.size+1) (.slice V L.length X) L→CR w0 t N ⟨s8.b,s8.bad || (cd:Int) != 0 || used != (s8.b.length:Int)⟩ w'→w.grownBy w' (some N)→R (.returned (.agg (fj T1 da D2 dc (bits .and .i64 x3 3) (bits .and .i64 x3 4 != 0) T4 x5 V L X x7 x6 x8))) w'):
 Calls prog 166 #[zq N] w R:=by
 obtain⟨H1,H2,H3,H4,H5,H6,H7,H8,H9,AN⟩:=Jn h1 h2 h3 h4 h5 h6 h7 h8 h9 ep;have ajN:=Z (h.low.size);have HR:=Z I;clear I;have HT:=Z hT;have au:=h.lt;obtain⟨awY,hA⟩:=ai w.heap.size;have hA1:=aH w (.cells dP 34);have eD:=h.below (aD w (.cells dP 34));have km:w.grownBy (w.alloc (.cells dP 34)) (some N):=ju (aD w (.cells dP 34));have cJ:(w.alloc (.cells dP 34)).heap.size=awY+1:=(AP w _).symm.trans (by rw[hA]);have fx:=Z au;go_enter func166,ntmps166;go_upto_region 1 with fail
 rw[hA] at hA1;generalize w.alloc (.cells dP 34)=w1 at hA1 eD km cJ⊢;have gL:CR w0 t N s w1.drew:=eD.below ((bq _));have iy:awY+1≤w1.drew.heap.size:=le_of_eq cJ.symm;have Du:w1.grownBy w1.drew (some N):=ju ((bq _));have xH:True∧Below w1.drew.heap.size w1.drew (w1.alloc (.cells dP 34)).drew:=And.intro trivial ((Below.refl w1.drew.heap.size w1.drew).alloc bj _);have ZQ:w1.heap.size≠N:=by rw[cJ];omega
 have mC:Hid (N<awY):=by show _<_;omega
 have ZR:awY<w1.heap.size:=by omega
 have tb:(w1.alloc (.cells dP 34)).drew.heap[w1.heap.size]? =some (.cells dP 34):=aH w1 _;have ZS:w1.grownBy (w1.alloc (.cells dP 34)).drew (some N):=ju ((aD w1 _).drew);have rL:=Z cJ;have Fu:=Z hA1;clear hA1 eD cJ h1 h2 h3 h4 h5 h6 h7 h8 h9 ep h hT;go_cut [3] from 7 to 16 (fun s3 wx=>∃(B:Nat)(da:av)(dc:Nat),s3= zq B∧Hid (wx.heap[B]? =some (.cells #[.string (str T1),.slice da D2.length dc,E 0,.bool false,.string ⟨#[]⟩,E 0,.slice none 0 0,E 0,E 0,E 0] 34 (0,0)))∧Hid (wx.ownsRow (awY+1) 5 1 (.slice da D2.length dc) D2.length (bv D2))∧Hid (CR w0 t N s2 wx)∧Hid (w1.grownBy wx (some N))∧awY<B)
 case first=>
  go_region_held3 (fun x=>True)
   (trivial)
   (first
    |(go_at_call 151;refine SQ t N s T1 s1 H1.O w0 _ ?_ HT.O _ ?_;(first|with_reducible exact gL|with_reducible exact gL.below xH.2);intro w2 bM bD;(first|(have Ow:=cg Du bD)|(have Ow:=cg ZS bD;have m9:=dI bD tb ZQ));have bC:True∧Below w2 w2 (w2.alloc (.cells dP 34)):=And.intro trivial (aD _ _);have kZ:awY<w2.heap.size:=eV ZR Ow.size)
    |(go_at_call 148;refine ZM t N s1 D2 s2 H2.O w0 _ ?_ _ ?_;(first|with_reducible exact bM|with_reducible exact bM.below bC.2);intro da dc w3 bN iB dz;(first|(have Kp:=cg Ow dz;(first|(have sB:=dI dz m9 ZQ;obtain⟨⟨z0,y0⟩,⟨z1,y1⟩,⟨z2,y2⟩,⟨z3,y3⟩,⟨z4,y4⟩,⟨z5,y5⟩,⟨z6,y6⟩,⟨z7,y7⟩,⟨z8,y8⟩,⟨z9,y9⟩⟩:=Dt sB)|skip))|(have Kp:=cg (cg Ow (ju bC.2)) dz;have sj:=dI dz (aH w2 (.cells dP 34)) (ne_of_gt (Nat.lt_trans mC.O kZ));obtain⟨⟨z0,y0⟩,⟨z1,y1⟩,⟨z2,y2⟩,⟨z3,y3⟩,⟨z4,y4⟩,⟨z5,y5⟩,⟨z6,y6⟩,⟨z7,y7⟩,⟨z8,y8⟩,⟨z9,y9⟩⟩:=Dt sj))))
  ·go_wp2_with fail;go_meet;have cw:Below w3 w3 (w3.alloc (.cells #[.string (str T1),.slice da D2.length dc,E 0,.bool false,.string ⟨#[]⟩,E 0,.slice none 0 0,E 0,E 0,E 0] 34)):=aD _ _;exact⟨w3.heap.size,da,dc,rfl,Z (aH w3 _),Z (cm (aR bN cw) kZ),Z (iB.below cw),Z (cg Kp (ju cw)),eV ZR Kp.size⟩
  ·go_wp2_with fail;go_meet;have jK:w2.heap.size<(w2.alloc (.cells dP 34)).heap.size:=eV (lt_succ_self _) (le_of_eq (AP w2 _));exact⟨w2.heap.size,da,dc,rfl,Z (ZO sj (.string (str T1)) (.slice da D2.length dc) (E 0) (.bool false) (.string ⟨#[]⟩) (E 0) (.slice none 0 0) (E 0) (E 0) (E 0)),Z (cm (j1 bN (Hw w3 (w2.heap.size) (.string (str T1)) (.slice da D2.length dc) (E 0) (.bool false) (.string ⟨#[]⟩) (E 0) (.slice none 0 0) (E 0) (E 0) (E 0)) (m8 bN jK)) (aJ kZ (le_of_lt jK))),Z (iB.other (Hw w3 (w2.heap.size) (.string (str T1)) (.slice da D2.length dc) (E 0) (.bool false) (.string ⟨#[]⟩) (E 0) (.slice none 0 0) (E 0) (E 0) (E 0)) (by have:=mC.O;have:=rL.O;omega) (ZP iB.low (by have:=mC.O;have:=rL.O;have:=iB.nn;omega) (.string (str T1)) (.slice da D2.length dc) (E 0) (.bool false) (.string ⟨#[]⟩) (E 0) (.slice none 0 0) (E 0) (E 0) (E 0))),Z (AT Kp (Hw w3 (w2.heap.size) (.string (str T1)) (.slice da D2.length dc) (E 0) (.bool false) (.string ⟨#[]⟩) (E 0) (.slice none 0 0) (E 0) (E 0) (E 0)) (by have:=rL.O;omega)),by have:=rL.O;omega⟩
  ·go_wp2_with fail;go_meet;have jK:w1.heap.size<w2.heap.size:=(eI.1 m9).1;exact⟨w1.heap.size,da,dc,rfl,Z (ZO sB (.string (str T1)) (.slice da D2.length dc) (E 0) (.bool false) (.string ⟨#[]⟩) (E 0) (.slice none 0 0) (E 0) (E 0) (E 0)),Z (cm (j1 bN (Hw w3 (w1.heap.size) (.string (str T1)) (.slice da D2.length dc) (E 0) (.bool false) (.string ⟨#[]⟩) (E 0) (.slice none 0 0) (E 0) (E 0) (E 0)) (m8 bN jK)) kZ),Z (iB.other (Hw w3 (w1.heap.size) (.string (str T1)) (.slice da D2.length dc) (E 0) (.bool false) (.string ⟨#[]⟩) (E 0) (.slice none 0 0) (E 0) (E 0) (E 0)) (by have:=mC.O;have:=rL.O;omega) (ZP iB.low (by have:=mC.O;have:=rL.O;have:=iB.nn;omega) (.string (str T1)) (.slice da D2.length dc) (E 0) (.bool false) (.string ⟨#[]⟩) (E 0) (.slice none 0 0) (E 0) (E 0) (E 0))),Z (AT Kp (Hw w3 (w1.heap.size) (.string (str T1)) (.slice da D2.length dc) (E 0) (.bool false) (.string ⟨#[]⟩) (E 0) (.slice none 0 0) (E 0) (E 0) (E 0)) (by have:=rL.O;omega)),by have:=rL.O;omega⟩
 obtain⟨B,da,dc,rfl,dj,ZT,jz,oD,ajO⟩:=hcut;obtain⟨w4,rfl⟩:∃x,x=wc:=⟨_,rfl⟩
 have ZU:NS w0 w1 t N awY B s2 [Value.string (str T1),.slice da D2.length dc,E 0,.bool false,.string ⟨#[]⟩,E 0,.slice none 0 0,E 0,E 0,E 0] da dc D2 w4:=⟨dj.O,ZT.O,jz.O,oD.O,ajO,by have:=mC.O;omega,by have:=rL.O;omega,by rw[←hA];exact ajN.O⟩
 have ZV:=Z ZU;have uB:Hid (N<awY+1):=Nat.lt_succ_of_lt mC.O;clear ZU dj ZT jz oD gL iy Du xH tb ZS;go_upto_region 3 with(first
  |(go_at_call 149;go_must(refine ZN t N s2 x3 s3 H3.O w0 _ ZV.O.cr _ ?_);intro w5 pP gZ;have n5:=ZV.O.call uB.O gZ pP;obtain⟨⟨z0,y0⟩,⟨z1,y1⟩,⟨z2,y2⟩,⟨z3,y3⟩,⟨z4,y4⟩,⟨z5,y5⟩,⟨z6,y6⟩,⟨z7,y7⟩,⟨z8,y8⟩,⟨z9,y9⟩⟩:=Dt n5.row;have ajP:=Z n5;clear n5 pP gZ))
 have n6:NS w0 w1 t N awY B s3 [Value.string (str T1),.slice da D2.length dc,E (bits .and .i64 x3 3),.bool (bits .and .i64 x3 4 != 0),.string ⟨#[]⟩,E 0,.slice none 0 0,E 0,E 0,E 0] da dc D2 ((w5.setCell ⟨B,2,none⟩ (E (bits .and .i64 x3 3))).setCell ⟨B,3,none⟩ (.bool (bits .and .i64 x3 4 != 0))):=(ajP.O.set 2 (E (bits .and .i64 x3 3))).set 3 (.bool (bits .and .i64 x3 4 != 0));generalize ((w5.setCell ⟨B,2,none⟩ (E (bits .and .i64 x3 3))).setCell ⟨B,3,none⟩ (.bool (bits .and .i64 x3 4 != 0)))=w6 at n6⊢;have ZW:=Z n6;clear n6 z0 y0 z1 y1 z2 y2 z3 y3 z4 y4 z5 y5 z6 y6 z7 y7 z8 y8 z9 y9;go_upto_region 4 with(first
  |(go_at_call 151;go_must(refine SQ t N s3 T4 s4 H4.O w0 _ ZW.O.cr HT.O _ ?_);intro w7 tu fT;have n7:=ZW.O.call uB.O fT tu;obtain⟨⟨z0,y0⟩,⟨z1,y1⟩,⟨z2,y2⟩,⟨z3,y3⟩,⟨z4,y4⟩,⟨z5,y5⟩,⟨z6,y6⟩,⟨z7,y7⟩,⟨z8,y8⟩,⟨z9,y9⟩⟩:=Dt n7.row;have ajQ:=Z n7;clear n7 tu fT))
 have n8:NS w0 w1 t N awY B s4 [Value.string (str T1),.slice da D2.length dc,E (bits .and .i64 x3 3),.bool (bits .and .i64 x3 4 != 0),.string (str T4),E 0,.slice none 0 0,E 0,E 0,E 0] da dc D2 (w7.setCell ⟨B,4,none⟩ (.string (str T4))):=ajQ.O.set 4 (.string (str T4));generalize (w7.setCell ⟨B,4,none⟩ (.string (str T4)))=w8 at n8⊢;have Ox:=n8.below (bq w8);clear z0 y0 z1 y1 z2 y2 z3 y3 z4 y4 z5 y5 z6 y6 z7 y7 z8 y8 z9 y9;go_cut [] from 28 to 38 (fun wx=>Hid (NS w0 w1 t N awY B s6 [Value.string (str T1),.slice da D2.length dc,E (bits .and .i64 x3 3),.bool (bits .and .i64 x3 4 != 0),.string (str T4),E x5,.slice none 0 0,E 0,E x6,E 0] da dc D2 wx))
 case first=>
  go_region_held3 (fun x=>True)
   (trivial)
   (first
    |(have hq:=n8;go_at_call 150;refine Ft t N 8 s4 x5 s5 H5.O (by decide) w0 _ Ox.cr _ ?_;intro w9 lX bW;have n9:=Ox.call uB.O bW lX;clear hq n8 Ox lX bW)
    |(have hq:=n9;go_at_call 150;refine Ft t N 8 s5 x6 s6 H6.O (by decide) w0 _ n9.cr _ ?_;intro df jk eU;have SV:=n9.call uB.O eU jk;obtain⟨⟨z0,y0⟩,⟨z1,y1⟩,⟨z2,y2⟩,⟨z3,y3⟩,⟨z4,y4⟩,⟨z5,y5⟩,⟨z6,y6⟩,⟨z7,y7⟩,⟨z8,y8⟩,⟨z9,y9⟩⟩:=Dt SV.row;clear hq n9 jk eU))
  all_goals
   go_wp2_with fail;go_meet
   first
    |exact Z ((SV.set 5 (E x5)).set 8 (E x6))
    |exact Z ((SV.set 8 (E x6)).set 5 (E x5))
 obtain⟨du,rfl⟩:∃x,x=wc:=⟨_,rfl⟩
 have SY:=hcut.O.below (bq du);clear n8 Ox;go_upto_region 5 with fail
 go_cut [] from 38 to 48 (fun wx=>Hid (NS w0 w1 t N awY B s8 [Value.string (str T1),.slice da D2.length dc,E (bits .and .i64 x3 3),.bool (bits .and .i64 x3 4 != 0),.string (str T4),E x5,.slice none 0 0,E x7,E x6,E x8] da dc D2 wx))
 case first=>
  go_region_held3 (fun x=>True)
   (trivial)
   (first
    |(have hq:=hcut;go_at_call 150;refine Ft t N 1 s6 x7 s7 H7.O (by decide) w0 _ SY.cr _ ?_;intro cY Dv BZ;have Dw:=SY.call uB.O BZ Dv;clear hq hcut SY Dv BZ)
    |(have hq:=Dw;go_at_call 150;refine Ft t N 1 s7 x8 s8 H8.O (by decide) w0 _ Dw.cr _ ?_;intro mD ZX mE;have n13:=Dw.call uB.O mE ZX;obtain⟨⟨z0,y0⟩,⟨z1,y1⟩,⟨z2,y2⟩,⟨z3,y3⟩,⟨z4,y4⟩,⟨z5,y5⟩,⟨z6,y6⟩,⟨z7,y7⟩,⟨z8,y8⟩,⟨z9,y9⟩⟩:=Dt n13.row;clear hq Dw ZX mE))
  all_goals
   go_wp2_with fail;go_meet
   first
    |exact Z ((n13.set 7 (E x7)).set 9 (E x8))
    |exact Z ((n13.set 9 (E x8)).set 7 (E x7))
 go_upto_region 6 with fail
 obtain⟨rM,rfl⟩:∃x,x=wc:=⟨_,rfl⟩
 have Hx:=hcut;obtain⟨la,lc,ZY,ZZ⟩:=Hx.O.cr.row;have k0:=D 0 ZY;have oE:=Z (ZZ.below Hx.O.cr.low);clear hcut ZY ZZ;go_upto_region 7 with(first
  |(go_at_call 173;go_must(refine J3 3 _ s8.b L used cd H9.O AN.O _ oE.O (HT.O.below Hx.O.cr.low) _ ?_);intro V X oF Z1 Dx;have Z2:=Hx.O.below Dx;have ajR:=Z Z1;have SZ:=Z Z2;clear Z2 Z1 Dx k0))
 obtain⟨y,hy⟩:∃y,(s8.bad || (cd:Int) != 0 || used != (s8.b.length:Int))=y:=⟨_,rfl⟩
 have HY:=Z hy;clear hy;go_cut [] from 58 to 81 (fun wx=>wx=oF.setCell ⟨N,1,none⟩ (.bool y))
 case first=>
  obtain⟨lb,ld,Oy,_⟩:=SZ.O.cr.row;have m0:=D 0 Oy;have m1:oF.cell? ⟨N,1,none⟩=some (.bool s8.bad):=D 1 Oy;have f1:=aC Oy 1;clear Oy;obtain⟨b8,ajS⟩:=s8;simp only at*;cases ajS with
  |true=>
   go_wp2_with fail;go_meet;rw[←HY.O]
   rfl
  |false=>
   by_cases J:(cd:Int)=0
   ·have bM:((cd:Int) != 0)=false:=by rw[J];rfl
    go_wp2_with fail;go_meet;rw[←HY.O,bM]
    first|rfl|(rw[Bool.false_or,Bool.false_or])|simp
   have bM:((cd:Int) != 0)=true:=bne_iff_ne.2 J;go_wp2_with fail;go_meet;rw[←HY.O,bM]
   first|rfl|(rw[Bool.false_or,Bool.false_or])|simp
 subst hcut;have n16:=SZ.O.call uB.O (br oF ⟨N,1,none⟩ (.bool y)) (CR.mark SZ.O.cr y);have p16:=ajR.O.yK (br oF ⟨N,1,none⟩ (.bool y)) Hx.O.cr.lt;generalize oF.setCell ⟨N,1,none⟩ (.bool y)=Fv at n16 p16⊢;obtain⟨⟨z0,y0⟩,⟨z1,y1⟩,⟨z2,y2⟩,⟨z3,y3⟩,⟨z4,y4⟩,⟨z5,y5⟩,⟨z6,y6⟩,⟨z7,y7⟩,⟨z8,y8⟩,⟨z9,y9⟩⟩:=Dt n16.row;go_upto_region 9 with fail
 have Kq:NS w0 w1 t N awY B ⟨s8.b,y⟩ (fj T1 da D2 dc (bits .and .i64 x3 3) (bits .and .i64 x3 4 != 0) T4 x5 V L X x7 x6 x8) da dc D2 (Fv.setCell ⟨B,6,none⟩ (.slice V L.length X)):=n16.set 6 (.slice V L.length X);have S0:=p16.typed n16.row (by decide) (by decide) (br Fv ⟨B,6,none⟩ (.slice V L.length X));clear z0 y0 z1 y1 z2 y2 z3 y3 z4 y4 z5 y5 z6 y6 z7 y7 z8 y8 z9 y9 n16 p16;generalize Fv.setCell ⟨B,6,none⟩ (.slice V L.length X)=kv at Kq S0⊢;obtain⟨⟨z0,y0⟩,⟨z1,y1⟩,⟨z2,y2⟩,⟨z3,y3⟩,⟨z4,y4⟩,⟨z5,y5⟩,⟨z6,y6⟩,⟨z7,y7⟩,⟨z8,y8⟩,⟨z9,y9⟩⟩:=Dt Kq.row;have Oz:=Z (dI Kq.gr Fu.O (ne_of_gt mC.O));have Kr:=Z Kq;have Ks:=Z S0;clear Kq S0;go_wp2_with (first
  |(refine gw 34 2 83 awY Oz.O ?_))
 have Kt:=BY kv awY (fj T1 da D2 dc (bits .and .i64 x3 3) (bits .and .i64 x3 4 != 0) T4 x5 V L X x7 x6 x8);have fL:=Kr.O.cr.other Kt (by have:=mC.O;omega) (below_setRow Kr.O.cr.low Kr.O.Ko (fj T1 da D2 dc (bits .and .i64 x3 3) (bits .and .i64 x3 4 != 0) T4 x5 V L X x7 x6 x8));have aZ:=((Ks.O.mono (B':=awY+1) (by have:=Hx.O.gr.size;have:=rL.O;omega)).typed Oz.O (by decide) (by decide) Kt)
 have aU:=iO Kr.O.own Oz.O (by decide) Kt;have xN:=AT (cg km Kr.O.gr) Kt (le_of_eq hA);have cD:=HR.O da dc V X;rw[hA,HY.O] at cD;have HF:=Z (cD _ aU aZ fL xN);clear cD fL aZ aU xN Kt;refine bodyPost_ret (results_cell_row rfl _ _ awY 34 (fj T1 da D2 dc (bits .and .i64 x3 3) (bits .and .i64 x3 4 != 0) T4 x5 V L X x7 x6 x8) (0,0) _ rfl (setRow_heap kv awY _ _ _ _ Oz.O) underlying34 rfl (by kernel_rfl)) rfl ?_;exact HF.O
theorem Z4{P:Prop}(h:P:=by
 show R (.returned (.bool (((lY x.props [1,3,8,9,38]).length:Int)==(x.props.length:Int)))) w3;rw[e];exact HR.O _ cq.O):P:=h
theorem Z6{P:Prop}(h:P:=by
 obtain⟨Y,c,hr,W⟩:=h.row;exact⟨⟨Y,c,hZ A hr (i_ hr ho ht),W⟩,bT h.low A h.low.size (cm ho hB),h.nn,h.len⟩):P:=h
variable{T:Nat}{fr:Nat×Nat}{a d h:Value}
theorem Dy(v u:Value)(l m:List UInt8)(w:World)(hv:Bs w v l)(hu:Bs w u m)(R:ak)
 (I:R (.returned (.bool (l==m))) w):Calls prog 53 #[v,u] w R:=by
 obtain⟨Y,c,rfl,_⟩:=id hv;obtain⟨ae,d,rfl,_⟩:=id hu;have c1:=lU (P:=prog) underlying22 underlying5 underlying9 hv;have c2:=lU (P:=prog) underlying22 underlying5 underlying9 hu;obtain⟨b,U⟩:∃b,(l==m)=b:=⟨_,rfl⟩
 rw[U] at I;go_enter func53,ntmps53;go_wp2;exact I
def lY(l:List Pr)(ids:List Int):List Pr:=l.filter fun p=>ids.contains p.id
theorem Z7(l:List Pr)(p:Pr)(ids:List Int):lY (l++ [p]) ids=lY l ids++if ids.contains p.id=true then [p] else []:=by
 unfold lY;rw[List.filter_append]
 congr 1
 rw[List.filter_cons]
 split<;>rfl
theorem ajT(v:Value)(l:List Pr)(ids:List Int)(hm:ids.length≤1000)(iw:Value)(w:World)(hi:Is w iw ids)(hv:Ps w v l)(ox:l.length≤1000000)(R:ak)
 (I:∀Y cc w',cE w' w.heap.size (.slice Y (lY l ids).length cc) (lY l ids)→Below w w w'→R (.returned (.slice Y (lY l ids).length cc)) w'):
 Calls prog 209 #[v,iw] w R:=by
 obtain⟨HR,HV,HI⟩:=bX I hv hi;obtain⟨ia,c,rfl,_⟩:=id hi;obtain⟨va,vc,rfl,_⟩:=_root_.id hv;clear I hv hi;go_enter func209,ntmps209;go_wp2;go_loopg [5,7,10] l.length (fun gn L _ i wr=>∃(k:Nat)(o:List Pr)(oa:av)(oc:Nat),k≤l.length∧gn=l.length - k∧i= .int .i64 k∧L= .slice oa o.length oc∧Hid (o=lY (l.take k) ids)∧o.length≤k∧Hid (cE wr w.heap.size (.slice oa o.length oc) o)∧Below w w wr)
 case atStart=>exact⟨0,[],none,0,bP _,by omega,rfl,rfl,Z rfl,Nat.le_refl _,Z (cE.nil _ _),Below.refl _ _⟩
 case round=>
  obtain⟨k,o,oa,oc,G,rfl,rfl,rfl,HO,eS,dR,U⟩:=hrel;obtain⟨wo,rfl⟩:∃y,y=wr:=⟨_,rfl⟩
  by_cases au:k<l.length;rotate_left
  ·have bo:¬(k:Int)<(l.length:Int):=by omega
   have zn:lY l ids=o:=by rw[HO.O,gy (by omega)]
   have HF:=Z zn;clear zn;go_wp2;have h9:=HR.O oa oc _ (by rw[HF.O];exact dR.O) U;rw[HF.O] at h9;exact h9
  have bo:(k:Int)<(l.length:Int):=by omega
  obtain⟨EU,EV,ee,_,_,_,v4⟩:=HV.O.below U;simp only[Value.slice.injEq] at ee;obtain⟨rfl,-,rfl⟩:=ee;obtain⟨vb,vo,rfl,v5⟩:=v4 (by omega);obtain⟨d0,⟨p0,p1,p2,p3,p4⟩,iJ⟩:=v5 k au;have oy:Hid (l.take (k+1)=l.take k++ [l[k]]):=Z (kF au);obtain⟨y,hy⟩:=ai (l[k]);rw[hy] at p0 p1 p2 p3 iJ oy;obtain⟨d1,d3,rfl,_⟩:=_root_.id iJ.hd;have qz:Below wo wo (wo.alloc (.cells (eA y d1 d3) 147)):=aD _ _;have tm:=Z (iJ.below qz);have S2:=bG U qz;have zk:=Z qz;obtain⟨z,hz⟩:=ai (ids.contains y.id);have eP:lY (l.take (k+1)) ids=o++(if z=true then [y] else []):=by rw[oy.O,Z7,←HO.O,hz]
  have vJ:=Z eP;have HZ:=Z hz;clear v4 v5 hy iJ qz hz eP;cases z with
  |false=>
   go_wp2_with (go_at_call 105;go_must(refine RW _ ids y.id false HZ.O (by omega) _ (HI.O.below S2) _ ?_));go_roundg (l.length - (k+1))
   case measure=>omega
   case rel=>exact⟨k+1,o,oa,oc,by omega,rfl,by go_num,rfl,Z (by rw[vJ.O];simp),by omega,Z (dR.O.below zk.O),S2⟩
  |true=>
   obtain⟨ds,Es,aq,As,Au⟩:=dR.O;obtain⟨AK,AL,aV,Hp⟩:=cF Es As aq Au;clear As aq Au;go_wp2_with (first
    |(go_at_call 105;go_must(refine RW _ ids y.id true HZ.O (by omega) _ (HI.O.below S2) _ ?_))
    |(go_at_call 222;go_must(refine Y2 _ y _ tm.O _ ?_);intro ca cc w5 fH aE;have di:=bG zk.O aE;have bu:=aQ U di;have fE:=aR aV.O di;have bQ:=dO w5 (eA y ca cc) 147 5 1 rfl;have qB:=cm (jE:=wo.heap.size) fH zk.O.size;clear fH aE)
    |(at_builtin;go_must(refine kU (by rfl) (.tmp 18) (.tmp 21) 32 (by rfl) w 147 (.agg jt) 5 72 underlying32 Tryz.Ar rfl (by decide) _ _ _ _ rfl (World.ownsRow.alloc fE _) _ _ _ _ rfl bQ (Br _ _ _) (by simp) (by unfold maxLen;omega) (by omega) (aJ bu.size (by simp)) ?_)))
   intro fS c6 w6 eo bI;have lJ:iZ 5 w5 w6:=(iZ.below (aD _ _)).trans (iZ.G1 (fE.alloc _) bI (by decide));have BN:Below w w w6:=bT (bu.alloc bu.size _) bI (aJ bu.size (by simp)) (fE.alloc _);have jG:∀v∈ds,CS v (.slice ca y.data.length cc):=by
    intro v hv k G J;obtain⟨i,hi,rfl⟩:=lD hv;have h1:=((AL.O i (by rw[←AK.O];exact hi)).lt k G).2;have h2:=(qB.lt k J).1
    omega
   have zm:cE w6 w.heap.size (.slice fS (o.length+1) c6) (o++ [y]):=cE.push AK.O (fun i hi=>aR (AL.O i hi) di) lJ eo (cm qB U.size) Hp.O jG;have Ff:Hid (cE w6 w.heap.size (.slice fS (o++ [y]).length c6) (o++ [y])):=Z (by rw[aK];exact zm);clear zm jG lJ eo bI fE bQ bu di qB;go_wp2;go_roundg (l.length - (k+1))
   case measure=>omega
   case rel=>exact⟨k+1,o++ [y],fS,c6,by omega,rfl,by go_num,by rw[aK];rfl,Z (by rw[vJ.O];simp),by rw[aK];simp;omega,Ff,BN⟩
theorem ajU{a b c d e:Int}:Is (w.alloc (.cells #[Value.int .i64 a,Value.int .i64 b,Value.int .i64 c,Value.int .i64 d,Value.int .i64 e] 3)) (.slice (some ⟨w,0,none⟩) 5 5) [a,b,c,d,e]:=
 ⟨_,5,rfl,dO w #[Value.int .i64 a,Value.int .i64 b,Value.int .i64 c,Value.int .i64 d,Value.int .i64 e] 3 1 5 rfl,Nat.le_refl _,by decide,fun h=>by cases h⟩
theorem Z8(v:Value)(l:List Pr)(w:World)(hv:Ps w v l)(ox:l.length≤1000000)(R:ak)
 (I:∀Y cc w',cE w' w.heap.size (.slice Y (lY l [1,3,8,9,38]).length cc) (lY l [1,3,8,9,38])→Below w w w'→R (.returned (.slice Y (lY l [1,3,8,9,38]).length cc)) w'):
 Calls prog 186 #[v] w R:=by
 have HR:=Z I;have aM:Below w w (w.alloc (.cells #[Value.int .i64 1,Value.int .i64 3,Value.int .i64 8,Value.int .i64 9,Value.int .i64 38] 3)):=aD _ _;have bB:=Z aM;have HV:=Z (hv.below aM);have HI:=Z (ajU (w:=w) (a:=1) (b:=3) (c:=8) (d:=9) (e:=38));obtain⟨va,vc,rfl,_⟩:=id hv;clear I aM hv;go_enter func186,ntmps186;go_wp2_with (first
  |(go_at_call 209;go_must(refine ajT _ l [1,3,8,9,38] (by decide) _ _ HI.O HV.O ox _ ?_);intro oa oc w3 sB an;have uC:=Z (sB.mono bB.O.size);have cq:=Z (aQ bB.O an);clear sB an))
 exact HR.O _ _ _ uC.O cq.O
structure Dz(x:Nt):Prop where
 q:x.ah<3
 e0:0≤x.aP
 e1:x.aP≤4611686018427387904
 n0:0≤x.number
 n1:x.number≤4611686018427387904
 k:(lY x.props [1,3,8,9,38]).length=x.props.length
theorem Ku{x:World}{b c e f g i j:Value}(q:x.heap[T]? =some (.cells #[a,b,c,d,e,f,g,h,i,j] t fr)):x.cell? ⟨T,2,none⟩=some c∧x.cell? ⟨T,5,none⟩=some f∧x.cell? ⟨T,6,none⟩=some g∧x.cell? ⟨T,8,none⟩=some i:=
 ⟨D 2 q,D 5 q,D 6 q,D 8 q⟩
theorem ajV(x:Nt)(hm:Dz x)(pv qv:Value)(w:World)(hp:Bs w pv x.ay)(hq:Ps w qv x.props)(ox:x.props.length≤1000000)(R:ak)
 (I:∀w',Below w w w'→R (.returned (.bool true)) w'):
 Calls prog 167 #[(Value.agg (uj x pv qv))] w R:=by
 have HR:=Z I;obtain⟨qa,qc,rfl,_⟩:=id hq;obtain⟨V,X,rfl,_⟩:=id hp;have n0:=aH w (.cells (oh x V X qa qc) 34);have aM:Below w w (w.alloc (.cells (oh x V X qa qc) 34)):=aD _ _;have bB:=Z aM;have HQ:=Z (hq.below aM);have h1:=hm.q;have h2:=hm.e0;have h3:=hm.e1;have h4:=hm.n0;have h5:=hm.n1;have HK:=Z hm.k;have N0:=Z n0;clear I aM hp hq hm;go_enter func167,ntmps167;go_upto_region 1 with fail
 generalize w.alloc (.cells (oh x V X qa qc) 34)=w1 at n0 bB HQ N0⊢;obtain⟨T,hT⟩:=ai w.heap.size;rw[hT] at n0 N0;have dK:=aA n0 (bq w1);have kr:=HQ.O.below (bq w1);have aM:=cz bB.O (bq w1) bB.O.size;clear n0;go_region_held3 (fun z=>z.cell? ⟨T,2,none⟩=some (.int .i64 x.ah)∧z.cell? ⟨T,5,none⟩=some (.int .i64 x.aP)∧z.cell? ⟨T,6,none⟩=some (.slice qa x.props.length qc)∧z.cell? ⟨T,8,none⟩=some (.int .i64 x.number))
  (first|with_reducible exact Ku dK|with_reducible exact Ku iC|go_keep)
  (first
   |(go_at_call 186;refine Z8 _ x.props _ kr ox _ ?_;intro ka kc w3 sB an;have iC:=aA dK an;have cq:=Z (aQ aM an);clear sB an))
 all_goals
  go_wp2_with fail;have e:(((lY x.props [1,3,8,9,38]).length:Int)==(x.props.length:Int))=true:=by rw[HK.O];simp
  exact Z4
theorem VA(x:Nt)(z:Bool)(hz:z=true↔Dz x)(pv qv:Value)(w:World)(hp:Bs w pv x.ay)(hq:Ps w qv x.props)(ox:x.props.length≤1000000)(R:ak)
 (I:∀w',Below w w w'→R (.returned (.bool z)) w'):
 Calls prog 167 #[(Value.agg (uj x pv qv))] w R:=by
 by_cases hm:Dz x
 ·rw[hz.2 hm] at I;exact ajV x hm pv qv w hp hq ox R I
 obtain rfl:z=false:=by cases z with|false=>rfl|true=>exact absurd (hz.1 rfl) hm
 have J:decide (x.ah<3)=false∨(x.ah<3∧decide (0≤x.aP)=false)∨(x.ah<3∧0≤x.aP∧decide (x.aP≤4611686018427387904)=false)∨(x.ah<3∧0≤x.aP∧x.aP≤4611686018427387904∧decide (0≤x.number)=false)∨(x.ah<3∧0≤x.aP∧x.aP≤4611686018427387904∧0≤x.number∧decide (x.number≤4611686018427387904)=false)∨(x.ah<3∧0≤x.aP∧x.aP≤4611686018427387904∧0≤x.number∧x.number≤4611686018427387904∧Hid (¬(lY x.props [1,3,8,9,38]).length=x.props.length)):=by
  simp only[decide_eq_false_iff_not];by_cases a1:x.ah<3
  ·by_cases a2:0≤x.aP
   ·by_cases a3:x.aP≤4611686018427387904
    ·by_cases a4:0≤x.number
     ·by_cases a5:x.number≤4611686018427387904
      ·exact .inr (.inr (.inr (.inr (.inr ⟨a1,a2,a3,a4,a5,Z fun a6=>hm ⟨a1,a2,a3,a4,a5,a6⟩⟩))))
      ·exact .inr (.inr (.inr (.inr (.inl ⟨a1,a2,a3,a4,a5⟩))))
     ·exact .inr (.inr (.inr (.inl ⟨a1,a2,a3,a4⟩)))
    ·exact .inr (.inr (.inl ⟨a1,a2,a3⟩))
   ·exact .inr (.inl ⟨a1,a2⟩)
  exact .inl a1
 have HR:=Z I;obtain⟨qa,qc,rfl,_⟩:=id hq;obtain⟨V,X,rfl,_⟩:=id hp;have n0:=aH w (.cells (oh x V X qa qc) 34);have aM:Below w w (w.alloc (.cells (oh x V X qa qc) 34)):=aD _ _;have bB:=Z aM;have HQ:=Z (hq.below aM);have N0:=Z n0;clear I aM hp hq hm hz;go_enter func167,ntmps167;go_upto_region 1 with fail
 generalize w.alloc (.cells (oh x V X qa qc) 34)=w1 at n0 bB HQ N0⊢;obtain⟨T,hT⟩:=ai w.heap.size;rw[hT] at n0 N0;have dK:=aA n0 (bq w1);have kr:=HQ.O.below (bq w1);have aM:=cz bB.O (bq w1) bB.O.size;clear n0;rcases J with h1|⟨h1,h2⟩|⟨h1,h2,h3⟩|⟨h1,h2,h3,h4⟩|⟨h1,h2,h3,h4,h5⟩|⟨h1,h2,h3,h4,h5,HK⟩
 iterate 5
  ·obtain⟨q2,q5,q6,q8⟩:=Ku N0.O;clear dK kr aM;go_quiet (fail);go_wp2;exact HR.O _ (Go.below_drewN bB.O _)
 go_region_held3 (fun z=>z.cell? ⟨T,2,none⟩=some (.int .i64 x.ah)∧z.cell? ⟨T,5,none⟩=some (.int .i64 x.aP)∧z.cell? ⟨T,6,none⟩=some (.slice qa x.props.length qc)∧z.cell? ⟨T,8,none⟩=some (.int .i64 x.number))
  (first|with_reducible exact Ku dK|with_reducible exact Ku iC|go_keep)
  (first
   |(go_at_call 186;refine Z8 _ x.props _ kr ox _ ?_;intro ka kc w3 sB an;have iC:=aA dK an;have cq:=Z (aQ aM an);clear sB an))
 all_goals
  go_wp2_with fail;have e:(((lY x.props [1,3,8,9,38]).length:Int)==(x.props.length:Int))=false:=by have:=HK.O;simp;omega
  exact Z4
theorem Z9(a t:List UInt8)(n:Nat)(hn:a.length=n):takeC n ⟨a++t,false⟩=(a,⟨t,false⟩):=by
 subst hn;unfold takeC;rw[if_neg (by simp)];simp
theorem Z_{P:Prop}(h:P:=by
 simp only[e,U];have hl:(aY l.length 2++l).length=(((l.length:Int)+2).toNat):=by
  rw[aK,fQ]
  omega
 have:=Z9 (aY l.length 2++l) t _ hl;simp only[bne_self_eq_false,Bool.or_false];rw[this]):P:=h
theorem Z'(l t:List UInt8)(h:l.length≤65535):m6 ⟨(dn l).1++t,false⟩=(l,⟨t,false⟩):=by
 have e:(dn l).1=aY l.length 2++l:=by
  unfold dn;rw[if_neg (by omega)]
 have U:=Hj l t h;unfold m6;exact Z_
theorem S3(l t:List UInt8)(h:l.length≤65535)(ht:eg l=true):mZ ⟨(b9 l).1++t,false⟩=(l,⟨t,false⟩):=by
 have e:(b9 l).1=aY l.length 2++l:=by
  unfold b9 dn;rw[if_pos ht,if_neg (by omega)]
 have U:=JO l t h ht;unfold mZ;exact Z_
theorem OA(x k:Nat)(t:List UInt8):aN k ⟨aY x k++t,false⟩=(IntKind.i64.wrap (cX (aY x k)),⟨t,false⟩):=by
 unfold aN;rw[Z9 _ _ _ (fQ x k)]
theorem uD(x:Nat)(F:x<256)(t:List UInt8):aN 1 ⟨[b8 (x:Int)]++t,false⟩=((x:Int),⟨t,false⟩):=by
 have e: [b8 (x:Int)]=aY x 1:=by
  rw[Yi x 0];simp[aY]
 rw[e,OA,Hi 1 x (by decide) (by omega),IntKind.wrap_i64];simp only[Prod.mk.injEq,and_true]
 omega
theorem aaa(x:Int)(h0:0≤x)(h1:x≤4611686018427387904)(t:List UInt8):aN 8 ⟨aY (bz x) 8++t,false⟩=(x,⟨t,false⟩):=by
 have e:((bz x:Nat):Int)=x:=by
  unfold bz
  omega
 rw[OA,Hi 8 (bz x) (by decide) (by have:=e;omega),IntKind.wrap_i64,e];simp only[Prod.mk.injEq,and_true]
 omega
theorem aab(q:Int)(r:Bool)(h0:0≤q)(h1:q≤2):∃m:Nat,lK q r=(m:Int)∧m<256∧bits .and .i64 (m:Int) 3=q∧(bits .and .i64 (m:Int) 4 != 0)=r:=by
 have hq:q=0∨q=1∨q=2:=by omega
 rcases hq with rfl|rfl|rfl<;>cases r
 ·exact⟨0,by decide,by decide,by decide,by decide⟩
 ·exact⟨4,by decide,by decide,by decide,by decide⟩
 ·exact⟨1,by decide,by decide,by decide,by decide⟩
 ·exact⟨5,by decide,by decide,by decide,by decide⟩
 ·exact⟨2,by decide,by decide,by decide,by decide⟩
 exact⟨6,by decide,by decide,by decide,by decide⟩
structure lZ(x:Nt):Prop where
 tt:eg x.aF=true
 tl:x.aF.length≤65535
 pl:x.ay.length≤65535
 st:eg x.src=true
 sl:x.src.length≤65535
 q0:0≤x.ah
 q1:x.ah≤2
 e0:0≤x.aP
 e1:x.aP≤4611686018427387904
 n0:0≤x.number
 n1:x.number≤4611686018427387904
 o:∃k:Nat,x.origin=(k:Int)∧k<256
 h:∃k:Nat,x.aW=(k:Int)∧k<256
 lay:(eO 3 x.props).2=0
 k:(lY x.props [1,3,8,9,38]).length=x.props.length
theorem aac(x:Nt)(h:lZ x):∃(m:Nat),bits .and .i64 (m:Int) 3=x.ah∧(bits .and .i64 (m:Int) 4 != 0)=x.aL∧
 mZ ⟨eG x,false⟩=(x.aF,⟨((dn x.ay).1++([b8 (lK x.ah x.aL)]++((b9 x.src).1++(aY (bz x.aP) 8++(aY (bz x.number) 8++([b8 x.origin]++([b8 x.aW]++(eO 3 x.props).1))))))),false⟩)∧m6 ⟨((dn x.ay).1++([b8 (lK x.ah x.aL)]++((b9 x.src).1++(aY (bz x.aP) 8++(aY (bz x.number) 8++([b8 x.origin]++([b8 x.aW]++(eO 3 x.props).1))))))),false⟩=(x.ay,⟨([b8 (lK x.ah x.aL)]++((b9 x.src).1++(aY (bz x.aP) 8++(aY (bz x.number) 8++([b8 x.origin]++([b8 x.aW]++(eO 3 x.props).1)))))),false⟩)∧aN 1 ⟨([b8 (lK x.ah x.aL)]++((b9 x.src).1++(aY (bz x.aP) 8++(aY (bz x.number) 8++([b8 x.origin]++([b8 x.aW]++(eO 3 x.props).1)))))),false⟩=((m:Int),⟨((b9 x.src).1++(aY (bz x.aP) 8++(aY (bz x.number) 8++([b8 x.origin]++([b8 x.aW]++(eO 3 x.props).1))))),false⟩)∧mZ ⟨((b9 x.src).1++(aY (bz x.aP) 8++(aY (bz x.number) 8++([b8 x.origin]++([b8 x.aW]++(eO 3 x.props).1))))),false⟩=(x.src,⟨(aY (bz x.aP) 8++(aY (bz x.number) 8++([b8 x.origin]++([b8 x.aW]++(eO 3 x.props).1)))),false⟩)∧
 aN 8 ⟨(aY (bz x.aP) 8++(aY (bz x.number) 8++([b8 x.origin]++([b8 x.aW]++(eO 3 x.props).1)))),false⟩=(x.aP,⟨(aY (bz x.number) 8++([b8 x.origin]++([b8 x.aW]++(eO 3 x.props).1))),false⟩)∧aN 8 ⟨(aY (bz x.number) 8++([b8 x.origin]++([b8 x.aW]++(eO 3 x.props).1))),false⟩=(x.number,⟨([b8 x.origin]++([b8 x.aW]++(eO 3 x.props).1)),false⟩)∧aN 1 ⟨([b8 x.origin]++([b8 x.aW]++(eO 3 x.props).1)),false⟩=(x.origin,⟨([b8 x.aW]++(eO 3 x.props).1),false⟩)∧aN 1 ⟨([b8 x.aW]++(eO 3 x.props).1),false⟩=(x.aW,⟨(eO 3 x.props).1,false⟩)∧
 lf 3 (eO 3 x.props).1=(x.props,((eO 3 x.props).1.length:Int),0):=by
 obtain⟨m,hm,fh,lP,tv⟩:=aab x.ah x.aL h.q0 h.q1;obtain⟨o,ho,jx⟩:=h.o;obtain⟨k,G,eB⟩:=h.h;refine⟨m,lP,tv,?_,Z' _ _ h.pl,?_,S3 _ _ h.sl h.st,aaa _ h.e0 h.e1 _,aaa _ h.n0 h.n1 _,?_,?_,?_⟩
 ·have e:eG x=(b9 x.aF).1++((dn x.ay).1++([b8 (lK x.ah x.aL)]++((b9 x.src).1++(aY (bz x.aP) 8++(aY (bz x.number) 8++([b8 x.origin]++([b8 x.aW]++(eO 3 x.props).1))))))):=by
   unfold eG;simp only[kT]
   rfl
  rw[e];exact S3 _ _ h.tl h.tt
 ·rw[hm];exact uD m fh _
 ·rw[ho];exact uD o jx _
 ·rw[G];exact uD k eB _
 obtain⟨n,_,_,_,hr⟩:=NV (wh:=3) (l:=x.props) (x:=(eO 3 x.props).1) (by rw[←h.lay]);exact hr
theorem Fw{x:World}{t':Nat}{ajW:Nat×Nat}{u b c e f g i j:Value}(q':x.heap[N]? =some (.cells #[u,v] t' ajW))(q:x.heap[T]? =some (.cells #[a,b,c,d,e,f,g,h,i,j] t fr)):x.cell? ⟨N,1,none⟩=some v∧x.cell? ⟨T,0,none⟩=some a∧x.cell? ⟨T,1,none⟩=some b∧x.cell? ⟨T,2,none⟩=some c∧x.cell? ⟨T,3,none⟩=some d∧x.cell? ⟨T,4,none⟩=some e∧x.cell? ⟨T,5,none⟩=some f∧x.cell? ⟨T,6,none⟩=some g∧x.cell? ⟨T,7,none⟩=some h∧x.cell? ⟨T,8,none⟩=some i∧x.cell? ⟨T,9,none⟩=some j:=
 ⟨D 1 q',D 0 q,D 1 q,D 2 q,D 3 q,D 4 q,D 5 q,D 6 q,D 7 q,D 8 q,D 9 q⟩
open Nat (lt_irrefl)
def gN(t:List UInt8):Nt:=⟨t,[],0,false,[],0,[],0,0,0⟩
def gI(t:List UInt8):Im:=⟨gN t,2,false,[],[]⟩
theorem aad(x:Im):lx x=gI x.note.aF:=rfl
structure GT(t:List UInt8):Prop where
 tt:eg t=true
 tl:t.length≤100
theorem OB:eg []=true:=YG
theorem aae:eO 3 ([]:List Pr)=([0],0):=by decide
theorem GT.nt{t:List UInt8}(h:GT t):lZ (gN t) where
 tt:=h.tt
 tl:=aJ h.tl (by decide)
 pl:=by simp[gN]
 st:=OB
 sl:=by simp[gN]
 q0:=by simp[gN]
 q1:=by simp[gN]
 e0:=by simp[gN]
 e1:=by simp[gN]
 n0:=by simp[gN]
 n1:=by simp[gN]
 o:=⟨0,rfl,by decide⟩
 h:=⟨0,rfl,by decide⟩
 lay:=by show(eO 3 ([]:List Pr)).2=0;rw[aae]
 k:=rfl
theorem GT.nb{t:List UInt8}(h:GT t):xC (gN t):=⟨aJ h.tl (by decide),by simp[gN],by simp[gN],by simp[gN],by simp[gN],by simp[gN]⟩
theorem qC{l:List UInt8}(h:l.length≤65535):(b9 l).1.length≤l.length+2:=by
 unfold b9
 split
 ·unfold dn;rw[if_neg (by omega)];simp[fQ]
  omega
 simp
theorem uE{l:List UInt8}(h:l.length≤65535):(dn l).1.length=l.length+2:=by
 unfold dn;rw[if_neg (by omega)];simp[fQ]
 omega
theorem GT.nl{t:List UInt8}(h:GT t):(eG (gN t)).length≤200:=by
 have h1:=qC (l:=t) (aJ h.tl (by decide));have h2:=uE (l:= []) (by decide);have h3:=qC (l:= []) (by decide);have h4:=h.tl;unfold eG gN;simp only[aae,aK,fQ,ey,gi] at h2 h3⊢
 omega
theorem GT.il{t:List UInt8}(h:GT t):(db (gI t)).length≤300:=by
 have h1:=h.nl;have h2:=uE (l:=eG (gN t)) (by omega);have h3:=qC (l:= []) (by decide);unfold db gI;simp only[aK,ey,gi,List.flatMap_nil] at h3⊢
 omega
def Z0(a:av)(c:Nat):Prop:=c≤9223372036854775807∧(a=none→c=0)
theorem Z0.bs{a:av}{c:Nat}(h:Z0 a c)(w:World):Bs w (.slice a 0 c) []:=⟨a,c,rfl,Rd.nil _ _ _,bP _,h.1,h.2⟩
theorem Z0.is{a:av}{c:Nat}(h:Z0 a c)(w:World):Is w (.slice a 0 c) []:=⟨a,c,rfl,Rd.nil _ _ _,bP _,h.1,h.2⟩
theorem Z0.ps{a:av}{c:Nat}(h:Z0 a c)(w:World):Ps w (.slice a 0 c) []:=⟨a,c,rfl,bP _,h.1,h.2,fun h=>absurd h (lt_irrefl _)⟩
theorem Z0.nil:Z0 none 0:=⟨by decide,fun _=>rfl⟩
theorem aaf{P:Prop}(h:P:=by
 rw[hX];by_cases J:c=0
 ·subst J;obtain⟨n,hn,k_,rfl,_⟩:=NV hX;have h5:=(JN 3 n).2;have h6:(jR n).length=(nA 3 n).length:=rfl;simp only[aK]
  omega
 obtain⟨rfl,_⟩:=YJ hX J;simp):P:=h
open List (drop_eq_getElem_cons)
variable{x:Im}{l:List Pr}{B' k:Nat}{v':Value}
structure gh(x:Im):Prop where
 n:lZ x.note
 nb:xC x.note
 nl:(eG x.note).length≤65535
 pl:(x.note.props.flatMap bR).length≤65535
 q0:0≤x.ah
 q1:x.ah≤2
 ni:x.ids.length<256
 ir:∀i∈x.ids,1≤i∧i≤268435455
 st:eg x.share=true
 sl:x.share.length≤65535
theorem gh.b(h:gh x):fX x:=⟨h.nb,by have:=h.ni;omega,by have:=h.sl;omega,by have:=h.q0;have:=h.q1;omega⟩
theorem ako(x:Int)(h0:0≤x)(h1:x<4294967296)(t:List UInt8):aN 4 ⟨aY (bz x) 4++t,false⟩=(x,⟨t,false⟩):=by
 have e:((bz x:Nat):Int)=x:=by
  unfold bz
  omega
 rw[OA,Hi 4 (bz x) (by decide) (by have:=e;omega),IntKind.wrap_i64,e];simp only[Prod.mk.injEq,and_true]
 omega
def sJ(l:List Int):List UInt8:=l.flatMap (fun i=>aY (bz i) 4)
theorem akp(l:List Int):(sJ l).length=l.length*4:=by
 unfold sJ
 induction l with
 |nil=>rfl
 |cons a t ih=>rw[lT,aK,ih,fQ,ey];omega
theorem gh.il(h:gh x):(db x).length≤200000:=by
 have h1:=h.nl;have h2:=uE (l:=eG x.note) h1;have h3:=qC (l:=x.share) h.sl;have h4:=akp x.ids;have h5:=h.ni;have h6:=h.sl;unfold sJ at h4;unfold db;simp only[aK,ey,gi]
 omega
theorem aaw(x:Im)(h:gh x):∃m:Nat,m<256∧bits .and .i64 (m:Int) 3=x.ah∧(bits .and .i64 (m:Int) 4 != 0)=x.aI∧m6 ⟨db x,false⟩=(eG x.note,⟨[b8 (lK x.ah x.aI)]++([b8 (x.ids.length:Int)]++(sJ x.ids++(b9 x.share).1)),false⟩)∧
 aN 1 ⟨[b8 (lK x.ah x.aI)]++([b8 (x.ids.length:Int)]++(sJ x.ids++(b9 x.share).1)),false⟩=((m:Int),⟨[b8 (x.ids.length:Int)]++(sJ x.ids++(b9 x.share).1),false⟩)∧aN 1 ⟨[b8 (x.ids.length:Int)]++(sJ x.ids++(b9 x.share).1),false⟩=((x.ids.length:Int),⟨sJ x.ids++(b9 x.share).1,false⟩)∧mZ ⟨(b9 x.share).1,false⟩=(x.share,⟨[],false⟩):=by
 obtain⟨m,hm,fh,lP,tv⟩:=aab x.ah x.aI h.q0 h.q1;refine⟨m,fh,lP,tv,?_,?_,uD x.ids.length h.ni _,?_⟩
 ·have e:db x=(dn (eG x.note)).1++([b8 (lK x.ah x.aI)]++([b8 (x.ids.length:Int)]++(sJ x.ids++(b9 x.share).1))):=by
   unfold db sJ;simp only[kT]
  rw[e];exact Z' _ _ h.nl
 ·rw[hm];exact uD m fh _
 have:=S3 x.share [] h.sl h.st
 rwa [od] at this
theorem akq{l:List Int}(G:k<l.length):sJ (l.drop k)=aY (bz l[k]) 4++sJ (l.drop (k+1)):=by
 unfold sJ;rw[drop_eq_getElem_cons G,lT]
theorem sK:(prog.info? 3).map (fun i=>(i.zero,i.size,i.bytes))=some (some (.int .i64 0),1,8):=by kernel_rfl
theorem KF{e' Ta n':Nat}{Tb:List Value}(h:w.ownsRow B e size v n xs)(h':w.ownsRow B' e' Ta v' n' Tb)(ht:e≠e')(A:w.grownBy w' v'.ownBlock):w'.ownsRow B e size v n xs:=
 j1 h A fun k G J=>by
  have h1:=eJ h k G;have h2:=eJ h' k J.symm
  omega
theorem cE.kinds{e' Ta n':Nat}{Tb:List Value}(h:cE w B v l)(h':w.ownsRow B' e' Ta v' n' Tb)(h1:e'≠147)(h2:e'≠5)(A:w.grownBy w' v'.ownBlock):cE w' B v l:=by
 obtain⟨ds,hd,hr,he,ha⟩:=h;exact⟨ds,hd,KF hr h' (Ne.symm h1) A,fun i hi=>KF (he i hi) h' (Ne.symm h2) A,ha⟩
theorem CR.app{s:Cu}(h:CR w0 t N s w)(ho:w.ownsRow B e size v n xs)(ht:t≠e)(hB:w0.heap.size≤B)(A:w.grownBy w' v.ownBlock):CR w0 t N s w':=by
 exact Z6
open List (nodup_append)
def bA(l:List Int):List Int:=l.mergeSort fun x y=>decide (x≤y)
theorem tG(l:List Int):(bA l).Perm l:=List.mergeSort_perm _ _
theorem DC(l:List Int):(bA l).Pairwise (· ≤·):=by
 have:=List.pairwise_mergeSort (le:=fun x y:Int=>decide (x≤y)) (by intro a b c;simp;omega) (by intro a b;simp;omega) l;exact this.imp fun h=>by simpa using h
theorem Tc{a b:List Int}(h:a.Perm b)(ha:a.Pairwise (· ≤·))(U:b.Pairwise (· ≤·)):a=b:=
 List.Perm.eq_of_pairwise (fun x y _ _ h1 h2=>by omega) ha U h
theorem Td{a b:List Int}(h:a.Perm b):bA a=bA b:=Tc (((tG a).trans h).trans (tG b).symm) (DC a) (DC b)
theorem tH(l:List Int):(bA l).length=l.length:=(tG l).length_eq
theorem akr:bA []= []:=n_ (tH [])
theorem aks(Y:av)(n c B:Nat)(L:List Int)(w:World)(h:w.ownsRow B 3 1 (.slice Y n c) n (iv L))(hn:L.length=n)(h0:0<n)(bt:n≤10000000)(R:ak)
 (I:∀w',w'.ownsRow B 3 1 (.slice Y n c) n (iv (bA L))→w.grownBy w' (Value.slice Y n c).ownBlock→R (.returned (.tuple #[])) w'):
 Calls prog 157 #[.slice Y n c] w R:=by
 subst hn;obtain⟨g,rfl⟩:=jF h h0;rcases h.2 with⟨iN,_⟩|⟨g',cap,cur,e,kG,U,h1,h2,h3,h4⟩
 ·simp at iN
 simp only[Value.slice.injEq,Option.some.injEq,Addr.mk.injEq,and_true] at e;obtain⟨rfl,-,rfl⟩:=e;have hH:=holds_of_blockI (ss:=L) U (by simpa [iv] using h4);refine(Any.slices_Sort_int Tryz.akk g 0 c L w hH (eI.1 U).1 (by omega)).mono ?_;rintro e w' ⟨rfl,m,os,rfl⟩;exact I _ (ownsRow_sortedI (by simp) kG U h1 h2 h3) (grownBy_sortedI _)
theorem akt{a b:List Int}(ha:a.Nodup)(U:b.Nodup)(h:∀x,x∈a↔x∈b):a.Perm b:=by
 rw[List.perm_iff_count];intro x;rw[ha.count,U.count];by_cases F:x∈a
 ·rw[if_pos F,if_pos ((h x).1 F)]
 rw[if_neg F,if_neg (fun hm=>F ((h x).2 hm))]
theorem aku(N m:Nat)(l:List Int)(ox:l.length≤100000)(w:World)(W:St w N m l)(R:ak)
 (I:∀Y c w',w'.ownsRow w 3 1 (.slice Y l.length c) l.length (iv (bA l))→Below w w w'→R (.returned (.slice Y l.length c)) w'):
 Calls prog 121 #[zq N] w R:=by
 have HR:=Z I;obtain⟨aw2,hD,hh,bt⟩:=W.2.ex;have c0:w.cell? ⟨N,0,none⟩=some (.map (some m)):=D 0 W.1;have HH:=Z hh;have KG:=Z W.2.nd;have avk:m<w.heap.size:=W.2.lt;clear W I hh;go_enter func121,ntmps121;go_wp2_with (first
  |(at_range;refine wpList_range_own _ rfl _ 141 rfl 3 161 Tryz.Ey underlying141 _ m _ aw2 rfl hD ?_;intro w0 aax Du iy))
 go_frame;have aM:Below w w w0:=s_ Du bj (fun k G=>by cases G);have akv:w.heap.size+1≤w0.heap.size:=le_of_eq iy.symm;go_loopg [3,4] (Maps.size aw2) (fun gn L _ wr=>∃(P:List Int)(oa:av)(oc:Nat)(left:Lit→Bool),L= .slice oa P.length oc∧(P= []→oa=none∧oc=0)∧P.length+gn≤l.length∧Hid (wr.ranges prog 3 unitElem m w.heap.size l.length aw2 left gn)∧Hid (∀n:Int,left (E n)=(l.contains n&& !P.contains n))∧Hid P.Nodup∧Hid (∀x∈P,x∈l)∧Hid (wr.ownsRow (w.heap.size+1) 3 1 (.slice oa P.length oc) P.length (iv P))∧Below w w wr∧w.heap.size+1≤wr.heap.size)
 case atStart=>exact⟨[],none,0,_,rfl,fun _=>⟨rfl,rfl⟩,by rw[bt];simp,Z aax,Z (fun n=>by rw[HH.O n];simp),Z .nil,Z (fun x F=>by cases F),Z (bO _ _ _ _),aM,akv⟩
 case round=>
  obtain⟨P,oa,oc,left,rfl,aay,KH,akw,FE,aaz,aaA,OI,U,avl⟩:=hrel;obtain⟨wo,rfl⟩:∃x,x=wr:=⟨_,rfl⟩
  clear aax Du iy;go_wp2_with (first
   |(at_next;refine wpList_next_ranges _ rfl _ rfl 3 Tryz.Ey _ (fun x:Int=>Value.int .i64 x) (fun v:Value=>v) (fun key kl G=>by obtain⟨x,e,_⟩:=Maps.keyOf_int_inv underlying3 G;exact⟨x,e⟩) (fun v y _=>⟨v,rfl⟩) m w.heap.size _ _ _ _ rfl akw.O ?_ ?_))
  ·intro h0 hl;have aaB:∀x,x∈P↔x∈l:=fun x=>⟨aaA.O x,fun F=>by
    have h1:=FE.O x;rw[hl] at h1;have h2:l.contains x=true:=by simpa using F
    rw[h2,Bool.true_and] at h1;have h3:P.contains x=true:=by
     cases J:P.contains x with
     |true=>rfl
     |false=>rw[J] at h1;cases h1
    simpa using h3⟩
   have Te:=akt aaz.O KG.O aaB;have akx:Hid (bA P=bA l):=Td Te;have oR:Hid (P.length=l.length):=Te.length_eq;clear aaB Te hl;by_cases hP:P= []
   ·obtain⟨rfl,rfl⟩:=aay hP;subst hP;have pG:Hid (l= []):=n_ oR.O.symm;clear aay;go_wp2_with (first
     |(go_at_call 157;go_must(refine ajp _ _ ?_)))
    have h9:=HR.O none 0 wo;rw[pG.O,akr] at h9;exact h9 (bO _ _ _ _) U
   have u_:0<P.length:=List.length_pos_iff.2 hP;have aky:=Z u_;have akz:Hid (P.length≤10000000):=by show _≤_;omega
   clear u_;go_wp2_with (first
    |(go_at_call 157;go_must(refine aks oa P.length oc (w.heap.size+1) P _ OI.O rfl aky.O akz.O _ ?_);intro w6 nF bI;have lH:=Z nF;have rO:=Z (bT U bI U.size (cm OI.O (Nat.le_succ _)));clear nF bI))
   have h9:=HR.O oa oc w6;rw[←oR.O,←akx.O] at h9;exact h9 (cm lH.O (Nat.le_succ _)) rO.O
  ·intro x c kl ya yb w5 aaC aaD B8 hy bZ aaE Ii gZ Jy avm;obtain⟨x',e,rfl,akA⟩:=Maps.keyOf_int_inv underlying3 aaD;cases e;have rN:=FE.O x;rw[B8] at rN;have oG:x∈l:=by
    cases J:l.contains x with
    |true=>simpa using J
    |false=>rw[J] at rN;simp at rN
   have aaF:x∉P:=fun hm=>by
    have h3:P.contains x=true:=by simpa using hm
    rw[h3] at rN;simp at rN
   have gC:=j1 OI.O gZ (m8 OI.O (lt_succ_self _));have aE:=U.grown gZ U.size (fun k G=>by cases G;exact Nat.le_refl _);have akB:w.heap.size+1≤w5.heap.size:=by omega
   obtain⟨kW,ib,akC,xR,Ij,aaG⟩:=CN gC aE aaE oG aaF akB;have akD:P.length+1+aaC≤l.length:=by omega
   have akE:=Z akD;have Ik:=Z Ii;clear aaD B8 hy bZ aaE gZ Jy rN oG aaF gC aE Ii akA;go_wp2_with (first
    |(at_builtin;go_must(refine jr (by rfl) (.tmp 14) (.tmp 16) 25 (by rfl) (w.heap.size+1) 3 (E 0) 1 8 underlying25 sK rfl (by decide) oa P.length oc _ (by rfl) (kW.O.alloc (.cells #[Value.int .i64 x] 3)) (some ⟨w5,0,none⟩) 1 1 [Value.int .i64 x] (by rfl) (dO w5 #[Value.int .i64 x] 3 1 1 rfl) (px _ _) (fun h=>by cases h) (by unfold maxLen;omega) (by omega) (aJ aaG.O (by simp)) ?_);intro fS c6 w6 eo bI _;have lJ:∀b,b<w.heap.size+1→some b≠(Value.slice oa P.length oc).ownBlock:=(fun b U J=>by have h1:=(kW.O.lt b J.symm).1;omega);have aaH:=(akC.O.alloc (.cells #[Value.int .i64 x] 3)).kept bI (lJ m (by omega)) (lJ w.heap.size (lt_succ_self _));have bd:=bT (ib.O.alloc ib.O.size (.cells #[Value.int .i64 x] 3)) bI (aJ ib.O.size (by simp)) (cm (kW.O.alloc (.cells #[Value.int .i64 x] 3)) (Nat.le_succ _));have aaI:w.heap.size+1≤w6.heap.size:=aJ (aJ aaG.O (by simp)) bI.size;obtain⟨akF,lH,rO,OJ⟩:=cF aaH eo bd aaI;clear lJ aaH eo bd aaI bI))
   go_roundg aaC
   case measure=>exact Ik.O
   case rel=>
    refine⟨P++ [x],fS,c6,_,by rw[aK];rfl,fun h=>by simp at h,by rw[aK];exact akE.O,akF,Z fun n=> ?_,Z ?_,Z ?_,Z ?_,rO.O,OJ.O⟩
    ·simp only[FE.O n];by_cases so:n=x
     ·subst so;have e1:(Lit.int .i64 n).sameKey (E n)=true:=by simp[Lit.sameKey]
      simp[e1]
     ·rw[Maps.sameKey_ne (by simpa using so)];simp[so]
    ·rw[nodup_append];exact⟨aaz.O,by simp,fun a ha b U=>by
      obtain rfl:=dM.1 U;exact fun e=>Ij.O (e▸ha)⟩
    ·intro y hy;rcases ez.1 hy with h|h
     ·exact aaA.O y h
     ·obtain rfl:=dM.1 h;exact xR.O
    have e2:iv (P++ [x])=iv P++ [.int .i64 x]:=by
     unfold iv;simp
    rw[e2,aK];exact lH.O
theorem aaJ(S:Nat)(s:az)(hl:s.aB.length≤100000)(w:World)(M:Nat→Prop)(h:SR w M S s)(R:ak)
 (I:∀Y c w',w'.ownsRow w 3 1 (.slice Y s.aB.length c) s.aB.length (iv (bA s.aB))→Below w w w'→R (.returned (.slice Y s.aB.length c)) w'):
 Calls prog 61 #[zq S] w R:=by
 obtain⟨NB,MB,GB,GM,sv,qv,fv,F⟩:=h;have HR:=Z I;have c8:=(ef F.hS).2.2.2.2;have jl:=Z F.A;clear I F;go_enter func61,ntmps61;go_wp2_with (go_at_call 121;go_must(refine aku GB GM s.aB hl _ jl.O _ ?_);intro Y c w3 bN an;have iF:=Z bN;clear bN)
 all_goals exact HR.O _ _ _ iF.O an
theorem aaK{P:Prop}(h:P:=by
 have h1:=congrArg List.length wW.O;have h3:=xS.O;have h4:=lv.O;rw[aK] at h1
 omega):P:=h
theorem aaL{P:Prop}(h:P:=by
 have akG:Hid (P4=aw0):=by
  show _=_;rw[uK.O,gy (by have:=iL.O;omega),←zk.O,OK.O,zI.O,pT.O,DE.O]
 go_wp2_with fail;have h9:=HR.O xT xU wg;rw[←akG.O] at h9;exact h9 zJ.O.own zJ.O.low):P:=h
theorem OM{P:Prop}(h:P:=by
 have h3:=xS.O;have h4:=lv.O;simp only[aK,ey,gi] at h1
 omega):P:=h
theorem OO{P:Prop}(h:P:=by
 simp only[List.getElem?_map,dW fF,dW wX,Option.map_some] at h2;exact(Option.some.inj h2).symm):P:=h
variable{GB GM MB NB S:Nat}{M:Nat→Prop}{s:az}{fv qv sv:Value}
theorem SX.cell(h:SX w M S NB MB GB GM sv qv fv s)(j:Nat)(u:Value)(s':az)(hS:(w.setCell ⟨S,j,none⟩ u).heap[S]? =some (.cells #[zq NB,.string (str s'.gF),.int .i64 s'.cI,.int .i64 s'.ends,.bool s'.ej,sv,qv,fv,zq GB] 94))
 (e1:s'.bJ=s.bJ) (e2:s'.aB=s.aB) (e3:s'.al=s.al) (e4:s'.queue=s.queue) (e5:s'.ag=s.ag):SX (w.setCell ⟨S,j,none⟩ u) M S NB MB GB GM sv qv fv s'∧Sep M M w (w.setCell ⟨S,j,none⟩ u):=by
 have A:=br w ⟨S,j,none⟩ u;have G:=j6 h.hS;have W:Sep M M w (w.setCell ⟨S,j,none⟩ u):= .kV A (fun k G=>by cases G;exact h.mS);have dt:S≠MB:=fun e=>by
  have h1:=h.hn.kinds.2;rw[←e,G] at h1
  revert h1
  decide
 have akh:S≠GM:=fun e=>by
  have h1:=h.A.kinds.2;rw[←e,G] at h1
  revert h1
  decide
 obtain⟨_,p2,p3,p4,p5,p6⟩:=h.parts S A (fun _ hm=>hm) W;refine⟨⟨hS,?_,?_,?_,?_,?_,h.nb,h.nm,h.mS,h.mN,h.mG,h.ms,h.q_,h.re,fun b U=>eV (h.lt b U) A.size⟩,W⟩
 ·rw[e1];exact p2 dt (by rw[G];decide)
 ·rw[e2];exact p3 akh (by rw[G];decide)
 ·rw[e3];exact p4 (by rw[G];decide)
 ·rw[e4];exact p5 (by rw[G];decide)
 rw[e5];exact p6 (by rw[G];decide)
theorem aki(S:Nat)(s:az)(x y:Int)(b:Bool)(w:World)(M:Nat→Prop)(h:SR w M S s)(R:ak)
 (I:∀w',SR w' M S {s with cI:=x,ends:=y,ej:=b}→Sep M M w w'→R (.returned (.tuple #[])) w'):
 Calls prog 46 #[zq S,E x,E y,.bool b] w R:=by
 have HR:=Z I;obtain⟨NB,MB,GB,GM,sv,qv,fv,F⟩:=h;have k1:=F.cell 2 (E x) {s with cI:=x} (by rw[bm w S 2 _ _ _ F.hS];rfl) rfl rfl rfl rfl rfl;have k2:=k1.1.cell 3 (E y) {s with cI:=x,ends:=y} (by rw[bm _ S 3 _ _ _ k1.1.hS];rfl) rfl rfl rfl rfl rfl;have k3:=k2.1.cell 4 (.bool b) {s with cI:=x,ends:=y,ej:=b} (by rw[bm _ S 4 _ _ _ k2.1.hS];rfl) rfl rfl rfl rfl rfl;have c2:=D 2 F.hS;have f2:=aC F.hS 2;have c3:=D 3 k1.1.hS;have f3:=aC k1.1.hS 3;have c4:=D 4 k2.1.hS;have f4:=aC k2.1.hS 4;have K3:=Z k3.1;have KS:=Z (k1.2.trans (k2.2.trans k3.2));clear I k1 k2 k3 F;go_enter func46,ntmps46;go_wp2;refine bodyPost_ret (results_none rfl _ _ _) rfl ?_;exact HR.O _ ⟨NB,MB,GB,GM,sv,qv,fv,K3.O⟩ KS.O
open Nat (add_zero)
variable{Rb:Nat}{M' Ms:Nat→Prop}{gv:Value}
def vM(k:Nat):Prop:=k=62+2∨k=36+2∨k=51+2∨k=64+2
theorem vM.up(h:vM k):qj k:=by
 rcases h with rfl|rfl|rfl|rfl<;>(unfold qj;decide)
theorem vM.set(h:vM k):k≠143+2:=by
 rcases h with rfl|rfl|rfl|rfl<;>decide
theorem vM.int(h:vM k):k≠3+2:=by
 rcases h with rfl|rfl|rfl|rfl<;>decide
structure RX(w:World)(Ms M:Nat→Prop)(Rb:Nat)(sv qv fv gv:Value)(s:az):Prop where
 hS:w.heap[Rb]? =some (.cells #[.string (str s.gF),.int .i64 s.cI,.int .i64 s.ends,.bool s.ej,sv,qv,fv,gv] 62 (0,0))
 W:w.ownsRow 0 64 6 sv s.al.length (s.al.flatMap aT)
 hq:∃ps:List (V3×Im),ps.map (·.2)=s.queue∧bh w 36 14 qv s.queue.length (ps.flatMap dX)∧∀p∈ps,dk w Ms p.1 p.2
 hf:∃ps:List (V3×Fl),ps.map (·.2)=s.ag∧w.ownsRow 0 51 16 fv s.ag.length (ps.flatMap bV)∧∀p∈ps,dk w Ms p.1 p.2.item
 A:w.ownsRow 0 3 1 gv s.aB.length (iv (bA s.aB))
 mR:M Rb
 ms:∀k,sv.ownBlock=some k→M k
 mq:∀k,qv.ownBlock=some k→M k
 mf:∀k,fv.ownBlock=some k→M k
 mg:∀k,gv.ownBlock=some k→¬Ms k
 kd:∀b,M b→vM (bw w b)
 lo:∀b,M b→∃m,Ms m∧m≤b
 qG:∀b,M b→¬Ms b
 lt:∀b,M b→b<w.heap.size
def RR(w:World)(Ms M:Nat→Prop)(Rb:Nat)(s:az):Prop:=∃sv qv fv gv,RX w Ms M Rb sv qv fv gv s
theorem vN{b:Nat}(h:w'.heap[b]? =w.heap[b]?):bw w' b=bw w b:=by
 unfold bw;rw[h]
theorem RX.sep{B9:Nat→Prop}(h:RX w Ms M Rb sv qv fv gv s)(W:Sep Ms B9 w w'):RX w' B9 M Rb sv qv fv gv s:=by
 have own:∀b,M b→w'.heap[b]? =w.heap[b]?:=fun b U=>W.block b (h.lt b U) (h.qG b U);refine⟨(own Rb h.mR).trans h.hS,jO h.W (fun k G=>own k (h.ms k G)),?_,?_,jO h.A (fun k G=>W.block k (h.A.lt k G).2 (h.mg k G)),h.mR,h.ms,h.mq,h.mf,fun k G hm=> ?_,fun b U=>by rw[vN (own b U)];exact h.kd b U,fun b U=>W.fl b (h.lo b U),fun b U hm=> ?_,fun b U=>eV (h.lt b U) W.size⟩
 ·obtain⟨ps,h1,h2,h3⟩:=h.hq;exact⟨ps,h1,h2.wH (fun k G=>own k (h.mq k G)),fun p hp=>(h3 p hp).sep W⟩
 ·obtain⟨ps,h1,h2,h3⟩:=h.hf;exact⟨ps,h1,jO h2 (fun k G=>own k (h.mf k G)),fun p hp=>(h3 p hp).sep W⟩
 ·rcases W.new k hm with h1|h1
  ·exact h.mg k G h1
  ·have:=(h.A.lt k G).2
   omega
 rcases W.new b hm with h1|h1
 ·exact h.qG b U h1
 have:=h.lt b U
 omega
theorem RR.sep{B9:Nat→Prop}(h:RR w Ms M Rb s)(W:Sep Ms B9 w w'):RR w' B9 M Rb s:=by
 obtain⟨sv,qv,fv,gv,F⟩:=h;exact⟨sv,qv,fv,gv,F.sep W⟩
theorem RX.below(h:RX w Ms M Rb sv qv fv gv s)(U:Below w w w'):RX w' Ms M Rb sv qv fv gv s:=h.sep (.cL U)
theorem dk.apart{c:V3}(h:dk w Ms c x)(kd:∀b,M b→vM (bw w b))(lo:∀b,M b→∃m,Ms m∧m≤b)(W:Sep M M' w w'):dk w' Ms c x:=by
 have hw:∀b,M b→Wr w Ms b:=fun b U=> .inr ⟨(kd b U).up,lo b U⟩;refine⟨h.1.sep ⟨W.os,W.tape,W.output,W.size,fun b U hn=>W.block b U (fun hm=>hn (hw b hm)),fun b U=> ?_,fun awX ⟨m,hm,hl⟩=> ?_⟩,h.2⟩
 ·by_cases au:b<w.heap.size
  ·rcases U with U|⟨G,hm⟩
   ·exact .inl (.inl U)
   ·by_cases hM:M b
    ·exact .inl (hw b hM)
    ·exact .inl (.inr ⟨by rw[←vN (W.block b au hM)];exact G,hm⟩)
  ·exact .inr (by omega)
 rcases hm with hm|⟨_,m2,fh,fw⟩
 ·exact⟨m,.inl hm,hl⟩
 exact⟨m2,.inl fh,aJ fw hl⟩
theorem SX.apart(h:SX w Ms S NB MB GB GM sv qv fv s)(kd:∀b,M b→vM (bw w b))(lo:∀b,M b→∃m,Ms m∧m≤b)(qG:∀b,M b→¬Ms b)(W:Sep M M' w w'):SX w' Ms S NB MB GB GM sv qv fv s:=by
 have gG:∀{b t:Nat}{fr:Nat×Nat}{cs:Array Value},w.heap[b]? =some (.cells cs t fr)→b<w.heap.size:=fun h=>(eI.1 h).1;have own:∀b,Ms b→w'.heap[b]? =w.heap[b]?:=fun b U=>W.block b (h.lt b U) (fun hm=>qG b hm U);have jh:¬M NB:=fun hm=>(kd NB hm).set h.hn.kinds.1;have FG:¬M GB:=fun hm=>(kd GB hm).set h.A.kinds.1;refine⟨(own S h.mS).trans h.hS,h.hn.vp (W.block NB (gG h.hn.1) jh) (own MB h.mN),h.A.vp (W.block GB (gG h.A.1) FG) (own GM h.mG),jO h.W (fun k dS=>own k (h.ms k dS)),?_,?_,h.nb,h.nm,h.mS,h.mN,h.mG,h.ms,h.q_,h.re,fun b U=>eV (h.lt b U) W.size⟩
 ·obtain⟨ps,h1,h2,h3,h4⟩:=h.hq;exact⟨ps,h1,h2.wH (fun k dS=>own k (h4 k dS)),fun p hp=>(h3 p hp).apart kd lo W,h4⟩
 obtain⟨ps,h1,h2,h3,h4⟩:=h.hf;exact⟨ps,h1,jO h2 (fun k dS=>own k (h4 k dS)),fun p hp=>(h3 p hp).apart kd lo W,h4⟩
theorem RX.cells(h:RX w Ms M Rb sv qv fv gv s):w.cell? ⟨Rb,0,none⟩=some (.string (str s.gF))∧w.cell? ⟨Rb,1,none⟩=some (.int .i64 s.cI)∧w.cell? ⟨Rb,2,none⟩=some (.int .i64 s.ends)∧w.cell? ⟨Rb,3,none⟩=some (.bool s.ej)∧w.cell? ⟨Rb,4,none⟩=some sv∧w.cell? ⟨Rb,5,none⟩=some qv∧w.cell? ⟨Rb,6,none⟩=some fv∧w.cell? ⟨Rb,7,none⟩=some gv:=
 ⟨D 0 h.hS,D 1 h.hS,D 2 h.hS,D 3 h.hS,D 4 h.hS,D 5 h.hS,D 6 h.hS,D 7 h.hS⟩
theorem xV(Rb:Nat)(s:az)(id:Int)(z:Int)(hz:dE (fun f:Fl=>f.id==id) s.ag=z)(hl:s.ag.length≤100000)(w:World)(Ms M:Nat→Prop)(h:RR w Ms M Rb s)(R:ak)
 (I:R (.returned (E z)) w):
 Calls prog 125 #[zq Rb,E id] w R:=by
 obtain⟨sv,qv,fv,gv,F⟩:=h;have HR:=Z I;obtain⟨ps,aZ,aq,_⟩:=F.hf;obtain⟨n,hn⟩:=ai s.ag.length;rw[hn] at aq hl;obtain⟨fa,fc,oV⟩:=cR aq;subst oV;have f_:ps.length=n:=by rw[←hn,←aZ];simp
 have c6:=F.cells.2.2.2.2.2.2.1;obtain⟨aV,dR,HZ,HN,jd⟩:=jq aq aZ hz hn f_;clear I F aZ aq hn f_ hz;go_enter func125,ntmps125;go_wp2;go_loopg [5] n (fun gn i wr=>∃k:Nat,k≤n∧gn=n - k∧i= .int .i64 k∧wr=w∧Hid (∀j (hj:j<k) (gA:j<s.ag.length),((s.ag[j]).id==id)=false))
 case atStart=>exact⟨0,bP _,by omega,rfl,rfl,Z (fun j hj=>by omega)⟩
 case round=>
  obtain⟨k,G,rfl,rfl,rfl,eR⟩:=hrel;by_cases au:k<n
  ·have bo:(k:Int)<(n:Int):=by omega
   have fF:k<ps.length:=by have:=jd.O;omega
   have wX:k<s.ag.length:=by have:=HN.O;omega
   obtain⟨g,A⟩:=jF aV.O (by omega);subst A;have qH:s.ag[k]=(ps[k]).2:=by
    have h2:=congrArg (fun l=>l[k]?) dR.O;exact OO
   have fI:wr.cell? ⟨g,k*16,none⟩=some (.int .i64 (s.ag[k]).id):=by
    have h1:=jd.O;have h2:=aV.O.cellAt (k*16+0) (by omega);rw[add_zero] at h2;rw[h2];have h3:=kY 16 bV j5 ps k 0 fF (by omega);rw[add_zero] at h3;rw[h3,qH]
    rfl
   obtain⟨dH,FH⟩:=ai ((s.ag[k]).id);rw[FH] at fI;by_cases he:dH=id
   ·subst he;have B_:Hid (z=(k:Int)):=by
     show _=_;rw[←HZ.O];exact C7 wX (by simp[FH]) (fun j hj=>eR.O j hj (by omega))
    clear qH FH;go_wp2;rw[←B_.O];exact HR.O
   have KK:Hid (∀j (hj:j<k+1) (gA:j<s.ag.length),((s.ag[j]).id==id)=false):=fun j hj gA=>by
    by_cases pQ:j=k
    ·subst pQ;rw[FH]
     simpa using he
    exact eR.O j (by omega) gA
   clear qH FH;exact KJ
  have bo:¬(k:Int)<(n:Int):=by omega
  have B_:Hid (z= -1):=by
   show _=_;rw[←HZ.O];unfold dE;rw[List.findIdx?_eq_none_iff.2 (fun x F=>by
    obtain⟨j,hj,rfl⟩:=lD F;exact eR.O j (by have:=HN.O;omega) hj)]
  go_wp2;rw[←B_.O];exact HR.O
open List (mem_cons_of_mem)
variable{rest:List Im}{ek bY dG:Value}
abbrev aaM(s:az)(sv qv fv gv:Value):Obj:= .cells #[.string (str s.gF),.int .i64 s.cI,.int .i64 s.ends,.bool s.ej,sv,qv,fv,gv] 62 (0,0)
theorem RX.xW(h:RX w Ms M Rb sv qv fv gv s):bw w Rb=62+2:=j6 h.hS
theorem RX.OR(h:RX w Ms M Rb sv qv fv gv s):∀k,qv.ownBlock=some k→bw w k=36+2:=by
 obtain⟨ps,_,h2,_⟩:=h.hq;exact h2.kind
theorem RX.KL(h:RX w Ms M Rb sv qv fv gv s):∀k,fv.ownBlock=some k→bw w k=51+2:=by
 obtain⟨ps,_,h2,_⟩:=h.hf;exact eJ h2
theorem RX.rb(h:RX w Ms M Rb sv qv fv gv s):Rb<w.heap.size:=(eI.1 h.hS).1
theorem RX.fresh(h:RX w Ms M Rb sv qv fv gv s)(au:∀b,Ms b→b<w.heap.size)(U:Below w w w1)(j:Nat)(u v:Value)
 (hv:∀k,v.ownBlock=some k→w.heap.size≤k∧k<w1.heap.size∧vM (bw w1 k)):
 Sep M (fun b=>M b∨v.ownBlock=some b) w (w1.setCell ⟨Rb,j,none⟩ u)∧
 ((∀b,(M b∨v.ownBlock=some b)→vM (bw (w1.setCell ⟨Rb,j,none⟩ u) b))∧(∀b,(M b∨v.ownBlock=some b)→∃m,Ms m∧m≤b)∧(∀b,(M b∨v.ownBlock=some b)→¬Ms b)∧∀b,(M b∨v.ownBlock=some b)→b<(w1.setCell ⟨Rb,j,none⟩ u).heap.size)∧
 (w1.setCell ⟨Rb,j,none⟩ u).ownsRow 0 64 6 sv s.al.length (s.al.flatMap aT)∧
 (∃ps:List (V3×Im),ps.map (·.2)=s.queue∧bh (w1.setCell ⟨Rb,j,none⟩ u) 36 14 qv s.queue.length (ps.flatMap dX)∧∀p∈ps,dk (w1.setCell ⟨Rb,j,none⟩ u) Ms p.1 p.2)∧
 (∃ps:List (V3×Fl),ps.map (·.2)=s.ag∧(w1.setCell ⟨Rb,j,none⟩ u).ownsRow 0 51 16 fv s.ag.length (ps.flatMap bV)∧∀p∈ps,dk (w1.setCell ⟨Rb,j,none⟩ u) Ms p.1 p.2.item)∧
 (w1.setCell ⟨Rb,j,none⟩ u).ownsRow 0 3 1 gv s.aB.length (iv (bA s.aB)):=by
 have bD:=br w1 ⟨Rb,j,none⟩ u;have jJ:w1.heap[Rb]? =some (aaM s sv qv fv gv):=aA h.hS U;have iS:bw w1 Rb=62+2:=j6 jJ;have hz:(w1.setCell ⟨Rb,j,none⟩ u).heap.size=w1.heap.size:=by simp[World.setCell]
 have cH:Sep M (fun b=>M b∨v.ownBlock=some b) w w1:=(Sep.cL U).more (fun b ri=>ri.imp id (fun e=>(hv b e).1)) (fun awX ⟨m,hm,hl⟩=>⟨m,.inl hm,hl⟩);have W:Sep M (fun b=>M b∨v.ownBlock=some b) w (w1.setCell ⟨Rb,j,none⟩ u):=cH.trans (.kV bD (fun k G=>by cases G;exact .inl h.mR));have aI:∀b,b<w.heap.size→b≠Rb→(w1.setCell ⟨Rb,j,none⟩ u).heap[b]? =w.heap[b]?:=fun b ri bf=>(bD.block b (eV ri U.size) (fun e=>bf (Option.some.inj e))).trans (U.block b ri);have kind:∀b,b<w.heap.size→bw (w1.setCell ⟨Rb,j,none⟩ u) b=bw w b:=fun b ri=>by
  by_cases e:b=Rb
  ·subst e;unfold bw;rw[bm _ _ _ _ _ _ jJ,h.hS]
  exact vN (aI b ri e)
 have akK:∀b,w.heap.size≤b→bw (w1.setCell ⟨Rb,j,none⟩ u) b=bw w1 b:=fun b ri=>vN (heap_setCell_other _ _ _ _ (fun e=>by have:=h.rb;have e':b=Rb:=e;omega));have Tf:∀b,(M b∨v.ownBlock=some b)→vM (bw (w1.setCell ⟨Rb,j,none⟩ u) b):=by
  rintro b (hm|hm)
  ·rw[kind b (h.lt b hm)];exact h.kd b hm
  rw[akK b (hv b hm).1];exact(hv b hm).2.2
 have pV:∀b,(M b∨v.ownBlock=some b)→∃m,Ms m∧m≤b:=by
  rintro b (hm|hm)
  ·exact h.lo b hm
  obtain⟨m,h1,h2⟩:=h.lo Rb h.mR;have:=h.rb;have:=(hv b hm).1;exact⟨m,h1,by omega⟩
 have Ca:∀{c:V3}{x:Im},dk w Ms c x→dk (w1.setCell ⟨Rb,j,none⟩ u) Ms c x:=fun F=>F.apart h.kd h.lo W;refine⟨W,⟨Tf,pV,?_,?_⟩,?_,?_,?_,?_⟩
 ·rintro b (hm|hm)
  ·exact h.qG b hm
  ·intro h1;have:=au b h1;have:=(hv b hm).1
   omega
 ·rintro b (hm|hm)
  ·have:=h.lt b hm;have:=U.size
   omega
  ·have:=(hv b hm).2.1
   omega
 ·exact jO h.W (fun k G=>aI k (h.W.lt k G).2 (fun e=>by
   have h1:=eJ h.W k G;rw[e,h.xW] at h1
   revert h1
   decide))
 ·obtain⟨ps,h1,h2,h3⟩:=h.hq;exact⟨ps,h1,h2.wH (fun k G=>aI k (h2.lt k G) (fun e=>by
   have h1:=h2.kind k G;rw[e,h.xW] at h1
   revert h1
   decide)),fun p hp=>Ca (h3 p hp)⟩
 ·obtain⟨ps,h1,h2,h3⟩:=h.hf;exact⟨ps,h1,jO h2 (fun k G=>aI k (h2.lt k G).2 (fun e=>by
   have h1:=eJ h2 k G;rw[e,h.xW] at h1
   revert h1
   decide)),fun p hp=>Ca (h3 p hp)⟩
 exact jO h.A (fun k G=>aI k (h.A.lt k G).2 (fun e=>by
  have h1:=eJ h.A k G;rw[e,h.xW] at h1
  revert h1
  decide))
theorem Th(hr:w1.ownsRow w e size v n xs)(G:vM (e+2)):∀k,v.ownBlock=some k→w.heap.size≤k∧k<w1.heap.size∧vM (bw w1 k):=fun k dS=>⟨(hr.lt k dS).1,(hr.lt k dS).2,by rw[eJ hr k dS];exact G⟩
theorem OS(h:w.ownsRow B e size v n xs):w.ownsRow 0 e size v n xs:=by
 refine⟨h.1,?_⟩;rcases h.2 with hn|⟨g,cap,cur,rfl,hbg,rest⟩
 ·exact .inl hn
 exact .inr ⟨g,cap,cur,rfl,bP _,rest⟩
theorem RX.aaN{ps:List (V3×Fl)}{fs:List Fl}(h:RX w Ms M Rb sv qv fv gv s)(au:∀b,Ms b→b<w.heap.size)(U:Below w w w1)
 (aZ:ps.map (·.2)=fs) (a_:∀p∈ps,dk w Ms p.1 p.2.item) (hr:w1.ownsRow w 51 16 ek fs.length (ps.flatMap bV)):
 ∃M',RX (w1.setCell ⟨Rb,6,none⟩ ek) Ms M' Rb sv qv ek gv {s with ag:=fs}∧Sep M M' w (w1.setCell ⟨Rb,6,none⟩ ek):=by
 obtain⟨W,⟨k1,k2,k3,k4⟩,p1,p2,_,p4⟩:=h.fresh au U 6 ek ek (Th hr (.inr (.inr (.inl rfl))));refine⟨_,⟨?_,p1,p2,⟨ps,aZ,OS (iO hr (aA h.hS U) (by decide) (br w1 ⟨Rb,6,none⟩ ek)),fun p hp=>(a_ p hp).apart h.kd h.lo W⟩,p4,.inl h.mR,fun k G=> .inl (h.ms k G),fun k G=> .inl (h.mq k G),fun k G=> .inr G,h.mg,k1,k2,k3,k4⟩,W⟩;rw[bm _ _ _ _ _ _ (aA h.hS U)]
 rfl
theorem RX.KM{ss:List Sb}(h:RX w Ms M Rb sv qv fv gv s)(au:∀b,Ms b→b<w.heap.size)(U:Below w w w1)
 (hr:w1.ownsRow w 64 6 dG ss.length (ss.flatMap aT)):
 ∃M',RX (w1.setCell ⟨Rb,4,none⟩ dG) Ms M' Rb dG qv fv gv {s with al:=ss}∧Sep M M' w (w1.setCell ⟨Rb,4,none⟩ dG):=by
 obtain⟨W,⟨k1,k2,k3,k4⟩,p1,p2,p3,p4⟩:=h.fresh au U 4 dG dG (Th hr (.inr (.inr (.inr rfl))));refine⟨_,⟨?_,OS (iO hr (aA h.hS U) (by decide) (br w1 ⟨Rb,4,none⟩ dG)),p2,p3,p4,.inl h.mR,fun k G=> .inr G,fun k G=> .inl (h.mq k G),fun k G=> .inl (h.mf k G),h.mg,k1,k2,k3,k4⟩,W⟩;rw[bm _ _ _ _ _ _ (aA h.hS U)]
 rfl
theorem RX.Ti{ps:List (V3×Im)}{qs:List Im}(h:RX w Ms M Rb sv qv fv gv s)(au:∀b,Ms b→b<w.heap.size)(U:Below w w w1)
 (aZ:ps.map (·.2)=qs) (a_:∀p∈ps,dk w Ms p.1 p.2) (hr:w1.ownsRow w 36 14 bY qs.length (ps.flatMap dX)):
 ∃M',RX (w1.setCell ⟨Rb,5,none⟩ bY) Ms M' Rb sv bY fv gv {s with queue:=qs}∧Sep M M' w (w1.setCell ⟨Rb,5,none⟩ bY):=by
 obtain⟨W,⟨k1,k2,k3,k4⟩,p1,_,p3,p4⟩:=h.fresh au U 5 bY bY (Th hr (.inr (.inl rfl)));refine⟨_,⟨?_,p1,⟨ps,aZ,bh.iG (iO hr (aA h.hS U) (by decide) (br w1 ⟨Rb,5,none⟩ bY)),fun p hp=>(a_ p hp).apart h.kd h.lo W⟩,p3,p4,.inl h.mR,fun k G=> .inl (h.ms k G),fun k G=> .inr G,fun k G=> .inl (h.mf k G),h.mg,k1,k2,k3,k4⟩,W⟩;rw[bm _ _ _ _ _ _ (aA h.hS U)]
 rfl
theorem RX.aaO{Il:Value}{gs:List Int}(h:RX w Ms M Rb sv qv fv gv s)(au:∀b,Ms b→b<w.heap.size)(U:Below w w w1)
 (hr:w1.ownsRow w 3 1 Il gs.length (iv (bA gs))):
 ∃M',RX (w1.setCell ⟨Rb,7,none⟩ Il) Ms M' Rb sv qv fv Il {s with aB:=gs}∧Sep M M' w (w1.setCell ⟨Rb,7,none⟩ Il):=by
 obtain⟨W,⟨k1,k2,k3,k4⟩,p1,p2,p3,_⟩:=h.fresh au U 7 Il (.slice none 0 0) (fun k G=>by simp[Value.ownBlock] at G);refine⟨_,⟨?_,p1,p2,p3,OS (iO hr (aA h.hS U) (by decide) (br w1 ⟨Rb,7,none⟩ Il)),.inl h.mR,fun k G=> .inl (h.ms k G),fun k G=> .inl (h.mq k G),fun k G=> .inl (h.mf k G),fun k G hm=> ?_,k1,k2,k3,k4⟩,W⟩
 ·rw[bm _ _ _ _ _ _ (aA h.hS U)]
  rfl
 have:=(hr.lt k G).1;have:=au k hm
 omega
theorem RX.cell(h:RX w Ms M Rb sv qv fv gv s)(au:∀b,Ms b→b<w.heap.size)(j:Nat)(u:Value)(s':az)(hS:(w.setCell ⟨Rb,j,none⟩ u).heap[Rb]? =some (aaM s' sv qv fv gv))
 (e3:s'.al=s.al) (e4:s'.queue=s.queue) (e5:s'.ag=s.ag) (e6:s'.aB=s.aB):RX (w.setCell ⟨Rb,j,none⟩ u) Ms M Rb sv qv fv gv s'∧Sep M M w (w.setCell ⟨Rb,j,none⟩ u):=by
 obtain⟨W,⟨k1,k2,k3,k4⟩,p1,p2,p3,p4⟩:=h.fresh au dg j u (.slice none 0 0) (fun k G=>by simp[Value.ownBlock] at G);refine⟨⟨hS,by rw[e3];exact p1,by rw[e4];exact p2,by rw[e5];exact p3,by rw[e6];exact p4,h.mR,h.ms,h.mq,h.mf,h.mg,fun b U=>k1 b (.inl U),fun b U=>k2 b (.inl U),fun b U=>k3 b (.inl U),fun b U=>k4 b (.inl U)⟩,.kV (br w ⟨Rb,j,none⟩ u) (fun k G=>by cases G;exact h.mR)⟩
theorem RX.pop{c:V3}{pr:List (V3×Im)}(h:RX w Ms M Rb sv qv fv gv s)(au:∀b,Ms b→b<w.heap.size)(aZ:pr.map (·.2)=rest)(a_:∀p∈(c,x)::pr,dk w Ms p.1 p.2)
 (hr:bh w 36 14 bY rest.length (pr.flatMap dX)) (ho:bY.ownBlock=qv.ownBlock):
 RX (w.setCell ⟨Rb,5,none⟩ bY) Ms M Rb sv bY fv gv {s with queue:=rest}∧Sep M M w (w.setCell ⟨Rb,5,none⟩ bY):=by
 obtain⟨W,⟨k1,k2,k3,k4⟩,p1,p2,p3,p4⟩:=h.fresh au dg 5 bY (.slice none 0 0) (fun k G=>by simp[Value.ownBlock] at G);refine⟨⟨?_,p1,⟨pr,aZ,hr.grown (br w ⟨Rb,5,none⟩ bY) (.inl (hr.ne h.hS (by decide))),fun p hp=>(a_ p (mem_cons_of_mem _ hp)).apart h.kd h.lo W⟩,p3,p4,h.mR,h.ms,fun k G=>h.mq k (ho▸G),h.mf,h.mg,fun b U=>k1 b (.inl U),fun b U=>k2 b (.inl U),fun b U=>k3 b (.inl U),fun b U=>k4 b (.inl U)⟩,.kV (br w ⟨Rb,5,none⟩ bY) (fun k G=>by cases G;exact h.mR)⟩;rw[bm _ _ _ _ _ _ h.hS]
 rfl
open List (eraseIdx_eq_take_drop_succ length_eraseIdx_of_lt mem_of_mem_drop)
theorem bh.upto{c:Nat}{i:TypeInfo}(h:bh w e size (.slice Y n c) n xs)(ht:prog.underlying t=some (.slice e))(hi:prog.info? e=some i)(bt:i.size=size)(G:k≤n):
 (∀w',(Instr.slice t (.slice Y n c) none (some (E (k:Int))) none).run prog w'= .ok (.slice Y k c) w')∧Rd w size Y k (xs.take (k*size)):=by
 have he:prog.elem t=e:=by simp[Program.elem,ht]
 have jv:=h.cap;refine⟨fun w'=> ?_,?_⟩
 ·rw[run_slice_h (P:=prog) w' _ Y n c (by rw[he];exact ht) .i64 k (by omega) (by omega),he];cases Y with
  |none=>simp[sizeOf,typeInfo,hi,bt,sliced]
  |some a=>simp[sizeOf,typeInfo,hi,bt,sliced,Addr.add]
 have hr:=h.rd;have xE:=uh size G;refine⟨by rw[bS,hr.1];omega,fun h0=> ?_⟩;obtain⟨b,o,e,J⟩:=hr.2 (by omega);exact⟨b,o,e,fun j hj=>by rw[J j (by omega),ml,if_pos hj]⟩
theorem FI{c:Nat}(h:bh w e size (.slice Y n c) n xs)(U:Below w w w'):Rd w' size Y n xs:=(h.below U).rd
theorem zK(h:∀u∈xs,u.oneCell'=true):∀u∈xs.take k,u.oneCell'=true:=fun u hu=>h u (List.mem_of_mem_take hu)
theorem FJ(h:∀u∈xs,u.oneCell'=true):∀u∈xs.drop k,u.oneCell'=true:=fun u hu=>h u (mem_of_mem_drop hu)
theorem aaP{ps:List (V3×Fl)}(h:∀p∈ps,dk w M p.1 p.2.item):∀u∈ps.flatMap bV,u.oneCell'=true:=fun u hu=>by
 obtain⟨p,hp,hu⟩:=List.mem_flatMap.1 hu;simp only[bV,List.mem_cons] at hu;rcases hu with rfl|rfl|hu
 ·rfl
 ·rfl
 exact(h p hp).X0 u hu
theorem aaQ(Rb:Nat)(s:az)(i:Nat)(hi:i<s.ag.length)(hl:s.ag.length≤100000)(w:World)(Ms M:Nat→Prop)(h:RR w Ms M Rb s)(au:∀b,Ms b→b<w.heap.size)(R:ak)
 (I:∀M' w',RR w' Ms M' Rb {s with ag:=s.ag.eraseIdx i}→Sep M M' w w'→R (.returned (.tuple #[])) w'):
 Calls prog 127 #[zq Rb,E i] w R:=by
 have HR:=Z I;obtain⟨sv,qv,fv,gv,F⟩:=h;obtain⟨ps,aZ,aq,a_⟩:=F.hf;obtain⟨n,hn⟩:=ai s.ag.length;rw[hn] at aq hl hi;obtain⟨fa,fc,rfl⟩:=cR aq;have f_:ps.length=n:=by rw[←hn,←aZ];simp
 obtain⟨i0,cp,_,cJ,_⟩:=info_parts yS;have jv:=(bh.iG aq).cap;obtain⟨FL,nh⟩:=bh.upto (k:=i) (bh.iG (aR aq (bq w))) underlying48 cp cJ (by omega);obtain⟨ax,ov,bE,_⟩:=bh.from (k:=i+1) (bh.iG aq) underlying48 cp cJ (by omega);have pW:=bE.cap;have uA:=aaP a_;have c6:w.drew.cell? ⟨Rb,6,none⟩=_:=F.cells.2.2.2.2.2.2.1;obtain⟨HX,dR,wY,uL,je,OT,HN,jd,fP,eT,fx⟩:=Xk F aZ bE nh a_ uA hn f_ jv pW au;have Tj:∀w',(Instr.slice 48 (.slice fa n fc) (some (.int .i64 ((i:Int)+1))) none none).run prog w'= .ok (.slice ax (n - (i+1)) (fc - (i+1))) w':=ov;have OU:IntKind.i64.wrap ((i:Int)+1)=(i:Int)+1:=by rw[IntKind.wrap_i64];omega
 clear I F aZ aq a_ f_ uA nh bE jv pW hn au ov;go_enter func127,ntmps127;go_wp2_with fail;go_region_law (first
  |(refine yQ (by rfl) (.tmp 6) (.tmp 12) 48 (by rfl) w 51 (Value.agg mo) 16 200 underlying48 yS rfl (by decide) none (by rfl) (bO _ _ _ _) fa i fc _ (by rfl) uL.O (zK OT.O) fP.O.2.2 (by unfold maxLen;omega) (by omega) bj ?_;intro h_ c3 w3 bN an;have EC:=cell_later an c6;have dh:Below w w w3:=ed (bq w) an)
  |(refine ig (by rfl) (.tmp 13) (.tmp 20) 48 (by rfl) w 51 (Value.agg mo) 16 200 underlying48 yS rfl (by decide) h_ i c3 _ (by rfl) bN ax (n - (i+1)) (fc - (i+1)) _ (by rfl) (FI wY.O dh) (FJ OT.O) eT.O.2.2 (by unfold maxLen;omega) (by omega) dh.size ?_;intro oq c4 w4 eQ cV _;have ao:=bT dh cV dh.size bN;have r4:=aA HX.O.hS ao;have e4:=D 6 r4;have f4:=aC r4 6))
 all_goals
  have bk:i+(n - (i+1))=(s.ag.eraseIdx i).length:=by rw[length_eraseIdx_of_lt (by have:=HN.O;omega),HN.O];omega
  obtain⟨M',jP,jQ⟩:=RX.aaN (fs:=s.ag.eraseIdx i) (ps:=ps.eraseIdx i) HX.O fx.O ao (by rw[←dR.O,map_eraseIdx]) (fun p hp=>je.O p (List.mem_of_mem_eraseIdx hp)) (by
   rw[←bk,eraseIdx_eq_take_drop_succ,jZ,←yR 16 bV j5,←C4 16 bV j5];exact eQ)
  have sk:=Z jP;have uM:=Z jQ;clear jP jQ eQ cV ao r4 e4 f4 dh bN EC an bk;go_wp2_with fail;refine bodyPost_ret (results_none rfl _ _ _) rfl ?_;exact HR.O M' _ ⟨sv,qv,_,gv,sk.O⟩ uM.O
theorem akL(Rb:Nat)(s:az)(f:List UInt8)(z:Int)(hz:dE (fun y:Sb=>y.filter==f) s.al=z)(hl:s.al.length≤100000)(w:World)(Ms M:Nat→Prop)(h:RR w Ms M Rb s)(au:∀b,Ms b→b<w.heap.size)(R:ak)
 (I:∀M' w',RR w' Ms M' Rb (if z<0 then s else {s with al:=s.al.eraseIdx z.toNat})→Sep M M' w w'→R (.returned (.bool (decide (0≤z)))) w'):
 Calls prog 80 #[zq Rb,.string (str f)] w R:=by
 obtain⟨sv,qv,fv,gv,F⟩:=h;have HR:=Z I;have W:=F.W;have c4:=F.cells.2.2.2.2.1;have HX:=Z F;have HZ:=Z hz;obtain⟨n,hn⟩:=ai s.al.length;rw[hn] at W hl;obtain⟨ga,gc,rfl⟩:=cR W;obtain⟨i0,cp,_,cJ,_⟩:=info_parts mw;obtain⟨HG,HN,fx⟩:=bX W hn au;clear I F W hn hz au;go_enter func80,ntmps80;go_wp2;go_loopg [5] n (fun gn i wr=>∃k:Nat,k≤n∧gn=n - k∧i= .int .i64 k∧wr=w∧Hid (∀j (hj:j<k) (gA:j<s.al.length),((s.al[j]).filter==f)=false))
 case atStart=>exact⟨0,bP _,by omega,rfl,rfl,Z (fun j hj=>by omega)⟩
 case round=>
  obtain⟨k,G,rfl,rfl,rfl,eR⟩:=hrel;by_cases au:k<n;rotate_left
  ·have bo:¬(k:Int)<(n:Int):=by omega
   have B_:Hid (z= -1):=by
    show _=_;rw[←HZ.O];exact C6 fun y hy=>by
     obtain⟨j,hj,rfl⟩:=lD hy;exact eR.O j (by have:=HN.O;omega) hj
   have cD:=HR.O M wr (by rw[B_.O];exact⟨_,qv,fv,gv,HX.O⟩) (.refl _ _);rw[show decide (0≤z)=false by rw[B_.O];decide] at cD;have lL:=Z cD;clear cD;go_wp2;exact lL.O
  have bo:(k:Int)<(n:Int):=by omega
  have gq:k<s.al.length:=by have:=HN.O;omega
  obtain⟨g,rfl⟩:=jF HG.O (by omega);have fI:=yV HG.O HN.O gq 0 (by omega);obtain⟨v,hv⟩:=ai ((s.al[k]).filter);have xX:wr.cell? ⟨g,k*6,none⟩=some (.string (str v)):=by
   rw[←hv];exact fI
  clear fI;by_cases he:v=f
  ·subst he;have B_:Hid (z=(k:Int)):=by
    show _=_;rw[←HZ.O];exact C7 gq (by simp[hv]) (fun j hj=>eR.O j hj (by omega))
   have jv:=(bh.iG HG.O).cap;obtain⟨FL,nh⟩:=bh.upto (k:=k) (bh.iG (aR HG.O (bq wr))) underlying58 cp cJ (by omega);obtain⟨ax,ov,bE,_⟩:=bh.from (k:=k+1) (bh.iG HG.O) underlying58 cp cJ (by omega);have pW:=bE.cap;have akM:wr.drew.cell? ⟨Rb,4,none⟩=_:=c4;obtain⟨wY,uL,fP,eT⟩:=cF bE nh jv pW;have Tj:∀w',(Instr.slice 58 (.slice (some ⟨g,0,none⟩) n gc) (some (.int .i64 ((k:Int)+1))) none none).run prog w'= .ok (.slice ax (n - (k+1)) (gc - (k+1))) w':=ov;have OU:IntKind.i64.wrap ((k:Int)+1)=(k:Int)+1:=by rw[IntKind.wrap_i64];omega
   have Ju:((str v).toList==(str v).toList)=true:=by simp
   clear nh bE jv pW ov hv eR;go_wp2_with fail;go_region_law (first
    |(refine yQ (by rfl) (.tmp 27) (.tmp 33) 58 (by rfl) wr 64 (.agg gB) 6 48 underlying58 mw rfl (by decide) none (by rfl) (bO _ _ _ _) (some ⟨g,0,none⟩) k gc _ (by rfl) uL.O (zK (vw _)) (fun h=>by cases h) (by unfold maxLen;omega) (by omega) bj ?_;intro h_ c3 w3 bN an;have akN:=cell_later an akM;have dh:Below wr wr w3:=ed (bq wr) an)
    |(refine ig (by rfl) (.tmp 34) (.tmp 41) 58 (by rfl) wr 64 (.agg gB) 6 48 underlying58 mw rfl (by decide) h_ k c3 _ (by rfl) bN ax (n - (k+1)) (gc - (k+1)) _ (by rfl) (FI wY.O dh) (FJ (vw _)) eT.O.2.2 (by unfold maxLen;omega) (by omega) dh.size ?_;intro oq Io w4 eQ cV _;have ao:=bT dh cV dh.size bN;have r4:=aA HX.O.hS ao;have e4:=D 4 r4;have f4:=aC r4 4))
   all_goals
    have sL:k+(n - (k+1))=(s.al.eraseIdx k).length:=by
     rw[length_eraseIdx_of_lt (by have:=HN.O;omega),HN.O]
     omega
    obtain⟨M',jP,jQ⟩:=RX.KM (ss:=s.al.eraseIdx k) HX.O fx.O ao (by
     rw[←sL,eraseIdx_eq_take_drop_succ,jZ,←yR 6 aT ij,←C4 6 aT ij];exact eQ)
    have sk:=Z jP;have uM:=Z jQ;clear jP jQ eQ cV ao r4 e4 f4 dh bN akN an sL;have cD:=HR.O M' _ (by rw[B_.O,if_neg (by omega),toNat_natCast];exact⟨_,qv,fv,gv,sk.O⟩) uM.O;rw[show decide (0≤z)=true by rw[B_.O];simp] at cD;have lL:=Z cD;clear cD;go_wp2_with fail;exact lL.O
  have Ju:((str v).toList==(str f).toList)=false:=by rw[Ny];simpa using he
  have KK:Hid (∀j (hj:j<k+1) (gA:j<s.al.length),((s.al[j]).filter==f)=false):=fun j hj gA=>by
   by_cases pQ:j=k
   ·subst pQ;rw[hv]
    simpa using he
   exact eR.O j (by omega) gA
  have Hu:¬str v=str f:=fun e=>he (by
   have h1:=Nx v;rw[e,Nx] at h1;exact h1.symm)
  have OV:(v==f)=false:=by simpa using he
  clear hv;exact KJ
variable{f:Fl}{z:Int}{i:Nat}
theorem RX.bJ(h:RX w Ms M Rb sv qv fv gv s)(l:List Int):RX w Ms M Rb sv qv fv gv {s with bJ:=l}:=
 ⟨h.hS,h.W,h.hq,h.hf,h.A,h.mR,h.ms,h.mq,h.mf,h.mg,h.kd,h.lo,h.qG,h.lt⟩
theorem RR.bJ(h:RR w Ms M Rb s)(l:List Int):RR w Ms M Rb {s with bJ:=l}:=by
 obtain⟨sv,qv,fv,gv,F⟩:=h;exact⟨sv,qv,fv,gv,F.bJ l⟩
theorem OW(Rb:Nat)(s:az)(cu:Int)(b:Bool)(U:mQ s cu=b)(w:World)(Ms M:Nat→Prop)(h:RR w Ms M Rb s)(qD:s.queue.length≤100000)(R:ak)
 (I:R (.returned (.bool b)) w):
 Calls prog 83 #[zq Rb,E cu] w R:=by
 obtain⟨sv,qv,fv,gv,F⟩:=h;have HR:=Z I;obtain⟨ps,aZ,aq,_⟩:=F.hq;obtain⟨fs,_,g_,_⟩:=F.hf;obtain⟨fa,fc,rfl⟩:=cR g_;obtain⟨va,vc,rfl⟩:=aq.shape;have c6:=F.cells.2.2.2.2.2.1;have c7:=F.cells.2.2.2.2.2.2.1;obtain⟨n,hn⟩:=ai s.queue.length;obtain⟨m,hm⟩:=ai s.ag.length;rw[hn] at c6 aq;rw[hm] at c7;obtain⟨HB,HN,HM⟩:=bX U hn hm;clear I F U g_
 match hq:s.queue with
 |[]=>
  have dK:n=0:=by rw[←HN.O,hq];rfl
  subst dK;obtain rfl:false=b:=by rw[←HB.O];unfold mQ;rw[hq]
  clear hq hn hm;go_enter func83,ntmps83;go_wp2;exact HR.O
 |x::rest=>
  have dK:0<n:=by rw[←HN.O,hq];simp
  have oT:(0:Int)<(n:Int):=by omega
  rw[hq] at aZ;obtain⟨p,pr,rfl⟩:∃p pr,ps=p::pr:=by
   cases ps with
   |nil=>simp at aZ
   |cons p pr=>exact⟨p,pr,rfl⟩
  obtain⟨c,y⟩:=p;obtain rfl:y=x:=by simp at aZ;exact aZ.1
  obtain⟨g,o,rfl,bg,_⟩:=aq.at dK;rw[lT] at bg;have fD:=aaj bg dK;have ri:(y.ah==0 || (decide ((m:Int)<cu)&&decide (m<8)))=b:=by
   rw[←HB.O,←HM.O];unfold mQ;rw[hq]
  have cT:=Z ri;clear bg aq aZ hq ri hn hm;by_cases hz:y.ah=0
  ·obtain rfl:true=b:=by rw[←cT.O];simp[hz]
   have kx:(y.ah==0)=true:=by simp[hz]
   rw[hz] at fD;clear hz kx;go_enter func83,ntmps83;go_wp2;exact HR.O
  have kx:(y.ah==0)=false:=by simp[hz]
  by_cases h1:(m:Int)<cu
  ·by_cases h2:m<8
   ·have wK:(m:Int)<8:=by omega
    obtain rfl:true=b:=by rw[←cT.O,kx];simp[h1,h2]
    go_enter func83,ntmps83;go_wp2;exact HR.O
   ·have wK:¬(m:Int)<8:=by omega
    obtain rfl:false=b:=by rw[←cT.O,kx];simp[h2]
    go_enter func83,ntmps83;go_wp2;exact HR.O
  obtain rfl:false=b:=by rw[←cT.O,kx];simp[h1]
  go_enter func83,ntmps83;go_wp2;exact HR.O
theorem RR.Dr(h:RR w Ms M Rb s)(hi:i<s.ag.length)(hf:s.ag[i]=f):∃sv qv g n fc gv v1 v2 v3,∃ps:List (V3×Fl),RX w Ms M Rb sv qv (.slice (some ⟨g,0,none⟩) n fc) gv s∧n=s.ag.length∧ps.map (·.2)=s.ag∧∃oC:i<ps.length,ps[i]=((v1,v2,v3),f)∧ps.length=n∧
 w.ownsRow 0 51 16 (.slice (some ⟨g,0,none⟩) n fc) n (ps.flatMap bV)∧(∀p∈ps,dk w Ms p.1 p.2.item)∧(∀j,j<16→w.cell? ⟨g,i*16+j,none⟩= [Value.int .i64 f.id,.int .i64 f.state,.string (str f.item.note.aF),v1,.int .i64 f.item.note.ah,.bool f.item.note.aL,.string (str f.item.note.src),.int .i64 f.item.note.aP,v2,.int .i64 f.item.note.origin,.int .i64 f.item.note.number,.int .i64 f.item.note.aW,.int .i64 f.item.ah,.bool f.item.aI,v3,.string (str f.item.share)][j]?)∧w.cell? ⟨g,i*16+1,none⟩=some (.int .i64 f.state)∧w.cell? ⟨Rb,6,none⟩=some (.slice (some ⟨g,0,none⟩) n fc)∧(i:Int)<(n:Int):=by
 obtain⟨sv,qv,fv,gv,F⟩:=h;obtain⟨ps,aZ,aq,a_⟩:=id F.hf;have bk:s.ag.length=ps.length:=by rw[←aZ];simp
 have oC:i<ps.length:=by omega
 have ajD:=aq;rw[bk] at aq;obtain⟨fa,fc,oV⟩:=cR aq;subst oV;obtain⟨g,A⟩:=jF aq (by omega);subst A;have pL:(ps[i]).2=f:=by
  exact ZA
 have J:=JF aq oC;obtain⟨⟨⟨v1,v2,v3⟩,f'⟩,hp⟩:∃p,ps[i]=p:=⟨_,rfl⟩
 rw[hp] at pL J;simp only at pL;subst pL;exact⟨sv,qv,g,ps.length,fc,gv,v1,v2,v3,ps,F,bk.symm,aZ,oC,hp,rfl,aq,a_,J,J 1 (by omega),F.cells.2.2.2.2.2.2.1,by omega⟩
def Cb(s:az)(z st:Int):az×Bool:=match s.ag[z.toNat]? with
 |none=>(s,false)
 |some f=>if z<0 then (s,false) else if f.state=st then ({s with ag:=s.ag.eraseIdx z.toNat},true) else (s,false)
theorem Tk{st:Int}(h:z<0):Cb s z st=(s,false):=by
 unfold Cb
 split
 ·rfl
 rw[if_pos h]
theorem OX{st:Int}(h:i<s.ag.length):Cb s (i:Int) st=if (s.ag[i]).state=st then ({s with ag:=s.ag.eraseIdx i},true) else (s,false):=by
 unfold Cb;simp[dW h];intro h0
 omega
theorem aaR{P:Prop}(h:P:=by
 go_wp2_with (first
  |(go_at_call 125;go_must(refine xV Rb s id (-1) HZ.O hl _ Ms M H.O _ ?_)))
 exact HR.O M w H.O (.refl _ _)):P:=h
theorem aaS{P:Prop}(h:P:=by
 go_wp2_with (first
  |(go_at_call 125;go_must(refine xV Rb s id k HZ.O HL.O _ Ms M H.O _ ?_)))
 exact HR.O M w H.O (.refl _ _)):P:=h
theorem aaT{P:Prop}(h:P:=by
 go_wp2_with (first
  |(go_at_call 125;go_must(refine xV Rb s id k HZ.O HL.O _ Ms M H.O _ ?_))
  |(go_at_call 127;go_must(refine aaQ Rb s k HK.O HL.O _ Ms M H.O fx.O _ ?_);intro M' w' BH cK;have Tl:=Z BH;have Tm:=Z cK;clear BH cK))
 refine HR.O _ _ ?_ Tm.O;rw[←iH.O];exact Tl.O):P:=h
theorem akO(Rb:Nat)(s:az)(id z:Int)(hz:dE (fun f:Fl=>f.id==id) s.ag=z)(hl:s.ag.length≤100000)(s':az)(b:Bool)(ht:Cb s z 1=(s',b))(w:World)(Ms M:Nat→Prop)(h:RR w Ms M Rb s)(au:∀b,Ms b→b<w.heap.size)(R:ak)
 (I:∀M' w',RR w' Ms M' Rb s'→Sep M M' w w'→R (.returned (.bool b)) w'):
 Calls prog 71 #[zq Rb,E id] w R:=by
 obtain⟨HR,H,HZ⟩:=bX I h hz;clear I;by_cases h0:0≤z
 ·obtain⟨k,G,rfl,q1,q2⟩:=zv hz h0;obtain⟨f,hf⟩:=ai (s.ag[k]);rw[OX G,hf] at ht;obtain⟨sv,qv,g,n,fc,gv,v1,v2,v3,ps,F,hn,q3,q4,q5,q6,q7,q8,q9,c1,c6,jh⟩:=h.Dr G hf;obtain⟨st,cB⟩:=ai f.state;rw[cB] at ht c1;obtain⟨HT,fx,HK,HL⟩:=cF ht au G hl;have gL:¬(k:Int)<0:=by omega
  clear q1 q2 q3 q5 q6 q7 q8 q9 q4 h F hn hz cB hf ht au h0 G hl;by_cases he:st=1
  ·subst he;have cK:{s with ag:=s.ag.eraseIdx k}=s'∧true=b:=by have:=HT.O;rw[if_pos rfl] at this;simpa using this
   obtain⟨cH,rfl⟩:=cK;have iH:=Z cH;clear cH;go_enter func71,ntmps71;exact aaT
  have bf:(st != 1)=true:=by simp[he]
  have cK:s=s'∧false=b:=by have:=HT.O;rw[if_neg he] at this;simpa using this
  obtain⟨cH,rfl⟩:=cK;subst cH;clear he;go_enter func71,ntmps71;exact aaS
 obtain⟨rfl,_⟩:=BV hz (by omega);rw[Tk (by omega)] at ht;simp only[Prod.mk.injEq] at ht;obtain⟨rfl,rfl⟩:=ht;clear hz h0 h;go_enter func71,ntmps71;exact aaR
theorem akP(Rb:Nat)(s:az)(id z:Int)(hz:dE (fun f:Fl=>f.id==id) s.ag=z)(hl:s.ag.length≤100000)(s':az)(b:Bool)(ht:Cb s z 3=(s',b))(w:World)(Ms M:Nat→Prop)(h:RR w Ms M Rb s)(au:∀b,Ms b→b<w.heap.size)(R:ak)
 (I:∀M' w',RR w' Ms M' Rb s'→Sep M M' w w'→R (.returned (.bool b)) w'):
 Calls prog 73 #[zq Rb,E id] w R:=by
 obtain⟨HR,H,HZ⟩:=bX I h hz;clear I;by_cases h0:0≤z
 ·obtain⟨k,G,rfl,q1,q2⟩:=zv hz h0;obtain⟨f,hf⟩:=ai (s.ag[k]);rw[OX G,hf] at ht;obtain⟨sv,qv,g,n,fc,gv,v1,v2,v3,ps,F,hn,q3,q4,q5,q6,q7,q8,q9,c1,c6,jh⟩:=h.Dr G hf;obtain⟨st,cB⟩:=ai f.state;rw[cB] at ht c1;obtain⟨HT,fx,HK,HL⟩:=cF ht au G hl;have gL:¬(k:Int)<0:=by omega
  clear q1 q2 q3 q5 q6 q7 q8 q9 q4 h F hn hz cB hf ht au h0 G hl;by_cases he:st=3
  ·subst he;have cK:{s with ag:=s.ag.eraseIdx k}=s'∧true=b:=by have:=HT.O;rw[if_pos rfl] at this;simpa using this
   obtain⟨cH,rfl⟩:=cK;have iH:=Z cH;clear cH;go_enter func73,ntmps73;exact aaT
  have bf:(st != 3)=true:=by simp[he]
  have cK:s=s'∧false=b:=by have:=HT.O;rw[if_neg he] at this;simpa using this
  obtain⟨cH,rfl⟩:=cK;subst cH;clear he;go_enter func73,ntmps73;exact aaS
 obtain⟨rfl,_⟩:=BV hz (by omega);rw[Tk (by omega)] at ht;simp only[Prod.mk.injEq] at ht;obtain⟨rfl,rfl⟩:=ht;clear hz h0 h;go_enter func73,ntmps73;exact aaR
theorem aaU{P:Prop}(h:P:=by
 exact⟨qs,q1,q2.wH (fun k dS=>aI k (q2.lt k dS) (by rw[q2.kind k dS];decide)),fun p hp=>(q3 p hp).apart h.kd h.lo W⟩):P:=h
open List (getElem_mem getElem_set_ne mem_or_eq_of_mem_set)
open Nat (div_lt_of_lt_mul mod_lt mul_comm)
variable{fine:Bool}{C g:Nat}
theorem Tn{α:Type}{c:Nat}(f:α→List Value)(hf:∀x,(f x).length=C)(hC:0<C){ps:List α}(hn:ps.length=n)(G:k<n)(h:w.ownsRow B e C (.slice (some ⟨g,0,none⟩) n c) n (ps.flatMap f))(p:α):
 (w.setCells g (k*C) (f p)).ownsRow B e C (.slice (some ⟨g,0,none⟩) n c) n ((ps.set k p).flatMap f):=by
 subst hn;have bk:(ps.set k p).length=ps.length:=by simp
 refine⟨by rw[fY C f hf,bk],?_⟩;rcases h.2 with⟨hv,h0⟩|⟨g',cap,cur,gp,hB,A,e1,e2,e3,e4⟩
 ·cases hv
 simp only[Value.slice.injEq,Option.some.injEq,Addr.mk.injEq] at gp;obtain⟨⟨rfl,-,-⟩,-,rfl⟩:=gp;obtain⟨kj,m1,m2,m3⟩:=pB g e (f p) (k*C) w cur A;refine .inr ⟨g,c,kj,rfl,hB,m1,e1,e2,by rw[m2];exact e3,?_⟩;have dQ:ps.length*C≤cur.size:=by
  have:=congrArg List.length e4;rw[fY C f hf,bS] at this;simp at this
  omega
 have bZ:∀j,j<ps.length*C→cur[j]? =(ps.flatMap f)[j]?:=fun j hj=>by
  rw[←e4,ml,if_pos hj];simp
 apply List.ext_getElem?;intro j;rw[ml];by_cases hj:j<ps.length*C
 ·rw[if_pos hj];have e0:kj.toList[j]? =kj[j]?:=by simp
  have hr:j % C<C:=mod_lt _ hC;have oB:j / C*C+j % C=j:=by rw[mul_comm];exact Nat.div_add_mod j C
  have hi:j / C<ps.length:=div_lt_of_lt_mul (by rw[mul_comm];exact hj);have W:=kY C f hf (ps.set k p) (j / C) (j % C) (by simpa using hi) hr;have ho:=kY C f hf ps (j / C) (j % C) hi hr;rw[oB] at W ho;rw[e0,m3,W,hf];by_cases wI:j / C=k
  ·have mA:(ps.set k p)[j / C]'(by simpa using hi)=p:=by simp[wI]
   rw[mA];rw[wI] at oB;rw[if_pos (by omega)]
   congr 1
   omega
  have mA:(ps.set k p)[j / C]'(by simpa using hi)=ps[j / C]:=by
   rw[getElem_set_ne (by omega)]
  have akQ:¬(k*C≤j∧j<k*C+C∧j<cur.size):=by
   rintro⟨a,b,_⟩;apply wI;rw[show j=(j - k*C)+k*C by omega,Nat.add_mul_div_right _ _ hC,Nat.div_eq_of_lt (by omega)]
   omega
  rw[mA,if_neg akQ,bZ j hj,ho]
 rw[if_neg hj,xz (by rw[fY C f hf,bk];omega)]
theorem RX.SK{ps:List (V3×Fl)}{fs:List Fl}(h:RX w Ms M Rb sv qv fv gv s)(hv:fv.ownBlock=some g)(aZ:ps.map (·.2)=fs)(a_:∀p∈ps,dk w Ms p.1 p.2.item)
 (hr:w1.ownsRow 0 51 16 fv fs.length (ps.flatMap bV)) (A:w.grownBy w1 (some g)):RX w1 Ms M Rb sv qv fv gv {s with ag:=fs}∧Sep M M w w1:=by
 have G:=h.KL g hv;have W:Sep M M w w1:= .kV A (fun k G=>by cases G;exact h.mf g hv);have aI:∀b,b<w.heap.size→bw w b≠51+2→w1.heap[b]? =w.heap[b]?:=fun b U bf=>A.block b U (fun e=>bf (by
  have e:=Option.some.inj e;rw[e];exact G))
 refine⟨⟨(aI Rb h.rb (by rw[h.xW];decide)).trans h.hS,jO h.W (fun k dS=>aI k (h.W.lt k dS).2 (by rw[eJ h.W k dS];decide)),?_,⟨ps,aZ,hr,fun p hp=>(a_ p hp).apart h.kd h.lo W⟩,jO h.A (fun k dS=>aI k (h.A.lt k dS).2 (by rw[eJ h.A k dS];decide)),h.mR,h.ms,h.mq,h.mf,h.mg,fun b U=> ?_,h.lo,h.qG,fun b U=>eV (h.lt b U) A.size⟩,W⟩
 ·obtain⟨qs,q1,q2,q3⟩:=h.hq;exact aaU
 by_cases e:b=g
 ·subst e;rw[eJ hr b hv];exact .inr (.inr (.inl rfl))
 rw[vN (A.block b (h.lt b U) (fun e'=>e (Option.some.inj e')))];exact h.kd b U
theorem akR{P:Program}{ops:Array Oper}{rest:List Oper}{o:Oper}{a:Act}{Q:Exit→Act→World→Prop}(oe:o.guard=none)(s x:Operand)(t:TypeId)
 (ho:o.op= .call {callee:= .builtin .append,args:=#[s,x],argTypes:=#[t,t]})
 (base:Nat) (e:TypeId) (z:Value) (size bytes:Nat) (ht:P.underlying t=some (.slice e)) (mn:(P.info? e).map (fun i=>(i.zero,i.size,i.bytes))=some (some z,size,bytes)) (iY:z.cells.size=size) (bt:0<size)
 (a0:av) (W:a.eval s= .slice a0 0 0) (aU:w.ownsRow base e size (.slice a0 0 0) 0 [])
 (Y:av) (m c:Nat) (news:List Value) (F:a.eval x= .slice Y m c) (bQ:Rd w size Y m news) (h1:∀u∈news,u.oneCell'=true) (iN:Y=none→c=0)
 (h63:m≤maxLen) (gz:m*bytes≤140737488355328) (kG:base≤w.heap.size)
 (h:∀bK c' w',w'.ownsRow base e size (.slice bK m c') m news→Below w w w'→wpList P ops Q rest (a.put o.dst (.slice bK m c')) w'):wpList P ops Q (o::rest) a w:=
 wpList_plain oe fun _ hK=>XT s x t ho base e z size bytes ht mn iY bt a0 W aU Y m c news F bQ h1 iN h63 gz kG fun bK c' w' h2 h3=>hK _ _ (h bK c' w' h2 h3)
def FM(s:az)(z:Int)(fine:Bool):az×Bool×Bool:=match s.ag[z.toNat]? with
 |none=>(s,false,false)
 |some f=>if z<0 then (s,false,false) else if f.state=1 then (s,false,false) else if f.state=3 then (s,true,true) else if fine=false then ({s with ag:=s.ag.eraseIdx z.toNat},true,false) else ({s with ag:=s.ag.set z.toNat ⟨f.id,3,lx f.item⟩},true,true)
theorem aaV(h:z<0):FM s z fine=(s,false,false):=by
 unfold FM
 split
 ·rfl
 rw[if_pos h]
theorem To(h:i<s.ag.length):FM s (i:Int) fine=if (s.ag[i]).state=1 then (s,false,false) else if (s.ag[i]).state=3 then (s,true,true) else if fine=false then ({s with ag:=s.ag.eraseIdx i},true,false) else ({s with ag:=s.ag.set i ⟨(s.ag[i]).id,3,lx (s.ag[i]).item⟩},true,true):=by
 unfold FM;simp[dW h];intro h0
 omega
theorem aaW{P:Prop}(h:P:=by
 cases cK;go_enter func72,ntmps72;go_wp2_with (first
  |(go_at_call 125;go_must(refine xV Rb s dH k HZ.O HL.O _ Ms M H.O _ ?_)))
 exact HR.O M w H.O (.refl _ _)):P:=h
theorem akS(Rb:Nat)(s:az)(id z:Int)(fine:Bool)(hz:dE (fun f:Fl=>f.id==id) s.ag=z)(hl:s.ag.length≤100000)(s':az)(a b:Bool)(ht:FM s z fine=(s',a,b))(w:World)(Ms M:Nat→Prop)(h:RR w Ms M Rb s)(au:∀b,Ms b→b<w.heap.size)(R:ak)
 (I:∀M' w',RR w' Ms M' Rb s'→Sep M M' w w'→R (.returned (.tuple #[.bool a,.bool b])) w'):
 Calls prog 72 #[zq Rb,E id,.bool fine] w R:=by
 obtain⟨HR,H,HZ,fx,HL⟩:=jq I h hz au hl;clear I;by_cases h0:0≤z;rotate_left
 ·obtain⟨rfl,_⟩:=BV hz (by omega);rw[aaV (by omega)] at ht;simp only[Prod.mk.injEq] at ht;obtain⟨rfl,rfl,rfl⟩:=ht;clear hz h0 h;go_enter func72,ntmps72;go_wp2_with (first
   |(go_at_call 125;go_must(refine xV Rb s id (-1) HZ.O HL.O _ Ms M H.O _ ?_)))
  exact HR.O M w H.O (.refl _ _)
 obtain⟨k,G,rfl,q1,q2⟩:=zv hz h0;obtain⟨⟨dH,fst,x⟩,hf⟩:∃f,s.ag[k]=f:=⟨_,rfl⟩
 have FH:dH=id:=by
  rw[hf] at q1
  simpa using q1
 subst FH;rw[To G,hf] at ht;obtain⟨sv,qv,g,n,fc,gv,v1,v2,v3,ps,F,hn,aZ,oC,pL,f_,aq,a_,J,c1,c6,jh⟩:=h.Dr G hf;simp only at ht c1;have rK:(((v1,v2,v3),⟨dH,fst,x⟩):V3×Fl)∈ps:=by
  have:=getElem_mem oC;rw[pL] at this;exact this
 have jL:=Z (a_ _ rK).2;obtain⟨⟨V,X,e1⟩,⟨qa,qc,e2⟩,ea,ec,e3⟩:=(a_ _ rK).1.O.shape;simp only at e1 e2 e3;subst e1 e2 e3;have HK:=Z G;have gL:¬(k:Int)<0:=by omega
 obtain⟨HX,HN,dR,Kl,jd,aV,je,HC,HT⟩:=CO F hn aZ pL f_ aq a_ J ht;clear q1 q2 hz hf ht au h0 hl h F hn aZ pL f_ aq a_ J G rK;by_cases h1:fst=1
 ·subst h1;have cK:=HT.O;rw[if_pos rfl] at cK;exact aaW
 have zj:(fst==1)=false:=by simpa using h1
 by_cases h3:fst=3
 ·subst h3;have cK:=HT.O;rw[if_neg h1,if_pos rfl] at cK;exact aaW
 have su:(fst==3)=false:=by simpa using h3
 have cK:=HT.O;rw[if_neg h1,if_neg h3] at cK;clear h1 h3;cases fine with
 |false=>
  rw[if_pos rfl] at cK;cases cK;go_enter func72,ntmps72;go_wp2_with (first
   |(go_at_call 125;go_must(refine xV Rb s dH k HZ.O HL.O _ Ms M H.O _ ?_))
   |(go_at_call 127;go_must(refine aaQ Rb s k HK.O HL.O _ Ms M H.O fx.O _ ?_);intro M' w' BH cK;have Tl:=Z BH;have Tm:=Z cK;clear BH cK))
  exact HR.O _ _ Tl.O Tm.O
 |true=>
  rw[if_neg (by decide)] at cK;have gu:=Z cK;clear cK;have lO:n≤100000:=by have:=HN.O;have:=HL.O;omega
  have N1:=Z (aH w (.cells mo 51));have an:Below w w (w.alloc (.cells (cA dH fst x V X qa qc ea ec) 51)):=aD _ _;have cq:=Z an;have EC:=cell_later an c6;have aaX:=((bh.iG aV.O).below an).rd;have akT:=Z aaX;have jv:=(bh.iG aV.O).cap;have avn:=Z jv;have DF:=aH w (.cells (cA dH fst x V X qa qc ea ec) 51);have sI:=Z DF;clear an aaX jv DF;go_enter func72,ntmps72;go_wp2_with (first
   |(go_at_call 125;go_must(refine xV Rb s dH k HZ.O HL.O _ Ms M H.O _ ?_))
   |(refine iT 47 51 46 g ((k*16)) ((cA dH fst x V X qa qc ea ec)) HC.O underlying51 ?_)
   |(refine gw 51 9 47 w.heap.size N1.O ?_;rw[World.setRow_alloc_new])
   |(at_builtin;go_must(refine akR (by rfl) (.tmp 49) (.tmp 53) 48 (by rfl) w 51 (Value.agg mo) 16 200 underlying48 yS rfl (by decide) none (by rfl) (bO _ _ _ _) (some ⟨g,0,none⟩) n fc _ (by rfl) akT.O (aaP je.O) (fun h=>by cases h) (by unfold maxLen;omega) (by omega) cq.O.size ?_);intro oq c4 w4 eQ ao;have nL:=cq.O.trans (ao.mono cq.O.size);have N4:=Z (aA sI.O ao);have r4:=aA HX.O.hS nL;have e4:=D 6 r4;have f4:=aC r4 6;have oU:=Z eQ;have dj:=Z nL;clear eQ ao nL r4))
  obtain⟨M5,bu,jj⟩:=RX.aaN (fs:=s.ag) (ps:=ps) HX.O fx.O dj.O dR.O je.O (by rw[←HN.O];exact oU.O);have bf:Rb≠w.heap.size:=fun e=>by have:=HX.O.rb;omega
  have fE:=OS (iO oU.O (aA HX.O.hS dj.O) (by decide) (br w4 ⟨Rb,6,none⟩ (.slice oq n c4)));have N5:(w4.setCell ⟨Rb,6,none⟩ (.slice oq n c4)).heap[w.heap.size]? =some (.cells (cA dH fst x V X qa qc ea ec) 51):=(heap_setCell_other _ _ _ _ (fun e=>bf e.symm)).trans N4.O;have Ii:∀b,Ms b→b<(w4.setCell ⟨Rb,6,none⟩ (.slice oq n c4)).heap.size:=fun b U=>eV (fx.O b U) jj.size;obtain⟨g4,rfl⟩:=jF fE (by omega);have c0:=bu.cells.2.2.2.2.2.2.1;have c2:=D 2 N5;clear e4 f4 c6 EC c1;generalize w4.setCell ⟨Rb,6,none⟩ (.slice (some ⟨g4,0,none⟩) n c4)=w5 at bu jj fE N5 Ii c0 c2⊢;have KN:=fun p hp=>(je.O p hp).apart HX.O.kd HX.O.lo jj;have ky:=aR fE (bq w5);have DG:∀j,j<16→(w5.drew.cell? ⟨g4,k*16+j,none⟩).isSome=true:=fun j hj=>by
   have g_:=fY 16 bV j5 ps;have:=jd.O;rw[ky.cellAt (k*16+j) (by omega),dW (by omega)]
   rfl
  have uN:∀j,j<16→w5.drew.frozen? ⟨g4,k*16+j,none⟩=false:=fun j _=>ky.frozenAt _;obtain⟨ff,nH,Tp,Ik,akU,mB,sM⟩:=qV bu jj ky Ii KN DG uN;have avo:w5.drew.cell? ⟨Rb,6,none⟩=some (.slice (some ⟨g4,0,none⟩) n c4):=c0;have avp:w5.drew.cell? ⟨w,2,none⟩=some (.string (str x.note.aF)):=c2;clear bu jj fE N5 Ii KN ky DG uN c0 c2;go_still_tail 14,(by kernel_rfl)
  change wpList _ _ _ _ _ w5.drew
  go_wp2_with (refine EF (o:=⟨none,.store 51 (.tmp 70) (.tmp 69),_,_,_,_⟩) (by rfl) 51 (.tmp 70) (.tmp 69) (by rfl) g4 (k*16) #[Value.int .i64 dH,E 3,.string (str x.note.aF),.slice none 0 0,E 0,.bool false,.string ⟨#[]⟩,E 0,.slice none 0 0,E 0,E 0,E 0,E 2,.bool false,.slice none 0 0,.string ⟨#[]⟩] (by rfl) (by rfl) mB.O sM.O (by kernel_rfl) (by simp[Value.oneCell']) ?_);have mA:=Tn bV j5 (by decide) jd.O (k:=k) (by omega) Tp.O ((.slice none 0 0,.slice none 0 0,.slice none 0 0),⟨dH,3,lx x⟩);have Oo:(ps.set k ((.slice none 0 0,.slice none 0 0,.slice none 0 0),⟨dH,3,lx x⟩)).map (·.2)=s.ag.set k ⟨dH,3,lx x⟩:=by rw[List.map_set,dR.O]
  have Ds:(s.ag.set k ⟨dH,3,lx x⟩).length=n:=by rw[qU,←HN.O]
  have fJ:=ff.O.below (bq w5);rw[←Ds] at mA;rw[←Ds] at fJ;obtain⟨iz,xM⟩:=RX.SK fJ rfl Oo (fun p hp=>by
   rcases mem_or_eq_of_mem_set hp with hp|rfl
   ·exact(akU.O p hp).sep (.cL (bq w5))
   exact ZB _ jL.O) mA (qZ _ _ _ _)
  rw[Ds] at iz;cases gu.O;exact HR.O M5 _ ⟨sv,qv,_,gv,iz⟩ ((nH.O.below (bq w5)).trans xM)
def wZ(a b:List UInt8):Bool:=Op.bytesLess a b
theorem RX.Tq{ss:List Sb}(h:RX w Ms M Rb sv qv fv gv s)(hv:sv.ownBlock=some g)
 (hr:w1.ownsRow 0 64 6 sv ss.length (ss.flatMap aT)) (A:w.grownBy w1 (some g)):RX w1 Ms M Rb sv qv fv gv {s with al:=ss}∧Sep M M w w1:=by
 have G:bw w g=64+2:=eJ h.W g hv;have W:Sep M M w w1:= .kV A (fun k G=>by cases G;exact h.ms g hv);have aI:∀b,b<w.heap.size→bw w b≠64+2→w1.heap[b]? =w.heap[b]?:=fun b U bf=>A.block b U (fun e=>bf (by
  have e:=Option.some.inj e;rw[e];exact G))
 refine⟨⟨(aI Rb h.rb (by rw[h.xW];decide)).trans h.hS,hr,?_,?_,jO h.A (fun k dS=>aI k (h.A.lt k dS).2 (by rw[eJ h.A k dS];decide)),h.mR,h.ms,h.mq,h.mf,h.mg,fun b U=> ?_,h.lo,h.qG,fun b U=>eV (h.lt b U) A.size⟩,W⟩
 ·obtain⟨qs,q1,q2,q3⟩:=h.hq;exact aaU
 ·obtain⟨qs,q1,q2,q3⟩:=h.hf;exact⟨qs,q1,jO q2 (fun k dS=>aI k (q2.lt k dS).2 (by rw[eJ q2 k dS];decide)),fun p hp=>(q3 p hp).apart h.kd h.lo W⟩
 by_cases e:b=g
 ·subst e;rw[eJ hr b hv];exact .inr (.inr (.inr rfl))
 rw[vN (A.block b (h.lt b U) (fun e'=>e (Option.some.inj e')))];exact h.kd b U
theorem Tr{P:Prop}(h:P:=by
 have cW:j<s.al.length:=by have:=HN.O;omega
 obtain⟨g,rfl⟩:=jF iH.O (by omega);have fI:=yV iH.O HN.O cW 0 (by omega);obtain⟨v,hv⟩:=ai ((s.al[j]).filter);have xX:wo.cell? ⟨g,j*6,none⟩=some (.string (str v)):=by
  rw[←hv];exact fI
 have au:=Ts.O j pQ cW;unfold wZ at au;rw[hv] at au;have hd:decide ((j:Int)<(n:Int))=true:=eN sN;clear fI hv;go_wp2_with fail;go_quiet (fail);go_wp2;go_roundg (k - (j+1))
 case measure=>omega
 case rel=>exact⟨j+1,by omega,rfl,by go_num,Go.below_drewN m7.O _⟩):P:=h
theorem akV(Rb:Nat)(s:az)(x:Sb)(k:Nat)(G:k≤s.al.length)(pV:∀j,j<k→∀(gA:j<s.al.length),wZ (s.al[j]).filter x.filter=true)(xY:∀(h:k<s.al.length),wZ (s.al[k]).filter x.filter=false)(bf:∀(h:k<s.al.length),(s.al[k]).filter≠x.filter)(h8:s.al.length=8)(hl:s.al.length≤100000)(w:World)(Ms M:Nat→Prop)(h:RR w Ms M Rb s)(au:∀b,Ms b→b<w.heap.size)(R:ak)
 (I:∀w',Below w w w'→R (.returned (.tuple #[.bool false,.bool false])) w'):
 Calls prog 78 #[zq Rb,.agg (bH x)] w R:=by
 have fA:=Z bf;clear bf;obtain⟨sv,qv,fv,gv,F⟩:=h;have HR:=Z I;have aM:Below w w (w.alloc (.cells (bH x) 64)):=aD _ _;have hT:=aH w (.cells (bH x) 64);have W:=(F.below aM).W;have c4:=(F.below aM).cells.2.2.2.2.1;have HX:=Z (F.below aM);obtain⟨n,hn⟩:=ai s.al.length;rw[hn] at W G hl;obtain⟨ga,gc,rfl⟩:=cR W;obtain⟨i0,cp,_,cJ,_⟩:=info_parts mw;obtain⟨HG,HN,HT,bB⟩:=cF W hn hT aM;have fx:Hid (∀b,Ms b→b<(w.alloc (.cells (bH x) 64)).heap.size):=Z (fun b U=>eV (au b U) aM.size);have Ts:=Z pV;have KO:=Z xY;clear I F W au pV xY aM hT c4;have mT:((n:Int)==8)=true:=by
  have:n=8:=by rw[←hn];exact h8
  simp[this]
 clear h8 hn;go_enter func78,ntmps78;go_wp2_with fail;generalize w.alloc (.cells (bH x) 64)=w1 at HX HG HT bB fx⊢;have vO:Below w1 w1 w1:=Below.refl _ _;go_loopg [6] k (fun gn i wr=>∃j:Nat,j≤k∧gn=k - j∧i= .int .i64 j∧Below w1 w1 wr)
 case atStart=>exact⟨0,bP _,by omega,rfl,vO⟩
 case round=>
  obtain⟨j,hj,rfl,rfl,jg⟩:=hrel;clear vO;obtain⟨wo,rfl⟩:∃x,x=wr:=⟨_,rfl⟩
  have cH:=aR HG.O jg;have c4:=cell_later jg HX.O.cells.2.2.2.2.1;have t0:=cell_later jg (D 0 HT.O);have iH:=Z cH;have m7:=Z jg;clear cH;by_cases pQ:j<k
  ·have sN:(j:Int)<(n:Int):=by omega
   exact Tr
  obtain rfl:j=k:=by omega
  clear hj pQ;by_cases jh:j<n
  ·have sN:(j:Int)<(n:Int):=by omega
   have cW:j<s.al.length:=by have:=HN.O;omega
   obtain⟨g,rfl⟩:=jF iH.O (by omega);have fI:=yV iH.O HN.O cW 0 (by omega);obtain⟨v,hv⟩:=ai ((s.al[j]).filter);have xX:wo.cell? ⟨g,j*6,none⟩=some (.string (str v)):=by
    rw[←hv];exact fI
   have au:=KO.O cW;unfold wZ at au;rw[hv] at au;have hd:decide ((j:Int)<(n:Int))=true:=eN sN;have HV:=Z hv;clear fI hv;go_wp2_with fail;go_quiet (fail);go_wp2_with fail;have aj:=Go.below_drewN m7.O nq;clear c4 t0 xX au;generalize wo.drewN nq=w2 at aj⊢;have bF:=aR HG.O aj;have c4:=cell_later aj HX.O.cells.2.2.2.2.1;have t0:=cell_later aj (D 0 HT.O);have xX:w2.cell? ⟨g,j*6,none⟩=some (.string (str v)):=by
    rw[←HV.O];exact yV bF HN.O cW 0 (by omega)
   have bn:=Z aj;clear bF;have he:¬v=x.filter:=by rw[←HV.O];exact fA.O cW
   have OV:(v==x.filter)=false:=by simpa using he
   have akW:((str v).toList==(str x.filter).toList)=false:=by rw[Ny];exact OV
   go_quiet (fail);go_wp2;exact HR.O _ (bB.O.trans ((Go.below_drewN bn.O _).mono bB.O.size))
  obtain rfl:j=n:=by omega
  have sN:¬(j:Int)<(j:Int):=by omega
  have hd:decide ((j:Int)<(j:Int))=false:=dN sN;go_wp2_with fail;go_quiet (fail);go_wp2_with fail;have aj:=Go.below_drewN m7.O nq;clear c4 t0;generalize wo.drewN nq=w2 at aj⊢;have c4:=cell_later aj HX.O.cells.2.2.2.2.1;have t0:=cell_later aj (D 0 HT.O);have bn:=Z aj;go_quiet (fail);go_wp2;exact HR.O _ (bB.O.trans ((Go.below_drewN bn.O _).mono bB.O.size))
theorem akX(Rb:Nat)(s:az)(x:Sb)(k:Nat)(G:k≤s.al.length)(pV:∀j,j<k→∀(gA:j<s.al.length),wZ (s.al[j]).filter x.filter=true)(xY:∀(h:k<s.al.length),wZ (s.al[k]).filter x.filter=false)(gq:k<s.al.length)(Ju:∀(h:k<s.al.length),(s.al[k]).filter=x.filter)(hl:s.al.length≤100000)(w:World)(Ms M:Nat→Prop)(h:RR w Ms M Rb s)(au:∀b,Ms b→b<w.heap.size)(R:ak)
 (I:∀M' w',RR w' Ms M' Rb {s with al:=s.al.set k x}→Sep M M' w w'→R (.returned (.tuple #[.bool false,.bool true])) w'):
 Calls prog 78 #[zq Rb,.agg (bH x)] w R:=by
 have akY:=Z Ju;have OY:=Z gq;clear Ju gq;obtain⟨sv,qv,fv,gv,F⟩:=h;have HR:=Z I;have aM:Below w w (w.alloc (.cells (bH x) 64)):=aD _ _;have hT:=aH w (.cells (bH x) 64);have W:=(F.below aM).W;have c4:=(F.below aM).cells.2.2.2.2.1;have HX:=Z (F.below aM);obtain⟨n,hn⟩:=ai s.al.length;rw[hn] at W G hl;obtain⟨ga,gc,rfl⟩:=cR W;obtain⟨i0,cp,_,cJ,_⟩:=info_parts mw;obtain⟨HG,HN,HT,bB⟩:=cF W hn hT aM;have fx:Hid (∀b,Ms b→b<(w.alloc (.cells (bH x) 64)).heap.size):=Z (fun b U=>eV (au b U) aM.size);have Ts:=Z pV;have KO:=Z xY;clear I F W au pV xY aM hT c4;clear hn;go_enter func78,ntmps78;go_wp2_with fail;generalize w.alloc (.cells (bH x) 64)=w1 at HX HG HT bB fx⊢;have vO:Below w1 w1 w1:=Below.refl _ _;go_loopg [6] k (fun gn i wr=>∃j:Nat,j≤k∧gn=k - j∧i= .int .i64 j∧Below w1 w1 wr)
 case atStart=>exact⟨0,bP _,by omega,rfl,vO⟩
 case round=>
  obtain⟨j,hj,rfl,rfl,jg⟩:=hrel;clear vO;obtain⟨wo,rfl⟩:∃x,x=wr:=⟨_,rfl⟩
  have cH:=aR HG.O jg;have c4:=cell_later jg HX.O.cells.2.2.2.2.1;have t0:=cell_later jg (D 0 HT.O);have iH:=Z cH;have m7:=Z jg;clear cH;by_cases pQ:j<k
  ·have sN:(j:Int)<(n:Int):=by omega
   exact Tr
  obtain rfl:j=k:=by omega
  clear hj pQ;by_cases jh:j<n
  ·have sN:(j:Int)<(n:Int):=by omega
   have cW:j<s.al.length:=by have:=HN.O;omega
   obtain⟨g,rfl⟩:=jF iH.O (by omega);have fI:=yV iH.O HN.O cW 0 (by omega);obtain⟨v,hv⟩:=ai ((s.al[j]).filter);have xX:wo.cell? ⟨g,j*6,none⟩=some (.string (str v)):=by
    rw[←hv];exact fI
   have au:=KO.O cW;unfold wZ at au;rw[hv] at au;have hd:decide ((j:Int)<(n:Int))=true:=eN sN;have HV:=Z hv;clear fI hv;go_wp2_with fail;go_quiet (fail);go_wp2_with fail;have aj:=Go.below_drewN m7.O nq;clear c4 t0 xX au;generalize wo.drewN nq=w2 at aj⊢;have bF:=aR HG.O aj;have c4:=cell_later aj HX.O.cells.2.2.2.2.1;have t0:=cell_later aj (D 0 HT.O);have xX:w2.cell? ⟨g,j*6,none⟩=some (.string (str v)):=by
    rw[←HV.O];exact yV bF HN.O cW 0 (by omega)
   have bn:=Z aj;clear bF;have he:v=x.filter:=by rw[←HV.O];exact akY.O cW
   subst he;go_quiet (fail);go_wp2_with fail;have an:=Go.below_drewN bn.O nq;clear c4 t0 xX;generalize w2.drewN nq=w3 at an⊢;have ao:Below w1 w1 w3.drew:=an.drew;have c4:w3.drew.cell? ⟨Rb,4,none⟩=some (.slice (some ⟨g,0,none⟩) n gc):=cell_later ao HX.O.cells.2.2.2.2.1;have l9:=aA HT.O ao;have t0:=D 0 l9;have t1:=D 1 l9;have t2:=D 2 l9;have t3:=D 3 l9;have t4:=D 4 l9;have t5:=D 5 l9;have uq:=aR HG.O ao;have DG:∀i,i<6→(w3.drew.cell? ⟨g,j*6+i,none⟩).isSome=true:=fun i hi=>by
    have:=HN.O;have g_:=fY 6 aT ij s.al;rw[uq.cellAt (j*6+i) (by omega),dW (by omega)]
    rfl
   have uN:∀i,i<6→w3.drew.frozen? ⟨g,j*6+i,none⟩=false:=fun i _=>uq.frozenAt _;obtain⟨dj,Tt,mB,sM⟩:=cF ao uq DG uN;clear an ao l9 uq DG uN;go_still_tail 7,(by kernel_rfl)
   change wpList _ _ _ _ _ w3.drew
   go_wp2_with (refine EF (o:=⟨none,.store 64 (.tmp 56) (.tmp 55),_,_,_,_⟩) (by rfl) 64 (.tmp 56) (.tmp 55) (by rfl) g (j*6) (bH x) (by rfl) (by rfl) mB.O sM.O (by kernel_rfl) (by simp[Value.oneCell']) ?_);have mA:=Tn aT ij (by decide) HN.O (k:=j) jh Tt.O x;have fZ:=HX.O.below dj.O;have fw:(s.al.set j x).length=n:=by rw[qU,HN.O]
   obtain⟨bu,jj⟩:=RX.Tq fZ rfl (by rw[fw];exact mA) (qZ _ _ _ _);exact HR.O M _ ⟨_,qv,fv,gv,bu⟩ (((Sep.cL bB.O).trans (.cL dj.O)).trans jj)
  obtain rfl:j=n:=by omega
  have sN:¬(j:Int)<(j:Int):=by omega
  have hd:decide ((j:Int)<(j:Int))=false:=dN sN;go_wp2_with fail;go_quiet (fail);go_wp2_with fail;exact absurd OY.O (by have:=HN.O;omega)
open Bool (or_eq_false_iff)
open List (mem_cons_self take_length)
open Nat (pow_le_pow_right)
variable{wh:Int}
theorem Qx{s S:Cu}{T:List UInt8}(h:takeC n s=(T,S))(U:S.bad=false):s.bad=false∧n≤s.b.length∧T=s.b.take n∧S=⟨s.b.drop n,false⟩:=by
 unfold takeC at h
 split at h
 ·cases h;cases U
 rename_i J
 cases h;simp only[Bool.or_eq_true,decide_eq_true_eq,not_or,Bool.not_eq_true] at J;exact⟨J.1,by omega,rfl,by rw[J.1]⟩
theorem Qy(n:Nat)(s:Cu):(takeC n s).1.length≤n∧(takeC n s).2.b.length≤s.b.length:=by
 unfold takeC
 split
 ·simp
 simp only[bS,dw]
 omega
theorem are{s:Cu}(h:s.bad=true):(takeC n s).2.bad=true:=by
 unfold takeC;rw[h]
 rfl
theorem Qz{s S:Cu}{T:List UInt8}(h:mZ s=(T,S))(U:S.bad=false):s.bad=false∧eg T=true∧T.length≤65535:=by
 obtain⟨aw2,u,er,hD⟩:∃aw2 u er,dp s.b=(aw2,u,er):=⟨_,_,_,rfl⟩
 unfold mZ at h;rw[hD] at h;simp only[Prod.mk.injEq] at h;obtain⟨rfl,rfl⟩:=h;obtain⟨h1,-,-,-⟩:=Qx (T:=(takeC u.toNat ⟨s.b,s.bad || er != 0⟩).1) rfl U;simp only[or_eq_false_iff,bne_eq_false_iff_eq] at h1;obtain⟨h1,rfl⟩:=h1;obtain⟨h2,_,_,h3,_⟩:=BI _ _ _ hD;exact⟨h1,h3,h2⟩
theorem adU{s S:Cu}{T:List UInt8}(h:m6 s=(T,S))(U:S.bad=false):s.bad=false:=by
 unfold m6 at h;simp only[Prod.mk.injEq] at h;obtain⟨rfl,rfl⟩:=h;obtain⟨h1,-,-,-⟩:=Qx rfl U;simp only[or_eq_false_iff] at h1;exact h1.1
theorem p_{s S:Cu}{x:Int}(h:aN n s=(x,S))(U:S.bad=false):s.bad=false:=by
 unfold aN at h;simp only[Prod.mk.injEq] at h;obtain⟨rfl,rfl⟩:=h;exact(Qx rfl U).1
theorem Mg(l:List UInt8):(eh l).1.length≤65535∧(eh l).1.length≤l.length:=by
 rcases EL l with⟨_,e⟩|⟨n,hn,k_,kZ,⟨_,e⟩|⟨h2,e⟩⟩<;>rw[e]<;>simp<;>omega
theorem arf(l:List UInt8):(dp l).1.length≤65535:=by
 have:=(Mg l).1;unfold dp
 split
 ·simp
 split
 ·exact this
 simp
theorem IT{s S:Cu}{T:List UInt8}(h:mZ s=(T,S)):T.length≤65535∧S.b.length≤s.b.length:=by
 unfold mZ at h;simp only[Prod.mk.injEq] at h;obtain⟨rfl,rfl⟩:=h;exact⟨arf _,(Qy _ _).2⟩
theorem IU{s S:Cu}{T:List UInt8}(h:m6 s=(T,S)):T.length≤65535∧S.b.length≤s.b.length∧T.length≤s.b.length:=by
 unfold m6 at h;simp only[Prod.mk.injEq] at h;obtain⟨rfl,rfl⟩:=h;exact⟨(Mg _).1,(Qy _ _).2,(Mg _).2⟩
theorem Ad{s S:Cu}{x:Int}(h:aN n s=(x,S)):S.b.length≤s.b.length:=by
 unfold aN at h;simp only[Prod.mk.injEq] at h;obtain⟨rfl,rfl⟩:=h;exact(Qy _ _).2
theorem kS(hn:n≤4){s S:Cu}{x:Int}(h:aN n s=(x,S)):∃k:Nat,x=(k:Int)∧k<256 ^ n:=by
 unfold aN at h;simp only[Prod.mk.injEq] at h;obtain⟨rfl,rfl⟩:=h;have h1:=(Qy n s).1;have h2:=JP (takeC n s).1 (by omega);have h3:256 ^ (takeC n s).1.length≤256 ^ n:=pow_le_pow_right (by omega) h1;have h4:256 ^ n≤256 ^ 4:=pow_le_pow_right (by omega) hn;have h5:(256:Nat) ^ 4=4294967296:=by decide
 refine⟨cX (takeC n s).1,?_,by omega⟩;rw[IntKind.wrap_i64]
 omega
theorem QA{s S:Cu}{x:Int}(h:aN n s=(x,S)): -9223372036854775808≤x∧x≤9223372036854775807:=by
 unfold aN at h;simp only[Prod.mk.injEq] at h;obtain⟨rfl,rfl⟩:=h;rw[IntKind.wrap_i64]
 omega
theorem QB{b:List UInt8}{L:List Pr}{u:Int}{cd:Nat}(h:lf wh b=(L,u,cd)):(∀p∈L,PB p)∧L.length≤b.length∧(L.flatMap bR).length≤b.length∧(cd=0→(eO wh L).2=0):=by
 by_cases J:cd=0
 ·subst J;obtain⟨n,y,h1,h2,h3,h4,h5,h6,h7,h8,h9⟩:=JQ h;obtain⟨q,hq,_⟩:=ah7 h;have e:(L.flatMap bR).length≤b.length:=by rw[h6,bS,dw];omega
  refine⟨fun p hp=> ?_,?_,e,fun _=>by rw[hq]⟩
  ·obtain⟨g,_,_,g1,g2⟩:=h8 p hp;have:=g.ld;have:=g.lt;have:=g.lp;have:=g.n0;have:=g.n1;exact⟨by omega,by omega,by omega,by omega,by omega,by omega,by omega⟩
  have hm:∀p∈L,1≤(bR p).length:=fun p hp=>by
   obtain⟨g,_,_,g1,g2⟩:=h8 p hp;obtain⟨k,G⟩:∃k:Nat,p.id=(k:Int):=⟨p.id.toNat,by omega⟩
   rw[nB,G,zg k (by omega),aK];have h3:=(JN 3 k).1;have h4:(jR k).length=(nA 3 k).length:=rfl;simp only
   omega
  have W:∀l:List Pr,(∀p∈l,1≤(bR p).length)→l.length≤(l.flatMap bR).length:=by
   intro l
   induction l with
   |nil=>intro _;simp
   |cons a t ih=>
    intro hh;have:=hh a mem_cons_self;have:=ih fun p hp=>hh p (mem_cons_of_mem _ hp);rw[lT,aK,ey]
    omega
  exact aJ (W L hm) e
 have hL:L= []:=by
  unfold lf at h
  split at h
  ·cases h;rfl
  split at h
  ·cases h;rfl
  cases h;exact absurd rfl J
 subst hL;exact⟨(fun p hp=>(qT hp).elim),by simp,by simp,fun h=>absurd h J⟩
def pN(b:List UInt8):Nt×Bool:=
 let r1:=mZ ⟨b,false⟩
 let r2:=m6 r1.2
 let r3:=aN 1 r2.2
 let r4:=mZ r3.2
 let r5:=aN 8 r4.2
 let r6:=aN 8 r5.2
 let r7:=aN 1 r6.2
 let r8:=aN 1 r7.2
 let l:=lf 3 r8.2.b
 (⟨r1.1,r2.1,bits .and .i64 r3.1 3,bits .and .i64 r3.1 4 != 0,r4.1,r5.1,l.1,r7.1,r6.1,r8.1⟩,r8.2.bad || (l.2.2:Int) != 0 || l.2.1 != (r8.2.b.length:Int))
theorem Vo{x:Nt}(h:lZ x):pN (eG x)=(x,false):=by
 obtain⟨m,h1,h2,k1,k2,k3,k4,k5,k6,k7,k8,k9⟩:=aac x h;show(_,_)=_;simp only[k1,k2,k3,k4,k5,k6,k7,k8,k9,h1,h2];simp
theorem Gp(k:Nat)(G:k<256):0≤bits .and .i64 (k:Int) 3∧bits .and .i64 (k:Int) 3≤3:=by
 revert k
 decide+kernel
theorem lZ.may{x:Nt}(h:lZ x):Dz x:=⟨by have:=h.q1;omega,h.e0,h.e1,h.n0,h.n1,h.k⟩
theorem arh{b:List UInt8}{x:Nt}(h:pN b=(x,false))(hm:Dz x):lZ x:=by
 unfold pN at h;obtain⟨T1,s1,e1⟩:∃T s,mZ ⟨b,false⟩=(T,s):=⟨_,_,rfl⟩
 obtain⟨D2,s2,e2⟩:∃T s,m6 s1=(T,s):=⟨_,_,rfl⟩
 obtain⟨x3,s3,e3⟩:∃T s,aN 1 s2=(T,s):=⟨_,_,rfl⟩
 obtain⟨T4,s4,e4⟩:∃T s,mZ s3=(T,s):=⟨_,_,rfl⟩
 obtain⟨x5,s5,e5⟩:∃T s,aN 8 s4=(T,s):=⟨_,_,rfl⟩
 obtain⟨x6,s6,e6⟩:∃T s,aN 8 s5=(T,s):=⟨_,_,rfl⟩
 obtain⟨x7,s7,e7⟩:∃T s,aN 1 s6=(T,s):=⟨_,_,rfl⟩
 obtain⟨x8,s8,e8⟩:∃T s,aN 1 s7=(T,s):=⟨_,_,rfl⟩
 obtain⟨L,u,cd,e9⟩:∃l u c,lf 3 s8.b=(l,u,c):=⟨_,_,_,rfl⟩
 simp only[e1,e2,e3,e4,e5,e6,e7,e8,e9,Prod.mk.injEq,or_eq_false_iff,bne_eq_false_iff_eq] at h;obtain⟨rfl,⟨U,J⟩,_⟩:=h;have b8:=p_ e8 U;have b7:=p_ e7 b8;have b6:=p_ e6 b7;have b5:=p_ e5 b6;obtain⟨b4,t4,l4⟩:=Qz e4 b5;have b3:=p_ e3 b4;have b2:=adU e2 b3;obtain⟨_,t1,l1⟩:=Qz e1 b2;obtain⟨k3,rfl,h3⟩:=kS (by decide) e3;obtain⟨k7,rfl,h7⟩:=kS (by decide) e7;obtain⟨k8,rfl,h8⟩:=kS (by decide) e8;have q:=hm.q;exact⟨t1,l1,(IU e2).1,t4,l4,(Gp k3 h3).1,by have q':bits .and .i64 (k3:Int) 3<3:=q;show bits .and .i64 (k3:Int) 3≤(2:Int);omega,hm.e0,hm.e1,hm.n0,hm.n1,⟨k7,rfl,h7⟩,⟨k8,rfl,h8⟩,(QB e9).2.2.2 (by omega),hm.k⟩
noncomputable def rdN (b:List UInt8):Nt×Int:=open Classical in if h:∃x,lZ x∧eG x=b then (h.choose,0) else (⟨[],[],0,false,[],0,[],0,0,0⟩,190)
theorem ari{x y:Nt}(F:lZ x)(hy:lZ y)(h:eG x=eG y):x=y:=by
 have h1:=Vo F;rw[h,Vo hy] at h1;exact(Prod.mk.inj h1).1.symm
theorem QC{x:Nt}(h:lZ x):rdN (eG x)=(x,0):=by
 have hh:∃y,lZ y∧eG y=eG x:=⟨x,h,rfl⟩
 unfold rdN;rw[dif_pos hh];rw[ari hh.choose_spec.1 h hh.choose_spec.2]
theorem adV{b:List UInt8}(h:∀x,lZ x→eG x≠b):rdN b=(⟨[],[],0,false,[],0,[],0,0,0⟩,190):=by
 unfold rdN;rw[dif_neg];rintro⟨x,F,e⟩;exact h x F e
theorem adW{b:List UInt8}{x:Nt}{e:Int}(h:rdN b=(x,e)):(e=0∧lZ x∧eG x=b)∨(e=190∧x=⟨[],[],0,false,[],0,[],0,0,0⟩):=by
 unfold rdN at h
 split at h
 ·rename_i hh
  cases h;exact .inl ⟨rfl,hh.choose_spec⟩
 cases h;exact .inr ⟨rfl,rfl⟩
theorem arj(x:Nt)(h1:x.aF.length≤65535)(h2:x.ay.length≤65535)(h3:x.src.length≤65535)(h4:(x.props.flatMap bR).length≤90000000):(eG x).length≤100000000:=by
 have e1:=qC (l:=x.aF) h1;have e2:=uE (l:=x.ay) h2;have e3:=qC (l:=x.src) h3;have e4:((eO 3 x.props).1).length≤90000010:=by
  obtain⟨⟨awZ,c⟩,hX⟩:∃r,eO 3 x.props=r:=⟨_,rfl⟩
  exact aaf
 unfold eG;simp only[aK,ey,gi,fQ]
 omega
def fG:Nat→Cu→List Int×Cu
 |0,s=>([],s)
 |k+1,s=>((fG k s).1++ [(aN 4 (fG k s).2).1],(aN 4 (fG k s).2).2)
theorem adX(k:Nat)(s:Cu):(fG k s).1.length=k:=by
 induction k with
 |zero=>rfl
 |succ k ih=>unfold fG;rw[aK,ih];rfl
theorem ark(s:Cu)(h:j≤k)(U:(fG j s).2.bad=true):(fG k s).2.bad=true:=by
 induction k with
 |zero=>
  obtain rfl:j=0:=by omega
  exact U
 |succ k ih=>
  by_cases e:j=k+1
  ·rw[←e];exact U
  have:=ih (by omega);cases J:(fG (k+1) s).2.bad with
  |true=>rfl
  |false=>rw[p_ (n:=4) (s:=(fG k s).2) rfl J] at this;cases this
theorem adY(l:List Int)(h:∀i∈l,1≤i∧i≤268435455)(t:List UInt8)(k:Nat)(G:k≤l.length):fG k ⟨sJ l++t,false⟩=(l.take k,⟨sJ (l.drop k)++t,false⟩):=by
 induction k with
 |zero=>rfl
 |succ k ih=>
  have h1:=ih (by omega);have h2:=h _ (getElem_mem (show k<l.length by omega));unfold fG;rw[h1];simp only;rw[akq (show k<l.length by omega),kT,ako _ (by omega) (by omega),kF (show k<l.length by omega)]
def tY(l:List Int):Bool:=l.all fun i=>decide (1≤i)&&decide (i≤268435455)
theorem QD(l:List Int):tY l=true↔∀i∈l,1≤i∧i≤268435455:=by
 unfold tY;simp
theorem adZ(l:List Int)(x:Int):tY (l++ [x])=(tY l&&(decide (1≤x)&&decide (x≤268435455))):=by
 unfold tY;simp
theorem lZ.b{x:Nt}(h:lZ x)(hl:(eG x).length≤65535):xC x∧(x.props.flatMap bR).length≤65535:=by
 obtain⟨n,hn,k_,hX,hr⟩:=NV (wh:=3) (l:=x.props) (x:=(eO 3 x.props).1) (by rw[←h.lay]);obtain⟨g1,g2,g3,_⟩:=QB hr;have kZ:((eO 3 x.props).1).length≤65535:=by
  unfold eG at hl;simp only[aK] at hl
  omega
 exact⟨⟨aJ h.tl (by decide),aJ h.pl (by decide),aJ h.sl (by decide),by omega,g1,by have:=h.q0;have:=h.q1;omega⟩,by omega⟩
noncomputable def pI (b:List UInt8):Im×Bool×Int:=
 let r1:=m6 ⟨b,false⟩
 let r2:=aN 1 r1.2
 let r3:=aN 1 r2.2
 let r4:=fG r3.1.toNat r3.2
 let r5:=mZ r4.2
 (⟨(rdN r1.1).1,bits .and .i64 r2.1 3,bits .and .i64 r2.1 4 != 0,r4.1,r5.1⟩,r5.2.bad,(rdN r1.1).2)
theorem Vp(h:gh x):pI (db x)=(x,false,0):=by
 obtain⟨m,hm,h3,h4,k1,k2,k3,k4⟩:=aaw x h;have k5:=adY x.ids h.ir (b9 x.share).1 x.ids.length bj;rw[take_length,List.drop_length] at k5;show(_,_)=_;simp only[k1,k2,k3,toNat_natCast,k5,QC h.n,h3,h4];have e:sJ []++(b9 x.share).1=(b9 x.share).1:=rfl;rw[e,k4]
theorem arl{b:List UInt8}(h:pI b=(x,false,0))(hq:x.ah<3)(hi:tY x.ids=true):gh x:=by
 unfold pI at h;obtain⟨aw2,s1,e1⟩:∃T s,m6 ⟨b,false⟩=(T,s):=⟨_,_,rfl⟩
 obtain⟨x2,s2,e2⟩:∃T s,aN 1 s1=(T,s):=⟨_,_,rfl⟩
 obtain⟨x3,s3,e3⟩:∃T s,aN 1 s2=(T,s):=⟨_,_,rfl⟩
 obtain⟨awU,s4,e4⟩:∃T s,fG x3.toNat s3=(T,s):=⟨_,_,rfl⟩
 obtain⟨S,s5,e5⟩:∃T s,mZ s4=(T,s):=⟨_,_,rfl⟩
 obtain⟨N,er,e6⟩:∃T s,rdN aw2=(T,s):=⟨_,_,rfl⟩
 simp only[e1,e2,e3,e4,e5,e6,Prod.mk.injEq] at h;obtain⟨rfl,U,rfl⟩:=h;rcases adW e6 with⟨_,hn,hD⟩|⟨h0,_⟩
 ·have gK:(eG N).length≤65535:=by rw[hD];exact(IU e1).1
  obtain⟨b1,b2⟩:=hn.b gK;obtain⟨_,t1,t2⟩:=Qz e5 U;obtain⟨k2,rfl,h2⟩:=kS (by decide) e2;obtain⟨k3,rfl,h3⟩:=kS (by decide) e3;have hl:=adX k3 s3;rw[toNat_natCast] at e4;rw[e4] at hl;exact⟨hn,b1,gK,b2,(Gp k2 h2).1,by have q':bits .and .i64 (k2:Int) 3<3:=hq;show bits .and .i64 (k2:Int) 3≤(2:Int);omega,by show awU.length<256;simp only at hl;omega,(QD _).1 hi,t1,t2⟩
 cases h0
noncomputable def rdI (b:List UInt8):Im×Int:=open Classical in if h:∃x,gh x∧db x=b then (h.choose,0) else (⟨⟨[],[],0,false,[],0,[],0,0,0⟩,0,false,[],[]⟩,190)
theorem arn{y:Im}(F:gh x)(hy:gh y)(h:db x=db y):x=y:=by
 have h1:=Vp F;rw[h,Vp hy] at h1;exact(Prod.mk.inj h1).1.symm
theorem QE(h:gh x):rdI (db x)=(x,0):=by
 have hh:∃y,gh y∧db y=db x:=⟨x,h,rfl⟩
 unfold rdI;rw[dif_pos hh];rw[arn hh.choose_spec.1 h hh.choose_spec.2]
theorem ad0{b:List UInt8}(h:∀x,gh x→db x≠b):rdI b=(⟨⟨[],[],0,false,[],0,[],0,0,0⟩,0,false,[],[]⟩,190):=by
 unfold rdI;rw[dif_neg];rintro⟨x,F,e⟩;exact h x F e
theorem Vq{b:List UInt8}{e:Int}(h:rdI b=(x,e)):(e=0∧gh x∧db x=b)∨(e=190∧x=⟨⟨[],[],0,false,[],0,[],0,0,0⟩,0,false,[],[]⟩):=by
 unfold rdI at h
 split at h
 ·rename_i hh
  cases h;exact .inl ⟨rfl,hh.choose_spec⟩
 cases h;exact .inr ⟨rfl,rfl⟩
open List (nil_append)
open Nat (zero_add)
def xr(n:Nat)(s:Cu):List UInt8×Cu:=if (s.bad || decide (s.b.length<n))=true then (List.replicate n 0,⟨s.b,true⟩) else (s.b.take n,⟨s.b.drop n,s.bad⟩)
theorem ar6(n:Nat):cX (List.replicate n 0)=0:=by
 unfold cX
 induction n with
 |zero=>rfl
 |succ n ih=>rw[List.replicate_succ,List.foldl_cons];exact ih
theorem ar7(n:Nat)(s:Cu):cX (xr n s).1=cX (takeC n s).1∧(xr n s).2=(takeC n s).2:=by
 unfold xr takeC
 split
 ·exact⟨ar6 n,rfl⟩
 exact⟨rfl,rfl⟩
def hO(s:Cu):List UInt8×Cu:=if ((aN 2 s).2.bad || decide ((aN 2 s).2.b.length<(aN 2 s).1.toNat))=true then ([],⟨(aN 2 s).2.b,true⟩) else ((aN 2 s).2.b.take (aN 2 s).1.toNat,⟨(aN 2 s).2.b.drop (aN 2 s).1.toNat,false⟩)
theorem aeX{s S:Cu}{x:Int}(h:aN 2 s=(x,S)):∃k:Nat,x=(k:Int)∧k<65536:=by
 unfold aN at h;simp only[Prod.mk.injEq] at h;obtain⟨rfl,rfl⟩:=h;have h1:(takeC 2 s).1.length≤2:=by
  unfold takeC
  split
  ·simp
  rw[bS];omega
 have h2:=JP (takeC 2 s).1 (by omega);have h3:256 ^ (takeC 2 s).1.length≤256 ^ 2:=pow_le_pow_right (by omega) h1;refine⟨cX (takeC 2 s).1,?_,by omega⟩;rw[IntKind.wrap_i64]
 omega
theorem CR.ar8{s:Cu}(h:CR w0 t N s w)(ho:w.ownsRow B e size v n xs)(ht:t≠e)(hB:w0.heap.size≤B)(A:w.grownBy w' v.ownBlock):CR w0 t N s w':=by
 exact Z6
theorem aeY{P:Prop}(h:P:=by
 rw[e] at hT;cases hT;go_enter func137,ntmps137;have vg:=oW.O.mark true;have V4:=br w ⟨N,1,none⟩ (.bool true);generalize qm:w.setCell ⟨N,1,none⟩ (.bool true)=w1 at vg V4;obtain⟨ar9,asa,Ql⟩:=bX vg V4 qm;clear vg V4 qm hp;go_wp2_with (at_make;go_must(refine wpList_make_full _ (by rfl) _ _ 22 (by rfl) 0 5 i (.int .u8 0) 1 underlying22 hi hz dJ _ _ _ _ n rfl rfl rfl rfl (by rw[fV];omega) (by unfold maxLen;omega) (bP _) ?_));intro w2 aU A;rw[Ql.O] at A;rw[Xo,show(Value.int .u8 0)=Value.int .u8 (((0:UInt8).toNat:Nat):Int) from rfl,←Xp] at aU;have aj:Below w1 w1 w2:=dg.grown A bj (fun k G=>by cases G);have cD:=HR.O (some ⟨w,0,none⟩) n w2;rw[List.length_replicate] at cD;go_wp2;exact cD (by have:=b_ (l:=List.replicate n 0) (n:=n) aU;exact this) (ar9.O.below aj) (cg asa.O (ju aj))):P:=h
theorem aeZ(N n:Nat)(s:Cu)(T:List UInt8)(S:Cu)(hT:xr n s=(T,S))(hn:n≤65536)(w0 w:World)(h:CR w0 137 N s w)(R:ak)
 (I:∀xa xc w',Bs w' (.slice xa T.length xc) T→CR w0 137 N S w'→w.grownBy w' (some N)→R (.returned (.slice xa T.length xc)) w'):
 Calls prog 137 #[zq N,E n] w R:=by
 obtain⟨sb,bad⟩:=s;have ae0:=h;obtain⟨⟨Y,c,aq,bU⟩,pO,kL,bk⟩:=h;simp only at aq bU bk;have HR:=Z I;have oW:=Z ae0;have c0:=D 0 aq;have c1:w.cell? ⟨N,1,none⟩=some (.bool bad):=D 1 aq;have f1:=aC aq 1;have f0:=aC aq 0;have hp:=bU.parts;obtain⟨eW,aV,rX⟩:=bX bU aq pO;obtain⟨i,hi,hz,dJ,fV⟩:=info_parts Tryz.cP;clear I aq bU pO ae0;cases bad with
 |true=>
  have e:xr n ⟨sb,true⟩=(List.replicate n 0,⟨sb,true⟩):=by unfold xr;simp
  exact aeY
 |false=>
 by_cases hl:sb.length<n
 ·have BX:(n:Int) > (sb.length:Int):=by omega
  have e:xr n ⟨sb,false⟩=(List.replicate n 0,⟨sb,true⟩):=by unfold xr;simp[hl]
  exact aeY
 have BX:¬(n:Int) > (sb.length:Int):=by omega
 have Ot:(n:Int)≤(c:Int):=by have:=hp.2.2.1;omega
 have e:xr n ⟨sb,false⟩=(sb.take n,⟨sb.drop n,false⟩):=by unfold xr;simp;omega
 rw[e] at hT;obtain⟨Lx,dm,so,Km⟩:=SO (P:=prog) (j:=n) underlying22 Tryz.cP (show n≤sb.length by omega) hp.2.2.1 hp.2.2.2.2;have bQ:Rd w0 1 Lx (sb.length - n) (bv (sb.drop n)):=by
  exact SM
 obtain⟨gK,Fs⟩:=SN (c:=c - n) bQ (by have:=hp.2.2.1;omega) (by have:=hp.2.2.2.1;omega) so;have jg:Bs w0 (.slice Y n c) (sb.take n):=Bs.cut eW.O (by omega);have iX:(sb.take n).length=n:=by rw[bS];omega
 cases hT;have m7:=Z jg;have fL:CR w0 137 N ⟨sb.drop n,false⟩ (w.setCell ⟨N,0,none⟩ (.slice Lx (sb.length - n) (c - n))):=by
  refine⟨⟨Lx,c - n,?_,?_⟩,rX.O.setCell kL _,kL,by simp only[dw];omega⟩
  ·rw[bm w N 0 _ _ _ aV.O,gK]
   rfl
  simp only;rw[←gK];exact Fs
 have ae1:=Z fL;have vI:=Z iX;clear hp Km bQ Fs jg gK fL e iX f1 hi hz dJ fV;go_enter func137,ntmps137;go_wp2;have hr:=HR.O Y c (w.setCell ⟨N,0,none⟩ (.slice Lx (sb.length - n) (c - n)));rw[vI.O] at hr;exact hr (m7.O.below ae1.O.low) ae1.O (br w ⟨N,0,none⟩ _)
theorem nY(N n:Nat)(s:Cu)(x:Int)(S:Cu)(F:aN n s=(x,S))(hn:n≤65536)(w0 w:World)(h:CR w0 137 N s w)(R:ak)
 (I:∀w',CR w0 137 N S w'→w.grownBy w' (some N)→R (.returned (E x)) w'):
 Calls prog 96 #[zq N,E n] w R:=by
 have HR:=Z I;obtain⟨T,S',hT⟩:∃T S,xr n s=(T,S):=⟨_,_,rfl⟩
 have hq:=ar7 n s;rw[hT] at hq;unfold aN at F;rw[←hq.1,←hq.2] at F;simp only[Prod.mk.injEq] at F;obtain⟨F,rfl⟩:=F;obtain⟨g,A⟩:=ai (cX T);rw[A] at F;obtain⟨HX,HG,HT,HC⟩:=cF F A hT h;clear I hT F A h hq;go_enter func96,ntmps96;go_wp2_with (first
  |(go_at_call 137;go_must(refine aeZ N n s T S' HT.O hn w0 _ HC.O _ ?_);intro xa xc w2 aj bM bD;obtain⟨bn,eT,lG⟩:=bX aj bM bD;clear aj bM bD)
  |(go_at_call 136;go_must(refine EM _ T g HG.O _ bn.O _ ?_)))
 exact ZH
theorem ae2{P:Prop}(h:P:=by
 exact HR.O none 0 _ (bO _ _ _ _) (eT.O.mark true) (cg lG.O (br w2 ⟨N,1,none⟩ _))):P:=h
theorem MD(N:Nat)(s:Cu)(T:List UInt8)(S:Cu)(F:hO s=(T,S))(w0 w:World)(h:CR w0 137 N s w)(R:ak)
 (I:∀xa xc w',w'.ownsRow w 5 1 (.slice xa T.length xc) T.length (bv T)→CR w0 137 N S w'→w.grownBy w' (some N)→R (.returned (.slice xa T.length xc)) w'):
 Calls prog 98 #[zq N] w R:=by
 have HR:=Z I;obtain⟨x,S1,h1⟩:∃x S,aN 2 s=(x,S):=⟨_,_,rfl⟩
 obtain⟨k,rfl,G⟩:=aeX h1;unfold hO at F;rw[h1] at F;simp only[toNat_natCast] at F;have H1:=Z h1;have HC:=Z h;have fx:=Z h.lt;obtain⟨sb,bad⟩:=S1;have awt:=bO w w.heap.size 5 1;clear I h1 h;cases bad with
 |true=>
  rw[Bool.true_or,if_pos rfl] at F;cases F;go_enter func98,ntmps98;go_wp2_with (go_at_call 96;go_must(refine nY N 2 s _ _ H1.O (by decide) w0 _ HC.O _ ?_);intro w2 bM bD;have eT:=Z bM;have lG:=Z bD;obtain⟨lF,c2,bE,_⟩:=bM.row;have c1:w2.cell? ⟨N,1,none⟩=some (.bool true):=D 1 bE;have f1:=aC bE 1;clear bM bD bE);exact ae2
 |false=>
 simp only[Bool.false_or,decide_eq_true_eq] at F;by_cases hl:sb.length<k
 ·have BX:(k:Int) > (sb.length:Int):=by omega
  rw[if_pos hl] at F;cases F;go_enter func98,ntmps98;go_wp2_with (go_at_call 96;go_must(refine nY N 2 s _ _ H1.O (by decide) w0 _ HC.O _ ?_);intro w2 bM bD;have eT:=Z bM;have lG:=Z bD;obtain⟨lF,c2,bE,_⟩:=bM.row;have c0:=D 0 bE;have c1:w2.cell? ⟨N,1,none⟩=some (.bool false):=D 1 bE;have f1:=aC bE 1;clear bM bD bE);exact ae2
 have BX:¬(k:Int) > (sb.length:Int):=by omega
 rw[if_neg hl] at F;obtain⟨T,hT⟩:=ai (sb.take k);have ae3:T.length=k:=by rw[←hT,bS];omega
 have ae4:xr k ⟨sb,false⟩=(T,⟨sb.drop k,false⟩):=by
  unfold xr;rw[if_neg (by simp;omega),hT]
 rw[hT] at F;cases F;have asb:=Z ae4;have vI:=Z ae3;clear hT ae4 ae3 hl;go_enter func98,ntmps98;go_wp2_with (first
  |(go_at_call 96;go_must(refine nY N 2 s _ _ H1.O (by decide) w0 _ HC.O _ ?_);intro w2 bM bD;have eT:=Z bM;have lG:=Z bD;obtain⟨lF,c2,bE,_⟩:=bM.row;have c0:=D 0 bE;have c1:w2.cell? ⟨N,1,none⟩=some (.bool false):=D 1 bE;have asc:=Z bM.lt;have jH:=Z (World.ownsRow_made (base:=w.heap.size) (e:=5) (size:=1) w2 #[] 0 bD.size (by unfold maxLen;omega) rfl);have cq:=Z (aD w2 (.cells #[] 5));clear bM bD bE)
  |(go_at_call 137;go_must(refine aeZ N k ⟨sb,false⟩ T _ asb.O (by omega) w0 _ (eT.O.below cq.O) _ ?_);intro xa xc w4 ao fy cV;have dj:=Z ao;have jz:=Z fy;have oU:=Z (j1 jH.O cV (fun k G e=>by cases G;cases e;exact lt_irrefl _ asc.O));have oD:=Z (cg lG.O (cg (ju cq.O) cV));clear ao fy cV)
  |(at_builtin;go_must(refine kU (by rfl) (.tmp 22) (.tmp 25) 22 (by rfl) w 5 (.int .u8 0) 1 1 underlying22 Tryz.cP rfl (by decide) _ 0 0 [] rfl oU.O _ T.length xc (bv T) rfl dj.O.parts.2.1 (fC _) dj.O.parts.2.2.2.2 (by have:=vI.O;unfold maxLen;omega) (by have:=vI.O;omega) oD.O.size ?_);intro ED c5 w5 fH gZ))
 rw[zero_add,nil_append] at fH;have asd:w4.grownBy w5 (some w2.heap.size):=gZ;go_wp2;exact HR.O ED c5 _ fH (CR.ar8 jz.O oU.O (by decide) HC.O.low.size gZ) (AT oD.O asd lG.O.size)
theorem ME(N:Nat)(s:Cu)(T:List UInt8)(S:Cu)(F:hO s=(T,S))(w0 w:World)(h:CR w0 137 N s w)(R:ak)
 (I:∀w',CR w0 137 N S w'→w.grownBy w' (some N)→R (.returned (.string (str T))) w'):
 Calls prog 95 #[zq N] w R:=by
 obtain⟨HR,HX,HC⟩:=bX I F h;clear I F h;go_enter func95,ntmps95;go_wp2_with (go_at_call 98;go_must(refine MD N s T S HX.O w0 _ HC.O _ ?_);intro xa xc w2 jx bM bD;have eT:=Z bM;have lG:=Z bD;have hcv:=lU (P:=prog) underlying22 underlying5 underlying9 (b_ jx);clear jx bM bD);exact HR.O _ eT.O lG.O
