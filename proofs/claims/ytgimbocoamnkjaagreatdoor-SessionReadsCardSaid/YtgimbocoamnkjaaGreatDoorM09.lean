/- A part of the proof of SessionReads; no conditions. -/
import Derived.Test.YtgimbocoamnkjaaGreatDoorM07
import Derived.Test.YtgimbocoamnkjaaGreatDoorM04
set_option maxRecDepth 100000
set_option maxHeartbeats 16000000
namespace Go.Proofs.YtgimbocoamnkjaaGreatDoor
open _root_.Go.Proofs.Tryz
open Go.RowKit
theorem Qn(l:List UInt8)(i:Nat)(h:i<l.length):((str l)[i]'(by rw[Hc];exact h)).toNat=(l.getD i 0).toNat:=by
 have e:(str l)[i]'(by rw[Hc];exact h)=l[i]:=rfl;rw[e,List.getD_eq_getElem?_getD,dW h]
 rfl
def ac7(l:List UInt8)(c k:Nat):Prop:=(k=0∧c=0∧Lib.decodeL l=(65533,1))∨(0<k∧Lib.decodeL l=(c,k)∧¬(c=65533∧k=1))
theorem ac8{P:Prop}(h:P:=by
 go_wp2;go_round
 case rel=>exact⟨c*64+b1 - 128,2,congrArg (Value.int .i64) (by omega),rfl,by omega,.inr (.inl ⟨rfl,by omega,A',Ba⟩)⟩
 case measure=>simp[intOf]):P:=h
theorem ac9{P:Prop}(h:P:=by
 rcases ok with ok|ok
 ·go_wp2;exact HR.O 0 0 (.inl ⟨rfl,rfl,ac5 _ _ _ _ _ (by omega) (by omega)⟩)
 go_wp2;exact HR.O 0 0 (.inl ⟨rfl,rfl,ac5 _ _ _ _ _ (by omega) (by omega)⟩)):P:=h
theorem UZ{P:Prop}(h:P:=by
 rcases ok with ok|ok
 ·go_wp2;exact HR.O 0 0 (.inl ⟨rfl,rfl,ac6 _ _ _ _ _ (by omega) (by omega)⟩)
 go_wp2;exact HR.O 0 0 (.inl ⟨rfl,rfl,ac6 _ _ _ _ _ (by omega) (by omega)⟩)):P:=h
theorem apP(l:List UInt8)(pz:0<l.length)(hl:l.length≤9223372036854775807)(w:World)(R:ak)
 (I:∀c k:Nat,ac7 l c k→R (.returned (.tuple #[E c,E k])) w):
 Calls prog 158 #[.string (str l)] w R:=by
 have bt:=Hc l;have BF:=Lib.decodeL_N l;have g0:=Qn l 0 pz;have g1:=Qn l 1;have g2:=Qn l 2;have g3:=Qn l 3;obtain⟨b0,aM,k0⟩:∃b,(l.getD 0 0).toNat=b∧b<256:=⟨_,rfl,(l.getD 0 0).toNat_lt⟩
 obtain⟨b1,aw,k1⟩:∃b,(l.getD 1 0).toNat=b∧b<256:=⟨_,rfl,(l.getD 1 0).toNat_lt⟩
 obtain⟨b2,aj,k2⟩:∃b,(l.getD 2 0).toNat=b∧b<256:=⟨_,rfl,(l.getD 2 0).toNat_lt⟩
 obtain⟨b3,an,k3⟩:∃b,(l.getD 3 0).toNat=b∧b<256:=⟨_,rfl,(l.getD 3 0).toNat_lt⟩
 rw[aM] at g0;rw[aw] at g1;rw[aj] at g2;rw[an] at g3;rw[aM,aw,aj,an] at BF;obtain⟨n,hn⟩:=ai l.length;rw[hn] at bt BF hl;clear aM aw aj an;have HR:Hid (∀c k:Nat,(k=0∧c=0∧Lib.decodeN n b0 b1 b2 b3=(65533,1))∨(0<k∧Lib.decodeN n b0 b1 b2 b3=(c,k)∧¬(c=65533∧k=1))→R (.returned (.tuple #[E c,E k])) w):=by
  intro c k h;rw[←BF] at h;exact I c k h
 clear I BF;by_cases q1:b0<128
 ·clear g1 g2 g3;go_enter func158,ntmps158;go_wp2;exact HR.O b0 1 (.inr ⟨by decide,Lib.decodeN_ascii _ _ _ _ _ q1,by omega⟩)
 by_cases q2:b0<192∨248≤b0
 ·clear g1 g2 g3;rcases q2 with q2|q2
  ·go_enter func158,ntmps158;go_wp2;exact HR.O 0 0 (.inl ⟨rfl,rfl,dD _ _ _ _ _ (by omega) (.inl q2) k0⟩)
  ·go_enter func158,ntmps158;go_wp2;exact HR.O 0 0 (.inl ⟨rfl,rfl,dD _ _ _ _ _ (by omega) (.inr q2) k0⟩)
 by_cases q3:b0<224
 ·by_cases W:n≤1
  ·clear g1 g2 g3;have nC:(n:Int)≤1:=by omega
   go_enter func158,ntmps158;go_wp2;exact HR.O 0 0 (.inl ⟨rfl,rfl,apJ _ _ _ _ _ (by omega) W⟩)
  have g1:=g1 (by omega);clear g2;clear g3;have nC:¬((n:Int)≤1):=by omega
  go_enter func158,ntmps158;go_wp2;go_loop [4,7] (fun x i=>∃c j:Nat,x= .int .i64 c∧i= .int .i64 j∧c<100000000∧((j=1∧c=(b0 - 192))∨(j=2∧c=((b0 - 192) *64+b1 - 128)∧(128≤b1∧b1<192)))) (fun _ i=>2 - (intOf i).toNat)
  case atStart=>exact⟨b0 - 192,1,congrArg (Value.int .i64) (by omega),rfl,by omega,.inl ⟨rfl,rfl⟩⟩
  case round=>
   obtain⟨c,j,rfl,rfl,kR,hj⟩:=hrel;rcases hj with⟨rfl,J⟩|⟨rfl,J,m1⟩
   ·by_cases ok:128≤b1∧b1<192
    ·obtain⟨A',Ba⟩:=ok;go_wp2;go_round
     case rel=>exact⟨c*64+b1 - 128,2,congrArg (Value.int .i64) (by omega),rfl,by omega,.inr (⟨rfl,by omega,A',Ba⟩)⟩
     case measure=>simp[intOf]
    ·replace ok:b1<128∨192≤b1:=by omega
     rcases ok with ok|ok
     ·go_wp2;exact HR.O 0 0 (.inl ⟨rfl,rfl,ac4 _ _ _ _ _ (by omega) (by omega)⟩)
     go_wp2;exact HR.O 0 0 (.inl ⟨rfl,rfl,ac4 _ _ _ _ _ (by omega) (by omega)⟩)
   have vX:=apM n b0 b1 b2 b3 c (by omega) (by omega) m1 J;have HE:=Z vX;clear vX J;by_cases z1:c<128
   ·go_wp2;exact HR.O 0 0 (.inl ⟨rfl,rfl,HE.O.1 (.inl z1)⟩)
   by_cases z2:1114111<c
   ·go_wp2;exact HR.O 0 0 (.inl ⟨rfl,rfl,HE.O.1 (.inr (.inl z2))⟩)
   by_cases z3:55296≤c
   ·by_cases z4:c<57344
    ·go_wp2;exact HR.O 0 0 (.inl ⟨rfl,rfl,HE.O.1 (.inr (.inr ⟨z3,z4⟩))⟩)
    ·go_wp2;exact HR.O c 2 (.inr ⟨by decide,HE.O.2 (by unfold xk;omega),by omega⟩)
   go_wp2;exact HR.O c 2 (.inr ⟨by decide,HE.O.2 (by unfold xk;omega),by omega⟩)
 by_cases q4:b0<240
 ·by_cases W:n≤2
  ·clear g1 g2 g3;have nC:(n:Int)≤2:=by omega
   go_enter func158,ntmps158;go_wp2;exact HR.O 0 0 (.inl ⟨rfl,rfl,apK _ _ _ _ _ (by omega) W⟩)
  have g1:=g1 (by omega);have g2:=g2 (by omega);clear g3;have nC:¬((n:Int)≤2):=by omega
  go_enter func158,ntmps158;go_wp2;go_loop [4,7] (fun x i=>∃c j:Nat,x= .int .i64 c∧i= .int .i64 j∧c<100000000∧((j=1∧c=(b0 - 224))∨(j=2∧c=((b0 - 224) *64+b1 - 128)∧(128≤b1∧b1<192))∨(j=3∧c=(((b0 - 224) *64+b1 - 128) *64+b2 - 128)∧(128≤b1∧b1<192)∧(128≤b2∧b2<192)))) (fun _ i=>3 - (intOf i).toNat)
  case atStart=>exact⟨b0 - 224,1,congrArg (Value.int .i64) (by omega),rfl,by omega,.inl ⟨rfl,rfl⟩⟩
  case round=>
   obtain⟨c,j,rfl,rfl,kR,hj⟩:=hrel;rcases hj with⟨rfl,J⟩|⟨rfl,J,m1⟩|⟨rfl,J,m1,m2⟩
   ·by_cases ok:128≤b1∧b1<192
    ·obtain⟨A',Ba⟩:=ok;exact ac8
    ·replace ok:b1<128∨192≤b1:=by omega
     exact ac9
   ·by_cases ok:128≤b2∧b2<192
    ·obtain⟨A',Ba⟩:=ok;go_wp2;go_round
     case rel=>exact⟨c*64+b2 - 128,3,congrArg (Value.int .i64) (by omega),rfl,by omega,.inr (.inr (⟨rfl,by omega,m1,A',Ba⟩))⟩
     case measure=>simp[intOf]
    ·replace ok:b2<128∨192≤b2:=by omega
     exact ac9
   have vX:=apN n b0 b1 b2 b3 c (by omega) (by omega) m1 m2 J;have HE:=Z vX;clear vX J;by_cases z1:c<2048
   ·go_wp2;exact HR.O 0 0 (.inl ⟨rfl,rfl,HE.O.1 (.inl z1)⟩)
   by_cases z2:1114111<c
   ·go_wp2;exact HR.O 0 0 (.inl ⟨rfl,rfl,HE.O.1 (.inr (.inl z2))⟩)
   by_cases z3:55296≤c
   ·by_cases z4:c<57344
    ·go_wp2;exact HR.O 0 0 (.inl ⟨rfl,rfl,HE.O.1 (.inr (.inr ⟨z3,z4⟩))⟩)
    ·go_wp2;exact HR.O c 3 (.inr ⟨by decide,HE.O.2 (by unfold xk;omega),by omega⟩)
   go_wp2;exact HR.O c 3 (.inr ⟨by decide,HE.O.2 (by unfold xk;omega),by omega⟩)
 by_cases W:n≤3
 ·clear g1 g2 g3;have nC:(n:Int)≤3:=by omega
  go_enter func158,ntmps158;go_wp2;exact HR.O 0 0 (.inl ⟨rfl,rfl,apL _ _ _ _ _ (by omega) W⟩)
 have g1:=g1 (by omega);have g2:=g2 (by omega);have g3:=g3 (by omega);have nC:¬((n:Int)≤3):=by omega
 go_enter func158,ntmps158;go_wp2;go_loop [4,7] (fun x i=>∃c j:Nat,x= .int .i64 c∧i= .int .i64 j∧c<100000000∧((j=1∧c=(b0 - 240))∨(j=2∧c=((b0 - 240) *64+b1 - 128)∧(128≤b1∧b1<192))∨(j=3∧c=(((b0 - 240) *64+b1 - 128) *64+b2 - 128)∧(128≤b1∧b1<192)∧(128≤b2∧b2<192))∨(j=4∧c=((((b0 - 240) *64+b1 - 128) *64+b2 - 128) *64+b3 - 128)∧(128≤b1∧b1<192)∧(128≤b2∧b2<192)∧(128≤b3∧b3<192)))) (fun _ i=>4 - (intOf i).toNat)
 case atStart=>exact⟨b0 - 240,1,congrArg (Value.int .i64) (by omega),rfl,by omega,.inl ⟨rfl,rfl⟩⟩
 case round=>
  obtain⟨c,j,rfl,rfl,kR,hj⟩:=hrel;rcases hj with⟨rfl,J⟩|⟨rfl,J,m1⟩|⟨rfl,J,m1,m2⟩|⟨rfl,J,m1,m2,m3⟩
  ·by_cases ok:128≤b1∧b1<192
   ·obtain⟨A',Ba⟩:=ok;exact ac8
   ·replace ok:b1<128∨192≤b1:=by omega
    exact UZ
  ·by_cases ok:128≤b2∧b2<192
   ·obtain⟨A',Ba⟩:=ok;go_wp2;go_round
    case rel=>exact⟨c*64+b2 - 128,3,congrArg (Value.int .i64) (by omega),rfl,by omega,.inr (.inr (.inl ⟨rfl,by omega,m1,A',Ba⟩))⟩
    case measure=>simp[intOf]
   ·replace ok:b2<128∨192≤b2:=by omega
    exact UZ
  ·by_cases ok:128≤b3∧b3<192
   ·obtain⟨A',Ba⟩:=ok;go_wp2;go_round
    case rel=>exact⟨c*64+b3 - 128,4,congrArg (Value.int .i64) (by omega),rfl,by omega,.inr (.inr (.inr (⟨rfl,by omega,m1,m2,A',Ba⟩)))⟩
    case measure=>simp[intOf]
   ·replace ok:b3<128∨192≤b3:=by omega
    exact UZ
  have vX:=apO n b0 b1 b2 b3 c (by omega) (by omega) m1 m2 m3 J;have HE:=Z vX;clear vX J;by_cases z1:c<65536
  ·go_wp2;exact HR.O 0 0 (.inl ⟨rfl,rfl,HE.O.1 (.inl z1)⟩)
  by_cases z2:1114111<c
  ·go_wp2;exact HR.O 0 0 (.inl ⟨rfl,rfl,HE.O.1 (.inr (.inl z2))⟩)
  by_cases z3:55296≤c
  ·by_cases z4:c<57344
   ·go_wp2
    all_goals exact HR.O 0 0 (.inl ⟨rfl,rfl,HE.O.1 (.inr (.inr ⟨z3,z4⟩))⟩)
   ·go_wp2;exact HR.O c 4 (.inr ⟨by decide,HE.O.2 (by unfold xk;omega),by omega⟩)
  go_wp2
  all_goals exact HR.O c 4 (.inr ⟨by decide,HE.O.2 (by unfold xk;omega),by omega⟩)
theorem apQ(l:List UInt8)(bf:l≠ [])(c k:Nat)(h:ac7 l c k):eg l=if k=0∨c=0 then false else eg (l.drop k):=by
 unfold eg;rw[R7 l bf,Lib.validD_step l bf];rcases h with⟨rfl,rfl,hd⟩|⟨h0,hd,U⟩
 ·rw[hd];simp
 rw[hd];simp only;rw[if_neg U];by_cases J:c=0
 ·simp[J]
 simp[J,show k≠0 by omega]
theorem apR(l:List UInt8)(k:Nat):(str l).extract k l.length=str (l.drop k):=by
 apply ByteArray.ext;simp only[ByteArray.data_extract];apply Array.ext';simp only[Array.toList_extract,List.extract_eq_take_drop];exact gy (by rw[dw];simp)
theorem Qo(l:List UInt8)(h:l≠ []):(str l==str [])=false:=by
 show((str l).data==(str []).data)=false
 simpa using h
theorem U0(l:List UInt8)(w:World)(hl:l.length≤9223372036854775807)(R:ak)
 (I:R (.returned (.bool (eg l))) w):Calls prog 122 #[.string (str l)] w R:=by
 have HR:=Z I;clear I;go_enter func122,ntmps122;go_wp2;go_loop [0,3,4] (fun s _ _=>∃m:List UInt8,s= .string (str m)∧m.length≤l.length∧Hid (eg m=eg l)) (fun s _ _=>match s with| .string b=>b.size|_=>0)
 case atStart=>exact⟨l,rfl,Nat.le_refl _,Z rfl⟩
 case round=>
  obtain⟨m,rfl,hm,ht⟩:=hrel;by_cases bf:m= []
  ·subst bf;have hT:eg l=true:=by rw[←ht.O];rfl
   rw[hT] at HR;go_wp2;exact HR.O
  have avZ:m.isEmpty=false:=by cases m with|nil=>exact absurd rfl bf|cons _ _=>rfl
  have bt:=Hc m;have u_:0<m.length:=List.length_pos_iff.2 bf;go_wp2_with (go_at_call 158;go_must(refine apP m u_ (by omega) _ _ ?_));intro c k eS;have cB:=apQ m bf c k eS;rw[ht.O] at cB;have gq:k≤m.length:=by
   rcases eS with⟨rfl,_,_⟩|⟨_,hd,_⟩
   ·omega
   have:=Lib.decodeL_le m bf;rw[hd] at this;exact this
  have PO:k=0→c=0:=by
   rcases eS with⟨_,h,_⟩|⟨h,_,_⟩
   ·exact fun _=>h
   omega
  clear eS;by_cases fI:c=0
  ·rw[if_pos (.inr fI)] at cB;rw[cB] at HR;subst fI;clear cB ht PO;by_cases gL:k=0
   ·subst gL;go_wp2;exact HR.O
   ·have jh:((k:Int)==0)=false:=by rw[beq_eq_false_iff_ne];omega
    go_wp2;exact HR.O
  have gL:k≠0:=fun h=>fI (PO h);rw[if_neg (by omega)] at cB;have HS:=Z cB.symm;have jh:((k:Int)==0)=false:=by rw[beq_eq_false_iff_ne];omega
  have ab4:((c:Int)==0)=false:=by rw[beq_eq_false_iff_ne];omega
  have hex:=apR m k;clear cB ht PO fI;go_wp2;go_round
  case rel=>exact⟨m.drop k,rfl,by rw[dw];omega,HS⟩
  case measure=>simp[Hc];omega
theorem IM(v:Value)(l aw2:List UInt8)(er:Int)(hD:dn l=(aw2,er))(w:World)(hv:Bs w v l)(R:ak)
 (I:∀Y c w',w'.ownsRow w 5 1 (.slice Y aw2.length c) aw2.length (bv aw2)→Below w w w'→R (.returned (.tuple #[.slice Y aw2.length c,E er])) w'):
 Calls prog 67 #[v] w R:=by
 have gp:=hv;obtain⟨Y,c,rfl,hr,J,hm,iN⟩:=gp;by_cases y_:65535<l.length
 ·have e:dn l=([],10):=by unfold dn;rw[if_pos y_]
  rw[hD] at e;obtain⟨rfl,rfl⟩:=Prod.mk.inj e;clear e hD;go_enter func67,ntmps67;go_wp2;exact I _ _ _ (bO _ _ _ _) dg
 have e:dn l=(aY l.length 2++l,0):=by unfold dn;rw[if_neg y_]
 rw[hD] at e;obtain⟨e1,rfl⟩:=Prod.mk.inj e;clear e hD;obtain⟨p,hp⟩:∃p,p=aY l.length 2:=⟨_,rfl⟩
 have pA:p.length=2:=by rw[hp];exact fQ _ _
 have mU:Hid (eC l.length 2=p):=by rw[hp];exact Z rfl
 have HF:Hid (p++l=aw2):=by rw[e1,hp];exact Z rfl
 have Hd:aw2.length=2+l.length:=by rw[e1,aK,fQ]
 rw[Hd] at I;clear e1 hp;go_enter func67,ntmps67;go_wp2_with (go_at_call 64;go_must(refine yX l.length (by omega) 2 p mU.O _ _ ?_));intro BG c1 w1 cS aw;have jb:=hr.below aw;clear hr;go_wp2_with (at_builtin;go_must(refine kU (by rfl) (.tmp 10) (.tmp 11) 22 (by rfl) w 5 (.int .u8 0) 1 1 underlying22 Tryz.cP rfl (by decide) _ _ _ _ rfl cS _ _ _ _ rfl jb (fC _) iN (by unfold maxLen;omega) (by omega) aw.size ?_));intro h_ c3 w3 ix dz;have an:=bT aw dz aw.size cS;rw[←qf,HF.O] at ix;clear jb cS dz aw;go_wp2;exact I _ _ _ ix an
theorem Bb(l aw2:List UInt8)(er:Int)(hD:b9 l=(aw2,er))(w:World)(hl:l.length≤140737488355328)(R:ak)
 (I:∀Y c w',w'.ownsRow w 5 1 (.slice Y aw2.length c) aw2.length (bv aw2)→Below w w w'→R (.returned (.tuple #[.slice Y aw2.length c,E er])) w'):
 Calls prog 63 #[.string (str l)] w R:=by
 obtain⟨t,ht⟩:=ai (eg l);have hcv:=fun w=>Lib.run_convert_string_bytes (P:=prog) w 9 22 5 (str l) underlying9 underlying22 underlying5;have bt:(str l).size=l.length:=rfl;cases t with
 |false=>
  have e:b9 l=([],13):=by unfold b9;rw[ht];rfl
  rw[hD] at e;obtain⟨rfl,rfl⟩:=Prod.mk.inj e;clear e hD hcv;clear bt;go_enter func63,ntmps63;go_wp2_with (go_at_call 122;go_must(refine U0 l _ (by omega) _ ?_));exact I _ _ _ (bO _ _ _ _) dg
 |true=>
  have e:dn l=(aw2,er):=by rw[←hD];unfold b9;rw[ht];rfl
  have HE:=Z e;have HC:=Z hcv;have aj:=Xq w 5 (str l);have bU:=Xr w 5 l (by omega);have eD:=hcv w;rw[show(str l).size=l.length from rfl] at eD;clear hD e hcv bt;go_enter func63,ntmps63;go_wp2_with (first|(go_at_call 122;go_must(refine U0 l _ (by omega) _ ?_))|(go_at_call 67;go_must(refine IM _ l aw2 er HE.O _ bU _ ?_)));intro oq c4 w4 cO ao;have aE:=aQ aj ao;have fH:=cm (jE:=w.heap.size) cO aj.size;clear ao cO bU aj eD;go_wp2;exact I _ _ _ fH aE
theorem U1(v:Value)(l aw2:List UInt8)(u er:Int)(hD:eh l=(aw2,u,er))(w:World)(hv:Bs w v l)(R:ak)
 (I:∀Y c,Bs w (.slice Y aw2.length c) aw2→R (.returned (.tuple #[.slice Y aw2.length c,E u,E er])) w):
 Calls prog 208 #[v] w R:=by
 have gp:=hv;obtain⟨Y,c,rfl,hr,J,hm,iN⟩:=gp;rcases EL l with⟨h,e⟩|⟨n,hn,k_,kZ,⟨h,e⟩|⟨h,e⟩⟩
 ·rw[hD] at e;simp only[Prod.mk.injEq] at e;obtain⟨rfl,rfl,rfl⟩:=e;clear hD;go_enter func208,ntmps208;go_wp2;go_ret3;exact I _ _ ⟨none,0,rfl,Rd.nil _ _ _,by simp,by omega,fun _=>rfl⟩
 ·rw[hD] at e;simp only[Prod.mk.injEq] at e;obtain⟨rfl,rfl,rfl⟩:=e;clear hD;have U:=hv.cut (k:=2) kZ;have F:((l.length:Int) - 2<(n:Int)):=by omega
  go_enter func208,ntmps208;go_wp2_with (go_at_call 136;go_must(refine EM _ _ n hn.O _ U _ ?_));go_ret3;exact I _ _ ⟨none,0,rfl,Rd.nil _ _ _,by simp,by omega,fun _=>rfl⟩
 rw[hD] at e;simp only[Prod.mk.injEq] at e;obtain⟨e1,rfl,rfl⟩:=e;have Hd:aw2.length=n:=by rw[e1,dw,bS];omega
 have U:=hv.cut (k:=2) kZ;obtain⟨b,o,rfl,bg⟩:=hr.CP (by omega);clear bg hr;have aj:=hv.Yt (i:=2) (j:=2+n) (by omega) h;rw[show 2+n - 2=n by omega] at aj;rw[←e1] at aj;simp only[Option.map_some,Addr.add,show¬(2=0) by decide,if_false] at aj;clear hD e1;have F:¬((l.length:Int) - 2<(n:Int)):=by omega
 rw[Hd] at I;by_cases bM:c=2
 ·subst bM;obtain rfl:n=0:=by omega
  have an:Bs w (.slice (some ⟨b,o,none⟩) 0 0) aw2:=by
   exact Yo
  clear aj;go_enter func208,ntmps208;go_wp2_with (go_at_call 136;go_must(refine EM _ _ _ hn.O _ U _ ?_));go_ret3;exact I _ _ an
 go_enter func208,ntmps208;go_wp2_with (go_at_call 136;go_must(refine EM _ _ n hn.O _ U _ ?_));go_ret3;show R (.returned (.tuple #[.slice (some ⟨b,o+2,none⟩) (2+n - 2) (c - 2),.int .i64 (2+(n:Int)),E 0])) w;rw[show 2+n - 2=n by omega];exact I _ _ aj
theorem ada{P:Prop}(h:P:=by
 obtain⟨rfl,rfl,rfl⟩:=hD;go_enter func207,ntmps207;go_wp2_with (go_at_call 208;go_must(refine U1 _ l d u1 0 HG.O _ hv _ ?_));intro BG c1 bU;have hcv:=lU (P:=prog) underlying22 underlying5 underlying9 bU;clear hv bU;go_wp2_with (go_at_call 122;go_must(refine U0 d _ (by omega) _ ?_));go_ret3;exact gu.O):P:=h
theorem Qp(v:Value)(l S:List UInt8)(u er:Int)(hD:dp l=(S,u,er))(w:World)(hv:Bs w v l)(R:ak)
 (I:R (.returned (.tuple #[.string (str S),E u,E er])) w):
 Calls prog 207 #[v] w R:=by
 have gp:=hv;obtain⟨Y,c,rfl,hr,J,hm,iN⟩:=gp;clear hr;obtain⟨⟨d,u1,e1⟩,A⟩:∃g,eh l=g:=⟨_,rfl⟩
 have gK:=R8 _ _ _ _ A;have HG:=Z A;unfold dp at hD;rw[A] at hD;simp only at hD;clear A;have gu:=Z I;clear I;by_cases he:e1=0
 ·subst he;rw[if_neg (by simp)] at hD;obtain⟨t,ht⟩:=ai (eg d);rw[ht] at hD;cases t with
  |false=>
   simp only[Bool.false_eq_true,if_false,Prod.mk.injEq] at hD;exact ada
  |true=>
   simp only[if_true,Prod.mk.injEq] at hD;exact ada
 rw[if_pos he] at hD;simp only[Prod.mk.injEq] at hD;obtain⟨rfl,rfl,rfl⟩:=hD;have bf:((e1:Int)==0)=false:=by simpa using he
 go_enter func207,ntmps207;go_wp2_with (go_at_call 208;go_must(refine U1 _ l d u1 e1 HG.O _ hv _ ?_));intro BG c1 bU;clear hv bU;go_wp2;go_ret3;exact gu.O
open Int (toNat_natCast)
open Nat (zero_add)
variable{B K e:Nat}
theorem U2{P:Prop}(h:P:=by
 refine bodyPost_ret (pF rfl _ _ w 147 (gj id) (0,0) _ _ _ rfl rfl rfl (js (aH w _)) underlying147 rfl (by kernel_rfl)) rfl ?_;exact HF.O _ _ _ _ _ _ _ _ _ (by first|rfl|trivial) rfl ((aD _ _).alloc (by simp) _)):P:=h
theorem U3{P:Prop}(h:P:=by
 refine bodyPost_ret (pF rfl _ _ w 147 (vd id (wrap64 (x:Int))) (0,0) _ _ _ rfl rfl rfl (js (aH w _)) underlying147 rfl (by kernel_rfl)) rfl ?_;exact lL.O _ (bO _ _ _ _) ((aD _ _).alloc (by simp) _)):P:=h
theorem apS(id:Int)(G:aS id=1)(v:Value)(b:List UInt8)(r:Option (Pr×Int))(hr:eK id b=r)(w:World)(hv:Bs w v b)(R:ak)
 (I:∀p u d w',r=some (p,u)→w'.ownsRow w 5 1 d p.data.length (bv p.data)→Below w w w'→R (.returned (.tuple #[.agg (bL p d),E u,.bool true])) w')
 (hF:∀n s t a m c u q w',r=none→q=false→Below w w w'→R (.returned (.tuple #[.agg #[E id,E n,.string s,.string t,.slice a m c],E u,.bool q])) w'):
 Calls prog 181 #[E id,v] w R:=by
 rw[YU id G] at hr;obtain⟨HR,HF,HK,HV⟩:=cF I hF G hv;obtain⟨ba,bc,rfl,_,ep,wL,_⟩:=_root_.id hv;have cM:Hid (∀c1 c2:Array Value,Below w w ((w.alloc (Obj.cells c1 147)).alloc (Obj.cells c2 147))):=Z fun c1 c2=>(aD _ _).alloc (by simp) _;clear I hF G hv;by_cases W:b.length<1
 ·have nC:(b.length:Int)<1:=by omega
  obtain rfl:r=none:=by rw[←hr,if_pos W]
  clear hr;go_enter func181,ntmps181;go_wp2_with (go_at_call 206;go_must(refine mh id 1 HK.O _ _ ?_));exact U2
 have nC:¬(b.length:Int)<1:=by omega
 have j':(1:Int)≤(bc:Int):=by omega
 have gM:=(BJ b 1 ⟨by omega,by omega⟩ (by omega)).1;obtain⟨x,F⟩:=ai (cX (b.take 1));rw[if_neg W,F] at hr;rw[F] at gM;have ew:wrap64 (x:Int)=(x:Int):=by unfold wrap64;omega
 have cD:∀w',w'.ownsRow w 5 1 (.slice none 0 0) 0 (bv [])→Below w w w'→R (.returned (.tuple #[.agg (vd id (wrap64 (x:Int))),E 1,.bool true])) w':=fun w' h1 h2=>by
  rw[ew];exact HR.O ⟨id,x,[],[],[]⟩ 1 _ w' hr.symm h1 h2
 have lL:=Z cD;have HX:=Z F;have hcut:=HV.O.cut (k:=1) (by omega);have HC:=Z hcut;clear F hcut hr gM ew cD;go_enter func181,ntmps181;go_wp2_with (first
  |(go_at_call 206;go_must(refine mh id 1 HK.O _ _ ?_))
  |(go_at_call 136;go_must(refine EM _ _ x HX.O _ (HC.O.below (cM.O _ _)) _ ?_)))
 exact U3
theorem apT(id:Int)(G:aS id=2)(v:Value)(b:List UInt8)(r:Option (Pr×Int))(hr:eK id b=r)(w:World)(hv:Bs w v b)(R:ak)
 (I:∀p u d w',r=some (p,u)→w'.ownsRow w 5 1 d p.data.length (bv p.data)→Below w w w'→R (.returned (.tuple #[.agg (bL p d),E u,.bool true])) w')
 (hF:∀n s t a m c u q w',r=none→q=false→Below w w w'→R (.returned (.tuple #[.agg #[E id,E n,.string s,.string t,.slice a m c],E u,.bool q])) w'):
 Calls prog 181 #[E id,v] w R:=by
 rw[YV id G] at hr;obtain⟨HR,HF,HK,HV⟩:=cF I hF G hv;obtain⟨ba,bc,rfl,_,ep,wL,_⟩:=_root_.id hv;have cM:Hid (∀c1 c2:Array Value,Below w w ((w.alloc (Obj.cells c1 147)).alloc (Obj.cells c2 147))):=Z fun c1 c2=>(aD _ _).alloc (by simp) _;clear I hF G hv;by_cases W:b.length<2
 ·have nC:(b.length:Int)<2:=by omega
  obtain rfl:r=none:=by rw[←hr,if_pos W]
  clear hr;go_enter func181,ntmps181;go_wp2_with (go_at_call 206;go_must(refine mh id 2 HK.O _ _ ?_));exact U2
 have nC:¬(b.length:Int)<2:=by omega
 have j':(2:Int)≤(bc:Int):=by omega
 have gM:=(BJ b 2 ⟨by omega,by omega⟩ (by omega)).1;obtain⟨x,F⟩:=ai (cX (b.take 2));rw[if_neg W,F] at hr;rw[F] at gM;have ew:wrap64 (x:Int)=(x:Int):=by unfold wrap64;omega
 have cD:∀w',w'.ownsRow w 5 1 (.slice none 0 0) 0 (bv [])→Below w w w'→R (.returned (.tuple #[.agg (vd id (wrap64 (x:Int))),E 2,.bool true])) w':=fun w' h1 h2=>by
  rw[ew];exact HR.O ⟨id,x,[],[],[]⟩ 2 _ w' hr.symm h1 h2
 have lL:=Z cD;have HX:=Z F;have hcut:=HV.O.cut (k:=2) (by omega);have HC:=Z hcut;clear F hcut hr gM ew cD;go_enter func181,ntmps181;go_wp2_with (first
  |(go_at_call 206;go_must(refine mh id 2 HK.O _ _ ?_))
  |(go_at_call 136;go_must(refine EM _ _ x HX.O _ (HC.O.below (cM.O _ _)) _ ?_)))
 exact U3
theorem apU(id:Int)(G:aS id=3)(v:Value)(b:List UInt8)(r:Option (Pr×Int))(hr:eK id b=r)(w:World)(hv:Bs w v b)(R:ak)
 (I:∀p u d w',r=some (p,u)→w'.ownsRow w 5 1 d p.data.length (bv p.data)→Below w w w'→R (.returned (.tuple #[.agg (bL p d),E u,.bool true])) w')
 (hF:∀n s t a m c u q w',r=none→q=false→Below w w w'→R (.returned (.tuple #[.agg #[E id,E n,.string s,.string t,.slice a m c],E u,.bool q])) w'):
 Calls prog 181 #[E id,v] w R:=by
 rw[YW id G] at hr;obtain⟨HR,HF,HK,HV⟩:=cF I hF G hv;obtain⟨ba,bc,rfl,_,ep,wL,_⟩:=_root_.id hv;have cM:Hid (∀c1 c2:Array Value,Below w w ((w.alloc (Obj.cells c1 147)).alloc (Obj.cells c2 147))):=Z fun c1 c2=>(aD _ _).alloc (by simp) _;clear I hF G hv;by_cases W:b.length<4
 ·have nC:(b.length:Int)<4:=by omega
  obtain rfl:r=none:=by rw[←hr,if_pos W]
  clear hr;go_enter func181,ntmps181;go_wp2_with (go_at_call 206;go_must(refine mh id 3 HK.O _ _ ?_));exact U2
 have nC:¬(b.length:Int)<4:=by omega
 have j':(4:Int)≤(bc:Int):=by omega
 have gM:=(BJ b 4 ⟨by omega,by omega⟩ (by omega)).1;obtain⟨x,F⟩:=ai (cX (b.take 4));rw[if_neg W,F] at hr;rw[F] at gM;have ew:wrap64 (x:Int)=(x:Int):=by unfold wrap64;omega
 have cD:∀w',w'.ownsRow w 5 1 (.slice none 0 0) 0 (bv [])→Below w w w'→R (.returned (.tuple #[.agg (vd id (wrap64 (x:Int))),E 4,.bool true])) w':=fun w' h1 h2=>by
  rw[ew];exact HR.O ⟨id,x,[],[],[]⟩ 4 _ w' hr.symm h1 h2
 have lL:=Z cD;have HX:=Z F;have hcut:=HV.O.cut (k:=4) (by omega);have HC:=Z hcut;clear F hcut hr gM ew cD;go_enter func181,ntmps181;go_wp2_with (first
  |(go_at_call 206;go_must(refine mh id 3 HK.O _ _ ?_))
  |(go_at_call 136;go_must(refine EM _ _ x HX.O _ (HC.O.below (cM.O _ _)) _ ?_)))
 exact U3
theorem apV(id:Int)(G:aS id=4)(v:Value)(b:List UInt8)(r:Option (Pr×Int))(hr:eK id b=r)(w:World)(hv:Bs w v b)(R:ak)
 (I:∀p u d w',r=some (p,u)→w'.ownsRow w 5 1 d p.data.length (bv p.data)→Below w w w'→R (.returned (.tuple #[.agg (bL p d),E u,.bool true])) w')
 (hF:∀n s t a m c u q w',r=none→q=false→Below w w w'→R (.returned (.tuple #[.agg #[E id,E n,.string s,.string t,.slice a m c],E u,.bool q])) w'):
 Calls prog 181 #[E id,v] w R:=by
 rw[YX id G] at hr;obtain⟨HR,HF,HK,HV⟩:=cF I hF G hv;obtain⟨ba,bc,rfl,_,ep,wL,_⟩:=_root_.id hv;have cM:Hid (∀c1 c2:Array Value,Below w w ((w.alloc (Obj.cells c1 147)).alloc (Obj.cells c2 147))):=Z fun c1 c2=>(aD _ _).alloc (by simp) _;clear I hF G hv;obtain⟨⟨x,y,z⟩,A⟩:∃g,dY b=g:=⟨_,rfl⟩
 rw[A] at hr;simp only at hr;have HG:=Z A;have gu:=Z hr;clear A hr;go_enter func181,ntmps181;go_wp2_with (first
  |(go_at_call 206;go_must(refine mh id 4 HK.O _ _ ?_))
  |(go_at_call 179;go_must(refine ze _ b x y z HG.O _ (HV.O.below (cM.O _ _)) _ ?_)))
 refine bodyPost_ret (pF rfl _ _ w 147 (vd id (x:Int)) (0,0) _ _ _ rfl rfl rfl (js (aH w _)) underlying147 rfl (by kernel_rfl)) rfl ?_;by_cases hz:z=0
 ·subst hz;exact HR.O ⟨id,x,[],[],[]⟩ y (.slice none 0 0) _ (by have:=gu.O;rw[if_pos rfl] at this;exact this.symm) (bO _ _ _ _) ((aD _ _).alloc (by simp) _)
 exact HF.O _ _ _ _ _ _ _ _ _ (by have:=gu.O;rw[if_neg hz] at this;exact this.symm) (by simp[hz]) ((aD _ _).alloc (by simp) _)
theorem apW(id:Int)(G:aS id=5)(v:Value)(b:List UInt8)(r:Option (Pr×Int))(hr:eK id b=r)(w:World)(hv:Bs w v b)(R:ak)
 (I:∀p u d w',r=some (p,u)→w'.ownsRow w 5 1 d p.data.length (bv p.data)→Below w w w'→R (.returned (.tuple #[.agg (bL p d),E u,.bool true])) w')
 (hF:∀n s t a m c u q w',r=none→q=false→Below w w w'→R (.returned (.tuple #[.agg #[E id,E n,.string s,.string t,.slice a m c],E u,.bool q])) w'):
 Calls prog 181 #[E id,v] w R:=by
 rw[YY id G] at hr;obtain⟨HR,HF,HK,HV⟩:=cF I hF G hv;obtain⟨ba,bc,rfl,_,ep,wL,_⟩:=_root_.id hv;have cM:Hid (∀c1 c2:Array Value,Below w w ((w.alloc (Obj.cells c1 147)).alloc (Obj.cells c2 147))):=Z fun c1 c2=>(aD _ _).alloc (by simp) _;clear I hF G hv;obtain⟨⟨S,u,z⟩,A⟩:∃g,dp b=g:=⟨_,rfl⟩
 rw[A] at hr;simp only at hr;have HG:=Z A;have gu:=Z hr;clear A hr;go_enter func181,ntmps181;go_wp2_with (first
  |(go_at_call 206;go_must(refine mh id 5 HK.O _ _ ?_))
  |(go_at_call 207;go_must(refine Qp _ b S u z HG.O _ (HV.O.below (cM.O _ _)) _ ?_)))
 refine bodyPost_ret (pF rfl _ _ w 147 (Er id S) (0,0) _ _ _ rfl rfl rfl (js (aH w _)) underlying147 rfl (by kernel_rfl)) rfl ?_;by_cases hz:z=0
 ·subst hz;exact HR.O ⟨id,0,S,[],[]⟩ u (.slice none 0 0) _ (by have:=gu.O;rw[if_pos rfl] at this;exact this.symm) (bO _ _ _ _) ((aD _ _).alloc (by simp) _)
 exact HF.O _ _ _ _ _ _ _ _ _ (by have:=gu.O;rw[if_neg hz] at this;exact this.symm) (by simp[hz]) ((aD _ _).alloc (by simp) _)
theorem apX(id:Int)(G:aS id=7)(v:Value)(b:List UInt8)(r:Option (Pr×Int))(hr:eK id b=r)(w:World)(hv:Bs w v b)(R:ak)
 (I:∀p u d w',r=some (p,u)→w'.ownsRow w 5 1 d p.data.length (bv p.data)→Below w w w'→R (.returned (.tuple #[.agg (bL p d),E u,.bool true])) w')
 (hF:∀n s t a m c u q w',r=none→q=false→Below w w w'→R (.returned (.tuple #[.agg #[E id,E n,.string s,.string t,.slice a m c],E u,.bool q])) w'):
 Calls prog 181 #[E id,v] w R:=by
 rw[Y0 id G] at hr;obtain⟨HR,HF,HK,HV⟩:=cF I hF G hv;obtain⟨ba,bc,rfl,_,ep,wL,_⟩:=_root_.id hv;have cM:Hid (∀c1 c2:Array Value,Below w w ((w.alloc (Obj.cells c1 147)).alloc (Obj.cells c2 147))):=Z fun c1 c2=>(aD _ _).alloc (by simp) _;clear I hF G hv;obtain⟨⟨S,u,z⟩,A⟩:∃g,dp b=g:=⟨_,rfl⟩
 rw[A] at hr;simp only at hr;have HG:=Z A;by_cases hz:z=0
 ·subst hz;obtain⟨t1,t2,t3,_,_⟩:=BI b S u A;obtain⟨j,rfl⟩:∃j:Nat,u=(j:Int):=⟨S.length+2,by omega⟩
  rw[if_pos rfl,toNat_natCast] at hr;obtain⟨⟨S',u',z'⟩,j9⟩:∃g,dp (b.drop j)=g:=⟨_,rfl⟩
  rw[j9] at hr;simp only at hr;have Sm:=Z j9;have gu:=Z hr;have hj:j≤b.length:=by omega
  have gA:(j:Int)≤70000:=by omega
  obtain⟨La,dm,bU⟩:=Hl HV.O hj;have eW:=Z bU;have hu:z'=0→0≤u'∧u'≤70000:=fun h=>by
   subst h;obtain⟨q1,q2,_⟩:=BI _ S' u' j9
   omega
  have HU:=Z hu;clear A hr j9 t1 t2 t3 bU hu;go_enter func181,ntmps181;go_wp2_with (first
   |(go_at_call 206;go_must(refine mh id 7 HK.O _ _ ?_))
   |(go_at_call_of 207 (Value.slice ba b.length bc);go_must(refine Qp _ b S j 0 HG.O _ (HV.O.below (cM.O _ _)) _ ?_))
   |(go_at_call 207;go_must(refine Qp _ (b.drop j) S' u' z' Sm.O _ (eW.O.below (cM.O _ _)) _ ?_)))
  refine bodyPost_ret (pF rfl _ _ w 147 (GX id S S') (0,0) _ _ _ rfl rfl rfl (js (aH w _)) underlying147 rfl (by kernel_rfl)) rfl ?_;by_cases hz:z'=0
  ·subst hz;have Nj:=HU.O rfl;have ew:wrap64 ((j:Int)+u')=(j:Int)+u':=by unfold wrap64;omega
   rw[ew];exact HR.O ⟨id,0,S,S',[]⟩ (j+u') (.slice none 0 0) _ (by have:=gu.O;rw[if_pos rfl] at this;exact this.symm) (bO _ _ _ _) ((aD _ _).alloc (by simp) _)
  exact HF.O _ _ _ _ _ _ _ _ _ (by have:=gu.O;rw[if_neg hz] at this;exact this.symm) (by simp[hz]) ((aD _ _).alloc (by simp) _)
 obtain rfl:r=none:=by rw[←hr,if_neg hz]
 have A8:(z != 0)=true:=by simp[hz]
 clear A hr;go_enter func181,ntmps181;go_wp2_with (first
  |(go_at_call 206;go_must(refine mh id 7 HK.O _ _ ?_))
  |(go_at_call_of 207 (Value.slice ba b.length bc);go_must(refine Qp _ b S u z HG.O _ (HV.O.below (cM.O _ _)) _ ?_)))
 refine bodyPost_ret (pF rfl _ _ w 147 (gj id) (0,0) _ _ _ rfl rfl rfl (js (aH w _)) underlying147 rfl (by kernel_rfl)) rfl ?_;exact HF.O _ _ _ _ _ _ _ _ _ (by first|rfl|trivial) (by first|rfl|simp[hz]) ((aD _ _).alloc (by simp) _)
theorem apY(awZ:World)(hK:K=awZ.heap.size)(hB:B≤K):(awZ.alloc (.cells #[] e)).ownsRow B e 1 (.slice (some ⟨K,0,none⟩) 0 0) 0 (bv []):=by
 subst hK;exact World.ownsRow_made awZ #[] 0 hB (by unfold maxLen;omega) (by simp)
theorem apZ(id:Int)(G:aS id=6)(v:Value)(b:List UInt8)(r:Option (Pr×Int))(hr:eK id b=r)(w:World)(hv:Bs w v b)(R:ak)
 (I:∀p u d w',r=some (p,u)→w'.ownsRow w 5 1 d p.data.length (bv p.data)→Below w w w'→R (.returned (.tuple #[.agg (bL p d),E u,.bool true])) w')
 (hF:∀n s t a m c u q w',r=none→q=false→Below w w w'→R (.returned (.tuple #[.agg #[E id,E n,.string s,.string t,.slice a m c],E u,.bool q])) w'):
 Calls prog 181 #[E id,v] w R:=by
 rw[YZ id G] at hr;obtain⟨HR,HF,HK,HV⟩:=cF I hF G hv;obtain⟨ba,bc,rfl,_,ep,wL,_⟩:=_root_.id hv;have cM:Hid (∀c1 c2:Array Value,Below w w ((w.alloc (Obj.cells c1 147)).alloc (Obj.cells c2 147))):=Z fun c1 c2=>(aD _ _).alloc (by simp) _;clear I hF G hv;obtain⟨⟨S,u,z⟩,A⟩:∃g,eh b=g:=⟨_,rfl⟩
 have av0:=R8 b S u z A;rw[A] at hr;simp only at hr;have HG:=Z A;have gu:=Z hr;obtain⟨X2,L0⟩:=ai ((w.alloc (.cells jt 147)).alloc (.cells (gj id) 147));have vY:Below w w X2:=by rw[←L0];exact cM.O _ _
 have n0:X2.heap[w.heap.size]? =some (.cells jt 147):=by rw[←L0];exact js (aH w _)
 have n1:X2.heap[w.heap.size+1]? =some (.cells (gj id) 147):=by
  rw[←L0];have:=aH (w.alloc (.cells jt 147)) (.cells (gj id) 147);rw[show(w.alloc (.cells jt 147)).heap.size=w.heap.size+1 by simp] at this;exact this
 obtain⟨N0,N1,jm⟩:=bX n0 n1 L0;clear A hr n0 n1 L0;go_enter func181,ntmps181;go_wp2_with fail;rw[jm.O];go_wp2_with (first
  |(go_at_call 206;go_must(refine mh id 6 HK.O _ _ ?_))
  |(go_at_call 208;go_must(refine U1 _ b S u z HG.O _ (HV.O.below vY) _ ?_);intro ga gc Nl;have uu:=apY (B:=X2.heap.size) (e:=5) X2 rfl bj;have vC:Below X2 X2 (X2.alloc (.cells #[] 5)):=aD X2 _;obtain⟨s1,s2,se,nh,_,_,Ct⟩:=Nl.below vC;simp only[Value.slice.injEq] at se;obtain⟨rfl,-,rfl⟩:=se;clear Nl)
  |(at_builtin;go_must(refine kU (by rfl) (.tmp 69) (.tmp 70) 22 (by rfl) X2 5 (.int .u8 0) 1 1 underlying22 Tryz.cP rfl (by decide) _ _ _ _ rfl uu _ _ _ _ rfl nh (fC _) Ct (by unfold maxLen;omega) (by omega) (by simp) ?_);intro Cv c7 w7 qQ fT;rw[zero_add] at qQ;have Cw:=bT vC fT (by simp) uu;have m0:=cj N0.O Cw;have m1:=cj N1.O Cw;obtain⟨gO,gP,gQ,gR,gT,gU,gV,gW,gX,gY⟩:=c5 m0;obtain⟨rp,ru,ry,rz,rA,rB,rC,rD,rE,rF⟩:=c5 m1;have M0:=Z m0;have M1:=Z m1;have iz:=aQ vY Cw;have th:=Z (cm (jE:=w.heap.size) qQ vY.size);clear uu nh Ct fT vC qQ Cw m0 m1))
 have p1:=bm _ _ 4 _ _ (.slice Cv S.length c7) M1.O;have p0:(w7.setCell ⟨w.heap.size+1,4,none⟩ (.slice Cv S.length c7)).heap[w.heap.size]? =some (.cells jt 147):=by
  rw[heap_setCell_other _ _ _ _ (by simp)];exact M0.O
 refine bodyPost_ret (pF rfl _ _ w 147 (GW id Cv S c7) (0,0) _ _ _ rfl rfl rfl (mX p0 rfl _ _ _ _ _) underlying147 rfl (by kernel_rfl)) rfl ?_;by_cases hz:z=0
 ·subst hz;refine HR.O ⟨id,0,[],[],S⟩ u (.slice Cv S.length c7) _ (by have:=gu.O;rw[if_pos rfl] at this;exact this.symm) (ET p0 (by decide) _ _ _ _ _ _ _ _ _ (iZ.CT M1.O (by decide) _ _ _ _ ?_)) (iI (iz.setCell (by show w.heap.size≤w.heap.size+1;omega) _) bj _ _ _ _ _);have:=th.O
  simpa [bv] using this
 exact HF.O _ _ _ _ _ _ _ _ _ (by have:=gu.O;rw[if_neg hz] at this;exact this.symm) (by simp[hz]) (iI (iz.setCell (by show w.heap.size≤w.heap.size+1;omega) _) bj _ _ _ _ _)
theorem adb(id:Int)(G:aS id≠0)(v:Value)(b:List UInt8)(r:Option (Pr×Int))(hr:eK id b=r)(w:World)(hv:Bs w v b)(R:ak)
 (I:∀p u d w',r=some (p,u)→w'.ownsRow w 5 1 d p.data.length (bv p.data)→Below w w w'→R (.returned (.tuple #[.agg (bL p d),E u,.bool true])) w')
 (hF:∀n s t a m c u q w',r=none→q=false→Below w w w'→R (.returned (.tuple #[.agg #[E id,E n,.string s,.string t,.slice a m c],E u,.bool q])) w'):
 Calls prog 181 #[E id,v] w R:=by
 rcases JS id with h|h|h|h|h|h|h|h
 ·exact absurd h G
 ·exact apS id h v b r hr w hv R I hF
 ·exact apT id h v b r hr w hv R I hF
 ·exact apU id h v b r hr w hv R I hF
 ·exact apV id h v b r hr w hv R I hF
 ·exact apW id h v b r hr w hv R I hF
 ·exact apZ id h v b r hr w hv R I hF
 exact apX id h v b r hr w hv R I hF
open List (drop_eq_getElem_cons drop_of_length_le drop_zero)
theorem ap0(n:Int)(c:Nat)(J:dU ⟨1,n,[],[],[]⟩=c)(w:World)(R:ak)(I:R (.returned (E c)) w):
 Calls prog 183 #[E 1,E n] w R:=by
 by_cases h:1<n
 ·obtain rfl:c=130:=by rw[←J];unfold dU;rw[if_pos ⟨by show aS 1=1;decide,h⟩]
  clear J;go_enter func183,ntmps183;go_wp2;exact I
 obtain rfl:c=0:=by rw[←J];unfold dU;rw[if_neg (fun hh=>h hh.2)];simp
 have hn:¬(1:Int)<n:=h;clear J;go_enter func183,ntmps183;go_wp2;exact I
theorem ap1(n:Int)(c:Nat)(J:dU ⟨23,n,[],[],[]⟩=c)(w:World)(R:ak)(I:R (.returned (E c)) w):
 Calls prog 183 #[E 23,E n] w R:=by
 by_cases h:1<n
 ·obtain rfl:c=130:=by rw[←J];unfold dU;rw[if_pos ⟨by show aS 23=1;decide,h⟩]
  clear J;go_enter func183,ntmps183;go_wp2;exact I
 obtain rfl:c=0:=by rw[←J];unfold dU;rw[if_neg (fun hh=>h hh.2)];simp
 have hn:¬(1:Int)<n:=h;clear J;go_enter func183,ntmps183;go_wp2;exact I
theorem ap2(n:Int)(c:Nat)(J:dU ⟨25,n,[],[],[]⟩=c)(w:World)(R:ak)(I:R (.returned (E c)) w):
 Calls prog 183 #[E 25,E n] w R:=by
 by_cases h:1<n
 ·obtain rfl:c=130:=by rw[←J];unfold dU;rw[if_pos ⟨by show aS 25=1;decide,h⟩]
  clear J;go_enter func183,ntmps183;go_wp2;exact I
 obtain rfl:c=0:=by rw[←J];unfold dU;rw[if_neg (fun hh=>h hh.2)];simp
 have hn:¬(1:Int)<n:=h;clear J;go_enter func183,ntmps183;go_wp2;exact I
theorem ap3(n:Int)(c:Nat)(J:dU ⟨36,n,[],[],[]⟩=c)(w:World)(R:ak)(I:R (.returned (E c)) w):
 Calls prog 183 #[E 36,E n] w R:=by
 by_cases h:1<n
 ·obtain rfl:c=130:=by rw[←J];unfold dU;rw[if_pos ⟨by show aS 36=1;decide,h⟩]
  clear J;go_enter func183,ntmps183;go_wp2;exact I
 obtain rfl:c=0:=by rw[←J];unfold dU;rw[if_neg (fun hh=>h hh.2)];simp
 have hn:¬(1:Int)<n:=h;clear J;go_enter func183,ntmps183;go_wp2;exact I
theorem ap4(n:Int)(c:Nat)(J:dU ⟨37,n,[],[],[]⟩=c)(w:World)(R:ak)(I:R (.returned (E c)) w):
 Calls prog 183 #[E 37,E n] w R:=by
 by_cases h:1<n
 ·obtain rfl:c=130:=by rw[←J];unfold dU;rw[if_pos ⟨by show aS 37=1;decide,h⟩]
  clear J;go_enter func183,ntmps183;go_wp2;exact I
 obtain rfl:c=0:=by rw[←J];unfold dU;rw[if_neg (fun hh=>h hh.2)];simp
 have hn:¬(1:Int)<n:=h;clear J;go_enter func183,ntmps183;go_wp2;exact I
theorem ap5(n:Int)(c:Nat)(J:dU ⟨40,n,[],[],[]⟩=c)(w:World)(R:ak)(I:R (.returned (E c)) w):
 Calls prog 183 #[E 40,E n] w R:=by
 by_cases h:1<n
 ·obtain rfl:c=130:=by rw[←J];unfold dU;rw[if_pos ⟨by show aS 40=1;decide,h⟩]
  clear J;go_enter func183,ntmps183;go_wp2;exact I
 obtain rfl:c=0:=by rw[←J];unfold dU;rw[if_neg (fun hh=>h hh.2)];simp
 have hn:¬(1:Int)<n:=h;clear J;go_enter func183,ntmps183;go_wp2;exact I
theorem ap6(n:Int)(c:Nat)(J:dU ⟨41,n,[],[],[]⟩=c)(w:World)(R:ak)(I:R (.returned (E c)) w):
 Calls prog 183 #[E 41,E n] w R:=by
 by_cases h:1<n
 ·obtain rfl:c=130:=by rw[←J];unfold dU;rw[if_pos ⟨by show aS 41=1;decide,h⟩]
  clear J;go_enter func183,ntmps183;go_wp2;exact I
 obtain rfl:c=0:=by rw[←J];unfold dU;rw[if_neg (fun hh=>h hh.2)];simp
 have hn:¬(1:Int)<n:=h;clear J;go_enter func183,ntmps183;go_wp2;exact I
theorem ap7(n:Int)(c:Nat)(J:dU ⟨42,n,[],[],[]⟩=c)(w:World)(R:ak)(I:R (.returned (E c)) w):
 Calls prog 183 #[E 42,E n] w R:=by
 by_cases h:1<n
 ·obtain rfl:c=130:=by rw[←J];unfold dU;rw[if_pos ⟨by show aS 42=1;decide,h⟩]
  clear J;go_enter func183,ntmps183;go_wp2;exact I
 obtain rfl:c=0:=by rw[←J];unfold dU;rw[if_neg (fun hh=>h hh.2)];simp
 have hn:¬(1:Int)<n:=h;clear J;go_enter func183,ntmps183;go_wp2;exact I
theorem U4{P:Prop}(h:P:=by
 obtain rfl:c=130:=by rw[←J];decide
 clear J;go_enter func183,ntmps183;go_wp2;exact I):P:=h
theorem ap8(n:Int)(c:Nat)(J:dU ⟨11,n,[],[],[]⟩=c)(w:World)(R:ak)(I:R (.returned (E c)) w):
 Calls prog 183 #[E 11,E n] w R:=by
 by_cases h:n=0
 ·subst h;exact U4
 obtain rfl:c=0:=by
  rw[←J];unfold dU;have G:aS 11≠1:=by decide
  simp[G,h]
 clear J;go_enter func183,ntmps183;go_wp2;exact I
theorem ap9(n:Int)(c:Nat)(J:dU ⟨33,n,[],[],[]⟩=c)(w:World)(R:ak)(I:R (.returned (E c)) w):
 Calls prog 183 #[E 33,E n] w R:=by
 by_cases h:n=0
 ·subst h;exact U4
 obtain rfl:c=0:=by
  rw[←J];unfold dU;have G:aS 33≠1:=by decide
  simp[G,h]
 clear J;go_enter func183,ntmps183;go_wp2;exact I
theorem aqa(n:Int)(c:Nat)(J:dU ⟨39,n,[],[],[]⟩=c)(w:World)(R:ak)(I:R (.returned (E c)) w):
 Calls prog 183 #[E 39,E n] w R:=by
 by_cases h:n=0
 ·subst h;exact U4
 obtain rfl:c=0:=by
  rw[←J];unfold dU;have G:aS 39≠1:=by decide
  simp[G,h]
 clear J;go_enter func183,ntmps183;go_wp2;exact I
theorem aqb(n:Int)(c:Nat)(J:dU ⟨35,n,[],[],[]⟩=c)(w:World)(R:ak)(I:R (.returned (E c)) w):
 Calls prog 183 #[E 35,E n] w R:=by
 by_cases h:n=0
 ·subst h;obtain rfl:c=148:=by rw[←J];decide
  clear J;go_enter func183,ntmps183;go_wp2;exact I
 obtain rfl:c=0:=by
  rw[←J];unfold dU;have G:aS 35≠1:=by decide
  simp[G,h]
 clear J;go_enter func183,ntmps183;go_wp2;exact I
theorem aqc(p:Pr):dU p=dU ⟨p.id,p.num,[],[],[]⟩:=rfl
theorem Qq(id n:Int)(c:Nat)(J:dU ⟨id,n,[],[],[]⟩=c)(w:World)(R:ak)(I:R (.returned (E c)) w):
 Calls prog 183 #[E id,E n] w R:=by
 by_cases h1:id=1
 ·subst h1;exact ap0 n c J w R I
 by_cases h11:id=11
 ·subst h11;exact ap8 n c J w R I
 by_cases h23:id=23
 ·subst h23;exact ap1 n c J w R I
 by_cases h25:id=25
 ·subst h25;exact ap2 n c J w R I
 by_cases h33:id=33
 ·subst h33;exact ap9 n c J w R I
 by_cases h35:id=35
 ·subst h35;exact aqb n c J w R I
 by_cases h36:id=36
 ·subst h36;exact ap3 n c J w R I
 by_cases h37:id=37
 ·subst h37;exact ap4 n c J w R I
 by_cases h39:id=39
 ·subst h39;exact aqa n c J w R I
 by_cases h40:id=40
 ·subst h40;exact ap5 n c J w R I
 by_cases h41:id=41
 ·subst h41;exact ap6 n c J w R I
 by_cases h42:id=42
 ·subst h42;exact ap7 n c J w R I
 obtain rfl:c=0:=by
  rw[←J];have G:aS id≠1:=by
   unfold aS;simp only[h1,h23,h25,h36,h37,h40,h41,h42,or_self,if_false]
   repeat' split
   all_goals omega
  unfold dU;simp[G,h11,h33,h39,h35]
 clear J;go_enter func183,ntmps183;go_wp2;exact I
theorem Qr(id:Int)(v:Value)(l:List Pr)(p:Pr)(q:Bool)(hp:(ot id l).getD mK=p)(hq:(ot id l).isSome=q)(w:World)(hv:Ps w v l)(R:ak)
 (I:∀a c w',PC w' (.slice a p.data.length c) p→Below w w w'→R (.returned (.tuple #[.agg (eA p a c),.bool q])) w'):
 Calls prog 182 #[E id,v] w R:=by
 have HR:=Z I;have HV:=Z hv;have cB:Hid ((ot id (l.drop 0)).getD mK=p∧(ot id (l.drop 0)).isSome=q):=by rw[drop_zero];exact Z ⟨hp,hq⟩
 clear I hp hq;obtain⟨va,vc,rfl,_⟩:=hv;have U:Below w w (w.alloc (.cells jt 147)):=aD _ _;have HB:=Z U;clear U;go_enter func182,ntmps182;go_wp2;go_loop [6] (fun i=>∃k:Nat,k≤l.length∧i= .int .i64 k∧Hid ((ot id (l.drop k)).getD mK=p∧(ot id (l.drop k)).isSome=q)) (fun i=>l.length - (intOf i).toNat)
 case atStart=>exact⟨0,bP _,rfl,cB⟩
 case round=>
  obtain⟨k,G,rfl,HS⟩:=hrel;by_cases au:k<l.length
  ·have bo:(k:Int)<(l.length:Int):=by omega
   obtain⟨EU,EV,ee,_,_,_,v4⟩:=HV.O.below HB.O;simp only[Value.slice.injEq] at ee;obtain⟨rfl,-,rfl⟩:=ee;obtain⟨vb,vo,rfl,v5⟩:=v4 (by omega);obtain⟨d0,⟨p0,p1,p2,p3,p4⟩,iJ⟩:=v5 k au;obtain⟨y,hy⟩:=ai (l[k]);rw[hy] at p0 p1 p2 p3 iJ;have EW:=HS.O;rw[drop_eq_getElem_cons au,hy,ot,List.find?_cons] at EW;obtain⟨d1,d3,rfl⟩:∃a c,d0= .slice a y.data.length c:=by obtain⟨a,c,h,_⟩:=iJ.hd;exact⟨_,_,h⟩
   have nD:=Z EW;have aqd:Hid (PC w (.slice d1 y.data.length d3) y):=by
    obtain⟨wa,wc,we,_,_,_,w4⟩:=HV.O;simp only[Value.slice.injEq] at we;obtain⟨rfl,-,rfl⟩:=we;obtain⟨wb,wo,ade,w5⟩:=w4 (by omega);simp only[Option.some.injEq,Addr.mk.injEq] at ade;obtain⟨rfl,rfl,-⟩:=ade;obtain⟨e0,⟨_,_,_,_,r4⟩,xI⟩:=w5 k au;rw[hy] at xI;have h9:=cell_later HB.O r4;rw[p4] at h9;obtain rfl:=Option.some.inj h9;exact Z xI
   clear v4 v5 hy EW iJ HS;by_cases hid:y.id=id
   ·have EY:y=p∧true=q:=by
     have:=nD.O;rw[eN hid] at this;exact this
    obtain⟨rfl,rfl⟩:=EY;subst hid;go_wp2;refine bodyPost_ret (NW rfl _ _ w 147 (eA y d1 d3) (0,0) _ (Value.bool true) rfl rfl (aH w _) underlying147 rfl (by kernel_rfl)) rfl ?_;exact HR.O _ _ _ (aqd.O.below (aD _ _)) (aD _ _)
   have so:Hid ((ot id (l.drop (k+1))).getD mK=p∧(ot id (l.drop (k+1))).isSome=q):=by
    have:=nD.O;rw[dN hid] at this;exact this
   go_wp2;go_round
   case rel=>exact⟨k+1,by omega,by go_num,so⟩
   case measure=>simp[intOf];omega
  have bo:¬(k:Int)<(l.length:Int):=by omega
  have EY:mK=p∧false=q:=by
   have:=HS.O;rw[drop_of_length_le (by omega)] at this;exact this
  obtain⟨rfl,rfl⟩:=EY;clear HS;go_wp2;refine bodyPost_ret (NW rfl _ _ w 147 jt (0,0) _ (Value.bool false) rfl rfl (aH w _) underlying147 rfl (by kernel_rfl)) rfl ?_;exact HR.O _ _ _ ⟨ES _,by simp[mK],by simp[mK],by simp[mK],by simp[mK],by simp[mK],by simp[mK],by simp[mK]⟩ HB.O
