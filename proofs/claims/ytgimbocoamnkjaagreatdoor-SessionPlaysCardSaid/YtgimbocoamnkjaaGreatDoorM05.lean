/- A part of the proof of SessionPlays, printed small; no conditions of its own. -/
import Derived.Test.YtgimbocoamnkjaaGreatDoorM04
set_option maxRecDepth 100000
set_option maxHeartbeats 16000000
namespace Go.Proofs.YtgimbocoamnkjaaGreatDoor
open _root_.Go.Proofs.Tryz
variable{i j n:Nat}{ad:Option Addr}{w:World}
open Go.RowKit
theorem ady(l:List UInt8)(h:2≤l.length):cz (l.take 2)<65536:=by
 match l,h with
 |a::b::r,_=>
  have h1:=a.toNat_lt;have h2:=b.toNat_lt;show ((0*256+a.toNat) % 18446744073709551616*256+b.toNat) % 18446744073709551616<65536
  omega
theorem J5(l:List UInt8):(l.length<2∧eO l=([],0,11))∨∃n:Nat,Hid (cz (l.take 2)=n)∧n<65536∧2≤l.length∧((l.length - 2<n∧eO l=([],0,11))∨(2+n≤l.length∧eO l=((l.take (2+n)).drop 2,2+(n:Int),0))):=by
 by_cases h:l.length<2
 ·exact .inl ⟨h,by unfold eO;rw [if_pos (.inl h)]⟩
 ·refine .inr ⟨_,rfl,ady l (by omega),by omega,?_⟩;by_cases h2:l.length - 2<cz (l.take 2)
  ·exact .inl ⟨h2,by unfold eO;rw [if_pos (.inr h2)]⟩
  ·exact .inr ⟨by omega,by unfold eO;rw [if_neg (by omega)]⟩
theorem Bs.UJ{c:Nat}{l:List UInt8}(h:Bs w (.slice ad n c) l)(hi:i≤j)(hj:j≤l.length):
 Bs w (.slice (ad.map fun a=>a.add i) (j - i) (c - i)) ((l.take j).drop i):=by
 obtain ⟨bq,c',e,hr,h1,h2,h3⟩:=h;simp only [Value.slice.injEq] at e;obtain ⟨rfl,rfl,rfl⟩:=e;have hl:((l.take j).drop i).length=j - i:=by rw [List.length_drop,List.length_take];omega
 refine ⟨_,c - i,by rw [hl],?_,by omega,by omega,?_⟩
 ·rw [hl];refine ⟨by simp [hl],fun h0=> ?_⟩;obtain ⟨b,o,rfl,hc⟩:=hr.2 (by omega);refine ⟨b,o+i,by simp [Addr.add],fun q hq=> ?_⟩;rw [show o+i+q=o+(i+q) by omega,hc (i+q) (by omega)];simp only [bv,List.getElem?_map,List.getElem?_drop,List.getElem?_take];rw [if_pos (by omega)]
 ·intro hn;cases ad with
  |none=>rw [h3 rfl];omega
  |some a=>simp at hn
theorem get_at(v:Value)(l:List UInt8)(n:Nat)(hn:cz l=n)(w:World)(hv:Bs w v l)(R:Ending→World→Prop)
 (hR:R (.returned (.int .u64 n)) w):Calls prog 109 #[v] w R:=by
 subst hn;exact adq v l w hv R hR
theorem EB(v:Value)(l:List UInt8)(n:Nat)(hn:cz l=n)(w:World)(hv:Bs w v l)(R:Ending→World→Prop)
 (hR:R (.returned (.int .u64 n)) w):Calls prog 136 #[v] w R:=by
 subst hn;exact ads v l w hv R hR
theorem Cn(v:Value)(l D:List UInt8)(u er:Int)(hD:eO l=(D,u,er))(w:World)(hv:Bs w v l)(R:Ending→World→Prop)
 (hR:∀ad c w',w'.ownsRow w 5 1 (.slice ad D.length c) D.length (bv D)→Below w w w'→R (.returned (.tuple #[.slice ad D.length c,.int .i64 u,.int .i64 er])) w'):
 Calls prog 112 #[v] w R:=by
 have dO:=hv;obtain ⟨ad,c,rfl,hr,hc,hm,gG⟩:=dO;rcases J5 l with ⟨h,e⟩|⟨n,hn,tE,nU,⟨h,e⟩|⟨h,e⟩⟩
 ·rw [hD] at e;simp only [Prod.mk.injEq] at e;obtain ⟨rfl,rfl,rfl⟩:=e;clear hD;go_enter func112,ntmps112;go_wp2;go_ret3;exact hR _ _ _ (World.ownsRow_nil _ _ _ _) (Below.refl _ _)
 ·rw [hD] at e;simp only [Prod.mk.injEq] at e;obtain ⟨rfl,rfl,rfl⟩:=e;clear hD;have hb:=hv.cut (k:=2) nU;have hx:((l.length:Int) - 2<(n:Int)):=by omega
  go_enter func112,ntmps112;go_wp2_with (go_at_call 109;go_must (refine get_at _ _ n hn.o_ _ hb _ ?_));go_wp2;go_ret3;exact hR _ _ _ (World.ownsRow_nil _ _ _ _) (Below.refl _ _)
 ·rw [hD] at e;simp only [Prod.mk.injEq] at e;obtain ⟨e1,rfl,rfl⟩:=e;have EA:D.length=n:=by rw [e1,List.length_drop,List.length_take];omega
  have HF:Hid ([D].flatten=D):=by simp [Hid]
  have hb:=hv.cut (k:=2) nU;obtain ⟨b,o,rfl,aW⟩:=hr.AA (by omega);clear aW hr;have ah:=hv.UJ (i:=2) (j:=2+n) (by omega) h;rw [show 2+n - 2=n by omega] at ah;rw [←e1] at ah;simp only [Option.map_some,Addr.add] at ah;clear hD e1;have hx:¬((l.length:Int) - 2<(n:Int)):=by omega
  rw [EA] at hR;have ef:c - 2≤9223372036854775807:=by omega
  have rD:∀(bq:Option Addr)(c':Nat),Bs w (.slice bq n c') D→vT (w.alloc (.cells #[.slice bq n c'] 22)) (.slice (some ⟨w,0,none⟩) 1 1) [D]:=fun bq c' hq=>acn hq;by_cases b_:c=2
  ·subst b_;obtain rfl:n=0:=by omega
   have an:Bs w (.slice (some ⟨b,o,none⟩) 0 0) D:=by
    exact UE
   have hB:=rD _ _ an;clear rD ah;go_enter func112,ntmps112;go_wp2_with (go_at_call 109;go_must (refine get_at _ _ _ hn.o_ _ hb _ ?_));go_wp2_with (go_at_call 109;go_must (refine get_at _ _ _ hn.o_ _ hb _ ?_));go_wp2_with (go_at_call 55;go_must (refine m_ _ _ D HF.o_ _ hB (by omega) _ ?_));intro fY c3 w3 iH cH;have bZ:=bN (gF:=w.heap.size) iH (by simp);have ak:=aD ((Below.refl w w).alloc (Nat.le_refl _) _) cH (by simp);clear hb hB an hn iH cH;go_wp2;go_ret3;exact hR _ _ _ bZ ak
  ·have hB:=rD _ _ ah;clear rD ah;go_enter func112,ntmps112;go_wp2_with (go_at_call 109;go_must (refine get_at _ _ n hn.o_ _ hb _ ?_));go_wp2_with (go_at_call 109;go_must (refine get_at _ _ n hn.o_ _ hb _ ?_));go_wp2_with (go_at_call 55;go_must (refine m_ _ _ D HF.o_ _ hB (by omega) _ ?_));intro fY c3 w3 iH cH;have bZ:=bN (gF:=w.heap.size) iH (by simp);have ak:=aD ((Below.refl w w).alloc (Nat.le_refl _) _) cH (by simp);clear hb hB hn iH cH;go_wp2;go_ret3;exact hR _ _ _ bZ ak
theorem Od(l D:List UInt8)(u er:Int)(h:eO l=(D,u,er)):D.length≤65535:=by
 rcases J5 l with ⟨_,e⟩|⟨n,hn,tE,nU,⟨_,e⟩|⟨h2,e⟩⟩
 ·rw [h] at e;simp only [Prod.mk.injEq] at e;rw [e.1];simp
 ·rw [h] at e;simp only [Prod.mk.injEq] at e;rw [e.1];simp
 ·rw [h] at e;simp only [Prod.mk.injEq] at e;rw [e.1,List.length_drop,List.length_take];omega
def dq(l:List UInt8):List UInt8×Int×Int:=
 if (eO l).2.2≠0 then ([],0,(eO l).2.2) else if dV (eO l).1 then ((eO l).1,(eO l).2.1,0) else ([],0,13)
theorem Co(v:Value)(l S:List UInt8)(u er:Int)(hD:dq l=(S,u,er))(w:World)(hv:Bs w v l)(hT:di w)(R:Ending→World→Prop)
 (hR:∀w',Below w w w'→R (.returned (.tuple #[.string (str S),.int .i64 u,.int .i64 er])) w'):
 Calls prog 108 #[v] w R:=by
 have dO:=hv;obtain ⟨ad,c,rfl,hr,hc,hm,gG⟩:=dO;clear hr;obtain ⟨⟨d,u1,e1⟩,hg⟩:∃g,eO l=g:=⟨_,rfl⟩
 have jT:=Od _ _ _ _ hg;have HG:=ab hg;unfold dq at hD;rw [hg] at hD;simp only at hD;clear hg;by_cases he:e1=0
 ·subst he;rw [if_neg (by simp)] at hD;obtain ⟨t,ht⟩:=ai (dV d);rw [ht] at hD;have HT:=ab ht;clear ht;cases t with
  |false=>
   simp only [Bool.false_eq_true,if_false,Prod.mk.injEq] at hD;obtain ⟨rfl,rfl,rfl⟩:=hD;go_enter func108,ntmps108;go_wp2_with (go_at_call 112;go_must (refine Cn _ l d u1 0 HG.o_ _ hv _ ?_));intro uP c1 w1 bQ aw;have bX:=(eD bQ).2;have hcv:=ru (P:=prog) underlying22 underlying5 underlying9 bX;have F9:=hT.below aw;clear bQ hv bX;go_wp2_with (go_at_call 117;go_must (refine JZ d _ (by omega) F9 _ ?_));rw [HT.o_];intro w2 ah;have an:=aD aw ah aw.size;clear ah aw hcv hT F9;go_wp2;go_ret3;exact hR _ an
  |true=>
   simp only [if_true,Prod.mk.injEq] at hD;obtain ⟨rfl,rfl,rfl⟩:=hD;go_enter func108,ntmps108;go_wp2_with (go_at_call 112;go_must (refine Cn _ l d u1 0 HG.o_ _ hv _ ?_));intro uP c1 w1 bQ aw;have bX:=(eD bQ).2;have hcv:=ru (P:=prog) underlying22 underlying5 underlying9 bX;have F9:=hT.below aw;clear bQ hv;go_wp2_with (go_at_call 117;go_must (refine JZ d _ (by omega) F9 _ ?_));rw [HT.o_];intro w2 ah;have an:=aD aw ah aw.size;have aqa:=ru (P:=prog) underlying22 underlying5 underlying9 (bX.below ah);clear ah aw hT F9 bX hcv;go_wp2;go_ret3;exact hR _ an
 ·rw [if_pos he] at hD;simp only [Prod.mk.injEq] at hD;obtain ⟨rfl,rfl,rfl⟩:=hD;have bh:((e1:Int)==0)=false:=by simpa using he
  go_enter func108,ntmps108;go_wp2_with (go_at_call 112;go_must (refine Cn _ l d u1 e1 HG.o_ _ hv _ ?_));intro uP c1 w1 bQ aw;clear bQ hv;go_wp2;go_ret3;exact hR _ aw
open List (drop_eq_getElem_cons)
open Nat (add_zero div_lt_of_lt_mul mul_comm)
def mz:Nat→Nat→List UInt8
 |0,n=> [b8 n]
 |f+1,n=>if n<128 then [b8 n] else b8 ((n % 128+128:Nat):Int)::mz f (n / 128)
def jz(n:Nat):List UInt8:=mz 3 n
theorem EC(f n:Nat)(h:n<128):mz f n= [b8 n]:=by
 cases f with
 |zero=>rfl
 |succ f=>simp [mz,h]
theorem F_(f n:Nat)(h:¬n<128):mz (f+1) n=b8 ((n % 128+128:Nat):Int)::mz f (n / 128):=by simp [mz,h]
theorem adz(x:Int)(h0:0≤x)(h1:x<256):bits .or .u8 x 128=x % 128+128:=by
 obtain ⟨n,rfl⟩:=Int.eq_ofNat_of_zero_le h0;have:=u8_or_nat n 128 (by omega) (by omega);have e:∀m,m<256→m ||| 128=m % 128+128:=by decide+kernel
 rw [e n (by omega)] at this;exact this
def dG(n:Int):List UInt8×Int:=if n<0∨268435455<n then ([],10) else (jz n.toNat,0)
theorem UK{P:Prop}(h:P:=by
 rw [e] at hR;go_enter func172,ntmps172;go_wp2;exact hR _ _ _ (World.ownsRow_nil _ _ _ _) (Below.refl _ _)):P:=h
theorem UL{P:Prop}(h:P:=by
 go_wp2;go_roundw
 case rel=>exact ⟨f,cur / 128,HF.o_,by omega,by go_num,⟨fY,c3,qO,H2,UM,rfl,bZ⟩,an⟩
 case measure=>simp [intOf];omega):P:=h
theorem UN{P:Prop}(h:P:=by
 intro fY c3 w3 iH cB;have an:=bC (hb.alloc bm _) cB (by simp;omega) (aV.alloc _);have bZ:=Nz (b8 (cur:Int)) (by rw [uE];omega) iH;rw [H.o_] at bZ;have hl:iZ.length+1=(jz m).length:=by rw [←H.o_];simp
 rw [hl] at bZ⊢;go_wp2;exact hR _ _ _ bZ an):P:=h
theorem sF(n:Int)(V:List UInt8)(er:Int)(hV:dG n=(V,er))(w:World)(R:Ending→World→Prop)
 (hR:∀ad c w',w'.ownsRow w 5 1 (.slice ad V.length c) V.length (bv V)→Below w w w'→R (.returned (.tuple #[.slice ad V.length c,.int .i64 er])) w'):
 Calls prog 172 #[.int .i64 n] w R:=by
 obtain rfl:V=(dG n).1:=by rw [hV]
 obtain rfl:er=(dG n).2:=by rw [hV]
 clear hV;by_cases h1:n<0
 ·have e:dG n=([],10):=by unfold dG;rw [if_pos (.inl h1)]
  exact UK
 ·by_cases h2:268435455<n
  ·have e:dG n=([],10):=by unfold dG;rw [if_pos (.inr h2)]
   exact UK
  ·obtain ⟨m,rfl⟩:=Int.eq_ofNat_of_zero_le (show 0≤n by omega);have e:dG m=(jz m,0):=by unfold dG;rw [if_neg (by omega)];rfl
   rw [e] at hR;clear e h1;have hm:m<268435456:=by omega
   clear h2;go_enter func172,ntmps172;go_wp2;go_loopw [0,4] (fun x y wr=>∃f cur:Nat,cur<128 ^ (f+1)∧cur<268435456∧x= .int .i64 cur∧(∃ad c,∃iZ:List UInt8,Hid (iZ++mz f cur=jz m)∧iZ.length+(f+1)≤4∧y= .slice ad iZ.length c∧wr.ownsRow w 5 1 (.slice ad iZ.length c) iZ.length (bv iZ))∧Below w w wr) (fun x _ _=>(intOf x).toNat)
   case atStart=>exact ⟨3,m,by omega,hm,rfl,⟨_,_,[],rfl,by simp,rfl,World.ownsRow_nil _ _ _ _⟩,Below.refl _ _⟩
   case round=>
    obtain ⟨f,cur,hf,b_,rfl,⟨ad,c,iZ,uN,wv,rfl,aV⟩,hb⟩:=hrel;by_cases ao:cur<128
    ·have H:=ab uN.o_;rw [EC f cur ao] at H;have bm:=hb.size;clear uN hf;go_wp2_with (at_builtin;go_must (refine j9 (by rfl) (.tmp 21) (.tmp 24) 22 (by rfl) w 5 (.int .u8 0) 1 1 underlying22 Tryz.cJ rfl (by decide) _ _ _ _ rfl (World.ownsRow.alloc aV _) _ _ _ _ rfl (cO _ _ _ 1 1 rfl) (nQ _ _) (by simp) (by unfold maxLen;omega) (by omega) (by simp;omega) ?_));exact UN
    ·cases f with
     |zero=>omega
     |succ f=>
      have H:=ab uN.o_;rw [F_ f cur ao] at H;have bm:=hb.size;have oS:=adz (cur % 256) (by omega) (by omega);have HO:=ab oS;have A3:cur / 128<128 ^ (f+1):=by
       rw [Nat.pow_succ] at hf;exact div_lt_of_lt_mul (by rw [mul_comm];exact hf)
      have HF:=ab A3;clear uN hf oS A3;go_wp2_with (at_builtin;go_must (refine j9 (by rfl) (.tmp 15) (.tmp 19) 22 (by rfl) w 5 (.int .u8 0) 1 1 underlying22 Tryz.cJ rfl (by decide) _ _ _ _ rfl (World.ownsRow.alloc aV _) _ _ _ _ rfl (cO _ _ _ 1 1 rfl) (nQ _ _) (by simp) (by unfold maxLen;omega) (by omega) (by simp;omega) ?_));intro fY c3 w3 iH cB;have an:=bC (hb.alloc bm _) cB (by simp;omega) (aV.alloc _);have bZ:=Nz (b8 ((cur % 128+128:Nat):Int)) (by rw [uE,HO.o_];omega) iH;obtain ⟨qO,uO⟩:∃qO,qO=iZ++ [b8 ((cur % 128+128:Nat):Int)]:=⟨_,rfl⟩
      have hl:iZ.length+1=qO.length:=by rw [uO];simp
      have H2:Hid (qO++mz f (cur / 128)=jz m):=by rw [uO,List.append_assoc];exact H
      rw [←uO] at bZ;rw [hl] at bZ⊢;have UM:qO.length+(f+1)≤4:=by omega
      clear hl uO aV iH H HO cB;exact UL
theorem UO{P:Prop}(h:P:=by
 rw [e] at hR;go_enter func204,ntmps204;go_wp2;exact hR _ _ _ (World.ownsRow_nil _ _ _ _) (Below.refl _ _)):P:=h
theorem UP(n:Int)(V:List UInt8)(er:Int)(hV:dG n=(V,er))(w:World)(R:Ending→World→Prop)
 (hR:∀ad c w',w'.ownsRow w 5 1 (.slice ad V.length c) V.length (bv V)→Below w w w'→R (.returned (.tuple #[.slice ad V.length c,.int .i64 er])) w'):
 Calls prog 204 #[.int .i64 n] w R:=by
 obtain rfl:V=(dG n).1:=by rw [hV]
 obtain rfl:er=(dG n).2:=by rw [hV]
 clear hV;by_cases h1:n<0
 ·have e:dG n=([],10):=by unfold dG;rw [if_pos (.inl h1)]
  exact UO
 ·by_cases h2:268435455<n
  ·have e:dG n=([],10):=by unfold dG;rw [if_pos (.inr h2)]
   exact UO
  ·obtain ⟨m,rfl⟩:=Int.eq_ofNat_of_zero_le (show 0≤n by omega);have e:dG m=(jz m,0):=by unfold dG;rw [if_neg (by omega)];rfl
   rw [e] at hR;clear e h1;have hm:m<268435456:=by omega
   clear h2;go_enter func204,ntmps204;go_wp2;go_loopw [0,4] (fun x y wr=>∃f cur:Nat,cur<128 ^ (f+1)∧cur<268435456∧x= .int .i64 cur∧(∃ad c,∃iZ:List UInt8,Hid (iZ++mz f cur=jz m)∧iZ.length+(f+1)≤4∧y= .slice ad iZ.length c∧wr.ownsRow w 5 1 (.slice ad iZ.length c) iZ.length (bv iZ))∧Below w w wr) (fun x _ _=>(intOf x).toNat)
   case atStart=>exact ⟨3,m,by omega,hm,rfl,⟨_,_,[],rfl,by simp,rfl,World.ownsRow_nil _ _ _ _⟩,Below.refl _ _⟩
   case round=>
    obtain ⟨f,cur,hf,b_,rfl,⟨ad,c,iZ,uN,wv,rfl,aV⟩,hb⟩:=hrel;by_cases ao:cur<128
    ·have H:=ab uN.o_;rw [EC f cur ao] at H;have bm:=hb.size;clear uN hf;go_wp2_with (at_builtin;go_must (refine j9 (by rfl) (.tmp 22) (.tmp 25) 22 (by rfl) w 5 (.int .u8 0) 1 1 underlying22 Tryz.cJ rfl (by decide) _ _ _ _ rfl (World.ownsRow.alloc aV _) _ _ _ _ rfl (cO _ _ _ 1 1 rfl) (nQ _ _) (by simp) (by unfold maxLen;omega) (by omega) (by simp;omega) ?_));exact UN
    ·cases f with
     |zero=>omega
     |succ f=>
      have H:=ab uN.o_;rw [F_ f cur ao] at H;have bm:=hb.size;have A3:cur / 128<128 ^ (f+1):=by
       rw [Nat.pow_succ] at hf;exact div_lt_of_lt_mul (by rw [mul_comm];exact hf)
      have HF:=ab A3;clear uN hf A3;go_wp2_with (at_builtin;go_must (refine j9 (by rfl) (.tmp 13) (.tmp 18) 22 (by rfl) w 5 (.int .u8 0) 1 1 underlying22 Tryz.cJ rfl (by decide) _ _ _ _ rfl (World.ownsRow.alloc aV _) _ _ _ _ rfl (cO _ _ _ 1 1 rfl) (nQ _ _) (by simp) (by unfold maxLen;omega) (by omega) (by simp;omega) ?_));intro fY c3 w3 iH cB;have an:=bC (hb.alloc bm _) cB (by simp;omega) (aV.alloc _);have bZ:=Nz (b8 ((cur % 128+128:Nat):Int)) (by rw [uE];omega) iH;obtain ⟨qO,uO⟩:∃qO,qO=iZ++ [b8 ((cur % 128+128:Nat):Int)]:=⟨_,rfl⟩
      have hl:iZ.length+1=qO.length:=by rw [uO];simp
      have H2:Hid (qO++mz f (cur / 128)=jz m):=by rw [uO,List.append_assoc];exact H
      rw [←uO] at bZ;rw [hl] at bZ⊢;have UM:qO.length+(f+1)≤4:=by omega
      clear hl uO aV iH H cB;exact UL
def kY:Nat→Nat→Nat→List UInt8→Nat×Nat×Nat
 |0,_,_,_=>(0,0,12)
 |_+1,_,_,[]=>(0,0,11)
 |f+1,i,n,c::r=>if c.toNat<128 then (if c.toNat=0∧0<i then (0,0,12) else (n+c.toNat % 128*128 ^ i,i+1,0)) else kY f (i+1) (n+c.toNat % 128*128 ^ i) r
def dg(l:List UInt8):Nat×Nat×Nat:=kY 4 0 0 l
theorem UQ{α:Type}(l:List α)(k:Nat)(h:k<l.length):l.drop k=l[k]::l.drop (k+1):=drop_eq_getElem_cons h
theorem wB(v:Value)(l:List UInt8)(x y z:Nat)(hG:dg l=(x,y,z))(w:World)(hv:Bs w v l)(R:Ending→World→Prop)
 (hR:R (.returned (.tuple #[.int .i64 x,.int .i64 y,.int .i64 z])) w):
 Calls prog 179 #[v] w R:=by
 obtain rfl:x=(dg l).1:=by rw [hG]
 obtain rfl:y=(dg l).2.1:=by rw [hG]
 obtain rfl:z=(dg l).2.2:=by rw [hG]
 clear hG;obtain ⟨ad,c,rfl,hr,hc,hm,gG⟩:=hv;go_enter func179,ntmps179;go_wp2;go_loop [5,6,7] (fun x u i=>∃k:Nat,k≤4∧k≤l.length∧i= .int .i64 k∧∃z:Nat,Hid (kY (4 - k) k z (l.drop k)=dg l)∧z<128 ^ k∧x= .int .i64 z∧u= .int .i64 (128 ^ k:Nat)) (fun _ _ i=>4 - (intOf i).toNat)
 case atStart=>exact ⟨0,by omega,Nat.zero_le _,rfl,_,rfl,by decide,rfl,rfl⟩
 case round=>
  obtain ⟨k,hk,f_,rfl,z,hz,kF,rfl,rfl⟩:=hrel;by_cases kZ:k=4
  ·subst kZ;have e:dg l=(0,0,12):=hz.o_.symm;rw [e] at hR;clear hz kF e;go_wp2;go_ret3;exact hR
  ·by_cases ao:k<l.length
   ·obtain ⟨b,o,rfl,aW⟩:=hr.AA (by omega);have rB:=aW k ao;have ED:=l[k].toNat_lt;have H:=hz.o_;rw [UQ l k ao,show 4 - k=(3 - k)+1 by omega,kY] at H;have H2:dg l=if l[k].toNat<128 then (if l[k].toNat=0∧0<k then (0,0,12) else (z+l[k].toNat % 128*128 ^ k,k+1,0)) else kY (3 - k) (k+1) (z+l[k].toNat % 128*128 ^ k) (l.drop (k+1)):=H.symm
    obtain ⟨x,hx⟩:∃x:UInt8,x=l[k]:=⟨_,rfl⟩
    rw [←hx] at H2 rB ED;clear aW hr hz H hx;have ye:z+x.toNat % 128*128 ^ k<128 ^ (k+1):=by
     have h1:x.toNat % 128*128 ^ k≤127*128 ^ k:=Nat.mul_le_mul_right _ (by omega);rw [Nat.pow_succ]
     omega
    have J6:128 ^ (k+1)=128 ^ k*128:=Nat.pow_succ _ _;have xZ:((x.toNat:Int) % 128) * ((128 ^ k:Nat):Int)=((x.toNat % 128*128 ^ k:Nat):Int):=by push_cast;rfl
    have adA:128 ^ k≤2097152:=by
     have:128 ^ k≤128 ^ 3:=Nat.pow_le_pow_right (by decide) (by omega);exact this
    obtain ⟨p,hp⟩:∃p,p=128 ^ k:=⟨_,rfl⟩
    obtain ⟨q,hq⟩:∃q,q=x.toNat % 128*128 ^ k:=⟨_,rfl⟩
    rw [←hp] at kF J6 xZ adA⊢;rw [←hp] at hq ye;rw [←hq] at ye xZ;rw [←hp,←hq] at H2;have dj:x.toNat % 128≤127:=by omega
    have lH:q≤127*p:=by rw [hq];exact Nat.mul_le_mul_right _ dj
    rw [J6] at ye;have aqb:0≤((x.toNat:Int) % 128) * (p:Int):=by rw [xZ];omega
    have aqc:((x.toNat:Int) % 128) * (p:Int)≤266338304:=by rw [xZ];omega
    have HM:=ab xZ;have HP:=ab J6;have zr:Hid (x.toNat=0→q=0):=by intro h0;rw [hq,h0];simp
    clear xZ J6 hq hp;by_cases aI:x.toNat<128
    ·rw [if_pos aI] at H2;by_cases sG:x.toNat=0
     ·by_cases gA:0<k
      ·rw [if_pos ⟨sG,gA⟩] at H2;rw [H2] at hR;clear H2 HP;have EE:((x.toNat:Int)==0)=true:=by rw [beq_iff_eq];omega
       have Oe:((k:Int)==(l.length:Int))=false:=by rw [beq_eq_false_iff_ne];omega
       go_wp2;go_ret3;exact hR
      ·rw [if_neg (by omega)] at H2;rw [H2] at hR;clear H2 HP;rw [zr.o_ sG] at hR;have EE:((x.toNat:Int)==0)=true:=by rw [beq_iff_eq];omega
       have Oe:((k:Int)==(l.length:Int))=false:=by rw [beq_eq_false_iff_ne];omega
       have aqd:¬(0:Int)<(k:Int):=by omega
       go_wp2;go_ret3;exact hR
     ·rw [if_neg (by omega)] at H2;rw [H2] at hR;clear H2 HP;have e1:((z:Int)+(x.toNat:Int) % 128* (p:Int))=((z+q:Nat):Int):=by rw [HM.o_];omega
      have rE:R (.returned (.tuple #[.int .i64 ((z:Int)+(x.toNat:Int) % 128* (p:Int)),.int .i64 ((k:Int)+1),.int .i64 0])) w:=by rw [e1];exact hR
      have EE:((x.toNat:Int)==0)=false:=by rw [beq_eq_false_iff_ne];omega
      have Oe:((k:Int)==(l.length:Int))=false:=by rw [beq_eq_false_iff_ne];omega
      clear e1 hR;go_wp2;go_ret3;exact rE
    ·rw [if_neg aI] at H2;have e1:((z:Int)+(x.toNat:Int) % 128* (p:Int))=((z+q:Nat):Int):=by rw [HM.o_];omega
     have E1:=ab e1;have Oe:((k:Int)==(l.length:Int))=false:=by rw [beq_eq_false_iff_ne];omega
     have HG:Hid (kY (4 - (k+1)) (k+1) (z+q) (l.drop (k+1))=dg l):=by rw [show 4 - (k+1)=3 - k by omega];exact ab H2.symm
     clear e1 H2 HM;go_wp2;go_round
     case rel=>exact ⟨k+1,by omega,by omega,by go_num,_,HG,by rw [HP.o_];exact ye,by rw [E1.o_],by rw [HP.o_];go_num⟩
     case measure=>simp [intOf];omega
   ·obtain rfl:k=l.length:=by omega
    have e:dg l=(0,0,11):=by
     rw [←hz.o_,List.drop_length,show 4 - l.length=(3 - l.length)+1 by omega,kY]
    rw [e] at hR;clear hz e;go_wp2;go_ret3;exact hR
theorem adB(x:Int)(h0:0≤x)(h1:x<256):bits .and .u8 x 127=x % 128:=bits_mask .u8 8 (by decide) wraps_u8 7 (by decide) x h0 h1
theorem J7(z y i P:Nat)(hz:z<P)(hP:P=2 ^ i)(hi:i≤21):bits .or .i64 (z:Int) ((y:Int) % 128* (P:Int))=((z+y % 128*P:Nat):Int):=by
 have hc:bits .or .i64 (z:Int) ((y:Int) % 128* (P:Int))=bits .or .i64 ((y:Int) % 128* (P:Int)) (z:Int):=by simp only [bits,BitVec.or_comm]
 have aqe:P≤2097152:=by rw [hP];exact Nat.le_trans (Nat.pow_le_pow_right (by decide) hi) (by decide)
 have e:(y:Int) % 128* (P:Int)=((y % 128*P:Nat):Int):=by push_cast;rfl
 have hw:∀n:Int,0≤n→n<2 ^ 62→IntKind.i64.wrap n=n:=by
  intro n h0 h1;rw [IntKind.wrap_i64]
  omega
 have hb:y % 128*P≤127*P:=Nat.mul_le_mul_right _ (by omega);have h1:((y % 128*P:Nat):Int) % 2 ^ i=0:=by
  rw [hP];simp
 have h2:(z:Int)<2 ^ i:=by
  have:(z:Int)<((2 ^ i:Nat):Int):=by omega
  simpa using this
 rw [hc,e,bits_join .i64 62 (by decide) hw i _ _ (by omega) h1 (by omega) (by omega) h2 (by omega)]
 omega
theorem Of{P:Prop}(h:P:=by
 by_cases sG:x.toNat=0
 ·rw [if_pos ⟨sG,by omega⟩] at H;rw [←H] at hR;have EE:((x.toNat:Int)==0)=true:=by rw [beq_iff_eq];omega
  clear H sG;go_wp2;go_ret3;exact hR
 ·rw [if_neg (by omega)] at H;rw [←H] at hR;have EE:((x.toNat:Int)==0)=false:=by rw [beq_eq_false_iff_ne];omega
  clear H sG;go_wp2;go_ret3;exact hR):P:=h
theorem sH(v:Value)(l:List UInt8)(x y z:Nat)(hG:dg l=(x,y,z))(w:World)(hv:Bs w v l)(R:Ending→World→Prop)
 (hR:R (.returned (.tuple #[.int .i64 x,.int .i64 y,.int .i64 z])) w):
 Calls prog 190 #[v] w R:=by
 obtain rfl:x=(dg l).1:=by rw [hG]
 obtain rfl:y=(dg l).2.1:=by rw [hG]
 obtain rfl:z=(dg l).2.2:=by rw [hG]
 clear hG;obtain ⟨ad,c,rfl,hr,hc,hm,gG⟩:=hv;go_enter func190,ntmps190;go_wp2;go_loop [2,5,6,9] (fun x _ _ i=>∃k:Nat,k≤4∧k≤l.length∧i= .int .i64 k∧∃z:Nat,Hid (kY (4 - k) k z (l.drop k)=dg l)∧z<128 ^ k∧x= .int .i64 z) (fun _ _ _ i=>l.length - (intOf i).toNat)
 case atStart=>exact ⟨0,by omega,Nat.zero_le _,rfl,_,rfl,by decide,rfl⟩
 case round=>
  obtain ⟨k,hk,f_,rfl,z,hz,kF,rfl⟩:=hrel;by_cases ao:k<l.length
  ·obtain ⟨b,o,rfl,aW⟩:=hr.AA (by omega);have rB:=aW k ao;have ED:=l[k].toNat_lt;have H:=hz.o_;rw [UQ l k ao] at H;obtain ⟨x,hx⟩:∃x:UInt8,x=l[k]:=⟨_,rfl⟩
   rw [←hx] at H rB ED;obtain ⟨r,zt⟩:∃r,r=l.drop (k+1):=⟨_,rfl⟩
   rw [←zt] at H;have J8:=ab zt;clear aW hr hz hx zt;have hand:=adB x.toNat (by omega) (by omega);rcases (show k=0∨k=1∨k=2∨k=3∨k=4 by omega) with rfl|rfl|rfl|rfl|rfl
   ·rw [add_zero] at rB;have oS:=J7 z x.toNat 0 1 (by omega) (by decide) (by omega);have ye:z<1:=kF;have Cq:bits .or .i64 (z:Int) ((x.toNat:Int) % 128)=((z+x.toNat % 128*1:Nat):Int):=by
     rw [show (((1:Nat)):Int)=1 from rfl,Int.mul_one] at oS;exact oS
    rw [show 4 - 0=3+1 from rfl,kY,show 128 ^ 0=1 from rfl] at H;obtain ⟨y,hy⟩:∃y,y=z+x.toNat % 128*1:=⟨_,rfl⟩
    rw [←hy] at H Cq;have Cr:y<128:=by omega
    clear oS kF hy;by_cases aI:x.toNat<128
    ·rw [if_pos aI] at H;by_cases sG:x.toNat=0
     ·rw [if_neg (by omega)] at H;rw [←H] at hR;have EE:((x.toNat:Int)==0)=true:=by rw [beq_iff_eq];omega
      clear H sG;go_wp2;go_ret3;exact hR
     ·rw [if_neg (by omega)] at H;rw [←H] at hR;have EE:((x.toNat:Int)==0)=false:=by rw [beq_eq_false_iff_ne];omega
      clear H sG;go_wp2;go_ret3;exact hR
    ·rw [if_neg aI] at H;rw [J8.o_] at H;have HG:=ab H;clear H;go_wp2;go_round
     case rel=>exact ⟨1,by omega,by omega,rfl,y,HG,Cr,rfl⟩
     case measure=>simp [intOf];omega
   ·have oS:=J7 z x.toNat 7 128 (by omega) (by decide) (by omega);have ye:z<128:=kF;have Cq:bits .or .i64 (z:Int) ((x.toNat:Int) % 128*128)=((z+x.toNat % 128*128:Nat):Int):=oS;rw [show 4 - 1=2+1 from rfl,kY,show 128 ^ 1=128 from rfl] at H;obtain ⟨y,hy⟩:∃y,y=z+x.toNat % 128*128:=⟨_,rfl⟩
    rw [←hy] at H Cq;have Cr:y<16384:=by omega
    clear oS kF hy;by_cases aI:x.toNat<128
    ·rw [if_pos aI] at H;exact Of
    ·rw [if_neg aI] at H;rw [J8.o_] at H;have HG:=ab H;clear H;go_wp2;go_round
     case rel=>exact ⟨2,by omega,by omega,rfl,y,HG,Cr,rfl⟩
     case measure=>simp [intOf];omega
   ·have oS:=J7 z x.toNat 14 16384 (by omega) (by decide) (by omega);have ye:z<16384:=kF;have Cq:bits .or .i64 (z:Int) ((x.toNat:Int) % 128*16384)=((z+x.toNat % 128*16384:Nat):Int):=oS;rw [show 4 - 2=1+1 from rfl,kY,show 128 ^ 2=16384 from rfl] at H;obtain ⟨y,hy⟩:∃y,y=z+x.toNat % 128*16384:=⟨_,rfl⟩
    rw [←hy] at H Cq;have Cr:y<2097152:=by omega
    clear oS kF hy;by_cases aI:x.toNat<128
    ·rw [if_pos aI] at H;exact Of
    ·rw [if_neg aI] at H;rw [J8.o_] at H;have HG:=ab H;clear H;go_wp2;go_round
     case rel=>exact ⟨3,by omega,by omega,rfl,y,HG,Cr,rfl⟩
     case measure=>simp [intOf];omega
   ·have oS:=J7 z x.toNat 21 2097152 (by omega) (by decide) (by omega);have ye:z<2097152:=kF;have Cq:bits .or .i64 (z:Int) ((x.toNat:Int) % 128*2097152)=((z+x.toNat % 128*2097152:Nat):Int):=oS;rw [show 4 - 3=0+1 from rfl,kY,show 128 ^ 3=2097152 from rfl] at H;obtain ⟨y,hy⟩:∃y,y=z+x.toNat % 128*2097152:=⟨_,rfl⟩
    rw [←hy] at H Cq;have Cr:y<268435456:=by omega
    clear oS kF hy;by_cases aI:x.toNat<128
    ·rw [if_pos aI] at H;exact Of
    ·rw [if_neg aI] at H;rw [J8.o_] at H;have HG:=ab H;clear H;go_wp2;go_round
     case rel=>exact ⟨4,by omega,by omega,rfl,y,HG,Cr,rfl⟩
     case measure=>simp [intOf];omega
   ·rw [show 4 - 4=0 from rfl,kY] at H;rw [←H] at hR;clear H hand;have UR:¬(l.length:Int)<4:=by omega
    go_wp2;go_ret3;exact hR
  ·obtain rfl:k=l.length:=by omega
   have H:=hz.o_;rw [List.drop_length] at H;clear hz;by_cases h4:l.length=4
   ·rw [h4,show 4 - 4=0 from rfl,kY] at H;rw [←H] at hR;clear H;have UR:¬(l.length:Int)<4:=by omega
    go_wp2;go_ret3;exact hR
   ·rw [show 4 - l.length=(3 - l.length)+1 by omega,kY] at H;rw [←H] at hR;clear H;have UR:(l.length:Int)<4:=by omega
    go_wp2;go_ret3;exact hR
open List (nil_append)
open Nat (add_mul zero_add)
theorem J9(n:Nat)(h:n<256):(b8 (n:Int)).toNat=n:=by
 have:=uE (n:Int)
 omega
theorem Og(c:UInt8):b8 ((c.toNat:Nat):Int)=c:=by
 have h:=c.toNat_lt;apply UInt8.toNat_inj.1;exact J9 _ (by omega)
theorem adC(f g i z n:Nat)(t:List UInt8)(hn:n<128 ^ (f+1))(hg:f+1≤g)(h0:0<n∨i=0):
 kY g i z (mz f n++t)=(z+n*128 ^ i,i+(mz f n).length,0):=by
 induction f generalizing g i z n with
 |zero=>
  obtain ⟨g,rfl⟩:∃g',g=g'+1:=⟨g - 1,by omega⟩
  have US:n<128:=by simpa using hn
  have hc:(b8 (n:Int)).toNat=n:=J9 _ (by omega);simp only [mz,List.cons_append,nil_append,kY,hc];rw [if_pos US,if_neg (by omega),Nat.mod_eq_of_lt US]
  rfl
 |succ f ih=>
  obtain ⟨g,rfl⟩:∃g',g=g'+1:=⟨g - 1,by omega⟩
  by_cases h:n<128
  ·have hc:(b8 (n:Int)).toNat=n:=J9 _ (by omega);rw [EC _ _ h];simp only [List.cons_append,nil_append,kY,hc];rw [if_pos h,if_neg (by omega),Nat.mod_eq_of_lt h]
   rfl
  ·have hc:(b8 ((n % 128+128:Nat):Int)).toNat=n % 128+128:=J9 _ (by omega);rw [F_ _ _ h];simp only [List.cons_append,kY,hc];rw [if_neg (by omega),ih g (i+1) _ (n / 128) (by rw [Nat.pow_succ] at hn;exact div_lt_of_lt_mul (by rw [mul_comm];exact hn)) (by omega) (by left;omega)];have e1:(n % 128+128) % 128=n % 128:=by omega
   rw [e1];have e2:z+n % 128*128 ^ i+n / 128*128 ^ (i+1)=z+n*128 ^ i:=by
    rw [Nat.pow_succ,mul_comm (128 ^ i) 128,←Nat.mul_assoc,Nat.add_assoc,←add_mul]
    congr 2
    omega
   rw [e2,List.length_cons]
   congr 2
   omega
theorem adD(g i z:Nat)(l:List UInt8)(m u:Nat)(h:kY g i z l=(m,u,0)):
 ∃n k,m=z+n*128 ^ i∧u=i+k∧k≤l.length∧n<128 ^ g∧mz (g - 1) n=l.take k∧(0<i→0<n):=by
 induction g generalizing i z l with
 |zero=>simp only [kY,Prod.mk.injEq] at h;omega
 |succ g ih=>
  cases l with
  |nil=>simp only [kY,Prod.mk.injEq] at h;omega
  |cons c r=>
   simp only [kY] at h
   split at h
   ·rename_i hc
    split at h
    ·simp only [Prod.mk.injEq] at h;omega
    ·rename_i ef
     simp only [Prod.mk.injEq] at h;refine ⟨c.toNat,1,?_,by omega,by simp,?_,?_,by omega⟩
     ·rw [←h.1,Nat.mod_eq_of_lt hc]
     ·exact Nat.lt_of_lt_of_le hc (by rw [Nat.pow_succ];exact Nat.le_mul_of_pos_left _ (Nat.pow_pos (by decide)))
     ·rw [EC _ _ hc,Og]
      rfl
   ·rename_i hc
    obtain ⟨n,k,h1,h2,h3,h4,h5,h6⟩:=ih _ _ _ h;have dh:=h6 (by omega);have ED:=c.toNat_lt;refine ⟨c.toNat % 128+128*n,k+1,?_,by omega,by simpa using h3,?_,?_,by omega⟩
    ·rw [h1,Nat.pow_succ,add_mul,Nat.add_assoc]
     congr 2
     rw [mul_comm (128 ^ i) 128,←Nat.mul_assoc,mul_comm n 128]
    ·rw [Nat.pow_succ]
     omega
    ·cases g with
     |zero=>simp only [kY,Prod.mk.injEq] at h;omega
     |succ g=>
      simp only [Nat.add_sub_cancel] at h5⊢;rw [F_ _ _ (by omega),show (c.toNat % 128+128*n) / 128=n by omega,h5,show (c.toNat % 128+128*n) % 128+128=c.toNat by omega,Og]
      rfl
theorem J_(n:Nat)(hn:n<268435456)(t:List UInt8):dg (jz n++t)=(n,(jz n).length,0):=by
 have:=adC 3 4 0 0 n t hn (by omega) (by right;rfl)
 simpa [dg,jz] using this
theorem A6(l:List UInt8)(m u:Nat)(h:dg l=(m,u,0)):m<268435456∧u≤l.length∧jz m=l.take u:=by
 obtain ⟨n,k,h1,h2,h3,h4,h5,_⟩:=adD 4 0 0 l m u h;simp only [zero_add,Nat.pow_zero,Nat.mul_one] at h1 h2;subst h1 h2;exact ⟨h4,h3,h5⟩
theorem Oh(f n:Nat):1≤(mz f n).length∧(mz f n).length≤f+1:=by
 induction f generalizing n with
 |zero=>simp [mz]
 |succ f ih=>
  by_cases h:n<128
  ·rw [EC _ _ h];simp
  ·rw [F_ _ _ h];have:=ih (n / 128);simp only [List.length_cons]
   omega
theorem zu(n:Nat)(hn:n<268435456):dG (n:Int)=(jz n,0):=by
 unfold dG;rw [if_neg (by omega)]
 rfl
def aO(id:Int):Nat:=
 if id=1∨id=23∨id=25∨id=36∨id=37∨id=40∨id=41∨id=42 then 1
 else if id=19∨id=33∨id=34∨id=35 then 2
 else if id=2∨id=17∨id=24∨id=39 then 3
 else if id=11 then 4
 else if id=3∨id=8∨id=18∨id=21∨id=26∨id=28∨id=31 then 5
 else if id=9∨id=22 then 6
 else if id=38 then 7
 else 0
def tF(id:Int):Nat:=
 if id=1∨id=2∨id=3∨id=8∨id=9 then 1
 else if id=11 then 2
 else if id=17 then 3
 else if id=18∨id=19∨id=26∨id=36∨id=37∨id=40∨id=41∨id=42 then 4
 else if id=21∨id=22 then 5
 else if id=23∨id=25 then 6
 else if id=24 then 7
 else if id=28 then 8
 else if id=31 then 9
 else if id=33∨id=34∨id=39 then 10
 else if id=35 then 11
 else if id=38 then 12
 else 0
def UT:Nat→Int
 |1=>65544|2=>264|3=>16390|4=>4|5=>32774|6=>2|7=>65536|8=>16388|9=>51956|10=>6|11=>8|12=> -12290|_=>0
def Oi:Nat→List Int
 |1=> [3,16]|2=> [3,8]|3=> [1,2,14]|4=> [2]|5=> [1,2,15]|6=> [1]|7=> [16]|8=> [2,14]|9=> [2,4,5,6,7,9,11,14,15]|10=> [1,2]|11=> [3]|12=> [1,2,3,4,5,6,7,8,9,10,11,14,15,16]|_=> []
def EF(id:Int):Int:=UT (tF id)
def bR(id wh:Int):Bool:=(Oi (tF id)).contains wh
def nj(id wh:Int):Bool:=decide (id=38∨id=11∧wh=3)
def A7(ps:List Int):Int:=ps.foldl (fun s p=>bits .or .i64 s (wrap64 (2 ^ p.toNat))) 0
theorem adE(ps:List Int)(p:Int):A7 (ps++ [p])=bits .or .i64 (A7 ps) (wrap64 (2 ^ p.toNat)):=by simp [A7,List.foldl_append]
def Oj(pl wh:Int):Bool:=bits .and .i64 (pl / 2 ^ wh.toNat) 1==1
theorem UU(id:Int):tF id<13:=by
 unfold tF
 repeat' split
 all_goals omega
theorem adF:∀c:Fin 13,∀w:Fin 16,Oj (UT c.val) ((w.val:Int)+1)=(Oi c.val).contains ((w.val:Int)+1):=by decide+kernel
theorem adG(id wh:Int)(h1:1≤wh)(h2:wh≤16):Oj (EF id) wh=bR id wh:=by
 have:=adF ⟨tF id,UU id⟩ ⟨(wh - 1).toNat,by omega⟩;have e:(((wh - 1).toNat:Nat):Int)+1=wh:=by omega
 simp only [e] at this;exact this
theorem adH:∀c:Fin 13,∀x∈Oi c.val,1≤x∧x≤16:=by decide+kernel
theorem adI(id wh:Int)(h:wh<1∨16<wh):bR id wh=false:=by
 cases hm:bR id wh with
 |false=>rfl
 |true=>
  have:=adH ⟨tF id,UU id⟩ wh (by unfold bR at hm;simpa using hm)
  omega
def cW(p:Pr):Nat:=
 if aO p.id=1∧1<p.num then 130
 else if (p.id=11∨p.id=33∨p.id=39)∧p.num=0 then 130
 else if p.id=35∧p.num=0 then 148
 else 0
def dL(id:Int)(b:List UInt8):Option (Pr×Int):=
 if aO id=1 then (if b.length<1 then none else some (⟨id,cz (b.take 1),[],[],[]⟩,1))
 else if aO id=2 then (if b.length<2 then none else some (⟨id,cz (b.take 2),[],[],[]⟩,2))
 else if aO id=3 then (if b.length<4 then none else some (⟨id,cz (b.take 4),[],[],[]⟩,4))
 else if aO id=4 then (if (dg b).2.2=0 then some (⟨id,(dg b).1,[],[],[]⟩,(dg b).2.1) else none)
 else if aO id=5 then (if (dq b).2.2=0 then some (⟨id,0,(dq b).1,[],[]⟩,(dq b).2.1) else none)
 else if aO id=6 then (if (eO b).2.2=0 then some (⟨id,0,[],[],(eO b).1⟩,(eO b).2.1) else none)
 else if aO id=7 then (if (dq b).2.2=0 then (if (dq (b.drop (dq b).2.1.toNat)).2.2=0 then some (⟨id,0,(dq b).1,(dq (b.drop (dq b).2.1.toNat)).1,[]⟩,(dq b).2.1+(dq (b.drop (dq b).2.1.toNat)).2.1) else none) else none)
 else some (⟨id,0,[],[],[]⟩,0)
def wD(id:Int)(l:List Pr):Bool:=l.any fun p=>decide (p.id=id)
def oT(wh:Int)(l:List Pr)(b:List UInt8):Nat×Pr×Int:=
 if (dg b).2.2≠0∨bR (dg b).1 wh=false then (129,kU,0)
 else match dL (dg b).1 (b.drop (dg b).2.1) with
  |none=>(129,kU,0)
  |some (p,m)=>if wD (dg b).1 l=true∧nj (dg b).1 wh=false then (130,kU,0) else if cW p≠0 then (cW p,kU,0) else (0,p,(dg b).2.1+m)
def nY:Nat→Int→List Pr→List UInt8→List Pr×Nat
 |0,_,l,_=>(l,0)
 |f+1,wh,l,b=>if b= [] then (l,0) else if (oT wh l b).1≠0 then ([],(oT wh l b).1) else nY f wh (l++ [(oT wh l b).2.1]) (b.drop (oT wh l b).2.2.toNat)
def nk(wh:Int)(b:List UInt8):List Pr×Int×Nat:=
 if (dg b).2.2≠0∨b.length<(dg b).1+(dg b).2.1 then ([],0,129)
 else if (nY (dg b).1 wh [] ((b.drop (dg b).2.1).take (dg b).1)).2≠0 then ([],0,(nY (dg b).1 wh [] ((b.drop (dg b).2.1).take (dg b).1)).2)
 else ((nY (dg b).1 wh [] ((b.drop (dg b).2.1).take (dg b).1)).1,(dg b).2.1+(dg b).1,0)
def u64(n:Int):Nat:=(n % 18446744073709551616).toNat
def bV(p:Pr):List UInt8:=
 (dG p.id).1++
 (if aO p.id=1 then dE (u64 p.num) 1
   else if aO p.id=2 then dE (u64 p.num) 2
   else if aO p.id=3 then dE (u64 p.num) 4
   else if aO p.id=4 then (dG p.num).1
   else if aO p.id=5 then (b5 p.text).1
   else if aO p.id=6 then (cS p.data).1
   else if aO p.id=7 then (b5 p.text).1++(b5 p.pair).1
   else [])
def eP(wh:Int)(l:List Pr):List UInt8×Nat:=
 if (dG ((l.flatMap bV).length:Int)).2≠0 then ([],129)
 else if (nk wh ((dG ((l.flatMap bV).length:Int)).1++l.flatMap bV))=(l,(((dG ((l.flatMap bV).length:Int)).1++l.flatMap bV).length:Int),0) then ((dG ((l.flatMap bV).length:Int)).1++l.flatMap bV,0)
 else ([],129)
example:eP 3 [⟨1,1,[],[],[]⟩]=([2,1,1],0):=by decide+kernel
example:nk 3 [3,35,0,0]=([],0,148):=by decide+kernel
theorem Cs(n x:Nat)(hn:n≤8)(hx:x<256 ^ n):cz (aR x n)=x:=by
 induction n generalizing x with
 |zero=>simp at hx;subst hx;rfl
 |succ n ih=>
  have h1:x / 256<256 ^ n:=by rw [Nat.pow_succ] at hx;exact div_lt_of_lt_mul (by rw [mul_comm];exact hx)
  have h2:(256:Nat) ^ (n+1)≤256 ^ 8:=Nat.pow_le_pow_right (by decide) hn;have h3:(b8 (x:Int)).toNat=x % 256:=by have:=uE (x:Int);omega
  show cz (aR (x / 256) n++ [b8 x])=x;rw [Ey,ih _ (by omega) h1,h3];have:(256:Nat) ^ 8=18446744073709551616:=by decide
  rw [this] at h2;have h4:=Nat.lt_of_lt_of_le hx h2
  omega
theorem J'(b:List UInt8)(h:b.length≤65535):cS b=(aR b.length 2++b,0):=by unfold cS;rw [if_neg (by omega)]
theorem adJ(p b t:List UInt8)(hl:p.length=2)(hp:cz p=b.length):eO (p++b++t)=(b,(b.length:Int)+2,0):=by
 have h1:(p++b++t).take 2=p:=by
  rw [List.append_assoc,←hl,List.take_left]
 unfold eO;rw [h1,hp,if_neg (by simp only [List.length_append,hl];omega)];have h3:((p++b++t).take (2+b.length)).drop 2=b:=by
  have e:2+b.length=(p++b).length:=by rw [List.length_append,hl]
  rw [e,List.take_left]
  conv=>lhs;rw [←hl]
  exact List.drop_left
 rw [h3]
 congr 2
 omega
theorem F'(b t:List UInt8)(h:b.length≤65535):eO (aR b.length 2++b++t)=(b,(b.length:Int)+2,0):=
 adJ _ b t (eU _ _) (Cs 2 b.length (by omega) (by omega))
theorem wE(b:List UInt8)(h:b.length≤65535)(ht:dV b=true):b5 b=(aR b.length 2++b,0):=by
 unfold b5;rw [if_pos ht,J' b h]
theorem Ga(b t:List UInt8)(h:b.length≤65535)(ht:dV b=true):dq (aR b.length 2++b++t)=(b,(b.length:Int)+2,0):=by
 unfold dq;rw [F' b t h];simp [ht]
open Int (toNat_natCast)
variable{id wh:Int}{l:List Pr}{p:Pr}
theorem UW{P:List UInt8→Prop}(h0:P [])(h1:∀l c,P l→P (l++ [c]))(l:List UInt8):P l:=by
 have h:∀r:List UInt8,P r.reverse:=by
  intro r
  induction r with
  |nil=>exact h0
  |cons a r ih=>rw [List.reverse_cons];exact h1 _ _ ih
 have:=h l.reverse
 rwa [List.reverse_reverse] at this
theorem Ol(l:List UInt8)(h:l.length≤8):cz l<256 ^ l.length:=by
 revert h
 induction l using UW with
 |h0=>intro _;simp [cz]
 |h1 l c ih=>
  intro h;rw [List.length_append,List.length_singleton] at h;have h1:=ih (by omega);rw [Ey,List.length_append,List.length_singleton,Nat.pow_succ];have hc:=c.toNat_lt;have:=Nat.mod_le (cz l*256+c.toNat) 18446744073709551616
  omega
theorem UX(l:List UInt8)(h:l.length≤8):aR (cz l) l.length=l:=by
 revert h
 induction l using UW with
 |h0=>intro _;rfl
 |h1 l c ih=>
  intro h;rw [List.length_append,List.length_singleton] at h;have h1:=Ol l (by omega);have h2:(256:Nat) ^ l.length≤256 ^ 7:=Nat.pow_le_pow_right (by decide) (by omega);have h3:(256:Nat) ^ 7=72057594037927936:=by decide
  have hc:=c.toNat_lt;have e:cz (l++ [c])=cz l*256+c.toNat:=by rw [Ey];omega
  rw [List.length_append,List.length_singleton,e];show aR ((cz l*256+c.toNat) / 256) l.length++ [b8 ((cz l*256+c.toNat:Nat):Int)]=l++ [c];rw [show (cz l*256+c.toNat) / 256=cz l by omega,ih (by omega)]
  congr 2
  have h4:b8 ((cz l*256+c.toNat:Nat):Int)=b8 ((c.toNat:Nat):Int):=by
   unfold b8
   congr 1
   omega
  rw [h4,Og]
def ff(p:Pr):List UInt8:=
 if aO p.id=1 then dE (u64 p.num) 1
  else if aO p.id=2 then dE (u64 p.num) 2
  else if aO p.id=3 then dE (u64 p.num) 4
  else if aO p.id=4 then (dG p.num).1
  else if aO p.id=5 then (b5 p.text).1
  else if aO p.id=6 then (cS p.data).1
  else if aO p.id=7 then (b5 p.text).1++(b5 p.pair).1
  else []
theorem lW(p:Pr):bV p=(dG p.id).1++ff p:=rfl
structure Ct(p:Pr):Prop where
 ld:p.data.length≤65535
 lt:p.text.length≤65535
 lp:p.pair.length≤65535
 n0:0≤p.num
 n1:p.num<4294967296
 k1:aO p.id=1→p.num<256
 k2:aO p.id=2→p.num<65536
 k4:aO p.id=4→p.num<268435456
 tt:dV p.text=true
 tp:dV p.pair=true
theorem UY(n:Nat)(h:n<18446744073709551616):u64 (n:Int)=n:=by
 unfold u64
 omega
theorem UZ:dV []=true:=by decide+kernel
theorem Om(l d:List UInt8)(u:Int)(h:eO l=(d,u,0)):d.length≤65535∧u=(d.length:Int)+2∧d.length+2≤l.length∧l.take (d.length+2)=aR d.length 2++d:=by
 unfold eO at h
 split at h
 ·simp at h
 ·rename_i hc
  have h2:2≤l.length:=by omega
  have hb:cz (l.take 2)<65536:=by
   have:=Ol (l.take 2) (by rw [List.length_take];omega);rw [List.length_take,Nat.min_eq_left h2] at this;exact this
  obtain ⟨n,hn⟩:=ai (cz (l.take 2));rw [hn] at h hb hc;simp only [Prod.mk.injEq,and_true] at h;obtain ⟨rfl,rfl⟩:=h;have hl:((l.take (2+n)).drop 2).length=n:=by rw [List.length_drop,List.length_take];omega
  rw [hl];refine ⟨by omega,by omega,by omega,?_⟩;have e:aR n 2=l.take 2:=by
   have:=UX (l.take 2) (by rw [List.length_take];omega);rw [List.length_take,Nat.min_eq_left h2,hn] at this;exact this
  rw [e,Nat.add_comm n 2];have:l.take 2=(l.take (2+n)).take 2:=by rw [List.take_take];congr 1;omega
  rw [this,List.take_append_drop]
theorem U0(l d:List UInt8)(u:Int)(h:eO l=(d,u,0))(t:List UInt8):eO (l++t)=(d,u,0):=by
 obtain ⟨h1,rfl,h3,h4⟩:=Om l d u h;have:l++t=aR d.length 2++d++(l.drop (d.length+2)++t):=by
  rw [←h4,←List.append_assoc,List.take_append_drop]
 rw [this];exact F' d _ h1
theorem U1(l d:List UInt8)(u:Int)(h:dq l=(d,u,0)):eO l=(d,u,0)∧dV d=true:=by
 unfold dq at h;obtain ⟨⟨a,b,c⟩,hg⟩:∃g,eO l=g:=⟨_,rfl⟩
 rw [hg] at h⊢;simp only at h
 split at h
 ·simp only [Prod.mk.injEq] at h
  omega
 ·rename_i hc
  split at h
  ·rename_i ht
   simp only [Prod.mk.injEq] at h;obtain ⟨rfl,rfl,-⟩:=h;simp only [ne_eq,Decidable.not_not] at hc;rw [hc];exact ⟨rfl,ht⟩
  ·simp only [Prod.mk.injEq] at h
   omega
theorem On(l d:List UInt8)(u:Int)(h:dq l=(d,u,0))(t:List UInt8):dq (l++t)=(d,u,0):=by
 obtain ⟨h1,h2⟩:=U1 l d u h;unfold dq;rw [U0 l d u h1 t];simp [h2]
theorem U2(l:List UInt8)(m u:Nat)(h:dg l=(m,u,0))(t:List UInt8):dg (l++t)=(m,u,0):=by
 obtain ⟨h1,h2,h3⟩:=A6 l m u h;have:l++t=jz m++(l.drop u++t):=by rw [h3,←List.append_assoc,List.take_append_drop]
 rw [this,J_ m h1]
 congr 2
 rw [h3,List.length_take]
 omega
theorem Cv(l d:List UInt8)(u:Int)(h:dq l=(d,u,0)):d.length≤65535∧u=(d.length:Int)+2∧d.length+2≤l.length∧dV d=true∧(b5 d).1=l.take (d.length+2):=by
 obtain ⟨h1,h2⟩:=U1 l d u h;obtain ⟨h3,h4,h5,h6⟩:=Om l d u h1;exact ⟨h3,h4,h5,h2,by rw [wE d h3 h2,h6]⟩
theorem zv(b:List UInt8)(k:Nat)(hk:1≤k∧k≤4)(hl:k≤b.length):cz (b.take k)<256 ^ k∧dE (u64 ((cz (b.take k):Nat):Int)) k=b.take k∧∀t:List UInt8,cz ((b++t).take k)=cz (b.take k):=by
 have aX:(b.take k).length=k:=by rw [List.length_take];omega
 have h1:=Ol (b.take k) (by omega);rw [aX] at h1;refine ⟨h1,?_,fun t=>by rw [List.take_append_of_le_length hl]⟩;rw [UY _ (ado _)];unfold dE;rw [if_neg (by omega),toNat_natCast];have:=UX (b.take k) (by omega)
 rwa [aX] at this
theorem Oo{b:List UInt8}{m:Int}(h:dL id b=some (p,m)):∃u:Nat,m=(u:Int)∧u≤b.length∧p.id=id∧ff p=b.take u∧Ct p∧∀t,dL id (b++t)=some (p,m):=by
 obtain ⟨k,hk⟩:=ai (aO id);unfold dL at h;rw [hk] at h;have hT:=UZ;by_cases e1:k=1
 ·subst e1;simp only [if_true] at h
  split at h
  ·cases h
  ·rename_i hl
   simp only [Option.some.injEq,Prod.mk.injEq] at h;obtain ⟨rfl,rfl⟩:=h;obtain ⟨h1,h2,h3⟩:=zv b 1 ⟨by omega,by omega⟩ (by omega);refine ⟨1,rfl,by omega,rfl,by unfold ff;simp only [hk,if_true];exact h2,⟨by simp,by simp,by simp,by simp,by simp only;omega,fun _=>by simp only;omega,fun hh=>by simp only at hh;omega,fun hh=>by simp only at hh;omega,hT,hT⟩,fun t=> ?_⟩;unfold dL;rw [hk,if_pos rfl,if_neg (by rw [List.length_append];omega),h3 t]
 by_cases e2:k=2
 ·subst e2;simp only [Nat.reduceEqDiff,if_false,if_true] at h
  split at h
  ·cases h
  ·rename_i hl
   simp only [Option.some.injEq,Prod.mk.injEq] at h;obtain ⟨rfl,rfl⟩:=h;obtain ⟨h1,h2,h3⟩:=zv b 2 ⟨by omega,by omega⟩ (by omega);refine ⟨2,rfl,by omega,rfl,by unfold ff;simp only [hk,Nat.reduceEqDiff,if_false,if_true];exact h2,⟨by simp,by simp,by simp,by simp,by simp only;omega,fun hh=>by simp only at hh;omega,fun _=>by simp only;omega,fun hh=>by simp only at hh;omega,hT,hT⟩,fun t=> ?_⟩;unfold dL;rw [hk,if_neg (by omega),if_pos rfl,if_neg (by rw [List.length_append];omega),h3 t]
 by_cases e3:k=3
 ·subst e3;simp only [Nat.reduceEqDiff,if_false,if_true] at h
  split at h
  ·cases h
  ·rename_i hl
   simp only [Option.some.injEq,Prod.mk.injEq] at h;obtain ⟨rfl,rfl⟩:=h;obtain ⟨h1,h2,h3⟩:=zv b 4 ⟨by omega,by omega⟩ (by omega);refine ⟨4,rfl,by omega,rfl,by unfold ff;simp only [hk,Nat.reduceEqDiff,if_false,if_true];exact h2,⟨by simp,by simp,by simp,by simp,by simp only;omega,fun hh=>by simp only at hh;omega,fun hh=>by simp only at hh;omega,fun hh=>by simp only at hh;omega,hT,hT⟩,fun t=> ?_⟩;unfold dL;rw [hk,if_neg (by omega),if_neg (by omega),if_pos rfl,if_neg (by rw [List.length_append];omega),h3 t]
 by_cases e4:k=4
 ·subst e4;simp only [Nat.reduceEqDiff,if_false,if_true] at h;obtain ⟨⟨x,y,z⟩,hg⟩:∃g,dg b=g:=⟨_,rfl⟩
  rw [hg] at h;simp only at h
  split at h
  ·rename_i hz
   subst hz;simp only [Option.some.injEq,Prod.mk.injEq] at h;obtain ⟨rfl,rfl⟩:=h;obtain ⟨h1,h2,h3⟩:=A6 b x y hg;refine ⟨y,rfl,h2,rfl,by unfold ff;simp only [hk,Nat.reduceEqDiff,if_false,if_true];rw [zu x h1];exact h3,⟨by simp,by simp,by simp,by simp,by simp only;omega,fun hh=>by simp only at hh;omega,fun hh=>by simp only at hh;omega,fun _=>by simp only;omega,hT,hT⟩,fun t=> ?_⟩;unfold dL;rw [hk,if_neg (by omega),if_neg (by omega),if_neg (by omega),if_pos rfl,U2 b x y hg t]
   rfl
  ·cases h
 by_cases e5:k=5
 ·subst e5;simp only [Nat.reduceEqDiff,if_false,if_true] at h;obtain ⟨⟨x,y,z⟩,hg⟩:∃g,dq b=g:=⟨_,rfl⟩
  rw [hg] at h;simp only at h
  split at h
  ·rename_i hz
   subst hz;simp only [Option.some.injEq,Prod.mk.injEq] at h;obtain ⟨rfl,rfl⟩:=h;obtain ⟨h1,h2,h3,h4,h5⟩:=Cv b x y hg;refine ⟨x.length+2,by omega,h3,rfl,by unfold ff;simp only [hk,Nat.reduceEqDiff,if_false,if_true];exact h5,⟨by simp,h1,by simp,by simp,by simp,fun hh=>by simp only at hh;omega,fun hh=>by simp only at hh;omega,fun hh=>by simp only at hh;omega,h4,hT⟩,fun t=> ?_⟩;unfold dL;rw [hk,if_neg (by omega),if_neg (by omega),if_neg (by omega),if_neg (by omega),if_pos rfl,On b x y hg t]
   rfl
  ·cases h
 by_cases e6:k=6
 ·subst e6;simp only [Nat.reduceEqDiff,if_false,if_true] at h;obtain ⟨⟨x,y,z⟩,hg⟩:∃g,eO b=g:=⟨_,rfl⟩
  rw [hg] at h;simp only at h
  split at h
  ·rename_i hz
   subst hz;simp only [Option.some.injEq,Prod.mk.injEq] at h;obtain ⟨rfl,rfl⟩:=h;obtain ⟨h1,h2,h3,h4⟩:=Om b x y hg;refine ⟨x.length+2,by omega,h3,rfl,by unfold ff;simp only [hk,Nat.reduceEqDiff,if_false,if_true];rw [J' x h1];exact h4.symm,⟨h1,by simp,by simp,by simp,by simp,fun hh=>by simp only at hh;omega,fun hh=>by simp only at hh;omega,fun hh=>by simp only at hh;omega,hT,hT⟩,fun t=> ?_⟩;unfold dL;rw [hk,if_neg (by omega),if_neg (by omega),if_neg (by omega),if_neg (by omega),if_neg (by omega),if_pos rfl,U0 b x y hg t]
   rfl
  ·cases h
 by_cases e7:k=7
 ·subst e7;simp only [Nat.reduceEqDiff,if_false,if_true] at h;obtain ⟨⟨x,y,z⟩,hg⟩:∃g,dq b=g:=⟨_,rfl⟩
  rw [hg] at h;simp only at h
  split at h
  ·rename_i hz
   subst hz;obtain ⟨⟨x',y',z'⟩,jL⟩:∃g,dq (b.drop y.toNat)=g:=⟨_,rfl⟩
   rw [jL] at h;simp only at h
   split at h
   ·rename_i hz
    subst hz;simp only [Option.some.injEq,Prod.mk.injEq] at h;obtain ⟨rfl,rfl⟩:=h;obtain ⟨h1,h2,h3,h4,h5⟩:=Cv b x y hg;obtain ⟨Oq,Gb,wF,JU,F7⟩:=Cv _ x' y' jL;have hy:y.toNat=x.length+2:=by omega
    rw [hy] at wF F7;rw [List.length_drop] at wF;refine ⟨x.length+2+(x'.length+2),by omega,by omega,rfl,by unfold ff;simp only [hk,Nat.reduceEqDiff,if_false,if_true];rw [h5,F7,←List.take_add],⟨by simp,h1,Oq,by simp,by simp,fun hh=>by simp only at hh;omega,fun hh=>by simp only at hh;omega,fun hh=>by simp only at hh;omega,h4,JU⟩,fun t=> ?_⟩;unfold dL;have e:(b++t).drop y.toNat=b.drop y.toNat++t:=by rw [List.drop_append_of_le_length (by omega)]
    rw [hk,if_neg (by omega),if_neg (by omega),if_neg (by omega),if_neg (by omega),if_neg (by omega),if_neg (by omega),if_pos rfl,On b x y hg t];simp only [if_true];rw [e,On _ x' y' jL t]
    rfl
   ·cases h
  ·cases h
 ·simp only [e1,e2,e3,e4,e5,e6,e7,if_false,Option.some.injEq,Prod.mk.injEq] at h;obtain ⟨rfl,rfl⟩:=h;refine ⟨0,rfl,Nat.zero_le _,rfl,by unfold ff;simp only [hk,e1,e2,e3,e4,e5,e6,e7,if_false,List.take_zero],⟨by simp,by simp,by simp,by simp,by simp,fun hh=>by simp only at hh;omega,fun hh=>by simp only at hh;omega,fun hh=>by simp only at hh;omega,hT,hT⟩,fun t=> ?_⟩;unfold dL;rw [hk,if_neg e1,if_neg e2,if_neg e3,if_neg e4,if_neg e5,if_neg e6,if_neg e7]
theorem Ot{b:List UInt8}{m:Int}(h:oT wh l b=(0,p,m)):∃u:Nat,m=(u:Int)∧1≤u∧u≤b.length∧bV p=b.take u∧Ct p∧bR p.id wh=true∧cW p=0∧0≤p.id∧p.id<268435456∧(wD p.id l=true→nj p.id wh=true)∧
 ∀t l',oT wh l' (b++t)=if wD p.id l'=true∧nj p.id wh=false then (130,kU,0) else (0,p,m):=by
 unfold oT at h;obtain ⟨⟨x,y,z⟩,hg⟩:∃g,dg b=g:=⟨_,rfl⟩
 rw [hg] at h;simp only at h
 split at h
 ·simp only [Prod.mk.injEq] at h
  omega
 ·rename_i hc
  have hz:z=0:=by
   by_cases hz:z=0
   ·exact hz
   ·exact absurd (Or.inl hz) hc
  have hm:bR (x:Int) wh=true:=by
   cases hq:bR (x:Int) wh with
   |true=>rfl
   |false=>exact absurd (Or.inr hq) hc
  subst hz;obtain ⟨g1,g2,g3⟩:=A6 b x y hg
  split at h
  ·simp only [Prod.mk.injEq] at h
   omega
  ·rename_i p' m' hv
   obtain ⟨u,rfl,v2,v3,v4,v5,v6⟩:=Oo hv
   split at h
   ·simp only [Prod.mk.injEq] at h
    omega
   ·rename_i hh
    split at h
    ·rename_i hn
     simp only [Prod.mk.injEq] at h
     omega
    ·rename_i hn
     simp only [Prod.mk.injEq,true_and] at h;obtain ⟨rfl,rfl⟩:=h;rw [List.length_drop] at v2;have qP:1≤y:=by
      have h1:=(Oh 3 x).1;have h2:(jz x).length=(b.take y).length:=by rw [g3]
      rw [List.length_take] at h2;have:(jz x).length=(mz 3 x).length:=rfl
      omega
     refine ⟨y+u,by omega,by omega,by omega,?_,v5,by rw [v3];exact hm,by simpa using hn,by omega,by omega,?_,?_⟩
     ·rw [lW,v3,v4,zu x g1];show jz x++_=_;rw [g3,←List.take_add]
     ·intro A8;rw [v3] at A8⊢;cases ho:nj (x:Int) wh with
      |true=>rfl
      |false=>exact absurd ⟨A8,ho⟩ hh
     ·intro t l';unfold oT;rw [U2 b x y hg t];simp only;rw [if_neg hc,List.drop_append_of_le_length g2,v6 t];simp only;rw [v3,if_neg hn]
theorem adK{f:Nat}{l':List Pr}{b:List UInt8}(h:nY f wh l b=(l',0))(hf:b.length≤f):∃q,l'=l++q∧q.flatMap bV=b∧∀p∈q,Ct p∧bR p.id wh=true∧cW p=0∧0≤p.id∧p.id<268435456:=by
 induction f generalizing l b with
 |zero=>
  have hb:b= []:=List.eq_nil_of_length_eq_zero (by omega);subst hb;simp only [nY,Prod.mk.injEq,and_true] at h;exact ⟨[],by simp [h],rfl,fun p hp=>by cases hp⟩
 |succ f ih=>
  unfold nY at h
  split at h
  ·rename_i hb
   subst hb;simp only [Prod.mk.injEq,and_true] at h;exact ⟨[],by simp [h],rfl,fun p hp=>by cases hp⟩
  ·split at h
   ·rename_i hc
    simp only [Prod.mk.injEq] at h
    omega
   ·rename_i hb hc
    obtain ⟨⟨c,p,m⟩,hs⟩:∃s,oT wh l b=s:=⟨_,rfl⟩
    rw [hs] at h hc;simp only [ne_eq,Decidable.not_not] at h hc;subst hc;obtain ⟨u,rfl,s2,s3,s4,s5,s6,s7,s8,s9,_,_⟩:=Ot hs;rw [toNat_natCast] at h;obtain ⟨q,rfl,q2,q3⟩:=ih h (by rw [List.length_drop];omega);refine ⟨p::q,by simp,?_,fun x hx=> ?_⟩
    ·rw [List.flatMap_cons,s4,q2,List.take_append_drop]
    ·rcases List.mem_cons.1 hx with rfl|hx
     ·exact ⟨s5,s6,s7,s8,s9⟩
     ·exact q3 x hx
theorem Ou{b:List UInt8}{used:Int}(h:nk wh b=(l,used,0)):∃n y:Nat,dg b=(n,y,0)∧used=(y:Int)+n∧y+n≤b.length∧n<268435456∧jz n=b.take y∧l.flatMap bV=(b.drop y).take n∧nY n wh [] ((b.drop y).take n)=(l,0)∧
 (∀p∈l,Ct p∧bR p.id wh=true∧cW p=0∧0≤p.id∧p.id<268435456)∧∀t,nk wh (b.take (y+n)++t)=(l,used,0):=by
 unfold nk at h;obtain ⟨⟨n,y,z⟩,hg⟩:∃g,dg b=g:=⟨_,rfl⟩
 rw [hg] at h;simp only at h
 split at h
 ·simp only [Prod.mk.injEq] at h
  omega
 ·rename_i hc
  have hz:z=0:=by omega
  subst hz;obtain ⟨g1,g2,g3⟩:=A6 b n y hg
  split at h
  ·rename_i hn
   simp only [Prod.mk.injEq] at h
   omega
  ·rename_i hn
   obtain ⟨⟨l',c⟩,hr⟩:∃r,nY n wh [] ((b.drop y).take n)=r:=⟨_,rfl⟩
   rw [hr] at h hn;simp only [ne_eq,Decidable.not_not,Prod.mk.injEq,and_true] at h hn;subst hn;obtain ⟨rfl,rfl⟩:=h;have aX:((b.drop y).take n).length=n:=by rw [List.length_take,List.length_drop];omega
   obtain ⟨q,rfl,q2,q3⟩:=adK hr (by omega);refine ⟨n,y,hg,rfl,by omega,g1,g3,q2,hr,q3,fun t=> ?_⟩;have e1:dg (b.take (y+n)++t)=(n,y,0):=by
    have:b.take (y+n)++t=jz n++((b.drop y).take n++t):=by rw [g3,←List.append_assoc,←List.take_add]
    rw [this,J_ n g1]
    congr 2
    rw [g3,List.length_take]
    omega
   have e2:((b.take (y+n)++t).drop y).take n=(b.drop y).take n:=by
    rw [List.drop_append_of_le_length (by rw [List.length_take];omega),List.take_append_of_le_length (by rw [List.length_drop,List.length_take];omega),List.drop_take];rw [show y+n - y=n by omega,List.take_take,Nat.min_self]
   unfold nk;rw [e1];simp only;rw [if_neg (by rw [List.length_append,List.length_take];omega),e2,hr];simp
theorem U3{x:List UInt8}(h:eP wh l=(x,0)):∃n:Nat,n=(l.flatMap bV).length∧n<268435456∧x=jz n++l.flatMap bV∧nk wh x=(l,(x.length:Int),0):=by
 unfold eP at h
 split at h
 ·simp only [Prod.mk.injEq] at h
  omega
 ·rename_i hc
  split at h
  ·rename_i hr
   have hn:(l.flatMap bV).length<268435456:=by
    by_cases hq:(l.flatMap bV).length<268435456
    ·exact hq
    ·exact absurd (by unfold dG;rw [if_pos (by omega)];decide) hc
   simp only [Prod.mk.injEq,and_true] at h;rw [h] at hr;rw [zu _ hn] at h;exact ⟨_,rfl,hn,h.symm,hr⟩
  ·simp only [Prod.mk.injEq] at h
   omega
theorem adL{x:List UInt8}{c:Nat}(h:eP wh l=(x,c))(hc:c≠0):x= []∧c=129:=by
 unfold eP at h
 split at h
 ·simp only [Prod.mk.injEq] at h;exact ⟨h.1.symm,h.2.symm⟩
 ·split at h
  ·simp only [Prod.mk.injEq] at h
   omega
  ·simp only [Prod.mk.injEq] at h;exact ⟨h.1.symm,h.2.symm⟩
theorem adM(ps:List Int)(z:Int)(hz:A7 ps=z)(hp:∀p∈ps,0≤p∧p≤64)(ad:Option Addr)(n c:Nat)(hn:n=ps.length)(hm:ps.length≤1000)(w:World)(cs:List Value)(hr:Rd w 1 ad n cs)(dm:cs=ps.map (Value.int .i64))(R:Ending→World→Prop)
 (hR:R (.returned (.int .i64 z)) w):
 Calls prog 223 #[.slice ad n c] w R:=by
 subst hz;subst hn;subst dm;go_enter func223,ntmps223;go_wp2;go_loop [3,5,8] (fun s _ i=>∃k:Nat,k≤ps.length∧i= .int .i64 k∧∃z:Int,Hid (z=A7 (ps.take k))∧s= .int .i64 z) (fun _ _ i=>ps.length - (intOf i).toNat)
 case atStart=>exact ⟨0,Nat.zero_le _,rfl,0,rfl,rfl⟩
 case round=>
  obtain ⟨k,hk,rfl,z,hz,rfl⟩:=hrel;by_cases ao:k<ps.length
  ·have bd:(k:Int)<(ps.length:Int):=by omega
   obtain ⟨b,o,rfl,aW⟩:=hr.2 (by omega);have rB:=aW k (by omega);rw [List.getElem?_map,List.getElem?_eq_getElem ao,Option.map_some] at rB;obtain ⟨h0,h64⟩:=hp _ (List.getElem_mem ao);have HG:Hid (bits .or .i64 z (wrap64 (2 ^ (ps[k]).toNat))=A7 (ps.take (k+1))):=by rw [List.take_succ_eq_append_getElem ao,adE,←hz.o_];exact ab rfl
   obtain ⟨p,EG⟩:=ai (ps[k]);rw [EG] at HG h0 h64 rB;clear aW hr hz EG;go_wp2;go_round
   case rel=>exact ⟨k+1,by omega,by go_num,_,ab HG.o_,by simp⟩
   case measure=>simp [intOf];omega
  ·have bd:¬(k:Int)<(ps.length:Int):=by omega
   have hf:z=A7 ps:=by rw [hz.o_,List.take_of_length_le (by omega)]
   clear hz;subst hf;go_wp2;exact hR
theorem nZ(ps:List Int)(z:Int)(hz:A7 ps=z)(hp:∀p∈ps,0≤p∧p≤64)(n:Nat)(hn:n=ps.length)(hm:ps.length≤1000)(vs:Array Value)(hs:vs.toList=ps.map (Value.int .i64))(t K:Nat)(w:World)(hK:K=w.heap.size)(R:Ending→World→Prop)
 (hR:R (.returned (.int .i64 z)) (w.alloc (.cells vs t))):
 Calls prog 223 #[.slice (some ⟨K,0,none⟩) n n] (w.alloc (.cells vs t)) R:=by
 subst hK;refine adM ps z hz hp _ n n hn hm _ vs.toList (cO w vs t 1 n ?_) hs R hR;have:=congrArg List.length hs;simp only [List.length_map] at this;rw [Nat.mul_one,hn,←this];simp
end Go.Proofs.YtgimbocoamnkjaaGreatDoor
