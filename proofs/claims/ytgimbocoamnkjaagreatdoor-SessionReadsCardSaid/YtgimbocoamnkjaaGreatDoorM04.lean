/- A part of the proof of SessionReads; no conditions. -/
import Derived.Test.YtgimbocoamnkjaaGreatDoorM02
import Derived.Test.YtgimbocoamnkjaaGreatDoorM01
import Derived.Deep.CutRange
set_option maxRecDepth 100000
set_option maxHeartbeats 16000000
namespace Go.Proofs.YtgimbocoamnkjaaGreatDoor
open _root_.Go.Proofs.Tryz
variable{w w':World}
open Go.RowKit
def dy(w:World):Prop:=Lib.Utf8Tabs 0 1 w
theorem dy.below(h:dy w)(U:Below w w w'):dy w':=Utf8Tabs_below h U
theorem agW(l:List UInt8)(w:World)(hl:l.length≤9223372036854775807)(hT:dy w)(R:ak)
 (I:∀w',Below w w w'→R (.returned (.bool (Lib.validD l))) w'):Calls prog 154 #[.string (str l)] w R:=by
 have h:Calls prog 154 #[.string (str l)] w _:=Any.utf8_ValidString Tryz.Xv (str l) w hl hT;refine h.mono fun e w' he=> ?_;obtain⟨rfl,U⟩:=he;exact I w' U
open List (drop_of_length_le drop_zero)
def C':Nat→List UInt8→Bool
 |0,_=>true
 |n+1,l=>if l= [] then true else if (Lib.decodeL l).1=0 then false else C' n (l.drop (Lib.decodeL l).2)
def nz(l:List UInt8):Bool:=C' l.length l
def eg(l:List UInt8):Bool:=nz l&&Lib.validD l
theorem ahQ(n m:Nat)(l:List UInt8)(hn:l.length≤n)(hm:l.length≤m):C' n l=C' m l:=by
 induction n generalizing m l with
 |zero=>
  obtain rfl:l= []:=n_ (by omega);cases m<;>simp[C']
 |succ n ih=>
  by_cases hl:l= []
  ·subst hl;cases m<;>simp[C']
  have h1:=Lib.decodeL_width l;have hp:0<l.length:=List.length_pos_iff.2 hl;cases m with
  |zero=>omega
  |succ m=>
   simp only[C',hl,if_false];rw[ih m (l.drop (Lib.decodeL l).2) (by rw[dw];omega) (by rw[dw];omega)]
theorem R7(l:List UInt8)(hl:l≠ []):nz l=if (Lib.decodeL l).1=0 then false else nz (l.drop (Lib.decodeL l).2):=by
 have h1:=Lib.decodeL_width l;have hp:0<l.length:=List.length_pos_iff.2 hl;unfold nz;obtain⟨n,hn⟩:∃n,l.length=n+1:=⟨l.length - 1,by omega⟩
 rw[hn];simp only[C',hl,if_false];rw[ahQ n (l.drop (Lib.decodeL l).2).length _ (by rw[dw];omega) bj]
theorem ahR(l:List UInt8):(str l).data.toList=l:=by simp
theorem Hc(l:List UInt8):(str l).size=l.length:=rfl
theorem NF(l:List UInt8)(w:World)(hl:l.length≤9223372036854775807)(hT:dy w)(R:ak)
 (I:∀w',Below w w w'→R (.returned (.bool (eg l))) w'):Calls prog 117 #[.string (str l)] w R:=by
 have bt:=Hc l;go_enter func117,ntmps117;go_wp2;go_loopw [4] (fun _ wr=>∃pos:Nat,pos≤l.length∧wr=w.iter (str l) pos∧Hid (nz (l.drop pos)=nz l)) (fun _ wr=>l.length - wr.iterPos w.heap.size)
 case atStart=>exact⟨0,bP _,rfl,by rw[drop_zero];exact Z rfl⟩
 case round=>
  obtain⟨pos,u_,rfl,mx⟩:=hrel;by_cases au:pos<l.length
  ·have BF:Lib.decodeL (l.drop pos)=Utf8.decode (str l) pos:=by
    have:=Lib.decodeL_drop (str l) pos
    rwa [ahR] at this
   have Da:=R7 (l.drop pos) (by intro h;have:=congrArg List.length h;rw[dw] at this;simp at this;omega);rw[List.drop_drop,BF,mx.O] at Da;have qm:pos+(Utf8.decode (str l) pos).2≤l.length:=by
    have:=Lib.decodeL_le (l.drop pos) (by intro h;have:=congrArg List.length h;rw[dw] at this;simp at this;omega);rw[BF,dw] at this
    omega
   have yY:1≤(Utf8.decode (str l) pos).2:=by rw[←BF];exact Lib.decodeL_width _
   have so:=fun ty=>run_next_any (P:=prog) w (str l) pos ty au;obtain⟨r,hr⟩:∃r,r=(Utf8.decode (str l) pos).1:=⟨_,rfl⟩
   obtain⟨k,G⟩:∃k,k=(Utf8.decode (str l) pos).2:=⟨_,rfl⟩
   rw[←hr,←G] at so;rw[←hr,←G] at Da;rw[←G] at qm yY;clear hr G BF bt mx;by_cases yZ:r=0
   ·rw[if_pos yZ] at Da;have hf:eg l=false:=by unfold eg;rw[Da];rfl
    rw[hf] at I;have ahS:((r:Int)==0)=true:=by rw[beq_iff_eq];omega
    clear yZ Da hf;go_wp2;exact aD _ _
   rw[if_neg yZ] at Da;have H:=Z Da.symm;have ahS:((r:Int)==0)=false:=by rw[beq_eq_false_iff_ne];omega
   clear yZ Da;go_wp2;go_roundw
   case rel=>exact⟨pos+k,by omega,rfl,H⟩
   case measure=>simp;omega
  have so:=fun ty=>run_next_end (P:=prog) w (str l) pos ty (by rw[bt];exact au);have hz:nz l=true:=by
   rw[←mx.O,drop_of_length_le (by omega)]
   rfl
  have hf:eg l=Lib.validD l:=by unfold eg;rw[hz];rfl
  rw[hf] at I;have U:Below w w (w.iter (str l) pos):=aD _ _;have JH:=hT.below U;clear hz hf bt mx;go_wp2_with (go_at_call 154;go_must(refine agW l _ hl JH _ ?_));intro w2 aj;have an:=aQ U aj;clear U aj so hT JH;go_wp2;exact an
def dn(l:List UInt8):List UInt8×Int:=if 65535<l.length then ([],10) else (aY l.length 2++l,0)
def eh(l:List UInt8):List UInt8×Int×Int:=
 if l.length<2∨l.length - 2<cX (l.take 2) then ([],0,11) else ((l.take (2+cX (l.take 2))).drop 2,2+(cX (l.take 2):Int),0)
theorem JI(v:Value)(l aw2:List UInt8)(er:Int)(hD:dn l=(aw2,er))(w:World)(hv:Bs w v l)(R:ak)
 (I:∀Y c w',w'.ownsRow w 5 1 (.slice Y aw2.length c) aw2.length (bv aw2)→Below w w w'→R (.returned (.tuple #[.slice Y aw2.length c,E er])) w'):
 Calls prog 118 #[v] w R:=by
 have gp:=hv;obtain⟨Y,c,rfl,hr,J,hm,iN⟩:=gp;by_cases y_:65535<l.length
 ·have e:dn l=([],10):=by unfold dn;rw[if_pos y_]
  rw[hD] at e;obtain⟨rfl,rfl⟩:=Prod.mk.inj e;clear e hD;go_enter func118,ntmps118;go_wp2;exact I _ _ _ (bO _ _ _ _) dg
 have e:dn l=(aY l.length 2++l,0):=by unfold dn;rw[if_neg y_]
 rw[hD] at e;obtain⟨e1,rfl⟩:=Prod.mk.inj e;clear e hD;obtain⟨p,hp⟩:∃p,p=aY l.length 2:=⟨_,rfl⟩
 have pA:p.length=2:=by rw[hp];exact fQ _ _
 have mU:Hid (eC l.length 2=p):=by rw[hp];exact Z rfl
 have HF:Hid ([p,l].flatten=aw2):=by rw[e1,hp];simp[Hid]
 have ahT:aw2.length≤140737488355328:=by rw[e1,aK,fQ];omega
 clear e1 hp pA;go_enter func118,ntmps118;go_wp2_with (go_at_call 56;go_must(refine yW l.length (by omega) 2 p mU.O _ _ ?_));intro BG c1 w1 cS aw;have Yn:=(fO cS).2;have EJ:=hv.below aw;have hB:=agP (e:=22) Yn EJ;clear cS hr;go_wp2_with (go_at_call 55;go_must(refine pC _ _ aw2 HF.O _ hB ahT _ ?_));intro h_ c3 w3 ix an;have bt:=aw.size;have ao:=cz (aw.alloc bt _) an (by omega);have cO:=cm (jE:=w.heap.size) ix (by omega);clear aw an ix hB Yn EJ;go_wp2;exact I _ _ _ cO ao
def b9(l:List UInt8):List UInt8×Int:=if eg l then dn l else ([],13)
theorem Db(l aw2:List UInt8)(er:Int)(hD:b9 l=(aw2,er))(w:World)(hl:l.length≤140737488355328)(hT:dy w)(R:ak)
 (I:∀Y c w',w'.ownsRow w 5 1 (.slice Y aw2.length c) aw2.length (bv aw2)→Below w w w'→R (.returned (.tuple #[.slice Y aw2.length c,E er])) w'):
 Calls prog 54 #[.string (str l)] w R:=by
 obtain⟨t,ht⟩:=ai (eg l);have hcv:=fun w=>Lib.run_convert_string_bytes (P:=prog) w 9 22 5 (str l) underlying9 underlying22 underlying5;have bt:(str l).size=l.length:=rfl;cases t with
 |false=>
  have e:b9 l=([],13):=by unfold b9;rw[ht];rfl
  rw[hD] at e;obtain⟨rfl,rfl⟩:=Prod.mk.inj e;clear e hD hcv;have HT:=Z ht;clear ht bt;go_enter func54,ntmps54;go_wp2_with (go_at_call 117;go_must(refine NF l _ (by omega) hT _ ?_));rw[HT.O];intro w1 aw;go_wp2;exact I _ _ _ (bO _ _ _ _) aw
 |true=>
  have e:dn l=(aw2,er):=by rw[←hD];unfold b9;rw[ht];rfl
  obtain⟨HE,HT,HC⟩:=bX e ht hcv;clear ht hD e hcv bt;go_enter func54,ntmps54;go_wp2_with (go_at_call 117;go_must(refine NF l _ (by omega) hT _ ?_));rw[HT.O];intro w1 aw;have aj:=Xq w1 5 (str l);have bU:=Xr w1 5 l (by omega);have eD:=HC.O w1;have an:=aQ aw aj;rw[show(str l).size=l.length from rfl] at eD;go_wp2_with (go_at_call 118;go_must(refine JI _ l aw2 er HE.O _ bU _ ?_));intro oq c4 w4 cO ao;have aE:=aQ an ao;have fH:=cm (jE:=w.heap.size) cO an.size;clear ao cO bU an aj aw eD;go_wp2;exact I _ _ _ fH aE
theorem Yo{P:Prop}(h:P:=by
 obtain rfl:aw2= []:=n_ Hd;exact⟨_,0,rfl,Rd.nil _ _ _,by simp,by omega,fun h=>by cases h⟩):P:=h
variable{B:Nat}
theorem zb(x:Int):Value.int .u8 (IntKind.u8.wrap x)=Value.int .u8 ((b8 x).toNat:Int):=by
 have:((b8 x).toNat:Int)=IntKind.u8.wrap x:=by rw[xB,IntKind.wrap_u8]
 rw[this]
theorem EK(awZ:World)(x:Int)(hB:B≤awZ.heap.size):(awZ.alloc (.cells #[Value.int .u8 (IntKind.u8.wrap x)] 5)).ownsRow B 5 1 (.slice (some ⟨awZ,0,none⟩) 1 1) 1 (bv [b8 x]):=by
 rw[zb];exact⟨rfl,.inr ⟨awZ.heap.size,1,#[Value.int .u8 ((b8 x).toNat:Int)],rfl,hB,aH awZ _,Nat.le_refl _,by unfold maxLen;omega,rfl,rfl⟩⟩
theorem NG(awZ:World)(x y:Int)(hB:B≤awZ.heap.size):(awZ.alloc (.cells #[Value.int .u8 (IntKind.u8.wrap x),Value.int .u8 (IntKind.u8.wrap y)] 5)).ownsRow B 5 1 (.slice (some ⟨awZ,0,none⟩) 2 2) 2 (bv [b8 x,b8 y]):=by
 rw[zb,zb];exact⟨rfl,.inr ⟨awZ.heap.size,2,#[Value.int .u8 ((b8 x).toNat:Int),Value.int .u8 ((b8 y).toNat:Int)],rfl,hB,aH awZ _,Nat.le_refl _,by unfold maxLen;omega,rfl,rfl⟩⟩
theorem NH(n:Int)(w:World)(R:ak)
 (I:∀Y c w',w'.ownsRow w 5 1 (.slice Y 1 c) 1 (bv [b8 n])→Below w w w'→R (.returned (.slice Y 1 c)) w'):
 Calls prog 57 #[E n] w R:=by
 have HR:=Z I;have HO:=Z (EK (B:=w.heap.size) w n bj);clear I;go_enter func57,ntmps57;go_wp2;exact HR.O _ _ _ HO.O (aD _ _)
theorem ahU(b:Bool)(n:Int)(w:World)(R:ak)
 (I:R (.returned (E (if b then n else 0))) w):
 Calls prog 58 #[.bool b,E n] w R:=by
 cases b with
 |false=>
  have HR:=Z (show R (.returned (E 0)) w from I);clear I;go_enter func58,ntmps58;go_wp2;exact HR.O
 |true=>
  have HR:=Z (show R (.returned (E n)) w from I);clear I;go_enter func58,ntmps58;go_wp2;exact HR.O
theorem Yp(v:Value)(l aw2:List UInt8)(er:Int)(hD:dn l=(aw2,er))(w:World)(hv:Bs w v l)(R:ak)
 (I:∀Y c w',w'.ownsRow w 5 1 (.slice Y aw2.length c) aw2.length (bv aw2)→Below w w w'→R (.returned (.slice Y aw2.length c)) w'):
 Calls prog 59 #[v] w R:=by
 obtain⟨HR,HV,HD⟩:=bX I hv hD;clear I hv hD;go_enter func59,ntmps59;go_wp2_with (go_at_call 118;go_must(refine JI _ l aw2 er HD.O _ HV.O _ ?_);intro Y c w3 bN an)
 all_goals exact HR.O _ _ _ bN an
def lK(q:Int)(r:Bool):Int:=if r then bits .or .i64 q 4 else q
theorem Yq{P:Prop}(h:P:=by
 rw[hm] at HO HR;clear I hm;go_enter func120,ntmps120;go_wp2;exact HR.O _ _ _ HO.O (aD _ _)):P:=h
theorem Yr(q:Int)(r:Bool)(w:World)(R:ak)
 (I:∀Y c w',w'.ownsRow w 5 1 (.slice Y 1 c) 1 (bv [b8 (lK q r)])→Below w w w'→R (.returned (.slice Y 1 c)) w'):
 Calls prog 120 #[E q,.bool r] w R:=by
 have HR:=Z I;have HO:=Z (EK (B:=w.heap.size) w (lK q r) bj);cases r with
 |false=>
  have hm:lK q false=q:=rfl;exact Yq
 |true=>
  have hm:lK q true=bits .or .i64 q 4:=rfl;exact Yq
def bz(n:Int):Nat:=(n % 18446744073709551616).toNat
theorem Dc(n:Int):Value.int .u64 (IntKind.u64.wrap n)=Value.int .u64 (bz n:Int):=by
 have:((bz n:Nat):Int)=IntKind.u64.wrap n:=by
  unfold bz;rw[IntKind.wrap_u64]
  omega
 rw[this]
theorem Dd(n:Int):bz n<18446744073709551616:=by
 unfold bz
 omega
theorem Ys(n:Int)(P:List UInt8)(hP:aY (bz n) 8=P)(w:World)(R:ak)
 (I:∀Y c w',w'.ownsRow w 5 1 (.slice Y P.length c) P.length (bv P)→Below w w w'→R (.returned (.slice Y P.length c)) w'):
 Calls prog 156 #[E n] w R:=by
 obtain⟨m,hm⟩:=ai (bz n);have hw:IntKind.u64.wrap n=(m:Int):=by
  have h1:=Dc n;rw[hm] at h1
  simpa using h1
 have j3:m<18446744073709551616:=hm▸Dd n;have HR:=Z I;have HP:Hid (eC m 8=P):=by
  show _=_;rw[←hP,hm]
  rfl
 clear I hP hm;go_enter func156,ntmps156;go_wp2_with (go_at_call 56;go_must(refine yW m j3 8 P HP.O _ _ ?_);intro Y c w3 bN an)
 all_goals exact HR.O _ _ _ bN an
variable{i j n:Nat}{Y:av}
theorem ahV(l:List UInt8)(h:2≤l.length):cX (l.take 2)<65536:=by
 match l,h with
 |a::b::r,_=>
  have h1:=a.toNat_lt;have h2:=b.toNat_lt;show((0*256+a.toNat) % 18446744073709551616*256+b.toNat) % 18446744073709551616<65536
  omega
theorem EL(l:List UInt8):(l.length<2∧eh l=([],0,11))∨∃n:Nat,Hid (cX (l.take 2)=n)∧n<65536∧2≤l.length∧((l.length - 2<n∧eh l=([],0,11))∨(2+n≤l.length∧eh l=((l.take (2+n)).drop 2,2+(n:Int),0))):=by
 by_cases h:l.length<2
 ·exact .inl ⟨h,by unfold eh;rw[if_pos (.inl h)]⟩
 refine .inr ⟨_,rfl,ahV l (by omega),by omega,?_⟩;by_cases h2:l.length - 2<cX (l.take 2)
 ·exact .inl ⟨h2,by unfold eh;rw[if_pos (.inr h2)]⟩
 exact .inr ⟨by omega,by unfold eh;rw[if_neg (by omega)]⟩
theorem Bs.Yt{c:Nat}{l:List UInt8}(h:Bs w (.slice Y n c) l)(hi:i≤j)(hj:j≤l.length):
 Bs w (.slice (Y.map fun a=>a.add i) (j - i) (c - i)) ((l.take j).drop i):=by
 obtain⟨bK,c',e,hr,h1,h2,h3⟩:=h;simp only[Value.slice.injEq] at e;obtain⟨rfl,rfl,rfl⟩:=e;have hl:((l.take j).drop i).length=j - i:=by rw[dw,bS];omega
 refine⟨_,c - i,by rw[hl],?_,by omega,by omega,?_⟩
 ·rw[hl];refine⟨by simp[hl],fun h0=> ?_⟩;obtain⟨b,o,rfl,J⟩:=hr.2 (by omega);refine⟨b,o+i,by simp[Addr.add],fun q hq=> ?_⟩;rw[show o+i+q=o+(i+q) by omega,J (i+q) (by omega)];simp only[bv,List.getElem?_map,List.getElem?_drop,ml];rw[if_pos (by omega)]
 intro hn;cases Y with
 |none=>rw[h3 rfl];omega
 |some a=>simp at hn
theorem get_at(v:Value)(l:List UInt8)(n:Nat)(hn:cX l=n)(w:World)(hv:Bs w v l)(R:ak)
 (I:R (.returned (.int .u64 n)) w):Calls prog 109 #[v] w R:=by
 subst hn;exact ahN v l w hv R I
theorem EM(v:Value)(l:List UInt8)(n:Nat)(hn:cX l=n)(w:World)(hv:Bs w v l)(R:ak)
 (I:R (.returned (.int .u64 n)) w):Calls prog 136 #[v] w R:=by
 subst hn;exact ahP v l w hv R I
theorem EN(v:Value)(l aw2:List UInt8)(u er:Int)(hD:eh l=(aw2,u,er))(w:World)(hv:Bs w v l)(R:ak)
 (I:∀Y c w',w'.ownsRow w 5 1 (.slice Y aw2.length c) aw2.length (bv aw2)→Below w w w'→R (.returned (.tuple #[.slice Y aw2.length c,E u,E er])) w'):
 Calls prog 112 #[v] w R:=by
 have gp:=hv;obtain⟨Y,c,rfl,hr,J,hm,iN⟩:=gp;rcases EL l with⟨h,e⟩|⟨n,hn,k_,kZ,⟨h,e⟩|⟨h,e⟩⟩
 ·rw[hD] at e;simp only[Prod.mk.injEq] at e;obtain⟨rfl,rfl,rfl⟩:=e;clear hD;go_enter func112,ntmps112;go_wp2;go_ret3;exact I _ _ _ (bO _ _ _ _) dg
 ·rw[hD] at e;simp only[Prod.mk.injEq] at e;obtain⟨rfl,rfl,rfl⟩:=e;clear hD;have U:=hv.cut (k:=2) kZ;have F:((l.length:Int) - 2<(n:Int)):=by omega
  go_enter func112,ntmps112;go_wp2_with (go_at_call 109;go_must(refine get_at _ _ n hn.O _ U _ ?_));go_wp2;go_ret3;exact I _ _ _ (bO _ _ _ _) dg
 rw[hD] at e;simp only[Prod.mk.injEq] at e;obtain⟨e1,rfl,rfl⟩:=e;have Hd:aw2.length=n:=by rw[e1,dw,bS];omega
 have HF:Hid ([aw2].flatten=aw2):=by simp[Hid]
 have U:=hv.cut (k:=2) kZ;obtain⟨b,o,rfl,bg⟩:=hr.CP (by omega);clear bg hr;have aj:=hv.Yt (i:=2) (j:=2+n) (by omega) h;rw[show 2+n - 2=n by omega] at aj;rw[←e1] at aj;simp only[Option.map_some,Addr.add] at aj;clear hD e1;have F:¬((l.length:Int) - 2<(n:Int)):=by omega
 rw[Hd] at I;have fI:c - 2≤9223372036854775807:=by omega
 have uu:∀(bK:av)(c':Nat),Bs w (.slice bK n c') aw2→yJ (w.alloc (.cells #[.slice bK n c'] 22)) (.slice (some ⟨w,0,none⟩) 1 1) [aw2]:=fun bK c' hq=>agO hq;by_cases bM:c=2
 ·subst bM;obtain rfl:n=0:=by omega
  have an:Bs w (.slice (some ⟨b,o,none⟩) 0 0) aw2:=by
   exact Yo
  have hB:=uu _ _ an;clear uu aj;go_enter func112,ntmps112;go_wp2_with (go_at_call 109;go_must(refine get_at _ _ _ hn.O _ U _ ?_));go_wp2_with (go_at_call 109;go_must(refine get_at _ _ _ hn.O _ U _ ?_));go_wp2_with (go_at_call 55;go_must(refine pC _ _ aw2 HF.O _ hB (by omega) _ ?_));intro h_ c3 w3 ix dh;have cO:=cm (jE:=w.heap.size) ix (by simp);have ao:=cz (aD w _) dh (by simp);clear U hB an hn ix dh;go_wp2;go_ret3;exact I _ _ _ cO ao
 have hB:=uu _ _ aj;clear uu aj;go_enter func112,ntmps112;go_wp2_with (go_at_call 109;go_must(refine get_at _ _ n hn.O _ U _ ?_));go_wp2_with (go_at_call 109;go_must(refine get_at _ _ n hn.O _ U _ ?_));go_wp2_with (go_at_call 55;go_must(refine pC _ _ aw2 HF.O _ hB (by omega) _ ?_));intro h_ c3 w3 ix dh;have cO:=cm (jE:=w.heap.size) ix (by simp);have ao:=cz (aD w _) dh (by simp);clear U hB hn ix dh;go_wp2;go_ret3;exact I _ _ _ cO ao
theorem R8(l aw2:List UInt8)(u er:Int)(h:eh l=(aw2,u,er)):aw2.length≤65535:=by
 rcases EL l with⟨_,e⟩|⟨n,hn,k_,kZ,⟨_,e⟩|⟨h2,e⟩⟩
 ·rw[h] at e;simp only[Prod.mk.injEq] at e;rw[e.1];simp
 ·rw[h] at e;simp only[Prod.mk.injEq] at e;rw[e.1];simp
 rw[h] at e;simp only[Prod.mk.injEq] at e;rw[e.1,dw,bS];omega
def dp(l:List UInt8):List UInt8×Int×Int:=
 if (eh l).2.2≠0 then ([],0,(eh l).2.2) else if eg (eh l).1 then ((eh l).1,(eh l).2.1,0) else ([],0,13)
theorem De(v:Value)(l S:List UInt8)(u er:Int)(hD:dp l=(S,u,er))(w:World)(hv:Bs w v l)(hT:dy w)(R:ak)
 (I:∀w',Below w w w'→R (.returned (.tuple #[.string (str S),E u,E er])) w'):
 Calls prog 108 #[v] w R:=by
 have gp:=hv;obtain⟨Y,c,rfl,hr,J,hm,iN⟩:=gp;clear hr;obtain⟨⟨d,u1,e1⟩,A⟩:∃g,eh l=g:=⟨_,rfl⟩
 have gK:=R8 _ _ _ _ A;have HG:=Z A;unfold dp at hD;rw[A] at hD;simp only at hD;clear A;by_cases he:e1=0
 ·subst he;rw[if_neg (by simp)] at hD;obtain⟨t,ht⟩:=ai (eg d);rw[ht] at hD;have HT:=Z ht;clear ht;cases t with
  |false=>
   simp only[Bool.false_eq_true,if_false,Prod.mk.injEq] at hD;obtain⟨rfl,rfl,rfl⟩:=hD;go_enter func108,ntmps108;go_wp2_with (go_at_call 112;go_must(refine EN _ l d u1 0 HG.O _ hv _ ?_));intro BG c1 w1 cS aw;have bU:=(fO cS).2;have hcv:=lU (P:=prog) underlying22 underlying5 underlying9 bU;have JK:=hT.below aw;clear cS hv bU;go_wp2_with (go_at_call 117;go_must(refine NF d _ (by omega) JK _ ?_));rw[HT.O];intro w2 aj;have an:=aQ aw aj;clear aj aw hcv hT JK;go_wp2;go_ret3;exact I _ an
  |true=>
   simp only[if_true,Prod.mk.injEq] at hD;obtain⟨rfl,rfl,rfl⟩:=hD;go_enter func108,ntmps108;go_wp2_with (go_at_call 112;go_must(refine EN _ l d u1 0 HG.O _ hv _ ?_));intro BG c1 w1 cS aw;have bU:=(fO cS).2;have hcv:=lU (P:=prog) underlying22 underlying5 underlying9 bU;have JK:=hT.below aw;clear cS hv;go_wp2_with (go_at_call 117;go_must(refine NF d _ (by omega) JK _ ?_));rw[HT.O];intro w2 aj;have an:=aQ aw aj;have EO:=lU (P:=prog) underlying22 underlying5 underlying9 (bU.below aj);clear aj aw hT JK bU hcv;go_wp2;go_ret3;exact I _ an
 rw[if_pos he] at hD;simp only[Prod.mk.injEq] at hD;obtain⟨rfl,rfl,rfl⟩:=hD;have bf:((e1:Int)==0)=false:=by simpa using he
 go_enter func108,ntmps108;go_wp2_with (go_at_call 112;go_must(refine EN _ l d u1 e1 HG.O _ hv _ ?_));intro BG c1 w1 cS aw;clear cS hv;go_wp2;go_ret3;exact I _ aw
def dU(p:Pr):Nat:=
 if aS p.id=1∧1<p.num then 130
 else if (p.id=11∨p.id=33∨p.id=39)∧p.num=0 then 130
 else if p.id=35∧p.num=0 then 148
 else 0
def eK(id:Int)(b:List UInt8):Option (Pr×Int):=
 if aS id=1 then (if b.length<1 then none else some (⟨id,cX (b.take 1),[],[],[]⟩,1))
 else if aS id=2 then (if b.length<2 then none else some (⟨id,cX (b.take 2),[],[],[]⟩,2))
 else if aS id=3 then (if b.length<4 then none else some (⟨id,cX (b.take 4),[],[],[]⟩,4))
 else if aS id=4 then (if (dY b).2.2=0 then some (⟨id,(dY b).1,[],[],[]⟩,(dY b).2.1) else none)
 else if aS id=5 then (if (dp b).2.2=0 then some (⟨id,0,(dp b).1,[],[]⟩,(dp b).2.1) else none)
 else if aS id=6 then (if (eh b).2.2=0 then some (⟨id,0,[],[],(eh b).1⟩,(eh b).2.1) else none)
 else if aS id=7 then (if (dp b).2.2=0 then (if (dp (b.drop (dp b).2.1.toNat)).2.2=0 then some (⟨id,0,(dp b).1,(dp (b.drop (dp b).2.1.toNat)).1,[]⟩,(dp b).2.1+(dp (b.drop (dp b).2.1.toNat)).2.1) else none) else none)
 else some (⟨id,0,[],[],[]⟩,0)
def zh(id:Int)(l:List Pr):Bool:=l.any fun p=>decide (p.id=id)
def rm(wh:Int)(l:List Pr)(b:List UInt8):Nat×Pr×Int:=
 if (dY b).2.2≠0∨ch (dY b).1 wh=false then (129,mK,0)
 else match eK (dY b).1 (b.drop (dY b).2.1) with
  |none=>(129,mK,0)
  |some (p,m)=>if zh (dY b).1 l=true∧pE (dY b).1 wh=false then (130,mK,0) else if dU p≠0 then (dU p,mK,0) else (0,p,(dY b).2.1+m)
def qp:Nat→Int→List Pr→List UInt8→List Pr×Nat
 |0,_,l,_=>(l,0)
 |f+1,wh,l,b=>if b= [] then (l,0) else if (rm wh l b).1≠0 then ([],(rm wh l b).1) else qp f wh (l++ [(rm wh l b).2.1]) (b.drop (rm wh l b).2.2.toNat)
def lf(wh:Int)(b:List UInt8):List Pr×Int×Nat:=
 if (dY b).2.2≠0∨b.length<(dY b).1+(dY b).2.1 then ([],0,129)
 else if (qp (dY b).1 wh [] ((b.drop (dY b).2.1).take (dY b).1)).2≠0 then ([],0,(qp (dY b).1 wh [] ((b.drop (dY b).2.1).take (dY b).1)).2)
 else ((qp (dY b).1 wh [] ((b.drop (dY b).2.1).take (dY b).1)).1,(dY b).2.1+(dY b).1,0)
def u64(n:Int):Nat:=(n % 18446744073709551616).toNat
def bR(p:Pr):List UInt8:=
 (eE p.id).1++
 (if aS p.id=1 then eC (u64 p.num) 1
   else if aS p.id=2 then eC (u64 p.num) 2
   else if aS p.id=3 then eC (u64 p.num) 4
   else if aS p.id=4 then (eE p.num).1
   else if aS p.id=5 then (b9 p.text).1
   else if aS p.id=6 then (dn p.data).1
   else if aS p.id=7 then (b9 p.text).1++(b9 p.pair).1
   else [])
def eO(wh:Int)(l:List Pr):List UInt8×Nat:=
 if (eE ((l.flatMap bR).length:Int)).2≠0 then ([],129)
 else if (lf wh ((eE ((l.flatMap bR).length:Int)).1++l.flatMap bR))=(l,(((eE ((l.flatMap bR).length:Int)).1++l.flatMap bR).length:Int),0) then ((eE ((l.flatMap bR).length:Int)).1++l.flatMap bR,0)
 else ([],129)
example:eO 3 [⟨1,1,[],[],[]⟩]=([2,1,1],0):=by decide+kernel
example:lf 3 [3,35,0,0]=([],0,148):=by decide+kernel
open List (drop_left)
open Nat (div_lt_of_lt_mul mul_comm pow_le_pow_right)
theorem Hi(n x:Nat)(hn:n≤8)(F:x<256 ^ n):cX (aY x n)=x:=by
 induction n generalizing x with
 |zero=>simp at F;subst F;rfl
 |succ n ih=>
  have h1:x / 256<256 ^ n:=by rw[Nat.pow_succ] at F;exact div_lt_of_lt_mul (by rw[mul_comm];exact F)
  have h2:(256:Nat) ^ (n+1)≤256 ^ 8:=pow_le_pow_right (by decide) hn;have h3:(b8 (x:Int)).toNat=x % 256:=by have:=xB (x:Int);omega
  show cX (aY (x / 256) n++ [b8 x])=x;rw[Hb,ih _ (by omega) h1,h3];have:(256:Nat) ^ 8=18446744073709551616:=by decide
  rw[this] at h2;have h4:=eV F h2
  omega
theorem NU(b:List UInt8)(h:b.length≤65535):dn b=(aY b.length 2++b,0):=by unfold dn;rw[if_neg (by omega)]
theorem ah5(p b t:List UInt8)(hl:p.length=2)(hp:cX p=b.length):eh (p++b++t)=(b,(b.length:Int)+2,0):=by
 have h1:(p++b++t).take 2=p:=by
  rw[kT,←hl,List.take_left]
 unfold eh;rw[h1,hp,if_neg (by simp only[aK,hl];omega)];have h3:((p++b++t).take (2+b.length)).drop 2=b:=by
  have e:2+b.length=(p++b).length:=by rw[aK,hl]
  rw[e,List.take_left]
  conv=>lhs;rw[←hl]
  exact drop_left
 rw[h3]
 congr 2
 omega
theorem Hj(b t:List UInt8)(h:b.length≤65535):eh (aY b.length 2++b++t)=(b,(b.length:Int)+2,0):=
 ah5 _ b t (fQ _ _) (Hi 2 b.length (by omega) (by omega))
theorem Hk(b:List UInt8)(h:b.length≤65535)(ht:eg b=true):b9 b=(aY b.length 2++b,0):=by
 unfold b9;rw[if_pos ht,NU b h]
theorem JO(b t:List UInt8)(h:b.length≤65535)(ht:eg b=true):dp (aY b.length 2++b++t)=(b,(b.length:Int)+2,0):=by
 unfold dp;rw[Hj b t h];simp[ht]
open Int (toNat_natCast)
variable{id wh:Int}{l:List Pr}{p:Pr}
theorem YD{P:List UInt8→Prop}(h0:P [])(h1:∀l c,P l→P (l++ [c]))(l:List UInt8):P l:=by
 have h:∀r:List UInt8,P r.reverse:=by
  intro r
  induction r with
  |nil=>exact h0
  |cons a r ih=>rw[List.reverse_cons];exact h1 _ _ ih
 have:=h l.reverse
 rwa [List.reverse_reverse] at this
theorem JP(l:List UInt8)(h:l.length≤8):cX l<256 ^ l.length:=by
 revert h
 induction l using YD with
 |h0=>intro _;simp[cX]
 |h1 l c ih=>
  intro h;rw[aK,List.length_singleton] at h;have h1:=ih (by omega);rw[Hb,aK,List.length_singleton,Nat.pow_succ];have J:=c.toNat_lt;have:=Nat.mod_le (cX l*256+c.toNat) 18446744073709551616
  omega
theorem YE(l:List UInt8)(h:l.length≤8):aY (cX l) l.length=l:=by
 revert h
 induction l using YD with
 |h0=>intro _;rfl
 |h1 l c ih=>
  intro h;rw[aK,List.length_singleton] at h;have h1:=JP l (by omega);have h2:(256:Nat) ^ l.length≤256 ^ 7:=pow_le_pow_right (by decide) (by omega);have h3:(256:Nat) ^ 7=72057594037927936:=by decide
  have J:=c.toNat_lt;have e:cX (l++ [c])=cX l*256+c.toNat:=by rw[Hb];omega
  rw[aK,List.length_singleton,e];show aY ((cX l*256+c.toNat) / 256) l.length++ [b8 ((cX l*256+c.toNat:Nat):Int)]=l++ [c];rw[show(cX l*256+c.toNat) / 256=cX l by omega,ih (by omega)]
  congr 2
  have h4:b8 ((cX l*256+c.toNat:Nat):Int)=b8 ((c.toNat:Nat):Int):=by
   unfold b8
   congr 1
   omega
  rw[h4,R']
def gx(p:Pr):List UInt8:=
 if aS p.id=1 then eC (u64 p.num) 1
  else if aS p.id=2 then eC (u64 p.num) 2
  else if aS p.id=3 then eC (u64 p.num) 4
  else if aS p.id=4 then (eE p.num).1
  else if aS p.id=5 then (b9 p.text).1
  else if aS p.id=6 then (dn p.data).1
  else if aS p.id=7 then (b9 p.text).1++(b9 p.pair).1
  else []
theorem nB(p:Pr):bR p=(eE p.id).1++gx p:=rfl
structure ER(p:Pr):Prop where
 ld:p.data.length≤65535
 lt:p.text.length≤65535
 lp:p.pair.length≤65535
 n0:0≤p.num
 n1:p.num<4294967296
 k1:aS p.id=1→p.num<256
 k2:aS p.id=2→p.num<65536
 k4:aS p.id=4→p.num<268435456
 tt:eg p.text=true
 tp:eg p.pair=true
theorem YF(n:Nat)(h:n<18446744073709551616):u64 (n:Int)=n:=by
 unfold u64
 omega
theorem YG:eg []=true:=by decide+kernel
theorem Sd(l d:List UInt8)(u:Int)(h:eh l=(d,u,0)):d.length≤65535∧u=(d.length:Int)+2∧d.length+2≤l.length∧l.take (d.length+2)=aY d.length 2++d:=by
 unfold eh at h
 split at h
 ·simp at h
 rename_i J
 have h2:2≤l.length:=by omega
 have U:cX (l.take 2)<65536:=by
  have:=JP (l.take 2) (by rw[bS];omega);rw[bS,Nat.min_eq_left h2] at this;exact this
 obtain⟨n,hn⟩:=ai (cX (l.take 2));rw[hn] at h U J;simp only[Prod.mk.injEq,and_true] at h;obtain⟨rfl,rfl⟩:=h;have hl:((l.take (2+n)).drop 2).length=n:=by rw[dw,bS];omega
 rw[hl];refine⟨by omega,by omega,by omega,?_⟩;have e:aY n 2=l.take 2:=by
  have:=YE (l.take 2) (by rw[bS];omega);rw[bS,Nat.min_eq_left h2,hn] at this;exact this
 rw[e,Nat.add_comm n 2];have:l.take 2=(l.take (2+n)).take 2:=by rw[List.take_take];congr 1;omega
 rw[this,yI]
theorem YH(l d:List UInt8)(u:Int)(h:eh l=(d,u,0))(t:List UInt8):eh (l++t)=(d,u,0):=by
 obtain⟨h1,rfl,h3,h4⟩:=Sd l d u h;have:l++t=aY d.length 2++d++(l.drop (d.length+2)++t):=by
  rw[←h4,←kT,yI]
 rw[this];exact Hj d _ h1
theorem Se(l d:List UInt8)(u:Int)(h:dp l=(d,u,0)):eh l=(d,u,0)∧eg d=true:=by
 unfold dp at h;obtain⟨⟨a,b,c⟩,A⟩:∃g,eh l=g:=⟨_,rfl⟩
 rw[A] at h⊢;simp only at h
 split at h
 ·simp only[Prod.mk.injEq] at h
  omega
 rename_i J
 split at h
 ·rename_i ht
  simp only[Prod.mk.injEq] at h;obtain⟨rfl,rfl,-⟩:=h;simp only[ne_eq,Decidable.not_not] at J;rw[J];exact⟨rfl,ht⟩
 simp only[Prod.mk.injEq] at h
 omega
theorem Sf(l d:List UInt8)(u:Int)(h:dp l=(d,u,0))(t:List UInt8):dp (l++t)=(d,u,0):=by
 obtain⟨h1,h2⟩:=Se l d u h;unfold dp;rw[YH l d u h1 t];simp[h2]
theorem YI(l:List UInt8)(m u:Nat)(h:dY l=(m,u,0))(t:List UInt8):dY (l++t)=(m,u,0):=by
 obtain⟨h1,h2,h3⟩:=Df l m u h;have:l++t=jR m++(l.drop u++t):=by rw[h3,←kT,yI]
 rw[this,NQ m h1]
 congr 2
 rw[h3,bS]
 omega
theorem BI(l d:List UInt8)(u:Int)(h:dp l=(d,u,0)):d.length≤65535∧u=(d.length:Int)+2∧d.length+2≤l.length∧eg d=true∧(b9 d).1=l.take (d.length+2):=by
 obtain⟨h1,h2⟩:=Se l d u h;obtain⟨h3,h4,h5,h6⟩:=Sd l d u h1;exact⟨h3,h4,h5,h2,by rw[Hk d h3 h2,h6]⟩
theorem BJ(b:List UInt8)(k:Nat)(G:1≤k∧k≤4)(hl:k≤b.length):cX (b.take k)<256 ^ k∧eC (u64 ((cX (b.take k):Nat):Int)) k=b.take k∧∀t:List UInt8,cX ((b++t).take k)=cX (b.take k):=by
 have bk:(b.take k).length=k:=by rw[bS];omega
 have h1:=JP (b.take k) (by omega);rw[bk] at h1;refine⟨h1,?_,fun t=>by rw[List.take_append_of_le_length hl]⟩;rw[YF _ (ahL _)];unfold eC;rw[if_neg (by omega),toNat_natCast];have:=YE (b.take k) (by omega)
 rwa [bk] at this
theorem Sg{b:List UInt8}{m:Int}(h:eK id b=some (p,m)):∃u:Nat,m=(u:Int)∧u≤b.length∧p.id=id∧gx p=b.take u∧ER p∧∀t,eK id (b++t)=some (p,m):=by
 obtain⟨k,G⟩:=ai (aS id);unfold eK at h;rw[G] at h;have hT:=YG;by_cases e1:k=1
 ·subst e1;simp only[if_true] at h
  split at h
  ·cases h
  rename_i hl
  simp only[Option.some.injEq,Prod.mk.injEq] at h;obtain⟨rfl,rfl⟩:=h;obtain⟨h1,h2,h3⟩:=BJ b 1 ⟨by omega,by omega⟩ (by omega);refine⟨1,rfl,by omega,rfl,by unfold gx;simp only[G,if_true];exact h2,⟨by simp,by simp,by simp,by simp,by simp only;omega,fun _=>by simp only;omega,fun hh=>by simp only at hh;omega,fun hh=>by simp only at hh;omega,hT,hT⟩,fun t=> ?_⟩;unfold eK;rw[G,if_pos rfl,if_neg (by rw[aK];omega),h3 t]
 by_cases e2:k=2
 ·subst e2;simp only[Nat.reduceEqDiff,if_false,if_true] at h
  split at h
  ·cases h
  rename_i hl
  simp only[Option.some.injEq,Prod.mk.injEq] at h;obtain⟨rfl,rfl⟩:=h;obtain⟨h1,h2,h3⟩:=BJ b 2 ⟨by omega,by omega⟩ (by omega);refine⟨2,rfl,by omega,rfl,by unfold gx;simp only[G,Nat.reduceEqDiff,if_false,if_true];exact h2,⟨by simp,by simp,by simp,by simp,by simp only;omega,fun hh=>by simp only at hh;omega,fun _=>by simp only;omega,fun hh=>by simp only at hh;omega,hT,hT⟩,fun t=> ?_⟩;unfold eK;rw[G,if_neg (by omega),if_pos rfl,if_neg (by rw[aK];omega),h3 t]
 by_cases e3:k=3
 ·subst e3;simp only[Nat.reduceEqDiff,if_false,if_true] at h
  split at h
  ·cases h
  rename_i hl
  simp only[Option.some.injEq,Prod.mk.injEq] at h;obtain⟨rfl,rfl⟩:=h;obtain⟨h1,h2,h3⟩:=BJ b 4 ⟨by omega,by omega⟩ (by omega);refine⟨4,rfl,by omega,rfl,by unfold gx;simp only[G,Nat.reduceEqDiff,if_false,if_true];exact h2,⟨by simp,by simp,by simp,by simp,by simp only;omega,fun hh=>by simp only at hh;omega,fun hh=>by simp only at hh;omega,fun hh=>by simp only at hh;omega,hT,hT⟩,fun t=> ?_⟩;unfold eK;rw[G,if_neg (by omega),if_neg (by omega),if_pos rfl,if_neg (by rw[aK];omega),h3 t]
 by_cases e4:k=4
 ·subst e4;simp only[Nat.reduceEqDiff,if_false,if_true] at h;obtain⟨⟨x,y,z⟩,A⟩:∃g,dY b=g:=⟨_,rfl⟩
  rw[A] at h;simp only at h
  split at h
  ·rename_i hz
   subst hz;simp only[Option.some.injEq,Prod.mk.injEq] at h;obtain⟨rfl,rfl⟩:=h;obtain⟨h1,h2,h3⟩:=Df b x y A;refine⟨y,rfl,h2,rfl,by unfold gx;simp only[G,Nat.reduceEqDiff,if_false,if_true];rw[zg x h1];exact h3,⟨by simp,by simp,by simp,by simp,by simp only;omega,fun hh=>by simp only at hh;omega,fun hh=>by simp only at hh;omega,fun _=>by simp only;omega,hT,hT⟩,fun t=> ?_⟩;unfold eK;rw[G,if_neg (by omega),if_neg (by omega),if_neg (by omega),if_pos rfl,YI b x y A t]
   rfl
  cases h
 by_cases e5:k=5
 ·subst e5;simp only[Nat.reduceEqDiff,if_false,if_true] at h;obtain⟨⟨x,y,z⟩,A⟩:∃g,dp b=g:=⟨_,rfl⟩
  rw[A] at h;simp only at h
  split at h
  ·rename_i hz
   subst hz;simp only[Option.some.injEq,Prod.mk.injEq] at h;obtain⟨rfl,rfl⟩:=h;obtain⟨h1,h2,h3,h4,h5⟩:=BI b x y A;refine⟨x.length+2,by omega,h3,rfl,by unfold gx;simp only[G,Nat.reduceEqDiff,if_false,if_true];exact h5,⟨by simp,h1,by simp,by simp,by simp,fun hh=>by simp only at hh;omega,fun hh=>by simp only at hh;omega,fun hh=>by simp only at hh;omega,h4,hT⟩,fun t=> ?_⟩;unfold eK;rw[G,if_neg (by omega),if_neg (by omega),if_neg (by omega),if_neg (by omega),if_pos rfl,Sf b x y A t]
   rfl
  cases h
 by_cases e6:k=6
 ·subst e6;simp only[Nat.reduceEqDiff,if_false,if_true] at h;obtain⟨⟨x,y,z⟩,A⟩:∃g,eh b=g:=⟨_,rfl⟩
  rw[A] at h;simp only at h
  split at h
  ·rename_i hz
   subst hz;simp only[Option.some.injEq,Prod.mk.injEq] at h;obtain⟨rfl,rfl⟩:=h;obtain⟨h1,h2,h3,h4⟩:=Sd b x y A;refine⟨x.length+2,by omega,h3,rfl,by unfold gx;simp only[G,Nat.reduceEqDiff,if_false,if_true];rw[NU x h1];exact h4.symm,⟨h1,by simp,by simp,by simp,by simp,fun hh=>by simp only at hh;omega,fun hh=>by simp only at hh;omega,fun hh=>by simp only at hh;omega,hT,hT⟩,fun t=> ?_⟩;unfold eK;rw[G,if_neg (by omega),if_neg (by omega),if_neg (by omega),if_neg (by omega),if_neg (by omega),if_pos rfl,YH b x y A t]
   rfl
  cases h
 by_cases e7:k=7
 ·subst e7;simp only[Nat.reduceEqDiff,if_false,if_true] at h;obtain⟨⟨x,y,z⟩,A⟩:∃g,dp b=g:=⟨_,rfl⟩
  rw[A] at h;simp only at h
  split at h
  ·rename_i hz
   subst hz;obtain⟨⟨x',y',z'⟩,j9⟩:∃g,dp (b.drop y.toNat)=g:=⟨_,rfl⟩
   rw[j9] at h;simp only at h
   split at h
   ·rename_i hz
    subst hz;simp only[Option.some.injEq,Prod.mk.injEq] at h;obtain⟨rfl,rfl⟩:=h;obtain⟨h1,h2,h3,h4,h5⟩:=BI b x y A;obtain⟨zj,wK,su,G',JG⟩:=BI _ x' y' j9;have hy:y.toNat=x.length+2:=by omega
    rw[hy] at su JG;rw[dw] at su;refine⟨x.length+2+(x'.length+2),by omega,by omega,rfl,by unfold gx;simp only[G,Nat.reduceEqDiff,if_false,if_true];rw[h5,JG,←List.take_add],⟨by simp,h1,zj,by simp,by simp,fun hh=>by simp only at hh;omega,fun hh=>by simp only at hh;omega,fun hh=>by simp only at hh;omega,h4,G'⟩,fun t=> ?_⟩;unfold eK;have e:(b++t).drop y.toNat=b.drop y.toNat++t:=by rw[List.drop_append_of_le_length (by omega)]
    rw[G,if_neg (by omega),if_neg (by omega),if_neg (by omega),if_neg (by omega),if_neg (by omega),if_neg (by omega),if_pos rfl,Sf b x y A t];simp only[if_true];rw[e,Sf _ x' y' j9 t]
    rfl
   cases h
  cases h
 simp only[e1,e2,e3,e4,e5,e6,e7,if_false,Option.some.injEq,Prod.mk.injEq] at h;obtain⟨rfl,rfl⟩:=h;refine⟨0,rfl,bP _,rfl,by unfold gx;simp only[G,e1,e2,e3,e4,e5,e6,e7,if_false,List.take_zero],⟨by simp,by simp,by simp,by simp,by simp,fun hh=>by simp only at hh;omega,fun hh=>by simp only at hh;omega,fun hh=>by simp only at hh;omega,hT,hT⟩,fun t=> ?_⟩;unfold eK;rw[G,if_neg e1,if_neg e2,if_neg e3,if_neg e4,if_neg e5,if_neg e6,if_neg e7]
theorem Sh{b:List UInt8}{m:Int}(h:rm wh l b=(0,p,m)):∃u:Nat,m=(u:Int)∧1≤u∧u≤b.length∧bR p=b.take u∧ER p∧ch p.id wh=true∧dU p=0∧0≤p.id∧p.id<268435456∧(zh p.id l=true→pE p.id wh=true)∧
 ∀t l',rm wh l' (b++t)=if zh p.id l'=true∧pE p.id wh=false then (130,mK,0) else (0,p,m):=by
 unfold rm at h;obtain⟨⟨x,y,z⟩,A⟩:∃g,dY b=g:=⟨_,rfl⟩
 rw[A] at h;simp only at h
 split at h
 ·simp only[Prod.mk.injEq] at h
  omega
 rename_i J
 have hz:z=0:=by
  by_cases hz:z=0
  ·exact hz
  exact absurd (Or.inl hz) J
 have hm:ch (x:Int) wh=true:=by
  cases hq:ch (x:Int) wh with
  |true=>rfl
  |false=>exact absurd (Or.inr hq) J
 subst hz;obtain⟨g1,g2,g3⟩:=Df b x y A
 split at h
 ·simp only[Prod.mk.injEq] at h
  omega
 rename_i p' m' hv
 obtain⟨u,rfl,v2,v3,v4,v5,v6⟩:=Sg hv
 split at h
 ·simp only[Prod.mk.injEq] at h
  omega
 rename_i hh
 split at h
 ·rename_i hn
  simp only[Prod.mk.injEq] at h
  omega
 rename_i hn
 simp only[Prod.mk.injEq,true_and] at h;obtain⟨rfl,rfl⟩:=h;rw[dw] at v2;have qt:1≤y:=by
  have h1:=(JN 3 x).1;have h2:(jR x).length=(b.take y).length:=by rw[g3]
  rw[bS] at h2;have:(jR x).length=(nA 3 x).length:=rfl
  omega
 refine⟨y+u,by omega,by omega,by omega,?_,v5,by rw[v3];exact hm,by simpa using hn,by omega,by omega,?_,?_⟩
 ·rw[nB,v3,v4,zg x g1];show jR x++_=_;rw[g3,←List.take_add]
 ·intro Dh;rw[v3] at Dh⊢;cases ho:pE (x:Int) wh with
  |true=>rfl
  |false=>exact absurd ⟨Dh,ho⟩ hh
 intro t l';unfold rm;rw[YI b x y A t];simp only;rw[if_neg J,List.drop_append_of_le_length g2,v6 t];simp only;rw[v3,if_neg hn]
theorem ah6{f:Nat}{l':List Pr}{b:List UInt8}(h:qp f wh l b=(l',0))(hf:b.length≤f):∃q,l'=l++q∧q.flatMap bR=b∧∀p∈q,ER p∧ch p.id wh=true∧dU p=0∧0≤p.id∧p.id<268435456:=by
 induction f generalizing l b with
 |zero=>
  have U:b= []:=n_ (by omega);subst U;simp only[qp,Prod.mk.injEq,and_true] at h;exact⟨[],by simp[h],rfl,fun p hp=>by cases hp⟩
 |succ f ih=>
  unfold qp at h
  split at h
  ·rename_i U
   subst U;simp only[Prod.mk.injEq,and_true] at h;exact⟨[],by simp[h],rfl,fun p hp=>by cases hp⟩
  split at h
  ·rename_i J
   simp only[Prod.mk.injEq] at h
   omega
  rename_i U J
  obtain⟨⟨c,p,m⟩,W⟩:∃s,rm wh l b=s:=⟨_,rfl⟩
  rw[W] at h J;simp only[ne_eq,Decidable.not_not] at h J;subst J;obtain⟨u,rfl,s2,s3,s4,s5,s6,s7,s8,s9,_,_⟩:=Sh W;rw[toNat_natCast] at h;obtain⟨q,rfl,q2,q3⟩:=ih h (by rw[dw];omega);refine⟨p::q,by simp,?_,fun x F=> ?_⟩
  ·rw[lT,s4,q2,yI]
  rcases List.mem_cons.1 F with rfl|F
  ·exact⟨s5,s6,s7,s8,s9⟩
  exact q3 x F
theorem JQ{b:List UInt8}{used:Int}(h:lf wh b=(l,used,0)):∃n y:Nat,dY b=(n,y,0)∧used=(y:Int)+n∧y+n≤b.length∧n<268435456∧jR n=b.take y∧l.flatMap bR=(b.drop y).take n∧qp n wh [] ((b.drop y).take n)=(l,0)∧
 (∀p∈l,ER p∧ch p.id wh=true∧dU p=0∧0≤p.id∧p.id<268435456)∧∀t,lf wh (b.take (y+n)++t)=(l,used,0):=by
 unfold lf at h;obtain⟨⟨n,y,z⟩,A⟩:∃g,dY b=g:=⟨_,rfl⟩
 rw[A] at h;simp only at h
 split at h
 ·simp only[Prod.mk.injEq] at h
  omega
 rename_i J
 have hz:z=0:=by omega
 subst hz;obtain⟨g1,g2,g3⟩:=Df b n y A
 split at h
 ·rename_i hn
  simp only[Prod.mk.injEq] at h
  omega
 rename_i hn
 obtain⟨⟨l',c⟩,hr⟩:∃r,qp n wh [] ((b.drop y).take n)=r:=⟨_,rfl⟩
 rw[hr] at h hn;simp only[ne_eq,Decidable.not_not,Prod.mk.injEq,and_true] at h hn;subst hn;obtain⟨rfl,rfl⟩:=h;have bk:((b.drop y).take n).length=n:=by rw[bS,dw];omega
 obtain⟨q,rfl,q2,q3⟩:=ah6 hr (by omega);refine⟨n,y,A,rfl,by omega,g1,g3,q2,hr,q3,fun t=> ?_⟩;have e1:dY (b.take (y+n)++t)=(n,y,0):=by
  have:b.take (y+n)++t=jR n++((b.drop y).take n++t):=by rw[g3,←kT,←List.take_add]
  rw[this,NQ n g1]
  congr 2
  rw[g3,bS]
  omega
 have e2:((b.take (y+n)++t).drop y).take n=(b.drop y).take n:=by
  rw[List.drop_append_of_le_length (by rw[bS];omega),List.take_append_of_le_length (by rw[dw,bS];omega),List.drop_take];rw[show y+n - y=n by omega,List.take_take,Nat.min_self]
 unfold lf;rw[e1];simp only;rw[if_neg (by rw[aK,bS];omega),e2,hr];simp
theorem NV{x:List UInt8}(h:eO wh l=(x,0)):∃n:Nat,n=(l.flatMap bR).length∧n<268435456∧x=jR n++l.flatMap bR∧lf wh x=(l,(x.length:Int),0):=by
 unfold eO at h
 split at h
 ·simp only[Prod.mk.injEq] at h
  omega
 rename_i J
 split at h
 ·rename_i hr
  have hn:(l.flatMap bR).length<268435456:=by
   by_cases hq:(l.flatMap bR).length<268435456
   ·exact hq
   exact absurd (by unfold eE;rw[if_pos (by omega)];decide) J
  simp only[Prod.mk.injEq,and_true] at h;rw[h] at hr;rw[zg _ hn] at h;exact⟨_,rfl,hn,h.symm,hr⟩
 simp only[Prod.mk.injEq] at h
 omega
theorem YJ{x:List UInt8}{c:Nat}(h:eO wh l=(x,c))(J:c≠0):x= []∧c=129:=by
 unfold eO at h
 split at h
 ·simp only[Prod.mk.injEq] at h;exact⟨h.1.symm,h.2.symm⟩
 split at h
 ·simp only[Prod.mk.injEq] at h
  omega
 simp only[Prod.mk.injEq] at h;exact⟨h.1.symm,h.2.symm⟩
theorem ah7{b:List UInt8}{used:Int}(h:lf wh b=(l,used,0)):∃y,eO wh l=(y,0)∧(y.length:Int)≤used:=by
 obtain⟨n,y,h1,h2,h3,h4,h5,h6,h7,h8,h9⟩:=JQ h;have bk:((b.drop y).take n).length=n:=by rw[bS,dw];omega
 have e:jR n++l.flatMap bR=b.take (y+n):=by rw[h5,h6,←List.take_add]
 have e2:(b.take (y+n)).length=y+n:=by rw[bS];omega
 refine⟨b.take (y+n),?_,by omega⟩;have h10:=h9 [];rw[od] at h10;unfold eO;rw[h6,bk,zg n h4];simp only;rw[←h6,e,h10,e2,h2];simp
variable{cs:List Value}{N g m size t te:Nat}{o:Obj}{La:av}
theorem cj(h:w.heap[g]? =some o)(U:Below w w w'):w'.heap[g]? =some o:=by
 rw[U.block g (eI.1 h).1];exact h
theorem ES(w:World):Bs w (.slice none 0 0) []:=⟨none,0,rfl,Rd.nil _ _ _,Nat.le_refl _,by omega,fun _=>rfl⟩
theorem pF{P:Program}{fn:Func}{p q u:Tmp}{ty:TypeId}(h:fn.results=#[.cell p ty,.tmp q,.tmp u])(tmps:Array Value)(w:World)(g:Nat)(t:TypeId)(cs:Array Value)(fr:Nat×Nat)(d:TypeDesc)(r s:Value)
 (hp:tmps.getD p undef= zq g) (hq:tmps.getD q undef=r) (Nj:tmps.getD u undef=s) (A:w.heap[g]? =some (.cells cs t fr))
 (hu:P.underlying ty=some d) (hd:(match d with| .struct _| .array _ _=>true|_=>false)=true) (hi:(P.info? ty).map (·.size)=some cs.size):
 (results fn tmps).run P w= .ok (.tuple #[.agg cs,r,s]) w:=by
 exact XC
theorem NW{P:Program}{fn:Func}{p q:Tmp}{ty:TypeId}(h:fn.results=#[.cell p ty,.tmp q])(tmps:Array Value)(w:World)(g:Nat)(t:TypeId)(cs:Array Value)(fr:Nat×Nat)(d:TypeDesc)(r:Value)
 (hp:tmps.getD p undef= zq g) (hq:tmps.getD q undef=r) (A:w.heap[g]? =some (.cells cs t fr))
 (hu:P.underlying ty=some d) (hd:(match d with| .struct _| .array _ _=>true|_=>false)=true) (hi:(P.info? ty).map (·.size)=some cs.size):
 (results fn tmps).run P w= .ok (.tuple #[.agg cs,r]) w:=by
 exact XB
def NX(x:World)(N:Nat)(a b c d e:Value):World:=((((x.setCell ⟨N,0,none⟩ a).setCell ⟨N,1,none⟩ b).setCell ⟨N,2,none⟩ c).setCell ⟨N,3,none⟩ d).setCell ⟨N,4,none⟩ e
theorem mX{x:World}{out:Array Value}(h3:x.heap[N]? =some (.cells out t (0,0)))(W:out.size=5)(a b c d e:Value):(NX x N a b c d e).heap[N]? =some (.cells #[a,b,c,d,e] t (0,0)):=by
 unfold NX;rw[bm _ _ 4 _ _ _ (bm _ _ 3 _ _ _ (bm _ _ 2 _ _ _ (bm _ _ 1 _ _ _ (bm _ _ 0 _ _ _ h3))))]
 match out,W with
 |⟨[_,_,_,_,_]⟩,_=>rfl
theorem ET{x:World}{out:Array Value}(h3:x.heap[N]? =some (.cells out t (0,0)))(ht:t≠te)(a b c d e:Value):iZ te x (NX x N a b c d e):=by
 have k1:=bm _ _ 0 _ _ a h3;have k2:=bm _ _ 1 _ _ b k1;have k3:=bm _ _ 2 _ _ c k2;have k4:=bm _ _ 3 _ _ d k3;exact(((iZ.CT h3 ht).trans (iZ.CT k1 ht)).trans ((iZ.CT k2 ht).trans (iZ.CT k3 ht))).trans (iZ.CT k4 ht)
theorem iI{x:World}(h:Below B w x)(hN:B≤N)(a b c d e:Value):Below B w (NX x N a b c d e):=
 ((((h.setCell hN a).setCell hN b).setCell hN c).setCell hN d).setCell hN e
theorem aiF(h:Rd w size Y n cs)(hm:m≤n):Rd w size Y m (cs.take (m*size)):=by
 have Sj:=uh size hm;exact Xn
theorem YQ(h:Rd w size Y n cs)(hm:m≤n):Rd w size (Y.map (·.add (m*size))) (n - m) (cs.drop (m*size)):=by
 exact YP
theorem aiG(l:List UInt8)(k:Nat):bv (l.take k)=(bv l).take k:=by simp[bv,List.map_take]
theorem YR(l:List UInt8)(k:Nat):bv (l.drop k)=(bv l).drop k:=by simp[bv,List.map_drop]
theorem Hl{c:Nat}{l:List UInt8}(h:Bs w (.slice La n c) l)(hj:j≤l.length):
 ∃Lx,(∀w',(Instr.slice 22 (.slice La n c) (some (E (j:Int))) none none).run prog w'= .ok (.slice Lx (n - j) (c - j)) w')∧Bs w (.slice Lx (n - j) (c - j)) (l.drop j):=by
 obtain⟨Y,c',e,q1,q2,q3,q4⟩:=h;simp only[Value.slice.injEq] at e;obtain⟨rfl,rfl,rfl⟩:=e;have he:prog.elem 22=5:=by simp[Program.elem,underlying22]
 obtain⟨i,cp,hz,dJ,fV⟩:=info_parts Tryz.cP;have bk:(l.drop j).length=l.length - j:=dw;refine⟨if c=j then La else La.map (·.add (j*1)),fun w=> ?_,_,_,by rw[bk],?_,by omega,by omega,fun F=> ?_⟩
 ·rw[run_slice_l (P:=prog) w _ La l.length c (by rw[he];exact underlying22) .i64 j (by omega) (by omega),he];simp[sizeOf,typeInfo,cp,dJ,sliced]
 ·rw[bk];by_cases vB:c=j
  ·have h0:l.length - j=0:=by omega
   have h1:l.drop j= []:=drop_of_length_le (by omega);rw[h0,h1];exact Rd.nil _ _ _
  ·rw[if_neg vB];have:=YQ (m:=j) q1 hj;rw[Nat.mul_one,←YR] at this;rw[Nat.mul_one];exact this
 by_cases vB:c=j
 ·omega
 rw[if_neg vB] at F;have:=q4 (by simpa using F)
 omega
theorem YT{c lo hi:Nat}{l:List UInt8}(h:Bs w (.slice La n c) l)(h1:lo≤hi)(h2:hi≤l.length):
 ∃Lx,(∀w',(Instr.slice 22 (.slice La n c) (some (E (lo:Int))) (some (E (hi:Int))) none).run prog w'= .ok (.slice Lx (hi - lo) (c - lo)) w')∧Bs w (.slice Lx (hi - lo) (c - lo)) ((l.take hi).drop lo):=by
 obtain⟨Y,c',e,q1,q2,q3,q4⟩:=h;simp only[Value.slice.injEq] at e;obtain⟨rfl,rfl,rfl⟩:=e;have he:prog.elem 22=5:=by simp[Program.elem,underlying22]
 obtain⟨i,cp,hz,dJ,fV⟩:=info_parts Tryz.cP;have bk:((l.take hi).drop lo).length=hi - lo:=by rw[dw,bS];omega
 refine⟨if c=lo then La else La.map (·.add (lo*1)),fun w=> ?_,_,_,by rw[bk],?_,by omega,by omega,fun F=> ?_⟩
 ·rw[run_slice_lh (P:=prog) w _ La l.length c (by rw[he];exact underlying22) .i64 .i64 lo hi (by omega) (by omega) (by omega),he];simp[sizeOf,typeInfo,cp,dJ,sliced]
 ·rw[bk];by_cases vB:c=lo
  ·have h0:hi - lo=0:=by omega
   have h1:(l.take hi).drop lo= []:=drop_of_length_le (by rw[bS];omega);rw[h0,h1];exact Rd.nil _ _ _
  ·rw[if_neg vB];have h3:=aiF (m:=hi) q1 h2;have:=YQ (m:=lo) h3 h1;rw[Nat.mul_one,Nat.mul_one,←aiG,←YR] at this;rw[Nat.mul_one];exact this
 by_cases vB:c=lo
 ·omega
 rw[if_neg vB] at F;have:=q4 (by simpa using F)
 omega
theorem aiH(v:Value)(l:List UInt8)(w:World)(hv:Bs w v l)(hl:l.length≤140737488355328)(R:ak)
 (I:∀Y c w',w'.ownsRow w 5 1 (.slice Y l.length c) l.length (bv l)→Below w w w'→R (.returned (.slice Y l.length c)) w'):
 Calls prog 139 #[v] w R:=by
 exact XD
theorem Hm(d:Value)(p:Pr)(r:Bool)(hr:decide (dU p=0)=r)(w:World)(R:ak)
 (I:∀w',Below w w w'→R (.returned (.bool r)) w'):
 Calls prog 215 #[.agg (bL p d)] w R:=by
 obtain⟨id,n,t,q,dd⟩:=p;have HR:=Z I;clear I;have c_:=aD w (.cells #[E id,E n,.string (str t),.string (str q),d] 147);simp only at*;by_cases hid:id=11∨id=33∨id=35∨id=39
 ·have e:r=(n != 0):=by
   rw[←hr];have G:aS id≠1:=by rcases hid with h|h|h|h<;>subst h<;>decide
   unfold dU;simp only[G,false_and,if_false];by_cases h0:n=0
   ·subst h0;rcases hid with h|h|h|h<;>subst h<;>rfl
   simp[h0]
  clear hr;subst e;rcases hid with h|h|h|h<;>subst h
  all_goals
   go_enter func215,ntmps215;go_wp2;exact HR.O _ c_
 have h1:¬id=11:=fun h=>hid (.inl h);have h2:¬id=33:=fun h=>hid (.inr (.inl h));have h3:¬id=35:=fun h=>hid (.inr (.inr (.inl h)));have h4:¬id=39:=fun h=>hid (.inr (.inr (.inr h)));clear hid;obtain⟨k,G⟩:=ai (aS id);have e:decide (¬(k=1∧1<n))=r:=by
  rw[←hr,←G];unfold dU;simp only[h1,h2,h3,h4,or_self,false_and,if_false];by_cases J:aS id=1∧1<n
  ·rw[if_pos J];simp[J]
  rw[if_neg J];simp only[J,not_false_eq_true,decide_true]
 have HK:=Z G;have HE:=Z e;clear e hr G;by_cases iS:k=1
 ·subst iS;by_cases hn:n≤1
  ·obtain rfl:r=true:=by rw[←HE.O];exact eN fun h=>by omega
   go_enter func215,ntmps215;go_wp2_with (go_at_call 189;go_must(refine j_ id 1 HK.O _ _ ?_);intro w1 aw;have aO:=bG c_ aw;have c0:=cell_later aw (D 1 (aH w (.cells #[E id,E n,.string (str t),.string (str q),d] 147))));exact HR.O _ aO
  ·obtain rfl:r=false:=by rw[←HE.O];exact dN fun h=>h ⟨rfl,by omega⟩
   go_enter func215,ntmps215;go_wp2_with (go_at_call 189;go_must(refine j_ id 1 HK.O _ _ ?_);intro w1 aw;have aO:=bG c_ aw;have c0:=cell_later aw (D 1 (aH w (.cells #[E id,E n,.string (str t),.string (str q),d] 147))));have h9:=HR.O _ aO;rw[show false=decide (n≤1) from(dN (by omega)).symm] at h9;exact h9
 obtain rfl:r=true:=by rw[←HE.O];exact eN fun h=>iS h.1
 have eB:¬(k:Int)=1:=by omega
 go_enter func215,ntmps215;go_wp2_with (go_at_call 189;go_must(refine j_ id k HK.O _ _ ?_);intro w1 aw;have aO:=bG c_ aw);exact HR.O _ aO
theorem YU(id:Int)(G:aS id=1)(b:List UInt8):eK id b=if b.length<1 then none else some (⟨id,cX (b.take 1),[],[],[]⟩,1):=by unfold eK;rw[G];rfl
theorem Sk{P:Prop}(h:P:=by
 refine bodyPost_ret (pF rfl _ _ w 147 (gj id) (0,0) _ _ _ rfl rfl rfl (mX N2.O rfl _ _ _ _ _) underlying147 rfl (by kernel_rfl)) rfl ?_;exact HF.O _ _ _ _ _ _ _ _ _ (by first|rfl|trivial) rfl (iI bC bj _ _ _ _ _)):P:=h
theorem Sl{P:Prop}(h:P:=by
 refine bodyPost_ret (pF rfl _ _ w 147 (vd id (wrap64 (x:Int))) (0,0) _ _ _ rfl rfl rfl (mX (bm _ _ 1 _ _ (.int .i64 (wrap64 (x:Int))) N2.O) rfl _ _ _ _ _) underlying147 rfl (by kernel_rfl)) rfl ?_;exact lL.O _ (bO _ _ _ _) (iI (bC.setCell bj _) bj _ _ _ _ _)):P:=h
theorem aiI(id:Int)(G:aS id=1)(v:Value)(b:List UInt8)(r:Option (Pr×Int))(hr:eK id b=r)(w:World)(hv:Bs w v b)(hT:dy w)(R:ak)
 (I:∀p u d w',r=some (p,u)→w'.ownsRow w 5 1 d p.data.length (bv p.data)→Below w w w'→R (.returned (.tuple #[.agg (bL p d),E u,.bool true])) w')
 (hF:∀n s t a m c u q w',r=none→q=false→Below w w w'→R (.returned (.tuple #[.agg #[E id,E n,.string s,.string t,.slice a m c],E u,.bool q])) w'):
 Calls prog 212 #[E id,v] w R:=by
 rw[YU id G] at hr;obtain⟨HR,HF,HK,HT,HV⟩:=jq I hF G hT hv;obtain⟨ba,bc,rfl,_,ep,wL,_⟩:=_root_.id hv;clear I hF G hT hv;by_cases W:b.length<1
 ·have nC:(b.length:Int)<1:=by omega
  obtain rfl:r=none:=by rw[←hr,if_pos W]
  clear hr;have N0:Hid ((w.alloc (.cells (gj id) 147)).heap[w.heap.size]? =some (.cells (gj id) 147)):=Z (aH w _);have c_:=aD w (.cells (gj id) 147);go_enter func212,ntmps212;go_wp2_with (first
   |(go_at_call 189;go_must(refine j_ id 1 HK.O _ _ ?_);intro w1 aw;have nr:=cj N0.O aw;have e0:=D 0 nr;have e1:=D 1 nr;have e2:=D 2 nr;have e3:=D 3 nr;have e4:=D 4 nr;have f0:=aC nr 0;have f1:=aC nr 1;have f2:=aC nr 2;have f3:=aC nr 3;have f4:=aC nr 4;have N1:=Z nr;clear nr;have aO:=bG c_ aw;have ct:=Z aw;clear aw)
   |(go_at_call 189;go_must(refine j_ id 1 HK.O _ _ ?_);intro w2 aj;clear e0 e1 e2 e3 e4 f0 f1 f2 f3 f4;have nr:=cj N1.O aj;have e0:=D 0 nr;have e1:=D 1 nr;have e2:=D 2 nr;have e3:=D 3 nr;have e4:=D 4 nr;have f0:=aC nr 0;have f1:=aC nr 1;have f2:=aC nr 2;have f3:=aC nr 3;have f4:=aC nr 4;have N2:=Z nr;clear nr;have bC:=bG aO aj;clear aj))
  exact Sk
 have nC:¬(b.length:Int)<1:=by omega
 have j':(1:Int)≤(bc:Int):=by omega
 have gM:=(BJ b 1 ⟨by omega,by omega⟩ (by omega)).1;obtain⟨x,F⟩:=ai (cX (b.take 1));rw[if_neg W,F] at hr;rw[F] at gM;have ew:wrap64 (x:Int)=(x:Int):=by unfold wrap64;omega
 have cD:∀w',w'.ownsRow w 5 1 (.slice none 0 0) 0 (bv [])→Below w w w'→R (.returned (.tuple #[.agg (vd id (wrap64 (x:Int))),E 1,.bool true])) w':=fun w' h1 h2=>by
  rw[ew];exact HR.O ⟨id,x,[],[],[]⟩ 1 _ w' hr.symm h1 h2
 have lL:=Z cD;have HX:=Z F;have hcut:=HV.O.cut (k:=1) (by omega);have HC:=Z hcut;clear F hcut hr gM ew cD;have N0:Hid ((w.alloc (.cells (gj id) 147)).heap[w.heap.size]? =some (.cells (gj id) 147)):=Z (aH w _);have c_:=aD w (.cells (gj id) 147);go_enter func212,ntmps212;go_wp2_with (first
  |(go_at_call 189;go_must(refine j_ id 1 HK.O _ _ ?_);intro w1 aw;have nr:=cj N0.O aw;have e0:=D 0 nr;have e1:=D 1 nr;have e2:=D 2 nr;have e3:=D 3 nr;have e4:=D 4 nr;have f0:=aC nr 0;have f1:=aC nr 1;have f2:=aC nr 2;have f3:=aC nr 3;have f4:=aC nr 4;have N1:=Z nr;clear nr;have aO:=bG c_ aw;have ct:=Z aw;clear aw)
  |(go_at_call 189;go_must(refine j_ id 1 HK.O _ _ ?_);intro w2 aj;clear e0 e1 e2 e3 e4 f0 f1 f2 f3 f4;have nr:=cj N1.O aj;have e0:=D 0 nr;have e1:=D 1 nr;have e2:=D 2 nr;have e3:=D 3 nr;have e4:=D 4 nr;have f0:=aC nr 0;have f1:=aC nr 1;have f2:=aC nr 2;have f3:=aC nr 3;have f4:=aC nr 4;have N2:=Z nr;clear nr;have bC:=bG aO aj;clear aj)
  |(go_at_call 109;go_must(refine get_at _ _ x HX.O _ (HC.O.below bC) _ ?_)))
 exact Sl
theorem YV(id:Int)(G:aS id=2)(b:List UInt8):eK id b=if b.length<2 then none else some (⟨id,cX (b.take 2),[],[],[]⟩,2):=by unfold eK;rw[G];rfl
theorem aiJ(id:Int)(G:aS id=2)(v:Value)(b:List UInt8)(r:Option (Pr×Int))(hr:eK id b=r)(w:World)(hv:Bs w v b)(hT:dy w)(R:ak)
 (I:∀p u d w',r=some (p,u)→w'.ownsRow w 5 1 d p.data.length (bv p.data)→Below w w w'→R (.returned (.tuple #[.agg (bL p d),E u,.bool true])) w')
 (hF:∀n s t a m c u q w',r=none→q=false→Below w w w'→R (.returned (.tuple #[.agg #[E id,E n,.string s,.string t,.slice a m c],E u,.bool q])) w'):
 Calls prog 212 #[E id,v] w R:=by
 rw[YV id G] at hr;obtain⟨HR,HF,HK,HT,HV⟩:=jq I hF G hT hv;obtain⟨ba,bc,rfl,_,ep,wL,_⟩:=_root_.id hv;clear I hF G hT hv;by_cases W:b.length<2
 ·have nC:(b.length:Int)<2:=by omega
  obtain rfl:r=none:=by rw[←hr,if_pos W]
  clear hr;have N0:Hid ((w.alloc (.cells (gj id) 147)).heap[w.heap.size]? =some (.cells (gj id) 147)):=Z (aH w _);have c_:=aD w (.cells (gj id) 147);go_enter func212,ntmps212;go_wp2_with (first
   |(go_at_call 189;go_must(refine j_ id 2 HK.O _ _ ?_);intro w1 aw;have nr:=cj N0.O aw;have e0:=D 0 nr;have e1:=D 1 nr;have e2:=D 2 nr;have e3:=D 3 nr;have e4:=D 4 nr;have f0:=aC nr 0;have f1:=aC nr 1;have f2:=aC nr 2;have f3:=aC nr 3;have f4:=aC nr 4;have N1:=Z nr;clear nr;have aO:=bG c_ aw;have ct:=Z aw;clear aw)
   |(go_at_call 189;go_must(refine j_ id 2 HK.O _ _ ?_);intro w2 aj;clear e0 e1 e2 e3 e4 f0 f1 f2 f3 f4;have nr:=cj N1.O aj;have e0:=D 0 nr;have e1:=D 1 nr;have e2:=D 2 nr;have e3:=D 3 nr;have e4:=D 4 nr;have f0:=aC nr 0;have f1:=aC nr 1;have f2:=aC nr 2;have f3:=aC nr 3;have f4:=aC nr 4;have N2:=Z nr;clear nr;have bC:=bG aO aj;clear aj))
  exact Sk
 have nC:¬(b.length:Int)<2:=by omega
 have j':(2:Int)≤(bc:Int):=by omega
 have gM:=(BJ b 2 ⟨by omega,by omega⟩ (by omega)).1;obtain⟨x,F⟩:=ai (cX (b.take 2));rw[if_neg W,F] at hr;rw[F] at gM;have ew:wrap64 (x:Int)=(x:Int):=by unfold wrap64;omega
 have cD:∀w',w'.ownsRow w 5 1 (.slice none 0 0) 0 (bv [])→Below w w w'→R (.returned (.tuple #[.agg (vd id (wrap64 (x:Int))),E 2,.bool true])) w':=fun w' h1 h2=>by
  rw[ew];exact HR.O ⟨id,x,[],[],[]⟩ 2 _ w' hr.symm h1 h2
 have lL:=Z cD;have HX:=Z F;have hcut:=HV.O.cut (k:=2) (by omega);have HC:=Z hcut;clear F hcut hr gM ew cD;have N0:Hid ((w.alloc (.cells (gj id) 147)).heap[w.heap.size]? =some (.cells (gj id) 147)):=Z (aH w _);have c_:=aD w (.cells (gj id) 147);go_enter func212,ntmps212;go_wp2_with (first
  |(go_at_call 189;go_must(refine j_ id 2 HK.O _ _ ?_);intro w1 aw;have nr:=cj N0.O aw;have e0:=D 0 nr;have e1:=D 1 nr;have e2:=D 2 nr;have e3:=D 3 nr;have e4:=D 4 nr;have f0:=aC nr 0;have f1:=aC nr 1;have f2:=aC nr 2;have f3:=aC nr 3;have f4:=aC nr 4;have N1:=Z nr;clear nr;have aO:=bG c_ aw;have ct:=Z aw;clear aw)
  |(go_at_call 189;go_must(refine j_ id 2 HK.O _ _ ?_);intro w2 aj;clear e0 e1 e2 e3 e4 f0 f1 f2 f3 f4;have nr:=cj N1.O aj;have e0:=D 0 nr;have e1:=D 1 nr;have e2:=D 2 nr;have e3:=D 3 nr;have e4:=D 4 nr;have f0:=aC nr 0;have f1:=aC nr 1;have f2:=aC nr 2;have f3:=aC nr 3;have f4:=aC nr 4;have N2:=Z nr;clear nr;have bC:=bG aO aj;clear aj)
  |(go_at_call 109;go_must(refine get_at _ _ x HX.O _ (HC.O.below bC) _ ?_)))
 exact Sl
theorem YW(id:Int)(G:aS id=3)(b:List UInt8):eK id b=if b.length<4 then none else some (⟨id,cX (b.take 4),[],[],[]⟩,4):=by unfold eK;rw[G];rfl
theorem aiK(id:Int)(G:aS id=3)(v:Value)(b:List UInt8)(r:Option (Pr×Int))(hr:eK id b=r)(w:World)(hv:Bs w v b)(hT:dy w)(R:ak)
 (I:∀p u d w',r=some (p,u)→w'.ownsRow w 5 1 d p.data.length (bv p.data)→Below w w w'→R (.returned (.tuple #[.agg (bL p d),E u,.bool true])) w')
 (hF:∀n s t a m c u q w',r=none→q=false→Below w w w'→R (.returned (.tuple #[.agg #[E id,E n,.string s,.string t,.slice a m c],E u,.bool q])) w'):
 Calls prog 212 #[E id,v] w R:=by
 rw[YW id G] at hr;obtain⟨HR,HF,HK,HT,HV⟩:=jq I hF G hT hv;obtain⟨ba,bc,rfl,_,ep,wL,_⟩:=_root_.id hv;clear I hF G hT hv;by_cases W:b.length<4
 ·have nC:(b.length:Int)<4:=by omega
  obtain rfl:r=none:=by rw[←hr,if_pos W]
  clear hr;have N0:Hid ((w.alloc (.cells (gj id) 147)).heap[w.heap.size]? =some (.cells (gj id) 147)):=Z (aH w _);have c_:=aD w (.cells (gj id) 147);go_enter func212,ntmps212;go_wp2_with (first
   |(go_at_call 189;go_must(refine j_ id 3 HK.O _ _ ?_);intro w1 aw;have nr:=cj N0.O aw;have e0:=D 0 nr;have e1:=D 1 nr;have e2:=D 2 nr;have e3:=D 3 nr;have e4:=D 4 nr;have f0:=aC nr 0;have f1:=aC nr 1;have f2:=aC nr 2;have f3:=aC nr 3;have f4:=aC nr 4;have N1:=Z nr;clear nr;have aO:=bG c_ aw;have ct:=Z aw;clear aw)
   |(go_at_call 189;go_must(refine j_ id 3 HK.O _ _ ?_);intro w2 aj;clear e0 e1 e2 e3 e4 f0 f1 f2 f3 f4;have nr:=cj N1.O aj;have e0:=D 0 nr;have e1:=D 1 nr;have e2:=D 2 nr;have e3:=D 3 nr;have e4:=D 4 nr;have f0:=aC nr 0;have f1:=aC nr 1;have f2:=aC nr 2;have f3:=aC nr 3;have f4:=aC nr 4;have N2:=Z nr;clear nr;have bC:=bG aO aj;clear aj))
  exact Sk
 have nC:¬(b.length:Int)<4:=by omega
 have j':(4:Int)≤(bc:Int):=by omega
 have gM:=(BJ b 4 ⟨by omega,by omega⟩ (by omega)).1;obtain⟨x,F⟩:=ai (cX (b.take 4));rw[if_neg W,F] at hr;rw[F] at gM;have ew:wrap64 (x:Int)=(x:Int):=by unfold wrap64;omega
 have cD:∀w',w'.ownsRow w 5 1 (.slice none 0 0) 0 (bv [])→Below w w w'→R (.returned (.tuple #[.agg (vd id (wrap64 (x:Int))),E 4,.bool true])) w':=fun w' h1 h2=>by
  rw[ew];exact HR.O ⟨id,x,[],[],[]⟩ 4 _ w' hr.symm h1 h2
 have lL:=Z cD;have HX:=Z F;have hcut:=HV.O.cut (k:=4) (by omega);have HC:=Z hcut;clear F hcut hr gM ew cD;have N0:Hid ((w.alloc (.cells (gj id) 147)).heap[w.heap.size]? =some (.cells (gj id) 147)):=Z (aH w _);have c_:=aD w (.cells (gj id) 147);go_enter func212,ntmps212;go_wp2_with (first
  |(go_at_call 189;go_must(refine j_ id 3 HK.O _ _ ?_);intro w1 aw;have nr:=cj N0.O aw;have e0:=D 0 nr;have e1:=D 1 nr;have e2:=D 2 nr;have e3:=D 3 nr;have e4:=D 4 nr;have f0:=aC nr 0;have f1:=aC nr 1;have f2:=aC nr 2;have f3:=aC nr 3;have f4:=aC nr 4;have N1:=Z nr;clear nr;have aO:=bG c_ aw;have ct:=Z aw;clear aw)
  |(go_at_call 189;go_must(refine j_ id 3 HK.O _ _ ?_);intro w2 aj;clear e0 e1 e2 e3 e4 f0 f1 f2 f3 f4;have nr:=cj N1.O aj;have e0:=D 0 nr;have e1:=D 1 nr;have e2:=D 2 nr;have e3:=D 3 nr;have e4:=D 4 nr;have f0:=aC nr 0;have f1:=aC nr 1;have f2:=aC nr 2;have f3:=aC nr 3;have f4:=aC nr 4;have N2:=Z nr;clear nr;have bC:=bG aO aj;clear aj)
  |(go_at_call 109;go_must(refine get_at _ _ x HX.O _ (HC.O.below bC) _ ?_)))
 exact Sl
theorem YX(id:Int)(G:aS id=4)(b:List UInt8):eK id b=if (dY b).2.2=0 then some ((⟨id,(dY b).1,[],[],[]⟩:Pr),((dY b).2.1:Int)) else none:=by unfold eK;rw[G];rfl
theorem aiL(id:Int)(G:aS id=4)(v:Value)(b:List UInt8)(r:Option (Pr×Int))(hr:eK id b=r)(w:World)(hv:Bs w v b)(hT:dy w)(R:ak)
 (I:∀p u d w',r=some (p,u)→w'.ownsRow w 5 1 d p.data.length (bv p.data)→Below w w w'→R (.returned (.tuple #[.agg (bL p d),E u,.bool true])) w')
 (hF:∀n s t a m c u q w',r=none→q=false→Below w w w'→R (.returned (.tuple #[.agg #[E id,E n,.string s,.string t,.slice a m c],E u,.bool q])) w'):
 Calls prog 212 #[E id,v] w R:=by
 rw[YX id G] at hr;obtain⟨HR,HF,HK,HT,HV⟩:=jq I hF G hT hv;obtain⟨ba,bc,rfl,_,ep,wL,_⟩:=_root_.id hv;clear I hF G hT hv;obtain⟨⟨x,y,z⟩,A⟩:∃g,dY b=g:=⟨_,rfl⟩
 rw[A] at hr;simp only at hr;have HG:=Z A;have gu:=Z hr;clear A hr;have N0:Hid ((w.alloc (.cells (gj id) 147)).heap[w.heap.size]? =some (.cells (gj id) 147)):=Z (aH w _);have c_:=aD w (.cells (gj id) 147);go_enter func212,ntmps212;go_wp2_with (first
  |(go_at_call 189;go_must(refine j_ id 4 HK.O _ _ ?_);intro w1 aw;have nr:=cj N0.O aw;have e0:=D 0 nr;have e1:=D 1 nr;have e2:=D 2 nr;have e3:=D 3 nr;have e4:=D 4 nr;have f0:=aC nr 0;have f1:=aC nr 1;have f2:=aC nr 2;have f3:=aC nr 3;have f4:=aC nr 4;have N1:=Z nr;clear nr;have aO:=bG c_ aw;have ct:=Z aw;clear aw)
  |(go_at_call 190;go_must(refine vA _ b x y z HG.O _ (HV.O.below aO) _ ?_)))
 refine bodyPost_ret (pF rfl _ _ w 147 (vd id (x:Int)) (0,0) _ _ _ rfl rfl rfl (mX (bm _ _ 1 _ _ (E (x:Int)) N1.O) rfl _ _ _ _ _) underlying147 rfl (by kernel_rfl)) rfl ?_;by_cases hz:z=0
 ·subst hz;exact HR.O ⟨id,x,[],[],[]⟩ y (.slice none 0 0) _ (by have:=gu.O;rw[if_pos rfl] at this;exact this.symm) (bO _ _ _ _) (iI (aO.setCell bj _) bj _ _ _ _ _)
 exact HF.O _ _ _ _ _ _ _ _ _ (by have:=gu.O;rw[if_neg hz] at this;exact this.symm) (by simp[hz]) (iI (aO.setCell bj _) bj _ _ _ _ _)
theorem YY(id:Int)(G:aS id=5)(b:List UInt8):eK id b=if (dp b).2.2=0 then some (⟨id,0,(dp b).1,[],[]⟩,(dp b).2.1) else none:=by unfold eK;rw[G];rfl
theorem aiM(id:Int)(G:aS id=5)(v:Value)(b:List UInt8)(r:Option (Pr×Int))(hr:eK id b=r)(w:World)(hv:Bs w v b)(hT:dy w)(R:ak)
 (I:∀p u d w',r=some (p,u)→w'.ownsRow w 5 1 d p.data.length (bv p.data)→Below w w w'→R (.returned (.tuple #[.agg (bL p d),E u,.bool true])) w')
 (hF:∀n s t a m c u q w',r=none→q=false→Below w w w'→R (.returned (.tuple #[.agg #[E id,E n,.string s,.string t,.slice a m c],E u,.bool q])) w'):
 Calls prog 212 #[E id,v] w R:=by
 rw[YY id G] at hr;obtain⟨HR,HF,HK,HT,HV⟩:=jq I hF G hT hv;obtain⟨ba,bc,rfl,_,ep,wL,_⟩:=_root_.id hv;clear I hF G hT hv;obtain⟨⟨S,u,z⟩,A⟩:∃g,dp b=g:=⟨_,rfl⟩
 rw[A] at hr;simp only at hr;have HG:=Z A;have gu:=Z hr;clear A hr;have N0:Hid ((w.alloc (.cells (gj id) 147)).heap[w.heap.size]? =some (.cells (gj id) 147)):=Z (aH w _);have c_:=aD w (.cells (gj id) 147);go_enter func212,ntmps212;go_wp2_with (first
  |(go_at_call 189;go_must(refine j_ id 5 HK.O _ _ ?_);intro w1 aw;have nr:=cj N0.O aw;have e0:=D 0 nr;have e1:=D 1 nr;have e2:=D 2 nr;have e3:=D 3 nr;have e4:=D 4 nr;have f0:=aC nr 0;have f1:=aC nr 1;have f2:=aC nr 2;have f3:=aC nr 3;have f4:=aC nr 4;have N1:=Z nr;clear nr;have aO:=bG c_ aw;have ct:=Z aw;clear aw)
  |(go_at_call 108;go_must(refine De _ b S u z HG.O _ (HV.O.below aO) (HT.O.below aO) _ ?_);intro w2 aj;clear e0 e1 e2 e3 e4 f0 f1 f2 f3 f4;have nr:=cj N1.O aj;have e0:=D 0 nr;have e1:=D 1 nr;have e2:=D 2 nr;have e3:=D 3 nr;have e4:=D 4 nr;have f0:=aC nr 0;have f1:=aC nr 1;have f2:=aC nr 2;have f3:=aC nr 3;have f4:=aC nr 4;have N2:=Z nr;clear nr;have bC:=bG aO aj;clear aj))
 refine bodyPost_ret (pF rfl _ _ w 147 (Er id S) (0,0) _ _ _ rfl rfl rfl (mX (bm _ _ 2 _ _ (.string (str S)) N2.O) rfl _ _ _ _ _) underlying147 rfl (by kernel_rfl)) rfl ?_;by_cases hz:z=0
 ·subst hz;exact HR.O ⟨id,0,S,[],[]⟩ u (.slice none 0 0) _ (by have:=gu.O;rw[if_pos rfl] at this;exact this.symm) (bO _ _ _ _) (iI (bC.setCell bj _) bj _ _ _ _ _)
 exact HF.O _ _ _ _ _ _ _ _ _ (by have:=gu.O;rw[if_neg hz] at this;exact this.symm) (by simp[hz]) (iI (bC.setCell bj _) bj _ _ _ _ _)
theorem YZ(id:Int)(G:aS id=6)(b:List UInt8):eK id b=if (eh b).2.2=0 then some (⟨id,0,[],[],(eh b).1⟩,(eh b).2.1) else none:=by unfold eK;rw[G];rfl
theorem aiN(id:Int)(G:aS id=6)(v:Value)(b:List UInt8)(r:Option (Pr×Int))(hr:eK id b=r)(w:World)(hv:Bs w v b)(hT:dy w)(R:ak)
 (I:∀p u d w',r=some (p,u)→w'.ownsRow w 5 1 d p.data.length (bv p.data)→Below w w w'→R (.returned (.tuple #[.agg (bL p d),E u,.bool true])) w')
 (hF:∀n s t a m c u q w',r=none→q=false→Below w w w'→R (.returned (.tuple #[.agg #[E id,E n,.string s,.string t,.slice a m c],E u,.bool q])) w'):
 Calls prog 212 #[E id,v] w R:=by
 rw[YZ id G] at hr;obtain⟨HR,HF,HK,HT,HV⟩:=jq I hF G hT hv;obtain⟨ba,bc,rfl,_,ep,wL,_⟩:=_root_.id hv;clear I hF G hT hv;obtain⟨⟨S,u,z⟩,A⟩:∃g,eh b=g:=⟨_,rfl⟩
 rw[A] at hr;simp only at hr;have HG:=Z A;have gu:=Z hr;clear A hr;have N0:Hid ((w.alloc (.cells (gj id) 147)).heap[w.heap.size]? =some (.cells (gj id) 147)):=Z (aH w _);have c_:=aD w (.cells (gj id) 147);go_enter func212,ntmps212;go_wp2_with (first
  |(go_at_call 189;go_must(refine j_ id 6 HK.O _ _ ?_);intro w1 aw;have nr:=cj N0.O aw;have e0:=D 0 nr;have e1:=D 1 nr;have e2:=D 2 nr;have e3:=D 3 nr;have e4:=D 4 nr;have f0:=aC nr 0;have f1:=aC nr 1;have f2:=aC nr 2;have f3:=aC nr 3;have f4:=aC nr 4;have N1:=Z nr;clear nr;have aO:=bG c_ aw;have ct:=Z aw;clear aw)
  |(go_at_call 112;go_must(refine EN _ b S u z HG.O _ (HV.O.below aO) _ ?_);intro da dc w2 dL aj;clear e0 e1 e2 e3 e4 f0 f1 f2 f3 f4;have nr:=cj N1.O aj;have e0:=D 0 nr;have e1:=D 1 nr;have e2:=D 2 nr;have e3:=D 3 nr;have e4:=D 4 nr;have f0:=aC nr 0;have f1:=aC nr 1;have f2:=aC nr 2;have f3:=aC nr 3;have f4:=aC nr 4;have N2:=Z nr;clear nr;have bC:=bG aO aj;have ix:=cm (jE:=w.heap.size) dL aO.size;clear aj dL))
 refine bodyPost_ret (pF rfl _ _ w 147 (GW id da S dc) (0,0) _ _ _ rfl rfl rfl (mX (bm _ _ 4 _ _ (.slice da S.length dc) N2.O) rfl _ _ _ _ _) underlying147 rfl (by kernel_rfl)) rfl ?_;by_cases hz:z=0
 ·subst hz;exact HR.O ⟨id,0,[],[],S⟩ u (.slice da S.length dc) _ (by have:=gu.O;rw[if_pos rfl] at this;exact this.symm) (ET (bm _ _ 4 _ _ _ N2.O) (by decide) _ _ _ _ _ _ _ _ _ (iZ.CT N2.O (by decide) _ _ _ _ ix)) (iI (bC.setCell bj _) bj _ _ _ _ _)
 exact HF.O _ _ _ _ _ _ _ _ _ (by have:=gu.O;rw[if_neg hz] at this;exact this.symm) (by simp[hz]) (iI (bC.setCell bj _) bj _ _ _ _ _)
theorem Y0(id:Int)(G:aS id=7)(b:List UInt8):eK id b=if (dp b).2.2=0 then (if (dp (b.drop (dp b).2.1.toNat)).2.2=0 then some (⟨id,0,(dp b).1,(dp (b.drop (dp b).2.1.toNat)).1,[]⟩,(dp b).2.1+(dp (b.drop (dp b).2.1.toNat)).2.1) else none) else none:=by unfold eK;rw[G];rfl
theorem aiO(id:Int)(G:aS id=7)(v:Value)(b:List UInt8)(r:Option (Pr×Int))(hr:eK id b=r)(w:World)(hv:Bs w v b)(hT:dy w)(R:ak)
 (I:∀p u d w',r=some (p,u)→w'.ownsRow w 5 1 d p.data.length (bv p.data)→Below w w w'→R (.returned (.tuple #[.agg (bL p d),E u,.bool true])) w')
 (hF:∀n s t a m c u q w',r=none→q=false→Below w w w'→R (.returned (.tuple #[.agg #[E id,E n,.string s,.string t,.slice a m c],E u,.bool q])) w'):
 Calls prog 212 #[E id,v] w R:=by
 rw[Y0 id G] at hr;obtain⟨HR,HF,HK,HT,HV⟩:=jq I hF G hT hv;obtain⟨ba,bc,rfl,_,ep,wL,_⟩:=_root_.id hv;clear I hF G hT hv;obtain⟨⟨S,u,z⟩,A⟩:∃g,dp b=g:=⟨_,rfl⟩
 rw[A] at hr;simp only at hr;have HG:=Z A;by_cases hz:z=0
 ·subst hz;obtain⟨t1,t2,t3,_,_⟩:=BI b S u A;obtain⟨j,rfl⟩:∃j:Nat,u=(j:Int):=⟨S.length+2,by omega⟩
  rw[if_pos rfl,toNat_natCast] at hr;obtain⟨⟨S',u',z'⟩,j9⟩:∃g,dp (b.drop j)=g:=⟨_,rfl⟩
  rw[j9] at hr;simp only at hr;have Sm:=Z j9;have gu:=Z hr;have hj:j≤b.length:=by omega
  have gA:(j:Int)≤70000:=by omega
  obtain⟨La,dm,bU⟩:=Hl HV.O hj;have eW:=Z bU;have hu:z'=0→0≤u'∧u'≤70000:=fun h=>by
   subst h;obtain⟨q1,q2,_⟩:=BI _ S' u' j9
   omega
  have HU:=Z hu;clear A hr j9 t1 t2 t3 bU hu;have N0:Hid ((w.alloc (.cells (gj id) 147)).heap[w.heap.size]? =some (.cells (gj id) 147)):=Z (aH w _);have c_:=aD w (.cells (gj id) 147);go_enter func212,ntmps212;go_wp2_with (first
   |(go_at_call 189;go_must(refine j_ id 7 HK.O _ _ ?_);intro w1 aw;have nr:=cj N0.O aw;have e0:=D 0 nr;have e1:=D 1 nr;have e2:=D 2 nr;have e3:=D 3 nr;have e4:=D 4 nr;have f0:=aC nr 0;have f1:=aC nr 1;have f2:=aC nr 2;have f3:=aC nr 3;have f4:=aC nr 4;have N1:=Z nr;clear nr;have aO:=bG c_ aw;have ct:=Z aw;clear aw)
   |(go_at_call_of 108 (Value.slice ba b.length bc);go_must(refine De _ b S j 0 HG.O _ (HV.O.below aO) (HT.O.below aO) _ ?_);intro w2 aj;clear e0 e1 e2 e3 e4 f0 f1 f2 f3 f4;have nr:=cj N1.O aj;have e0:=D 0 nr;have e1:=D 1 nr;have e2:=D 2 nr;have e3:=D 3 nr;have e4:=D 4 nr;have f0:=aC nr 0;have f1:=aC nr 1;have f2:=aC nr 2;have f3:=aC nr 3;have f4:=aC nr 4;have N2:=Z nr;clear nr;have bC:=bG aO aj;clear aj)
   |(go_at_call 108;have dq:=bC.setCell (p:=⟨w,2,none⟩) bj (.string (str S));go_must(refine De _ (b.drop j) S' u' z' Sm.O _ (eW.O.below dq) (HT.O.below dq) _ ?_);intro w4 ao;clear e0 e1 e2 e3 e4 f0 f1 f2 f3 f4;have nr:=cj (bm _ _ 2 _ _ (.string (str S)) N2.O) ao;have e0:=D 0 nr;have e1:=D 1 nr;have e2:=D 2 nr;have e3:=D 3 nr;have e4:=D 4 nr;have f0:=aC nr 0;have f1:=aC nr 1;have f2:=aC nr 2;have f3:=aC nr 3;have f4:=aC nr 4;have N4:=Z nr;clear nr;have fZ:=bG dq ao;clear ao))
  refine bodyPost_ret (pF rfl _ _ w 147 (GX id S S') (0,0) _ _ _ rfl rfl rfl (mX (bm _ _ 3 _ _ (.string (str S')) N4.O) rfl _ _ _ _ _) underlying147 rfl (by kernel_rfl)) rfl ?_;by_cases hz:z'=0
  ·subst hz;have Nj:=HU.O rfl;have ew:wrap64 ((j:Int)+u')=(j:Int)+u':=by unfold wrap64;omega
   rw[ew];exact HR.O ⟨id,0,S,S',[]⟩ (j+u') (.slice none 0 0) _ (by have:=gu.O;rw[if_pos rfl] at this;exact this.symm) (bO _ _ _ _) (iI (fZ.setCell bj _) bj _ _ _ _ _)
  exact HF.O _ _ _ _ _ _ _ _ _ (by have:=gu.O;rw[if_neg hz] at this;exact this.symm) (by simp[hz]) (iI (fZ.setCell bj _) bj _ _ _ _ _)
 obtain rfl:r=none:=by rw[←hr,if_neg hz]
 clear A hr;have N0:Hid ((w.alloc (.cells (gj id) 147)).heap[w.heap.size]? =some (.cells (gj id) 147)):=Z (aH w _);have c_:=aD w (.cells (gj id) 147);go_enter func212,ntmps212;go_wp2_with (first
  |(go_at_call 189;go_must(refine j_ id 7 HK.O _ _ ?_);intro w1 aw;have nr:=cj N0.O aw;have e0:=D 0 nr;have e1:=D 1 nr;have e2:=D 2 nr;have e3:=D 3 nr;have e4:=D 4 nr;have f0:=aC nr 0;have f1:=aC nr 1;have f2:=aC nr 2;have f3:=aC nr 3;have f4:=aC nr 4;have N1:=Z nr;clear nr;have aO:=bG c_ aw;have ct:=Z aw;clear aw)
  |(go_at_call_of 108 (Value.slice ba b.length bc);go_must(refine De _ b S u z HG.O _ (HV.O.below aO) (HT.O.below aO) _ ?_);intro w2 aj;clear e0 e1 e2 e3 e4 f0 f1 f2 f3 f4;have nr:=cj N1.O aj;have e0:=D 0 nr;have e1:=D 1 nr;have e2:=D 2 nr;have e3:=D 3 nr;have e4:=D 4 nr;have f0:=aC nr 0;have f1:=aC nr 1;have f2:=aC nr 2;have f3:=aC nr 3;have f4:=aC nr 4;have N2:=Z nr;clear nr;have bC:=bG aO aj;clear aj))
 refine bodyPost_ret (pF rfl _ _ w 147 (Er id S) (0,0) _ _ _ rfl rfl rfl (mX (bm _ _ 2 _ _ (.string (str S)) N2.O) rfl _ _ _ _ _) underlying147 rfl (by kernel_rfl)) rfl ?_;exact HF.O _ _ _ _ _ _ _ _ _ (by first|rfl|trivial) (by first|rfl|simp[hz]) (iI (bC.setCell bj _) bj _ _ _ _ _)
theorem JS(id:Int):aS id=0∨aS id=1∨aS id=2∨aS id=3∨aS id=4∨aS id=5∨aS id=6∨aS id=7:=by
 unfold aS
 repeat' split
 all_goals omega
theorem aiP(id:Int)(h:aS id=0):wJ id=0:=by
 unfold aS at h;unfold wJ
 repeat' split at h
 all_goals first|omega|skip
 repeat' split
 all_goals omega
theorem Sn(h:ch id wh=true):aS id≠0:=by
 intro h0;have:=aiP id h0;unfold ch at h;rw[this] at h;cases h
theorem Y1(id:Int)(G:aS id≠0)(v:Value)(b:List UInt8)(r:Option (Pr×Int))(hr:eK id b=r)(w:World)(hv:Bs w v b)(hT:dy w)(R:ak)
 (I:∀p u d w',r=some (p,u)→w'.ownsRow w 5 1 d p.data.length (bv p.data)→Below w w w'→R (.returned (.tuple #[.agg (bL p d),E u,.bool true])) w')
 (hF:∀n s t a m c u q w',r=none→q=false→Below w w w'→R (.returned (.tuple #[.agg #[E id,E n,.string s,.string t,.slice a m c],E u,.bool q])) w'):
 Calls prog 212 #[E id,v] w R:=by
 rcases JS id with h|h|h|h|h|h|h|h
 ·exact absurd h G
 ·exact aiI id h v b r hr w hv hT R I hF
 ·exact aiJ id h v b r hr w hv hT R I hF
 ·exact aiK id h v b r hr w hv hT R I hF
 ·exact aiL id h v b r hr w hv hT R I hF
 ·exact aiM id h v b r hr w hv hT R I hF
 ·exact aiN id h v b r hr w hv hT R I hF
 exact aiO id h v b r hr w hv hT R I hF
open List (drop_eq_getElem_cons)
theorem Y2(d:Value)(p:Pr)(w:World)(h:PC w d p)(R:ak)
 (I:∀a c w',w'.ownsRow w 5 1 (.slice a p.data.length c) p.data.length (bv p.data)→Below w w w'→R (.returned (.agg (eA p a c))) w'):
 Calls prog 222 #[.agg (bL p d)] w R:=by
 have HD:=Z h.hd;have aiQ:=h.ld;have HR:=Z I;clear I h;obtain⟨id,n,s,t,aw2⟩:=p;simp only at*;obtain⟨da,dc,rfl,_⟩:=_root_.id HD.O;have c_:=(aD w (.cells (Bp id n s t da aw2 dc) 147)).alloc (by simp) (.cells jt 147);have N0:Hid (((w.alloc (.cells (Bp id n s t da aw2 dc) 147)).alloc (.cells jt 147)).heap[w.heap.size]? =some (.cells (Bp id n s t da aw2 dc) 147)):=Z (js (aH w _));have M0:Hid (((w.alloc (.cells (Bp id n s t da aw2 dc) 147)).alloc (.cells jt 147)).heap[w.heap.size+1]? =some (.cells jt 147)):=by
  have:=aH (w.alloc (.cells (Bp id n s t da aw2 dc) 147)) (.cells jt 147);rw[show(w.alloc (.cells (Bp id n s t da aw2 dc) 147)).heap.size=w.heap.size+1 by simp] at this;exact Z this
 have cM:=Z c_;clear c_;go_enter func222,ntmps222;go_wp2_with (go_at_call 139;go_must(refine aiH _ aw2 _ (HD.O.below cM.O) (by omega) _ ?_);intro ca cc w1 cS aw;have nr:=cj N0.O aw;have mr:=cj M0.O aw;obtain⟨gO,gP,gQ,gR,gT,gU,gV,gW,gX,gY⟩:=c5 nr;obtain⟨ke,kf,lh,lj,lk,ll,ln,lq,lr,lu⟩:=c5 mr;have N1:=Z nr;have M1:=Z mr;have aO:=cz cM.O aw (by simp;omega);clear nr mr);have p1:=bm _ _ 4 _ _ (.slice ca aw2.length cc) N1.O;have p2:(w1.setCell ⟨w,4,none⟩ (.slice ca aw2.length cc)).heap[w.heap.size+1]? =some (.cells jt 147):=by
  rw[heap_setCell_other _ _ _ _ (by simp)];exact M1.O
 refine bodyPost_ret (results_cell_row rfl _ _ (w.heap.size+1) 147 (Bp id n s t ca aw2 cc) (0,0) _ rfl (mX p2 rfl _ _ _ _ _) underlying147 rfl (by kernel_rfl)) rfl ?_;exact HR.O _ _ _ (ET p2 (by decide) _ _ _ _ _ _ _ _ _ (iZ.CT N1.O (by decide) _ _ _ _ (cm cS (by simp;omega)))) (iI (aO.setCell bj _) (by omega) _ _ _ _ _)
theorem Y3(id:Int)(l:List Pr):(l.find? fun p=>decide (p.id=id)).isSome=zh id l:=by
 unfold zh
 induction l with
 |nil=>rfl
 |cons a l ih=>
  rw[List.find?_cons,List.any_cons];cases h:decide (a.id=id) with
  |true=>rfl
  |false=>simpa using ih
def ot(id:Int)(l:List Pr):Option Pr:=l.find? fun p=>decide (p.id=id)
theorem Di(id:Int)(v:Value)(l:List Pr)(p:Pr)(q:Bool)(hp:(ot id l).getD mK=p)(hq:(ot id l).isSome=q)(w:World)(hv:Ps w v l)(R:ak)
 (I:∀a c w',w'.ownsRow w 5 1 (.slice a p.data.length c) p.data.length (bv p.data)→Below w w w'→R (.returned (.tuple #[.agg (eA p a c),.bool q])) w'):
 Calls prog 213 #[E id,v] w R:=by
 have HR:=Z I;have HV:=Z hv;have cB:Hid ((ot id (l.drop 0)).getD mK=p∧(ot id (l.drop 0)).isSome=q):=by rw[drop_zero];exact Z ⟨hp,hq⟩
 clear I hp hq;obtain⟨va,vc,rfl,_⟩:=hv;obtain⟨w0,N9⟩:=ai (w.alloc (.cells jt 147));have aM:Below w w w0:=by rw[←N9];exact aD _ _
 have n0:w0.heap[w.heap.size]? =some (.cells jt 147):=by rw[←N9];exact aH w _
 have lV:w.heap.size+1≤w0.heap.size:=by rw[←N9];simp
 have N0:=Z n0;clear n0;go_enter func213,ntmps213;go_wp2;clear N9;go_loopg [10] l.length (fun gn i wr=>∃k:Nat,k≤l.length∧gn=l.length - k∧i= .int .i64 k∧Below w0 w0 wr∧Hid ((ot id (l.drop k)).getD mK=p∧(ot id (l.drop k)).isSome=q))
 case atStart=>exact⟨0,bP _,by omega,rfl,Below.refl _ _,cB⟩
 case round=>
  obtain⟨k,G,rfl,rfl,U,HS⟩:=hrel;have jg:=aQ aM U;have nr:=cj N0.O U;have NR:=Z nr;have au7:=U.size;clear nr;by_cases au:k<l.length
  ·have bo:(k:Int)<(l.length:Int):=by omega
   obtain⟨EU,EV,ee,_,_,_,v4⟩:=HV.O.below jg;simp only[Value.slice.injEq] at ee;obtain⟨rfl,-,rfl⟩:=ee;obtain⟨vb,vo,rfl,v5⟩:=v4 (by omega);obtain⟨d0,⟨p0,p1,p2,p3,p4⟩,iJ⟩:=v5 k au;obtain⟨y,hy⟩:=ai (l[k]);rw[hy] at p0 p1 p2 p3 iJ;have EW:=HS.O;rw[drop_eq_getElem_cons au,hy,ot,List.find?_cons] at EW;obtain⟨d1,d2,d3,rfl⟩:∃a n c,d0= .slice a n c:=by obtain⟨a,c,h,_⟩:=iJ.hd;exact⟨_,_,_,h⟩
   have tm:=Z iJ;have qz:Below wr wr (wr.alloc (.cells #[.int .i64 y.id,.int .i64 y.num,.string (str y.text),.string (str y.pair),.slice d1 d2 d3] 147)):=aD _ _;have zk:=Z qz;have Y4:=bG U qz;have Dj:=Z Y4;have NE:=Z (cj NR.O qz);have nD:=Z EW;clear v4 v5 hy EW iJ Y4 HS qz;by_cases hid:y.id=id
   ·have EY:y=p∧true=q:=by
     have:=nD.O;rw[eN hid] at this;exact this
    obtain⟨rfl,rfl⟩:=EY;subst hid;go_wp2_with (go_at_call 222;go_must(refine Y2 _ y _ (tm.O.below zk.O) _ ?_);intro ca cc w5 fH di;have n5:=cj NE.O di;obtain⟨gO,gP,gQ,gR,gT,gU,gV,gW,gX,gY⟩:=c5 n5;have N5:=Z n5;clear n5);have bu:=bG Dj.O di;have aiR:=cz aM bu (by omega);refine bodyPost_ret (NW rfl _ _ w 147 (eA y ca cc) (0,0) _ (Value.bool true) rfl rfl (mX N5.O rfl _ _ _ _ _) underlying147 rfl (by kernel_rfl)) rfl ?_;exact HR.O _ _ _ (ET N5.O (by decide) _ _ _ _ _ _ _ _ _ (cm fH (by have:=zk.O.size;have:=jg.size;omega))) (iI aiR bj _ _ _ _ _)
   have so:Hid ((ot id (l.drop (k+1))).getD mK=p∧(ot id (l.drop (k+1))).isSome=q):=by
    have:=nD.O;rw[dN hid] at this;exact this
   go_wp2;go_roundg (l.length - (k+1))
   case measure=>omega
   case rel=>exact⟨k+1,by omega,rfl,by go_num,Dj.O,so⟩
  have bo:¬(k:Int)<(l.length:Int):=by omega
  have EY:mK=p∧false=q:=by
   have:=HS.O;rw[drop_of_length_le (by omega)] at this;exact this
  obtain⟨rfl,rfl⟩:=EY;have gO:=D 0 NR.O;have gP:=D 1 NR.O;have gQ:=D 2 NR.O;have gR:=D 3 NR.O;have gT:=D 4 NR.O;have gU:=aC NR.O 0;have gV:=aC NR.O 1;have gW:=aC NR.O 2;have gX:=aC NR.O 3;have gY:=aC NR.O 4;clear HS;go_wp2;refine bodyPost_ret (NW rfl _ _ w 147 jt (0,0) _ (Value.bool false) rfl rfl (mX NR.O rfl _ _ _ _ _) underlying147 rfl (by kernel_rfl)) rfl ?_;exact HR.O _ _ _ (bO _ _ _ _) (iI jg bj _ _ _ _ _)
theorem aiS(id:Int)(G:aS id≠0)(v:Value)(b:List UInt8)(p:Pr)(u:Int)(hr:eK id b=some (p,u))(w:World)(hv:Bs w v b)(hT:dy w)(R:ak)
 (I:∀d w',w'.ownsRow w 5 1 d p.data.length (bv p.data)→Below w w w'→R (.returned (.tuple #[.agg (bL p d),E u,.bool true])) w'):
 Calls prog 212 #[E id,v] w R:=by
 refine Y1 id G v b _ hr w hv hT R (fun p' u' d w' h h1 h2=> ?_) (fun n s t a m c u q w' h=>by cases h);simp only[Option.some.injEq,Prod.mk.injEq] at h;obtain⟨rfl,rfl⟩:=h;exact I d w' h1 h2
theorem aiT(id:Int)(G:aS id≠0)(v:Value)(b:List UInt8)(hr:eK id b=none)(w:World)(hv:Bs w v b)(hT:dy w)(R:ak)
 (hF:∀n s t a m c u w',Below w w w'→R (.returned (.tuple #[.agg #[E id,E n,.string s,.string t,.slice a m c],E u,.bool false])) w'):
 Calls prog 212 #[E id,v] w R:=by
 refine Y1 id G v b _ hr w hv hT R (fun p' u' d w' h=>by cases h) (fun n s t a m c u q w' h hq h1=> ?_);subst hq;exact hF n s t a m c u w' h1
theorem Y5{P:Prop}(h:P:=by
 refine bodyPost_ret (pF rfl _ _ w 147 (eA p' eY eZ) (0,0) _ _ _ rfl rfl rfl (mX N6.O rfl _ _ _ _ _) underlying147 rfl (by kernel_rfl)) rfl ?_;exact HB.O _ _ (ET N6.O (by decide) _ _ _ _ _ _ _ _ _ Hn.O) (iI fJ bj _ _ _ _ _)):P:=h
theorem N_{P:Prop}(h:P:=by
 refine bodyPost_ret (pF rfl _ _ w 147 (eA p' eY eZ) (0,0) _ _ _ rfl rfl rfl (mX N6.O rfl _ _ _ _ _) underlying147 rfl (by kernel_rfl)) rfl ?_;exact HB.O _ _ _ _ _ _ _ _ (iI fJ bj _ _ _ _ _)):P:=h
theorem Y6(wh:Int)(v u:Value)(b:List UInt8)(l:List Pr)(c:Nat)(p:Pr)(m:Int)(W:rm wh l b=(c,p,m))(w:World)(hv:Bs w v b)(hu:Ps w u l)(hT:dy w)(R:ak)
 (EZ:c=0→∀d w',w'.ownsRow w 5 1 d p.data.length (bv p.data)→Below w w w'→R (.returned (.tuple #[.agg (bL p d),E m,E 0])) w')
 (zl:c≠0→∀x y s t a k q w',Below w w w'→R (.returned (.tuple #[.agg #[E x,E y,.string s,.string t,.slice a k q],E 0,E c])) w'):
 Calls prog 191 #[E wh,v,u] w R:=by
 obtain⟨HV,HU,HT⟩:=bX hv hu hT;obtain⟨va,vc,rfl,_,N',JT,_⟩:=_root_.id hv;obtain⟨ua,uc,rfl,_⟩:=_root_.id hu;obtain⟨⟨x,y,z⟩,A⟩:∃g,dY b=g:=⟨_,rfl⟩
 have iy:=W;unfold rm at W;rw[A] at W;simp only at W;have HG:=Z A;have c_:=aD w (.cells jt 147);have N0:Hid ((w.alloc (.cells jt 147)).heap[w.heap.size]? =some (.cells jt 147)):=Z (aH w _);have cM:=Z c_;clear hv hu hT c_;by_cases hz:z≠0
 ·rw[if_pos (.inl hz)] at W;simp only[Prod.mk.injEq] at W;obtain⟨rfl,rfl,rfl⟩:=W;have fb:=zl (by omega);have HB:=Z fb;have Sp:¬(z:Int)=0:=by omega
  clear EZ zl fb iy A;go_enter func191,ntmps191;go_wp2_with (go_at_call 190;go_must(refine vA _ b x y z HG.O _ (HV.O.below cM.O) _ ?_));refine bodyPost_ret (pF rfl _ _ w 147 jt (0,0) _ _ _ rfl rfl rfl N0.O underlying147 rfl (by kernel_rfl)) rfl ?_;exact HB.O _ _ _ _ _ _ _ _ cM.O
 have lV:z=0:=by omega
 subst lV;obtain⟨_,kK,_⟩:=Df b x y A;obtain⟨mm,hm⟩:=ai (ch (x:Int) wh);rw[hm] at W;have HM:=Z hm;cases mm with
 |false=>
  simp only[ne_eq,not_true_eq_false,or_true,if_true,Prod.mk.injEq] at W;obtain⟨rfl,rfl,rfl⟩:=W;have fb:=zl (by omega);have HB:=Z fb;clear EZ zl fb iy A hm;go_enter func191,ntmps191;go_wp2_with (first
   |(go_at_call 190;go_must(refine vA _ b x y 0 HG.O _ (HV.O.below cM.O) _ ?_))
   |(go_at_call 211;go_must(refine BK x wh false HM.O _ _ ?_);intro w1 aw;have nr:=cj N0.O aw;obtain⟨gO,gP,gQ,gR,gT,gU,gV,gW,gX,gY⟩:=c5 nr;have N1:=Z nr;have aO:=bG cM.O aw;clear nr aw))
  refine bodyPost_ret (pF rfl _ _ w 147 jt (0,0) _ _ _ rfl rfl rfl (mX N1.O rfl _ _ _ _ _) underlying147 rfl (by kernel_rfl)) rfl ?_;exact HB.O _ _ _ _ _ _ _ _ (iI aO bj _ _ _ _ _)
 |true=>
  simp only[ne_eq,not_true_eq_false,Bool.true_eq_false,or_false,if_false] at W;have fF:aS (x:Int)≠0:=Sn hm;have JU:=Z fF;obtain⟨La,dm,bU⟩:=Hl HV.O kK;have eW:=Z bU;obtain⟨fp,JV⟩:=ai ((ot x l).getD mK);obtain⟨fq,E3⟩:=ai ((ot x l).isSome);have Dh:zh x l=fq:=by rw[←E3];exact(Y3 x l).symm
  rw[Dh] at W;have qA:=Z JV;have wM:=Z E3;clear JV E3 Dh fF bU hm;obtain⟨r,hr⟩:=ai (eK (x:Int) (b.drop y));rw[hr] at W;have au8:=Z hr;cases r with
  |none=>
   simp only[Prod.mk.injEq] at W;obtain⟨rfl,rfl,rfl⟩:=W;have fb:=zl (by omega);have HB:=Z fb;have Y7:eK (x:Int) (b.drop y)=none:=hr;have JW:∀w' R,Bs w' (Value.slice La (b.length - y) (vc - y)) (b.drop y)→dy w'→_→Calls prog 212 #[E x,Value.slice La (b.length - y) (vc - y)] w' R:=fun w' R h1 h2 h3=>aiT x JU.O _ _ Y7 w' h1 h2 R h3;have rn:=Z JW;clear EZ zl fb iy A hr Y7 JW;go_enter func191,ntmps191;go_wp2_with (first
    |(go_at_call 190;go_must(refine vA _ b x y 0 HG.O _ (HV.O.below cM.O) _ ?_))
    |(go_at_call 211;go_must(refine BK x wh true HM.O _ _ ?_);intro w1 aw;have nr:=cj N0.O aw;obtain⟨gO,gP,gQ,gR,gT,gU,gV,gW,gX,gY⟩:=c5 nr;have N1:=Z nr;have aO:=bG cM.O aw;clear nr aw)
    |(go_at_call 212;go_must(refine rn.O _ _ (eW.O.below aO) (HT.O.below aO) ?_);intro vn vs vt JX vm JY vu w2 aj;have nr:=cj N1.O aj;clear gO gP gQ gR gT gU gV gW gX gY;obtain⟨ke,kf,lh,lj,lk,ll,ln,lq,lr,lu⟩:=c5 nr;have N2:=Z nr;have bC:=bG aO aj;clear nr aj)
    |(go_at_call 213;have dq:=iI bC (Nat.le_refl w.heap.size) (E x) (E vn) (.string vs) (.string vt) (.slice JX vm JY);have n3:=mX N2.O rfl (E x) (E vn) (.string vs) (.string vt) (.slice JX vm JY);go_must(refine Di x _ l fp fq qA.O wM.O _ (HU.O.below dq) _ ?_);intro fa fc w4 cO ao;have aE:=ao.alloc ao.size (.cells (eA fp fa fc) 147);have n5:=cj n3 aE;clear ke kf lh lj lk ll ln lq lr lu;obtain⟨rp,ru,ry,rz,rA,rB,rC,rD,rE,rF⟩:=c5 n5;have N5:=Z n5;have bu:=cz dq aE (iI bC (Nat.le_refl w.heap.size) (E x) (E vn) (.string vs) (.string vt) (.slice JX vm JY)).size;skip;clear n3 n5 cO ao aE))
   refine bodyPost_ret (pF rfl _ _ w 147 #[E x,E vn,.string vs,.string vt,.slice JX vm JY] (0,0) _ _ _ rfl rfl rfl (mX N5.O rfl _ _ _ _ _) underlying147 rfl (by kernel_rfl)) rfl ?_;exact HB.O _ _ _ _ _ _ _ _ (iI bu bj _ _ _ _ _)
  |some pm=>
   obtain⟨p',m'⟩:=pm;simp only at W;obtain⟨um,aiU,JZ,Ho,_,Dk,_⟩:=Sg hr;rw[dw] at JZ;have J0:∀w' R,Bs w' (Value.slice La (b.length - y) (vc - y)) (b.drop y)→dy w'→_→Calls prog 212 #[E x,Value.slice La (b.length - y) (vc - y)] w' R:=fun w' R h1 h2 h3=>aiS x JU.O _ _ p' m' hr w' h1 h2 R h3;have rn:=Z J0;have mY:0≤m':=by omega
   have fR:(y:Int)+m'≤9223372036854775807:=by omega
   have aiQ:=Dk.ld;have Y8:=Z Ho;clear Ho;clear J0 hr aiU JZ Dk;obtain⟨oo,ho⟩:=ai (pE (x:Int) wh);rw[ho] at W;have HO:=Z ho;clear ho;by_cases BL:fq=true∧oo=false
   ·rw[if_pos BL] at W;obtain⟨rfl,rfl⟩:=BL;simp only[Prod.mk.injEq] at W;obtain⟨rfl,rfl,rfl⟩:=W;have fb:=zl (by omega);have HB:=Z fb;clear EZ zl fb iy A;have uw:∀w' (R:ak),R (.returned (.bool false)) w'→Calls prog 214 #[E x,E wh] w' R:=fun w' R h=>Si x wh w' R (by rw[HO.O];exact h);have BM:=Z uw;clear uw;go_enter func191,ntmps191;go_wp2_with (first
     |(go_at_call 190;go_must(refine vA _ b x y 0 HG.O _ (HV.O.below cM.O) _ ?_))
     |(go_at_call 211;go_must(refine BK x wh true HM.O _ _ ?_);intro w1 aw;have nr:=cj N0.O aw;obtain⟨gO,gP,gQ,gR,gT,gU,gV,gW,gX,gY⟩:=c5 nr;have N1:=Z nr;have aO:=bG cM.O aw;clear nr aw)
     |(go_at_call 212;go_must(refine rn.O _ _ (eW.O.below aO) (HT.O.below aO) ?_);intro dv w2 dL aj;obtain⟨eY,eZ,rfl⟩:=cR dL;have nr:=cj N1.O aj;clear gO gP gQ gR gT gU gV gW gX gY;obtain⟨ke,kf,lh,lj,lk,ll,ln,lq,lr,lu⟩:=c5 nr;have N2:=Z nr;have bC:=bG aO aj;clear nr aj dL)
     |(go_at_call 213;have dq:=iI bC (Nat.le_refl w.heap.size) (.int .i64 p'.id) (.int .i64 p'.num) (.string (str p'.text)) (.string (str p'.pair)) (.slice eY p'.data.length eZ);have n3:=mX N2.O rfl (.int .i64 p'.id) (.int .i64 p'.num) (.string (str p'.text)) (.string (str p'.pair)) (.slice eY p'.data.length eZ);go_must(refine Di x _ l fp true qA.O wM.O _ (HU.O.below dq) _ ?_);intro fa fc w4 cO ao;have aE:=ao.alloc ao.size (.cells (eA fp fa fc) 147);have n5:=cj n3 aE;clear ke kf lh lj lk ll ln lq lr lu;obtain⟨rp,ru,ry,rz,rA,rB,rC,rD,rE,rF⟩:=c5 n5;have N5:=Z n5;have bu:=cz dq aE (iI bC (Nat.le_refl w.heap.size) (.int .i64 p'.id) (.int .i64 p'.num) (.string (str p'.text)) (.string (str p'.pair)) (.slice eY p'.data.length eZ)).size;skip;clear n3 n5 cO ao aE)
     |(go_at_call 214;go_must(refine BM.O _ _ ?_)))
    refine bodyPost_ret (pF rfl _ _ w 147 (eA p' eY eZ) (0,0) _ _ _ rfl rfl rfl (mX N5.O rfl _ _ _ _ _) underlying147 rfl (by kernel_rfl)) rfl ?_;exact HB.O _ _ _ _ _ _ _ _ (iI bu bj _ _ _ _ _)
   rw[if_neg BL] at W;obtain⟨nn,kL⟩:=ai (dU p');rw[kL] at W;by_cases mx:nn≠0;rotate_left
   ·rw[if_neg mx] at W;simp only[Prod.mk.injEq] at W;have dK:nn=0:=by omega
    subst dK;obtain⟨fI,rfl,rfl⟩:=W;subst fI;have eS:=EZ rfl;have HB:=Z eS;have BC:decide (dU p'=0)=true:=eN kL;have E4:=Z BC;clear EZ zl eS iy A kL BC mx;have uw:∀w' (R:ak),R (.returned (.bool oo)) w'→Calls prog 214 #[E x,E wh] w' R:=fun w' R h=>Si x wh w' R (by rw[HO.O];exact h);have BM:=Z uw;clear uw;cases fq with
    |false=>
     go_enter func191,ntmps191;go_wp2_with (first
      |(go_at_call 190;go_must(refine vA _ b x y 0 HG.O _ (HV.O.below cM.O) _ ?_))
      |(go_at_call 211;go_must(refine BK x wh true HM.O _ _ ?_);intro w1 aw;have nr:=cj N0.O aw;obtain⟨gO,gP,gQ,gR,gT,gU,gV,gW,gX,gY⟩:=c5 nr;have N1:=Z nr;have aO:=bG cM.O aw;clear nr aw)
      |(go_at_call 212;go_must(refine rn.O _ _ (eW.O.below aO) (HT.O.below aO) ?_);intro dv w2 dL aj;obtain⟨eY,eZ,rfl⟩:=cR dL;have nr:=cj N1.O aj;clear gO gP gQ gR gT gU gV gW gX gY;obtain⟨ke,kf,lh,lj,lk,ll,ln,lq,lr,lu⟩:=c5 nr;have N2:=Z nr;have bC:=bG aO aj;have Sq:=Z (cm (jE:=w.heap.size) dL aO.size);clear nr aj dL)
      |(go_at_call 213;have dq:=iI bC (Nat.le_refl w.heap.size) (.int .i64 p'.id) (.int .i64 p'.num) (.string (str p'.text)) (.string (str p'.pair)) (.slice eY p'.data.length eZ);have n3:=mX N2.O rfl (.int .i64 p'.id) (.int .i64 p'.num) (.string (str p'.text)) (.string (str p'.pair)) (.slice eY p'.data.length eZ);go_must(refine Di x _ l fp false qA.O wM.O _ (HU.O.below dq) _ ?_);intro fa fc w4 cO ao;have aE:=ao.alloc ao.size (.cells (eA fp fa fc) 147);have n5:=cj n3 aE;clear ke kf lh lj lk ll ln lq lr lu;obtain⟨rp,ru,ry,rz,rA,rB,rC,rD,rE,rF⟩:=c5 n5;have N5:=Z n5;have bu:=cz dq aE (iI bC (Nat.le_refl w.heap.size) (.int .i64 p'.id) (.int .i64 p'.num) (.string (str p'.text)) (.string (str p'.pair)) (.slice eY p'.data.length eZ)).size;have Sr:=Z (aR (ET (te:=5) N2.O (by decide) (.int .i64 p'.id) (.int .i64 p'.num) (.string (str p'.text)) (.string (str p'.pair)) (.slice eY p'.data.length eZ) _ _ _ _ Sq.O) aE);clear n3 n5 cO ao aE)
      |(go_at_call 214;go_must(refine BM.O _ _ ?_))
      |(go_at_call 215;go_must(refine Hm _ p' _ E4.O _ _ ?_);intro w6 bd;have nr:=cj N5.O bd;clear rp ru ry rz rA rB rC rD rE rF;obtain⟨E5,E6,E7,E8,E9,E_,E',Fa,Fb,Fc⟩:=c5 nr;have N6:=Z nr;have fJ:=bG bu bd;have Hn:=Z (aR Sr.O bd);clear nr bd))
     exact Y5
    |true=>
     obtain rfl:oo=true:=by cases oo with
      |true=>rfl
      |false=>exact absurd ⟨rfl,rfl⟩ BL
     clear BL;go_enter func191,ntmps191;go_wp2_with (first
      |(go_at_call 190;go_must(refine vA _ b x y 0 HG.O _ (HV.O.below cM.O) _ ?_))
      |(go_at_call 211;go_must(refine BK x wh true HM.O _ _ ?_);intro w1 aw;have nr:=cj N0.O aw;obtain⟨gO,gP,gQ,gR,gT,gU,gV,gW,gX,gY⟩:=c5 nr;have N1:=Z nr;have aO:=bG cM.O aw;clear nr aw)
      |(go_at_call 212;go_must(refine rn.O _ _ (eW.O.below aO) (HT.O.below aO) ?_);intro dv w2 dL aj;obtain⟨eY,eZ,rfl⟩:=cR dL;have nr:=cj N1.O aj;clear gO gP gQ gR gT gU gV gW gX gY;obtain⟨ke,kf,lh,lj,lk,ll,ln,lq,lr,lu⟩:=c5 nr;have N2:=Z nr;have bC:=bG aO aj;have Sq:=Z (cm (jE:=w.heap.size) dL aO.size);clear nr aj dL)
      |(go_at_call 213;have dq:=iI bC (Nat.le_refl w.heap.size) (.int .i64 p'.id) (.int .i64 p'.num) (.string (str p'.text)) (.string (str p'.pair)) (.slice eY p'.data.length eZ);have n3:=mX N2.O rfl (.int .i64 p'.id) (.int .i64 p'.num) (.string (str p'.text)) (.string (str p'.pair)) (.slice eY p'.data.length eZ);go_must(refine Di x _ l fp true qA.O wM.O _ (HU.O.below dq) _ ?_);intro fa fc w4 cO ao;have aE:=ao.alloc ao.size (.cells (eA fp fa fc) 147);have n5:=cj n3 aE;clear ke kf lh lj lk ll ln lq lr lu;obtain⟨rp,ru,ry,rz,rA,rB,rC,rD,rE,rF⟩:=c5 n5;have N5:=Z n5;have bu:=cz dq aE (iI bC (Nat.le_refl w.heap.size) (.int .i64 p'.id) (.int .i64 p'.num) (.string (str p'.text)) (.string (str p'.pair)) (.slice eY p'.data.length eZ)).size;have Sr:=Z (aR (ET (te:=5) N2.O (by decide) (.int .i64 p'.id) (.int .i64 p'.num) (.string (str p'.text)) (.string (str p'.pair)) (.slice eY p'.data.length eZ) _ _ _ _ Sq.O) aE);clear n3 n5 cO ao aE)
      |(go_at_call 214;go_must(refine BM.O _ _ ?_))
      |(go_at_call 215;go_must(refine Hm _ p' _ E4.O _ _ ?_);intro w6 bd;have nr:=cj N5.O bd;clear rp ru ry rz rA rB rC rD rE rF;obtain⟨E5,E6,E7,E8,E9,E_,E',Fa,Fb,Fc⟩:=c5 nr;have N6:=Z nr;have fJ:=bG bu bd;have Hn:=Z (aR Sr.O bd);clear nr bd))
     exact Y5
   rw[if_pos mx] at W;simp only[Prod.mk.injEq] at W;obtain⟨rfl,rfl,rfl⟩:=W;have fb:=zl mx;have HB:=Z fb;have BC:decide (dU p'=0)=false:=dN (by omega);have E4:=Z BC;have J:((x:Int)=35∧nn=148)∨(¬(x:Int)=35∧nn=130):=by
    rw[←kL] at mx⊢;unfold dU at mx⊢;rw[Y8.O] at mx⊢;by_cases h35:(x:Int)=35
    ·left
     refine⟨h35,?_⟩;rw[h35] at mx⊢;simp only[show aS 35=2 from by decide,Nat.reduceEqDiff,false_and,if_false,Int.reduceEq,or_self,true_and] at mx⊢;by_cases dK:p'.num=0
     ·rw[if_pos dK]
     rw[if_neg dK] at mx;exact absurd rfl mx
    right
    refine⟨h35,?_⟩;simp only[h35,false_and,if_false] at mx⊢
    split
    ·rfl
    rename_i h1
    rw[if_neg h1] at mx
    split
    ·rfl
    rename_i h2
    rw[if_neg h2] at mx;exact absurd rfl mx
   clear EZ zl fb iy A kL BC;have uw:∀w' (R:ak),R (.returned (.bool oo)) w'→Calls prog 214 #[E x,E wh] w' R:=fun w' R h=>Si x wh w' R (by rw[HO.O];exact h);have BM:=Z uw;clear uw;rcases J with⟨h35,rfl⟩|⟨h35,rfl⟩
   ·have Y9:=Z h35;clear h35;cases fq with
    |false=>
     go_enter func191,ntmps191;go_wp2_with (first
      |(go_at_call 190;go_must(refine vA _ b x y 0 HG.O _ (HV.O.below cM.O) _ ?_))
      |(go_at_call 211;go_must(refine BK x wh true HM.O _ _ ?_);intro w1 aw;have nr:=cj N0.O aw;obtain⟨gO,gP,gQ,gR,gT,gU,gV,gW,gX,gY⟩:=c5 nr;have N1:=Z nr;have aO:=bG cM.O aw;clear nr aw)
      |(go_at_call 212;go_must(refine rn.O _ _ (eW.O.below aO) (HT.O.below aO) ?_);intro dv w2 dL aj;obtain⟨eY,eZ,rfl⟩:=cR dL;have nr:=cj N1.O aj;clear gO gP gQ gR gT gU gV gW gX gY;obtain⟨ke,kf,lh,lj,lk,ll,ln,lq,lr,lu⟩:=c5 nr;have N2:=Z nr;have bC:=bG aO aj;clear nr aj dL)
      |(go_at_call 213;have dq:=iI bC (Nat.le_refl w.heap.size) (.int .i64 p'.id) (.int .i64 p'.num) (.string (str p'.text)) (.string (str p'.pair)) (.slice eY p'.data.length eZ);have n3:=mX N2.O rfl (.int .i64 p'.id) (.int .i64 p'.num) (.string (str p'.text)) (.string (str p'.pair)) (.slice eY p'.data.length eZ);go_must(refine Di x _ l fp false qA.O wM.O _ (HU.O.below dq) _ ?_);intro fa fc w4 cO ao;have aE:=ao.alloc ao.size (.cells (eA fp fa fc) 147);have n5:=cj n3 aE;clear ke kf lh lj lk ll ln lq lr lu;obtain⟨rp,ru,ry,rz,rA,rB,rC,rD,rE,rF⟩:=c5 n5;have N5:=Z n5;have bu:=cz dq aE (iI bC (Nat.le_refl w.heap.size) (.int .i64 p'.id) (.int .i64 p'.num) (.string (str p'.text)) (.string (str p'.pair)) (.slice eY p'.data.length eZ)).size;skip;clear n3 n5 cO ao aE)
      |(go_at_call 214;go_must(refine BM.O _ _ ?_))
      |(go_at_call 215;go_must(refine Hm _ p' _ E4.O _ _ ?_);intro w6 bd;have nr:=cj N5.O bd;clear rp ru ry rz rA rB rC rD rE rF;obtain⟨E5,E6,E7,E8,E9,E_,E',Fa,Fb,Fc⟩:=c5 nr;have N6:=Z nr;have fJ:=bG bu bd;have h35:=Y9.O;clear nr bd))
     exact N_
    |true=>
     obtain rfl:oo=true:=by cases oo with
      |true=>rfl
      |false=>exact absurd ⟨rfl,rfl⟩ BL
     clear BL;go_enter func191,ntmps191;go_wp2_with (first
      |(go_at_call 190;go_must(refine vA _ b x y 0 HG.O _ (HV.O.below cM.O) _ ?_))
      |(go_at_call 211;go_must(refine BK x wh true HM.O _ _ ?_);intro w1 aw;have nr:=cj N0.O aw;obtain⟨gO,gP,gQ,gR,gT,gU,gV,gW,gX,gY⟩:=c5 nr;have N1:=Z nr;have aO:=bG cM.O aw;clear nr aw)
      |(go_at_call 212;go_must(refine rn.O _ _ (eW.O.below aO) (HT.O.below aO) ?_);intro dv w2 dL aj;obtain⟨eY,eZ,rfl⟩:=cR dL;have nr:=cj N1.O aj;clear gO gP gQ gR gT gU gV gW gX gY;obtain⟨ke,kf,lh,lj,lk,ll,ln,lq,lr,lu⟩:=c5 nr;have N2:=Z nr;have bC:=bG aO aj;clear nr aj dL)
      |(go_at_call 213;have dq:=iI bC (Nat.le_refl w.heap.size) (.int .i64 p'.id) (.int .i64 p'.num) (.string (str p'.text)) (.string (str p'.pair)) (.slice eY p'.data.length eZ);have n3:=mX N2.O rfl (.int .i64 p'.id) (.int .i64 p'.num) (.string (str p'.text)) (.string (str p'.pair)) (.slice eY p'.data.length eZ);go_must(refine Di x _ l fp true qA.O wM.O _ (HU.O.below dq) _ ?_);intro fa fc w4 cO ao;have aE:=ao.alloc ao.size (.cells (eA fp fa fc) 147);have n5:=cj n3 aE;clear ke kf lh lj lk ll ln lq lr lu;obtain⟨rp,ru,ry,rz,rA,rB,rC,rD,rE,rF⟩:=c5 n5;have N5:=Z n5;have bu:=cz dq aE (iI bC (Nat.le_refl w.heap.size) (.int .i64 p'.id) (.int .i64 p'.num) (.string (str p'.text)) (.string (str p'.pair)) (.slice eY p'.data.length eZ)).size;skip;clear n3 n5 cO ao aE)
      |(go_at_call 214;go_must(refine BM.O _ _ ?_))
      |(go_at_call 215;go_must(refine Hm _ p' _ E4.O _ _ ?_);intro w6 bd;have nr:=cj N5.O bd;clear rp ru ry rz rA rB rC rD rE rF;obtain⟨E5,E6,E7,E8,E9,E_,E',Fa,Fb,Fc⟩:=c5 nr;have N6:=Z nr;have fJ:=bG bu bd;have h35:=Y9.O;clear nr bd))
     exact N_
   cases fq with
   |false=>
    go_enter func191,ntmps191;go_wp2_with (first
     |(go_at_call 190;go_must(refine vA _ b x y 0 HG.O _ (HV.O.below cM.O) _ ?_))
     |(go_at_call 211;go_must(refine BK x wh true HM.O _ _ ?_);intro w1 aw;have nr:=cj N0.O aw;obtain⟨gO,gP,gQ,gR,gT,gU,gV,gW,gX,gY⟩:=c5 nr;have N1:=Z nr;have aO:=bG cM.O aw;clear nr aw)
     |(go_at_call 212;go_must(refine rn.O _ _ (eW.O.below aO) (HT.O.below aO) ?_);intro dv w2 dL aj;obtain⟨eY,eZ,rfl⟩:=cR dL;have nr:=cj N1.O aj;clear gO gP gQ gR gT gU gV gW gX gY;obtain⟨ke,kf,lh,lj,lk,ll,ln,lq,lr,lu⟩:=c5 nr;have N2:=Z nr;have bC:=bG aO aj;clear nr aj dL)
     |(go_at_call 213;have dq:=iI bC (Nat.le_refl w.heap.size) (.int .i64 p'.id) (.int .i64 p'.num) (.string (str p'.text)) (.string (str p'.pair)) (.slice eY p'.data.length eZ);have n3:=mX N2.O rfl (.int .i64 p'.id) (.int .i64 p'.num) (.string (str p'.text)) (.string (str p'.pair)) (.slice eY p'.data.length eZ);go_must(refine Di x _ l fp false qA.O wM.O _ (HU.O.below dq) _ ?_);intro fa fc w4 cO ao;have aE:=ao.alloc ao.size (.cells (eA fp fa fc) 147);have n5:=cj n3 aE;clear ke kf lh lj lk ll ln lq lr lu;obtain⟨rp,ru,ry,rz,rA,rB,rC,rD,rE,rF⟩:=c5 n5;have N5:=Z n5;have bu:=cz dq aE (iI bC (Nat.le_refl w.heap.size) (.int .i64 p'.id) (.int .i64 p'.num) (.string (str p'.text)) (.string (str p'.pair)) (.slice eY p'.data.length eZ)).size;skip;clear n3 n5 cO ao aE)
     |(go_at_call 214;go_must(refine BM.O _ _ ?_))
     |(go_at_call 215;go_must(refine Hm _ p' _ E4.O _ _ ?_);intro w6 bd;have nr:=cj N5.O bd;clear rp ru ry rz rA rB rC rD rE rF;obtain⟨E5,E6,E7,E8,E9,E_,E',Fa,Fb,Fc⟩:=c5 nr;have N6:=Z nr;have fJ:=bG bu bd;skip;clear nr bd))
    exact N_
   |true=>
    obtain rfl:oo=true:=by cases oo with
     |true=>rfl
     |false=>exact absurd ⟨rfl,rfl⟩ BL
    clear BL;go_enter func191,ntmps191;go_wp2_with (first
     |(go_at_call 190;go_must(refine vA _ b x y 0 HG.O _ (HV.O.below cM.O) _ ?_))
     |(go_at_call 211;go_must(refine BK x wh true HM.O _ _ ?_);intro w1 aw;have nr:=cj N0.O aw;obtain⟨gO,gP,gQ,gR,gT,gU,gV,gW,gX,gY⟩:=c5 nr;have N1:=Z nr;have aO:=bG cM.O aw;clear nr aw)
     |(go_at_call 212;go_must(refine rn.O _ _ (eW.O.below aO) (HT.O.below aO) ?_);intro dv w2 dL aj;obtain⟨eY,eZ,rfl⟩:=cR dL;have nr:=cj N1.O aj;clear gO gP gQ gR gT gU gV gW gX gY;obtain⟨ke,kf,lh,lj,lk,ll,ln,lq,lr,lu⟩:=c5 nr;have N2:=Z nr;have bC:=bG aO aj;clear nr aj dL)
     |(go_at_call 213;have dq:=iI bC (Nat.le_refl w.heap.size) (.int .i64 p'.id) (.int .i64 p'.num) (.string (str p'.text)) (.string (str p'.pair)) (.slice eY p'.data.length eZ);have n3:=mX N2.O rfl (.int .i64 p'.id) (.int .i64 p'.num) (.string (str p'.text)) (.string (str p'.pair)) (.slice eY p'.data.length eZ);go_must(refine Di x _ l fp true qA.O wM.O _ (HU.O.below dq) _ ?_);intro fa fc w4 cO ao;have aE:=ao.alloc ao.size (.cells (eA fp fa fc) 147);have n5:=cj n3 aE;clear ke kf lh lj lk ll ln lq lr lu;obtain⟨rp,ru,ry,rz,rA,rB,rC,rD,rE,rF⟩:=c5 n5;have N5:=Z n5;have bu:=cz dq aE (iI bC (Nat.le_refl w.heap.size) (.int .i64 p'.id) (.int .i64 p'.num) (.string (str p'.text)) (.string (str p'.pair)) (.slice eY p'.data.length eZ)).size;skip;clear n3 n5 cO ao aE)
     |(go_at_call 214;go_must(refine BM.O _ _ ?_))
     |(go_at_call 215;go_must(refine Hm _ p' _ E4.O _ _ ?_);intro w6 bd;have nr:=cj N5.O bd;clear rp ru ry rz rA rB rC rD rE rF;obtain⟨E5,E6,E7,E8,E9,E_,E',Fa,Fb,Fc⟩:=c5 nr;have N6:=Z nr;have fJ:=bG bu bd;skip;clear nr bd))
    exact N_
theorem Y_{P:Prop}(h:P:=by
 intro w';have:=dm w';rw[Nat.add_sub_cancel_left] at this;rw[show(y:Int)+(n:Int)=((y+n:Nat):Int) by omega];exact this):P:=h
theorem Y'{P:Prop}(h:P:=by
 refine⟨n,[],(b.drop y).take n,La,vc - y,by rw[pG.O];omega,pG.O.symm,by rw[pG.O],Z (by rw[pG.O];simp;omega),Z (cE.nil _ _),Z (fun p hp=>by cases hp),by rw[pG.O];exact eW,Below.refl _ _,HF⟩):P:=h
theorem Za{P:Prop}(h:P:=by
 rcases ez.1 hq with h|h
 ·exact jf.O q h
 obtain rfl:=dM.1 h;exact Ss.O):P:=h
theorem aiV(wh:Int)(v u:Value)(b:List UInt8)(l:List Pr)(p:Pr)(m:Int)(W:rm wh l b=(0,p,m))(w:World)(hv:Bs w v b)(hu:Ps w u l)(hT:dy w)(R:ak)
 (I:∀d w',w'.ownsRow w 5 1 d p.data.length (bv p.data)→Below w w w'→R (.returned (.tuple #[.agg (bL p d),E m,E 0])) w'):
 Calls prog 191 #[E wh,v,u] w R:=
 Y6 wh v u b l 0 p m W w hv hu hT R (fun _=>I) (fun h=>absurd rfl h)
theorem aiW(wh:Int)(v u:Value)(b:List UInt8)(l:List Pr)(c:Nat)(p:Pr)(m:Int)(J:c≠0)(W:rm wh l b=(c,p,m))(w:World)(hv:Bs w v b)(hu:Ps w u l)(hT:dy w)(R:ak)
 (I:∀x y s t a k q w',Below w w w'→R (.returned (.tuple #[.agg #[E x,E y,.string s,.string t,.slice a k q],E 0,E c])) w'):
 Calls prog 191 #[E wh,v,u] w R:=
 Y6 wh v u b l c p m W w hv hu hT R (fun h=>absurd h J) (fun _=>I)
theorem ER.pb(h:ER p)(h0:0≤p.id)(h1:p.id<268435456):PB p:=by
 have:=h.ld;have:=h.lt;have:=h.lp;have:=h.n0;have:=h.n1;exact⟨by omega,by omega,by omega,by omega,by omega,by omega,by omega⟩
theorem Zb(f:Nat)(wh:Int)(l:List Pr):qp f wh l []=(l,0):=by cases f<;>rfl
theorem J3(wh:Int)(v:Value)(b:List UInt8)(out:List Pr)(used:Int)(c:Nat)(h:lf wh b=(out,used,c))(ep:b.length≤100000000)(w:World)(hv:Bs w v b)(hT:dy w)(R:ak)
 (I:∀Y cc w',cE w' w.heap.size (.slice Y out.length cc) out→Below w w w'→R (.returned (.tuple #[.slice Y out.length cc,E used,E c])) w'):
 Calls prog 173 #[E wh,v] w R:=by
 obtain⟨HR,HV,HT⟩:=bX I hv hT;obtain⟨va,vc,rfl,_,N',JT,_⟩:=_root_.id hv;obtain⟨⟨n,y,z⟩,A⟩:∃g,dY b=g:=⟨_,rfl⟩
 unfold lf at h;rw[A] at h;simp only at h;have HG:=Z A;clear I hv hT;by_cases hz:z≠0
 ·rw[if_pos (.inl hz)] at h;simp only[Prod.mk.injEq] at h;obtain⟨rfl,rfl,rfl⟩:=h;have Sp:¬(z:Int)=0:=by omega
  clear A;go_enter func173,ntmps173;go_wp2_with (go_at_call 190;go_must(refine vA _ b n y z HG.O _ HV.O _ ?_));go_ret3;exact HR.O none 0 _ (cE.nil _ _) dg
 have lV:z=0:=by omega
 subst lV;obtain⟨aiX,kK,_⟩:=Df b n y A;clear A;by_cases y_:b.length<n+y
 ·rw[if_pos (.inr y_)] at h;simp only[Prod.mk.injEq] at h;obtain⟨rfl,rfl,rfl⟩:=h;have Su:(b.length:Int) - (y:Int)<(n:Int):=by omega
  go_enter func173,ntmps173;go_wp2_with (go_at_call 190;go_must(refine vA _ b n y 0 HG.O _ HV.O _ ?_));go_ret3;exact HR.O none 0 _ (cE.nil _ _) dg
 rw[if_neg (by simpa using y_)] at h;have Su:¬((b.length:Int) - (y:Int)<(n:Int)):=by omega
 obtain⟨⟨o2,c2⟩,hF⟩:∃o,qp n wh [] ((b.drop y).take n)=o:=⟨_,rfl⟩
 rw[hF] at h;simp only at h;have HF:=Z hF;have HH:=Z h;obtain⟨La,dm,bU⟩:=YT (lo:=y) (hi:=y+n) HV.O (by omega) (by omega);rw[Nat.add_sub_cancel_left] at bU;have ov:∀w',(Instr.slice 22 (.slice va b.length vc) (some (E (y:Int))) (some (.int .i64 ((y:Int)+(n:Int)))) none).run prog w'= .ok (.slice La n (vc - y)) w':=by
  exact Y_
 have aM:(b.take (y+n)).drop y=(b.drop y).take n:=by rw[List.drop_take,Nat.add_sub_cancel_left]
 rw[aM] at bU;have J4:((b.drop y).take n).length=n:=by rw[bS,dw];omega
 have eW:=Z bU;have pG:=Z J4;clear h hF dm bU aM J4;go_enter func173,ntmps173;go_wp2_with (go_at_call 190;go_must(refine vA _ b n y 0 HG.O _ HV.O _ ?_));clear ov;go_loopg [4,10] n (fun gn L rest wr=>∃(f:Nat)(l':List Pr)(b':List UInt8)(ra:av)(rc:Nat),b'.length≤f∧gn=b'.length∧rest= .slice ra b'.length rc∧Hid (l'.length+b'.length≤b.length)∧Hid (cE wr w.heap.size L l')∧Hid (∀p∈l',PB p)∧Hid (Bs w (.slice ra b'.length rc) b')∧Below w w wr∧Hid (qp f wh l' b'=(o2,c2)))
 case atStart=>
  exact Y'
 case round=>
  obtain⟨f,l',b',ra,rc,hf,rfl,rfl,Fe,dR,jf,cT,U,ux⟩:=hrel;obtain⟨wo,rfl⟩:∃x,x=wr:=⟨_,rfl⟩
  obtain⟨aiY,Lc,rfl⟩:=cE.shape dR.O;have G_:=U.size;by_cases u_:0<b'.length;rotate_left
  ·have aM:b'= []:=n_ (by omega);subst aM;have iK:=ux.O;rw[Zb] at iK;simp only[Prod.mk.injEq] at iK;obtain⟨rfl,rfl⟩:=iK;have hh:=HH.O;rw[if_neg (by simp)] at hh;simp only[Prod.mk.injEq] at hh;obtain⟨rfl,rfl,rfl⟩:=hh;clear ux;go_wp2;go_ret3;exact HR.O _ _ _ dR.O U
  have aiZ:(0:Int)<(b'.length:Int):=by omega
  obtain⟨f',rfl⟩:∃f',f=f'+1:=⟨f - 1,by omega⟩
  have bf:b'≠ []:=fun J=>by rw[J] at u_;simp at u_
  have iK:=ux.O;unfold qp at iK;rw[if_neg bf] at iK;obtain⟨⟨sc,p,m⟩,W⟩:∃s,rm wh l' b'=s:=⟨_,rfl⟩
  rw[W] at iK;simp only at iK;have HS:=Z W;by_cases j':sc≠0
  ·rw[if_pos j'] at iK;simp only[Prod.mk.injEq] at iK;obtain⟨rfl,rfl⟩:=iK;have au9:¬(sc:Int)=0:=by omega
   have hh:=HH.O;rw[if_pos j'] at hh;simp only[Prod.mk.injEq] at hh;obtain⟨rfl,rfl,rfl⟩:=hh;have AJ:=Z j';clear W bf j' ux;go_wp2_with (go_at_call 191;go_must(refine aiW wh _ _ b' l' sc p m AJ.O HS.O _ (cT.O.below U) (dR.O.ps jf.O) (HT.O.below U) _ ?_);intro x1 x2 x3 x4 x5 x6 x7 w5 aE);have nE:=aQ U aE;go_ret3;exact HR.O none 0 _ (cE.nil _ _) (nE.alloc nE.size _)
  have iy:sc=0:=by omega
  subst iy;rw[if_neg j'] at iK;obtain⟨um,rfl,ai0,GZ,_,Dk,_,_,cp,dJ,_,_⟩:=Sh W;rw[toNat_natCast] at iK;have ai1:=Z iK;obtain⟨Lb,dm,bU⟩:=Hl cT.O GZ;have EJ:=Z bU;have Ss:=Z (Dk.pb cp dJ);have ox:l'.length+1≤100000000:=by have:=Fe.O;omega
  have Oa:=ai1;clear W iK Dk j' ux bU bf;obtain⟨ds,Es,aq,As,Au⟩:=dR.O;obtain⟨AK,AL,aV,Hp⟩:=cF Es As aq Au;clear As aq Au;go_wp2_with (first
   |(go_at_call 191;go_must(refine aiV wh _ _ b' l' p um HS.O _ (cT.O.below U) (dR.O.ps jf.O) (HT.O.below U) _ ?_);intro d5 w5 fH aE;obtain⟨da,dc,rfl⟩:=cR fH;have fE:=World.ownsRow.alloc (aR aV.O aE) (.cells (eA p da dc) 147);have nE:=aQ U aE;have bu:=nE.alloc nE.size (.cells (eA p da dc) 147);have bQ:=dO (w5.alloc (.cells (eA p da dc) 147)) (eA p da dc) 147 5 1 rfl;rw[show(w5.alloc (.cells (eA p da dc) 147)).heap.size=w5.heap.size+1 by simp] at bQ)
   |(at_builtin;go_must(refine kU (by rfl) (.tmp 50) (.tmp 52) 32 (by rfl) w 147 (.agg jt) 5 72 underlying32 Tryz.Ar rfl (by decide) _ _ _ _ rfl (World.ownsRow.alloc fE _) _ _ _ _ rfl bQ (Br _ _ _) (by simp) (by unfold maxLen;omega) (by omega) (by have:=nE.size;simp;omega) ?_)))
  intro fS c6 w6 eo bI;have lJ:iZ 5 w5 w6:=(iZ.below ((aD w5 _).alloc (by simp) _)).trans (iZ.G1 (fE.alloc _) bI (by decide));have BN:Below w w w6:=bT (bu.alloc bu.size _) bI (by have:=nE.size;simp;omega) (fE.alloc _);have jG:∀v∈ds,CS v (.slice da p.data.length dc):=by
   intro v hv k G J;obtain⟨i,hi,rfl⟩:=lD hv;have h1:=((AL.O i (by rw[←AK.O];exact hi)).lt k G).2;have h2:=(fH.lt k J).1
   omega
  have zm:cE w6 w.heap.size (.slice fS (l'.length+1) c6) (l'++ [p]):=cE.push AK.O (fun i hi=>aR (AL.O i hi) aE) lJ eo (cm fH U.size) Hp.O jG;have Ff:=Z zm;have J5:Hid (∀q∈l'++ [p],PB q):=Z fun q hq=>by
   exact Za
  clear zm jG lJ eo bI fE fH bQ bu aE nE;go_wp2;go_roundg (b'.drop um).length
  case measure=>rw[dw];omega
  case rel=>exact⟨f',l'++ [p],b'.drop um,Lb,rc - um,by rw[dw];omega,rfl,by rw[dw],Z (by have:=Fe.O;rw[aK,dw];simp;omega),Ff,J5,by rw[dw];exact EJ,BN,Oa⟩
theorem Ob{P:Prop}(h:P:=by
 obtain rfl:r=false:=HR.O.symm;go_enter func188,ntmps188;go_wp2
 all_goals first|exact aM|exact I _ aM):P:=h
theorem Zc(d e:Value)(p q:Pr)(r:Bool)(hr:CY p q=r)(w:World)(hp:PC w d p)(hq:PC w e q)(R:ak)
 (I:∀w',Below w w w'→R (.returned (.bool r)) w'):
 Calls prog 188 #[.agg (bL p d),.agg (bL q e)] w R:=by
 obtain⟨i,n,t,u,x⟩:=p;obtain⟨i',n',t',u',x'⟩:=q;have aM:=(aD w (.cells #[Value.int .i64 i,Value.int .i64 n,.string (str t),.string (str u),d] 147)).alloc (by simp) (.cells #[Value.int .i64 i',Value.int .i64 n',.string (str t'),.string (str u'),e] 147);have k1:=lU (P:=prog) underlying22 underlying5 underlying9 (hp.hd.below aM);have k2:=lU (P:=prog) underlying22 underlying5 underlying9 (hq.hd.below aM);unfold CY at hr;simp only at*;obtain⟨r1,h1⟩:∃x,(i==i')=x:=⟨_,rfl⟩
 obtain⟨r2,h2⟩:∃x,(n==n')=x:=⟨_,rfl⟩
 obtain⟨r3,h3⟩:∃x,(t==t')=x:=⟨_,rfl⟩
 obtain⟨r4,h4⟩:∃x,(u==u')=x:=⟨_,rfl⟩
 obtain⟨r5,h5⟩:∃y,(x==x')=y:=⟨_,rfl⟩
 rw[h1,h2,h3,h4,h5] at hr;have HR:=Z hr;clear hp hq hr;cases r1 with
 |false=>
  exact Ob
 |true=>
  cases r2 with
  |false=>
   exact Ob
  |true=>
   cases r3 with
   |false=>
    exact Ob
   |true=>
    cases r4 with
    |false=>
     exact Ob
    |true=>
     obtain rfl:r=r5:=by have:=HR.O;simpa using this.symm
     go_enter func188,ntmps188;go_wp2
     all_goals first|exact aM|exact I _ aM
theorem ai2(v u:Value)(l m:List Pr)(r:Bool)(hr:Bq l m=r)(w:World)(hv:Ps w v l)(hu:Ps w u m)(R:ak)
 (I:∀w',Below w w w'→R (.returned (.bool r)) w'):
 Calls prog 187 #[v,u,.func (.func 188) #[] #[]] w R:=by
 obtain⟨HR,HV,HU,gu⟩:=cF I hv hu hr;clear I hr;obtain⟨va,vc,rfl,_⟩:=hv;obtain⟨ua,uc,rfl,_⟩:=hu;by_cases bk:l.length=m.length;rotate_left
 ·have bf:((l.length:Int) != (m.length:Int))=true:=by simp;omega
  obtain rfl:r=false:=by
   rw[←gu.O];exact dN fun h=>bk (by rw[h])
  have CX:¬(l.length:Int)=(m.length:Int):=by omega
  clear bk;go_enter func187,ntmps187;go_wp2;exact HR.O _ dg
 have CX:(l.length:Int)=(m.length:Int):=by omega
 have oR:=Z bk;have bf:((l.length:Int) != (m.length:Int))=false:=by simp[bk]
 clear bk CX;go_enter func187,ntmps187;go_wp2;go_loopg [7,8,9,17] l.length (fun gn _ _ _ i wr=>∃k:Nat,k≤l.length∧gn=l.length - k∧i= .int .i64 k∧Below w w wr∧Hid (l.take k=m.take k))
 case atStart=>exact⟨0,bP _,by omega,rfl,Below.refl _ _,Z rfl⟩
 case round=>
  obtain⟨k,G,rfl,rfl,U,HS⟩:=hrel;obtain⟨wo,rfl⟩:∃x,x=wr:=⟨_,rfl⟩
  by_cases au:k<l.length
  ·have bo:(k:Int)<(l.length:Int):=by omega
   have jK:k<m.length:=by have:=oR.O;omega
   have J6:(k:Int)<(m.length:Int):=by omega
   obtain⟨EU,EV,ee,_,_,_,v4⟩:=HV.O.below U;simp only[Value.slice.injEq] at ee;obtain⟨rfl,-,rfl⟩:=ee;obtain⟨vb,vo,rfl,v5⟩:=v4 (by omega);obtain⟨d0,⟨p0,p1,p2,p3,p4⟩,iJ⟩:=v5 k au;obtain⟨ai3,ai4,ee,_,_,_,u4⟩:=HU.O.below U;simp only[Value.slice.injEq] at ee;obtain⟨rfl,-,rfl⟩:=ee;obtain⟨ub,uo,rfl,u5⟩:=u4 (by omega);obtain⟨e0,⟨q0,q1,q2,q3,q4⟩,xI⟩:=u5 k jK;have oy:Hid (l.take (k+1)=l.take k++ [l[k]]):=Z (kF au);have BO:Hid (m.take (k+1)=m.take k++ [m[k]]):=Z (kF jK);have G2:Hid (l[k]? =some l[k]):=Z (dW au);have lG:Hid (m[k]? =some m[k]):=Z (dW jK);obtain⟨y,hy⟩:=ai (l[k]);obtain⟨y',J7⟩:=ai (m[k]);rw[hy] at p0 p1 p2 p3 iJ oy G2;rw[J7] at q0 q1 q2 q3 xI BO lG;obtain⟨d1,d2,d3,rfl⟩:∃a n c,d0= .slice a n c:=by obtain⟨a,c,h,_⟩:=iJ.hd;exact⟨_,_,_,h⟩
   obtain⟨e1,e2,e3,rfl⟩:∃a n c,e0= .slice a n c:=by obtain⟨a,c,h,_⟩:=xI.hd;exact⟨_,_,_,h⟩
   have vC:Below wo wo (wo.alloc (.cells #[.int .i64 y.id,.int .i64 y.num,.string (str y.text),.string (str y.pair),.slice d1 d2 d3] 147)):=aD _ _;have ava:=cell_later vC q0;have avb:=cell_later vC q1;have avc:=cell_later vC q2;have avd:=cell_later vC q3;have ave:=cell_later vC q4;have qz:Below wo wo ((wo.alloc (.cells #[.int .i64 y.id,.int .i64 y.num,.string (str y.text),.string (str y.pair),.slice d1 d2 d3] 147)).alloc (.cells #[.int .i64 y'.id,.int .i64 y'.num,.string (str y'.text),.string (str y'.pair),.slice e1 e2 e3] 147)):=vC.alloc (by simp) _;have tm:=Z (iJ.below qz);have Fg:=Z (xI.below qz);have Dj:=Z (bG U qz);obtain⟨g,A⟩:=ai (CY y y');have xJ:=Z A;clear v4 v5 u4 u5 hy J7 iJ xI A vC qz;cases g with
   |true=>
    have J8:y=y':=(Nk y y').1 xJ.O;have HN:Hid (l.take (k+1)=m.take (k+1)):=by
     refine Z ?_;rw[oy.O,BO.O,HS.O,J8]
    clear J8;go_wp2_with (go_at_call 188;go_must(refine Zc _ _ y y' true xJ.O _ tm.O Fg.O _ ?_);intro w5 aE;have bu:=bG Dj.O aE);exact XH
   |false=>
    have Nn:y≠y':=fun h=>by have:=(Nk y y').2 h;rw[xJ.O] at this;cases this
    obtain rfl:r=false:=by
     exact XI
    clear Nn;go_wp2_with (go_at_call 188;go_must(refine Zc _ _ y y' false xJ.O _ tm.O Fg.O _ ?_);intro w5 aE;have bu:=bG Dj.O aE);exact HR.O _ bu
  have bo:¬(k:Int)<(l.length:Int):=by omega
  exact XJ
theorem J9(v u:Value)(l m:List Pr)(r:Bool)(hr:Bq l m=r)(w:World)(hv:Ps w v l)(hu:Ps w u m)(R:ak)
 (I:∀w',Below w w w'→R (.returned (.bool r)) w'):
 Calls prog 169 #[v,u] w R:=by
 have HR:=Z I;clear I;obtain⟨gu,HV,HU⟩:=bX hr hv hu;obtain⟨va,vc,rfl,_⟩:=hv;obtain⟨ua,uc,rfl,_⟩:=hu;clear hr;go_enter func169,ntmps169;go_wp2_with (go_at_call 187;go_must(refine ai2 _ _ l m r gu.O _ HV.O HU.O _ ?_);intro w1 aw);exact HR.O _ aw
variable{e:Nat}{v1 v2 v3:Value}
theorem J_(n:Int):(eE n).1.length≤4:=by
 unfold eE
 split
 ·simp
 exact(JN 3 _).2
theorem Oc(l:List UInt8):(b9 l).1.length≤65537:=by
 unfold b9 dn
 split
 ·split
  ·simp
  ·simp only[aK,fQ];omega
 simp
theorem ai5(l:List UInt8):(dn l).1.length≤65537:=by
 unfold dn
 split
 ·simp
 simp only[aK,fQ];omega
theorem Sv(x:Nat)(n:Int)(h:n≤8):(eC x n).length≤8:=by
 unfold eC
 split
 ·simp
 rw[fQ];omega
theorem Dl(p:Pr):(bR p).length≤140000:=by
 unfold bR;rw[aK];have h0:=J_ p.id;have h1:=J_ p.num;have h2:=Oc p.text;have h3:=Oc p.pair;have h4:=ai5 p.data;have h5:=Sv (u64 p.num) 1 (by omega);have h6:=Sv (u64 p.num) 2 (by omega);have h7:=Sv (u64 p.num) 4 (by omega)
 repeat' split
 all_goals first|omega|(rw[aK];omega)|(simp only[gi];omega)
theorem Hq{a b c:List UInt8}(h1:Bs w v1 a)(h2:Bs w v2 b)(h3:Bs w v3 c):yJ (w.alloc (.cells #[v1,v2,v3] e)) (.slice (some ⟨w,0,none⟩) 3 3) [a,b,c]:=
 CQ [v1,v2,v3] [a,b,c] rfl (by simp) fun i hi=>by
  match i,hi with
  |0,_=>exact⟨v1,rfl,h1⟩
  |1,_=>exact⟨v2,rfl,h2⟩
  |2,_=>exact⟨v3,rfl,h3⟩
theorem flat3(a b c:List UInt8): [a,b,c].flatten=a++(b++c):=by simp
theorem Sw{P:Prop}(h:P:=by
 have vD:Below w2 w2 w3:=bG (bq _) an;have ny:=bG vD ao;have fZ:=bG bC ny;have BP:=aR wN ny;have uy:Bs w4 (.slice none 0 0) Q:=by rw[HQ.O];exact ES _
 clear c0 c1 ke kf lh lj lk ll ln lq lr lu vD ny an ao lW Fh;have hB:=Hq (e:=22) (fO BP).2 (fO cO).2 uy;go_wp2_with (go_at_call 55;go_must(refine pC _ [aw1,P,Q] aw3 rG.O _ hB (by have:=oz.O;omega) _ ?_));intro fK c9 w9 dA cw;go_wp2;exact HR.O _ _ _ (cm dA (by have:=(fZ).size;simp;omega)) (cz ((fZ).alloc (fZ).size _) cw (by have:=(fZ).size;simp;omega))):P:=h
theorem ai6(d:Value)(p:Pr)(G:aS p.id=1)(aw3:List UInt8)(hJ:bR p=aw3)(w:World)(h:PC w d p)(hT:dy w)(R:ak)
 (I:∀Y c w',w'.ownsRow w 5 1 (.slice Y aw3.length c) aw3.length (bv aw3)→Below w w w'→R (.returned (.slice Y aw3.length c)) w'):
 Calls prog 171 #[.agg (bL p d)] w R:=by
 obtain⟨HR,HK,HP,HT⟩:=cF I G h hT;obtain⟨aw1,er,hV⟩:∃aw1 er,eE p.id=(aw1,er):=⟨_,_,rfl⟩
 have HV:=Z hV;have cW:=Dl p;rw[nB,hV] at hJ;rw[nB,hV] at cW;rw[hJ] at cW;simp only at hJ;have oz:=Z cW;have N0:Hid ((w.alloc (.cells (bL p d) 147)).heap[w.heap.size]? =some (.cells (bL p d) 147)):=Z (aH w _);have c_:=aD w (.cells (bL p d) 147);clear I h hV cW hT;obtain⟨awZ,hX⟩:=ai (u64 p.num);have Fh:IntKind.u64.wrap p.num=(awZ:Int):=by rw[←hX,IntKind.wrap_u64];unfold u64;omega
 have sx:awZ<18446744073709551616:=by rw[←hX];unfold u64;omega
 have sy:=Z sx;obtain⟨P,hP⟩:=ai (eC awZ 1);obtain⟨Q,hQ⟩:∃Q:List UInt8,Q= []:=⟨_,rfl⟩
 have ki:gx p=P:=by unfold gx;rw[G,hX];exact hP
 rw[ki] at hJ;have rG:Hid ([aw1,P,Q].flatten=aw3):=Z (by rw[flat3,hQ,od];exact hJ);have iU:=Z hP;have HQ:=Z hQ;have lW:∀w,(Op.shift .shl .i64 1 .i64 (IntKind.i64.wrap 0)).run prog w= .ok (E 1) w:=fun _=>by kernel_rfl
 clear sx hP hX ki hJ G hQ;go_enter func171,ntmps171;go_wp2_with (first
  |(go_at_call_of 172 (Value.int .i64 p.id);go_must(refine vy p.id aw1 er HV.O _ _ ?_);intro va vc w1 cS aw;have nr:=cj N0.O aw;obtain⟨gO,gP,gQ,gR,gT,gU,gV,gW,gX,gY⟩:=c5 nr;have N1:=Z nr;have aO:=bG c_ aw;have eP:=cm (jE:=w.heap.size) cS (by simp);clear nr aw cS)
  |(go_at_call 189;go_must(refine j_ p.id 1 HK.O _ _ ?_);intro w2 aj;have nr:=cj N1.O aj;clear gO gP gQ gR gT gU gV gW gX gY;obtain⟨ke,kf,lh,lj,lk,ll,ln,lq,lr,lu⟩:=c5 nr;have N2:=Z nr;have bC:=bG aO aj;have wN:=aR eP aj;clear nr aj eP))
 have c0:w2.drew.cell? ⟨w,0,none⟩=some (.int .i64 p.id):=ke;have c1:w2.drew.cell? ⟨w,1,none⟩=some (.int .i64 p.num):=kf;go_region_held3 (fun x=>x.cell? ⟨w,0,none⟩=some (.int .i64 p.id)∧x.cell? ⟨w,1,none⟩=some (.int .i64 p.num))
  (first|exact⟨c0,c1⟩|exact⟨cell_later an c0,cell_later an c1⟩|exact⟨cell_later ao (cell_later an c0),cell_later ao (cell_later an c1)⟩|go_keep)
  (first
   |(go_at_call 189;refine j_ p.id 1 HK.O _ _ ?_;intro w3 an)
   |(go_at_call 56;refine yW awZ sy.O 1 P iU.O _ _ ?_;intro V X w4 cO ao))
 all_goals
  exact Sw
theorem ai7(d:Value)(p:Pr)(G:aS p.id=2)(aw3:List UInt8)(hJ:bR p=aw3)(w:World)(h:PC w d p)(hT:dy w)(R:ak)
 (I:∀Y c w',w'.ownsRow w 5 1 (.slice Y aw3.length c) aw3.length (bv aw3)→Below w w w'→R (.returned (.slice Y aw3.length c)) w'):
 Calls prog 171 #[.agg (bL p d)] w R:=by
 obtain⟨HR,HK,HP,HT⟩:=cF I G h hT;obtain⟨aw1,er,hV⟩:∃aw1 er,eE p.id=(aw1,er):=⟨_,_,rfl⟩
 have HV:=Z hV;have cW:=Dl p;rw[nB,hV] at hJ;rw[nB,hV] at cW;rw[hJ] at cW;simp only at hJ;have oz:=Z cW;have N0:Hid ((w.alloc (.cells (bL p d) 147)).heap[w.heap.size]? =some (.cells (bL p d) 147)):=Z (aH w _);have c_:=aD w (.cells (bL p d) 147);clear I h hV cW hT;obtain⟨awZ,hX⟩:=ai (u64 p.num);have Fh:IntKind.u64.wrap p.num=(awZ:Int):=by rw[←hX,IntKind.wrap_u64];unfold u64;omega
 have sx:awZ<18446744073709551616:=by rw[←hX];unfold u64;omega
 have sy:=Z sx;obtain⟨P,hP⟩:=ai (eC awZ 2);obtain⟨Q,hQ⟩:∃Q:List UInt8,Q= []:=⟨_,rfl⟩
 have ki:gx p=P:=by unfold gx;rw[G,hX];exact hP
 rw[ki] at hJ;have rG:Hid ([aw1,P,Q].flatten=aw3):=Z (by rw[flat3,hQ,od];exact hJ);have iU:=Z hP;have HQ:=Z hQ;have lW:∀w,(Op.shift .shl .i64 1 .i64 (IntKind.i64.wrap 1)).run prog w= .ok (E 2) w:=fun _=>by kernel_rfl
 clear sx hP hX ki hJ G hQ;go_enter func171,ntmps171;go_wp2_with (first
  |(go_at_call_of 172 (Value.int .i64 p.id);go_must(refine vy p.id aw1 er HV.O _ _ ?_);intro va vc w1 cS aw;have nr:=cj N0.O aw;obtain⟨gO,gP,gQ,gR,gT,gU,gV,gW,gX,gY⟩:=c5 nr;have N1:=Z nr;have aO:=bG c_ aw;have eP:=cm (jE:=w.heap.size) cS (by simp);clear nr aw cS)
  |(go_at_call 189;go_must(refine j_ p.id 2 HK.O _ _ ?_);intro w2 aj;have nr:=cj N1.O aj;clear gO gP gQ gR gT gU gV gW gX gY;obtain⟨ke,kf,lh,lj,lk,ll,ln,lq,lr,lu⟩:=c5 nr;have N2:=Z nr;have bC:=bG aO aj;have wN:=aR eP aj;clear nr aj eP))
 have c0:w2.drew.cell? ⟨w,0,none⟩=some (.int .i64 p.id):=ke;have c1:w2.drew.cell? ⟨w,1,none⟩=some (.int .i64 p.num):=kf;go_region_held3 (fun x=>x.cell? ⟨w,0,none⟩=some (.int .i64 p.id)∧x.cell? ⟨w,1,none⟩=some (.int .i64 p.num))
  (first|exact⟨c0,c1⟩|exact⟨cell_later an c0,cell_later an c1⟩|exact⟨cell_later ao (cell_later an c0),cell_later ao (cell_later an c1)⟩|go_keep)
  (first
   |(go_at_call 189;refine j_ p.id 2 HK.O _ _ ?_;intro w3 an)
   |(go_at_call 56;refine yW awZ sy.O 2 P iU.O _ _ ?_;intro V X w4 cO ao))
 all_goals
  exact Sw
theorem ai8(d:Value)(p:Pr)(G:aS p.id=3)(aw3:List UInt8)(hJ:bR p=aw3)(w:World)(h:PC w d p)(hT:dy w)(R:ak)
 (I:∀Y c w',w'.ownsRow w 5 1 (.slice Y aw3.length c) aw3.length (bv aw3)→Below w w w'→R (.returned (.slice Y aw3.length c)) w'):
 Calls prog 171 #[.agg (bL p d)] w R:=by
 obtain⟨HR,HK,HP,HT⟩:=cF I G h hT;obtain⟨aw1,er,hV⟩:∃aw1 er,eE p.id=(aw1,er):=⟨_,_,rfl⟩
 have HV:=Z hV;have cW:=Dl p;rw[nB,hV] at hJ;rw[nB,hV] at cW;rw[hJ] at cW;simp only at hJ;have oz:=Z cW;have N0:Hid ((w.alloc (.cells (bL p d) 147)).heap[w.heap.size]? =some (.cells (bL p d) 147)):=Z (aH w _);have c_:=aD w (.cells (bL p d) 147);clear I h hV cW hT;obtain⟨awZ,hX⟩:=ai (u64 p.num);have Fh:IntKind.u64.wrap p.num=(awZ:Int):=by rw[←hX,IntKind.wrap_u64];unfold u64;omega
 have sx:awZ<18446744073709551616:=by rw[←hX];unfold u64;omega
 have sy:=Z sx;obtain⟨P,hP⟩:=ai (eC awZ 4);obtain⟨Q,hQ⟩:∃Q:List UInt8,Q= []:=⟨_,rfl⟩
 have ki:gx p=P:=by unfold gx;rw[G,hX];exact hP
 rw[ki] at hJ;have rG:Hid ([aw1,P,Q].flatten=aw3):=Z (by rw[flat3,hQ,od];exact hJ);have iU:=Z hP;have HQ:=Z hQ;have lW:∀w,(Op.shift .shl .i64 1 .i64 (IntKind.i64.wrap 2)).run prog w= .ok (E 4) w:=fun _=>by kernel_rfl
 clear sx hP hX ki hJ G hQ;go_enter func171,ntmps171;go_wp2_with (first
  |(go_at_call_of 172 (Value.int .i64 p.id);go_must(refine vy p.id aw1 er HV.O _ _ ?_);intro va vc w1 cS aw;have nr:=cj N0.O aw;obtain⟨gO,gP,gQ,gR,gT,gU,gV,gW,gX,gY⟩:=c5 nr;have N1:=Z nr;have aO:=bG c_ aw;have eP:=cm (jE:=w.heap.size) cS (by simp);clear nr aw cS)
  |(go_at_call 189;go_must(refine j_ p.id 3 HK.O _ _ ?_);intro w2 aj;have nr:=cj N1.O aj;clear gO gP gQ gR gT gU gV gW gX gY;obtain⟨ke,kf,lh,lj,lk,ll,ln,lq,lr,lu⟩:=c5 nr;have N2:=Z nr;have bC:=bG aO aj;have wN:=aR eP aj;clear nr aj eP))
 have c0:w2.drew.cell? ⟨w,0,none⟩=some (.int .i64 p.id):=ke;have c1:w2.drew.cell? ⟨w,1,none⟩=some (.int .i64 p.num):=kf;go_region_held3 (fun x=>x.cell? ⟨w,0,none⟩=some (.int .i64 p.id)∧x.cell? ⟨w,1,none⟩=some (.int .i64 p.num))
  (first|exact⟨c0,c1⟩|exact⟨cell_later an c0,cell_later an c1⟩|exact⟨cell_later ao (cell_later an c0),cell_later ao (cell_later an c1)⟩|go_keep)
  (first
   |(go_at_call 189;refine j_ p.id 3 HK.O _ _ ?_;intro w3 an)
   |(go_at_call 56;refine yW awZ sy.O 4 P iU.O _ _ ?_;intro V X w4 cO ao))
 all_goals
  exact Sw
theorem Sx{P:Prop}(h:P:=by
 intro fK c9 w9 dA cw;go_wp2;exact HR.O _ _ _ (cm dA (by have:=fZ.size;simp;omega)) (cz (fZ.alloc fZ.size _) cw (by have:=fZ.size;simp;omega))):P:=h
theorem ai9(d:Value)(p:Pr)(G:aS p.id=4)(aw3:List UInt8)(hJ:bR p=aw3)(w:World)(h:PC w d p)(hT:dy w)(R:ak)
 (I:∀Y c w',w'.ownsRow w 5 1 (.slice Y aw3.length c) aw3.length (bv aw3)→Below w w w'→R (.returned (.slice Y aw3.length c)) w'):
 Calls prog 171 #[.agg (bL p d)] w R:=by
 obtain⟨HR,HK,HP,HT⟩:=cF I G h hT;obtain⟨aw1,er,hV⟩:∃aw1 er,eE p.id=(aw1,er):=⟨_,_,rfl⟩
 have HV:=Z hV;have cW:=Dl p;rw[nB,hV] at hJ;rw[nB,hV] at cW;rw[hJ] at cW;simp only at hJ;have oz:=Z cW;have N0:Hid ((w.alloc (.cells (bL p d) 147)).heap[w.heap.size]? =some (.cells (bL p d) 147)):=Z (aH w _);have c_:=aD w (.cells (bL p d) 147);clear I h hV cW hT;obtain⟨P,e2,hP⟩:∃P e2,eE p.num=(P,e2):=⟨_,_,rfl⟩
 obtain⟨Q,hQ⟩:∃Q:List UInt8,Q= []:=⟨_,rfl⟩
 have ki:gx p=P:=by unfold gx;rw[G,hP];rfl
 rw[ki] at hJ;have rG:Hid ([aw1,P,Q].flatten=aw3):=Z (by rw[flat3,hQ,od];exact hJ);have iU:=Z hP;have HQ:=Z hQ;clear hP ki hJ G hQ;go_enter func171,ntmps171;go_wp2_with (first
  |(go_at_call 189;go_must(refine j_ p.id 4 HK.O _ _ ?_);intro w2 aj;have nr:=cj N1.O aj;clear gO gP gQ gR gT gU gV gW gX gY;obtain⟨ke,kf,lh,lj,lk,ll,ln,lq,lr,lu⟩:=c5 nr;have N2:=Z nr;have bC:=bG aO aj;have wN:=aR eP aj;clear nr aj eP)
  |(have _:=N2.O;go_at_call 172;go_must(refine vy p.num P e2 iU.O _ _ ?_);intro V X w4 cO ao;have fZ:=bG bC ao;have BP:=aR wN ao;have uy:Bs w4 (.slice none 0 0) Q:=(by rw[HQ.O];exact ES _);have hB:=Hq (e:=22) (fO BP).2 (fO cO).2 uy;clear ke kf lh lj lk ll ln lq lr lu ao)
  |(go_at_call_of 172 (Value.int .i64 p.id);go_must(refine vy p.id aw1 er HV.O _ _ ?_);intro va vc w1 cS aw;have nr:=cj N0.O aw;obtain⟨gO,gP,gQ,gR,gT,gU,gV,gW,gX,gY⟩:=c5 nr;have N1:=Z nr;have aO:=bG c_ aw;have eP:=cm (jE:=w.heap.size) cS (by simp);clear nr aw cS)
  |(go_at_call 55;go_must(refine pC _ [aw1,P,Q] aw3 rG.O _ hB (by have:=oz.O;omega) _ ?_)))
 exact Sx
theorem aja(d:Value)(p:Pr)(G:aS p.id=5)(aw3:List UInt8)(hJ:bR p=aw3)(w:World)(h:PC w d p)(hT:dy w)(R:ak)
 (I:∀Y c w',w'.ownsRow w 5 1 (.slice Y aw3.length c) aw3.length (bv aw3)→Below w w w'→R (.returned (.slice Y aw3.length c)) w'):
 Calls prog 171 #[.agg (bL p d)] w R:=by
 obtain⟨HR,HK,HP,HT⟩:=cF I G h hT;obtain⟨aw1,er,hV⟩:∃aw1 er,eE p.id=(aw1,er):=⟨_,_,rfl⟩
 have HV:=Z hV;have cW:=Dl p;rw[nB,hV] at hJ;rw[nB,hV] at cW;rw[hJ] at cW;simp only at hJ;have oz:=Z cW;have N0:Hid ((w.alloc (.cells (bL p d) 147)).heap[w.heap.size]? =some (.cells (bL p d) 147)):=Z (aH w _);have c_:=aD w (.cells (bL p d) 147);clear I h hV cW hT;obtain⟨P,e2,hP⟩:∃P e2,b9 p.text=(P,e2):=⟨_,_,rfl⟩
 obtain⟨Q,hQ⟩:∃Q:List UInt8,Q= []:=⟨_,rfl⟩
 have ki:gx p=P:=by unfold gx;rw[G,hP];rfl
 rw[ki] at hJ;have rG:Hid ([aw1,P,Q].flatten=aw3):=Z (by rw[flat3,hQ,od];exact hJ);have iU:=Z hP;have HQ:=Z hQ;clear hP ki hJ G hQ;go_enter func171,ntmps171;go_wp2_with (first
  |(go_at_call_of 172 (Value.int .i64 p.id);go_must(refine vy p.id aw1 er HV.O _ _ ?_);intro va vc w1 cS aw;have nr:=cj N0.O aw;obtain⟨gO,gP,gQ,gR,gT,gU,gV,gW,gX,gY⟩:=c5 nr;have N1:=Z nr;have aO:=bG c_ aw;have eP:=cm (jE:=w.heap.size) cS (by simp);clear nr aw cS)
  |(go_at_call 189;go_must(refine j_ p.id 5 HK.O _ _ ?_);intro w2 aj;have nr:=cj N1.O aj;clear gO gP gQ gR gT gU gV gW gX gY;obtain⟨ke,kf,lh,lj,lk,ll,ln,lq,lr,lu⟩:=c5 nr;have N2:=Z nr;have bC:=bG aO aj;have wN:=aR eP aj;clear nr aj eP)
  |(go_at_call 54;go_must(refine Db p.text P e2 iU.O _ (by have:=HP.O.lt;omega) (HT.O.below bC) _ ?_);intro V X w4 cO ao;have fZ:=bG bC ao;have BP:=aR wN ao;have uy:Bs w4 (.slice none 0 0) Q:=(by rw[HQ.O];exact ES _);have hB:=Hq (e:=22) (fO BP).2 (fO cO).2 uy;clear ke kf lh lj lk ll ln lq lr lu ao)
  |(go_at_call 55;go_must(refine pC _ [aw1,P,Q] aw3 rG.O _ hB (by have:=oz.O;omega) _ ?_)))
 exact Sx
theorem ajb(d:Value)(p:Pr)(G:aS p.id=6)(aw3:List UInt8)(hJ:bR p=aw3)(w:World)(h:PC w d p)(hT:dy w)(R:ak)
 (I:∀Y c w',w'.ownsRow w 5 1 (.slice Y aw3.length c) aw3.length (bv aw3)→Below w w w'→R (.returned (.slice Y aw3.length c)) w'):
 Calls prog 171 #[.agg (bL p d)] w R:=by
 obtain⟨HR,HK,HP,HT⟩:=cF I G h hT;obtain⟨aw1,er,hV⟩:∃aw1 er,eE p.id=(aw1,er):=⟨_,_,rfl⟩
 have HV:=Z hV;have cW:=Dl p;rw[nB,hV] at hJ;rw[nB,hV] at cW;rw[hJ] at cW;simp only at hJ;have oz:=Z cW;have N0:Hid ((w.alloc (.cells (bL p d) 147)).heap[w.heap.size]? =some (.cells (bL p d) 147)):=Z (aH w _);have c_:=aD w (.cells (bL p d) 147);clear I h hV cW hT;obtain⟨P,e2,hP⟩:∃P e2,dn p.data=(P,e2):=⟨_,_,rfl⟩
 obtain⟨Q,hQ⟩:∃Q:List UInt8,Q= []:=⟨_,rfl⟩
 have ki:gx p=P:=by unfold gx;rw[G,hP];rfl
 rw[ki] at hJ;have rG:Hid ([aw1,P,Q].flatten=aw3):=Z (by rw[flat3,hQ,od];exact hJ);have iU:=Z hP;have HQ:=Z hQ;clear hP ki hJ G hQ;go_enter func171,ntmps171;go_wp2_with (first
  |(go_at_call_of 172 (Value.int .i64 p.id);go_must(refine vy p.id aw1 er HV.O _ _ ?_);intro va vc w1 cS aw;have nr:=cj N0.O aw;obtain⟨gO,gP,gQ,gR,gT,gU,gV,gW,gX,gY⟩:=c5 nr;have N1:=Z nr;have aO:=bG c_ aw;have eP:=cm (jE:=w.heap.size) cS (by simp);clear nr aw cS)
  |(go_at_call 189;go_must(refine j_ p.id 6 HK.O _ _ ?_);intro w2 aj;have nr:=cj N1.O aj;clear gO gP gQ gR gT gU gV gW gX gY;obtain⟨ke,kf,lh,lj,lk,ll,ln,lq,lr,lu⟩:=c5 nr;have N2:=Z nr;have bC:=bG aO aj;have wN:=aR eP aj;clear nr aj eP)
  |(go_at_call 118;go_must(refine JI _ p.data P e2 iU.O _ (HP.O.hd.below bC) _ ?_);intro V X w4 cO ao;have fZ:=bG bC ao;have BP:=aR wN ao;have uy:Bs w4 (.slice none 0 0) Q:=(by rw[HQ.O];exact ES _);have hB:=Hq (e:=22) (fO BP).2 (fO cO).2 uy;clear ke kf lh lj lk ll ln lq lr lu ao)
  |(go_at_call 55;go_must(refine pC _ [aw1,P,Q] aw3 rG.O _ hB (by have:=oz.O;omega) _ ?_)))
 exact Sx
theorem ajc(d:Value)(p:Pr)(G:aS p.id=7)(aw3:List UInt8)(hJ:bR p=aw3)(w:World)(h:PC w d p)(hT:dy w)(R:ak)
 (I:∀Y c w',w'.ownsRow w 5 1 (.slice Y aw3.length c) aw3.length (bv aw3)→Below w w w'→R (.returned (.slice Y aw3.length c)) w'):
 Calls prog 171 #[.agg (bL p d)] w R:=by
 obtain⟨HR,HK,HP,HT⟩:=cF I G h hT;obtain⟨aw1,er,hV⟩:∃aw1 er,eE p.id=(aw1,er):=⟨_,_,rfl⟩
 have HV:=Z hV;have cW:=Dl p;rw[nB,hV] at hJ;rw[nB,hV] at cW;rw[hJ] at cW;simp only at hJ;have oz:=Z cW;have N0:Hid ((w.alloc (.cells (bL p d) 147)).heap[w.heap.size]? =some (.cells (bL p d) 147)):=Z (aH w _);have c_:=aD w (.cells (bL p d) 147);clear I h hV cW hT;obtain⟨P,e2,hP⟩:∃P e2,b9 p.text=(P,e2):=⟨_,_,rfl⟩
 obtain⟨Q,e3,hQ⟩:∃Q e3,b9 p.pair=(Q,e3):=⟨_,_,rfl⟩
 have ki:gx p=P++Q:=by unfold gx;rw[G,hP,hQ];rfl
 rw[ki] at hJ;have rG:Hid ([aw1,P,Q].flatten=aw3):=Z (by rw[flat3];exact hJ);have iU:=Z hP;have HQ:=Z hQ;clear hP ki hJ G hQ;go_enter func171,ntmps171;go_wp2_with (first
  |(go_at_call_of 172 (Value.int .i64 p.id);go_must(refine vy p.id aw1 er HV.O _ _ ?_);intro va vc w1 cS aw;have nr:=cj N0.O aw;obtain⟨gO,gP,gQ,gR,gT,gU,gV,gW,gX,gY⟩:=c5 nr;have N1:=Z nr;have aO:=bG c_ aw;have eP:=cm (jE:=w.heap.size) cS (by simp);clear nr aw cS)
  |(go_at_call 189;go_must(refine j_ p.id 7 HK.O _ _ ?_);intro w2 aj;have nr:=cj N1.O aj;clear gO gP gQ gR gT gU gV gW gX gY;obtain⟨ke,kf,lh,lj,lk,ll,ln,lq,lr,lu⟩:=c5 nr;have N2:=Z nr;have bC:=bG aO aj;have wN:=aR eP aj;clear nr aj eP)
  |(have n2:=N2.O;go_at_call 54;go_must(refine Db p.text P e2 iU.O _ (by have:=HP.O.lt;omega) (HT.O.below bC) _ ?_);intro V X w4 cO ao;have fZ:=bG bC ao;have BP:=aR wN ao;have nr:=cj n2 ao;clear ke kf lh lj lk ll ln lq lr lu n2 N2;obtain⟨E5,E6,E7,E8,E9,E_,E',Fa,Fb,Fc⟩:=c5 nr;clear ao nr)
  |(go_at_call 54;go_must(refine Db p.pair Q e3 HQ.O _ (by have:=HP.O.lp;omega) (HT.O.below fZ) _ ?_);intro qa qc w6 eo bd;have fJ:=bG fZ bd;have AM:=aR BP bd;have ajd:=aR cO bd;have hB:=Hq (e:=22) (fO AM).2 (fO ajd).2 (fO eo).2;clear E5 E6 E7 E8 E9 E_ E' Fa Fb Fc bd)
  |(go_at_call 55;go_must(refine pC _ [aw1,P,Q] aw3 rG.O _ hB (by have:=oz.O;omega) _ ?_)))
 intro fK c9 w9 dA cw;go_wp2;exact HR.O _ _ _ (cm dA (by have:=fJ.size;simp;omega)) (cz (fJ.alloc fJ.size _) cw (by have:=fJ.size;simp;omega))
theorem aje(d:Value)(p:Pr)(G:aS p.id=0)(aw3:List UInt8)(hJ:bR p=aw3)(w:World)(h:PC w d p)(hT:dy w)(R:ak)
 (I:∀Y c w',w'.ownsRow w 5 1 (.slice Y aw3.length c) aw3.length (bv aw3)→Below w w w'→R (.returned (.slice Y aw3.length c)) w'):
 Calls prog 171 #[.agg (bL p d)] w R:=by
 obtain⟨HR,HK,HP,HT⟩:=cF I G h hT;obtain⟨aw1,er,hV⟩:∃aw1 er,eE p.id=(aw1,er):=⟨_,_,rfl⟩
 have HV:=Z hV;have cW:=Dl p;rw[nB,hV] at hJ;rw[nB,hV] at cW;rw[hJ] at cW;simp only at hJ;have oz:=Z cW;have N0:Hid ((w.alloc (.cells (bL p d) 147)).heap[w.heap.size]? =some (.cells (bL p d) 147)):=Z (aH w _);have c_:=aD w (.cells (bL p d) 147);clear I h hV cW hT;obtain⟨P,hP⟩:∃P:List UInt8,P= []:=⟨_,rfl⟩
 obtain⟨Q,hQ⟩:∃Q:List UInt8,Q= []:=⟨_,rfl⟩
 have ki:gx p=P:=by unfold gx;rw[G,hP];rfl
 rw[ki] at hJ;have rG:Hid ([aw1,P,Q].flatten=aw3):=Z (by rw[flat3,hQ,od];exact hJ);have iU:=Z hP;have HQ:=Z hQ;clear hP ki hJ G hQ;go_enter func171,ntmps171;go_wp2_with (first
  |(go_at_call_of 172 (Value.int .i64 p.id);go_must(refine vy p.id aw1 er HV.O _ _ ?_);intro va vc w1 cS aw;have nr:=cj N0.O aw;obtain⟨gO,gP,gQ,gR,gT,gU,gV,gW,gX,gY⟩:=c5 nr;have N1:=Z nr;have aO:=bG c_ aw;have eP:=cm (jE:=w.heap.size) cS (by simp);clear nr aw cS)
  |(go_at_call 189;go_must(refine j_ p.id 0 HK.O _ _ ?_);intro w2 aj;have bC:=bG aO aj;have wN:=aR eP aj;have uy:Bs w2 (.slice none 0 0) Q:=(by rw[HQ.O];exact ES _);have ajf:Bs w2 (.slice none 0 0) P:=(by rw[iU.O];exact ES _);have hB:=Hq (e:=22) (fO wN).2 ajf uy;clear gO gP gQ gR gT gU gV gW gX gY aj eP)
  |(go_at_call 55;go_must(refine pC _ [aw1,P,Q] aw3 rG.O _ hB (by have:=oz.O;omega) _ ?_)))
 intro fK c9 w9 dA cw;go_wp2;exact HR.O _ _ _ (cm dA (by have:=bC.size;simp;omega)) (cz (bC.alloc bC.size _) cw (by have:=bC.size;simp;omega))
theorem ajg(d:Value)(p:Pr)(aw3:List UInt8)(hJ:bR p=aw3)(w:World)(h:PC w d p)(hT:dy w)(R:ak)
 (I:∀Y c w',w'.ownsRow w 5 1 (.slice Y aw3.length c) aw3.length (bv aw3)→Below w w w'→R (.returned (.slice Y aw3.length c)) w'):
 Calls prog 171 #[.agg (bL p d)] w R:=by
 rcases JS p.id with G|G|G|G|G|G|G|G
 ·exact aje d p G aw3 hJ w h hT R I
 ·exact ai6 d p G aw3 hJ w h hT R I
 ·exact ai7 d p G aw3 hJ w h hT R I
 ·exact ai8 d p G aw3 hJ w h hT R I
 ·exact ai9 d p G aw3 hJ w h hT R I
 ·exact aja d p G aw3 hJ w h hT R I
 ·exact ajb d p G aw3 hJ w h hT R I
 exact ajc d p G aw3 hJ w h hT R I
theorem Zd{P:Prop}(h:P:=by
 rw[←Hr];refine aJ ?_ AN.O
 conv=>rhs;rw[←yI (k+1) l,jZ,aK]
 omega):P:=h
theorem Od{a b:List UInt8}(h1:Bs w v1 a)(h2:Bs w v2 b):yJ (w.alloc (.cells #[v1,v2] e)) (.slice (some ⟨w,0,none⟩) 2 2) [a,b]:=
 CQ [v1,v2] [a,b] rfl (by simp) fun i hi=>by
  match i,hi with
  |0,_=>exact⟨v1,rfl,h1⟩
  |1,_=>exact⟨v2,rfl,h2⟩
theorem ajh(a b:List UInt8): [a,b].flatten=a++b:=by simp
theorem aji(wh:Int)(v:Value)(l:List Pr)(x:List UInt8)(c:Nat)(h:eO wh l=(x,c))(ep:(l.flatMap bR).length≤90000000)(w:World)(hv:Ps w v l)(hT:dy w)(R:ak)
 (I:∀Y cc w',w'.ownsRow w 5 1 (.slice Y x.length cc) x.length (bv x)→Below w w w'→R (.returned (.tuple #[.slice Y x.length cc,E c])) w'):
 Calls prog 155 #[E wh,v] w R:=by
 obtain⟨HR,HV,HT,HH,AN⟩:=jq I hv hT h ep;obtain⟨va,vc,rfl,_,JT,_⟩:=_root_.id hv;clear I hv hT h ep;go_enter func155,ntmps155;go_wp2;go_loopg [6,8,16] l.length (fun gn L _ i wr=>∃(k:Nat)(B:List UInt8)(ba:av)(bc:Nat),k≤l.length∧gn=l.length - k∧i= .int .i64 k∧L= .slice ba B.length bc∧Hid ((l.take k).flatMap bR=B)∧B.length≤90000000∧Hid (wr.ownsRow w 5 1 (.slice ba B.length bc) B.length (bv B))∧Below w w wr)
 case atStart=>exact⟨0,[],none,0,bP _,by omega,rfl,rfl,Z rfl,by simp,Z (bO _ _ _ _),Below.refl _ _⟩
 case round=>
  obtain⟨k,B,ba,bc,G,rfl,rfl,rfl,HB,BQ,Dm,U⟩:=hrel;obtain⟨wo,rfl⟩:∃y,y=wr:=⟨_,rfl⟩
  by_cases au:k<l.length
  ·have bo:(k:Int)<(l.length:Int):=by omega
   obtain⟨EU,EV,ee,_,_,_,v4⟩:=HV.O.below U;simp only[Value.slice.injEq] at ee;obtain⟨rfl,-,rfl⟩:=ee;obtain⟨vb,vo,rfl,v5⟩:=v4 (by omega);obtain⟨d0,⟨p0,p1,p2,p3,p4⟩,iJ⟩:=v5 k au;have oy:Hid (l.take (k+1)=l.take k++ [l[k]]):=Z (kF au);obtain⟨y,hy⟩:=ai (l[k]);rw[hy] at p0 p1 p2 p3 iJ oy;obtain⟨d1,d2,d3,rfl⟩:∃a n c,d0= .slice a n c:=by obtain⟨a,c,h,_⟩:=iJ.hd;exact⟨_,_,_,h⟩
   have qz:Below wo wo (wo.alloc (.cells #[.int .i64 y.id,.int .i64 y.num,.string (str y.text),.string (str y.pair),.slice d1 d2 d3] 147)):=aD _ _;have tm:=Z (iJ.below qz);have Dj:=Z (bG U qz);have ajj:=Z (aR Dm.O qz);obtain⟨aw3,hJ⟩:=ai (bR y);have HJ:=Z hJ;have Hr:(l.take (k+1)).flatMap bR=B++aw3:=by rw[oy.O,jZ,HB.O,List.flatMap_singleton,hJ]
   have J':(B++aw3).length≤90000000:=by
    exact Zd
   rw[aK] at J';have ct:=Z Hr;clear v4 v5 hy iJ qz hJ Hr;go_wp2_with (first
    |(go_at_call 171;go_must(refine ajg _ y aw3 HJ.O _ tm.O (HT.O.below Dj.O) _ ?_);intro ja jc w5 fH aE;have bu:=aQ Dj.O aE;have qB:=aR ajj.O aE;obtain⟨avf,avg,Ze,Zf,_,_,Zg⟩:=(fO fH).2;simp only[Value.slice.injEq] at Ze;obtain⟨rfl,-,rfl⟩:=Ze)
    |(at_builtin;go_must(refine kU (by rfl) (.tmp 20) (.tmp 22) 22 (by rfl) w 5 (.int .u8 0) 1 1 underlying22 Tryz.cP rfl (by decide) _ _ _ _ rfl qB _ _ _ _ rfl Zf (fC _) Zg (by unfold maxLen;omega) (by omega) (by have:=bu.size;omega) ?_)))
   intro fS c6 w6 eo bI;have bd:=bT bu bI (by have:=bu.size;omega) qB;rw[←qf] at eo;have AM:w6.ownsRow w 5 1 (.slice fS (B++aw3).length c6) (B++aw3).length (bv (B++aw3)):=by rw[aK];exact eo
   have lH:=Z AM;clear AM eo bI qB Zf Zg fH aE bu;go_wp2;go_roundg (l.length - (k+1))
   case measure=>omega
   case rel=>exact⟨k+1,B++aw3,fS,c6,by omega,rfl,by go_num,by rw[aK],ct,by rw[aK];exact J',lH,bd⟩
  have bo:¬(k:Int)<(l.length:Int):=by omega
  have zn:l.flatMap bR=B:=by have:=HB.O;rwa [gy (by omega)] at this
  have hh:=HH.O;unfold eO at hh;rw[zn] at hh;obtain⟨aw1,er,hV⟩:∃aw1 er,eE (B.length:Int)=(aw1,er):=⟨_,_,rfl⟩
  rw[hV] at hh;simp only at hh;have Fi:=Z hV;have N':aw1.length≤4:=by have:=J_ (B.length:Int);rw[hV] at this;exact this
  clear zn hV;by_cases Fj:er≠0
  ·rw[if_pos Fj] at hh;simp only[Prod.mk.injEq] at hh;obtain⟨rfl,rfl⟩:=hh;go_wp2_with (go_at_call 172;go_must(refine vy _ aw1 er Fi.O _ _ ?_);intro Ka Kb w5 fH aE;have bu:=aQ U aE)
   try go_ret2
   exact HR.O none 0 _ (bO _ _ _ _) bu
  have ajk:er=0:=by omega
  subst ajk;rw[if_neg Fj] at hh;obtain⟨aw0,hY⟩:=ai (aw1++B);have kK:aw0.length≤90000004:=by rw[←hY,aK];omega
  have rG:Hid ([aw1,B].flatten=aw0):=Z (by rw[ajh];exact hY);rw[hY] at hh;obtain⟨m,used,rc,bQ⟩:∃m used rc,lf wh aw0=(m,used,rc):=⟨_,_,_,rfl⟩
  rw[bQ] at hh;have vE:=Z bQ;have Oe:=Z hh;clear hh hY Fj;by_cases Kc:rc=0;rotate_left
  ·have ajl:¬(rc:Int)=0:=by omega
   have hh:=Oe.O;rw[if_neg (by simp[Kc])] at hh;simp only[Prod.mk.injEq] at hh;obtain⟨rfl,rfl⟩:=hh;clear bQ;go_wp2_with (first
    |(go_at_call 172;go_must(refine vy _ aw1 0 Fi.O _ _ ?_);intro Ka Kb w5 fH aE;have bu:=aQ U aE;have qB:=aR Dm.O aE;have hB:=Od (e:=22) (fO fH).2 (fO qB).2)
    |(go_at_call 55;go_must(refine pC _ [aw1,B] aw0 rG.O _ hB (by omega) _ ?_);intro ya yc w6 eo bd;have fJ:=cz (bu.alloc bu.size _) bd (by have:=bu.size;simp;omega);have lH:=Z (cm (jE:=w.heap.size) eo (by have:=bu.size;simp;omega));clear eo bd hB qB fH aE)
    |(go_at_call 173;go_must(refine J3 wh _ aw0 m used rc vE.O (by omega) _ (fO lH.O).2 (HT.O.below fJ) _ ?_);intro ma mc w7 BR bp;have iz:=aQ fJ bp;clear BR bp))
   try go_ret2
   exact HR.O none 0 _ (bO _ _ _ _) iz
  subst Kc;have jf:Hid (∀p∈m,PB p):=Z (by
   obtain⟨_,_,_,_,_,_,_,_,_,h8,_⟩:=JQ bQ;exact fun p hp=>by
    obtain⟨g1,_,_,g4,g5⟩:=h8 p hp;exact g1.pb g4 g5)
  clear bQ;by_cases rH:used=(aw0.length:Int)
  ·subst rH;obtain⟨sr,jT⟩:=ai (Bq m l);have AO:=Z jT;cases sr with
   |true=>
    have j3:m=l:=of_decide_eq_true jT;have hh:=Oe.O;rw[if_pos (by rw[j3])] at hh;simp only[Prod.mk.injEq] at hh;obtain⟨rfl,rfl⟩:=hh;clear jT j3;go_wp2_with (first
     |(go_at_call 172;go_must(refine vy _ aw1 0 Fi.O _ _ ?_);intro Ka Kb w5 fH aE;have bu:=aQ U aE;have qB:=aR Dm.O aE;have hB:=Od (e:=22) (fO fH).2 (fO qB).2)
     |(go_at_call 55;go_must(refine pC _ [aw1,B] aw0 rG.O _ hB (by omega) _ ?_);intro ya yc w6 eo bd;have fJ:=cz (bu.alloc bu.size _) bd (by have:=bu.size;simp;omega);have lH:=Z (cm (jE:=w.heap.size) eo (by have:=bu.size;simp;omega));clear eo bd hB qB fH aE)
     |(go_at_call 173;go_must(refine J3 wh _ aw0 m _ 0 vE.O (by omega) _ (fO lH.O).2 (HT.O.below fJ) _ ?_);intro ma mc w7 BR bp;have iz:=aQ fJ bp;have th:=Z (aR lH.O bp);have Sy:=Z (BR.ps jf.O);clear BR bp)
     |(go_at_call 169;go_must(refine J9 _ _ m l true AO.O _ Sy.O (HV.O.below iz) _ ?_);intro w8 iA;have rh:=aQ iz iA;have oi:=Z (aR th.O iA)))
    try go_ret2
    exact HR.O _ _ _ oi.O rh
   |false=>
    have j3:m≠l:=of_decide_eq_false jT;have hh:=Oe.O;rw[if_neg (by simp[j3])] at hh;simp only[Prod.mk.injEq] at hh;obtain⟨rfl,rfl⟩:=hh;clear jT j3;go_wp2_with (first
     |(go_at_call 172;go_must(refine vy _ aw1 0 Fi.O _ _ ?_);intro Ka Kb w5 fH aE;have bu:=aQ U aE;have qB:=aR Dm.O aE;have hB:=Od (e:=22) (fO fH).2 (fO qB).2)
     |(go_at_call 55;go_must(refine pC _ [aw1,B] aw0 rG.O _ hB (by omega) _ ?_);intro ya yc w6 eo bd;have fJ:=cz (bu.alloc bu.size _) bd (by have:=bu.size;simp;omega);have lH:=Z (cm (jE:=w.heap.size) eo (by have:=bu.size;simp;omega));clear eo bd hB qB fH aE)
     |(go_at_call 173;go_must(refine J3 wh _ aw0 m _ 0 vE.O (by omega) _ (fO lH.O).2 (HT.O.below fJ) _ ?_);intro ma mc w7 BR bp;have iz:=aQ fJ bp;have Sy:=Z (BR.ps jf.O);clear BR bp)
     |(go_at_call 169;go_must(refine J9 _ _ m l false AO.O _ Sy.O (HV.O.below iz) _ ?_);intro w8 iA;have rh:=aQ iz iA))
    try go_ret2
    exact HR.O none 0 _ (bO _ _ _ _) rh
  have bf:(used != (aw0.length:Int))=true:=by simp[rH]
  have hh:=Oe.O;rw[if_neg (by simp[rH])] at hh;simp only[Prod.mk.injEq] at hh;obtain⟨rfl,rfl⟩:=hh;go_wp2_with (first
   |(go_at_call 172;go_must(refine vy _ aw1 0 Fi.O _ _ ?_);intro Ka Kb w5 fH aE;have bu:=aQ U aE;have qB:=aR Dm.O aE;have hB:=Od (e:=22) (fO fH).2 (fO qB).2)
   |(go_at_call 55;go_must(refine pC _ [aw1,B] aw0 rG.O _ hB (by omega) _ ?_);intro ya yc w6 eo bd;have fJ:=cz (bu.alloc bu.size _) bd (by have:=bu.size;simp;omega);have lH:=Z (cm (jE:=w.heap.size) eo (by have:=bu.size;simp;omega));clear eo bd hB qB fH aE)
   |(go_at_call 173;go_must(refine J3 wh _ aw0 m used 0 vE.O (by omega) _ (fO lH.O).2 (HT.O.below fJ) _ ?_);intro ma mc w7 BR bp;have iz:=aQ fJ bp;clear BR bp))
  try go_ret2
  exact HR.O none 0 _ (bO _ _ _ _) iz
theorem Zh{P:Prop}(h:P:=by
 have h3:=aQ h2 cq.O;have h4:=aQ h3 dj.O;exact aQ h4 ib.O):P:=h
variable{l0 l1 l2:List UInt8}{fr:Nat×Nat}{a d h v0:Value}
def eG(x:Nt):List UInt8:=(b9 x.aF).1++(dn x.ay).1++ [b8 (lK x.ah x.aL)]++(b9 x.src).1++aY (bz x.aP) 8++aY (bz x.number) 8++ [b8 x.origin,b8 x.aW]++(eO 3 x.props).1
theorem Zi{v4 v5 v6 v7:Value}{l3 l4 l5 l6 l7:List UInt8}(A:g=w.heap.size)(h0:Bs w v0 l0)(h1:Bs w v1 l1)(h2:Bs w v2 l2)(h3:Bs w v3 l3)(h4:Bs w v4 l4)(h5:Bs w v5 l5)(h6:Bs w v6 l6)(h7:Bs w v7 l7):yJ (w.alloc (.cells #[v0,v1,v2,v3,v4,v5,v6,v7] e)) (.slice (some ⟨g,0,none⟩) 8 8) [l0,l1,l2,l3,l4,l5,l6,l7]:=by
 subst A;exact CQ [v0,v1,v2,v3,v4,v5,v6,v7] [l0,l1,l2,l3,l4,l5,l6,l7] rfl (by simp) fun i hi=>by
  match i,hi with
  |0,_=>exact⟨v0,rfl,h0⟩
  |1,_=>exact⟨v1,rfl,h1⟩
  |2,_=>exact⟨v2,rfl,h2⟩
  |3,_=>exact⟨v3,rfl,h3⟩
  |4,_=>exact⟨v4,rfl,h4⟩
  |5,_=>exact⟨v5,rfl,h5⟩
  |6,_=>exact⟨v6,rfl,h6⟩
  |7,_=>exact⟨v7,rfl,h7⟩
theorem b_{c:Nat}{l:List UInt8}(h:w.ownsRow B e 1 (.slice Y n c) n (bv l)):Bs w (.slice Y n c) l:=by
 obtain rfl:n=l.length:=by
  have:=h.1
  simpa using this.symm
 exact(fO h).2
structure NR(y:World)(t p f x:Value)(T P awX awZ:List UInt8):Prop where
 t:Bs y t T
 p:Bs y p P
 f:Bs y f awX
 x:Bs y x awZ
theorem NR.below{y y':World}{t p f x:Value}{T P awX awZ:List UInt8}(h:NR y t p f x T P awX awZ)(U:Below y y y'):NR y' t p f x T P awX awZ:=⟨h.t.below U,h.p.below U,h.f.below U,h.x.below U⟩
theorem AP(w:World)(o:Obj):w.heap.size+1=(w.alloc o).heap.size:=by simp
theorem AQ{x:World}{b c e f g i j:Value}(k:x.heap[N]? =some (.cells #[a,b,c,d,e,f,g,h,i,j] t fr)):x.cell? ⟨N,2,none⟩=some c∧x.cell? ⟨N,3,none⟩=some d∧x.cell? ⟨N,5,none⟩=some f∧x.cell? ⟨N,7,none⟩=some h∧x.cell? ⟨N,8,none⟩=some i∧x.cell? ⟨N,9,none⟩=some j:=
 ⟨D 2 k,D 3 k,D 5 k,D 7 k,D 8 k,D 9 k⟩
theorem Sz(x:Nt)(pv qv:Value)(w:World)(hp:Bs w pv x.ay)(hq:Ps w qv x.props)(hB:xC x)(pA:(x.props.flatMap bR).length≤90000000)(hT:dy w)(aw0:List UInt8)(hY:eG x=aw0)(kK:aw0.length≤140737488355328)(R:ak)
 (I:∀Y c w',w'.ownsRow w 5 1 (.slice Y aw0.length c) aw0.length (bv aw0)→Below w w w'→R (.returned (.slice Y aw0.length c)) w'):
 Calls prog 119 #[.agg (uj x pv qv)] w R:=by
 obtain⟨aF,ay,ah,aL,src,aP,props,origin,number,aW⟩:=x;have avh:=hB.t;have avi:=hB.s;simp only at*;have HR:=Z I;have Ay:=Z pA;obtain⟨V,X,rfl⟩:∃a c,pv= .slice a ay.length c:=by obtain⟨a,c,e,_⟩:=hp;exact⟨a,c,e⟩
 obtain⟨qa,qc,rfl⟩:∃a c,qv= .slice a props.length c:=by obtain⟨a,c,e,_⟩:=hq;exact⟨a,c,e⟩
 obtain⟨⟨TT,te⟩,cQ⟩:∃q,b9 aF=q:=⟨_,rfl⟩
 obtain⟨⟨PP,pe⟩,wO⟩:∃q,dn ay=q:=⟨_,rfl⟩
 obtain⟨⟨FF,fe⟩,lM⟩:∃q,b9 src=q:=⟨_,rfl⟩
 obtain⟨⟨XX,xe⟩,AR⟩:∃q,eO 3 props=q:=⟨_,rfl⟩
 obtain⟨E1,wP⟩:=ai (aY (bz aP) 8);obtain⟨E2,wQ⟩:=ai (aY (bz number) 8);have HJ:Hid ([TT,PP,[b8 (lK ah aL)],FF,E1,E2,[b8 origin,b8 aW],XX].flatten=aw0):=by
  show _=_;rw[←hY];unfold eG;simp only[cQ,wO,lM,AR,wP,wQ];simp
 obtain⟨O0,kH⟩:=ai ((Obj.cells (fj aF V ay X ah aL src aP qa props qc origin number aW) 34));have aM:Below w w (w.alloc O0):=aD _ _;have n0:=aH w O0;have pH:=Z (hT.below aM);have Kd:=Z (hp.below aM);have mW:=Z (hq.below aM);have bB:=Z aM;have N0:=Z n0;rw[←kH] at pH Kd mW bB N0;obtain⟨Hs,SA,vF,Ht,Dn,BS,lv⟩:=qV cQ wO lM AR wP wQ kK;have fR:Hid True:=trivial;clear I pA hp hq hT hY kK cQ wO lM AR wP wQ kH aM n0 hB;go_enter func119,ntmps119;go_wp2_with (first
  |(have hq:=fR;go_at_call 54;go_must(refine Db aF TT te Hs.O _ (by omega) pH.O _ ?_);intro ta tc w2 jx aj;have jH:=Z (b_ jx);have bn:=Z aj;have N2:=Z (aA N0.O aj);have c1:=D 1 N2.O;clear hq fR jx aj)
  |(go_at_call 118;go_must(refine JI _ ay PP pe SA.O _ (Kd.O.below bn.O) _ ?_);intro da dc w3 bN an;have iF:=Z (b_ bN);have cq:=Z an;have N3:=Z (aA N2.O an);have c4:=D 4 N3.O;clear bN an)
  |(go_at_call 54;go_must(refine Db src FF fe vF.O _ (by omega) ((pH.O.below bn.O).below cq.O) _ ?_);intro fa fc w4 eQ ao;have oU:=Z (b_ eQ);have dj:=Z ao;have N4:=Z (aA N3.O ao);have c6:=D 6 N4.O;clear eQ ao)
  |(go_at_call 155;go_must(refine aji 3 _ props XX xe Ht.O Ay.O _ (((mW.O.below bn.O).below cq.O).below dj.O) (((pH.O.below bn.O).below cq.O).below dj.O) _ ?_);intro xa xc w5 gC aE;have kW:=Z (b_ gC);have ib:=Z aE;have N5:=Z (aA N4.O aE);clear gC aE))
 have SB:Hid (Below w w w5):=by
  have h2:=aQ bB.O bn.O;exact Zh
 have C0:Below w5 w5 w5.drew:=bq _;have yZ:NR w5.drew (.slice ta TT.length tc) (.slice da PP.length dc) (.slice fa FF.length fc) (.slice xa XX.length xc) TT PP FF XX:=NR.below ⟨((jH.O.below cq.O).below dj.O).below ib.O,(iF.O.below dj.O).below ib.O,oU.O.below ib.O,kW.O⟩ C0;have dK:=aA N5.O C0;have AS:Below w5.drew.heap.size w5.drew (w5.alloc (.cells #[Value.int .u8 (IntKind.u8.wrap origin),Value.int .u8 (IntKind.u8.wrap aW)] 5)).drew:=(Below.refl w5.drew.heap.size w5.drew).alloc bj _;have Zj:=C0;have pz:True∧Bs (w5.alloc (.cells #[Value.int .u8 (IntKind.u8.wrap origin),Value.int .u8 (IntKind.u8.wrap aW)] 5)).drew (.slice (some ⟨w5,0,none⟩) 2 2) [b8 origin,b8 aW]:=And.intro trivial (b_ (l:= [b8 origin,b8 aW]) (NG (B:=0) w5.drew origin aW (bP _)));have fh:Hid True:=trivial;clear c1 c4 c6;go_region_held3 (fun x=>x.cell? ⟨w,2,none⟩=some (.int .i64 ah)∧x.cell? ⟨w,3,none⟩=some (.bool aL)∧x.cell? ⟨w,5,none⟩=some (.int .i64 aP)∧x.cell? ⟨w,7,none⟩=some (.int .i64 origin)∧x.cell? ⟨w,8,none⟩=some (.int .i64 number)∧x.cell? ⟨w,9,none⟩=some (.int .i64 aW))
  (first|with_reducible exact AQ dK|with_reducible exact AQ (aA dK AS)|with_reducible exact AQ jy|with_reducible exact AQ (aA jy Fk)|with_reducible exact AQ iV|with_reducible exact AQ (aA iV Dp)|with_reducible exact AQ mT|with_reducible exact AQ (aA mT zo)|with_reducible exact AQ lN|go_keep)
  (first
   |(go_at_call 120;refine Yr ah aL _ _ ?_;intro ma mc w6 nF bd;have iW:=b_ nF;have jy:=(by first|with_reducible exact aA dK bd|with_reducible exact aA (aA dK AS) bd:w6.heap[w.heap.size]? =some (.cells (fj aF V ay X ah aL src aP qa props qc origin number aW) 34));have oA:=(by first|with_reducible exact yZ.below bd|with_reducible exact(yZ.below AS).below bd:NR w6 (.slice ta TT.length tc) (.slice da PP.length dc) (.slice fa FF.length fc) (.slice xa XX.length xc) TT PP FF XX);have Of:=(by first|with_reducible exact ed Zj bd|with_reducible exact ed (ed Zj AS) bd:Below w5 w5 w6);have Fk:Below w6 w6 (w6.alloc (.cells #[Value.int .u8 (IntKind.u8.wrap origin),Value.int .u8 (IntKind.u8.wrap aW)] 5)):=aD _ _;(first|(have Og:=pz.2.below bd;have Zk:=And.intro trivial Og;clear Og)|(have Zk:=And.intro trivial (hlk0.2.below bd))|(have Og:=And.intro trivial (b_ (l:= [b8 origin,b8 aW]) (NG (B:=0) w6 origin aW (bP _))))))
   |(have hq:=fh;go_at_call 156;refine Ys aP E1 Dn.O _ _ ?_;intro ajm ajn w7 gD bp;replace iW:=(by first|with_reducible exact iW.below bp|with_reducible exact(iW.below Fk).below bp:Bs w7 (.slice ma 1 mc) [b8 (lK ah aL)]);have Fm:=b_ gD;have iV:=(by first|with_reducible exact aA jy bp|with_reducible exact aA (aA jy Fk) bp:w7.heap[w.heap.size]? =some (.cells (fj aF V ay X ah aL src aP qa props qc origin number aW) 34));have xK:=(by first|with_reducible exact oA.below bp|with_reducible exact(oA.below Fk).below bp:NR w7 (.slice ta TT.length tc) (.slice da PP.length dc) (.slice fa FF.length fc) (.slice xa XX.length xc) TT PP FF XX);have Oh:=(by first|with_reducible exact ed Of bp|with_reducible exact ed (ed Of Fk) bp:Below w5 w5 w7);have Dp:Below w7 w7 (w7.alloc (.cells #[Value.int .u8 (IntKind.u8.wrap origin),Value.int .u8 (IntKind.u8.wrap aW)] 5)):=aD _ _;(first|(have uz:=Og.2.below bp;have Zl:=And.intro trivial uz;clear uz)|(have Zl:=And.intro trivial (Zk.2.below bp))|(have uz:=And.intro trivial (b_ (l:= [b8 origin,b8 aW]) (NG (B:=0) w7 origin aW (bP _)))));clear hq fh)
   |(go_at_call 156;refine Ys number E2 BS.O _ _ ?_;intro SC SD w8 wR iA;replace iW:=(by first|with_reducible exact iW.below iA|with_reducible exact(iW.below Dp).below iA:Bs w8 (.slice ma 1 mc) [b8 (lK ah aL)]);replace Fm:=(by first|with_reducible exact Fm.below iA|with_reducible exact(Fm.below Dp).below iA:Bs w8 (.slice ajm E1.length ajn) E1);have Hu:=b_ wR;have mT:=(by first|with_reducible exact aA iV iA|with_reducible exact aA (aA iV Dp) iA:w8.heap[w.heap.size]? =some (.cells (fj aF V ay X ah aL src aP qa props qc origin number aW) 34));have vG:=(by first|with_reducible exact xK.below iA|with_reducible exact(xK.below Dp).below iA:NR w8 (.slice ta TT.length tc) (.slice da PP.length dc) (.slice fa FF.length fc) (.slice xa XX.length xc) TT PP FF XX);have Oi:=(by first|with_reducible exact ed Oh iA|with_reducible exact ed (ed Oh Dp) iA:Below w5 w5 w8);have zo:Below w8 w8 (w8.alloc (.cells #[Value.int .u8 (IntKind.u8.wrap origin),Value.int .u8 (IntKind.u8.wrap aW)] 5)):=aD _ _;(first|(have tn:=uz.2.below iA;have Oj:=And.intro trivial tn;clear tn)|(have Oj:=And.intro trivial (Zl.2.below iA))|(have tn:=And.intro trivial (b_ (l:= [b8 origin,b8 aW]) (NG (B:=0) w8 origin aW (bP _)))));have zp:=Z (AP w8 (.cells #[Value.int .u8 (IntKind.u8.wrap origin),Value.int .u8 (IntKind.u8.wrap aW)] 5)))
   |(have hq:=Oj;go_at_call 55;have my:=Z (fun o=>ed Oi (aD w8 o):∀o:Obj,Below w5 w5 (w8.alloc o));have pK:=Zi (e:=22) (g:=w8.heap.size) rfl vG.t vG.p iW vG.f Fm Hu Oj.2 vG.x;refine pC _ _ aw0 HJ.O _ pK lv.O _ ?_;clear pK;intro ja jc w9 Dq cw;have BQ:=ed (my.O _) cw;have Zm:=Z (fun o=>aJ SB.O.size (my.O o).size);have nG:=Z BQ;have vH:=Z Dq;have lN:=aA N5.O BQ;clear jy iV mT oA xK vG Of Oh Oi Fk Dp zo iW Fm Hu BQ Dq cw zp hq Oj my)
   |(have hq:=tn;go_at_call 55;have my:=Z (fun o=>ed (ed Oi zo) ((Below.refl (w8.alloc (.cells #[Value.int .u8 (IntKind.u8.wrap origin),Value.int .u8 (IntKind.u8.wrap aW)] 5)).heap.size (w8.alloc (.cells #[Value.int .u8 (IntKind.u8.wrap origin),Value.int .u8 (IntKind.u8.wrap aW)] 5))).alloc bj o):∀o:Obj,Below w5 w5 ((w8.alloc (.cells #[Value.int .u8 (IntKind.u8.wrap origin),Value.int .u8 (IntKind.u8.wrap aW)] 5)).alloc o));have pK:=Zi (e:=22) zp.O (vG.t.below zo) (vG.p.below zo) (iW.below zo) (vG.f.below zo) (Fm.below zo) (Hu.below zo) tn.2 (vG.x.below zo);refine pC _ _ aw0 HJ.O _ pK lv.O _ ?_;clear pK;intro ja jc w9 Dq cw;have BQ:=ed (my.O _) cw;have Zm:=Z (fun o=>aJ SB.O.size (my.O o).size);have nG:=Z BQ;have vH:=Z Dq;have lN:=aA N5.O BQ;clear jy iV mT oA xK vG Of Oh Oi Fk Dp zo iW Fm Hu BQ Dq cw zp hq tn my))
 all_goals
  go_wp2_with fail;exact HR.O _ _ _ (cm vH.O (Zm.O _)) (aQ SB.O nG.O)
def db(x:Im):List UInt8:=(dn (eG x.note)).1++ [b8 (lK x.ah x.aI)]++ [b8 (x.ids.length:Int)]++x.ids.flatMap (fun i=>aY (bz i) 4)++(b9 x.share).1
theorem Zn(A:g=w.heap.size)(h0:Bs w v0 l0)(h1:Bs w v1 l1)(h2:Bs w v2 l2):yJ (w.alloc (.cells #[v0,v1,v2] e)) (.slice (some ⟨g,0,none⟩) 3 3) [l0,l1,l2]:=by
 subst A;exact CQ [v0,v1,v2] [l0,l1,l2] rfl (by simp) fun i hi=>by
  match i,hi with
  |0,_=>exact⟨v0,rfl,h0⟩
  |1,_=>exact⟨v1,rfl,h1⟩
  |2,_=>exact⟨v2,rfl,h2⟩
theorem Ke{x:World}{b c e f g i j k l m n:Value}(q:x.heap[N]? =some (.cells #[a,b,c,d,e,f,g,h,i,j,k,l,m,n] t fr)):x.cell? ⟨N,10,none⟩=some k∧x.cell? ⟨N,11,none⟩=some l∧x.cell? ⟨N,12,none⟩=some m:=
 ⟨D 10 q,D 11 q,D 12 q⟩
theorem Zo{P:Prop}(h:P:=by
 rw[←vF.O]
 conv=>rhs;rw[←yI j ids,jZ,aK]
 omega):P:=h
theorem Zp{P:Prop}(h:P:=by
 have h2:=aQ bB.O bn.O;have h3:=aQ h2 cq.O;exact aQ h3 dj.O):P:=h
theorem OF(x:Im)(pv qv ev:Value)(w:World)(J:ie w pv qv ev x)(hB:fX x)(pA:(x.note.props.flatMap bR).length≤90000000)(hT:dy w)(aw0:List UInt8)(hY:db x=aw0)(lO:(eG x.note).length≤140737488355328)(kK:aw0.length≤140737488355328)(aas:x.ids.length≤100000)(R:ak)
 (I:∀Y c w',w'.ownsRow w 5 1 (.slice Y aw0.length c) aw0.length (bv aw0)→Below w w w'→R (.returned (.slice Y aw0.length c)) w'):
 Calls prog 60 #[(Value.agg (qi x pv qv ev))] w R:=by
 obtain⟨HR,HC,uk⟩:=bX I J hB;obtain⟨⟨V,X,rfl⟩,⟨qa,qc,rfl⟩,ea,ec,rfl⟩:=J.shape;obtain⟨⟨aF,ay,mO,aL,src,aP,props,origin,number,aW⟩,ah,aI,ids,share⟩:=x;simp only at*;clear I hB J;obtain⟨NY,B6⟩:=ai (eG ⟨aF,ay,mO,aL,src,aP,props,origin,number,aW⟩);rw[B6] at lO;obtain⟨⟨DD,de⟩,zE⟩:∃q,dn NY=q:=⟨_,rfl⟩
 obtain⟨⟨SS,se⟩,B7⟩:∃q,b9 share=q:=⟨_,rfl⟩
 obtain⟨JJ,S8⟩:=ai (DD++ [b8 (lK ah aI)]++ [b8 (ids.length:Int)]);obtain⟨FF,lM⟩:∃q,ids.flatMap (fun i=>aY (bz i) 4)=q:=⟨_,rfl⟩
 have FA:JJ++FF++SS=aw0:=by
  rw[←hY,←S8];unfold db;simp only[B6,zE,B7,lM]
 have cW:JJ.length≤140737488355328:=by
  have:=congrArg List.length FA;simp only[aK] at this
  omega
 have dm:JJ.length+FF.length+SS.length≤140737488355328:=by
  have:=congrArg List.length FA;simp only[aK] at this
  omega
 have HJ:Hid ([DD,[b8 (lK ah aI)],[b8 (ids.length:Int)]].flatten=JJ):=by
  show _=_;rw[←S8];simp
 obtain⟨O0,kH⟩:=ai ((Obj.cells (qg aF V ay X mO aL src aP qa props qc origin number aW ah aI ea ids ec share) 36));have aM:Below w w (w.alloc O0):=aD _ _;have n0:=aH w O0;have pH:=Z (hT.below aM);have uJ:=Z (HC.O.below aM);have bB:=Z aM;have N0:=Z n0;rw[←kH] at pH uJ bB N0;obtain⟨S9,AW,nD,OG,Ay,zt,oz,vF,akl,iL⟩:=Jn B6 zE B7 FA pA lO cW lM aas dm;clear hT hY lO kK B6 zE B7 S8 FA cW dm kH aM n0 pA lM aas;go_enter func60,ntmps60;go_wp2_with (first
  |(go_at_call 119;go_must(refine Sz ⟨aF,ay,mO,aL,src,aP,props,origin,number,aW⟩ _ _ _ uJ.O.p uJ.O.q uk.O.n Ay.O pH.O NY S9.O zt.O _ ?_);intro na nc w2 jx aj;have jH:=Z (b_ jx);have bn:=Z aj;have N2:=Z (aA N0.O aj);clear jx aj)
  |(go_at_call 118;go_must(refine JI _ NY DD de AW.O _ jH.O _ ?_);intro da dc w3 bN an;have iF:=Z (b_ bN);have cq:=Z an;have N3:=Z (aA N2.O an);have jN:=D 13 N3.O;clear bN an)
  |(go_at_call 54;go_must(refine Db share SS se nD.O _ (by have:=uk.O.s;simp only at this;omega) ((pH.O.below bn.O).below cq.O) _ ?_);intro ta tc w4 eQ ao;have oU:=Z (b_ eQ);have dj:=Z ao;have N4:=Z (aA N3.O ao);clear eQ ao))
 have KC:Hid (Below w w w4):=by
  exact Zp
 have gL:Below w4 w4 w4.drew:=bq _;have dK:=aA N4.O gL;have Bu:=(iF.O.below dj.O).below gL;have AS:Below w4.drew.heap.size w4.drew (w4.alloc (.cells #[Value.int .u8 (IntKind.u8.wrap (ids.length:Int))] 5)).drew:=(Below.refl w4.drew.heap.size w4.drew).alloc bj _;have pz:True∧Bs (w4.alloc (.cells #[Value.int .u8 (IntKind.u8.wrap (ids.length:Int))] 5)).drew (.slice (some ⟨w4,0,none⟩) 1 1) [b8 (ids.length:Int)]:=And.intro trivial (b_ (l:= [b8 (ids.length:Int)]) (EK (B:=0) w4.drew (ids.length:Int) (bP _)));clear jN;go_upto_region 3 with fail
 go_cut [7] from 10 to 51 (fun sb wx=>∃(ja:av)(jc:Nat),sb= .slice ja JJ.length jc∧Hid (wx.ownsRow w4 5 1 (.slice ja JJ.length jc) JJ.length (bv JJ))∧Hid (Below w4 w4 wx))
 case first=>
  go_region_held3 (fun x=>x.cell? ⟨w,10,none⟩=some (.int .i64 ah)∧x.cell? ⟨w,11,none⟩=some (.bool aI)∧x.cell? ⟨w,12,none⟩=some (.slice ea ids.length ec))
   (first|with_reducible exact Ke dK|with_reducible exact Ke (aA dK AS)|with_reducible exact Ke dB|with_reducible exact Ke (aA dB Ih)|with_reducible exact Ke jy|go_keep)
   (first
    |(go_at_call 120;refine Yr ah aI _ _ ?_;intro ma mc w5 gC aE;have iW:=b_ gC;have dB:=(by first|with_reducible exact aA dK aE|with_reducible exact aA (aA dK AS) aE:w5.heap[w.heap.size]? =some (.cells (qg aF V ay X mO aL src aP qa props qc origin number aW ah aI ea ids ec share) 36));have wD:=(by first|with_reducible exact Bu.below aE|with_reducible exact(Bu.below AS).below aE:Bs w5 (.slice da DD.length dc) DD);have xQ:=(by first|with_reducible exact ed gL aE|with_reducible exact ed (ed gL AS) aE:Below w4 w4 w5);have Ih:Below w5 w5 (w5.alloc (.cells #[Value.int .u8 (IntKind.u8.wrap (ids.length:Int))] 5)):=aD _ _;have wS:=Z (AP w5 (.cells #[Value.int .u8 (IntKind.u8.wrap (ids.length:Int))] 5));(first|(have S_:=pz.2.below aE)|(have FB:=And.intro trivial (b_ (l:= [b8 (ids.length:Int)]) (EK (B:=0) w5 (ids.length:Int) (bP _))))))
    |(have hq:=S_;go_at_call 55;have my:=Z (fun o=>ed xQ (aD w5 o):∀o:Obj,Below w4 w4 (w5.alloc o));have pK:=Zn (e:=22) (g:=w5.heap.size) rfl wD iW S_;refine pC _ _ JJ HJ.O _ pK oz.O _ ?_;clear pK;intro ja jc w6 nF bd;have HZ:=Z (fun o=>(my.O o).size);have rO:=Z (ed (my.O _) bd);have jy:=aA N4.O rO.O;have lH:=Z nF;clear bd nF hq S_ wD iW dB xQ Ih)
    |(have hq:=FB;go_at_call 55;have my:=Z (fun o=>ed (ed xQ Ih) ((Below.refl (w5.alloc (.cells #[Value.int .u8 (IntKind.u8.wrap (ids.length:Int))] 5)).heap.size (w5.alloc (.cells #[Value.int .u8 (IntKind.u8.wrap (ids.length:Int))] 5))).alloc bj o):∀o:Obj,Below w4 w4 ((w5.alloc (.cells #[Value.int .u8 (IntKind.u8.wrap (ids.length:Int))] 5)).alloc o));have pK:=Zn (e:=22) wS.O (wD.below Ih) (iW.below Ih) FB.2;refine pC _ _ JJ HJ.O _ pK oz.O _ ?_;clear pK;intro ja jc w6 nF bd;have HZ:=Z (fun o=>(my.O o).size);have rO:=Z (ed (my.O _) bd);have jy:=aA N4.O rO.O;have lH:=Z nF;clear bd nF hq FB wD iW dB xQ Ih))
  all_goals
   go_wp2_with fail;go_meet;exact⟨ja,jc,rfl,Z (cm lH.O (HZ.O _)),rO⟩
 obtain⟨ja,jc,rfl,zF,wV⟩:=hcut;have m7:Hid (Below w w wc):=aQ KC.O wV.O;have nD:=Z (oU.O.below wV.O);have iQ:=D 12 (aA N4.O wV.O);obtain⟨w7,rfl⟩:∃x,x=wc:=⟨_,rfl⟩
 clear gL dK Bu AS pz;go_wp2_with fail;have akm:=Z HC.O.i;have OH:Hid (∀j,((ids.take j).flatMap (fun i=>aY (bz i) 4)).length≤FF.length):=fun j=>by
  exact Zo
 have aat:Hid (SS.length≤140737488355328):=by have:=iL.O;show _≤_;omega
 go_loopg [7,9,39] ids.length (fun gn b _ i wr=>∃(k:Nat)(P:List UInt8)(zG:av)(zH:Nat),k≤ids.length∧gn=ids.length - k∧b= .slice zG P.length zH∧i= .int .i64 k∧Hid (P=JJ++(ids.take k).flatMap (fun i=>aY (bz i) 4))∧Hid (wr.ownsRow w4 5 1 (.slice zG P.length zH) P.length (bv P))∧Hid (Below w4 w4 wr))
 case atStart=>exact⟨0,JJ,ja,jc,bP _,by omega,rfl,rfl,Z (by simp),zF,wV⟩
 case round=>
  obtain⟨k,P,zG,zH,G,rfl,rfl,rfl,HP,HO,HB⟩:=hrel;obtain⟨wo,rfl⟩:∃x,x=wr:=⟨_,rfl⟩
  have jd:Hid (P.length≤140737488355328 - SS.length):=by
   have h1:=congrArg List.length HP.O;have h3:=OH.O k;have h4:=iL.O;rw[aK] at h1;show _≤_
   omega
  by_cases au:k<ids.length
  ·have bo:(k:Int)<(ids.length:Int):=by omega
   have akn:Hid (Below w w wo):=aQ KC.O HB.O;obtain⟨g,o,FC,tF⟩:=(akm.O.below akn.O).at k au;subst FC;have qF:ids.take (k+1)=ids.take k++ [ids[k]]:=kF au;obtain⟨x,F⟩:=ai (ids[k]);rw[F] at tF qF;obtain⟨P4,oZ⟩:=ai (aY (bz x) 4);have Fh:IntKind.u64.wrap x=(bz x:Int):=by have:=Dc x;simpa using this
   have vL:Hid (P++P4=JJ++(ids.take (k+1)).flatMap (fun i=>aY (bz i) 4)):=by
    show _=_;rw[qF,jZ,HP.O,←oZ];simp
   have KD:Hid (eC (bz x) 4=P4):=by show _=_;rw[←oZ];rfl
   have mF:Hid (P4.length=4):=by show _=_;rw[←oZ,fQ]
   have aau:Hid (P.length+4≤140737488355328):=by
    have h1:=congrArg List.length vL.O;have h3:=OH.O (k+1);have h4:=iL.O;have h5:=mF.O;simp only[aK] at h1;show _≤_
    omega
   clear F qF oZ;go_wp2_with (first
    |(go_at_call 56;go_must(refine yW (bz x) (Dd _) 4 P4 KD.O _ _ ?_);intro xa xc w8 wR iA;have jI:=Z (aQ HB.O iA);have oi:=Z (aR HO.O iA);have FD:=Z (b_ wR);clear wR iA)
    |(at_builtin;go_must(refine jr (by rfl) (.tmp 43) (.tmp 46) 22 (by rfl) w4 5 (.int .u8 0) 1 1 underlying22 Tryz.cP rfl (by decide) zG P.length zH _ (by rfl) oi.O xa P4.length xc (bv P4) (by rfl) FD.O.parts.2.1 (fC _) FD.O.parts.2.2.2.2 (by have:=aau.O;have:=mF.O;unfold maxLen;omega) (by have:=aau.O;have:=mF.O;omega) jI.O.size ?_);intro fK c9 w9 dA bW _;have cw:=bT jI.O bW jI.O.size oi.O;rw[←qf] at dA;have vH:=Z dA;have nG:=Z cw;clear dA bW cw))
   have td:=akl.O;have l8:Value.int .i64 (wrap64 ((k:Int)+1))= .int .i64 ((k+1:Nat):Int):=by
    have:wrap64 ((k:Int)+1)=(k:Int)+1:=by unfold wrap64;omega
    rw[this];simp
   go_roundg (ids.length - (k+1))
   case measure=>omega
   case rel=>exact⟨k+1,P++P4,fK,c9,by omega,rfl,by rw[aK],l8,vL,by rw[aK];exact vH,nG⟩
  have bo:¬(k:Int)<(ids.length:Int):=by omega
  have KE:Hid (P++SS=aw0):=by
   show _=_;rw[HP.O,gy (by omega),vF.O,OG.O]
  have aav:=Z (oU.O.below HB.O);have kN:Hid (Below w w wo):=aQ KC.O HB.O;go_wp2_with (first
   |(at_builtin;go_must(refine jr (by rfl) (.tmp 49) (.tmp 50) 22 (by rfl) w4 5 (.int .u8 0) 1 1 underlying22 Tryz.cP rfl (by decide) zG P.length zH _ (by rfl) HO.O ta SS.length tc (bv SS) (by rfl) aav.O.parts.2.1 (fC _) aav.O.parts.2.2.2.2 (by have:=jd.O;have:=aat.O;unfold maxLen;omega) (by have:=jd.O;have:=aat.O;omega) HB.O.size ?_);intro fK c9 w9 dA bW _;have cw:=bT HB.O bW HB.O.size HO.O;rw[←qf,KE.O] at dA;have vH:=Z dA;have nG:=Z cw;clear dA bW cw))
  have bk:P.length+SS.length=aw0.length:=by rw[←KE.O,aK]
  have hr:=HR.O fK c9;rw[←bk] at hr;exact hr _ (cm vH.O KC.O.size) (aQ KC.O nG.O)
theorem apJ(n b0 b1 b2 b3:Nat)(h:192≤b0∧b0<224)(hn:n≤1):Lib.decodeN n b0 b1 b2 b3=(65533,1):=by
 unfold Lib.decodeN
 repeat' split
 all_goals first|rfl|(exfalso;omega)
theorem apK(n b0 b1 b2 b3:Nat)(h:224≤b0∧b0<240)(hn:n≤2):Lib.decodeN n b0 b1 b2 b3=(65533,1):=by
 unfold Lib.decodeN
 repeat' split
 all_goals first|rfl|(exfalso;omega)
theorem apL(n b0 b1 b2 b3:Nat)(h:240≤b0∧b0<248)(hn:n≤3):Lib.decodeN n b0 b1 b2 b3=(65533,1):=by
 unfold Lib.decodeN
 repeat' split
 all_goals first|rfl|(exfalso;omega)
theorem ac4(n b0 b1 b2 b3:Nat)(h:192≤b0∧b0<224)(hn:b1<128∨192≤b1):Lib.decodeN n b0 b1 b2 b3=(65533,1):=by
 unfold Lib.decodeN
 repeat' split
 all_goals first|rfl|(exfalso;omega)
theorem ac5(n b0 b1 b2 b3:Nat)(h:224≤b0∧b0<240)(hn:(b1<128∨192≤b1)∨(b2<128∨192≤b2)):Lib.decodeN n b0 b1 b2 b3=(65533,1):=by
 unfold Lib.decodeN
 repeat' split
 all_goals first|rfl|(exfalso;omega)
theorem ac6(n b0 b1 b2 b3:Nat)(h:240≤b0∧b0<248)(hn:(b1<128∨192≤b1)∨(b2<128∨192≤b2)∨(b3<128∨192≤b3)):Lib.decodeN n b0 b1 b2 b3=(65533,1):=by
 unfold Lib.decodeN
 repeat' split
 all_goals first|rfl|(exfalso;omega)
theorem dD(n b0 b1 b2 b3:Nat)(h:128≤b0)(h2:b0<192∨248≤b0)(h3:b0<256):Lib.decodeN n b0 b1 b2 b3=(65533,1):=by
 unfold Lib.decodeN
 repeat' split
 all_goals first|rfl|(exfalso;omega)
def xk(least c:Nat):Prop:=c<least∨1114111<c∨(55296≤c∧c<57344)
theorem UY{P:Prop}(h:P:=by
 unfold xk Lib.decodeN;refine⟨fun U=> ?_,fun U=> ?_⟩<;>
 repeat' split
 all_goals first|rfl|(exfalso;omega)|(congr 1;omega)):P:=h
theorem apM(n b0 b1 b2 b3 c:Nat)(h:192≤b0∧b0<224)(hn:1<n)(h1:128≤b1∧b1<192)(J:c=(b0 - 192) *64+b1 - 128):
 (xk 128 c→Lib.decodeN n b0 b1 b2 b3=(65533,1))∧(¬xk 128 c→Lib.decodeN n b0 b1 b2 b3=(c,2)):=by
 exact UY
theorem apN(n b0 b1 b2 b3 c:Nat)(h:224≤b0∧b0<240)(hn:2<n)(h1:128≤b1∧b1<192)(h2:128≤b2∧b2<192)(J:c=((b0 - 224) *64+b1 - 128) *64+b2 - 128):
 (xk 2048 c→Lib.decodeN n b0 b1 b2 b3=(65533,1))∧(¬xk 2048 c→Lib.decodeN n b0 b1 b2 b3=(c,3)):=by
 exact UY
theorem apO(n b0 b1 b2 b3 c:Nat)(h:240≤b0∧b0<248)(hn:3<n)(h1:128≤b1∧b1<192)(h2:128≤b2∧b2<192)(h3:128≤b3∧b3<192)(J:c=(((b0 - 240) *64+b1 - 128) *64+b2 - 128) *64+b3 - 128):
 (xk 65536 c→Lib.decodeN n b0 b1 b2 b3=(65533,1))∧(¬xk 65536 c→Lib.decodeN n b0 b1 b2 b3=(c,4)):=by
 exact UY
def jX(p:Pr):List UInt8×Bool:=
 if aS p.id=1 then (eC (u64 p.num) 1,decide (0≤p.num∧p.num<256))
 else if aS p.id=2 then (eC (u64 p.num) 2,decide (0≤p.num∧p.num<65536))
 else if aS p.id=3 then (eC (u64 p.num) 4,decide (0≤p.num∧p.num<4294967296))
 else if aS p.id=4 then ((eE p.num).1,decide ((eE p.num).2=0))
 else if aS p.id=5 then ((b9 p.text).1,decide ((b9 p.text).2=0))
 else if aS p.id=6 then ((dn p.data).1,decide ((dn p.data).2=0))
 else if aS p.id=7 then ((b9 p.text).1++(b9 p.pair).1,decide ((b9 p.text).2=0∧(b9 p.pair).2=0))
 else ([],false)
theorem aqe(p:Pr):(jX p).1=gx p:=by
 unfold jX gx
 repeat' split
 all_goals first|rfl|contradiction
def sV(p:Pr):Bool:=decide (1≤p.id∧p.id≤127)&&(jX p).2
theorem aqf(h:sV p=true):bR p=b8 p.id::gx p:=by
 unfold sV at h;rw[Bool.and_eq_true,decide_eq_true_eq] at h;obtain⟨n,hn⟩:∃n:Nat,p.id=(n:Int):=⟨p.id.toNat,by omega⟩
 rw[nB,hn,zg n (by omega)];show nA 3 n++_=_;rw[He 3 n (by omega)]
 rfl
def vZ(l:List Pr):List UInt8×Bool:=
 if l.all sV=true then ((eE ((l.flatMap bR).length:Int)).1++l.flatMap bR,decide ((eE ((l.flatMap bR).length:Int)).2=0)) else ([],false)
def L3(wh:Int)(l:List Pr):List UInt8×Nat:=
 if (vZ l).2=false then ([],129)
 else if lf wh (vZ l).1=(l,((vZ l).1.length:Int),0) then ((vZ l).1,0) else ([],129)
theorem aqg(id:Int)(h:wJ id≠0):1≤id∧id≤42:=by
 by_cases J:1≤id∧id≤42
 ·exact J
 refine absurd ?_ h;unfold wJ;rw[if_neg (by omega),if_neg (by omega),if_neg (by omega),if_neg (by omega),if_neg (by omega),if_neg (by omega),if_neg (by omega),if_neg (by omega),if_neg (by omega),if_neg (by omega),if_neg (by omega),if_neg (by omega)]
theorem aqh(h:ch id wh=true):1≤id∧id≤42:=by
 refine aqg id fun h0=> ?_;unfold ch at h;rw[h0] at h;cases h
theorem aqi(h:ER p)(hm:ch p.id wh=true):sV p=true:=by
 have hr:=aqh hm;have G:=Sn hm;unfold sV;rw[Bool.and_eq_true];refine⟨eN ⟨by omega,by omega⟩,?_⟩;have n0:=h.n0;have n1:=h.n1;obtain⟨n,hn⟩:∃n:Nat,p.num=(n:Int):=⟨p.num.toNat,by omega⟩
 unfold jX;rcases JS p.id with e|e|e|e|e|e|e|e
 ·exact absurd e G
 ·rw[if_pos e];exact eN ⟨n0,h.k1 e⟩
 ·rw[if_neg (by omega),if_pos e];exact eN ⟨n0,h.k2 e⟩
 ·rw[if_neg (by omega),if_neg (by omega),if_pos e];exact eN ⟨n0,n1⟩
 ·have h4:=h.k4 e;rw[if_neg (by omega),if_neg (by omega),if_neg (by omega),if_pos e,hn,zg n (by omega)]
  rfl
 ·rw[if_neg (by omega),if_neg (by omega),if_neg (by omega),if_neg (by omega),if_pos e,Hk _ h.lt h.tt]
  rfl
 ·rw[if_neg (by omega),if_neg (by omega),if_neg (by omega),if_neg (by omega),if_neg (by omega),if_pos e,NU _ h.ld]
  rfl
 rw[if_neg (by omega),if_neg (by omega),if_neg (by omega),if_neg (by omega),if_neg (by omega),if_neg (by omega),if_pos e,Hk _ h.lt h.tt,Hk _ h.lp h.tp]
 rfl
theorem aqj(wh:Int)(l:List Pr):L3 wh l=eO wh l:=by
 by_cases j4:l.all sV=true
 ·have e:vZ l=((eE ((l.flatMap bR).length:Int)).1++l.flatMap bR,decide ((eE ((l.flatMap bR).length:Int)).2=0)):=by unfold vZ;rw[if_pos j4]
  unfold L3 eO;rw[e];obtain⟨⟨aw1,er⟩,hV⟩:∃r,eE ((l.flatMap bR).length:Int)=r:=⟨_,rfl⟩
  rw[hV];simp only;by_cases h0:er=0
  ·have h1:¬(decide (er=0)=false):=by rw[eN h0];simp
   have h2:¬(er≠0):=fun h=>h h0;rw[if_neg h1,if_neg h2]
  rw[if_pos (dN h0),if_pos h0]
 have e:vZ l=([],false):=by unfold vZ;rw[if_neg j4]
 have e2:L3 wh l=([],129):=by unfold L3;rw[e];rfl
 rw[e2];obtain⟨⟨x,c⟩,F⟩:∃r,eO wh l=r:=⟨_,rfl⟩
 rw[F];by_cases J:c=0
 ·subst J;obtain⟨n,_,_,_,hr⟩:=NV F;obtain⟨_,_,_,_,_,_,_,_,_,h8,_⟩:=JQ hr;refine absurd (List.all_eq_true.2 fun p hp=> ?_) j4;obtain⟨g1,g2,_⟩:=h8 p hp;exact aqi g1 g2
 obtain⟨rfl,rfl⟩:=YJ F J
 rfl
