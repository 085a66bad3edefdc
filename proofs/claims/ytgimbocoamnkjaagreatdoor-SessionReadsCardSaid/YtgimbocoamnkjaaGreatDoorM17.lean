/- A part of the proof of SessionReads; no conditions. -/
import Derived.Test.YtgimbocoamnkjaaGreatDoorM12
import Derived.Test.YtgimbocoamnkjaaGreatDoorM11
set_option maxRecDepth 100000
set_option maxHeartbeats 16000000
namespace Go.Proofs.YtgimbocoamnkjaaGreatDoor
open _root_.Go.Proofs.Tryz
open List (eraseIdx_eq_take_drop_succ getElem_mem getElem_take pairwise_append)
variable{i:Nat}
open Go.RowKit
theorem TD(L:List Int)(k:Nat)(G:k<L.length):(iv L)[k]? =some (.int .i64 L[k]):=by
 simp[iv,G]
theorem abc(L:List Int)(k:Nat):(iv L).take k=iv (L.take k):=by simp[iv]
theorem abd(L:List Int)(k:Nat):(iv L).drop k=iv (L.drop k):=by simp[iv]
theorem TE(a b:List Int):iv a++iv b=iv (a++b):=by simp[iv]
theorem KR(l:List Int)(d:Int):(bA l).contains d=l.contains d:=by
 rw[Bool.eq_iff_iff];simp[(tG l).mem_iff]
theorem alc{l:List Int}{d:Int}(hi:i≤(bA l).length)(h1:∀j (hj:j<i),(bA l)[j]'(by omega)<d)(h2:∀(h:i<(bA l).length),d<(bA l)[i]):bA (l++ [d])=(bA l).take i++ [d]++(bA l).drop i:=by
 refine Tc ((tG _).trans ?_) (DC _) ?_
 ·have h3:(l++ [d]).Perm (bA l++ [d]):=(tG l).symm.append_right _;refine h3.trans ?_;have h4:bA l++ [d]=(bA l).take i++((bA l).drop i++ [d]):=by rw[←kT,yI]
  rw[h4,kT];exact(List.perm_append_comm).append_left _
 have W:=DC l;rw[←yI i (bA l)] at W;obtain⟨s1,s2,s3⟩:=List.pairwise_append.1 W;have lo:∀x∈(bA l).take i,x<d:=fun x F=>by
  obtain⟨j,hj,rfl⟩:=lD F;rw[getElem_take];exact h1 j (by have:=hj;rw[bS] at this;omega)
 have fV:∀x∈(bA l).drop i,d<x:=fun x F=>by
  obtain⟨j,hj,rfl⟩:=lD F;have Bo:i+j<(bA l).length:=by simp at hj;omega
  rw[List.getElem_drop];have h5:=h2 (by omega);have h6:(bA l)[i]'(by omega)≤(bA l)[i+j]:=by
   rcases Nat.eq_or_lt_of_le (lE i j) with e|e
   ·simp[←e]
   exact xy.1 (DC l) i (i+j) (by omega) Bo e
  omega
 rw[kT,pairwise_append];refine⟨s1,?_,fun a ha b U=> ?_⟩
 ·rw[List.singleton_append,List.pairwise_cons];exact⟨fun x F=>by have:=fV x F;omega,s2⟩
 have:=lo a ha;rcases ez.1 U with U|U
 ·obtain rfl:=dM.1 U
  omega
 have:=fV b U
 omega
theorem ald{l:List Int}{d:Int}(hi:i<(bA l).length)(h1:∀j (hj:j<i),(bA l)[j]'(by omega)<d)(h2:d≤(bA l)[i]):((bA l)[i]=d)↔l.contains d=true:=by
 constructor
 ·intro h;rw[←KR,←h];simp
 intro h;rw[←KR] at h;obtain⟨j,hj,e⟩:=lD (by simpa using h:d∈bA l);rcases Nat.lt_or_ge j i with au|Ha
 ·have:=h1 j au
  omega
 rcases Nat.eq_or_lt_of_le Ha with e2|e2
 ·subst e2;exact e
 have:=xy.1 (DC l) i j hi hj e2
 omega
theorem ale{l:List Int}{d:Int}(hi:i<(bA l).length)(h:(bA l)[i]=d):bA (l.erase d)=(bA l).take i++(bA l).drop (i+1):=by
 rw[←eraseIdx_eq_take_drop_succ];have hm:d∈l:=by
  rw[←(tG l).mem_iff,←h];exact getElem_mem hi
 refine Tc ((tG _).trans ?_) (DC _) (List.Pairwise.sublist (List.eraseIdx_sublist _ _) (DC l));have p1:(d::l.erase d).Perm l:=(List.perm_cons_erase hm).symm;have p2:(d::(bA l).eraseIdx i).Perm (bA l):=by
  rw[eraseIdx_eq_take_drop_succ];refine(List.perm_middle.symm).trans ?_;rw[←h,List.getElem_cons_drop,yI]
 exact((p1.trans (tG l).symm).trans p2.symm).cons_inv
theorem abe{P:Prop}(h:P:=by
 rw[←HB.O]
 symm
 rw[ns];intro hm;obtain⟨j,hj,e⟩:=lD (by simpa using hm:d∈L);exact eR.O j (by have:=HN.O;omega) hj e):P:=h
theorem O6(Rb:Nat)(s:az)(d:Int)(b:Bool)(U:s.aB.contains d=b)(hl:s.aB.length≤100000)(w:World)(Ms M:Nat→Prop)(h:RR w Ms M Rb s)(R:ak)
 (I:R (.returned (.bool b)) w):
 Calls prog 128 #[.pointer (some ⟨Rb,7,none⟩),E d] w R:=by
 obtain⟨sv,qv,fv,gv,F⟩:=h;have HR:=Z I;have A:=F.A;have c7:=F.cells.2.2.2.2.2.2.2;have bk:=tH s.aB;rw[←KR] at U;generalize bA s.aB=L at A bk U;rw[←bk] at A hl;obtain⟨n,hn⟩:=ai L.length;rw[hn] at A hl;obtain⟨ga,gc,rfl⟩:=cR A;obtain⟨HG,HN,HB⟩:=bX A hn U;clear I F A hn U bk;go_enter func128,ntmps128;go_wp2;go_loopg [5] n (fun gn i wr=>∃k:Nat,k≤n∧gn=n - k∧i= .int .i64 k∧wr=w∧Hid (∀j (hj:j<k) (gA:j<L.length),L[j]≠d))
 case atStart=>exact⟨0,bP _,by omega,rfl,rfl,Z (fun j hj=>by omega)⟩
 case round=>
  obtain⟨k,G,rfl,rfl,rfl,eR⟩:=hrel;by_cases au:k<n
  ·have bo:(k:Int)<(n:Int):=by omega
   have gq:k<L.length:=by have:=HN.O;omega
   obtain⟨g,rfl⟩:=jF HG.O (by omega);have fI:wr.cell? ⟨g,k,none⟩=some (.int .i64 L[k]):=by
    rw[HG.O.cellAt k (by omega)];exact TD L k gq
   obtain⟨v,hv⟩:=ai (L[k]);rw[hv] at fI;by_cases he:v=d
   ·subst he;obtain rfl:true=b:=by rw[←HB.O,←hv];simp
    clear hv;go_wp2;exact HR.O
   have KK:Hid (∀j (hj:j<k+1) (gA:j<L.length),L[j]≠d):=fun j hj gA=>by
    by_cases pQ:j=k
    ·subst pQ;rw[hv];exact he
    exact eR.O j (by omega) gA
   clear hv;exact KJ
  have bo:¬(k:Int)<(n:Int):=by omega
  obtain rfl:false=b:=by
   exact abe
  go_wp2;exact HR.O
theorem alf(Rb:Nat)(s:az)(d:Int)(b:Bool)(U:s.aB.contains d=b)(hl:s.aB.length≤100000)(w:World)(Ms M:Nat→Prop)(h:RR w Ms M Rb s)(au:∀b,Ms b→b<w.heap.size)(R:ak)
 (I:∀M' w',RR w' Ms M' Rb {s with aB:=s.aB.erase d}→Sep M M' w w'→R (.returned (.bool b)) w'):
 Calls prog 76 #[.pointer (some ⟨Rb,7,none⟩),E d] w R:=by
 obtain⟨sv,qv,fv,gv,F⟩:=h;have HR:=Z I;have A:=F.A;have c7:=F.cells.2.2.2.2.2.2.2;have bk:=tH s.aB;have abf:=Z (fun i hi h=>ale (l:=s.aB) (d:=d) (i:=i) hi h);have HX:=Z F;have bB:=Z U;rw[←KR] at U;generalize bA s.aB=L at A bk U abf;rw[←bk] at A hl;obtain⟨n,hn⟩:=ai L.length;rw[hn] at A hl;obtain⟨ga,gc,rfl⟩:=cR A;obtain⟨i0,cp,_,cJ,_⟩:=info_parts sK;obtain⟨HG,HN,oR,HB,fx⟩:=jq A hn bk U au;clear I F A hn U bk au;go_enter func76,ntmps76;go_wp2;go_loopg [5] n (fun gn i wr=>∃k:Nat,k≤n∧gn=n - k∧i= .int .i64 k∧wr=w∧Hid (∀j (hj:j<k) (gA:j<L.length),L[j]≠d))
 case atStart=>exact⟨0,bP _,by omega,rfl,rfl,Z (fun j hj=>by omega)⟩
 case round=>
  obtain⟨k,G,rfl,rfl,rfl,eR⟩:=hrel;by_cases au:k<n;rotate_left
  ·have bo:¬(k:Int)<(n:Int):=by omega
   obtain rfl:false=b:=by
    exact abe
   have HE:Hid (s.aB.erase d=s.aB):=List.erase_of_not_mem (by simpa using bB.O);go_wp2;exact HR.O M wr (by rw[HE.O];exact⟨sv,qv,fv,_,HX.O⟩) (.refl _ _)
  have bo:(k:Int)<(n:Int):=by omega
  have gq:k<L.length:=by have:=HN.O;omega
  obtain⟨g,rfl⟩:=jF HG.O (by omega);have fI:wr.cell? ⟨g,k,none⟩=some (.int .i64 L[k]):=by
   rw[HG.O.cellAt k (by omega)];exact TD L k gq
  obtain⟨v,hv⟩:=ai (L[k]);rw[hv] at fI;by_cases he:v=d
  ·subst he;obtain rfl:true=b:=by rw[←HB.O,←hv];simp
   have alg:=Z (abf.O k gq hv);have jv:=(bh.iG HG.O).cap;obtain⟨FL,nh⟩:=bh.upto (k:=k) (bh.iG (aR HG.O (bq wr))) underlying25 cp cJ (by omega);obtain⟨ax,ov,bE,_⟩:=bh.from (k:=k+1) (bh.iG HG.O) underlying25 cp cJ (by omega);have pW:=bE.cap;have KT:wr.drew.cell? ⟨Rb,7,none⟩=_:=c7;obtain⟨wY,uL,fP,eT⟩:=cF bE nh jv pW;have Tj:∀w',(Instr.slice 25 (.slice (some ⟨g,0,none⟩) n gc) (some (.int .i64 ((k:Int)+1))) none none).run prog w'= .ok (.slice ax (n - (k+1)) (gc - (k+1))) w':=ov;have OU:IntKind.i64.wrap ((k:Int)+1)=(k:Int)+1:=by rw[IntKind.wrap_i64];omega
   clear nh bE jv pW ov hv eR;go_wp2_with fail;go_region_law (first
    |(refine yQ (by rfl) (.tmp 26) (.tmp 32) 25 (by rfl) wr 3 (E 0) 1 8 underlying25 sK rfl (by decide) none (by rfl) (bO _ _ _ _) (some ⟨g,0,none⟩) k gc _ (by rfl) uL.O (zK (Bt _)) (fun h=>by cases h) (by unfold maxLen;omega) (by omega) bj ?_;intro h_ c3 w3 bN an;have BU:=cell_later an KT;have dh:Below wr wr w3:=ed (bq wr) an)
    |(refine ig (by rfl) (.tmp 33) (.tmp 40) 25 (by rfl) wr 3 (E 0) 1 8 underlying25 sK rfl (by decide) h_ k c3 _ (by rfl) bN ax (n - (k+1)) (gc - (k+1)) _ (by rfl) (FI wY.O dh) (FJ (Bt _)) eT.O.2.2 (by unfold maxLen;omega) (by omega) dh.size ?_;intro oq c4 w4 eQ cV _;have ao:=bT dh cV dh.size bN;have r4:=aA HX.O.hS ao;have e4:=D 7 r4;have f4:=aC r4 7))
   all_goals
    have sL:k+(n - (k+1))=(s.aB.erase v).length:=by
     have h1:v∈s.aB:=by simpa using bB.O
     rw[List.length_erase_of_mem h1,←oR.O,HN.O]
     omega
    obtain⟨M',jP,jQ⟩:=RX.aaO (gs:=s.aB.erase v) HX.O fx.O ao (by
     rw[←sL,alg.O,←TE,←abc,←abd]
     simpa using eQ)
    have sk:=Z jP;have uM:=Z jQ;clear jP jQ eQ cV ao r4 e4 f4 dh bN BU an sL;go_wp2_with fail;exact HR.O M' _ ⟨sv,qv,fv,_,sk.O⟩ uM.O
  have KK:Hid (∀j (hj:j<k+1) (gA:j<L.length),L[j]≠d):=fun j hj gA=>by
   by_cases pQ:j=k
   ·subst pQ;rw[hv];exact he
   exact eR.O j (by omega) gA
  clear hv;exact KJ
theorem alh{l L:List Int}(hL:bA l=L){d:Int}(hi:i≤L.length)(h1:∀j (hj:j<i),L[j]'(by omega)<d)(h2:∀(h:i<L.length),d<L[i]):bA (l++ [d])=L.take i++ [d]++L.drop i:=by
 subst hL;exact alc hi h1 h2
theorem ali{l L:List Int}(hL:bA l=L){d:Int}(hi:i<L.length)(h1:∀j (hj:j<i),L[j]'(by omega)<d)(h2:d≤L[i]):(L[i]=d)↔l.contains d=true:=by
 subst hL;exact ald hi h1 h2
theorem abg(Rb:Nat)(d:Int)(hd:d<1∨65535<d)(w:World)(R:ak)
 (I:R (.returned (.bool false)) w):
 Calls prog 99 #[.pointer (some ⟨Rb,7,none⟩),E d] w R:=by
 have HR:=Z I;clear I;by_cases h1:d<1
 ·clear hd;go_enter func99,ntmps99;go_wp2;exact HR.O
 have h2:65535<d:=by omega
 clear hd;go_enter func99,ntmps99;go_wp2;exact HR.O
theorem abh{P:Prop}(h:P:=by
 obtain⟨M',jP,jQ⟩:=RX.aaO (gs:=s.aB++ [d]) HX.O fx.O aE (by
  rw[←sL,abi.O,←TE,←TE,←abc,←abd,show iv [d]= [Value.int .i64 d] from rfl]
  simpa using gC)
 have sk:=Z jP;have uM:=Z jQ;clear jP jQ gC gZ aE r5 e5 f5 ao eQ O7 dh bN BU an sL;go_wp2_with fail;exact HR.O M' _ ⟨sv,qv,fv,_,sk.O⟩ uM.O):P:=h
theorem TF(Rb:Nat)(s:az)(d:Int)(kI:1≤d)(Iq:d≤65535)(b:Bool)(U:s.aB.contains d= !b)(hl:s.aB.length≤100000)(w:World)(Ms M:Nat→Prop)(h:RR w Ms M Rb s)(au:∀b,Ms b→b<w.heap.size)(R:ak)
 (I:∀M' w',RR w' Ms M' Rb (if b=true then {s with aB:=s.aB++ [d]} else s)→Sep M M' w w'→R (.returned (.bool b)) w'):
 Calls prog 99 #[.pointer (some ⟨Rb,7,none⟩),E d] w R:=by
 obtain⟨sv,qv,fv,gv,F⟩:=h;have HR:=Z I;have A:=F.A;have c7:=F.cells.2.2.2.2.2.2.2;have bk:=tH s.aB;have HX:=Z F;have HB:=Z U;have O8:=Z (KR s.aB d);obtain⟨L,hL⟩:=ai (bA s.aB);rw[hL] at A bk O8;have O9:=Z (fun i hi h1 h2=>alh hL (d:=d) (i:=i) hi h1 h2);have x9:=Z (fun i hi h1 h2=>ali hL (d:=d) (i:=i) hi h1 h2);clear hL;rw[←bk] at A hl;obtain⟨n,hn⟩:=ai L.length;rw[hn] at A hl;obtain⟨ga,gc,rfl⟩:=cR A;obtain⟨i0,cp,_,cJ,_⟩:=info_parts sK;obtain⟨HG,HN,oR,fx⟩:=cF A hn bk au;have zj:¬d<1:=by omega
 have wK:¬65535<d:=by omega
 clear I F A hn U bk au kI Iq;go_enter func99,ntmps99;go_wp2;go_loopg [5] n (fun gn i wr=>∃k:Nat,k≤n∧gn=n - k∧i= .int .i64 k∧wr=w∧Hid (∀j (hj:j<k) (gA:j<L.length),L[j]<d))
 case atStart=>exact⟨0,bP _,by omega,rfl,rfl,Z (fun j hj=>by omega)⟩
 case round=>
  obtain⟨k,G,rfl,rfl,rfl,eR⟩:=hrel;by_cases au:k<n
  ·have bo:(k:Int)<(n:Int):=by omega
   have gq:k<L.length:=by have:=HN.O;omega
   obtain⟨g,rfl⟩:=jF HG.O (by omega);have fI:wr.cell? ⟨g,k,none⟩=some (.int .i64 L[k]):=by
    rw[HG.O.cellAt k (by omega)];exact TD L k gq
   obtain⟨v,hv⟩:=ai (L[k]);rw[hv] at fI;by_cases alj:v<d
   ·have KK:Hid (∀j (hj:j<k+1) (gA:j<L.length),L[j]<d):=fun j hj gA=>by
     by_cases pQ:j=k
     ·subst pQ;rw[hv];exact alj
     exact eR.O j (by omega) gA
    clear hv;exact KJ
   have bZ:=x9.O k gq (fun j hj=>eR.O j hj (by omega)) (by rw[hv];omega);rw[hv] at bZ;by_cases he:v=d
   ·obtain rfl:false=b:=by
     have:=bZ.1 he;rw[HB.O] at this
     simpa using this.symm
    subst he;clear bZ hv;go_wp2;exact HR.O M wr ⟨sv,qv,fv,_,HX.O⟩ (.refl _ _)
   obtain rfl:true=b:=by
    have:¬s.aB.contains d=true:=fun h=>he (bZ.2 h);rw[HB.O] at this
    simpa using this
   have abi:Hid (bA (s.aB++ [d])=L.take k++ [d]++L.drop k):=O9.O k (by omega) (fun j hj=>eR.O j hj (by omega)) (fun _=>by rw[hv];omega);have bf:(v==d)=false:=by simpa using he
   clear bZ hv he;clear eR x9 O9 O8;have jv:=(bh.iG HG.O).cap;have fw:=jv.1;obtain⟨FL,nh⟩:=bh.upto (k:=k) (bh.iG (aR HG.O (bq wr))) underlying25 cp cJ (by omega);obtain⟨ax,ov,bE,_⟩:=bh.from (k:=k) (bh.iG HG.O) underlying25 cp cJ (by omega);have pW:=bE.cap;have KT:wr.drew.cell? ⟨Rb,7,none⟩=_:=c7;have ep:Below wr wr (wr.alloc (.cells #[Value.int .i64 d] 3)).drew:=(aD _ _).drew;have TG:=cell_later ep c7;have KU:=(bh.upto (k:=k) (bh.iG (aR HG.O ep)) underlying25 cp cJ (by omega)).2;have wY:=Z bE;have uL:=Z nh;have TH:Hid (Rd (wr.alloc (.cells #[Value.int .i64 d] 3)).drew 1 (some ⟨g,0,none⟩) k ((iv L).take (k*1))):=Z KU;have oI:Hid (Rd (wr.alloc (.cells #[Value.int .i64 d] 3)).drew 1 (some ⟨wr,0,none⟩) 1 [Value.int .i64 d]):=Z (Rd.below (dO wr #[Value.int .i64 d] 3 1 1 rfl) (bq _));have fP:=Z jv;have eT:=Z pW;clear nh KU bE jv pW;go_wp2_with fail;go_region_law (first
    |(refine yQ (by rfl) (.tmp 52) (.tmp 58) 25 (by rfl) wr 3 (E 0) 1 8 underlying25 sK rfl (by decide) none (by rfl) (bO _ _ _ _) (some ⟨g,0,none⟩) k gc _ (by rfl) uL.O (zK (Bt _)) fP.O.2.2 (by unfold maxLen;omega) (by omega) bj ?_;intro h_ c3 w3 bN an;have BU:=cell_later an KT;have KV:Below w3 w3 (w3.alloc (.cells #[Value.int .i64 d] 3)):=aD _ _;have alk:=cell_later KV BU;have dh:Below wr wr w3:=ed (bq wr) an;have qJ:=dh.trans (KV.mono dh.size);have uP:=dO w3 #[Value.int .i64 d] 3 1 1 rfl)
    |(refine yQ (by rfl) (.tmp 52) (.tmp 58) 25 (by rfl) wr 3 (E 0) 1 8 underlying25 sK rfl (by decide) none (by rfl) (bO _ _ _ _) (some ⟨g,0,none⟩) k gc _ (by rfl) TH.O (zK (Bt _)) fP.O.2.2 (by unfold maxLen;omega) (by omega) ep.size ?_;intro h_ c3 w3 bN an;have BU:=cell_later an TG;have dh:Below wr wr w3:=ep.trans (an.mono ep.size);have uP:=oI.O.below an)
    |(refine ig (by rfl) (.tmp 59) (.tmp 61) 25 (by rfl) wr 3 (E 0) 1 8 underlying25 sK rfl (by decide) h_ k c3 _ (by rfl) (bN.alloc (.cells #[Value.int .i64 d] 3)) (some ⟨w3,0,none⟩) 1 1 [Value.int .i64 d] (by rfl) uP (px _ _) (fun h=>by cases h) (by unfold maxLen;omega) (by omega) qJ.size ?_;intro oq c4 w4 eQ cV _;have ao:=bT qJ cV qJ.size (bN.alloc (.cells #[Value.int .i64 d] 3));have O7:=cell_later ao c7)
    |(refine ig (by rfl) (.tmp 59) (.tmp 61) 25 (by rfl) wr 3 (E 0) 1 8 underlying25 sK rfl (by decide) h_ k c3 _ (by rfl) bN (some ⟨wr,0,none⟩) 1 1 [Value.int .i64 d] (by rfl) uP (px _ _) (fun h=>by cases h) (by unfold maxLen;omega) (by omega) dh.size ?_;intro oq c4 w4 eQ cV _;have ao:=bT dh cV dh.size bN;have O7:=cell_later ao c7)
    |(refine ig (by rfl) (.tmp 62) (.tmp 68) 25 (by rfl) wr 3 (E 0) 1 8 underlying25 sK rfl (by decide) oq (k+1) c4 _ (by rfl) eQ ax (n - k) (gc - k) _ (by rfl) (FI wY.O ao) (FJ (Bt _)) eT.O.2.2 (by unfold maxLen;omega) (by omega) ao.size ?_;intro ED c5 w5 gC gZ _;have aE:=bT ao gZ ao.size eQ;have r5:=aA HX.O.hS aE;have e5:=D 7 r5;have f5:=aC r5 7))
   all_goals
    have sL:k+1+(n - k)=(s.aB++ [d]).length:=by
     rw[aK,←oR.O,HN.O,List.length_singleton]<;>omega
    exact abh
  have bo:¬(k:Int)<(n:Int):=by omega
  obtain rfl:k=n:=by omega
  obtain rfl:true=b:=by
   have h9:¬L.contains d=true:=fun hm=>by
    obtain⟨j,hj,e⟩:=lD (by simpa using hm:d∈L);have:=eR.O j (by have:=HN.O;omega) hj
    omega
   rw[O8.O,HB.O] at h9
   simpa using h9
  have abi:Hid (bA (s.aB++ [d])=L.take k++ [d]++L.drop k):=O9.O k (by have:=HN.O;omega) (fun j hj=>eR.O j hj (by have:=HN.O;omega)) (fun h=>by have:=HN.O;omega);clear eR x9 O9 O8;have jv:=(bh.iG HG.O).cap;have fw:=jv.1;obtain⟨FL,nh⟩:=bh.upto (k:=k) (bh.iG (aR HG.O (bq wr))) underlying25 cp cJ (by omega);obtain⟨ax,ov,bE,_⟩:=bh.from (k:=k) (bh.iG HG.O) underlying25 cp cJ (by omega);rw[Nat.sub_self] at ov bE;have pW:=bE.cap;have KT:wr.drew.cell? ⟨Rb,7,none⟩=_:=c7;have ep:Below wr wr (wr.alloc (.cells #[Value.int .i64 d] 3)).drew:=(aD _ _).drew;have TG:=cell_later ep c7;have KU:=(bh.upto (k:=k) (bh.iG (aR HG.O ep)) underlying25 cp cJ (by omega)).2;have wY:=Z bE;have uL:=Z nh;have TH:Hid (Rd (wr.alloc (.cells #[Value.int .i64 d] 3)).drew 1 ga k ((iv L).take (k*1))):=Z KU;have oI:Hid (Rd (wr.alloc (.cells #[Value.int .i64 d] 3)).drew 1 (some ⟨wr,0,none⟩) 1 [Value.int .i64 d]):=Z (Rd.below (dO wr #[Value.int .i64 d] 3 1 1 rfl) (bq _));have fP:=Z jv;have eT:=Z pW;clear nh KU bE jv pW;go_wp2_with fail;go_region_law (first
   |(refine yQ (by rfl) (.tmp 52) (.tmp 58) 25 (by rfl) wr 3 (E 0) 1 8 underlying25 sK rfl (by decide) none (by rfl) (bO _ _ _ _) ga k gc _ (by rfl) uL.O (zK (Bt _)) fP.O.2.2 (by unfold maxLen;omega) (by omega) bj ?_;intro h_ c3 w3 bN an;have BU:=cell_later an KT;have KV:Below w3 w3 (w3.alloc (.cells #[Value.int .i64 d] 3)):=aD _ _;have alk:=cell_later KV BU;have dh:Below wr wr w3:=ed (bq wr) an;have qJ:=dh.trans (KV.mono dh.size);have uP:=dO w3 #[Value.int .i64 d] 3 1 1 rfl)
   |(refine yQ (by rfl) (.tmp 52) (.tmp 58) 25 (by rfl) wr 3 (E 0) 1 8 underlying25 sK rfl (by decide) none (by rfl) (bO _ _ _ _) ga k gc _ (by rfl) TH.O (zK (Bt _)) fP.O.2.2 (by unfold maxLen;omega) (by omega) ep.size ?_;intro h_ c3 w3 bN an;have BU:=cell_later an TG;have dh:Below wr wr w3:=ep.trans (an.mono ep.size);have uP:=oI.O.below an)
   |(refine ig (by rfl) (.tmp 59) (.tmp 61) 25 (by rfl) wr 3 (E 0) 1 8 underlying25 sK rfl (by decide) h_ k c3 _ (by rfl) (bN.alloc (.cells #[Value.int .i64 d] 3)) (some ⟨w3,0,none⟩) 1 1 [Value.int .i64 d] (by rfl) uP (px _ _) (fun h=>by cases h) (by unfold maxLen;omega) (by omega) qJ.size ?_;intro oq c4 w4 eQ cV _;have ao:=bT qJ cV qJ.size (bN.alloc (.cells #[Value.int .i64 d] 3));have O7:=cell_later ao c7)
   |(refine ig (by rfl) (.tmp 59) (.tmp 61) 25 (by rfl) wr 3 (E 0) 1 8 underlying25 sK rfl (by decide) h_ k c3 _ (by rfl) bN (some ⟨wr,0,none⟩) 1 1 [Value.int .i64 d] (by rfl) uP (px _ _) (fun h=>by cases h) (by unfold maxLen;omega) (by omega) dh.size ?_;intro oq c4 w4 eQ cV _;have ao:=bT dh cV dh.size bN;have O7:=cell_later ao c7)
   |(refine ig (by rfl) (.tmp 62) (.tmp 68) 25 (by rfl) wr 3 (E 0) 1 8 underlying25 sK rfl (by decide) oq (k+1) c4 _ (by rfl) eQ ax 0 (gc - k) _ (by rfl) (FI wY.O ao) (FJ (Bt _)) eT.O.2.2 (by unfold maxLen;omega) (by omega) ao.size ?_;intro ED c5 w5 gC gZ _;have aE:=bT ao gZ ao.size eQ;have r5:=aA HX.O.hS aE;have e5:=D 7 r5;have f5:=aC r5 7))
  all_goals
   have sL:k+1+0=(s.aB++ [d]).length:=by
    rw[aK,←oR.O,HN.O,List.length_singleton]<;>omega
   exact abh
variable{x:Im}{Rb:Nat}{M Ms:Nat→Prop}{s:az}{fv gv qv bY sv:Value}{w w1:World}
theorem RX.push{ps:List (V3×Im)}{c:V3}(h:RX w Ms M Rb sv qv fv gv s)(au:∀b,Ms b→b<w.heap.size)(aZ:ps.map (·.2)=s.queue)(a_:∀p∈ps,dk w Ms p.1 p.2)(F:dk w Ms c x)
 (hr:bh w1 36 14 bY (s.queue.length+1) (ps.flatMap dX++dX (c,x))) (ha:C3 w w1 qv bY):
 ∃M',RX (w1.setCell ⟨Rb,5,none⟩ bY) Ms M' Rb sv bY fv gv {s with queue:=s.queue++ [x]}∧Sep M M' w (w1.setCell ⟨Rb,5,none⟩ bY):=by
 obtain⟨K,A,hK⟩:∃K,w.grownBy w1 (some K)∧(M K∧bw w K=36+2∨w.heap.size≤K):=by
  rcases ha with⟨A,e⟩|⟨A,e⟩
  ·cases hv:qv.ownBlock with
   |none=>exact⟨w.heap.size,AE (by rw[hv] at A;exact A),.inr bj⟩
   |some k=>exact⟨k,by rw[hv] at A;exact A,.inl ⟨h.mq k hv,h.OR k hv⟩⟩
  exact⟨w.heap.size,AE A,.inr bj⟩
 have jG:∀k,bY.ownBlock=some k→M k∨w.heap.size≤k:=fun k G=>by
  rcases ha with⟨_,e⟩|⟨_,e⟩
  ·exact .inl (h.mq k (e▸G))
  rw[e] at G;cases G;exact .inr bj
 let M':Nat→Prop:=fun b=>M b∨bY.ownBlock=some b
 have cH:Sep M M' w w1:=⟨A.os,A.tape,A.output,A.size,fun b U hM=>A.block b U (fun e=>by
  have e:=Option.some.inj e;rcases hK with⟨G,_⟩|G
  ·exact hM (e▸G)
  ·omega),fun b U=>by
  rcases U with U|U
  ·exact .inl U
  exact jG b U,fun awX ⟨m,hm,hl⟩=>⟨m,.inl hm,hl⟩⟩
 have bf:∀b,b<w.heap.size→bw w b≠36+2→w1.heap[b]? =w.heap[b]?:=fun b U G=>A.block b U (fun e=>by
  have e:=Option.some.inj e;rcases hK with⟨_,eB⟩|eB
  ·exact G (e▸eB)
  omega)
 have jJ:=(bf Rb h.rb (by rw[h.xW];decide)).trans h.hS;have iS:bw w1 Rb=62+2:=j6 jJ;have bD:=br w1 ⟨Rb,5,none⟩ bY;have bF:Sep M' M' w1 (w1.setCell ⟨Rb,5,none⟩ bY):= .kV bD (fun k G=>by cases G;exact .inl h.mR);have W:=cH.trans bF;have aI:∀b,b<w1.heap.size→bw w1 b≠62+2→(w1.setCell ⟨Rb,5,none⟩ bY).heap[b]? =w1.heap[b]?:=fun b U G=>bD.block b U (fun e=>G (Option.some.inj e▸iS));have both:∀b,b<w.heap.size→bw w b≠36+2→bw w b≠62+2→(w1.setCell ⟨Rb,5,none⟩ bY).heap[b]? =w.heap[b]?:=fun b U k1 k2=>by
  exact Ez
 have OR:∀b,bY.ownBlock=some b→bw (w1.setCell ⟨Rb,5,none⟩ bY) b=36+2:=fun b U=>by
  have h1:=hr.kind b U;rw[vN (aI b (hr.lt b U) (by rw[h1];decide))];exact h1
 refine⟨M',⟨?_,jO h.W (fun k G=>both k (h.W.lt k G).2 (by rw[eJ h.W k G];decide) (by rw[eJ h.W k G];decide)),?_,?_,jO h.A (fun k G=>both k (h.A.lt k G).2 (by rw[eJ h.A k G];decide) (by rw[eJ h.A k G];decide)),
  .inl h.mR,fun k G=> .inl (h.ms k G),fun k G=> .inr G,fun k G=> .inl (h.mf k G),h.mg,?_,?_,?_,?_⟩,W⟩
 ·rw[bm w1 Rb 5 _ _ _ jJ]
  rfl
 ·refine⟨ps++ [(c,x)],by rw[nv,aZ];rfl,?_,fun p hp=> ?_⟩
  ·rw[jZ];have:=hr.grown bD (.inl (hr.ne jJ (by decide)))
   simpa using this
  ·rcases ez.1 hp with hp|hp
   ·exact(a_ p hp).apart h.kd h.lo W
   ·obtain rfl:=dM.1 hp;exact F.apart h.kd h.lo W
 ·obtain⟨fs,f1,f2,f3⟩:=h.hf;exact⟨fs,f1,jO f2 (fun k G=>both k (f2.lt k G).2 (by rw[eJ f2 k G];decide) (by rw[eJ f2 k G];decide)),fun p hp=>(f3 p hp).apart h.kd h.lo W⟩
 ·rintro b (U|U)
  ·by_cases e:bY.ownBlock=some b
   ·rw[OR b e];exact .inr (.inl rfl)
   ·by_cases e2:b=Rb
    ·subst e2;refine .inl ?_;unfold bw;rw[bm _ _ _ _ _ _ jJ]
    ·have h1:w1.heap[b]? =w.heap[b]?:=by
      rcases ha with⟨j9,e4⟩|⟨j9,_⟩
      ·exact j9.block b (h.lt b U) (fun e5=>e (by rw[e4];exact e5.symm))
      exact j9.block b (h.lt b U) (by simp)
     rw[vN ((heap_setCell_other _ _ _ _ e2).trans h1)];exact h.kd b U
  ·rw[OR b U];exact .inr (.inl rfl)
 ·rintro b (U|U)
  ·exact h.lo b U
  ·rcases jG b U with h1|h1
   ·exact h.lo b h1
   ·obtain⟨m,m1,m2⟩:=h.lo Rb h.mR;have:=h.rb;exact⟨m,m1,by omega⟩
 ·rintro b (U|U)
  ·exact h.qG b U
  ·rcases jG b U with h1|h1
   ·exact h.qG b h1
   ·intro h2;have:=au b h2
    omega
 ·rintro b (U|U)
  ·exact eV (h.lt b U) W.size
  ·have:=hr.lt b U
   simpa [World.setCell] using this
theorem ak3(Rb:Nat)(s:az)(v:Array Value)(w:World)(Ms M:Nat→Prop)(h:RR w Ms M Rb s)(hl:8≤s.queue.length)(kZ:s.queue.length≤100000)(R:ak)
 (I:∀w',Below w w w'→R (.returned (.bool false)) w'):
 Calls prog 68 #[zq Rb,.agg v] w R:=by
 obtain⟨sv,qv,fv,gv,F⟩:=h;have HR:=Z I;obtain⟨qa,qc,rfl⟩:∃a c,qv= .slice a s.queue.length c:=by
  obtain⟨ps,_,h2,_⟩:=F.hq;exact h2.shape
 have aM:Below w w (w.alloc (.cells v 36)):=aD _ _;have bB:=Z aM;have c5:=(F.below aM).cells.2.2.2.2.2.1;have RQ:(8:Int)≤(s.queue.length:Int):=by omega
 clear I F aM;go_enter func68,ntmps68;go_wp2;exact HR.O _ bB.O
theorem ak4(Rb:Nat)(s:az)(x:Im)(V:av)(X:Nat)(qa:av)(qc:Nat)(ea:av)(ec:Nat)(w:World)(Ms M:Nat→Prop)(h:RR w Ms M Rb s)(au:∀b,Ms b→b<w.heap.size)(hl:s.queue.length<8)(J:dk w Ms (.slice V x.note.ay.length X,.slice qa x.note.props.length qc,.slice ea x.ids.length ec) x)(R:ak)
 (I:∀M' w',RR w' Ms M' Rb {s with queue:=s.queue++ [x]}→Sep M M' w w'→R (.returned (.bool true)) w'):
 Calls prog 68 #[zq Rb,.agg (aG x V X qa qc ea ec)] w R:=by
 obtain⟨sv,qv,fv,gv,F⟩:=h;have HR:=Z I;obtain⟨va,vc,rfl⟩:∃a c,qv= .slice a s.queue.length c:=by
  obtain⟨ps,_,h2,_⟩:=F.hq;exact h2.shape
 obtain⟨n,hn⟩:=ai s.queue.length;rw[hn] at F hl;have RQ:¬(8:Int)≤(n:Int):=by omega
 have aM:Below w w (w.alloc (.cells (aG x V X qa qc ea ec) 36)):=aD _ _;have bB:=Z aM;have EB:=Z (aH w (.cells (aG x V X qa qc ea ec) 36));have Tx:=Z (F.below aM);have uJ:=Z (J.sep (.cL aM));have aa0:Hid (∀b,Ms b→b<(w.alloc (.cells (aG x V X qa qc ea ec) 36)).heap.size):=Z (fun b U=>eV (au b U) aM.size);have HN:=Z hn;have c5:=Tx.O.cells.2.2.2.2.2.1;clear I J F hn aM au;go_enter func68,ntmps68;go_wp2_with fail;clear c5;generalize w.alloc (.cells (aG x V X qa qc ea ec) 36)=w1 at bB EB Tx uJ aa0⊢;have kI:Below w1 w1 w1.drew:=bq _;have yU:=Z (Tx.O.below kI);have fP:=Z (uJ.O.sep (.cL kI));have c5:=yU.O.cells.2.2.2.2.2.1;have kK:Below w1.drew.heap.size w1.drew (w1.drew.alloc (.cells (aG x V X qa qc ea ec) 36)):=aD _ _;have xR:=Z (yU.O.below kK);have mB:=Z (fP.O.sep (.cL kK));have Ty:(w1.alloc (.cells (aG x V X qa qc ea ec) 36)).drew.cell? ⟨Rb,5,none⟩=some (.slice va n vc):=cell_later kK c5;obtain⟨⟨i0,i1,i2,i3,i4,i5,i6⟩,i7,i8,i9,i10,i11,i12,i13⟩:=tg (w:=w1.drew) EB.O;obtain⟨ps,aZ,aq,a_⟩:=xR.O.hq;rw[HN.O] at aq;obtain⟨dR,aV,je⟩:=bX aZ aq a_;clear aZ aq a_;go_region_law (first
  |refine RL (by rfl) (.tmp 15) (.tmp 17) 52 (by rfl) 36 (Value.agg aX) 14 184 underlying52 vr rfl (by decide) (.slice va n vc) n _ (by rfl) aV.O ⟨w1,0,none⟩ 1 1 (aG x V X qa qc ea ec) (by rfl) (dO w1.drew (aG x V X qa qc ea ec) 36 14 1 rfl) (BE _ _ _ _ _ _ _) (by unfold maxLen;omega) (by omega) (by omega) ?_;intro ED avq w5 fE EE;have r5:=EE.row aV.O xR.O.hS (by decide);have aa1:=D 5 r5;have f55:=aC r5 5)
 all_goals
  obtain⟨M',jP,jQ⟩:=RX.push xR.O (fun b U=>eV (aa0.O b U) (aJ kI.size kK.size)) dR.O je.O mB.O (by rw[HN.O];exact fE) EE;have sk:=Z jP;have uM:=Z ((((Sep.cL bB.O).trans (.cL kI)).trans (.cL kK)).trans jQ);clear jP jQ r5 aa1 f55 EE fE i0 i1 i2 i3 i4 i5 i6 i7 i8 i9 i10 i11 i12 i13 c5 Ty;go_wp2_with fail;exact HR.O M' _ ⟨sv,_,fv,gv,sk.O⟩ uM.O
theorem aa2{P:Prop}(h:P:=by
 have:=jd.O;rw[oO,bg (k*14+j) (by omega),kY 14 dX oS ps k j fF hj,jV]
 rfl):P:=h
theorem aa3{P:Prop}(h:P:=by
 rcases bZ with⟨e4,cV⟩|⟨_,cV⟩
 ·exact cV.block b (h.lt b U) (fun e5=>e (by rw[e4];exact e5.symm))
 exact cV.block b (h.lt b U) (by simp)):P:=h
theorem aa4{P:Prop}(h:P:=by
 exact⟨qs,q1,q2.wH (fun k G=>both k (q2.lt k G) (by rw[q2.kind k G];decide) (by rw[q2.kind k G];decide)),fun p hp=>(q3 p hp).apart h.kd h.lo W⟩):P:=h
theorem Tz{P:Prop}(h:P:=by
 have:=Hn.O;show World.ownsRow _ _ _ _ _ _ _;rw[jZ,show [(((Value.slice V x.note.ay.length X,Value.slice qa x.note.props.length qc,Value.slice ea x.ids.length ec),x):V3×Im)].flatMap dX= (aG x V X qa qc ea ec) from rfl];exact this):P:=h
theorem alm(Rb:Nat)(s:az)(id:Int)(s':az)(a b:Bool)(J:pU s id=(s',a,b))(hl:s.aB.length≤100000)(w:World)(Ms M:Nat→Prop)(h:RR w Ms M Rb s)(au:∀b,Ms b→b<w.heap.size)(R:ak)
 (I:∀M' w',RR w' Ms M' Rb s'→Sep M M' w w'→R (.returned (.tuple #[.bool a,.bool b])) w'):
 Calls prog 74 #[zq Rb,E id] w R:=by
 obtain⟨HR,H,fx⟩:=bX I h au;obtain⟨sv,qv,fv,gv,F⟩:=h;have c7:=F.cells.2.2.2.2.2.2.2;obtain⟨ga,gc,rfl⟩:=cR F.A;clear I F au;unfold pU at J;by_cases h1:s.aB.contains id=true
 ·rw[if_pos h1] at J;simp only[Prod.mk.injEq] at J;obtain⟨rfl,rfl,rfl⟩:=J;have H1:=Z h1;clear h1;go_enter func74,ntmps74;go_wp2_with (go_at_call 128;go_must(refine O6 Rb s id true H1.O hl _ Ms M H.O _ ?_));exact HR.O _ _ H.O (.refl _ _)
 rw[if_neg h1] at J;have H1:Hid (s.aB.contains id=false):=Z (ns.2 h1);clear h1;obtain⟨n,hn⟩:=ai s.aB.length;have HN:=Z hn;rw[hn] at J c7;have HL:Hid (s.aB.length≤100000):=Z hl;clear hl hn;by_cases h2:n<8∧1≤id∧id≤65535
 ·rw[if_pos h2] at J;simp only[Prod.mk.injEq] at J;obtain⟨rfl,rfl,rfl⟩:=J;obtain⟨h3,h4,h5⟩:=h2;have su:¬(8:Int)≤(n:Int):=by omega
  go_enter func74,ntmps74;go_wp2_with (first
   |(go_at_call 128;go_must(refine O6 Rb s id false H1.O HL.O _ Ms M H.O _ ?_))
   |(go_at_call 99;go_must(refine TF Rb s id h4 h5 true (by rw[H1.O];rfl) HL.O _ Ms M H.O fx.O _ ?_);intro M3 w3 dq ik;have ji:=Z dq;have ku:=Z ik;clear dq ik))
  exact HR.O _ _ ji.O ku.O
 rw[if_neg h2] at J;simp only[Prod.mk.injEq] at J;obtain⟨rfl,rfl,rfl⟩:=J;by_cases h3:n<8
 ·have su:¬(8:Int)≤(n:Int):=by omega
  have H4:Hid (id<1∨65535<id):=Z (by omega);clear h2;go_enter func74,ntmps74;go_wp2_with (first
   |(go_at_call 128;go_must(refine O6 Rb s id false H1.O HL.O _ Ms M H.O _ ?_))
   |(go_at_call 99;go_must(refine abg Rb id H4.O _ _ ?_)))
  exact HR.O _ _ H.O (.refl _ _)
 have su:(8:Int)≤(n:Int):=by omega
 clear h2;go_enter func74,ntmps74;go_wp2_with (first
  |(go_at_call 128;go_must(refine O6 Rb s id false H1.O HL.O _ Ms M H.O _ ?_)))
 exact HR.O _ _ H.O (.refl _ _)
open List (drop_of_length_le)
open Nat (lt_irrefl)
variable{GB GM MB NB S g j:Nat}{dG v v':Value}
theorem Lo.amQ(A:w.grownBy w1 v.ownBlock)(bZ:v'.ownBlock=v.ownBlock∨(∃k,v'.ownBlock=some k∧w.heap.size≤k))(S:Nat)(u:Value):Lo S w (w1.setCell ⟨S,j,none⟩ u) v v':=fun B h1 h2 h3=>by
 have bD:=s_ (B:=B) (br w1 ⟨S,j,none⟩ u);have U:=s_ A h2 h3;refine⟨U.trans (bD (aJ h2 A.size) (fun k G=>by cases G;exact h1)),fun k G=> ?_⟩;rcases bZ with e|⟨k',e,fw⟩
 ·exact h3 k (e▸G)
 rw[e] at G;cases G;exact aJ h2 fw
theorem Lo.kV(A:w.grownBy w1 v.ownBlock)(S:Nat):Lo S w w1 v v:=fun _ _ h2 h3=>⟨s_ A h2 h3,h3⟩
theorem SX.KM{ss:List Sb}(h:SX w M S NB MB GB GM sv qv fv s)
 (hr:w1.ownsRow 0 64 6 dG ss.length (ss.flatMap aT)) (Du:w.grownBy w1 sv.ownBlock) (bZ:dG.ownBlock=sv.ownBlock∨(∃k,dG.ownBlock=some k∧w.heap.size≤k)):
 ∃M',SX (w1.setCell ⟨S,5,none⟩ dG) M' S NB MB GB GM dG qv fv {s with al:=ss}∧Sep M M' w (w1.setCell ⟨S,5,none⟩ dG)∧(∀b,M b→M' b)∧Lo S w (w1.setCell ⟨S,5,none⟩ dG) sv dG:=by
 obtain⟨K,A,hK⟩:∃K,w.grownBy w1 (some K)∧(M K∧bw w K=64+2∨w.heap.size≤K):=by
  have A:=Du;cases hv:sv.ownBlock with
  |none=>exact⟨w.heap.size,AE (by rw[hv] at A;exact A),.inr bj⟩
  |some k=>exact⟨k,by rw[hv] at A;exact A,.inl ⟨h.ms k hv,eJ h.W k hv⟩⟩
 have jG:∀k,dG.ownBlock=some k→M k∨w.heap.size≤k:=fun k G=>by
  rcases bZ with e|e
  ·exact .inl (h.ms k (e▸G))
  obtain⟨k',e,fw⟩:=e;rw[e] at G;cases G;exact .inr fw
 have EA:∀k,dG.ownBlock=some k→k<w1.heap.size:=fun k G=>(hr.lt k G).2
 let M':Nat→Prop:=fun b=>M b∨dG.ownBlock=some b
 have cH:Sep M M' w w1:=⟨A.os,A.tape,A.output,A.size,fun b U hM=>A.block b U (fun e=>by
  have e:=Option.some.inj e;rcases hK with⟨G,_⟩|G
  ·exact hM (e▸G)
  ·omega),fun b U=>by
  rcases U with U|U
  ·exact .inl U
  exact jG b U,fun awX ⟨m,hm,hl⟩=>⟨m,.inl hm,hl⟩⟩
 have bf:∀b,b<w.heap.size→bw w b≠64+2→w1.heap[b]? =w.heap[b]?:=fun b U G=>A.block b U (fun e=>by
  have e:=Option.some.inj e;rcases hK with⟨_,eB⟩|eB
  ·exact G (e▸eB)
  omega)
 have gG:∀{b t:Nat}{fr:Nat×Nat}{cs:Array Value},w.heap[b]? =some (.cells cs t fr)→b<w.heap.size:=fun h=>(eI.1 h).1;have jJ:=(bf S (gG h.hS) (by rw[j6 h.hS];decide)).trans h.hS;have iS:bw w1 S=94+2:=j6 jJ;have bD:=br w1 ⟨S,5,none⟩ dG;have bF:Sep M' M' w1 (w1.setCell ⟨S,5,none⟩ dG):= .kV bD (fun k G=>by cases G;exact .inl h.mS);have aI:∀b,b<w1.heap.size→bw w1 b≠94+2→(w1.setCell ⟨S,5,none⟩ dG).heap[b]? =w1.heap[b]?:=fun b U G=>bD.block b U (fun e=>G (Option.some.inj e▸iS));have both:∀b,b<w.heap.size→bw w b≠64+2→bw w b≠94+2→(w1.setCell ⟨S,5,none⟩ dG).heap[b]? =w.heap[b]?:=fun b U k1 k2=>by
  exact Ez
 refine⟨M',⟨?_,h.hn.vp (both _ (gG h.hn.1) (by rw[h.hn.kinds.1];decide) (by rw[h.hn.kinds.1];decide)) (both _ h.hn.2.lt (by rw[h.hn.kinds.2];decide) (by rw[h.hn.kinds.2];decide)),
  h.A.vp (both _ (gG h.A.1) (by rw[h.A.kinds.1];decide) (by rw[h.A.kinds.1];decide)) (both _ h.A.2.lt (by rw[h.A.kinds.2];decide) (by rw[h.A.kinds.2];decide)),
  iO hr jJ (by decide) bD,
  h.hq.sep (cH.trans bF) (fun k G=>both k (h.lt k (h.hq.own k G)) (by rw[h.hq.kind k G];decide) (by rw[h.hq.kind k G];decide)) (fun k G=> .inl (h.hq.own k G)),
  h.hf.sep (cH.trans bF) (fun k G=>both k (h.lt k (h.hf.own k G)) (by rw[h.hf.kind k G];decide) (by rw[h.hf.kind k G];decide)) (fun k G=> .inl (h.hf.own k G)),
  h.nb,h.nm,.inl h.mS,.inl h.mN,.inl h.mG,fun k G=> .inr G,?_,?_,?_⟩,cH.trans bF,fun b U=> .inl U,Lo.amQ Du bZ S dG⟩
 ·rw[bm w1 S 5 _ _ _ jJ]
  rfl
 ·rintro(hm|hm)
  ·exact h.q_ hm
  ·have h1:=eJ hr NB hm;exact Nw
 ·rintro(hm|hm)
  ·exact h.re hm
  ·have h1:=eJ hr GB hm;exact Nv
 ·rintro b (U|U)
  ·have:=h.lt b U;have:=A.size;simp only[World.setCell,Array.size_modify]
   omega
  ·have:=EA b U
   simpa [World.setCell] using this
theorem SX.Tq{ss:List Sb}(h:SX w M S NB MB GB GM sv qv fv s)(hv:sv.ownBlock=some g)
 (hr:w1.ownsRow 0 64 6 sv ss.length (ss.flatMap aT)) (A:w.grownBy w1 (some g)):SX w1 M S NB MB GB GM sv qv fv {s with al:=ss}∧Sep M M w w1:=by
 have G:bw w g=64+2:=eJ h.W g hv;have W:Sep M M w w1:= .kV A (fun k G=>by cases G;exact h.ms g hv);obtain⟨p1,p2,p3,_,p5,p6⟩:=h.parts g A (fun _ hm=>hm) W;refine⟨⟨(p1 (by rw[G];decide)).trans h.hS,p2 (fun e=> ?_) (by rw[G];decide),p3 (fun e=> ?_) (by rw[G];decide),hr,p5 (by rw[G];decide),p6 (by rw[G];decide),h.nb,h.nm,h.mS,h.mN,h.mG,h.ms,h.q_,h.re,fun b U=>eV (h.lt b U) A.size⟩,W⟩
 ·have:=h.hn.kinds.2;rw[←e,G] at this
  revert this
  decide
 have:=h.A.kinds.2;rw[←e,G] at this
 revert this
 decide
theorem amR(l:List Sb)(x:Sb)(n:Nat)(hn:l.length=n)(hl:n≤100000)(i:Nat)(hi:i≤n)(sv:Value)(w:World)(ho:w.ownsRow 0 64 6 sv n (l.flatMap aT))(vb:Nat)(hv:w.heap[vb]? =some (.cells (bH x) 64))(bf:sv.ownBlock≠some vb)(R:ak)
 (I:∀Y c w',w'.ownsRow 0 64 6 (.slice Y (n+1) c) (n+1) ((l.take i++ [x]++l.drop i).flatMap aT)→w.grownBy w' sv.ownBlock→((Value.slice Y (n+1) c).ownBlock=sv.ownBlock∨(∃k,(Value.slice Y (n+1) c).ownBlock=some k∧w.heap.size≤k))→R (.returned (.slice Y (n+1) c)) w'):
 Calls prog 111 #[sv,E i,.slice (some ⟨vb,0,none⟩) 1 1] w R:=by
 by_cases h:i=n
 ·subst h;refine amA l x i hl sv w ho vb hv R fun Y c w' h1 h2 h3=>I Y c w' ?_ h2 (h3.imp id fun e=>⟨_,e,Nat.le_refl _⟩);rw[gy (by omega),drop_of_length_le (by omega),od,jZ,List.flatMap_singleton];exact h1
 obtain⟨a,c,rfl⟩:=cR ho;obtain⟨g,rfl⟩:=jF ho (by omega);by_cases J:n+1≤c
 ·exact amC l x n hn hl i (by omega) g c J w ho vb hv (fun e=>bf (by rw[e];rfl)) R fun w' h1 h2=>I _ c w' h1 h2 (.inl rfl)
 exact amK l x n hn hl i (by omega) g c (by omega) w ho vb hv R fun N c' w' h1 h2 h3=>I _ c' w' h1 h2 (.inr ⟨N,rfl,by omega⟩)
theorem ace(S NB MB GB GM:Nat)(sv qv fv:Value)(s:az)(x:Sb)(s':az)(a b:Bool)(J:om s x=(s',a,b))(W:j7 s.al)(hl:s.al.length≤100000)(w:World)(M:Nat→Prop)(F:SX w M S NB MB GB GM sv qv fv s)(R:ak)
 (I:∀M' dG w',SX w' M' S NB MB GB GM dG qv fv s'→Sep M M' w w'→(∀b,M b→M' b)→Lo S w w' sv dG→R (.returned (.tuple #[.bool a,.bool b])) w'):
 Calls prog 47 #[zq S,.agg (bH x)] w R:=by
 have HR:=Z I;have aw:Below w w (w.alloc (.cells (bH x) 64)):=aD _ _;have hT:=aH w (.cells (bH x) 64);have HX:=Z (F.below aw);have nD:=Z W;obtain⟨k,G⟩:=ai (gH s.al x.filter);obtain⟨q,hq⟩:=ai (sm s.al x.filter);have gq:k≤s.al.length:=G▸EH _ _;have A9:q=true→k<s.al.length:=fun e=>by
  obtain⟨h1,_⟩:=EI (hq.trans e);rw[G] at h1;exact h1
 unfold om at J;rw[hq,G] at J;obtain⟨HK,HQ,ct⟩:=bX G hq aw;obtain⟨n,hn⟩:=ai s.al.length;rw[hn] at J gq A9 hl;have HN:=Z hn;have oI:Hid (s.al.length≤100000):=by show _≤_;omega
 obtain⟨ga,gc,yT⟩:=cR F.W;rw[hn] at yT;subst yT;clear I W G hq aw F hn;obtain⟨w1,qm⟩:=ai (w.alloc (.cells (bH x) 64));rw[qm] at HX ct hT;have t0:=D 0 hT;have HT:=Z hT;clear hT;cases q with
 |true=>
  have jh:=A9 rfl;rw[if_pos rfl] at J;simp only[Prod.mk.injEq] at J;obtain⟨rfl,rfl,rfl⟩:=J;have ajv:(k:Int)<(n:Int):=by omega
  clear A9;go_enter func47,ntmps47;go_upto_region 1 with fail
  clear qm;go_upto_region 3 with(go_at_call 110;go_must(refine LD S NB MB GB GM _ qv fv s x.filter k HK.O true HQ.O nD.O oI.O _ M HX.O _ ?_);intro w2 aj;have bn:=Z aj;clear aj)
  have ao:Below w1 w1 w2.drew:=bn.O.drew;have fZ:=HX.O.below ao;have c5:=(ef fZ.hS).2.1;have l9:=aA HT.O ao;have t0:=D 0 l9;have t1:=D 1 l9;have t2:=D 2 l9;have t3:=D 3 l9;have t4:=D 4 l9;have t5:=D 5 l9;have uq:w2.drew.ownsRow 0 64 6 (.slice ga n gc) n (s.al.flatMap aT):=by
   have:=fZ.W;rw[HN.O] at this;exact this
  obtain⟨g,rfl⟩:=jF uq (by omega);have DG:∀i,i<6→(w2.drew.cell? ⟨g,k*6+i,none⟩).isSome=true:=fun i hi=>by
   have:=HN.O;have g_:=fY 6 aT ij s.al;rw[uq.cellAt (k*6+i) (by omega),dW (by omega)]
   rfl
  have uN:∀i,i<6→w2.drew.frozen? ⟨g,k*6+i,none⟩=false:=fun i _=>uq.frozenAt _;obtain⟨dj,DB,Tt,mB,sM⟩:=jq ao fZ uq DG uN;clear ao fZ l9 uq DG uN;go_still_tail 7,(by kernel_rfl)
  change wpList _ _ _ _ _ w2.drew
  go_wp2_with (refine EF (o:=⟨none,.store 64 (.tmp 23) (.tmp 22),_,_,_,_⟩) (by rfl) 64 (.tmp 23) (.tmp 22) (by rfl) g (k*6) (bH x) (by rfl) (by rfl) mB.O sM.O (by kernel_rfl) (by simp[Value.oneCell']) ?_);have mA:=Tn aT ij (by decide) HN.O (k:=k) jh Tt.O x;have fw:(s.al.set k x).length=n:=by rw[qU,HN.O]
  obtain⟨bu,jj⟩:=SX.Tq DB.O rfl (by rw[fw];exact mA) (qZ _ _ _ _);refine HR.O M _ _ bu (((Sep.cL ct.O).trans (.cL dj.O)).trans jj) (fun _ h=>h) ?_;exact Lo.below (aQ ct.O dj.O) (.kV (qZ _ _ _ _) S)
 |false=>
  rw[if_neg (by decide)] at J;by_cases h8:n=8
  ·rw[if_pos h8] at J;simp only[Prod.mk.injEq] at J;obtain⟨rfl,rfl,rfl⟩:=J;have mT:((n:Int)==8)=true:=by simp[h8]
   clear A9 h8;go_enter func47,ntmps47;go_upto_region 1 with fail
   clear qm;go_wp2_with (go_at_call 110;go_must(refine LD S NB MB GB GM _ qv fv s x.filter k HK.O false HQ.O nD.O oI.O _ M HX.O _ ?_);intro w2 aj;have c5:=(ef (HX.O.below aj).hS).2.1;have bn:=Z aj;clear aj);have ao:=aQ ct.O bn.O;exact HR.O M _ _ (HX.O.below bn.O) (.cL ao) (fun _ h=>h) (Lo.below ao (.refl _ _ _))
  rw[if_neg h8] at J;simp only[Prod.mk.injEq] at J;obtain⟨rfl,rfl,rfl⟩:=J;have mT:((n:Int)==8)=false:=by simp;omega
  have avB:¬(n:Int)=8:=by omega
  clear A9 h8;go_enter func47,ntmps47;go_upto_region 1 with fail
  clear qm;go_upto_region 7 with(go_at_call 110;go_must(refine LD S NB MB GB GM _ qv fv s x.filter k HK.O false HQ.O nD.O oI.O _ M HX.O _ ?_);intro w2 aj;have c5:=(ef (HX.O.below aj).hS).2.1;have bn:=Z aj;clear aj)
  clear c5;have ao:Below w1 w1 w2.drew:=bn.O.drew;have fZ:=HX.O.below ao;have c5:=(ef fZ.hS).2.1;have l9:=aA HT.O ao;have t0:=D 0 l9;have t1:=D 1 l9;have t2:=D 2 l9;have t3:=D 3 l9;have t4:=D 4 l9;have t5:=D 5 l9;have di:Below w2 w2 (w2.alloc (.cells (bH x) 64)).drew:=(aD w2 _).drew;have bu:=(HX.O.below bn.O).below di;have Ty:=(ef bu.hS).2.1;have uu:(w2.alloc (.cells (bH x) 64)).drew.heap[w2.heap.size]? =some (.cells (bH x) 64):=aH w2 _;have fH:(w2.alloc (.cells (bH x) 64)).drew.ownsRow 0 64 6 (.slice ga n gc) n (s.al.flatMap aT):=by
   have:=bu.W;rw[HN.O] at this;exact this
  have acf:(Value.slice ga n gc).ownBlock≠some w2.heap.size:=fun e=>by
   have h1:=fZ.lt _ (fZ.ms _ e);exact absurd h1 (lt_irrefl _)
  have ff:=Z bu;have nH:Hid (Below w w (w2.alloc (.cells (bH x) 64)).drew):=Z (cz (aQ ct.O bn.O) di (aJ ct.O.size bn.O.size));obtain⟨kW,amS,amT⟩:=bX fH uu acf;clear ao fZ l9 di bu fH uu acf;go_region_law (first
   |(go_simp;go_at_call 111;refine amR s.al x n HN.O hl k gq _ _ kW.O w2.heap.size amS.O amT.O _ ?_;intro fS c6 w6 ky bI B2;have r6:=hZ bI ff.O.hS (i_ ff.O.hS kW.O (by decide));have e6:=(ef r6).2.1;have f6:=aC r6 5))
  all_goals
   have sL:(s.al.take k++ [x]++s.al.drop k).length=n+1:=by
    have:=HN.O;rw[aK,aK,bS,dw,List.length_singleton]
    omega
   obtain⟨M9,jP,jQ,C5,JE⟩:=SX.KM (ss:=s.al.take k++ [x]++s.al.drop k) ff.O (by rw[sL];exact ky) bI B2;have sk:=Z jP;have uM:=Z ((Sep.cL nH.O).trans jQ);have RS:=Z C5;have jw:=Z (Lo.below nH.O JE);clear jP jQ C5 JE ky bI B2 r6 e6 f6 sL c5 Ty t0 t1 t2 t3 t4 t5;go_wp2_with fail;exact HR.O M9 _ _ sk.O uM.O RS.O jw.O
theorem amU(S NB MB GB GM:Nat)(sv qv fv:Value)(s:az)(f:List UInt8)(s':az)(b:Bool)(J:C_ s f=(s',b))(W:j7 s.al)(hl:s.al.length≤100000)(w:World)(M:Nat→Prop)(F:SX w M S NB MB GB GM sv qv fv s)(R:ak)
 (I:∀M' dG w',SX w' M' S NB MB GB GM dG qv fv s'→Sep M M' w w'→R (.returned (.bool b)) w'):
 Calls prog 79 #[zq S,.string (str f)] w R:=by
 obtain⟨HR,HX,nD⟩:=bX I F W;obtain⟨k,G⟩:=ai (gH s.al f);obtain⟨q,hq⟩:=ai (sm s.al f);have A9:q=true→k<s.al.length:=fun e=>by
  obtain⟨h1,_⟩:=EI (hq.trans e);rw[G] at h1;exact h1
 unfold C_ at J;rw[hq,G] at J;have HK:=Z G;have HQ:=Z hq;obtain⟨n,hn⟩:=ai s.al.length;rw[hn] at A9 hl;have HN:=Z hn;have oI:Hid (s.al.length≤100000):=by show _≤_;omega
 obtain⟨ga,gc,yT⟩:=cR F.W;rw[hn] at yT;subst yT;clear I W G hq F hn;cases q with
 |false=>
  rw[if_neg (by decide)] at J;simp only[Prod.mk.injEq] at J;obtain⟨rfl,rfl⟩:=J;clear A9;go_enter func79,ntmps79;go_wp2_with (go_at_call 110;go_must(refine LD S NB MB GB GM _ qv fv s f k HK.O false HQ.O nD.O oI.O _ M HX.O _ ?_);intro w2 aj;have bn:=Z aj;clear aj);exact HR.O M _ _ (HX.O.below bn.O) (.cL bn.O)
 |true=>
  have jh:=A9 rfl;rw[if_pos rfl] at J;simp only[Prod.mk.injEq] at J;obtain⟨rfl,rfl⟩:=J;have amP:IntKind.i64.wrap ((k:Int)+1)=(k:Int)+1:=by rw[IntKind.wrap_i64];omega
  clear A9;go_enter func79,ntmps79;go_upto_region 3 with(go_at_call 110;go_must(refine LD S NB MB GB GM _ qv fv s f k HK.O true HQ.O nD.O oI.O _ M HX.O _ ?_);intro w2 aj;have jm:=Z (HX.O.below aj);have bn:=Z aj;clear aj)
  have c5:=(ef jm.O.hS).2.1;have ix:w2.ownsRow 0 64 6 (.slice ga s.al.length gc) s.al.length (s.al.flatMap aT):=by
   have:=jm.O.W;rw[HN.O] at this⊢;exact this
  obtain⟨g,rfl⟩:=jF ix (by have:=HN.O;omega);have iF:=Z ix;have OY:Hid (k<s.al.length):=by have:=HN.O;show _<_;omega
  clear ix;rw[←HN.O] at c5;go_wp2_with (go_at_call 129;go_must(refine amu g gc s.al k OY.O oI.O w2 (vw _) iF.O _ ?_);intro w6 ky bI;have r6:=hZ bI jm.O.hS (i_ jm.O.hS iF.O (by decide));have e6:=(ef r6).2.1;have f6:=aC r6 5;have Tp:=Z ky;have DY:=Z bI;clear ky bI r6);have sL:(s.al.eraseIdx k).length=s.al.length - 1:=by rw[List.length_eraseIdx,if_pos OY.O]
  obtain⟨M9,jP,jQ,_,_⟩:=SX.KM (dG:= .slice (some ⟨g,0,none⟩) (s.al.length - 1) gc) (ss:=s.al.eraseIdx k) jm.O (by rw[sL];exact Tp.O) DY.O (.inl rfl);exact HR.O M9 _ _ jP ((Sep.cL bn.O).trans jQ)
variable{xs:List Value}{w':World}
theorem Ip{α:Type}(p:α→Bool)(l:List α)(k:Nat)(h:k<l.length):(l.take (k+1)).filter p=(l.take k).filter p++(if p l[k]=true then [l[k]] else []):=by
 rw[List.take_add_one,dW h,List.filter_append]
 congr 1
 simp only[Option.toList_some,List.filter_cons,List.filter_nil]
theorem ak5{a:Addr}(U:Below w w w')(h:w.cell? a=xs[j]?)(hj:j<xs.length):w'.cell? a=xs[j]?:=by
 rw[dW hj] at h⊢;exact cell_later U h
def qK(q:List Im)(now:Int):List Im:=q.filter fun x=> !oJ x.note.aP now
theorem ak6(Rb:Nat)(s:az)(now:Int)(d:Int)(hd:(s.queue.length:Int) - ((qK s.queue now).length:Int)=d)(hl:s.queue.length≤100000)(w:World)(Ms M:Nat→Prop)(h:RR w Ms M Rb s)(au:∀b,Ms b→b<w.heap.size)(R:ak)
 (I:∀M' w',RR w' Ms M' Rb {s with queue:=qK s.queue now}→Sep M M' w w'→R (.returned (E d)) w'):
 Calls prog 82 #[zq Rb,E now] w R:=by
 have HR:=Z I;obtain⟨sv,qv,fv,gv,F⟩:=h;obtain⟨ps,aZ,aq,a_⟩:=id F.hq;obtain⟨n,hn⟩:=ai s.queue.length;have f_:ps.length=n:=by rw[←hn,←aZ];simp
 rw[hn] at aq hl hd;obtain⟨va,vc,rfl⟩:=aq.shape;obtain⟨HX,dR,aV,je,HN,jd,HD,fx⟩:=Nh F aZ aq a_ hn f_ hd au;clear I F aZ aq a_ hn f_ hd au;have vO:Below w w w:=Below.refl _ _;go_enter func82,ntmps82;go_wp2;go_loopg [5,6] n (fun gn s5 i wr=>∃(k m c:Nat)(Y:av) (qs:List (V3×Im)),k≤n∧gn=n - k∧i= .int .i64 k∧s5= .slice Y m c∧m≤k∧Hid ((ps.take k).filter (fun p=> !oJ p.2.note.aP now)=qs)∧Hid (m=qs.length)∧Hid (wr.ownsRow w 36 14 (.slice Y m c) m (qs.flatMap dX))∧Below w w wr)
 case atStart=>exact⟨0,0,0,none,[],bP _,by omega,rfl,rfl,Nat.le_refl _,rfl,rfl,bO _ _ _ _,vO⟩
 case round=>
  obtain⟨k,m,c,Y,qs,G,rfl,rfl,rfl,iW,HQ,HM,HO,U⟩:=hrel;clear vO;obtain⟨wo,rfl⟩:∃x,x=wr:=⟨_,rfl⟩
  have c5:=cell_later U HX.O.cells.2.2.2.2.2.1;have HB:=Z U;have CV:=U.size;by_cases au:k<n;rotate_left
  ·have bo:¬(k:Int)<(n:Int):=by omega
   obtain rfl:k=n:=by omega
   have O2:=HQ.O;rw[gy (by have:=jd.O;omega)] at O2;have rI:qs.map (·.2)=qK s.queue now:=by
    rw[←O2,qK,←dR.O,List.filter_map]
    rfl
   have j3:m=(qK s.queue now).length:=by rw[←rI,j0];exact HM.O
   have aa5:∀p∈qs,p∈ps:=fun p hp=>by
    rw[←O2] at hp;exact(List.mem_filter.1 hp).1
   have aa6:=aA HX.O.hS U;have f5:=aC aa6 5;obtain⟨M',jP,jQ⟩:=RX.Ti (qs:=qK s.queue now) HX.O fx.O U rI (fun p hp=>je.O p (aa5 p hp)) (by rw[←j3];exact HO.O);have aa7:(k:Int) - (m:Int)=d:=by rw[←HD.O,j3]
   have OU:IntKind.i64.wrap ((k:Int) - (m:Int))=d:=by rw[IntKind.wrap_i64,aa7];omega
   have sk:=Z jP;have uM:=Z jQ;clear O2 rI j3 aa5 aa6 jP jQ aa7 U;go_wp2;exact HR.O M' _ ⟨sv,_,fv,gv,sk.O⟩ uM.O
  have bo:(k:Int)<(n:Int):=by omega
  have fF:k<ps.length:=by have:=jd.O;omega
  obtain⟨⟨⟨v1,v2,v3⟩,x⟩,jV⟩:∃p,ps[k]=p:=⟨_,rfl⟩
  have rK:(((v1,v2,v3),x):V3×Im)∈ps:=by
   have:=getElem_mem fF;rw[jV] at this;exact this
  obtain⟨⟨V,X,e1⟩,⟨qa,qc,e2⟩,ea,ec,e3⟩:=(je.O _ rK).1.O.shape;simp only at e1 e2 e3;subst e1 e2 e3;obtain⟨g,o,nJ,bg,_⟩:=(aV.O.below U).at (by omega);subst nJ;have g_:∀j,j<14→wo.cell? ⟨g,o+k*14+j,none⟩= (aG x V X qa qc ea ec:List Value)[j]?:=fun j hj=>by
   exact aa2
  have iM:=Z g_;have xZ:Hid (∀j,j<10→wo.cell? ⟨g,o+k*14+j,none⟩= (oh x.note V X qa qc:List Value)[j]?):=fun j hj=>by
   rw[g_ j (by omega)]
   match j,hj with
   |0,_|1,_|2,_|3,_|4,_|5,_|6,_|7,_|8,_|9,_=>rfl
  have cB:=Ip (fun p:V3×Im=> !oJ p.2.note.aP now) ps k fF;rw[HQ.O,jV] at cB;simp only at cB;have jl:=Z cB;clear bg g_ cB rK jV HQ U;cases hdd:oJ x.note.aP now with
  |true=>
   have AW:=Z hdd;have nM:Hid ((ps.take (k+1)).filter (fun p=> !oJ p.2.note.aP now)=qs):=by
    have:=jl.O;rw[hdd,if_neg (by decide),od] at this;exact this
   clear hdd;go_wp2_with (first
    |(refine iT 24 34 23 g ((o+k*14)) ((oh x.note V X qa qc)) xZ.O underlying34 ?_)
    |(go_at_call 133;go_must(refine aaZ _ _ _ _ _ _ _ _ _ x.note.aP now true AW.O _ _ ?_);intro w2 aj;have bn:=Z aj;clear aj))
   go_roundg (n - (k+1))
   case measure=>omega
   case rel=>exact⟨k+1,m,c,Y,qs,by omega,rfl,by go_num,rfl,by omega,nM,HM,Z (aR HO.O bn.O),HB.O.trans (bn.O.mono HB.O.size)⟩
  |false=>
   have AW:=Z hdd;have nM:Hid ((ps.take (k+1)).filter (fun p=> !oJ p.2.note.aP now)=qs++ [(((Value.slice V x.note.ay.length X,Value.slice qa x.note.props.length qc,Value.slice ea x.ids.length ec),x):V3×Im)]):=by
    have:=jl.O;rw[hdd,if_pos (by decide)] at this;exact this
   clear hdd;go_wp2_with (first
    |(refine iT 24 34 23 g ((o+k*14)) ((oh x.note V X qa qc)) xZ.O underlying34 ?_)
    |(go_at_call 133;go_must(refine aaZ _ _ _ _ _ _ _ _ _ x.note.aP now false AW.O _ _ ?_);intro w2 aj;have nE:=HB.O.trans (aj.mono HB.O.size);have avr:=cell_later nE HX.O.cells.2.2.2.2.2.1;have jH:=Z (aR HO.O aj);have TA:Hid (∀j,j<14→w2.cell? ⟨g,o+k*14+j,none⟩= (aG x V X qa qc ea ec:List Value)[j]?):=Z (fun j hj=>(ak5 aj (iM.O j hj) hj));have jL:=Z nE;have avs:=nE.size;clear aj nE c5)
    |(refine iT 35 36 34 g ((o+k*14)) ((aG x V X qa qc ea ec)) TA.O underlying36 ?_)
    |(at_builtin;go_must(refine jr (by rfl) (.tmp 28) (.tmp 36) 52 (by rfl) w 36 (Value.agg aX) 14 184 underlying52 vr rfl (by decide) Y m c _ (by rfl) (jH.O.alloc (.cells (aG x V X qa qc ea ec) 36)) (some ⟨w2,0,none⟩) 1 1 (aG x V X qa qc ea ec) (by rfl) (dO w2 (aG x V X qa qc ea ec) 36 14 1 rfl) (BE _ _ _ _ _ _ _) (fun h=>by cases h) (by unfold maxLen;omega) (by omega) (by simp;omega) ?_);intro fS DH w6 eo bI _;have bd:=Z (bT (jL.O.alloc jL.O.size (.cells (aG x V X qa qc ea ec) 36)) bI (by simp;omega) (jH.O.alloc (.cells (aG x V X qa qc ea ec) 36)));have Hn:=Z eo;clear eo bI))
   have KQ:Hid (w6.ownsRow w 36 14 (.slice fS (m+1) DH) (m+1) ((qs++ [(((Value.slice V x.note.ay.length X,Value.slice qa x.note.props.length qc,Value.slice ea x.ids.length ec),x):V3×Im)]).flatMap dX)):=by
    exact Tz
   go_roundg (n - (k+1))
   case measure=>omega
   case rel=>exact⟨k+1,m+1,DH,fS,qs++ [(((Value.slice V x.note.ay.length X,Value.slice qa x.note.props.length qc,Value.slice ea x.ids.length ec),x):V3×Im)],by omega,rfl,by go_num,rfl,by omega,nM,Z (show m+1=(qs++ [(((Value.slice V x.note.ay.length X,Value.slice qa x.note.props.length qc,Value.slice ea x.ids.length ec),x):V3×Im)]).length by rw[HM.O];simp),KQ,bd.O⟩
def qL(f:Fl):Bool:=f.state==1&&f.item.share != []
def lA(x:Im):Bool:=x.share != []&&decide (0<x.ah)
def w_(s:az):List Im:=(s.ag.filter qL).map (·.item)++s.queue.filter lA
def x0(fs:List (V3×Fl)):List (V3×Im):=(fs.filter fun p=>qL p.2).map fun p=>(p.1,p.2.item)
theorem ak7(fs:List (V3×Fl))(k:Nat)(h:k<fs.length):x0 (fs.take (k+1))=x0 (fs.take k)++(if qL (fs[k]).2=true then [((fs[k]).1,(fs[k]).2.item)] else []):=by
 unfold x0;rw[Ip _ fs k h,nv]
 congr 1
 split<;>rfl
theorem ak8(fs:List (V3×Fl)):(x0 fs).map (·.2)=((fs.map (·.2)).filter qL).map (·.item):=by
 unfold x0;rw[List.filter_map,List.map_map,List.map_map]
 rfl
theorem ak9{fs:List (V3×Fl)}{p:V3×Im}(h:p∈x0 fs):∃q∈fs,p=(q.1,q.2.item):=by
 unfold x0 at h;obtain⟨q,hq,rfl⟩:=List.mem_map.1 h;exact⟨q,(List.mem_filter.1 hq).1,rfl⟩
theorem O3(l:List UInt8):((str l).toList==ByteArray.toList ⟨#[]⟩)=(l== []):=Ny l []
theorem aa8{P:Prop}(h:P:=by
 go_wp2;go_roundg (n - (k+1))
 case measure=>omega
 case rel=>exact⟨k+1,m,c,Y,rs,by omega,rfl,by go_num,rfl,by omega,nM,HM,HO,HB.O⟩):P:=h
theorem aa9{P:Prop}(h:P:=by
 go_wp2;go_roundg (nf - (k+1))
 case measure=>omega
 case rel=>exact⟨k+1,m,c,Y,qs,by omega,rfl,by go_num,rfl,by omega,nM,HM,HO,HB.O⟩):P:=h
theorem ala(Rb:Nat)(s:az)(N:Nat)(hN:(w_ s).length=N)(hl:s.queue.length≤100000)(rN:s.ag.length≤100000)(w:World)(Ms M:Nat→Prop)(h:RR w Ms M Rb s)(R:ak)
 (I:∀Y c (qs:List (V3×Im)) w',qs.map (·.2)=w_ s→w'.ownsRow w 36 14 (.slice Y N c) N (qs.flatMap dX)→(∀p∈qs,dk w' Ms p.1 p.2)→Below w w w'→R (.returned (.slice Y N c)) w'):
 Calls prog 85 #[zq Rb] w R:=by
 have HR:=Z I;obtain⟨sv,qv,fv,gv,F⟩:=h;obtain⟨ps,aZ,aq,a_⟩:=id F.hq;obtain⟨gf,jM,fz,lz⟩:=id F.hf;obtain⟨n,hn⟩:=ai s.queue.length;obtain⟨nf,pf⟩:=ai s.ag.length;have f_:ps.length=n:=by rw[←hn,←aZ];simp
 have zL:gf.length=nf:=by rw[←pf,←jM];simp
 rw[hn] at aq hl;rw[pf] at fz rN;obtain⟨va,vc,rfl⟩:=aq.shape;obtain⟨fa,fc,rfl⟩:=cR fz;obtain⟨HX,dR,aV,je,wT,oY,vK,jd,vQ,kO⟩:=Jn F aZ aq a_ jM fz lz f_ zL hN;clear I F aZ aq a_ hn f_ jM fz lz pf zL hN;have vO:Below w w w:=Below.refl _ _;go_enter func85,ntmps85;go_wp2;go_loopg [3,4] nf (fun gn s5 i wr=>∃(k m c:Nat)(Y:av) (qs:List (V3×Im)),k≤nf∧gn=nf - k∧i= .int .i64 k∧s5= .slice Y m c∧m≤k∧Hid (x0 (gf.take k)=qs)∧Hid (m=qs.length)∧Hid (wr.ownsRow w 36 14 (.slice Y m c) m (qs.flatMap dX))∧Below w w wr)
 case atStart=>exact⟨0,0,0,none,[],bP _,by omega,rfl,rfl,Nat.le_refl _,rfl,rfl,bO _ _ _ _,vO⟩
 case round=>
  obtain⟨k,m,c,Y,qs,G,rfl,rfl,rfl,iW,HQ,HM,HO,U⟩:=hrel;clear vO;obtain⟨wo,rfl⟩:∃x,x=wr:=⟨_,rfl⟩
  have c6:=cell_later U HX.O.cells.2.2.2.2.2.2.1;have HB:=Z U;have CV:=U.size;by_cases au:k<nf
  ·have bo:(k:Int)<(nf:Int):=by omega
   have fF:k<gf.length:=by have:=vQ.O;omega
   obtain⟨⟨⟨v1,v2,v3⟩,⟨dH,fst,x⟩⟩,jV⟩:∃p,gf[k]=p:=⟨_,rfl⟩
   have rK:(((v1,v2,v3),⟨dH,fst,x⟩):V3×Fl)∈gf:=by
    have:=getElem_mem fF;rw[jV] at this;exact this
   obtain⟨⟨V,X,e1⟩,⟨qa,qc,e2⟩,ea,ec,e3⟩:=(vK.O _ rK).1.O.shape;simp only at e1 e2 e3;subst e1 e2 e3;have FN:=aR oY.O U;obtain⟨g,nJ⟩:=jF FN (by omega);subst nJ;have g_:∀j,j<16→wo.cell? ⟨g,k*16+j,none⟩= (cA dH fst x V X qa qc ea ec:List Value)[j]?:=fun j hj=>by
    have:=vQ.O;rw[FN.cellAt (k*16+j) (by omega),kY 16 bV j5 gf k j fF hj,jV]
    rfl
   have d1:=g_ 1 (by omega);have d15:=g_ 15 (by omega);have avt:wo.cell? ⟨g,k*16+1,none⟩=some (.int .i64 fst):=d1;have O4:wo.cell? ⟨g,k*16+15,none⟩=some (.string (str x.share)):=d15;have iM:Hid (∀j,j<14→wo.cell? ⟨g,k*16+2+j,none⟩= (aG x V X qa qc ea ec:List Value)[j]?):=fun j hj=>by
    rw[oO,g_ (2+j) (by omega),Nat.add_comm 2 j]
    rfl
   have cB:=ak7 gf k fF;rw[HQ.O,jV] at cB;simp only at cB;have jl:=Z cB;clear g_ cB rK jV HQ U d1 d15 FN;by_cases cH:fst=1
   ·subst cH;by_cases bF:x.share= []
    ·have nM:Hid (x0 (gf.take (k+1))=qs):=by
      have:=jl.O;rw[show qL ⟨dH,1,x⟩=false by simp[qL,bF],if_neg (by decide),od] at this;exact this
     rw[bF] at O4;have avu:wo.cell? ⟨g,k*16+15,none⟩=some (.string ⟨#[]⟩):=O4;clear bF O4;exact aa9
    ·have nM:Hid (x0 (gf.take (k+1))=qs++ [(((Value.slice V x.note.ay.length X,Value.slice qa x.note.props.length qc,Value.slice ea x.ids.length ec),x):V3×Im)]):=by
      have:=jl.O;rw[show qL ⟨dH,1,x⟩=true by simp[qL,bF],if_pos rfl] at this;exact this
     have ik:((str x.share).toList==ByteArray.toList ⟨#[]⟩)=false:=by rw[O3];simpa using bF
     have TB:(x.share== [])=false:=by simpa using bF
     go_wp2_with (first
      |(refine iT 44 36 43 g ((k*16+2)) ((aG x V X qa qc ea ec)) iM.O underlying36 ?_)
      |(at_builtin;go_must(refine jr (by rfl) (.tmp 36) (.tmp 45) 52 (by rfl) w 36 (Value.agg aX) 14 184 underlying52 vr rfl (by decide) Y m c _ (by rfl) (HO.O.alloc (.cells (aG x V X qa qc ea ec) 36)) (some ⟨wo,0,none⟩) 1 1 (aG x V X qa qc ea ec) (by rfl) (dO wo (aG x V X qa qc ea ec) 36 14 1 rfl) (BE _ _ _ _ _ _ _) (fun h=>by cases h) (by unfold maxLen;omega) (by omega) (by simp;omega) ?_);intro fS DH w6 eo bI _;have bd:=Z (bT (HB.O.alloc HB.O.size (.cells (aG x V X qa qc ea ec) 36)) bI (by simp;omega) (HO.O.alloc (.cells (aG x V X qa qc ea ec) 36)));have Hn:=Z eo;clear eo bI))
     have KQ:Hid (w6.ownsRow w 36 14 (.slice fS (m+1) DH) (m+1) ((qs++ [(((Value.slice V x.note.ay.length X,Value.slice qa x.note.props.length qc,Value.slice ea x.ids.length ec),x):V3×Im)]).flatMap dX)):=by
      exact Tz
     go_roundg (nf - (k+1))
     case measure=>omega
     case rel=>exact⟨k+1,m+1,DH,fS,qs++ [(((Value.slice V x.note.ay.length X,Value.slice qa x.note.props.length qc,Value.slice ea x.ids.length ec),x):V3×Im)],by omega,rfl,by go_num,rfl,by omega,nM,Z (show m+1=(qs++ [(((Value.slice V x.note.ay.length X,Value.slice qa x.note.props.length qc,Value.slice ea x.ids.length ec),x):V3×Im)]).length by rw[HM.O];simp),KQ,bd.O⟩
   have nM:Hid (x0 (gf.take (k+1))=qs):=by
    have:=jl.O;rw[show qL ⟨dH,fst,x⟩=false by simp[qL,cH],if_neg (by decide),od] at this;exact this
   have ik:(fst==1)=false:=by simpa using cH
   exact aa9
  have bo:¬(k:Int)<(nf:Int):=by omega
  obtain rfl:nf=k:=by omega
  have aba:Hid (x0 gf=qs):=by
   have:=HQ.O;rw[gy (by have:=vQ.O;omega)] at this;exact this
  have mY:m≤nf:=iW;go_wp2;clear HQ;go_loopg [3,5] n (fun gn s5 i wr=>∃(k m c:Nat)(Y:av) (rs:List (V3×Im)),k≤n∧gn=n - k∧i= .int .i64 k∧s5= .slice Y m c∧m≤nf+k∧Hid (qs++(ps.take k).filter (fun p=>lA p.2)=rs)∧Hid (m=rs.length)∧Hid (wr.ownsRow w 36 14 (.slice Y m c) m (rs.flatMap dX))∧Below w w wr)
  case atStart=>exact⟨0,m,c,Y,qs,bP _,by omega,rfl,rfl,iW,by show _=_;simp,HM,HO,HB.O⟩
  case round=>
   clear HM HO CV c6 iW G bo;obtain⟨k,m,c,Y,rs,G,rfl,rfl,rfl,iW,HQ,HM,HO,U⟩:=hrel;obtain⟨wo,rfl⟩:∃x,x=wr:=⟨_,rfl⟩
   have c5:=cell_later U HX.O.cells.2.2.2.2.2.1;have HB:=Z U;have CV:=U.size;by_cases au:k<n;rotate_left
   ·have bo:¬(k:Int)<(n:Int):=by omega
    obtain rfl:n=k:=by omega
    have O5:=HQ.O;rw[gy (by have:=jd.O;omega)] at O5;have rI:rs.map (·.2)=w_ s:=by
     rw[←O5,nv,←aba.O,ak8,wT.O,w_,←dR.O,List.filter_map]
     rfl
    have TC:m=N:=by rw[←kO.O,←rI,j0];exact HM.O
    subst TC;have dQ:∀p∈rs,dk wo Ms p.1 p.2:=fun p hp=>by
     rw[←O5] at hp;rcases ez.1 hp with hp|hp
     ·rw[←aba.O] at hp;obtain⟨q,hq,rfl⟩:=ak9 hp;exact(vK.O q hq).sep (.cL HB.O)
     exact(je.O p (List.mem_filter.1 hp).1).sep (.cL HB.O)
    have lL:=Z (HR.O Y c rs wo rI HO.O dQ HB.O);clear O5 rI dQ U;go_wp2;exact lL.O
   have bo:(k:Int)<(n:Int):=by omega
   have fF:k<ps.length:=by have:=jd.O;omega
   obtain⟨⟨⟨v1,v2,v3⟩,x⟩,jV⟩:∃p,ps[k]=p:=⟨_,rfl⟩
   have rK:(((v1,v2,v3),x):V3×Im)∈ps:=by
    have:=getElem_mem fF;rw[jV] at this;exact this
   obtain⟨⟨V,X,e1⟩,⟨qa,qc,e2⟩,ea,ec,e3⟩:=(je.O _ rK).1.O.shape;simp only at e1 e2 e3;subst e1 e2 e3;obtain⟨g,o,nJ,bg,_⟩:=(aV.O.below U).at (by omega);subst nJ;have g_:∀j,j<14→wo.cell? ⟨g,o+k*14+j,none⟩= (aG x V X qa qc ea ec:List Value)[j]?:=fun j hj=>by
    exact aa2
   have iM:=Z g_;have d13:wo.cell? ⟨g,o+k*14+13,none⟩=some (.string (str x.share)):=g_ 13 (by omega);have d10:wo.cell? ⟨g,o+k*14+10,none⟩=some (.int .i64 x.ah):=g_ 10 (by omega);have cB:=Ip (fun p:V3×Im=>lA p.2) ps k fF;rw[jV] at cB;have abb:qs++(ps.take (k+1)).filter (fun p=>lA p.2)=rs++(if lA x=true then [(((Value.slice V x.note.ay.length X,Value.slice qa x.note.props.length qc,Value.slice ea x.ids.length ec),x):V3×Im)] else []):=by
    rw[cB,←kT,HQ.O]
   have jl:=Z abb;clear bg g_ cB abb rK jV HQ U;by_cases bF:x.share= []
   ·have nM:Hid (qs++(ps.take (k+1)).filter (fun p=>lA p.2)=rs):=by
     have:=jl.O;rw[show lA x=false by simp[lA,bF],if_neg (by decide),od] at this;exact this
    rw[bF] at d13;have alb:wo.cell? ⟨g,o+k*14+13,none⟩=some (.string ⟨#[]⟩):=d13;clear bF d13;exact aa8
   have ik:((str x.share).toList==ByteArray.toList ⟨#[]⟩)=false:=by rw[O3];simpa using bF
   have TB:(x.share== [])=false:=by simpa using bF
   by_cases hq:(0:Int)<x.ah
   ·have nM:Hid (qs++(ps.take (k+1)).filter (fun p=>lA p.2)=rs++ [(((Value.slice V x.note.ay.length X,Value.slice qa x.note.props.length qc,Value.slice ea x.ids.length ec),x):V3×Im)]):=by
     have:=jl.O;rw[show lA x=true by simp[lA,bF,hq],if_pos rfl] at this;exact this
    have wB:decide ((0:Int)<x.ah)=true:=eN hq;go_wp2_with (first
     |(refine iT 83 36 82 g ((o+k*14)) ((aG x V X qa qc ea ec)) iM.O underlying36 ?_)
     |(at_builtin;go_must(refine jr (by rfl) (.tmp 76) (.tmp 84) 52 (by rfl) w 36 (Value.agg aX) 14 184 underlying52 vr rfl (by decide) Y m c _ (by rfl) (HO.O.alloc (.cells (aG x V X qa qc ea ec) 36)) (some ⟨wo,0,none⟩) 1 1 (aG x V X qa qc ea ec) (by rfl) (dO wo (aG x V X qa qc ea ec) 36 14 1 rfl) (BE _ _ _ _ _ _ _) (fun h=>by cases h) (by unfold maxLen;omega) (by omega) (by simp;omega) ?_);intro fS DH w6 eo bI _;have bd:=Z (bT (HB.O.alloc HB.O.size (.cells (aG x V X qa qc ea ec) 36)) bI (by simp;omega) (HO.O.alloc (.cells (aG x V X qa qc ea ec) 36)));have Hn:=Z eo;clear eo bI))
    have KQ:Hid (w6.ownsRow w 36 14 (.slice fS (m+1) DH) (m+1) ((rs++ [(((Value.slice V x.note.ay.length X,Value.slice qa x.note.props.length qc,Value.slice ea x.ids.length ec),x):V3×Im)]).flatMap dX)):=by
     exact Tz
    go_roundg (n - (k+1))
    case measure=>omega
    case rel=>exact⟨k+1,m+1,DH,fS,rs++ [(((Value.slice V x.note.ay.length X,Value.slice qa x.note.props.length qc,Value.slice ea x.ids.length ec),x):V3×Im)],by omega,rfl,by go_num,rfl,by omega,nM,Z (show m+1=(rs++ [(((Value.slice V x.note.ay.length X,Value.slice qa x.note.props.length qc,Value.slice ea x.ids.length ec),x):V3×Im)]).length by rw[HM.O];simp),KQ,bd.O⟩
   have nM:Hid (qs++(ps.take (k+1)).filter (fun p=>lA p.2)=rs):=by
    have:=jl.O;rw[show lA x=false by simp[lA,hq],if_neg (by decide),od] at this;exact this
   have wB:decide ((0:Int)<x.ah)=false:=dN hq;exact aa8
