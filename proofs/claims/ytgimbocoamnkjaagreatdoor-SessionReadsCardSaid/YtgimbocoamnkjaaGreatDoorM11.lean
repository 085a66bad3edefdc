/- A part of the proof of SessionReads; no conditions. -/
import Derived.Test.YtgimbocoamnkjaaGreatDoorM07
import Derived.Test.YtgimbocoamnkjaaGreatDoorM05
import Derived.Lib.Bytealg
import Derived.Lib.BytesEntry
import Derived.Lib.Overlaps
import Derived.Lib.AppendZerosOnto
import Derived.Laws.IdiomCopy
set_option maxRecDepth 100000
set_option maxHeartbeats 16000000
namespace Go.Proofs.YtgimbocoamnkjaaGreatDoor
open List (getElem_mem getElem_take pairwise_append pairwise_iff_getElem)
variable{k:Nat}
open Go.RowKit
theorem Nz:∀(a b:List UInt8),Lib.compareBytes a b=0↔a=b
 |[],[]=>by simp[Lib.compareBytes]
 |[],_::_=>by simp[Lib.compareBytes]
 |_::_,[]=>by simp[Lib.compareBytes]
 |x::a,y::b=>by
  unfold Lib.compareBytes;by_cases h1:x<y
  ·rw[if_pos h1];simp only[List.cons.injEq];refine⟨fun h=>by simp at h,fun h=> ?_⟩;obtain⟨rfl,_⟩:=h;exact absurd h1 (UInt8.lt_irrefl x)
  rw[if_neg h1];by_cases h2:y<x
  ·rw[if_pos h2];simp only[List.cons.injEq];refine⟨fun h=>by simp at h,fun h=> ?_⟩;obtain⟨rfl,_⟩:=h;exact absurd h2 (UInt8.lt_irrefl x)
  rw[if_neg h2,Nz a b];have RY:x=y:=UInt8.le_antisymm (UInt8.not_lt.1 h2) (UInt8.not_lt.1 h1);simp[RY]
theorem bytesLess_eq:∀(a b:List UInt8),Op.bytesLess a b=decide (Lib.compareBytes a b<0)
 |[],[]=>by simp[Op.bytesLess,Lib.compareBytes]
 |[],_::_=>by simp[Op.bytesLess,Lib.compareBytes]
 |_::_,[]=>by simp[Op.bytesLess,Lib.compareBytes]
 |x::a,y::b=>by
  unfold Op.bytesLess Lib.compareBytes;rw[bytesLess_eq a b];by_cases h1:x<y
  ·simp[h1]
  by_cases h2:y<x
  ·have bf:x≠y:=fun h=>by subst h;exact UInt8.lt_irrefl x h2
   simp[h1,h2,bf]
  have RY:x=y:=UInt8.le_antisymm (UInt8.not_lt.1 h2) (UInt8.not_lt.1 h1);subst RY;simp
theorem Yf:∀(a b:List UInt8),Lib.compareBytes b a= -Lib.compareBytes a b
 |[],[]=>by simp[Lib.compareBytes]
 |[],_::_=>by simp[Lib.compareBytes]
 |_::_,[]=>by simp[Lib.compareBytes]
 |x::a,y::b=>by
  unfold Lib.compareBytes;by_cases h1:x<y
  ·have h2:¬y<x:=fun h=>UInt8.lt_irrefl x (UInt8.lt_trans h1 h);rw[if_neg h2,if_pos h1,if_pos h1];simp
  by_cases h2:y<x
  ·rw[if_pos h2,if_neg h1,if_pos h2]
  rw[if_neg h2,if_neg h1,if_neg h1,if_neg h2,Yf a b]theorem compareBytes_trans:∀(a b c:List UInt8),Lib.compareBytes a b<0→Lib.compareBytes b c<0→Lib.compareBytes a c<0
 |[],[],c,h,_=>by simp[Lib.compareBytes] at h
 |[],_::_,[],_,h=>by simp[Lib.compareBytes] at h
 |[],_::_,_::_,_,_=>by simp[Lib.compareBytes]
 |_::_,[],c,h,_=>by simp[Lib.compareBytes] at h
 |_::_,_::_,[],_,h=>by simp[Lib.compareBytes] at h
 |x::a,y::b,z::c,h1,h2=>by
  unfold Lib.compareBytes at h1 h2⊢;by_cases e1:x<y
  ·by_cases e2:y<z
   ·rw[if_pos (UInt8.lt_trans e1 e2)];omega
   ·rw[if_neg e2] at h2;by_cases e3:z<y
    ·rw[if_pos e3] at h2;omega
    ·obtain rfl:y=z:=UInt8.le_antisymm (UInt8.not_lt.1 e3) (UInt8.not_lt.1 e2);rw[if_pos e1];omega
  rw[if_neg e1] at h1;by_cases e4:y<x
  ·rw[if_pos e4] at h1;omega
  rw[if_neg e4] at h1;obtain rfl:x=y:=UInt8.le_antisymm (UInt8.not_lt.1 e4) (UInt8.not_lt.1 e1);by_cases e2:x<z
  ·rw[if_pos e2];omega
  rw[if_neg e2] at h2;by_cases e3:z<x
  ·rw[if_pos e3] at h2;omega
  rw[if_neg e3] at h2;rw[if_neg e2,if_neg e3];exact compareBytes_trans a b c h1 h2
def j7(l:List Sb):Prop:=l.Pairwise fun x y=>Lib.compareBytes x.filter y.filter<0
def gH(l:List Sb)(f:List UInt8):Nat:=l.countP fun y=>decide (Lib.compareBytes y.filter f<0)
theorem EH(l:List Sb)(f:List UInt8):gH l f≤l.length:=List.countP_le_length
theorem ahH(a b:List UInt8):Lib.compareBytes a b<0∨a=b∨Lib.compareBytes b a<0:=by
 have h1:=Nz a b;have h2:=Yf a b;by_cases h:Lib.compareBytes a b<0
 ·exact .inl h
 by_cases he:a=b
 ·exact .inr (.inl he)
 exact .inr (.inr (by have:Lib.compareBytes a b≠0:=fun e=>he (h1.1 e);omega))
theorem Yg(a:List UInt8):¬Lib.compareBytes a a<0:=by
 have:=(Nz a a).2 rfl
 omega
theorem C9:∀(l:List Sb)(f:List UInt8),j7 l→∀j (hj:j<l.length),(Lib.compareBytes (l[j]).filter f<0↔j<gH l f)
 |[],f,_,j,hj=>by simp at hj
 |x::l,f,W,j,hj=>by
  have bF:=List.pairwise_cons.1 W;have ih:=C9 l f bF.2;unfold gH;by_cases F:Lib.compareBytes x.filter f<0
  ·rw[List.countP_cons_of_pos (by simpa using F)];cases j with
   |zero=>simp only[List.getElem_cons_zero];exact⟨fun _=>by omega,fun _=>F⟩
   |succ j=>
    have:=ih j (by simpa using hj);unfold gH at this;simp only[List.getElem_cons_succ];rw[this]
    omega
  rw[List.countP_cons_of_neg (by simpa using F)];have h0:l.countP (fun y=>decide (Lib.compareBytes y.filter f<0))=0:=by
   rw[List.countP_eq_zero];intro y hy;have h1:=bF.1 y hy;simp only[decide_eq_true_eq];intro h2;exact F (compareBytes_trans _ _ _ h1 h2)
  rw[h0];refine⟨fun h=> ?_,fun h=>by omega⟩;cases j with
  |zero=>exact absurd h F
  |succ j=>
   have cW:j<l.length:=by simpa using hj
   have h1:=bF.1 l[j] (getElem_mem cW);exact absurd (compareBytes_trans _ _ _ h1 h) F
def sm(l:List Sb)(f:List UInt8):Bool:=match l[gH l f]? with
 |none=>false
 |some y=>y.filter==f
theorem EI{l:List Sb}{f:List UInt8}(h:sm l f=true):∃(G:gH l f<l.length),(l[gH l f]).filter=f:=by
 unfold sm at h;cases F:l[gH l f]? with
 |none=>rw[F] at h;cases h
 |some y=>
  rw[F] at h;obtain⟨G,e⟩:=qe.1 F;exact⟨G,by rw[e];simpa using h⟩
theorem RZ{l:List Sb}{f:List UInt8}(h:sm l f=false):∀(G:gH l f<l.length),(l[gH l f]).filter≠f:=by
 intro G e;unfold sm at h;rw[dW G] at h;simp[e] at h
theorem ahI{l:List Sb}{f:List UInt8}(W:j7 l):dE (fun y:Sb=>y.filter==f) l=if sm l f=true then (gH l f:Int) else -1:=by
 by_cases h:sm l f=true
 ·rw[if_pos h];obtain⟨G,e⟩:=EI h;exact C7 G (by simp[e]) (fun j hj=>by
   have h1:=(C9 l f W j (by omega)).2 hj;have:(l[j]'(by omega)).filter≠f:=fun e2=>by rw[e2] at h1;exact Yg f h1
   simpa using this)
 rw[if_neg h];have h:=RZ (ns.2 h);exact C6 fun y hy=>by
  obtain⟨j,hj,rfl⟩:=lD hy;have:(l[j]).filter≠f:=fun e=>by
   have h1:=C9 l f W j hj;rw[e] at h1;have fw:gH l f≤j:=by
    have:=Yg f
    omega
   by_cases gA:gH l f=j
   ·subst gA;exact h hj e
   have au:gH l f<j:=by omega
   have h2:=xy.1 W (gH l f) j (by omega) hj au;rw[e] at h2;have h3:=(C9 l f W (gH l f) (by omega)).1 h2
   omega
  simpa using this
def om(s:az)(x:Sb):az×Bool×Bool:=
 if sm s.al x.filter=true then ({s with al:=s.al.set (gH s.al x.filter) x},false,true)
 else if s.al.length=8 then (s,false,false)
 else ({s with al:=s.al.take (gH s.al x.filter)++ [x]++s.al.drop (gH s.al x.filter)},true,true)
def C_(s:az)(f:List UInt8):az×Bool:=
 if sm s.al f=true then ({s with al:=s.al.eraseIdx (gH s.al f)},true) else (s,false)
theorem j7.erase{l:List Sb}(h:j7 l)(k:Nat):j7 (l.eraseIdx k):=h.sublist (List.eraseIdx_sublist _ _)
theorem j7.setAt{l:List Sb}{x:Sb}(h:j7 l)(G:k<l.length)(e:(l[k]).filter=x.filter):j7 (l.set k x):=by
 unfold j7 at*;rw[pairwise_iff_getElem] at h⊢;intro i j hi hj NC;rw[qU] at hi hj;have h1:=h i j hi hj NC;rw[List.getElem_set,List.getElem_set]
 split
 ·rename_i e1
  subst e1;rw[if_neg (by omega),←e];exact h1
 split
 ·rename_i e2
  subst e2;rw[←e];exact h1
 exact h1
theorem j7.ins{l:List Sb}{x:Sb}(h:j7 l)(hn:sm l x.filter=false):j7 (l.take (gH l x.filter)++ [x]++l.drop (gH l x.filter)):=by
 have fW:=C9 l x.filter h;have fw:=EH l x.filter;have lI:=RZ hn;have Ha:∀j (hj:j<l.length),gH l x.filter≤j→Lib.compareBytes x.filter (l[j]).filter<0:=fun j hj wI=>by
  rcases ahH (l[j]).filter x.filter with h1|h1|h1
  ·have:=(fW j hj).1 h1
   omega
  ·by_cases e:gH l x.filter=j
   ·exact absurd (by simpa [e] using h1) (lI (by omega))
   ·have h2:=xy.1 h (gH l x.filter) j (by omega) hj (by omega);rw[h1] at h2;have:=(fW (gH l x.filter) (by omega)).1 h2
    omega
  exact h1
 unfold j7;rw[pairwise_append,pairwise_append];refine⟨⟨h.sublist (List.take_sublist _ _),by simp,fun a ha b U=> ?_⟩,h.sublist (List.drop_sublist _ _),fun a ha b U=> ?_⟩
 ·obtain rfl:=dM.1 U;obtain⟨i,hi,rfl⟩:=lD ha;rw[bS] at hi;rw[getElem_take];exact(fW i (by omega)).2 (by omega)
 obtain⟨j,hj,rfl⟩:=lD U;rw[dw] at hj;rw[List.getElem_drop];have h2:=Ha (gH l x.filter+j) (by omega) (by omega);rcases ez.1 ha with ha|ha
 ·obtain⟨i,hi,rfl⟩:=lD ha;rw[bS] at hi;rw[getElem_take];exact compareBytes_trans _ _ _ ((fW i (by omega)).2 (by omega)) h2
 obtain rfl:=dM.1 ha;exact h2
open _root_.Go.Proofs.Tryz
theorem amn(a b:List UInt8)(z:Int)(hz:Lib.compareBytes a b=z)(w:World)(R:ak)
 (I:R (.returned (E z)) w):Calls prog 164 #[.string (str a),.string (str b)] w R:=by
 have J:(callFunc 184 #[.string (str a),.string (str b)]).run prog w= .ok (.value (E z)) w:=by
  rw[run_callFunc_extern func184 (by kernel_rfl) (by kernel_rfl) (by kernel_rfl) (e:=Extern.BytealgCompare.compare) (by kernel_rfl),Lib.run_compareString];rw[show Lib.compareBytes (str a).data.toList (str b).data.toList=z from hz]
  rfl
 clear hz;go_enter func164,ntmps164;go_wp2;exact I
theorem amo(a b:List UInt8)(z:Int)(hz:Lib.compareBytes a b=z)(w:World)(R:ak)
 (I:R (.returned (E z)) w):Calls prog 144 #[.string (str a),.string (str b)] w R:=by
 have HR:=Z I;have HZ:=Z hz;clear I hz;go_enter func144,ntmps144;go_wp2_with (go_at_call 164;go_must(refine amn a b z HZ.O _ _ ?_));exact HR.O
theorem Ug(a f:List UInt8)(z:Int)(hz:Lib.compareBytes a f=z)(c1 c2 c3 c4 c5:Value)(w:World)(R:ak)
 (I:∀w',Below w w w'→R (.returned (E z)) w'):Calls prog 143 #[.agg #[.string (str a),c1,c2,c3,c4,c5],.string (str f)] w R:=by
 have HR:=Z I;have HZ:=Z hz;have aw:Below w w (w.alloc (.cells #[.string (str a),c1,c2,c3,c4,c5] 64)):=aD _ _;have c0:=D 0 (aH w (.cells #[.string (str a),c1,c2,c3,c4,c5] 64));have ct:=Z aw;clear I hz aw;go_enter func143,ntmps143;go_wp2_with (go_at_call 144;go_must(refine amo a f z HZ.O _ _ ?_));exact HR.O _ ct.O
theorem amp(l:List Sb)(f:List UInt8)(k:Nat)(G:gH l f=k)(b:Bool)(U:sm l f=b)(W:j7 l)(hl:l.length≤100000)(sv:Value)(w:World)(ho:w.ownsRow 0 64 6 sv l.length (l.flatMap aT))(R:ak)
 (I:∀w',Below w w w'→R (.returned (.tuple #[E k,.bool b])) w'):
 Calls prog 142 #[sv,.string (str f),.func (.func 143) #[] #[]] w R:=by
 have HR:=Z I;have HO:=Z ho;have fW:∀j (hj:j<l.length),(Lib.compareBytes (l[j]).filter f<0↔j<k):=fun j hj=>by rw[←G];exact C9 l f W j hj
 have gq:k≤l.length:=G▸EH l f;have LC:b=true→∃(h:k<l.length),(l[k]).filter=f:=fun e=>by
  obtain⟨h1,h2⟩:=EI (U.trans e);subst G;exact⟨h1,h2⟩
 have Gb:b=false→∀(h:k<l.length),(l[k]).filter≠f:=fun e=>by
  have:=RZ (U.trans e);subst G;exact this
 obtain⟨n,hn⟩:=ai l.length;obtain⟨HN,zr,abT,amq⟩:=cF hn fW LC Gb;obtain⟨sa,sc,rfl⟩:=cR ho;rw[hn] at hl gq⊢;clear I ho fW LC Gb hn G U W;go_enter func142,ntmps142;go_wp2;go_loopg [9,10] n (fun gn s9 Uh wr=>∃lo hi:Nat,s9= .int .i64 lo∧Uh= .int .i64 hi∧lo≤k∧k≤hi∧hi≤n∧hi - lo≤gn∧Hid (Below w w wr))
 case atStart=>exact⟨0,n,rfl,rfl,bP _,gq,Nat.le_refl _,by omega,Z dg⟩
 case round=>
  obtain⟨lo,hi,rfl,rfl,h1,h2,h3,A,HB⟩:=hrel;obtain⟨wo,rfl⟩:∃x,x=wr:=⟨_,rfl⟩
  by_cases au:lo<hi
  ·have Tv:(lo+hi) / 2<n:=by omega
   have j3:(lo+hi) / 2<l.length:=by have:=HN.O;omega
   have aU:=aR HO.O HB.O;obtain⟨g,vT⟩:=jF aU (by omega);subst vT;have bg:=yV aU rfl j3;have fW:=zr.O ((lo+hi) / 2) j3;obtain⟨⟨yf,yq,yn,ya,yh,yi⟩,hy⟩:∃y,l[(lo+hi) / 2]=y:=⟨_,rfl⟩
   rw[hy] at bg fW;simp only at fW;have HC:Hid (∀j,j<6→wo.cell? ⟨g,(lo+hi) / 2*6+j,none⟩= [Value.string (str yf),E yq,.bool yn,.bool ya,E yh,E yi][j]?):=bg;obtain⟨z,hz⟩:=ai (Lib.compareBytes yf f);rw[hz] at fW;have HZ:=Z hz;clear aU bg hy hz;by_cases lV:z<0
   ·have iW:=fW.1 lV;clear fW;go_wp2_with (first
     |(refine iT 28 64 27 g ((lo+hi) / 2*6) ([Value.string (str yf),E yq,.bool yn,.bool ya,E yh,E yi]) HC.O underlying64 ?_)
     |(go_at_call 143;go_must(refine Ug yf f z HZ.O _ _ _ _ _ _ _ ?_);intro w7 bp;have gE:=Z (aQ HB.O bp);clear bp))
    go_roundg (hi - ((lo+hi) / 2+1))
    case measure=>omega
    case rel=>exact⟨(lo+hi) / 2+1,hi,by rw[show((lo:Int)+(hi:Int)) / 2+1=(((lo+hi) / 2+1:Nat):Int) by omega],rfl,by omega,h2,h3,Nat.le_refl _,gE⟩
   have iW:¬(lo+hi) / 2<k:=fun h=>lV (fW.2 h);clear fW;go_wp2_with (first
    |(refine iT 28 64 27 g ((lo+hi) / 2*6) ([Value.string (str yf),E yq,.bool yn,.bool ya,E yh,E yi]) HC.O underlying64 ?_)
    |(go_at_call 143;go_must(refine Ug yf f z HZ.O _ _ _ _ _ _ _ ?_);intro w7 bp;have gE:=Z (aQ HB.O bp);clear bp))
   go_roundg ((lo+hi) / 2 - lo)
   case measure=>omega
   case rel=>exact⟨lo,(lo+hi) / 2,rfl,by rw[show((lo:Int)+(hi:Int)) / 2=(((lo+hi) / 2:Nat):Int) by omega],h1,by omega,by omega,Nat.le_refl _,gE⟩
  have pV:lo=k:=by omega
  subst pV;by_cases jh:lo<n
  ·have j3:lo<l.length:=by have:=HN.O;omega
   have aU:=aR HO.O HB.O;obtain⟨g,vT⟩:=jF aU (by omega);subst vT;have bg:=yV aU rfl j3;have LC:=abT.O;have Gb:=amq.O;obtain⟨⟨yf,yq,yn,ya,yh,yi⟩,hy⟩:∃y,l[lo]=y:=⟨_,rfl⟩
   rw[hy] at bg;have qY:b=true↔yf=f:=by
    cases b with
    |true=>
     obtain⟨_,e⟩:=LC rfl;rw[hy] at e;exact⟨fun _=>e,fun _=>rfl⟩
    |false=>
     have e:=Gb rfl j3;rw[hy] at e;exact⟨fun h=>(by cases h),fun h=>absurd h e⟩
   have d0:wo.cell? ⟨g,lo*6,none⟩=some (.string (str yf)):=bg 0 (by omega);have d1:wo.cell? ⟨g,lo*6+1,none⟩=some (.int .i64 yq):=bg 1 (by omega);have d2:wo.cell? ⟨g,lo*6+2,none⟩=some (.bool yn):=bg 2 (by omega);have d3:wo.cell? ⟨g,lo*6+3,none⟩=some (.bool ya):=bg 3 (by omega);have d4:wo.cell? ⟨g,lo*6+4,none⟩=some (.int .i64 yh):=bg 4 (by omega);have d5:wo.cell? ⟨g,lo*6+5,none⟩=some (.int .i64 yi):=bg 5 (by omega);obtain⟨z,hz⟩:=ai (Lib.compareBytes yf f);have A8:(z==0)=b:=by
    have h0:=Nz yf f;rw[hz] at h0;cases b with
    |true=>simp[h0.2 (qY.1 rfl)]
    |false=>
     have:z≠0:=fun e=>by have:=qY.2 (h0.1 e);cases this
     simpa using this
   have HZ:=Z hz;have amr:=Z A8;have Bv:¬(lo:Int)<(hi:Int):=by omega
   have xL:(lo:Int)<(n:Int):=by omega
   clear aU bg hy hz LC Gb qY A8;go_wp2_with (first
    |(go_at_call 143;go_must(refine Ug yf f z HZ.O _ _ _ _ _ _ _ ?_);intro w7 bp;have gE:=Z (aQ HB.O bp);clear bp))
   rw[amr.O];exact HR.O _ gE.O
  have Bv:¬(lo:Int)<(hi:Int):=by omega
  have xL:¬(lo:Int)<(n:Int):=by omega
  have yl:b=false:=by
   cases U:b with
   |false=>rfl
   |true=>
    obtain⟨h,_⟩:=abT.O U;have:=HN.O
    omega
  subst yl;go_wp2;exact HR.O _ HB.O
theorem LD(S NB MB GB GM:Nat)(sv qv fv:Value)(s:az)(f:List UInt8)(k:Nat)(G:gH s.al f=k)(b:Bool)(U:sm s.al f=b)(W:j7 s.al)(hl:s.al.length≤100000)(w:World)(M:Nat→Prop)(F:SX w M S NB MB GB GM sv qv fv s)(R:ak)
 (I:∀w',Below w w w'→R (.returned (.tuple #[E k,.bool b])) w'):
 Calls prog 110 #[zq S,.string (str f)] w R:=by
 obtain⟨HR,HX,HK,cT,HS⟩:=jq I F G U W;have c5:=(ef F.hS).2.1;clear I F G U W;go_enter func110,ntmps110;go_wp2_with (go_at_call 142;go_must(refine amp s.al f k HK.O b cT.O HS.O hl sv w HX.O.W _ ?_);intro w2 aj;have bn:=Z aj;clear aj);exact HR.O _ bn.O
open List (eraseIdx_eq_take_drop_succ length_eraseIdx_of_lt mem_of_mem_drop)
open Nat (le_of_lt min_def zero_add)
variable{B N g i n:Nat}{w:World}
theorem ams(w:World):(zeroValue 64).run prog w= .ok (.agg gB) w:=by kernel_rfl
theorem amt:∀v∈(gB:Array Value).toList,v.oneCell'=true:=by
 intro v hv;simp only[List.mem_cons,qT,or_false] at hv;rcases hv with rfl|rfl|rfl|rfl|rfl|rfl<;>rfl
theorem abU{c:Nat}{ps:List Sb}(hi:i+(k - i)=k)(G:k+1=ps.length)(h:w.ownsRow B 64 6 (.slice (some ⟨g,0,none⟩) ps.length c) ps.length (ps.flatMap aT))(zs:List Value):
 ((w.setCells g (0+i*6) ((ps.drop (i+1)).flatMap aT)).setCells g (k*6) zs).ownsRow B 64 6 (.slice (some ⟨g,0,none⟩) k c) k ((ps.eraseIdx i).flatMap aT):=by
 have bk:(ps.eraseIdx i).length=k:=by rw[length_eraseIdx_of_lt (by omega)];omega
 refine⟨by rw[fY 6 aT ij,bk],?_⟩;rcases h.2 with⟨hv,h0⟩|⟨g',cap,cur,hv,hB,A,h1,h2,h3,h4⟩
 ·cases hv
 simp only[Value.slice.injEq,Option.some.injEq,Addr.mk.injEq] at hv;obtain⟨⟨rfl,-,-⟩,-,rfl⟩:=hv;obtain⟨ks,k1,k2,k3⟩:=pB g 64 ((ps.drop (i+1)).flatMap aT) (0+i*6) w cur A;obtain⟨kj,m1,m2,m3⟩:=pB g 64 zs (k*6) _ ks k1;refine .inr ⟨g,c,kj,rfl,hB,m1,by omega,h2,by rw[m2,k2];exact h3,?_⟩;have gK:((ps.drop (i+1)).flatMap aT).length=(k - i) *6:=by
  rw[fY 6 aT ij,dw]
  congr 1
  omega
 have dQ:ps.length*6≤cur.size:=by
  have:=congrArg List.length h4;rw[fY 6 aT ij,bS] at this;simp at this
  omega
 have bZ:∀j,j<ps.length*6→cur[j]? =(ps.flatMap aT)[j]?:=fun j hj=>by
  rw[←h4,ml,if_pos hj];simp
 apply List.ext_getElem?;intro j;rw[ml];by_cases hj:j<k*6
 ·rw[if_pos hj];have e0:kj.toList[j]? =kj[j]?:=by simp
  rw[e0,m3,if_neg (by omega),k3,gK,eraseIdx_eq_take_drop_succ,jZ];have iX:((ps.take i).flatMap aT).length=i*6:=by
   rw[fY 6 aT ij,bS]
   congr 1
   omega
  by_cases oB:j<i*6
  ·rw[if_neg (by omega),bZ j (by omega),ug (by rw[iX];exact oB),←yR 6 aT ij,ml,if_pos oB]
  rw[if_pos (by omega),yH (by rw[iX];omega),iX]
  congr 1
  omega
 rw[if_neg hj,xz (by rw[fY 6 aT ij,bk];omega)]
theorem amu(g c:Nat)(ps:List Sb)(i:Nat)(hi:i<ps.length)(hl:ps.length≤100000)(w:World)(uA:∀u∈ps.flatMap aT,u.oneCell'=true)(hf:w.ownsRow 0 64 6 (.slice (some ⟨g,0,none⟩) ps.length c) ps.length (ps.flatMap aT))(R:ak)
 (I:∀w',w'.ownsRow 0 64 6 (.slice (some ⟨g,0,none⟩) (ps.length - 1) c) (ps.length - 1) ((ps.eraseIdx i).flatMap aT)→w.grownBy w' (some g)→R (.returned (.slice (some ⟨g,0,none⟩) (ps.length - 1) c)) w'):
 Calls prog 129 #[.slice (some ⟨g,0,none⟩) ps.length c,E i,.int .i64 ((i:Int)+1)] w R:=by
 have HR:=Z I;have HF:=Z hf;clear I hf;obtain⟨k,G⟩:∃k,k+1=ps.length:=⟨ps.length - 1,by omega⟩
 obtain⟨n,hn⟩:=ai ps.length;have jh:n - 1=k:=by omega
 have jv:=(bh.iG HF.O).cap;obtain⟨i0,cp,_,cJ,_⟩:=info_parts mw;have xL:i<n:=by omega
 have vv:Below w w w.drew:=bq w;have aq:=(bh.iG HF.O)
 obtain⟨ax,dm,bE,kt⟩:=bh.from (k:=i+1) aq underlying58 cp cJ (by omega);rw[C4 6 aT ij] at bE;have SE:∃awY,ax=some awY:=by
  cases ax with
  |some awY=>exact⟨awY,rfl⟩
  |none=>cases kt
 obtain⟨awY,rfl⟩:=SE;have bQ:=(bE.below vv).rd;have nx:∀j u,((ps.drop (i+1)).flatMap aT)[j]? =some u→w.drew.cell? (awY.add j)=some u:=fun j u hj=>by
  have ti:j<(ps.length - (i+1)) *6:=by
   rw[←bQ.1];exact(qe.1 hj).1
  exact Yc
 have lO:=bQ.1;have Kf:∀j,j<((ps.drop (i+1)).flatMap aT).length→(w.drew.cell? ⟨g,0+i*6+j,none⟩).isSome=true∧w.drew.frozen? ⟨g,0+i*6+j,none⟩=false:=fun j hj=>by
  rw[lO] at hj;have h0:=aR HF.O vv;refine⟨?_,h0.frozenAt _⟩;rw[h0.cellAt _ (by omega),dW (by rw[fY 6 aT ij];omega)]
  rfl
 have Kg:∀u∈(ps.drop (i+1)).flatMap aT,u.oneCell'=true:=fun u hu=>uA u (by
  obtain⟨p,hp,hu⟩:=List.mem_flatMap.1 hu;exact List.mem_flatMap.2 ⟨p,mem_of_mem_drop hp,hu⟩)
 obtain⟨W1,oj⟩:=ai (w.drew.setCells g (0+i*6) ((ps.drop (i+1)).flatMap aT));have cD:=abU (i:=i) (k:=k) (by omega) G (aR HF.O vv) (gB:Array Value).toList;have Kh:=abU (i:=i) (k:=k) (by omega) G (aR HF.O vv) [];have By:w.grownBy (W1.setCells g (k*6) (gB:Array Value).toList) (some g):=by
  exact Ye
 rw[oj] at cD Kh;have mz:∀ty,(Builtin.clear_ #[58] ty #[.slice (some ⟨g,k*6,none⟩) 1 (c - k)]).run prog W1= .ok (.tuple #[]) (W1.setCells g (k*6) (gB:Array Value).toList):=fun ty=>by
  obtain⟨ks,k1,k2,_⟩:∃ks:Array Value,W1.heap[g]? =some (.cells ks 64 (0,0))∧n*6≤ks.size∧True:=by
   rcases(aR HF.O vv).2 with⟨hv,h0⟩|⟨g',cap,cur,hv,hB,A,h1,h2,h3,h4⟩
   ·cases hv
   simp only[Value.slice.injEq,Option.some.injEq,Addr.mk.injEq] at hv;obtain⟨⟨rfl,-,-⟩,-,rfl⟩:=hv;obtain⟨ks,k1,k2,k3⟩:=pB g 64 ((ps.drop (i+1)).flatMap aT) (0+i*6) w.drew cur A;rw[oj] at k1;have:=congrArg List.length h4;rw[fY 6 aT ij,bS] at this;simp at this;exact⟨ks,k1,by omega,trivial⟩
  refine Zq W1 _ 64 ty (.agg gB) _ underlying58 ams rfl amt g (k*6) _ (fun j hj=> ?_) (fun j hj=> ?_)
  ·have hj:j<6:=hj;rw[oP W1 g _ ks _ _ k1,Array.getElem?_eq_getElem (by omega)]
   rfl
  exact frozen_of_row W1 g _ ks _ k1
 have he:prog.elem 58=64:=by simp[Program.elem,underlying58]
 have bF:∀w',(Instr.slice 58 (.slice (some ⟨g,0,none⟩) k c) (some (E (k:Int))) (some (E (n:Int))) none).run prog w'= .ok (.slice (some ⟨g,k*6,none⟩) 1 (c - k)) w':=fun w'=>by
  rw[run_slice_lh (P:=prog) w' _ _ k c (by rw[he];exact underlying58) .i64 .i64 k n (by omega) (by omega) (by omega),he];exact Yd
 replace dm:∀w',(Instr.slice 58 (.slice (some ⟨g,0,none⟩) n c) (some (.int .i64 ((i:Int)+1))) none none).run prog w'= .ok (.slice (some awY) (n - (i+1)) (c - (i+1))) w':=fun w'=>by
  have:=dm w';rw[hn] at this;exact this
 rw[hn] at jv aq bE kt⊢;rw[hn,jh] at HR;obtain⟨lL,SF,HW,HN,zr,BT⟩:=CN cD By oj nx Kf Kg;have zt:Hid (((ps.drop (i+1)).flatMap aT).length=(n - (i+1)) *6):=by show _=_;rw[←hn];exact lO
 have vk:i+(n - (i+1))=k:=by omega
 have Ki:=Z vk;have SG:i≤c:=by omega
 have ajt:i+1≤c:=by omega
 have Bv:((i:Int)==(i:Int)+1)=false:=by simp;omega
 clear cD Kh By oj nx Kf Kg lO vk bQ aq bE kt uA vv hn G;go_enter func129,ntmps129;go_wp2_with fail;go_region_law (refine step_append_room rfl (.tmp 22) (.tmp 25) 58 rfl 64 i0 6 underlying58 cp cJ g 0 i c (by rfl) awY (n - (i+1)) (c - (i+1)) _ (by rfl) zt.O HN.O BT.O (by omega) zr.O ?_;rw[HW.O,Ki.O]);go_wp2;exact HR.O _ lL.O SF.O
theorem PH{P:Program}(w:World)(dT sT ty elem:TypeId)(k b o Ui amv:Nat)(a:Addr)(Uj amw:Nat)(cs:List Value)
 (hu:P.underlying dT=some (.slice elem)) (W:(P.info? elem).map (·.size)=some k) (hn:cs.length=Nat.min Uj Ui*k)
 (PI:∀j v,cs[j]? =some v→w.cell? (a.add j)=some v) (J:∀j,j<cs.length→(w.cell? ⟨b,o+j,none⟩).isSome=true) (hf:∀j,j<cs.length→w.frozen? ⟨b,o+j,none⟩=false) (h1:∀v∈cs,v.oneCell'=true):
 (Builtin.copy_ #[dT,sT] ty #[.slice (some ⟨b,o,none⟩) Ui amv,.slice (some a) Uj amw]).run P w= .ok (goInt (Nat.min Uj Ui)) (w.setCells b o cs):=by
 have hl:=run_loadCells_list (P:=P) w a cs PI;have cB:=run_storeCells_cells (P:=P) b o cs 0 w (by simpa using J) (by simpa using hf) h1;cases hq:P.info? elem with
 |none=>simp[hq] at W
 |some i=>
  have hi:i.size=k:=by simpa [hq] using W
  simp[Builtin.copy_,run_underlying hu,Builtin.lenOf,Builtin.firstCells,sizeOf,typeInfo,hq,hi,←hn,hl,cB]
theorem amx{P:Program}(w:World){o:Oper}{a:Act}{K:Act→World→Prop}{Q:Exit→Act→World→Prop}(d s:Operand)(t t':TypeId)
 (ho:o.op= .call {callee:= .builtin .copy,args:=#[d,s],argTypes:=#[t,t']}) (v u:Value) (hd:a.eval d=v) (W:a.eval s=u) {v':Value} {w':World}
 (hr:(Builtin.copy_ #[t,t'] o.type #[v,u]).run P w= .ok v' w') (h:K (a.put o.dst v') w'):o.wp P a w K Q:=by
 unfold Oper.wp execOp;simp only[ho,resolve,invoke,builtin,Sem.run_bind,Sem.run_pure,Result.andThen_ok,List.map_toArray,List.map_cons,List.map_nil,hd,W,hr];exact h
theorem abV{P:Program}(w:World){ops:Array Oper}{rest:List Oper}{o:Oper}{a:Act}{Q:Exit→Act→World→Prop}(oe:o.guard=none)(d s:Operand)(t t':TypeId)
 (ho:o.op= .call {callee:= .builtin .copy,args:=#[d,s],argTypes:=#[t,t']}) (v u:Value) (hd:a.eval d=v) (W:a.eval s=u) {v':Value} {w':World}
 (hr:(Builtin.copy_ #[t,t'] o.type #[v,u]).run P w= .ok v' w') (h:wpList P ops Q rest (a.put o.dst v') w'):wpList P ops Q (o::rest) a w:=
 wpList_plain oe fun _ hK=>amx w d s t t' ho v u hd W hr (hK _ _ h)
theorem abW{P:Program}{ops:Array Oper}{o:Oper}{a:Act}{K:Act→World→Prop}{Q:Exit→Act→World→Prop}{awW:Prop}
 (A:o.guard=none) (d x:Operand) (dT sT:TypeId) (A6:o.op=Op.call {callee:=Callee.builtin Builtin.copy,args:=#[d,x],argTypes:=#[dT,sT]})
 (v u:Value) (hd:a.eval d=v) (F:a.eval x=u) {v':Value} {w':World} (hr:(Builtin.copy_ #[dT,sT] o.type #[v,u]).run P w= .ok v' w') (hK:K (a.put o.dst v') w'):
 if Region.wanted o (yielded ops a.tmps)=true then Oper.wp P o a w K Q else awW:=by
 have hw:Region.wanted o (yielded ops a.tmps)=true:=by simp[Region.wanted,A]
 rw[if_pos hw];unfold Oper.wp;simp[execOp,A6,resolve,invoke,builtin,hd,F,hr,Result.andThen];exact hK
theorem amy{c:Nat}{ps:List Sb}{x:Sb}(hi:i≤n)(hn:ps.length=n)(J:n+1≤c)(h:w.ownsRow B 64 6 (.slice (some ⟨g,0,none⟩) n c) n (ps.flatMap aT)):
 ((w.setCells g ((i+1) *6) ((ps.drop i).flatMap aT)).setCells g (i*6) (aT x)).ownsRow B 64 6 (.slice (some ⟨g,0,none⟩) (n+1) c) (n+1) ((ps.take i++ [x]++ps.drop i).flatMap aT):=by
 have bk:(ps.take i++ [x]++ps.drop i).length=n+1:=by
  rw[aK,aK,bS,dw];simp
  omega
 refine⟨by rw[fY 6 aT ij,bk],?_⟩;rcases h.2 with⟨hv,h0⟩|⟨g',cap,cur,hv,hB,A,h1,h2,h3,h4⟩
 ·cases hv
 simp only[Value.slice.injEq,Option.some.injEq,Addr.mk.injEq] at hv;obtain⟨⟨rfl,-,-⟩,-,rfl⟩:=hv;obtain⟨ks,k1,k2,k3⟩:=pB g 64 ((ps.drop i).flatMap aT) ((i+1) *6) w cur A;obtain⟨kj,m1,m2,m3⟩:=pB g 64 (aT x) (i*6) _ ks k1;refine .inr ⟨g,c,kj,rfl,hB,m1,J,h2,by rw[m2,k2];exact h3,?_⟩;have gK:((ps.drop i).flatMap aT).length=(n - i) *6:=by
  rw[fY 6 aT ij,dw,hn]
 have oG:(aT x).length=6:=rfl;have iX:((ps.take i).flatMap aT).length=i*6:=by
  rw[fY 6 aT ij,bS,Nat.min_eq_left (by omega)]
 have bZ:∀j,j<n*6→cur[j]? =(ps.flatMap aT)[j]?:=fun j hj=>by
  rw[←h4,ml,if_pos hj];simp
 apply List.ext_getElem?;intro j;rw[ml];have e0:kj.toList[j]? =kj[j]?:=by simp
 by_cases hj:j<(n+1) *6
 ·rw[if_pos hj,e0,m3,oG,k2,k3,gK,jZ,jZ,List.flatMap_singleton];by_cases oB:j<i*6
  ·rw[if_neg (by omega),if_neg (by omega),bZ j (by omega),ug (by rw[aK,iX];omega),ug (by rw[iX];exact oB),←yR 6 aT ij,ml,if_pos oB]
  ·by_cases LF:j<i*6+6
   ·rw[if_pos (by omega),ug (by rw[aK,iX];omega),yH (by rw[iX];omega),iX]
   ·rw[if_neg (by omega),if_pos (by omega),yH (by rw[aK,iX];omega),aK,iX,oG,show j - (i+1) *6=j - (i*6+6) by omega]
 rw[if_neg hj,xz (by rw[fY 6 aT ij,bk];omega)]
theorem Iy(g n c k:Nat)(z:Int)(hz:z=(k:Int))(G:k≤n)(J:c≠k):∀w',(Instr.slice 58 (.slice (some ⟨g,0,none⟩) n c) (some (E z)) none none).run prog w'= .ok (.slice (some ⟨g,k*6,none⟩) (n - k) (c - k)) w':=fun w'=>by
 obtain⟨i0,cp,_,cJ,_⟩:=info_parts mw;have he:prog.elem 58=64:=by simp[Program.elem,underlying58]
 subst hz;rw[run_slice_l (P:=prog) w' _ _ n c (by rw[he];exact underlying58) .i64 k (by omega) (by omega),he];simp[sizeOf,typeInfo,cp,cJ,sliced,J,Addr.add_lit]
theorem abX(g n c k:Nat)(z:Int)(hz:z=(k:Int))(G:k≤c):∀w',(Instr.slice 58 (.slice (some ⟨g,0,none⟩) n c) none (some (E z)) none).run prog w'= .ok (.slice (some ⟨g,0,none⟩) k c) w':=fun w'=>by
 obtain⟨i0,cp,_,cJ,_⟩:=info_parts mw;have he:prog.elem 58=64:=by simp[Program.elem,underlying58]
 subst hz;rw[run_slice_h (P:=prog) w' _ _ n c (by rw[he];exact underlying58) .i64 k (by omega) (by omega),he];by_cases h0:c=0
 ·simp[sizeOf,typeInfo,cp,cJ,sliced,h0]
 simp[sizeOf,typeInfo,cp,cJ,sliced,h0,Addr.add_lit]
theorem PJ(x:Sb):∀u∈aT x,u.oneCell'=true:=fun u hu=>by
 exact X3
theorem amz{vb:Nat}{x:Sb}(hv:w.heap[vb]? =some (.cells (bH x) 64)):Rd w 6 (some ⟨vb,0,none⟩) 1 (aT x):=⟨rfl,fun _=>⟨vb,0,rfl,fun j hj=>by
 rw[zero_add,D j hv];simp[aT]⟩⟩
theorem amA(l:List Sb)(x:Sb)(n:Nat)(hl:n≤100000)(sv:Value)(w:World)(ho:w.ownsRow 0 64 6 sv n (l.flatMap aT))(vb:Nat)(hv:w.heap[vb]? =some (.cells (bH x) 64))(R:ak)
 (I:∀Y c w',w'.ownsRow 0 64 6 (.slice Y (n+1) c) (n+1) (l.flatMap aT++aT x)→w.grownBy w' sv.ownBlock→((Value.slice Y (n+1) c).ownBlock=sv.ownBlock∨(Value.slice Y (n+1) c).ownBlock=some w.heap.size)→R (.returned (.slice Y (n+1) c)) w'):
 Calls prog 111 #[sv,E n,.slice (some ⟨vb,0,none⟩) 1 1] w R:=by
 have HR:=Z I;obtain⟨sa,sc,rfl⟩:=cR ho;obtain⟨i0,cp,_,cJ,_⟩:=info_parts mw;obtain⟨ax,dm,_,_⟩:=bh.from (k:=n) (bh.iG ho) underlying58 cp cJ bj;have HO:=Z ho;have bQ:=amz hv;clear I ho hv;go_enter func111,ntmps111;go_wp2_with (first
  |(at_builtin;have hq:=bQ;go_must(refine jr (by rfl) (.tmp 23) (.tmp 24) 58 (by rfl) 0 64 (.agg gB) 6 48 underlying58 mw rfl (by decide) sa n sc _ (by rfl) HO.O (some ⟨vb,0,none⟩) 1 1 (aT x) (by rfl) bQ (PJ x) (fun h=>by cases h) (by unfold maxLen;omega) (by omega) (bP _) ?_);intro fK c9 w9 dA bW abY;obtain⟨vH,nR,amB⟩:=bX dA bW abY;clear bQ hq dA bW abY))
 exact HR.O _ _ _ vH.O nR.O amB.O
theorem amC(l:List Sb)(x:Sb)(n:Nat)(hn:l.length=n)(hl:n≤100000)(i:Nat)(hi:i<n)(g c:Nat)(J:n+1≤c)(w:World)(ho:w.ownsRow 0 64 6 (.slice (some ⟨g,0,none⟩) n c) n (l.flatMap aT))(vb:Nat)(hv:w.heap[vb]? =some (.cells (bH x) 64))(bf:vb≠g)(R:ak)
 (I:∀w',w'.ownsRow 0 64 6 (.slice (some ⟨g,0,none⟩) (n+1) c) (n+1) ((l.take i++ [x]++l.drop i).flatMap aT)→w.grownBy w' (some g)→R (.returned (.slice (some ⟨g,0,none⟩) (n+1) c)) w'):
 Calls prog 111 #[.slice (some ⟨g,0,none⟩) n c,E i,.slice (some ⟨vb,0,none⟩) 1 1] w R:=by
 have HR:=Z I;obtain⟨i0,cp,_,cJ,_⟩:=info_parts mw;have bt:(prog.info? 64).map (·.size)=some 6:=by rw[cp];simp[cJ]
 obtain⟨cur,ym,dQ,mz⟩:∃cur:Array Value,w.heap[g]? =some (.cells cur 64 (0,0))∧cur.size=c*6∧c≤maxLen:=by
  rcases ho.2 with⟨hv,_⟩|⟨g',cap,cur,hv,_,A,_,h2,h3,_⟩
  ·cases hv
  simp only[Value.slice.injEq,Option.some.injEq,Addr.mk.injEq] at hv;obtain⟨⟨rfl,-,-⟩,-,rfl⟩:=hv;exact⟨cur,A,h3,h2⟩
 have avA:c≤9223372036854775807:=mz;have cD:=amy (i:=i) (x:=x) (le_of_lt hi) hn J (aR ho (bq w));have amD:=Iy g n c i (i:Int) rfl (le_of_lt hi) (by omega);have amE:=abX g n c (n+1) ((n:Int)+1) (by omega) J;have abZ:=Iy g (n+1) c (i+1) ((i:Int)+1) (by omega) (by omega) (by omega);have Cf:n+1 - (i+1)=n - i:=by omega
 rw[Cf] at abZ;clear Cf;have ab0:=Iy g (n+1) c i (i:Int) rfl (by omega) (by omega);have gK:((l.drop i).flatMap aT).length=(n - i) *6:=by rw[fY 6 aT ij,dw,hn]
 have aq:=ho;have PI:∀j v,((l.drop i).flatMap aT)[j]? =some v→w.drew.cell? ⟨g,i*6+j,none⟩=some v:=fun j v hj=>by
  have ti:j<(n - i) *6:=by rw[←gK];exact(qe.1 hj).1
  show w.cell? _=_;rw[ho.cellAt (i*6+j) (by omega)];rw[←C4 6 aT ij,List.getElem?_drop] at hj;exact hj
 have bg:∀(y:World),(∃cy:Array Value,y.heap[g]? =some (.cells cy 64 (0,0))∧cy.size=c*6)→∀j,j<c*6→(y.cell? ⟨g,j,none⟩).isSome=true∧y.frozen? ⟨g,j,none⟩=false:=fun y ⟨cy,h1,h2⟩ j hj=>by
  refine⟨?_,frozen_of_row y g j cy _ h1⟩;rw[oP y g j cy _ _ h1,Array.getElem?_eq_getElem (by omega)]
  rfl
 obtain⟨W1,oj⟩:=ai (w.drew.setCells g ((i+1) *6) ((l.drop i).flatMap aT));have amF:∀ty,(Builtin.copy_ #[58,58] ty #[.slice (some ⟨g,(i+1) *6,none⟩) (n - i) (c - (i+1)),.slice (some ⟨g,i*6,none⟩) (n+1 - i) (c - i)]).run prog w.drew= .ok (goInt ((n - i:Nat):Int)) W1:=fun ty=>by
  rw[←oj,PH w.drew _ _ ty 64 6 g ((i+1) *6) _ _ ⟨g,i*6,none⟩ _ _ ((l.drop i).flatMap aT) underlying58 bt (by rw[gK];congr 1;simp only[min_def];split<;>omega) (fun j v hj=>by rw[Addr.add_lit];exact PI j v hj) (fun j hj=>(bg w.drew ⟨cur,ym,dQ⟩ _ (by rw[gK] at hj;omega)).1) (fun j hj=>(bg w.drew ⟨cur,ym,dQ⟩ _ (by rw[gK] at hj;omega)).2) (vw _),show Nat.min (n+1 - i) (n - i)=n - i by simp only[min_def];split<;>omega]
 obtain⟨ks,q1,q2,_⟩:=pB g 64 ((l.drop i).flatMap aT) ((i+1) *6) w.drew cur ym;have km:w.grownBy W1 (some g):=by rw[←oj];exact cg (ju ((bq w))) (qZ _ _ _ _)
 rw[oj] at q1 cD;have ab1:W1.heap[vb]? =some (.cells (bH x) 64):=(km.block vb (eI.1 hv).1 (fun e=>bf (Option.some.inj e))).trans hv;have amG:∀ty,(Builtin.copy_ #[58,58] ty #[.slice (some ⟨g,i*6,none⟩) (n+1 - i) (c - i),.slice (some ⟨vb,0,none⟩) 1 1]).run prog W1= .ok (goInt 1) (W1.setCells g (i*6) (aT x)):=fun ty=>by
  rw[PH W1 _ _ ty 64 6 g (i*6) _ _ ⟨vb,0,none⟩ _ _ (aT x) underlying58 bt (by rw[show Nat.min 1 (n+1 - i)=1 by simp only[min_def];split<;>omega];rfl) (fun j v hj=>by rw[Addr.add_lit,zero_add,D j ab1,←hj];simp[aT]) (fun j hj=>(bg W1 ⟨ks,q1,by rw[q2,dQ]⟩ _ (by have hj:j<6:=hj;omega)).1) (fun j hj=>(bg W1 ⟨ks,q1,by rw[q2,dQ]⟩ _ (by have hj:j<6:=hj;omega)).2) (PJ x),show Nat.min 1 (n+1 - i)=1 by simp only[min_def];split<;>omega]
  rfl
 have ab2:∀w',w'.heap[vb]? =some (.cells (bH x) 64)→(∃cy:Array Value,w'.heap[g]? =some (.cells cy 64 (0,0))∧cy.size=c*6)→(callFunc 145 #[.slice (some ⟨vb,0,none⟩) 1 1,.slice (some ⟨g,(i+1) *6,none⟩) (n - i) (c - (i+1))]).run prog w'= .ok (.value (.bool false)) w':=fun w' gp ⟨cy,h1,h2⟩=>by
  rw[run_callFunc_extern func145 (by kernel_rfl) (by kernel_rfl) (by kernel_rfl) (e:=Extern.SlicesOverlaps.overlaps #[58,58] #[4]) (by kernel_rfl),
   Lib.run_overlaps_apart w' 58 4 64 underlying58 6 (fun w=>by simp[sizeOf,typeInfo,cp,cJ]) ⟨vb,0,none⟩ ⟨g,(i+1) *6,none⟩ _ _ _ _ bf 64 64 6 cy.size (by simp[World.shape?,gp]) (by simp[World.shape?,h1]) (by omega) (frozen_of_row w' vb 0 _ _ gp) (frozen_of_row w' vb 6 _ _ gp)]
  rfl
 have amH:=ab2 w hv ⟨cur,ym,dQ⟩;have lL:=Z cD;have Uk:=Z (cg km (qZ _ _ _ _:W1.grownBy (W1.setCells g (i*6) (aT x)) (some g)));have Bv:((i:Int)==(n:Int))=false:=by simp;omega
 have fV:¬(i:Int)=(n:Int):=by omega
 have Ul:IntKind.i64.wrap ((n:Int)+1)=(n:Int)+1:=by rw[IntKind.wrap_i64];omega
 have l8:IntKind.i64.wrap ((i:Int)+1)=(i:Int)+1:=by rw[IntKind.wrap_i64];omega
 have Ex:¬(c:Int)<(n:Int)+1:=by omega
 have HW:=Z oj;clear I ho aq hv PI bg ym dQ q1 q2 km ab1 ab2 cD gK hn oj hi bf;go_enter func111,ntmps111;go_wp2_with (simp only[amH]);go_region_law (refine abW rfl _ _ 58 58 rfl (.slice (some ⟨g,(i+1) *6,none⟩) (n - i) (c - (i+1))) (.slice (some ⟨g,i*6,none⟩) (n+1 - i) (c - i)) (by simp[Act.eval,Act.put]) (by simp[Act.eval,Act.put]) (amF _) ?_);go_wp2_with (at_builtin;refine abV _ rfl _ _ 58 58 rfl (.slice (some ⟨g,i*6,none⟩) (n+1 - i) (c - i)) (.slice (some ⟨vb,0,none⟩) 1 1) rfl rfl (amG _) ?_);exact HR.O _ lL.O Uk.O
theorem amI{c:Nat}{uT:Array Value}{ps:List Sb}{x:Sb}(hi:i≤n)(hn:ps.length=n)(J:n+1≤c)(vg:c≤maxLen)(hN:w.heap[N]? =some (.cells uT 64 (0,0)))(I:uT.size=c*6)(PK:∀j,j<i*6→uT[j]? =(ps.flatMap aT)[j]?):
 ((w.setCells N (i*6) (aT x)).drew.setCells N ((i+1) *6) ((ps.drop i).flatMap aT)).ownsRow N 64 6 (.slice (some ⟨N,0,none⟩) (n+1) c) (n+1) ((ps.take i++ [x]++ps.drop i).flatMap aT):=by
 have bk:(ps.take i++ [x]++ps.drop i).length=n+1:=by
  rw[aK,aK,bS,dw];simp
  omega
 refine⟨by rw[fY 6 aT ij,bk],?_⟩;obtain⟨ks,k1,k2,k3⟩:=pB N 64 (aT x) (i*6) w uT hN;generalize w.setCells N (i*6) (aT x)=aw1 at k1⊢;have amJ:aw1.drew.heap[N]? =some (.cells ks 64 (0,0)):=k1;obtain⟨kj,m1,m2,m3⟩:=pB N 64 ((ps.drop i).flatMap aT) ((i+1) *6) aw1.drew ks amJ;refine .inr ⟨N,c,kj,rfl,Nat.le_refl _,m1,J,vg,by rw[m2,k2];exact I,?_⟩;have gK:((ps.drop i).flatMap aT).length=(n - i) *6:=by
  rw[fY 6 aT ij,dw,hn]
 have oG:(aT x).length=6:=rfl;have iX:((ps.take i).flatMap aT).length=i*6:=by
  rw[fY 6 aT ij,bS,Nat.min_eq_left (by omega)]
 apply List.ext_getElem?;intro j;rw[ml];have e0:kj.toList[j]? =kj[j]?:=by simp
 by_cases hj:j<(n+1) *6
 ·have ab3:=k3 j;rw[oG] at ab3;rw[if_pos hj,e0,m3,ab3,k2,gK,jZ,jZ,List.flatMap_singleton];by_cases oB:j<i*6
  ·rw[if_neg (by omega),if_neg (by omega),PK j oB,ug (by rw[aK,iX];omega),ug (by rw[iX];exact oB),←yR 6 aT ij,ml,if_pos oB]
  ·by_cases LF:j<i*6+6
   ·rw[if_neg (by omega),if_pos (by omega),ug (by rw[aK,iX];omega),yH (by rw[iX];omega),iX]
   ·rw[if_pos (by omega),yH (by rw[aK,iX];omega),aK,iX,oG,show j - (i+1) *6=j - (i*6+6) by omega]
 rw[if_neg hj,xz (by rw[fY 6 aT ij,bk];omega)]
theorem amK(l:List Sb)(x:Sb)(n:Nat)(hn:l.length=n)(hl:n≤100000)(i:Nat)(hi:i<n)(g c:Nat)(J:c<n+1)(w:World)(ho:w.ownsRow 0 64 6 (.slice (some ⟨g,0,none⟩) n c) n (l.flatMap aT))(vb:Nat)(hv:w.heap[vb]? =some (.cells (bH x) 64))(R:ak)
 (I:∀N c' w',w'.ownsRow 0 64 6 (.slice (some ⟨N,0,none⟩) (n+1) c') (n+1) ((l.take i++ [x]++l.drop i).flatMap aT)→w.grownBy w' (some g)→N=w.heap.size→R (.returned (.slice (some ⟨N,0,none⟩) (n+1) c')) w'):
 Calls prog 111 #[.slice (some ⟨g,0,none⟩) n c,E i,.slice (some ⟨vb,0,none⟩) 1 1] w R:=by
 have HR:=Z I;obtain⟨i0,cp,lV,cJ,A8⟩:=info_parts mw;have bt:(prog.info? 64).map (·.size)=some 6:=by rw[cp];simp[cJ]
 obtain⟨cur,ym,dQ,ab4,ab5⟩:∃cur:Array Value,w.heap[g]? =some (.cells cur 64 (0,0))∧cur.size=c*6∧n≤c∧cur.toList.take (n*6)=l.flatMap aT:=by
  rcases ho.2 with⟨hv,_⟩|⟨g',cap,cur,hv,_,A,h1,h2,h3,h4⟩
  ·cases hv
  simp only[Value.slice.injEq,Option.some.injEq,Addr.mk.injEq] at hv;obtain⟨⟨rfl,-,-⟩,-,rfl⟩:=hv;exact⟨cur,A,h3,h1,h4⟩
 obtain rfl:c=n:=by omega
 have By:g<w.heap.size:=(eI.1 ym).1;have amL:vb<w.heap.size:=(eI.1 hv).1;have g_:(l.flatMap aT).length=c*6:=by rw[fY 6 aT ij,hn]
 have bo:(c:Int)+1 - (i:Int)=((c+1 - i:Nat):Int):=by omega
 have Jx:i+(c+1 - i)=c+1:=by omega
 have iX:((l.take i).flatMap aT).length=i*6:=by
  rw[fY 6 aT ij,bS,Nat.min_eq_left (by omega)]
 have gK:((l.drop i).flatMap aT).length=(c - i) *6:=by rw[fY 6 aT ij,dw,hn]
 have hold:(Builtin.firstCells i0.size i (.slice (some ⟨g,0,none⟩) i c)).run prog w.drew= .ok ((l.take i).flatMap aT).toArray w.drew:=by
  rw[cJ];have h:=run_loadCells_list (P:=prog) w.drew ⟨g,0,none⟩ ((l.take i).flatMap aT) (fun j v hj=>by
   rw[Addr.add_lit,zero_add];show w.cell? _=_;have ti:j<i*6:=by rw[←iX];exact(qe.1 hj).1
   rw[ho.cellAt j (by omega)];rw[←yR 6 aT ij,ml,if_pos ti] at hj;exact hj)
  rw[iX] at h;exact h
 obtain⟨awV,hG⟩:∃awV,awV=grownCap w (c+1) c 64:=⟨_,rfl⟩
 obtain⟨uT,PL⟩:∃uT:Array Value,uT=((l.take i).flatMap aT).toArray++Builtin.zeroCells (Value.agg (gB:Array Value)).cells (c+1 - i)++Builtin.zeroCells (Value.agg (gB:Array Value)).cells (awV - (c+1)):=⟨_,rfl⟩
 have amM:c+1≤awV:=by rw[hG];exact grownCap_ge w _ _ _
 have ab6:awV≤maxLen:=by
  rw[hG];exact grownCap_le_maxLen w (c+1) c 64 (by unfold maxLen;omega)
 have Ol:(Value.agg (gB:Array Value)).cells.size=6:=rfl;have Iz:uT.size=awV*6:=by
  rw[PL];simp only[Array.size_append,Builtin.zeroCells,Array.size_map,Array.size_range,Ol,List.size_toArray,iX]
  omega
 have ab7:∀j,j<i*6→uT[j]? =(l.flatMap aT)[j]?:=fun j hj=>by
  rw[PL,Array.getElem?_append_left (by simp only[Array.size_append,List.size_toArray,iX];omega),Array.getElem?_append_left (by simp only[List.size_toArray,iX];omega),List.getElem?_toArray,←yR 6 aT ij,ml,if_pos hj]
 have ab8:∀ty,(Builtin.append_ #[58,3] ty #[.slice (some ⟨g,0,none⟩) i c,.int .i64 ((c:Int)+1 - (i:Int))]).run prog w=
  .ok (.slice (some ⟨w,0,none⟩) (c+1) awV) (w.drew.alloc (.cells uT 64)):=fun ty=>by
  have h:=Lib.run_append_grow_zeros w 58 3 ty 64 i0 _ .i64 .i64 underlying58 underlying3 cp lV (some ⟨g,0,none⟩) i c _ hold (c+1 - i) (by omega) (by rw[cJ];omega) (by omega) (by omega) (by rw[A8];omega) (by rw[A8,Jx];exact growslice_fits (by omega) (by omega));rw[Jx,←hG,←PL] at h;rw[bo];exact h
 obtain⟨N,hN⟩:=ai w.heap.size;obtain⟨W0,Um⟩:=ai (w.drew.alloc (.cells uT 64));rw[Um,hN] at ab8;have LG:W0.heap[N]? =some (.cells uT 64 (0,0)):=by rw[←Um,←hN];exact aH w.drew _
 have aM:Below w w W0:=by rw[←Um];exact(bq w).alloc bj _
 have LH:∀(y:World),(∃cy:Array Value,y.heap[N]? =some (.cells cy 64 (0,0))∧cy.size=awV*6)→∀j,j<awV*6→(y.cell? ⟨N,j,none⟩).isSome=true∧y.frozen? ⟨N,j,none⟩=false:=fun y ⟨cy,h1,h2⟩ j hj=>by
  refine⟨?_,frozen_of_row y N j cy _ h1⟩;rw[oP y N j cy _ _ h1,Array.getElem?_eq_getElem (by omega)]
  rfl
 have ab9:W0.heap[vb]? =some (.cells (bH x) 64):=aA hv aM;obtain⟨W1,oj⟩:=ai (W0.setCells N (i*6) (aT x));have amN:∀ty,(Builtin.copy_ #[58,58] ty #[.slice (some ⟨N,i*6,none⟩) (c+1 - i) (awV - i),.slice (some ⟨vb,0,none⟩) 1 1]).run prog W0= .ok (goInt 1) W1:=fun ty=>by
  rw[PH W0 _ _ ty 64 6 N (i*6) _ _ ⟨vb,0,none⟩ _ _ (aT x) underlying58 bt (by rw[show Nat.min 1 (c+1 - i)=1 by simp only[min_def];split<;>omega];rfl) (fun j v hj=>by rw[Addr.add_lit,zero_add,D j ab9,←hj];simp[aT]) (fun j hj=>(LH W0 ⟨uT,LG,Iz⟩ _ (by have hj:j<6:=hj;omega)).1) (fun j hj=>(LH W0 ⟨uT,LG,Iz⟩ _ (by have hj:j<6:=hj;omega)).2) (PJ x),show Nat.min 1 (c+1 - i)=1 by simp only[min_def];split<;>omega,oj]
  rfl
 obtain⟨ks,q1,q2,_⟩:=pB N 64 (aT x) (i*6) W0 uT LG;rw[oj] at q1;have km:W0.grownBy W1 (some N):=by rw[←oj];exact qZ _ _ _ _
 have aca:g≠N:=by omega
 have acb:W1.heap[g]? =some (.cells cur 64 (0,0)):=(km.block g (by have:=aM.size;omega) (fun e=>aca (Option.some.inj e))).trans (aA ym aM);have amO:∀ty,(Builtin.copy_ #[58,58] ty #[.slice (some ⟨N,(i+1) *6,none⟩) (c - i) (awV - (i+1)),.slice (some ⟨g,i*6,none⟩) (c - i) (c - i)]).run prog W1.drew= .ok (goInt ((c - i:Nat):Int)) (W1.drew.setCells N ((i+1) *6) ((l.drop i).flatMap aT)):=fun ty=>by
  rw[PH W1.drew _ _ ty 64 6 N ((i+1) *6) _ _ ⟨g,i*6,none⟩ _ _ ((l.drop i).flatMap aT) underlying58 bt (by rw[gK,show Nat.min (c - i) (c - i)=c - i by simp only[min_def];split<;>omega]) (fun j v hj=>by
   have ti:j<(c - i) *6:=by rw[←gK];exact(qe.1 hj).1
   rw[Addr.add_lit];show W1.cell? _=_;rw[oP W1 g _ cur _ _ acb];rw[←C4 6 aT ij,List.getElem?_drop] at hj;rw[←hj,←ab5,ml,if_pos (by omega)];simp) (fun j hj=>(LH W1.drew ⟨ks,q1,by rw[q2,Iz]⟩ _ (by rw[gK] at hj;omega)).1) (fun j hj=>(LH W1.drew ⟨ks,q1,by rw[q2,Iz]⟩ _ (by rw[gK] at hj;omega)).2) (vw _),show Nat.min (c - i) (c - i)=c - i by simp only[min_def];split<;>omega]
 have cD:=amI (x:=x) (le_of_lt hi) hn amM ab6 LG Iz ab7;rw[oj] at cD;have amD:=Iy g c c i (i:Int) rfl (by omega) (by omega);have amE:=abX g c c i (i:Int) rfl (by omega);have abZ:=Iy N (c+1) awV i (i:Int) rfl (by omega) (by omega);have ab0:=Iy N (c+1) awV (i+1) ((i:Int)+1) (by omega) (by omega) (by omega);have Cf:c+1 - (i+1)=c - i:=by omega
 rw[Cf] at ab0;have fV:¬(i:Int)=(c:Int):=by omega
 have Ul:IntKind.i64.wrap ((c:Int)+1)=(c:Int)+1:=by rw[IntKind.wrap_i64];omega
 have l8:IntKind.i64.wrap ((i:Int)+1)=(i:Int)+1:=by rw[IntKind.wrap_i64];omega
 have amP:IntKind.i64.wrap ((c:Int)+1 - (i:Int))=(c:Int)+1 - (i:Int):=by rw[IntKind.wrap_i64];omega
 have Ex:(c:Int)<(c:Int)+1:=by omega
 have lL:Hid ((W1.drew.setCells N ((i+1) *6) ((l.drop i).flatMap aT)).ownsRow 0 64 6 (.slice (some ⟨N,0,none⟩) (c+1) awV) (c+1) ((l.take i++ [x]++l.drop i).flatMap aT)):=Z (cm cD (bP _));have acd:w.grownBy (W1.drew.setCells N ((i+1) *6) ((l.drop i).flatMap aT)) (some g):=by
  have h1:Below w w W1:=aM.trans (s_ km aM.size (fun k G=>by cases G;omega));have h2:Below w w W1.drew:=h1.drew;exact ju (h2.trans (s_ (qZ _ _ _ _:W1.drew.grownBy (W1.drew.setCells N ((i+1) *6) ((l.drop i).flatMap aT)) (some N)) h2.size (fun k G=>by cases G;omega)))
 have Uk:=Z acd;have kO:Hid (N=w.heap.size):=hN.symm;clear I ho hv ym dQ ab4 ab5 By amL g_ bo Jx iX gK hold hG PL Iz ab7 ab6 Ol LH LG aM ab9 oj q1 q2 km aca acb cD Cf acd hN hn hi cp lV cJ A8 bt;go_enter func111,ntmps111;go_wp2_with (first
  |(at_builtin;refine Lib.wpList_append_run _ rfl _ _ _ _ rfl _ _ rfl rfl _ _ (ab8 _) ?_)
  |(at_builtin;refine abV _ rfl _ _ 58 58 rfl (.slice (some ⟨N,i*6,none⟩) (c+1 - i) (awV - i)) (.slice (some ⟨vb,0,none⟩) 1 1) rfl rfl (amN _) ?_))
 go_region_law (refine abW rfl _ _ 58 58 rfl (.slice (some ⟨N,(i+1) *6,none⟩) (c - i) (awV - (i+1))) (.slice (some ⟨g,i*6,none⟩) (c - i) (c - i)) (by simp[Act.eval,Act.put]) (by simp[Act.eval,Act.put]) (amO _) ?_);go_wp2;exact HR.O N awV _ lL.O Uk.O kO.O
