/- A part of the proof of SessionPlays, printed small; no conditions of its own. -/
import Derived.Test.YtgimbocoamnkjaaGreatDoorM24
import Derived.Test.YtgimbocoamnkjaaGreatDoorM07
set_option maxRecDepth 100000
set_option maxHeartbeats 16000000
namespace Go.Proofs.YtgimbocoamnkjaaGreatDoor
open _root_.Go.Proofs.Tryz
open List (drop_eq_getElem_cons drop_of_length_le drop_zero)
open Go.RowKit
theorem amN(n:Int)(c:Nat)(hc:cW ⟨1,n,[],[],[]⟩=c)(w:World)(R:Ending→World→Prop)(hR:R (.returned (.int .i64 c)) w):
 Calls prog 183 #[.int .i64 1,.int .i64 n] w R:=by
 by_cases h:1<n
 ·obtain rfl:c=130:=by rw [←hc];unfold cW;rw [if_pos ⟨by show aO 1=1;decide,h⟩]
  clear hc;go_enter func183,ntmps183;go_wp2;exact hR
 ·obtain rfl:c=0:=by rw [←hc];unfold cW;rw [if_neg (fun hh=>h hh.2)];simp
  have hn:¬(1:Int)<n:=h;clear hc;go_enter func183,ntmps183;go_wp2;exact hR
theorem amO(n:Int)(c:Nat)(hc:cW ⟨23,n,[],[],[]⟩=c)(w:World)(R:Ending→World→Prop)(hR:R (.returned (.int .i64 c)) w):
 Calls prog 183 #[.int .i64 23,.int .i64 n] w R:=by
 by_cases h:1<n
 ·obtain rfl:c=130:=by rw [←hc];unfold cW;rw [if_pos ⟨by show aO 23=1;decide,h⟩]
  clear hc;go_enter func183,ntmps183;go_wp2;exact hR
 ·obtain rfl:c=0:=by rw [←hc];unfold cW;rw [if_neg (fun hh=>h hh.2)];simp
  have hn:¬(1:Int)<n:=h;clear hc;go_enter func183,ntmps183;go_wp2;exact hR
theorem amP(n:Int)(c:Nat)(hc:cW ⟨25,n,[],[],[]⟩=c)(w:World)(R:Ending→World→Prop)(hR:R (.returned (.int .i64 c)) w):
 Calls prog 183 #[.int .i64 25,.int .i64 n] w R:=by
 by_cases h:1<n
 ·obtain rfl:c=130:=by rw [←hc];unfold cW;rw [if_pos ⟨by show aO 25=1;decide,h⟩]
  clear hc;go_enter func183,ntmps183;go_wp2;exact hR
 ·obtain rfl:c=0:=by rw [←hc];unfold cW;rw [if_neg (fun hh=>h hh.2)];simp
  have hn:¬(1:Int)<n:=h;clear hc;go_enter func183,ntmps183;go_wp2;exact hR
theorem amQ(n:Int)(c:Nat)(hc:cW ⟨36,n,[],[],[]⟩=c)(w:World)(R:Ending→World→Prop)(hR:R (.returned (.int .i64 c)) w):
 Calls prog 183 #[.int .i64 36,.int .i64 n] w R:=by
 by_cases h:1<n
 ·obtain rfl:c=130:=by rw [←hc];unfold cW;rw [if_pos ⟨by show aO 36=1;decide,h⟩]
  clear hc;go_enter func183,ntmps183;go_wp2;exact hR
 ·obtain rfl:c=0:=by rw [←hc];unfold cW;rw [if_neg (fun hh=>h hh.2)];simp
  have hn:¬(1:Int)<n:=h;clear hc;go_enter func183,ntmps183;go_wp2;exact hR
theorem amR(n:Int)(c:Nat)(hc:cW ⟨37,n,[],[],[]⟩=c)(w:World)(R:Ending→World→Prop)(hR:R (.returned (.int .i64 c)) w):
 Calls prog 183 #[.int .i64 37,.int .i64 n] w R:=by
 by_cases h:1<n
 ·obtain rfl:c=130:=by rw [←hc];unfold cW;rw [if_pos ⟨by show aO 37=1;decide,h⟩]
  clear hc;go_enter func183,ntmps183;go_wp2;exact hR
 ·obtain rfl:c=0:=by rw [←hc];unfold cW;rw [if_neg (fun hh=>h hh.2)];simp
  have hn:¬(1:Int)<n:=h;clear hc;go_enter func183,ntmps183;go_wp2;exact hR
theorem amS(n:Int)(c:Nat)(hc:cW ⟨40,n,[],[],[]⟩=c)(w:World)(R:Ending→World→Prop)(hR:R (.returned (.int .i64 c)) w):
 Calls prog 183 #[.int .i64 40,.int .i64 n] w R:=by
 by_cases h:1<n
 ·obtain rfl:c=130:=by rw [←hc];unfold cW;rw [if_pos ⟨by show aO 40=1;decide,h⟩]
  clear hc;go_enter func183,ntmps183;go_wp2;exact hR
 ·obtain rfl:c=0:=by rw [←hc];unfold cW;rw [if_neg (fun hh=>h hh.2)];simp
  have hn:¬(1:Int)<n:=h;clear hc;go_enter func183,ntmps183;go_wp2;exact hR
theorem amT(n:Int)(c:Nat)(hc:cW ⟨41,n,[],[],[]⟩=c)(w:World)(R:Ending→World→Prop)(hR:R (.returned (.int .i64 c)) w):
 Calls prog 183 #[.int .i64 41,.int .i64 n] w R:=by
 by_cases h:1<n
 ·obtain rfl:c=130:=by rw [←hc];unfold cW;rw [if_pos ⟨by show aO 41=1;decide,h⟩]
  clear hc;go_enter func183,ntmps183;go_wp2;exact hR
 ·obtain rfl:c=0:=by rw [←hc];unfold cW;rw [if_neg (fun hh=>h hh.2)];simp
  have hn:¬(1:Int)<n:=h;clear hc;go_enter func183,ntmps183;go_wp2;exact hR
theorem amU(n:Int)(c:Nat)(hc:cW ⟨42,n,[],[],[]⟩=c)(w:World)(R:Ending→World→Prop)(hR:R (.returned (.int .i64 c)) w):
 Calls prog 183 #[.int .i64 42,.int .i64 n] w R:=by
 by_cases h:1<n
 ·obtain rfl:c=130:=by rw [←hc];unfold cW;rw [if_pos ⟨by show aO 42=1;decide,h⟩]
  clear hc;go_enter func183,ntmps183;go_wp2;exact hR
 ·obtain rfl:c=0:=by rw [←hc];unfold cW;rw [if_neg (fun hh=>h hh.2)];simp
  have hn:¬(1:Int)<n:=h;clear hc;go_enter func183,ntmps183;go_wp2;exact hR
theorem Sv{P:Prop}(h:P:=by
 obtain rfl:c=130:=by rw [←hc];decide
 clear hc;go_enter func183,ntmps183;go_wp2;exact hR):P:=h
theorem amV(n:Int)(c:Nat)(hc:cW ⟨11,n,[],[],[]⟩=c)(w:World)(R:Ending→World→Prop)(hR:R (.returned (.int .i64 c)) w):
 Calls prog 183 #[.int .i64 11,.int .i64 n] w R:=by
 by_cases h:n=0
 ·subst h;exact Sv
 ·obtain rfl:c=0:=by
   rw [←hc];unfold cW;have hk:aO 11≠1:=by decide
   simp [hk,h]
  clear hc;go_enter func183,ntmps183;go_wp2;exact hR
theorem amW(n:Int)(c:Nat)(hc:cW ⟨33,n,[],[],[]⟩=c)(w:World)(R:Ending→World→Prop)(hR:R (.returned (.int .i64 c)) w):
 Calls prog 183 #[.int .i64 33,.int .i64 n] w R:=by
 by_cases h:n=0
 ·subst h;exact Sv
 ·obtain rfl:c=0:=by
   rw [←hc];unfold cW;have hk:aO 33≠1:=by decide
   simp [hk,h]
  clear hc;go_enter func183,ntmps183;go_wp2;exact hR
theorem amX(n:Int)(c:Nat)(hc:cW ⟨39,n,[],[],[]⟩=c)(w:World)(R:Ending→World→Prop)(hR:R (.returned (.int .i64 c)) w):
 Calls prog 183 #[.int .i64 39,.int .i64 n] w R:=by
 by_cases h:n=0
 ·subst h;exact Sv
 ·obtain rfl:c=0:=by
   rw [←hc];unfold cW;have hk:aO 39≠1:=by decide
   simp [hk,h]
  clear hc;go_enter func183,ntmps183;go_wp2;exact hR
theorem amY(n:Int)(c:Nat)(hc:cW ⟨35,n,[],[],[]⟩=c)(w:World)(R:Ending→World→Prop)(hR:R (.returned (.int .i64 c)) w):
 Calls prog 183 #[.int .i64 35,.int .i64 n] w R:=by
 by_cases h:n=0
 ·subst h;obtain rfl:c=148:=by rw [←hc];decide
  clear hc;go_enter func183,ntmps183;go_wp2;exact hR
 ·obtain rfl:c=0:=by
   rw [←hc];unfold cW;have hk:aO 35≠1:=by decide
   simp [hk,h]
  clear hc;go_enter func183,ntmps183;go_wp2;exact hR
theorem amZ(p:Pr):cW p=cW ⟨p.id,p.num,[],[],[]⟩:=rfl
theorem MO(id n:Int)(c:Nat)(hc:cW ⟨id,n,[],[],[]⟩=c)(w:World)(R:Ending→World→Prop)(hR:R (.returned (.int .i64 c)) w):
 Calls prog 183 #[.int .i64 id,.int .i64 n] w R:=by
 by_cases h1:id=1
 ·subst h1;exact amN n c hc w R hR
 by_cases h11:id=11
 ·subst h11;exact amV n c hc w R hR
 by_cases h23:id=23
 ·subst h23;exact amO n c hc w R hR
 by_cases h25:id=25
 ·subst h25;exact amP n c hc w R hR
 by_cases h33:id=33
 ·subst h33;exact amW n c hc w R hR
 by_cases h35:id=35
 ·subst h35;exact amY n c hc w R hR
 by_cases h36:id=36
 ·subst h36;exact amQ n c hc w R hR
 by_cases h37:id=37
 ·subst h37;exact amR n c hc w R hR
 by_cases h39:id=39
 ·subst h39;exact amX n c hc w R hR
 by_cases h40:id=40
 ·subst h40;exact amS n c hc w R hR
 by_cases h41:id=41
 ·subst h41;exact amT n c hc w R hR
 by_cases h42:id=42
 ·subst h42;exact amU n c hc w R hR
 obtain rfl:c=0:=by
  rw [←hc];have hk:aO id≠1:=by
   unfold aO;simp only [h1,h23,h25,h36,h37,h40,h41,h42,or_self,if_false]
   repeat' split
   all_goals omega
  unfold cW;simp [hk,h11,h33,h39,h35]
 clear hc;go_enter func183,ntmps183;go_wp2;exact hR
theorem MP(id:Int)(v:Value)(l:List Pr)(p:Pr)(q:Bool)(hp:(lX id l).getD kU=p)(hq:(lX id l).isSome=q)(w:World)(hv:Ps w v l)(R:Ending→World→Prop)
 (hR:∀a c w',PC w' (.slice a p.data.length c) p→Below w w w'→R (.returned (.tuple #[.agg (dB p a c),.bool q])) w'):
 Calls prog 182 #[.int .i64 id,v] w R:=by
 have HR:=ab hR;have HV:=ab hv;have b7:Hid ((lX id (l.drop 0)).getD kU=p∧(lX id (l.drop 0)).isSome=q):=by rw [drop_zero];exact ab ⟨hp,hq⟩
 clear hR hp hq;obtain ⟨va,vc,rfl,_⟩:=hv;have hb:Below w w (w.alloc (Obj.cells hZ 147)):=(Below.refl _ _).alloc (Nat.le_refl _) _;have HB:=ab hb;clear hb;go_enter func182,ntmps182;go_wp2;go_loop [6] (fun i=>∃k:Nat,k≤l.length∧i= .int .i64 k∧Hid ((lX id (l.drop k)).getD kU=p∧(lX id (l.drop k)).isSome=q)) (fun i=>l.length - (intOf i).toNat)
 case atStart=>exact ⟨0,Nat.zero_le _,rfl,b7⟩
 case round=>
  obtain ⟨k,hk,rfl,HS⟩:=hrel;by_cases ao:k<l.length
  ·have bd:(k:Int)<(l.length:Int):=by omega
   obtain ⟨Cy,Cz,ee,_,_,_,v4⟩:=HV.o_.below HB.o_;simp only [Value.slice.injEq] at ee;obtain ⟨rfl,-,rfl⟩:=ee;obtain ⟨vb,vo,rfl,v5⟩:=v4 (by omega);obtain ⟨d0,⟨p0,p1,p2,p3,p4⟩,gC⟩:=v5 k ao;obtain ⟨y,hy⟩:=ai (l[k]);rw [hy] at p0 p1 p2 p3 gC;have CA:=HS.o_;rw [drop_eq_getElem_cons ao,hy,lX,List.find?_cons] at CA;obtain ⟨d1,d3,rfl⟩:∃a c,d0= .slice a y.data.length c:=by obtain ⟨a,c,h,_⟩:=gC.hd;exact ⟨_,_,h⟩
   have jo:=ab CA;have am0:Hid (PC w (.slice d1 y.data.length d3) y):=by
    obtain ⟨wa,wc,we,_,_,_,w4⟩:=HV.o_;simp only [Value.slice.injEq] at we;obtain ⟨rfl,-,rfl⟩:=we;obtain ⟨wb,wo,aas,w5⟩:=w4 (by omega);simp only [Option.some.injEq,Addr.mk.injEq] at aas;obtain ⟨rfl,rfl,-⟩:=aas;obtain ⟨e0,⟨_,_,_,_,r4⟩,uR⟩:=w5 k ao;rw [hy] at uR;have h9:=cell_later HB.o_ r4;rw [p4] at h9;obtain rfl:=Option.some.inj h9;exact ab uR
   clear v4 v5 hy CA gC HS;by_cases hid:y.id=id
   ·have CB:y=p∧true=q:=by
     have:=jo.o_;rw [decide_eq_true hid] at this;exact this
    obtain ⟨rfl,rfl⟩:=CB;clear jo;subst hid;go_wp2;refine bodyPost_ret (Ka rfl _ _ w 147 (dB y d1 d3) (0,0) _ (Value.bool true) rfl rfl (heap_alloc_new w _) underlying147 rfl (by kernel_rfl)) rfl ?_;exact HR.o_ _ _ _ (am0.o_.below ((Below.refl _ _).alloc (Nat.le_refl _) _)) ((Below.refl _ _).alloc (Nat.le_refl _) _)
   ·have rC:Hid ((lX id (l.drop (k+1))).getD kU=p∧(lX id (l.drop (k+1))).isSome=q):=by
     have:=jo.o_;rw [decide_eq_false hid] at this;exact this
    clear jo;go_wp2;go_round
    case rel=>exact ⟨k+1,by omega,by go_num,rC⟩
    case measure=>simp [intOf];omega
  ·have bd:¬(k:Int)<(l.length:Int):=by omega
   have CB:kU=p∧false=q:=by
    have:=HS.o_;rw [drop_of_length_le (by omega)] at this;exact this
   obtain ⟨rfl,rfl⟩:=CB;clear HS;go_wp2;refine bodyPost_ret (Ka rfl _ _ w 147 hZ (0,0) _ (Value.bool false) rfl rfl (heap_alloc_new w _) underlying147 rfl (by kernel_rfl)) rfl ?_;exact HR.o_ _ _ _ ⟨Cw _,by simp [kU],by simp [kU],by simp [kU],by simp [kU],by simp [kU],by simp [kU],by simp [kU]⟩ HB.o_
open Bool (and_eq_true)
variable{id wh:Int}{p:Pr}
def iQ(p:Pr):List UInt8×Bool:=
 if aO p.id=1 then (dE (u64 p.num) 1,decide (0≤p.num∧p.num<256))
 else if aO p.id=2 then (dE (u64 p.num) 2,decide (0≤p.num∧p.num<65536))
 else if aO p.id=3 then (dE (u64 p.num) 4,decide (0≤p.num∧p.num<4294967296))
 else if aO p.id=4 then ((dG p.num).1,decide ((dG p.num).2=0))
 else if aO p.id=5 then ((b5 p.text).1,decide ((b5 p.text).2=0))
 else if aO p.id=6 then ((cS p.data).1,decide ((cS p.data).2=0))
 else if aO p.id=7 then ((b5 p.text).1++(b5 p.pair).1,decide ((b5 p.text).2=0∧(b5 p.pair).2=0))
 else ([],false)
theorem am1(p:Pr):(iQ p).1=ff p:=by
 unfold iQ ff
 repeat' split
 all_goals first|rfl|contradiction
def qE(p:Pr):Bool:=decide (1≤p.id∧p.id≤127)&&(iQ p).2
theorem am2(h:qE p=true):bV p=b8 p.id::ff p:=by
 unfold qE at h;rw [and_eq_true,decide_eq_true_eq] at h;obtain ⟨n,hn⟩:∃n:Nat,p.id=(n:Int):=⟨p.id.toNat,by omega⟩
 rw [lW,hn,zu n (by omega)];show mz 3 n++_=_;rw [EC 3 n (by omega)]
 rfl
def tk(l:List Pr):List UInt8×Bool:=
 if l.all qE=true then ((dG ((l.flatMap bV).length:Int)).1++l.flatMap bV,decide ((dG ((l.flatMap bV).length:Int)).2=0)) else ([],false)
def I3(wh:Int)(l:List Pr):List UInt8×Nat:=
 if (tk l).2=false then ([],129)
 else if nk wh (tk l).1=(l,((tk l).1.length:Int),0) then ((tk l).1,0) else ([],129)
theorem am3(id:Int)(h:tF id≠0):1≤id∧id≤42:=by
 by_cases hc:1≤id∧id≤42
 ·exact hc
 ·refine absurd ?_ h;unfold tF;rw [if_neg (by omega),if_neg (by omega),if_neg (by omega),if_neg (by omega),if_neg (by omega),if_neg (by omega),if_neg (by omega),if_neg (by omega),if_neg (by omega),if_neg (by omega),if_neg (by omega),if_neg (by omega)]
theorem am4(h:bR id wh=true):1≤id∧id≤42:=by
 refine am3 id fun h0=> ?_;unfold bR at h;rw [h0] at h;cases h
theorem am5(h:Ct p)(hm:bR p.id wh=true):qE p=true:=by
 have hr:=am4 hm;have hk:=Oz hm;unfold qE;rw [and_eq_true];refine ⟨decide_eq_true ⟨by omega,by omega⟩,?_⟩;have n0:=h.n0;have n1:=h.n1;obtain ⟨n,hn⟩:∃n:Nat,p.num=(n:Int):=⟨p.num.toNat,by omega⟩
 unfold iQ;rcases Gd p.id with e|e|e|e|e|e|e|e
 ·exact absurd e hk
 ·rw [if_pos e];exact decide_eq_true ⟨n0,h.k1 e⟩
 ·rw [if_neg (by omega),if_pos e];exact decide_eq_true ⟨n0,h.k2 e⟩
 ·rw [if_neg (by omega),if_neg (by omega),if_pos e];exact decide_eq_true ⟨n0,n1⟩
 ·have h4:=h.k4 e;rw [if_neg (by omega),if_neg (by omega),if_neg (by omega),if_pos e,hn,zu n (by omega)]
  rfl
 ·rw [if_neg (by omega),if_neg (by omega),if_neg (by omega),if_neg (by omega),if_pos e,wE _ h.lt h.tt]
  rfl
 ·rw [if_neg (by omega),if_neg (by omega),if_neg (by omega),if_neg (by omega),if_neg (by omega),if_pos e,J' _ h.ld]
  rfl
 ·rw [if_neg (by omega),if_neg (by omega),if_neg (by omega),if_neg (by omega),if_neg (by omega),if_neg (by omega),if_pos e,wE _ h.lt h.tt,wE _ h.lp h.tp]
  rfl
theorem am6(wh:Int)(l:List Pr):I3 wh l=eP wh l:=by
 by_cases iW:l.all qE=true
 ·have e:tk l=((dG ((l.flatMap bV).length:Int)).1++l.flatMap bV,decide ((dG ((l.flatMap bV).length:Int)).2=0)):=by unfold tk;rw [if_pos iW]
  unfold I3 eP;rw [e];obtain ⟨⟨V,er⟩,hV⟩:∃r,dG ((l.flatMap bV).length:Int)=r:=⟨_,rfl⟩
  rw [hV];simp only;by_cases h0:er=0
  ·have h1:¬(decide (er=0)=false):=by rw [decide_eq_true h0];simp
   have h2:¬(er≠0):=fun h=>h h0;rw [if_neg h1,if_neg h2]
  ·rw [if_pos (decide_eq_false h0),if_pos h0]
 ·have e:tk l=([],false):=by unfold tk;rw [if_neg iW]
  have e2:I3 wh l=([],129):=by unfold I3;rw [e];rfl
  rw [e2];obtain ⟨⟨x,c⟩,hx⟩:∃r,eP wh l=r:=⟨_,rfl⟩
  rw [hx];by_cases hc:c=0
  ·subst hc;obtain ⟨n,_,_,_,hr⟩:=U3 hx;obtain ⟨_,_,_,_,_,_,_,_,_,h8,_⟩:=Ou hr;refine absurd (List.all_eq_true.2 fun p hp=> ?_) iW;obtain ⟨g1,g2,_⟩:=h8 p hp;exact am5 g1 g2
  ·obtain ⟨rfl,rfl⟩:=adL hx hc
   rfl
theorem am7(id:Int)(hk:aO id≠0)(v:Value)(b:List UInt8)(p:Pr)(u:Int)(hr:dL id b=some (p,u))(w:World)(hv:Bs w v b)(R:Ending→World→Prop)
 (hR:∀d w',w'.ownsRow w 5 1 d p.data.length (bv p.data)→Below w w w'→R (.returned (.tuple #[.agg (bz p d),.int .i64 u,.bool true])) w'):
 Calls prog 181 #[.int .i64 id,v] w R:=by
 refine aar id hk v b _ hr w hv R (fun p' u' d w' h h1 h2=> ?_) (fun n s t a m c u q w' h=>by cases h);simp only [Option.some.injEq,Prod.mk.injEq] at h;obtain ⟨rfl,rfl⟩:=h;exact hR d w' h1 h2
theorem am8(id:Int)(hk:aO id≠0)(v:Value)(b:List UInt8)(hr:dL id b=none)(w:World)(hv:Bs w v b)(R:Ending→World→Prop)
 (hF:∀n s t a m c u w',Below w w w'→R (.returned (.tuple #[.agg #[.int .i64 id,.int .i64 n,.string s,.string t,.slice a m c],.int .i64 u,.bool false])) w'):
 Calls prog 181 #[.int .i64 id,v] w R:=by
 refine aar id hk v b _ hr w hv R (fun p' u' d w' h=>by cases h) (fun n s t a m c u q w' h hq h1=> ?_);subst hq;exact hF n s t a m c u w' h1
theorem aat{P:Prop}(h:P:=by
 go_wp2_with (first
  |(go_at_call 179;go_must (refine wB _ b' X Y 0 DX.o_ _ (cK.o_.below hb) _ ?_))|(go_at_call 180;go_must (refine FG X wh true HM.o_ _ _ ?_);intro w1 qP;have aI:=aD hb qP hb.size)|(go_at_call 181;go_must (refine oU.o_ _ _ (I4.o_.below aI) ?_);intro dv w2 ct ah;obtain ⟨dY,dZ,rfl⟩:=bF ct;have xJ:=br qP ah;have nb:=heap_alloc_new w2 (Obj.cells (dB p' dY dZ) 147);have an:=(Below.refl w2 w2).alloc (Nat.le_refl _) (Obj.cells (dB p' dY dZ) 147);have sK:=br xJ an;have eH:=ab (bN (gF:=wo.heap.size) (aK ct an) qP.size);have NB:=ab nb;clear ct ah an nb)|(go_at_call 182;have nb:=NB;go_must (refine MP X _ l' fp true od.o_ qQ.o_ _ ((dn.o_.ps fU.o_).below sK) _ ?_);intro fa fc w4 DY ak;have lO:=ak.alloc ak.size (Obj.cells (dB fp fa fc) 147);have dW:=br sK lO;have bp:=aD hb dW hb.size;have n5:=bT nb.o_ lO;obtain ⟨oV,oW,oX,oY,oZ,pd,pf,pg,ph,pj⟩:=c5 n5;have iy:=ab (aK eH.o_ lO);clear DY ak lO n5 nb NB eH;(have gz:=aK aU.o_ dW;have bG:=cO (w4.alloc (Obj.cells (dB fp fa fc) 147)) (dB p' dY dZ) 147 5 1 rfl;rw [show (w4.alloc (Obj.cells (dB fp fa fc) 147)).heap.size=w4.heap.size+1 by simp] at bG))|(go_at_call 183;go_must (refine MO X p'.num _ vB.o_ _ _ ?_))
  |(at_builtin;go_must (refine j9 (by rfl) (.tmp 98) (.tmp 100) 32 (by rfl) w 147 (.agg hZ) 5 72 underlying32 Tryz.xP rfl (by decide) _ _ _ _ rfl (World.ownsRow.alloc gz _) _ _ _ _ rfl bG (zg _ _ _) (by simp) (by unfold maxLen;omega) (by omega) (Nat.le_trans bp.size (by simp)) ?_)))
 intro fM c6 w6 dt bI;have lD:eF 5 (w4.alloc (Obj.cells (dB fp fa fc) 147)) w6:=(eF.below ((Below.refl _ _).alloc (Nat.le_refl _) _)).trans (eF.Ek (gz.alloc _) bI (by decide));have zA:Below w w w6:=bC (bp.alloc bp.size _) bI (Nat.le_trans bp.size (by simp)) (gz.alloc _);have ju:∀v∈ds,fR v (.slice dY p'.data.length dZ):=by
  intro v hv k hk hc;obtain ⟨i,hi,rfl⟩:=List.getElem_of_mem hv;have h1:=((yl.o_ i (by rw [←yk.o_];exact hi)).lt k hk).2;have h2:=(iy.o_.lt k hc).1
  omega
 have wI:cZ w6 w.heap.size (.slice fM (l'.length+1) c6) (l'++ [p']):=cZ.push yk.o_ (fun i hi=>aK (yl.o_ i hi) dW) lD dt (bN iy.o_ hb.size) uQ.o_ ju;have CQ:=ab wI;have Gp:Hid (∀q∈l'++ [p'],PB q):=ab fun q hq=>by
  rcases List.mem_append.1 hq with h|h
  ·exact fU.o_ q h
  ·obtain rfl:=List.mem_singleton.1 h;exact OD.o_
 clear wI ju lD dt bI gz bG bp dW;go_wp2;go_roundg (b'.drop (Y+um)).length
 case measure=>rw [List.length_drop];omega
 case rel=>exact ⟨f',l'++ [p'],b'.drop (Y+um),Le,rc - (Y+um),by rw [List.length_drop];omega,rfl,by rw [List.length_drop],ab (by have:=CP.o_;rw [List.length_append,List.length_drop];simp;omega),CQ,Gp,by rw [List.length_drop];exact aau,zA,Ke⟩):P:=h
theorem MQ{P:Prop}(h:P:=by
 go_wp2_with (first
  |(go_at_call 179;go_must (refine wB _ b' X Y 0 DX.o_ _ (cK.o_.below hb) _ ?_))|(go_at_call 180;go_must (refine FG X wh true HM.o_ _ _ ?_);intro w1 qP;have aI:=aD hb qP hb.size)|(go_at_call 181;go_must (refine oU.o_ _ _ (I4.o_.below aI) ?_);intro dv w2 ct ah;obtain ⟨dY,dZ,rfl⟩:=bF ct;have xJ:=br qP ah;have nb:=heap_alloc_new w2 (Obj.cells (dB p' dY dZ) 147);have an:=(Below.refl w2 w2).alloc (Nat.le_refl _) (Obj.cells (dB p' dY dZ) 147);have sK:=br xJ an;have eH:=ab (bN (gF:=wo.heap.size) (aK ct an) qP.size);have NB:=ab nb;clear ct ah an nb)|(go_at_call 182;have nb:=NB;go_must (refine MP X _ l' fp true od.o_ qQ.o_ _ ((dn.o_.ps fU.o_).below sK) _ ?_);intro fa fc w4 DY ak;have lO:=ak.alloc ak.size (Obj.cells (dB fp fa fc) 147);have dW:=br sK lO;have bp:=aD hb dW hb.size;have n5:=bT nb.o_ lO;obtain ⟨oV,oW,oX,oY,oZ,pd,pf,pg,ph,pj⟩:=c5 n5;have iy:=ab (aK eH.o_ lO);clear DY ak lO n5 nb NB eH;skip)|(go_at_call 183;go_must (refine MO X p'.num _ vB.o_ _ _ ?_)))
 try go_ret3
 exact qb.o_ _ bp):P:=h
theorem MR(wh:Int)(v:Value)(b:List UInt8)(out:List Pr)(used:Int)(c:Nat)(h:nk wh b=(out,used,c))(eV:b.length≤100000000)(w:World)(hv:Bs w v b)(hT:di w)(R:Ending→World→Prop)
 (hR:∀ad cc w',cZ w' w.heap.size (.slice ad out.length cc) out→Below w w w'→R (.returned (.tuple #[.slice ad out.length cc,.int .i64 used,.int .i64 c])) w'):
 Calls prog 163 #[.int .i64 wh,v] w R:=by
 have HR:=ab hR;have HV:=ab hv;have HT:=ab hT;obtain ⟨va,vc,rfl,_,EK,Ge,_⟩:=_root_.id hv;obtain ⟨⟨n,y,z⟩,hg⟩:∃g,dg b=g:=⟨_,rfl⟩
 unfold nk at h;rw [hg] at h;simp only at h;have HG:=ab hg;clear hR hv hT;by_cases hz:z≠0
 ·rw [if_pos (.inl hz)] at h;simp only [Prod.mk.injEq] at h;obtain ⟨rfl,rfl,rfl⟩:=h;have OA:¬(z:Int)=0:=by omega
  clear hg;go_enter func163,ntmps163;go_wp2_with (go_at_call 179;go_must (refine wB _ b n y z HG.o_ _ HV.o_ _ ?_))
  try go_ret3
  exact HR.o_ none 0 _ (cZ.nil _ _) (Below.refl _ _)
 ·have j2:z=0:=by omega
  subst j2;obtain ⟨aeA,je,_⟩:=A6 b n y hg;clear hg;by_cases wm:b.length<n+y
  ·rw [if_pos (.inr wm)] at h;simp only [Prod.mk.injEq] at h;obtain ⟨rfl,rfl,rfl⟩:=h;have OE:(b.length:Int) - (y:Int)<(n:Int):=by omega
   go_enter func163,ntmps163;go_wp2_with (go_at_call 179;go_must (refine wB _ b n y 0 HG.o_ _ HV.o_ _ ?_))
   try go_ret3
   exact HR.o_ none 0 _ (cZ.nil _ _) (Below.refl _ _)
  ·rw [if_neg (by simpa using wm)] at h;have OE:¬((b.length:Int) - (y:Int)<(n:Int)):=by omega
   obtain ⟨⟨o2,c2⟩,hF⟩:∃o,nY n wh [] ((b.drop y).take n)=o:=⟨_,rfl⟩
   rw [hF] at h;simp only at h;have HF:=ab hF;have HH:=ab h;obtain ⟨La,df,bX⟩:=Va (lo:=y) (hi:=y+n) HV.o_ (by omega) (by omega);rw [Nat.add_sub_cancel_left] at bX;have oe:∀w',(Instr.slice 22 (.slice va b.length vc) (some (.int .i64 (y:Int))) (some (.int .i64 ((y:Int)+(n:Int)))) none).run prog w'= .ok (.slice La n (vc - y)) w':=by
    exact Vt
   have aL:(b.take (y+n)).drop y=(b.drop y).take n:=by rw [List.drop_take,Nat.add_sub_cancel_left]
   rw [aL] at bX;have Gn:((b.drop y).take n).length=n:=by rw [List.length_take,List.length_drop];omega
   have eZ:=ab bX;have mA:=ab Gn;clear h hF df bX aL Gn;go_enter func163,ntmps163;go_wp2_with (go_at_call 179;go_must (refine wB _ b n y 0 HG.o_ _ HV.o_ _ ?_));clear oe;go_loopg [10,11] n (fun gn rest L wr=>∃(f:Nat)(l':List Pr)(b':List UInt8)(ra:Option Addr)(rc:Nat),b'.length≤f∧gn=b'.length∧rest= .slice ra b'.length rc∧Hid (l'.length+b'.length≤b.length)∧Hid (cZ wr w.heap.size L l')∧Hid (∀p∈l',PB p)∧Hid (Bs w (.slice ra b'.length rc) b')∧Below w w wr∧Hid (nY f wh l' b'=(o2,c2)))
   case atStart=>
    exact Vu
   case round=>
    obtain ⟨f,l',b',ra,rc,hf,rfl,rfl,CP,dn,fU,cK,hb,rI⟩:=hrel;obtain ⟨wo,rfl⟩:∃x,x=wr:=⟨_,rfl⟩
    obtain ⟨aeB,Lc,rfl⟩:=cZ.shape dn.o_;have Ev:=hb.size;by_cases sq:0<b'.length
    ·have aeC:(0:Int)<(b'.length:Int):=by omega
     obtain ⟨f',rfl⟩:∃f',f=f'+1:=⟨f - 1,by omega⟩
     have bh:b'≠ []:=fun hc=>by rw [hc] at sq;simp at sq
     have gD:=rI.o_;unfold nY at gD;rw [if_neg bh] at gD;obtain ⟨⟨sc,p,m⟩,hs⟩:∃s,oT wh l' b'=s:=⟨_,rfl⟩
     rw [hs] at gD;simp only at gD;have jA:=hs;unfold oT at hs;obtain ⟨⟨X,Y,Z⟩,hg⟩:∃g,dg b'=g:=⟨_,rfl⟩
     rw [hg] at hs;simp only at hs;have DX:=ab hg;have jB:sc≠0→(o2= []∧c2=sc)∧∀w',Below w w w'→R (.returned (.tuple #[.slice none 0 0,.int .i64 0,.int .i64 sc])) w':=by
      intro rF;rw [if_pos rF] at gD;simp only [Prod.mk.injEq] at gD;refine ⟨⟨gD.1.symm,gD.2.symm⟩,fun w' am9=> ?_⟩;have hh:=HH.o_;rw [←gD.2,if_pos rF] at hh;simp only [Prod.mk.injEq] at hh;obtain ⟨rfl,rfl,rfl⟩:=hh;exact HR.o_ none 0 _ (cZ.nil _ _) am9
     by_cases hz:Z≠0
     ·rw [if_pos (.inl hz)] at hs;simp only [Prod.mk.injEq] at hs;obtain ⟨rfl,rfl,rfl⟩:=hs;have qb:=ab (jB (by omega)).2;have OA:¬(Z:Int)=0:=by omega
      clear hg jA gD jB rI HH HF bh;go_wp2_with (go_at_call 179;go_must (refine wB _ b' X Y Z DX.o_ _ (cK.o_.below hb) _ ?_))
      try go_ret3
      exact qb.o_ _ hb
     ·have j2:Z=0:=by omega
      subst j2;obtain ⟨_,ana,_⟩:=A6 b' X Y hg;obtain ⟨mm,hm⟩:=ai (bR (X:Int) wh);rw [hm] at hs;have HM:=ab hm;cases mm with
      |false=>
       simp only [ne_eq,not_true_eq_false,or_true,if_true,Prod.mk.injEq] at hs;obtain ⟨rfl,rfl,rfl⟩:=hs;have qb:=ab (jB (by omega)).2;clear hg jA gD jB rI HH HF bh hm;go_wp2_with (first
        |(go_at_call 179;go_must (refine wB _ b' X Y 0 DX.o_ _ (cK.o_.below hb) _ ?_))
        |(go_at_call 180;go_must (refine FG X wh false HM.o_ _ _ ?_);intro w1 aw;have aI:=aD hb aw hb.size))
       try go_ret3
       exact qb.o_ _ aI
      |true=>
       simp only [ne_eq,not_true_eq_false,Bool.true_eq_false,or_false,if_false] at hs;have dM:aO (X:Int)≠0:=Oz hm;have Gf:=ab dM;obtain ⟨Lb,arx,aav⟩:=EH cK.o_ ana;have I4:=ab aav;obtain ⟨fp,Gg⟩:=ai ((lX X l').getD kU);obtain ⟨fq,tI⟩:=ai ((lX X l').isSome);have A8:wD X l'=fq:=by rw [←tI];exact (Vk X l').symm
       rw [A8] at hs;have od:=ab Gg;have qQ:=ab tI;clear Gg tI A8 dM aav hm;obtain ⟨r,hr⟩:=ai (dL (X:Int) (b'.drop Y));rw [hr] at hs;cases r with
       |none=>
        simp only [Prod.mk.injEq] at hs;obtain ⟨rfl,rfl,rfl⟩:=hs;have qb:=ab (jB (by omega)).2;have Gh:∀w' R,Bs w' (Value.slice Lb (b'.length - Y) (rc - Y)) (b'.drop Y)→_→Calls prog 181 #[.int .i64 X,Value.slice Lb (b'.length - Y) (rc - Y)] w' R:=fun w' R h1 h3=>am8 X Gf.o_ _ _ hr w' h1 R h3;have oU:=ab Gh;clear hg jA gD jB rI HH HF bh hr Gh;go_wp2_with (first
         |(go_at_call 179;go_must (refine wB _ b' X Y 0 DX.o_ _ (cK.o_.below hb) _ ?_))
         |(go_at_call 180;go_must (refine FG X wh true HM.o_ _ _ ?_);intro w1 aw;have aI:=aD hb aw hb.size)
         |(go_at_call 181;go_must (refine oU.o_ _ _ (I4.o_.below aI) ?_);intro vn vs vt Gi vm Gj vu w2 ah;have bn:=aD aI ah aI.size))
        try go_ret3
        exact qb.o_ _ (bn.alloc bn.size _)
       |some pm=>
        obtain ⟨p',m'⟩:=pm;simp only at hs;obtain ⟨um,rfl,Gk,EL,_,A_,_⟩:=Oo hr;rw [List.length_drop] at Gk;have Gl:∀w' R,Bs w' (Value.slice Lb (b'.length - Y) (rc - Y)) (b'.drop Y)→_→Calls prog 181 #[.int .i64 X,Value.slice Lb (b'.length - Y) (rc - Y)] w' R:=fun w' R h1 h3=>am7 X Gf.o_ _ _ p' um hr w' h1 R h3;have oU:=ab Gl;obtain ⟨nn,lf⟩:=ai (cW p');have aaw:cW ⟨X,p'.num,[],[],[]⟩=nn:=by rw [←lf,amZ p',EL]
        have vB:=ab aaw;have Vr:=ab EL;have anb:=ab A_;have anc:Y+um≤b'.length:=by omega
        obtain ⟨Le,aax,aay⟩:=EH cK.o_ anc;have ary:∀w',(Instr.slice 22 (.slice ra b'.length rc) (some (.int .i64 ((Y:Int)+(um:Int)))) none none).run prog w'= .ok (.slice Le (b'.length - (Y+um)) (rc - (Y+um))) w':=by
         intro w';have:=aax w';rw [show (Y:Int)+(um:Int)=((Y+um:Nat):Int) by omega];exact this
        have aau:=ab aay;have arz:(Y:Int)+(um:Int)≤100000000:=by have:=CP.o_;omega
        have arA:l'.length+1≤100000000:=by have:=CP.o_;omega
        clear Gl hr A_ EL aaw aax aay Gk;have I5:nj (X:Int) wh=(!((X:Int) != 38) || (((X:Int)==11)&&(wh==3))):=by
         unfold nj;by_cases a1:(X:Int)=38
         ·simp [a1]
         ·by_cases a2:(X:Int)=11∧wh=3
          ·simp [a2]
          ·have:¬((X:Int)=38∨(X:Int)=11∧wh=3):=fun h=>h.elim a1 a2;rw [decide_eq_false this];by_cases a3:(X:Int)=11
           ·have a4:¬wh=3:=fun h=>a2 ⟨a3,h⟩;simp [a3,a4]
           ·simp [a1,a3]
        obtain ⟨I6,h38⟩:∃q,((X:Int) != 38)=q:=⟨_,rfl⟩
        obtain ⟨I7,h11⟩:∃q,((X:Int)==11)=q:=⟨_,rfl⟩
        obtain ⟨q3,h3⟩:∃q,(wh==3)=q:=⟨_,rfl⟩
        rw [h38,h11,h3] at I5;rw [I5] at hs;have DT:(fq=true∧(!I6 || (I7&&q3))=false)∨¬(fq=true∧(!I6 || (I7&&q3))=false):=Decidable.em _;rcases DT with hd|hd
        ·rw [if_pos hd] at hs;simp only [Prod.mk.injEq] at hs;obtain ⟨rfl,rfl,rfl⟩:=hs;have qb:=ab (jB (by omega)).2;obtain ⟨rfl,vC⟩:=hd;clear hg jA gD jB rI HH HF bh lf I5;cases I6 with
         |false=>simp at vC
         |true=>
          cases I7 with
          |false=>
           clear vC;exact MQ
          |true=>
           cases q3 with
           |true=>simp at vC
           |false=>
            clear vC;exact MQ
        ·rw [if_neg hd,lf] at hs;by_cases kG:nn≠0
         ·rw [if_pos kG] at hs;simp only [Prod.mk.injEq] at hs;obtain ⟨rfl,rfl,rfl⟩:=hs;have qb:=ab (jB kG).2;have arB:¬(nn:Int)=0:=by omega
          have arC:((nn:Int) != 0)=true:=by simp;omega
          clear hg jA gD jB rI HH HF bh lf I5;cases fq with
          |false=>
           clear hd h38 h11 h3;go_wp2_with (first
            |(go_at_call 179;go_must (refine wB _ b' X Y 0 DX.o_ _ (cK.o_.below hb) _ ?_))|(go_at_call 180;go_must (refine FG X wh true HM.o_ _ _ ?_);intro w1 qP;have aI:=aD hb qP hb.size)|(go_at_call 181;go_must (refine oU.o_ _ _ (I4.o_.below aI) ?_);intro dv w2 ct ah;obtain ⟨dY,dZ,rfl⟩:=bF ct;have xJ:=br qP ah;have nb:=heap_alloc_new w2 (Obj.cells (dB p' dY dZ) 147);have an:=(Below.refl w2 w2).alloc (Nat.le_refl _) (Obj.cells (dB p' dY dZ) 147);have sK:=br xJ an;have eH:=ab (bN (gF:=wo.heap.size) (aK ct an) qP.size);have NB:=ab nb;clear ct ah an nb)|(go_at_call 182;have nb:=NB;go_must (refine MP X _ l' fp false od.o_ qQ.o_ _ ((dn.o_.ps fU.o_).below sK) _ ?_);intro fa fc w4 DY ak;have lO:=ak.alloc ak.size (Obj.cells (dB fp fa fc) 147);have dW:=br sK lO;have bp:=aD hb dW hb.size;have n5:=bT nb.o_ lO;obtain ⟨oV,oW,oX,oY,oZ,pd,pf,pg,ph,pj⟩:=c5 n5;have iy:=ab (aK eH.o_ lO);clear DY ak lO n5 nb NB eH;skip)|(go_at_call 183;go_must (refine MO X p'.num _ vB.o_ _ _ ?_)))
           try go_ret3
           exact qb.o_ _ bp
          |true=>
           cases I6 with
           |false=>
            clear hd h11 h3;exact MQ
           |true=>
            cases I7 with
            |false=>simp at hd
            |true=>
             cases q3 with
             |false=>simp at hd
             |true=>
              clear hd;exact MQ
         ·rw [if_neg kG] at hs;simp only [Prod.mk.injEq] at hs;have dh:nn=0:=by omega
          subst dh;obtain ⟨rfl,rfl,rfl⟩:=hs;rw [if_neg (by simp),show ((Y:Int)+(um:Int)).toNat=Y+um by omega] at gD;have Ke:=ab gD;obtain ⟨u9,ane,anf,_,_,_,_,_,bS,cQ,_,_⟩:=Ot jA;have aeD:1≤Y+um:=by omega
          have OD:=ab (anb.o_.pb bS cQ);obtain ⟨ds,B_,aq,xQ,qH⟩:=dn.o_;have yk:=ab B_;have yl:=ab xQ;have aU:=ab aq;have uQ:=ab qH;clear xQ aq qH hg jA gD jB rI bh lf I5 ane anf bS cQ kG;cases fq with
          |false=>
           clear hd h38 h11 h3;go_wp2_with (first
            |(go_at_call 179;go_must (refine wB _ b' X Y 0 DX.o_ _ (cK.o_.below hb) _ ?_))|(go_at_call 180;go_must (refine FG X wh true HM.o_ _ _ ?_);intro w1 qP;have aI:=aD hb qP hb.size)|(go_at_call 181;go_must (refine oU.o_ _ _ (I4.o_.below aI) ?_);intro dv w2 ct ah;obtain ⟨dY,dZ,rfl⟩:=bF ct;have xJ:=br qP ah;have nb:=heap_alloc_new w2 (Obj.cells (dB p' dY dZ) 147);have an:=(Below.refl w2 w2).alloc (Nat.le_refl _) (Obj.cells (dB p' dY dZ) 147);have sK:=br xJ an;have eH:=ab (bN (gF:=wo.heap.size) (aK ct an) qP.size);have NB:=ab nb;clear ct ah an nb)|(go_at_call 182;have nb:=NB;go_must (refine MP X _ l' fp false od.o_ qQ.o_ _ ((dn.o_.ps fU.o_).below sK) _ ?_);intro fa fc w4 DY ak;have lO:=ak.alloc ak.size (Obj.cells (dB fp fa fc) 147);have dW:=br sK lO;have bp:=aD hb dW hb.size;have n5:=bT nb.o_ lO;obtain ⟨oV,oW,oX,oY,oZ,pd,pf,pg,ph,pj⟩:=c5 n5;have iy:=ab (aK eH.o_ lO);clear DY ak lO n5 nb NB eH;(have gz:=aK aU.o_ dW;have bG:=cO (w4.alloc (Obj.cells (dB fp fa fc) 147)) (dB p' dY dZ) 147 5 1 rfl;rw [show (w4.alloc (Obj.cells (dB fp fa fc) 147)).heap.size=w4.heap.size+1 by simp] at bG))|(go_at_call 183;go_must (refine MO X p'.num _ vB.o_ _ _ ?_))
            |(at_builtin;go_must (refine j9 (by rfl) (.tmp 98) (.tmp 100) 32 (by rfl) w 147 (.agg hZ) 5 72 underlying32 Tryz.xP rfl (by decide) _ _ _ _ rfl (World.ownsRow.alloc gz _) _ _ _ _ rfl bG (zg _ _ _) (by simp) (by unfold maxLen;omega) (by omega) (Nat.le_trans bp.size (by simp)) ?_)))
           intro fM c6 w6 dt bI;have lD:eF 5 (w4.alloc (Obj.cells (dB fp fa fc) 147)) w6:=(eF.below ((Below.refl _ _).alloc (Nat.le_refl _) _)).trans (eF.Ek (gz.alloc _) bI (by decide));have zA:Below w w w6:=bC (bp.alloc bp.size _) bI (Nat.le_trans bp.size (by simp)) (gz.alloc _);have ju:∀v∈ds,fR v (.slice dY p'.data.length dZ):=by
            intro v hv k hk hc;obtain ⟨i,hi,rfl⟩:=List.getElem_of_mem hv;have h1:=((yl.o_ i (by rw [←yk.o_];exact hi)).lt k hk).2;have h2:=(iy.o_.lt k hc).1
            omega
           have wI:cZ w6 w.heap.size (.slice fM (l'.length+1) c6) (l'++ [p']):=cZ.push yk.o_ (fun i hi=>aK (yl.o_ i hi) dW) lD dt (bN iy.o_ hb.size) uQ.o_ ju;have CQ:=ab wI;have Gp:Hid (∀q∈l'++ [p'],PB q):=ab fun q hq=>by
            exact Vv
           clear wI ju lD dt bI gz bG bp dW;go_wp2;go_roundg (b'.drop (Y+um)).length
           case measure=>rw [List.length_drop];omega
           case rel=>exact ⟨f',l'++ [p'],b'.drop (Y+um),Le,rc - (Y+um),by rw [List.length_drop];omega,rfl,by rw [List.length_drop],ab (by have:=CP.o_;rw [List.length_append,List.length_drop];simp;omega),CQ,Gp,by rw [List.length_drop];exact aau,zA,Ke⟩
          |true=>
           cases I6 with
           |false=>
            clear hd h11 h3;exact aat
           |true=>
            cases I7 with
            |false=>simp at hd
            |true=>
             cases q3 with
             |false=>simp at hd
             |true=>
              clear hd;exact aat
    ·have aL:b'= []:=List.eq_nil_of_length_eq_zero (by omega);subst aL;have gD:=rI.o_;rw [Vw] at gD;simp only [Prod.mk.injEq] at gD;obtain ⟨rfl,rfl⟩:=gD;have hh:=HH.o_;rw [if_neg (by simp)] at hh;simp only [Prod.mk.injEq] at hh;obtain ⟨rfl,rfl,rfl⟩:=hh;clear HH rI HF;go_wp2
     try go_ret3
     exact HR.o_ _ _ _ dn.o_ hb
end Go.Proofs.YtgimbocoamnkjaaGreatDoor
