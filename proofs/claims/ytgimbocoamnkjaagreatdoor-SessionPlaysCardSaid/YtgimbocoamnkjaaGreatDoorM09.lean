/- A part of the proof of SessionPlays, printed small; no conditions of its own. -/
import Derived.Test.YtgimbocoamnkjaaGreatDoorM08
set_option maxRecDepth 100000
set_option maxHeartbeats 16000000
namespace Go.Proofs.YtgimbocoamnkjaaGreatDoor
open _root_.Go.Proofs.Tryz
open List (eraseIdx_eq_take_drop_succ)
open Nat (add_zero)
variable{z:Int}{M:Nat→Prop}{w:World}
open Go.RowKit
theorem VO{ps:List (V3×Fl)}(h:∀p∈ps,db w M p.1 p.2.item):∀u∈ps.flatMap bH,u.oneCell'=true:=by
 intro u hu;obtain ⟨p,hp,hu⟩:=List.mem_flatMap.1 hu;unfold bH at hu;rcases List.mem_cons.1 hu with rfl|hu
 ·rfl
 rcases List.mem_cons.1 hu with rfl|hu
 ·rfl
 exact (h p hp).Ug u hu
theorem OT(S:Nat)(s:aF)(i:Nat)(hi:i<s.aj.length)(hl:s.aj.length≤100000)(d:Int)(hd:(s.aj[i]).id=d)(hI:h_ d)(w:World)(M:Nat→Prop)(h:SR w M S s)(R:Ending→World→Prop)
 (hR:∀M' w',SR w' M' S {s with cj:=s.cj.erase d,aj:=s.aj.eraseIdx i}→Sep M M' w w'→R (.returned (.tuple #[])) w'):
 Calls prog 43 #[.pointer (some ⟨S,0,none⟩),.int .i64 i] w R:=by
 obtain ⟨NB,MB,GB,GM,sv,qv,fv,hx⟩:=h;have HR:=ab hR;obtain ⟨ps,aT,aq,aS,aV⟩:=id hx.hf;have aX:s.aj.length=ps.length:=by rw [←aT];simp
 have nx:i<ps.length:=by omega
 have oM:ps.length≤100000:=by omega
 rw [aX] at aq;obtain ⟨fa,fc,mD⟩:=bF aq;subst mD;obtain ⟨g,hg⟩:=et aq (by omega);subst hg;have iU:Below w w w.drew:=(Below.refl w w).drew;have aI:=hx.below iU;have c0:=(dy aI.hS).1.1;have c7:=(dy aI.hS).2.2.2.1;have p9:=aK aq iU;have VP:(ps[i]).2.id=d:=by
  rw [←hd];have:s.aj[i]=(ps[i]).2:=by
   have h2:=congrArg (fun l=>l[i]?) aT;simp only [List.getElem?_map,List.getElem?_eq_getElem nx,List.getElem?_eq_getElem hi,Option.map_some] at h2;exact (Option.some.inj h2).symm
  rw [this]
 have ae7:w.drew.cell? ⟨g,i*16,none⟩=some (.int .i64 d):=by
  have:=F6 p9 nx 0 (by omega);rw [add_zero] at this;rw [this,←VP]
  rfl
 obtain ⟨b,hb⟩:=ai (s.cj.contains d);have ae8:(i:Int)<(ps.length:Int):=by omega
 have pz:(ps.eraseIdx i).map (·.2)=s.aj.eraseIdx i:=by rw [←aT,eraseIdx_eq_take_drop_succ,eraseIdx_eq_take_drop_succ,List.map_append,List.map_take,List.map_drop]
 have gy:(s.aj.eraseIdx i).length=ps.length - 1:=by rw [List.length_eraseIdx_of_lt hi,aX]
 have HX:=ab aI;have HB:=ab hb;have OU:=ab pz;have Ks:=ab gy;have m8:=ab aX;have gK:=ab (show∀p∈ps,db w.drew M p.1 p.2.item from fun p hp=>(aS p hp).sep (.cU iU));have aU:=ab p9;have eR:=ab (Sep.cU (M:=M) iU);clear hR aT aq aS aV hx aI p9 hb pz gy iU VP aX hi hl hd;go_enter func43,ntmps43;go_wp2_with fail;go_region_law (first
  |(go_simp;go_at_call 106;refine Ue NB MB s.cj d hI b HB.o_ w.drew HX.o_.hn _ ?_;intro w3 wN cB))
 all_goals
  obtain ⟨cG,fj⟩:=SX.NU HX.o_ cB wN;have pA:=j_ aU.o_ (fun k hk=>cB.block k ((aU.o_.lt k hk).2) (fun e=>by
   have h1:=eI aU.o_ k hk;have h2:=HX.o_.hn.2.kind;rw [Option.some.inj e,h2] at h1
   revert h1
   decide))
  have zF:=(dy cG.hS).2.2.2.1;have gY:=ab cG;have iD:=ab (eR.o_.trans fj);have Kt:=ab pA;have VQ:=ab (show∀p∈ps,db w3 M p.1 p.2.item from fun p hp=>(gK.o_ p hp).sep fj);clear cG fj pA wN cB c0 c7 ae7 HX aU gK eR;go_wp2_with (first
   |(go_at_call 107;go_must (refine ae5 g fc ps i nx oM w3 (VO VQ.o_) Kt.o_ _ ?_);intro w5 gz fo;have r5:=eG fo gY.o_.hS (dU gY.o_.hS Kt.o_ (by decide));have ER:=(dy r5).2.2.2.1;have f75:=aB r5 7;have ae9:=ab gz;have rM:=ab fo;clear gz fo r5))
  obtain ⟨M7,fN,uY,_⟩:=SX.qN (dp:= .slice (some ⟨g,0,none⟩) (ps.length - 1) fc) (fs:=s.aj.eraseIdx i) (ps:=ps.eraseIdx i) gY.o_ OU.o_ (fun p hp=>VQ.o_ p (List.mem_of_mem_eraseIdx hp)) (by rw [Ks.o_];exact ae9.o_) rM.o_ (.inl rfl);go_end0;exact HR.o_ _ _ ⟨NB,MB,GB,GM,sv,qv,_,fN⟩ (iD.o_.trans uY)
theorem wO{α:Type}{p:α→Bool}{l:List α}(h:cV p l=z)(hz:0≤z):∃(k:Nat)(hk:k<l.length),z=(k:Int)∧p l[k]=true∧∀j (hj:j<k),p (l[j]'(by omega))=false:=by
 unfold cV at h;cases hf:l.findIdx? p with
 |none=>rw [hf] at h;simp only at h;omega
 |some i=>
  rw [hf] at h;obtain ⟨h1,h2,h3⟩:=List.findIdx?_eq_some_iff_getElem.1 hf;exact ⟨i,h1,h.symm,h2,fun j hj=>by simpa using h3 j hj⟩
theorem zG{α:Type}{p:α→Bool}{l:List α}(h:cV p l=z)(hz:z<0):z= -1∧∀x∈l,p x=false:=by
 unfold cV at h;cases hf:l.findIdx? p with
 |none=>
  rw [hf] at h;exact ⟨h.symm,List.findIdx?_eq_none_iff.1 hf⟩
 |some i=>rw [hf] at h;simp only at h;omega
def jE(s:aF)(z:Int):aF:=if z<0 then s else {s with cj:=s.cj.erase ((s.aj[z.toNat]?.map (·.id)).getD 0),aj:=s.aj.eraseIdx z.toNat}
theorem VR{x:Int}:Is (w.alloc (Obj.cells #[Value.int .i64 x] 3)) (.slice (some ⟨w,0,none⟩) 1 1) [x]:=
 ⟨_,1,rfl,cO w #[Value.int .i64 x] 3 1 1 rfl,Nat.le_refl _,by decide,fun h=>by cases h⟩
theorem afa{x y:Int}:Is (w.alloc (Obj.cells #[Value.int .i64 x,Value.int .i64 y] 3)) (.slice (some ⟨w,0,none⟩) 2 2) [x,y]:=
 ⟨_,2,rfl,cO w #[Value.int .i64 x,Value.int .i64 y] 3 1 2 rfl,Nat.le_refl _,by decide,fun h=>by cases h⟩
theorem VS{P:Prop}(h:P:=by
 have:=HR.o_ M5 w5 (by rw [HL.o_];exact gQ.o_) ((Sep.cU bU.o_).trans mE.o_);rw [decide_eq_true (by omega)] at this;exact this):P:=h
theorem VT(S:Nat)(s:aF)(id:Int)(z:Int)(hz:cV (kE id [1]) s.aj=z)(hid:∀f∈s.aj,h_ f.id)(hl:s.aj.length≤100000)(w:World)(M:Nat→Prop)(h:SR w M S s)(R:Ending→World→Prop)
 (hR:∀M' w',SR w' M' S (jE s z)→Sep M M' w w'→R (.returned (.bool (decide (0≤z)))) w'):
 Calls prog 12 #[.pointer (some ⟨S,0,none⟩),.int .i64 id] w R:=by
 have HR:=ab hR;have aL:Below w w (w.alloc (Obj.cells #[Value.int .i64 1] 3)):=(Below.refl _ _).alloc (Nat.le_refl _) _;have bu:=ab aL;have H1:=ab (h.below aL);have HI:=ab (VR (w:=w) (x:=1));have HZ:=ab hz;clear hR aL h hz;by_cases h0:0≤z
 ·obtain ⟨i,hi,rfl,_,_⟩:=wO HZ.o_ h0;have hI:=hid _ (List.getElem_mem hi);obtain ⟨d,hd⟩:=ai ((s.aj[i]).id);rw [hd] at hI;have HL:Hid (jE s (i:Int)={s with cj:=s.cj.erase d,aj:=s.aj.eraseIdx i}):=by
   show _=_;unfold jE;rw [if_neg (by omega)];simp [List.getElem?_eq_getElem hi,hd]
  clear hid;go_enter func12,ntmps12;go_wp2_with (first
   |(go_at_call 42;go_must (refine AU S s id [1] (i:Int) HZ.o_ _ _ M H1.o_ (Nat.le_trans hl (by decide)) HI.o_ (by decide) _ ?_);intro w3 an;have bU:=ab (aD bu.o_ an bu.o_.size);have H3:=ab (H1.o_.below an);clear an)
   |(go_at_call 43;go_must (refine OT S s i hi hl d hd hI w3 M H3.o_ _ ?_);intro M5 w5 bp jh;have gQ:=ab bp;have mE:=ab jh;clear bp jh))
  exact VS
 ·obtain ⟨rfl,_⟩:=zG HZ.o_ (by omega);clear hid;go_enter func12,ntmps12;go_wp2_with (go_at_call 42;go_must (refine AU S s id [1] (-1) HZ.o_ _ _ M H1.o_ (Nat.le_trans hl (by decide)) HI.o_ (by decide) _ ?_);intro w3 an;have bU:=ab (aD bu.o_ an bu.o_.size);have H3:=ab (H1.o_.below an);clear an);exact HR.o_ M w3 H3.o_ (Sep.cU bU.o_)
theorem afb(S:Nat)(s:aF)(id:Int)(z:Int)(hz:cV (kE id [3]) s.aj=z)(hid:∀f∈s.aj,h_ f.id)(hl:s.aj.length≤100000)(w:World)(M:Nat→Prop)(h:SR w M S s)(R:Ending→World→Prop)
 (hR:∀M' w',SR w' M' S (jE s z)→Sep M M' w w'→R (.returned (.bool (decide (0≤z)))) w'):
 Calls prog 18 #[.pointer (some ⟨S,0,none⟩),.int .i64 id] w R:=by
 have HR:=ab hR;have aL:Below w w (w.alloc (Obj.cells #[Value.int .i64 3] 3)):=(Below.refl _ _).alloc (Nat.le_refl _) _;have bu:=ab aL;have H1:=ab (h.below aL);have HI:=ab (VR (w:=w) (x:=3));have HZ:=ab hz;clear hR aL h hz;by_cases h0:0≤z
 ·obtain ⟨i,hi,rfl,_,_⟩:=wO HZ.o_ h0;have hI:=hid _ (List.getElem_mem hi);obtain ⟨d,hd⟩:=ai ((s.aj[i]).id);rw [hd] at hI;have HL:Hid (jE s (i:Int)={s with cj:=s.cj.erase d,aj:=s.aj.eraseIdx i}):=by
   show _=_;unfold jE;rw [if_neg (by omega)];simp [List.getElem?_eq_getElem hi,hd]
  clear hid;go_enter func18,ntmps18;go_wp2_with (first
   |(go_at_call 42;go_must (refine AU S s id [3] (i:Int) HZ.o_ _ _ M H1.o_ (Nat.le_trans hl (by decide)) HI.o_ (by decide) _ ?_);intro w3 an;have bU:=ab (aD bu.o_ an bu.o_.size);have H3:=ab (H1.o_.below an);clear an)
   |(go_at_call 43;go_must (refine OT S s i hi hl d hd hI w3 M H3.o_ _ ?_);intro M5 w5 bp jh;have gQ:=ab bp;have mE:=ab jh;clear bp jh))
  exact VS
 ·obtain ⟨rfl,_⟩:=zG HZ.o_ (by omega);clear hid;go_enter func18,ntmps18;go_wp2_with (go_at_call 42;go_must (refine AU S s id [3] (-1) HZ.o_ _ _ M H1.o_ (Nat.le_trans hl (by decide)) HI.o_ (by decide) _ ?_);intro w3 an;have bU:=ab (aD bu.o_ an bu.o_.size);have H3:=ab (H1.o_.below an);clear an);exact HR.o_ M w3 H3.o_ (Sep.cU bU.o_)
theorem VU{P:Prop}(h:P:=by
 have:=congrArg List.length e4;rw [eS 16 bH iY,List.length_take] at this;simp at this
 omega):P:=h
theorem VV{P:Prop}(h:P:=by
 rw [←hf];have h2:=congrArg (fun l=>l[i]?) aT;simp only [List.getElem?_map,List.getElem?_eq_getElem nx,List.getElem?_eq_getElem hi,Option.map_some] at h2;exact Option.some.inj h2):P:=h
open List (getElem_set_ne mem_or_eq_of_mem_set)
open Nat (mod_lt)
variable{fine:Bool}{x:Im}{GB GM MB NB S g i k:Nat}{s:aF}{fv qv sv:Value}{w1:World}
def j4(x:Im):Im:=⟨⟨x.note.aJ,[],0,false,[],0,[],0,0,0⟩,2,false,[],[]⟩
theorem afc(h:gb x):gb (j4 x):=⟨⟨h.n.t,by simp [j4],by simp [j4],by simp [j4],by simp [j4],by simp [j4]⟩,by simp [j4],by simp [j4],by simp [j4]⟩
theorem afd(w:World)(x:Im):gH w (.slice none 0 0) (.slice none 0 0) (.slice none 0 0) (j4 x):=
 ⟨⟨none,0,rfl,⟨rfl,fun h=>by simp [j4] at h⟩,Nat.le_refl _,by decide,fun _=>rfl⟩,⟨none,0,rfl,Nat.le_refl _,by decide,fun _=>rfl,fun h=>by simp [j4] at h⟩,⟨none,0,rfl,⟨rfl,fun h=>by simp [j4] at h⟩,Nat.le_refl _,by decide,fun _=>rfl⟩⟩
theorem VW(w:World)(h:gb x):db w M (.slice none 0 0,.slice none 0 0,.slice none 0 0) (j4 x):=⟨fun _ w' _=>afd w' x,afc h⟩
theorem SX.OV{ps:List (V3×Fl)}{fs:List Fl}(h:SX w M S NB MB GB GM sv qv fv s)(hv:fv.ownBlock=some g)(aT:ps.map (·.2)=fs)(aS:∀p∈ps,db w M p.1 p.2.item)
 (hr:w1.ownsRow 0 51 16 fv fs.length (ps.flatMap bH)) (hg:w.grownBy w1 (some g)):SX w1 M S NB MB GB GM sv qv fv {s with aj:=fs}∧Sep M M w w1:=by
 have hk:=h.hf.kind g hv;have hs:Sep M M w w1:= .kn hg (fun k hk=>by cases hk;exact h.hf.own g hv);obtain ⟨p1,p2,p3,p4,p5,_⟩:=h.parts g hg (fun _ hm=>hm) hs;refine ⟨⟨(p1 (by rw [hk];decide)).trans h.hS,p2 (fun e=> ?_) (by rw [hk];decide),p3 (fun e=> ?_) (by rw [hk];decide),p4 (by rw [hk];decide),p5 (by rw [hk];decide),⟨ps,aT,hr,fun p hp=>(aS p hp).sep hs,h.hf.own⟩,h.nb,h.nm,h.mS,h.mN,h.mG,h.ms,h.oP,h.oQ,fun b hb=>Nat.lt_of_lt_of_le (h.lt b hb) hg.size⟩,hs⟩
 ·have:=h.hn.kinds.2;rw [←e,hk] at this
  revert this
  decide
 ·have:=h.hg.kinds.2;rw [←e,hk] at this
  revert this
  decide
theorem afe{c:Nat}{ps:List (V3×Fl)}(hk:k<ps.length)(h:w.ownsRow 0 51 16 (.slice (some ⟨g,0,none⟩) ps.length c) ps.length (ps.flatMap bH))(u:Value)(vs:List Value)(p:V3×Fl)
 (h0:(bH p)[0]? =(bH ps[k])[0]?) (h1:(bH p)[1]? =some u) (h2:∀j,j<14→(bH p)[j+2]? =vs[j]?) (hv:vs.length=14):
 ((w.setCell ⟨g,k*16+1,none⟩ u).setCells g (k*16+2) vs).ownsRow 0 51 16 (.slice (some ⟨g,0,none⟩) ps.length c) ps.length ((ps.set k p).flatMap bH):=by
 have aX:(ps.set k p).length=ps.length:=by simp
 refine ⟨by rw [eS 16 bH iY,aX],?_⟩;rcases h.2 with ⟨hv,h0⟩|⟨g',cap,cur,dO,hB,hg,e1,e2,e3,e4⟩
 ·cases hv
 ·simp only [Value.slice.injEq,Option.some.injEq,Addr.mk.injEq] at dO;obtain ⟨⟨rfl,-,-⟩,-,rfl⟩:=dO;have k1:=heap_setCell_same w g (k*16+1) cur _ u hg;obtain ⟨jg,m1,m2,m3⟩:=nT g 51 vs (k*16+2) _ _ k1;refine .inr ⟨g,c,jg,rfl,hB,m1,e1,e2,by rw [m2,Array.size_setIfInBounds];exact e3,?_⟩;have dm:ps.length*16≤cur.size:=by
   exact VU
  have bJ:∀j,j<ps.length*16→cur[j]? =(ps.flatMap bH)[j]?:=fun j hj=>by
   rw [←e4,List.getElem?_take,if_pos hj];simp
  apply List.ext_getElem?;intro j;rw [List.getElem?_take];by_cases hj:j<ps.length*16
  ·rw [if_pos hj];have e0:jg.toList[j]? =jg[j]?:=by simp
   have hi:j / 16<ps.length:=by omega
   have hr:j % 16<16:=mod_lt _ (by omega);have kj:j / 16*16+j % 16=j:=by omega
   have hs:=jQ 16 bH iY (ps.set k p) (j / 16) (j % 16) (by simpa using hi) hr;have ho:=jQ 16 bH iY ps (j / 16) (j % 16) hi hr;rw [kj] at hs ho;have aff:k*16+2+14≤ps.length*16:=by omega
   rw [e0,m3,hs,hv];by_cases tD:j / 16=k
   ·have kJ:(ps.set k p)[j / 16]'(by simpa using hi)=p:=by simp [tD]
    rw [kJ];by_cases c1:k*16+2≤j
    ·rw [if_pos (by simp only [Array.size_setIfInBounds];omega)];have:=h2 (j - (k*16+2)) (by omega);rw [←this]
     congr 1
     omega
    ·rw [if_neg (by omega),Array.getElem?_setIfInBounds];by_cases c2:k*16+1=j
     ·rw [if_pos c2,if_pos (by omega),show j % 16=1 by omega,h1]
     ·rw [if_neg c2,bJ j hj,ho,show j % 16=0 by omega,h0]
      congr 2
      have:ps[j / 16]=ps[k]:=by congr
      rw [this]
   ·have kJ:(ps.set k p)[j / 16]'(by simpa using hi)=ps[j / 16]:=by
     rw [getElem_set_ne (by omega)]
    rw [kJ,if_neg (by omega),Array.getElem?_setIfInBounds,if_neg (by omega),bJ j hj,ho]
  ·rw [if_neg hj,List.getElem?_eq_none (by rw [eS 16 bH iY,aX];omega)]
def zH(s:aF)(z:Int)(fine:Bool):aF×Bool×Bool:=match s.aj[z.toNat]? with
 |none=>(s,false,false)
 |some f=>if z<0 then (s,false,false) else if f.state=3 then (s,true,true) else if fine=false then (jE s z,true,false) else ({s with aj:=s.aj.set z.toNat ⟨f.id,3,j4 f.item⟩},true,true)
theorem GH(h:z<0):zH s z fine=(s,false,false):=by
 unfold zH
 split
 ·rfl
 ·rw [if_pos h]
theorem Ku(h:i<s.aj.length):zH s (i:Int) fine=if (s.aj[i]).state=3 then (s,true,true) else if fine=false then (jE s i,true,false) else ({s with aj:=s.aj.set i ⟨(s.aj[i]).id,3,j4 (s.aj[i]).item⟩},true,true):=by
 unfold zH;simp [List.getElem?_eq_getElem h];intro h0
 omega
theorem SR.C0(h:SR w M S s)(hi:i<s.aj.length){f:Fl}(hf:s.aj[i]=f):∃NB MB GB GM sv qv g n fc v1 v2 v3,∃ps:List (V3×Fl),SX w M S NB MB GB GM sv qv (.slice (some ⟨g,0,none⟩) n fc) s∧n=s.aj.length∧ps.map (·.2)=s.aj∧∃nx:i<ps.length,ps[i]=((v1,v2,v3),f)∧ps.length=n∧
 w.ownsRow 0 51 16 (.slice (some ⟨g,0,none⟩) n fc) n (ps.flatMap bH)∧(∀p∈ps,db w M p.1 p.2.item)∧(∀j,j<16→w.cell? ⟨g,i*16+j,none⟩= [Value.int .i64 f.id,.int .i64 f.state,.string (str f.item.note.aJ),v1,.int .i64 f.item.note.al,.bool f.item.note.aE,.string (str f.item.note.src),.int .i64 f.item.note.aN,v2,.int .i64 f.item.note.origin,.int .i64 f.item.note.number,.int .i64 f.item.note.aQ,.int .i64 f.item.al,.bool f.item.aM,v3,.string (str f.item.share)][j]?)∧w.cell? ⟨g,i*16+1,none⟩=some (.int .i64 f.state)∧w.cell? ⟨g,i*16+2,none⟩=some (.string (str f.item.note.aJ))∧(i:Int)<(n:Int)∧w.frozen? ⟨g,i*16+1,none⟩=false:=by
 obtain ⟨NB,MB,GB,GM,sv,qv,fv,hx⟩:=h;obtain ⟨ps,aT,aq,aS,aV⟩:=id hx.hf;have aX:s.aj.length=ps.length:=by rw [←aT];simp
 have nx:i<ps.length:=by omega
 have afg:=aq;rw [aX] at aq;obtain ⟨fa,fc,mD⟩:=bF aq;subst mD;obtain ⟨g,hg⟩:=et aq (by omega);subst hg;have p_:(ps[i]).2=f:=by
  exact VV
 have hc:=F6 aq nx;obtain ⟨⟨⟨v1,v2,v3⟩,f'⟩,hp⟩:∃p,ps[i]=p:=⟨_,rfl⟩
 rw [hp] at p_ hc;simp only at p_;subst p_;exact ⟨NB,MB,GB,GM,sv,qv,g,ps.length,fc,v1,v2,v3,ps,hx,aX.symm,aT,nx,hp,rfl,aq,aS,hc,hc 1 (by omega),hc 2 (by omega),by omega,aq.frozenAt _⟩
theorem afh(S:Nat)(s:aF)(num:Int)(fine:Bool)(z:Int)(hz:cV (kE num [2,3]) s.aj=z)(hid:∀f∈s.aj,h_ f.id)(hl:s.aj.length≤100000)(s':aF)(a b:Bool)(hr:zH s z fine=(s',a,b))(w:World)(M:Nat→Prop)(h:SR w M S s)(R:Ending→World→Prop)
 (hR:∀M' w',SR w' M' S s'→Sep M M' w w'→R (.returned (.tuple #[.bool a,.bool b])) w'):
 Calls prog 11 #[.pointer (some ⟨S,0,none⟩),.int .i64 num,.bool fine] w R:=by
 have HR:=ab hR;have aL:Below w w (w.alloc (Obj.cells #[Value.int .i64 2,Value.int .i64 3] 3)):=(Below.refl _ _).alloc (Nat.le_refl _) _;have bu:=ab aL;have H1:=ab (h.below aL);have HI:=ab (afa (w:=w) (x:=2) (y:=3));have HZ:=ab hz;clear hR aL h hz;by_cases h0:0≤z
 ·obtain ⟨i,hi,rfl,_,_⟩:=wO HZ.o_ h0;have hI:=hid _ (List.getElem_mem hi);rw [Ku hi] at hr;have zi:¬(i:Int)<0:=by omega
  obtain ⟨⟨cR,fst,x⟩,hf⟩:∃f,s.aj[i]=f:=⟨_,rfl⟩
  rw [hf] at hI hr;simp only at hI hr;clear hid;by_cases h3:fst=3
  ·subst h3;rw [if_pos rfl] at hr;cases hr;go_enter func11,ntmps11;go_wp2_with (go_at_call 42;go_must (refine AU S s num [2,3] (i:Int) HZ.o_ _ _ M H1.o_ (Nat.le_trans hl (by decide)) HI.o_ (by decide) _ ?_;intro w3 an;have bU:=ab (aD bu.o_ an bu.o_.size);have H3:=ab (H1.o_.below an);clear an;obtain ⟨NB,MB,GB,GM,sv,qv,g,n,fc,v1,v2,v3,ps,hx,hn,aT,nx,p_,eA,aq,aS,j3,VX,VY,uW,VZ⟩:=SR.C0 H3.o_ hi hf;have c7:=(dy hx.hS).2.2.2.1;have HX:=ab hx;have dn:=ab aT;have GI:=ab nx;have GJ:=ab p_;have fz:=ab eA;have aU:=ab aq;have gK:=ab aS;have lJ:=ab j3;have HN:=ab hn;clear hx hn aT eA aq aS j3));exact HR.o_ M w3 H3.o_ (Sep.cU bU.o_)
  rw [if_neg h3] at hr;have wF:(fst==3)=false:=by simpa using h3
  cases fine with
  |false=>
   rw [if_pos rfl] at hr;cases hr;have HL:Hid (jE s (i:Int)={s with cj:=s.cj.erase cR,aj:=s.aj.eraseIdx i}):=by
    show _=_;unfold jE;rw [if_neg (by omega)];simp [List.getElem?_eq_getElem hi,hf]
   have afi:Hid ((s.aj[i]).id=cR):=by show _=_;rw [hf]
   go_enter func11,ntmps11;go_wp2_with (first
    |(go_at_call 42;go_must (refine AU S s num [2,3] (i:Int) HZ.o_ _ _ M H1.o_ (Nat.le_trans hl (by decide)) HI.o_ (by decide) _ ?_;intro w3 an;have bU:=ab (aD bu.o_ an bu.o_.size);have H3:=ab (H1.o_.below an);clear an;obtain ⟨NB,MB,GB,GM,sv,qv,g,n,fc,v1,v2,v3,ps,hx,hn,aT,nx,p_,eA,aq,aS,j3,VX,VY,uW,VZ⟩:=SR.C0 H3.o_ hi hf;have c7:=(dy hx.hS).2.2.2.1;have HX:=ab hx;have dn:=ab aT;have GI:=ab nx;have GJ:=ab p_;have fz:=ab eA;have aU:=ab aq;have gK:=ab aS;have lJ:=ab j3;have HN:=ab hn;clear hx hn aT eA aq aS j3))
    |(go_at_call 43;go_must (refine OT S s i hi hl cR afi.o_ hI w3 M H3.o_ _ ?_);intro M5 w5 bp jh;have gQ:=ab bp;have mE:=ab jh;clear bp jh))
   exact HR.o_ M5 w5 (by rw [HL.o_];exact gQ.o_) ((Sep.cU bU.o_).trans mE.o_)
  |true=>
   rw [if_neg (by decide)] at hr;have fZ:=ab hr;clear hr;go_enter func11,ntmps11;go_wp2_with (first
    |(go_at_call 42;go_must (refine AU S s num [2,3] (i:Int) HZ.o_ _ _ M H1.o_ (Nat.le_trans hl (by decide)) HI.o_ (by decide) _ ?_;intro w3 an;have bU:=ab (aD bu.o_ an bu.o_.size);have H3:=ab (H1.o_.below an);clear an;obtain ⟨NB,MB,GB,GM,sv,qv,g,n,fc,v1,v2,v3,ps,hx,hn,aT,nx,p_,eA,aq,aS,j3,VX,VY,uW,VZ⟩:=SR.C0 H3.o_ hi hf;have c7:=(dy hx.hS).2.2.2.1;have HX:=ab hx;have dn:=ab aT;have GI:=ab nx;have GJ:=ab p_;have fz:=ab eA;have aU:=ab aq;have gK:=ab aS;have lJ:=ab j3;have HN:=ab hn;clear hx hn aT eA aq aS j3))
    |(have hq:=aU;refine Et (o:=⟨none,.store 36 (.tmp 52) (.tmp 50),_,_,_,_⟩) (by rfl) 36 (.tmp 52) (.tmp 50) (by rfl) g (i*16+2) _ (by rfl) (by rfl) (fun j hj=> ?_) (fun j hj=> ?_) (by kernel_rfl) (by simp [Value.oneCell']) ?_))
   ·have b7:=(aU.o_.stored (i*16+1) (Value.int .i64 3)).1;have hj:j<14:=hj;have:=GI.o_;have:=fz.o_;have dI:=eS 16 bH iY ps;rw [Nat.add_assoc,b7.cellAt (i*16+(2+j)) (by omega),List.getElem?_eq_getElem (by rw [List.length_set,dI];omega)]
    rfl
   ·exact (aU.o_.stored (i*16+1) (Value.int .i64 3)).1.frozenAt _
   have C1:=afe (k:=i) GI.o_ (by rw [fz.o_];exact aU.o_) (.int .i64 3) [.string (str x.note.aJ),.slice none 0 0,.int .i64 0,.bool false,.string ⟨#[]⟩,.int .i64 0,.slice none 0 0,.int .i64 0,.int .i64 0,.int .i64 0,.int .i64 2,.bool false,.slice none 0 0,.string ⟨#[]⟩] ((.slice none 0 0,.slice none 0 0,.slice none 0 0),⟨cR,3,j4 x⟩) (by rw [GJ.o_];rfl) rfl (fun j _=>rfl) rfl;have Kv:(ps.set i ((.slice none 0 0,.slice none 0 0,.slice none 0 0),⟨cR,3,j4 x⟩)).map (·.2)=s.aj.set i ⟨cR,3,j4 x⟩:=by rw [List.map_set,dn.o_]
   rw [fz.o_] at C1;have Bg:(s.aj.set i ⟨cR,3,j4 x⟩).length=n:=by rw [List.length_set,←HN.o_]
   have ks:(((v1,v2,v3),⟨cR,fst,x⟩):V3×Fl)∈ps:=by
    have:=List.getElem_mem GI.o_;rw [GJ.o_] at this;exact this
   have lI:gb x:=(gK.o_ _ ks).2;rw [←Bg] at C1;have bI:=bO (bL w3 ⟨g,i*16+1,none⟩ (.int .i64 3)) (pU g [.string (str x.note.aJ),.slice none 0 0,.int .i64 0,.bool false,.string ⟨#[]⟩,.int .i64 0,.slice none 0 0,.int .i64 0,.int .i64 0,.int .i64 0,.int .i64 2,.bool false,.slice none 0 0,.string ⟨#[]⟩] (i*16+2) _);have zI:=HX.o_;rw [←Bg] at zI;obtain ⟨dP,afj⟩:=SX.OV zI rfl Kv (fun p hp=>by
    rcases mem_or_eq_of_mem_set hp with hp|rfl
    ·exact gK.o_ p hp
    ·exact VW w3 lI) C1 bI
   rw [Bg] at dP;clear Bg ks lI bI zI;clear C1 Kv;cases fZ.o_;go_wp2;exact HR.o_ M _ ⟨NB,MB,GB,GM,sv,qv,_,dP⟩ ((Sep.cU bU.o_).trans afj)
 ·obtain ⟨rfl,_⟩:=zG HZ.o_ (by omega);rw [GH (by decide)] at hr;cases hr;clear hid;go_enter func11,ntmps11;go_wp2_with (go_at_call 42;go_must (refine AU S s num [2,3] (-1) HZ.o_ _ _ M H1.o_ (Nat.le_trans hl (by decide)) HI.o_ (by decide) _ ?_);intro w3 an;have bU:=ab (aD bu.o_ an bu.o_.size);have H3:=ab (H1.o_.below an);clear an);exact HR.o_ M w3 H3.o_ (Sep.cU bU.o_)
theorem V0{P:Prop}(h:P:=by
 intro iR c2 w2 ct bM;have ah:=bC ((Below.refl w w).alloc (Nat.le_refl _) _) bM (by simp) aV;have aY:=ab ah;have ix:=ab ct;clear bM aV gu hr ct ah;go_wp2;exact HR.o_ _ _ _ (by have:=ix.o_;simpa using this) aY.o_):P:=h
theorem GK{P:Prop}(h:P:=by
 simp only [List.getElem?_map,List.getElem?_eq_getElem dM,List.getElem?_eq_getElem mF,Option.map_some] at h2;exact (Option.some.inj h2).symm):P:=h
variable{l0 l1 l2:List UInt8}{T e t:Nat}{fr:Nat×Nat}{a d f h v0 v1 v2 v3 v4:Value}
theorem afk{l3 l4:List UInt8}(hg:g=w.heap.size)(h0:Bs w v0 l0)(h1:Bs w v1 l1)(h2:Bs w v2 l2)(h3:Bs w v3 l3)(h4:Bs w v4 l4):vT (w.alloc (.cells #[v0,v1,v2,v3,v4] e)) (.slice (some ⟨g,0,none⟩) 5 5) [l0,l1,l2,l3,l4]:=by
 subst hg;exact AB [v0,v1,v2,v3,v4] [l0,l1,l2,l3,l4] rfl (by simp) fun i hi=>by
  match i,hi with
  |0,_=>exact ⟨v0,rfl,h0⟩
  |1,_=>exact ⟨v1,rfl,h1⟩
  |2,_=>exact ⟨v2,rfl,h2⟩
  |3,_=>exact ⟨v3,rfl,h3⟩
  |4,_=>exact ⟨v4,rfl,h4⟩
theorem V1{l3:List UInt8}(hg:g=w.heap.size)(h0:Bs w v0 l0)(h1:Bs w v1 l1)(h2:Bs w v2 l2)(h3:Bs w v3 l3):vT (w.alloc (.cells #[v0,v1,v2,v3] e)) (.slice (some ⟨g,0,none⟩) 4 4) [l0,l1,l2,l3]:=by
 subst hg;exact AB [v0,v1,v2,v3] [l0,l1,l2,l3] rfl (by simp) fun i hi=>by
  match i,hi with
  |0,_=>exact ⟨v0,rfl,h0⟩
  |1,_=>exact ⟨v1,rfl,h1⟩
  |2,_=>exact ⟨v2,rfl,h2⟩
  |3,_=>exact ⟨v3,rfl,h3⟩
theorem OW(b:Bool)(n r:Int)(hr:(if b then n else 0)=r)(w:World)(R:Ending→World→Prop)(hR:R (.returned (.int .i64 r)) w):Calls prog 58 #[.bool b,.int .i64 n] w R:=by
 subst hr;exact adx b n w R hR
theorem ES{b c e g i:Value}(hS:w.heap[S]? =some (.cells #[a,b,c,d,e,f,g,h,i] t fr)):w.cell? ⟨S,2,none⟩=some c∧w.cell? ⟨S,3,none⟩=some d∧w.cell? ⟨S,4,none⟩=some e∧w.cell? ⟨S,5,none⟩=some f:=
 ⟨af w S 2 _ _ _ hS,af w S 3 _ _ _ hS,af w S 4 _ _ _ hS,af w S 5 _ _ _ hS⟩
theorem ji{x:World}{b c e g i j k l m n o p:Value}(q:x.heap[T]? =some (.cells #[a,b,c,d,e,f,g,h,i,j,k,l,m,n,o,p] t fr)):x.cell? ⟨T,0,none⟩=some a∧x.cell? ⟨T,1,none⟩=some b∧x.cell? ⟨T,2,none⟩=some c∧x.cell? ⟨T,3,none⟩=some d∧x.cell? ⟨T,4,none⟩=some e∧x.cell? ⟨T,5,none⟩=some f∧x.cell? ⟨T,6,none⟩=some g∧x.cell? ⟨T,7,none⟩=some h∧x.cell? ⟨T,8,none⟩=some i∧x.cell? ⟨T,9,none⟩=some j∧x.cell? ⟨T,10,none⟩=some k∧x.cell? ⟨T,11,none⟩=some l∧x.cell? ⟨T,12,none⟩=some m∧x.cell? ⟨T,13,none⟩=some n∧x.cell? ⟨T,14,none⟩=some o∧x.cell? ⟨T,15,none⟩=some p:=
 ⟨af x T 0 _ _ _ q,af x T 1 _ _ _ q,af x T 2 _ _ _ q,af x T 3 _ _ _ q,af x T 4 _ _ _ q,af x T 5 _ _ _ q,af x T 6 _ _ _ q,af x T 7 _ _ _ q,af x T 8 _ _ _ q,af x T 9 _ _ _ q,af x T 10 _ _ _ q,af x T 11 _ _ _ q,af x T 12 _ _ _ q,af x T 13 _ _ _ q,af x T 14 _ _ _ q,af x T 15 _ _ _ q⟩
open Int (toNat_natCast)
open List (drop_of_length_le)
variable{cs xs:List Value}{B N j m n size:Nat}{La ad:Option Addr}{v:Value}{w' w0:World}
structure Cu where
 b:List UInt8
 bad:Bool
deriving DecidableEq
def takeC(n:Nat)(s:Cu):List UInt8×Cu:=if (s.bad || decide (s.b.length<n))=true then ([],⟨s.b,true⟩) else (s.b.take n,⟨s.b.drop n,s.bad⟩)
def ny(n:Nat)(s:Cu):Int×Cu:=(IntKind.i64.wrap (cz (takeC n s).1),(takeC n s).2)
def zJ(s:Cu):List UInt8×Cu:=((dq s.b).1,(takeC (dq s.b).2.1.toNat ⟨s.b,s.bad || (dq s.b).2.2 != 0⟩).2)
def C2(s:Cu):List UInt8×Cu:=((eO s.b).1,(takeC (eO s.b).2.1.toNat ⟨s.b,s.bad || (eO s.b).2.2 != 0⟩).2)
structure CR(w0:World)(t N:Nat)(s:Cu)(w:World):Prop where
 row:∃ad c,w.heap[N]? =some (.cells #[.slice ad s.b.length c,.bool s.bad] t (0,0))∧Bs w0 (.slice ad s.b.length c) s.b
 low:Below w0 w0 w
 nn:w0.heap.size≤N
 len:s.b.length≤140737488355328
theorem CR.below{s:Cu}(h:CR w0 t N s w)(hb:Below w w w'):CR w0 t N s w':=by
 obtain ⟨ad,c,hr,hs⟩:=h.row;exact ⟨⟨ad,c,aA hr hb,hs⟩,aD h.low hb h.low.size,h.nn,h.len⟩
theorem V2{c:Nat}{l:List UInt8}(h:Rd w 1 ad n (bv l))(hc:n≤c)(hm:c≤9223372036854775807)(hn:ad=none→c=0):n=l.length∧Bs w (.slice ad n c) l:=by
 have e:=h.len;subst e;exact ⟨rfl,ad,c,rfl,h,hc,hm,hn⟩
theorem afl(h:Rd w size ad n cs)(hm:m≤n):Rd w size (ad.map (·.add (m*size))) (n - m) (cs.drop (m*size)):=by
 exact U9
theorem V4{P:Program}{t e:TypeId}{c bytes:Nat}{z:Value}(ht:P.underlying t=some (.slice e))(j8:(P.info? e).map (fun i=>(i.zero,i.size,i.bytes))=some (some z,size,bytes))(hj:j≤n)(hc:n≤c)(gG:La=none→c=0):
 ∃Lx,(∀w,(Instr.slice t (.slice La n c) (some (.int .i64 (j:Int))) none none).run P w= .ok (.slice Lx (n - j) (c - j)) w)∧(Lx=none→c - j=0)∧∀w cs,Rd w size La n cs→Rd w size Lx (n - j) (cs.drop (j*size)):=by
 obtain ⟨i,hi,hz,cQ,gU⟩:=info_parts j8;have he:P.elem t=e:=by simp [Program.elem,ht]
 refine ⟨if c=j then La else La.map (·.add (j*size)),fun w=> ?_,fun h=> ?_,fun w cs h=> ?_⟩
 ·rw [run_slice_l (P:=P) w t La n c (by rw [he];exact ht) .i64 j (by omega) (by omega),he];simp [sizeOf,typeInfo,hi,cQ,sliced]
 ·by_cases sI:c=j
  ·omega
  ·rw [if_neg sI] at h;have:=gG (by simpa using h)
   omega
 ·by_cases sI:c=j
  ·have afm:n - j=0:=by omega
   have dm:cs.drop (j*size)= []:=drop_of_length_le (by rw [h.1];exact Nat.mul_le_mul_right _ (by omega));rw [afm,dm];exact Rd.nil _ _ _
  ·rw [if_neg sI];exact afl h hj
theorem V5{P:Prop}(h:P:=by
 clear hT qb;have K1:=ab k1;clear k1;go_enter func168,ntmps168;go_wp2;exact HR.o_ none 0 _ k2 K1.o_ (bL w ⟨N,1,none⟩ _)):P:=h
theorem GL(t N n:Nat)(s:Cu)(T:List UInt8)(S:Cu)(hT:takeC n s=(T,S))(hn:n≤9223372036854775807)(w0 w:World)(h:CR w0 t N s w)(R:Ending→World→Prop)
 (hR:∀xa xc w',Bs w0 (.slice xa T.length xc) T→CR w0 t N S w'→w.grownBy w' (some N)→R (.returned (.slice xa T.length xc)) w'):
 Calls prog 168 #[.pointer (some ⟨N,0,none⟩),.int .i64 n] w R:=by
 obtain ⟨sb,bad⟩:=s;obtain ⟨⟨ad,c,aq,bX⟩,qd,lf,aX⟩:=h;simp only at aq bX aX;have HR:=ab hR;have aU:=ab aq;have c0:=af w N 0 _ _ _ aq;have c1:w.cell? ⟨N,1,none⟩=some (.bool bad):=af w N 1 _ _ _ aq;have f1:=aB aq 1;have f0:=aB aq 0;have hp:=bX.parts;have eZ:=ab bX;have HB:=ab qd;clear hR aq bX qd;have qb:Hid (takeC n ⟨sb,bad⟩=([],⟨sb,true⟩)→CR w0 t N S (w.setCell ⟨N,1,none⟩ (.bool true))∧T= []∧Bs w0 (.slice none T.length 0) T):=by
  intro e;rw [e] at hT;cases hT;refine ⟨⟨⟨ad,c,?_,eZ.o_⟩,HB.o_.setCell lf _,lf,aX⟩,rfl,⟨none,0,rfl,⟨rfl,fun h=>absurd rfl h⟩,Nat.le_refl _,by omega,fun _=>rfl⟩⟩;rw [heap_setCell_same w N 1 _ _ _ aU.o_]
  rfl
 cases bad with
 |true=>
  obtain ⟨k1,rfl,k2⟩:=qb.o_ (by unfold takeC;simp);exact V5
 |false=>
 by_cases hl:sb.length<n
 ·have Kw:(n:Int) > (sb.length:Int):=by omega
  obtain ⟨k1,rfl,k2⟩:=qb.o_ (by unfold takeC;simp [hl]);exact V5
 ·have Kw:¬(n:Int) > (sb.length:Int):=by omega
  have OX:(n:Int)≤(c:Int):=by have:=hp.2.2.1;omega
  have e:takeC n ⟨sb,false⟩=(sb.take n,⟨sb.drop n,false⟩):=by unfold takeC;simp;omega
  rw [e] at hT;obtain ⟨Lx,df,rC,GN⟩:=V4 (P:=prog) (j:=n) underlying22 Tryz.cJ (show n≤sb.length by omega) hp.2.2.1 hp.2.2.2.2;have bG:Rd w0 1 Lx (sb.length - n) (bv (sb.drop n)):=by
   have:=GN w0 _ hp.2.1;rw [Nat.mul_one] at this;have e:(bv sb).drop n=bv (sb.drop n):=by unfold bv;rw [List.map_drop]
   rwa [e] at this
  obtain ⟨jT,Ky⟩:=V2 (c:=c - n) bG (by have:=hp.2.2.1;omega) (by have:=hp.2.2.2.1;omega) rC;have jn:Bs w0 (.slice ad n c) (sb.take n):=Bs.cut eZ.o_ (by omega);have iB:(sb.take n).length=n:=by rw [List.length_take];omega
  cases hT;have l_:=ab jn;have fO:CR w0 t N ⟨sb.drop n,false⟩ (w.setCell ⟨N,0,none⟩ (.slice Lx (sb.length - n) (c - n))):=by
   refine ⟨⟨Lx,c - n,?_,?_⟩,HB.o_.setCell lf _,lf,by simp only [List.length_drop];omega⟩
   ·rw [heap_setCell_same w N 0 _ _ _ aU.o_,jT]
    rfl
   ·simp only;rw [←jT];exact Ky
  have yv:=ab fO;have zK:=ab iB;clear hp GN bG Ky jn jT fO qb e iB f1;go_enter func168,ntmps168;go_wp2;have hr:=HR.o_ ad c (w.setCell ⟨N,0,none⟩ (.slice Lx (sb.length - n) (c - n)));rw [zK.o_] at hr;exact hr l_.o_ yv.o_ (bL w ⟨N,0,none⟩ _)
theorem CR.lt{s:Cu}(h:CR w0 t N s w):N<w.heap.size:=by
 obtain ⟨ad,c,hr,_⟩:=h.row;exact (Array.getElem?_eq_some_iff.1 hr).1
theorem CR.mark{b:List UInt8}{x:Bool}(h:CR w0 t N ⟨b,x⟩ w)(y:Bool):CR w0 t N ⟨b,y⟩ (w.setCell ⟨N,1,none⟩ (.bool y)):=by
 obtain ⟨ad,c,hr,hs⟩:=h.row;refine ⟨⟨ad,c,?_,hs⟩,h.low.setCell h.nn _,h.nn,h.len⟩;rw [heap_setCell_same w N 1 _ _ _ hr]
 rfl
theorem ik(h:w.ownsRow B e size v n xs)(hN:N<B):∀k,v.ownBlock=some k→some k≠some N:=fun k hk e=>by
 have:=(h.lt k hk).1;cases e
 omega
theorem V6(l D:List UInt8)(u er:Int)(h:eO l=(D,u,er)):0≤u∧u≤65537:=by
 rcases J5 l with ⟨_,e⟩|⟨n,hn,tE,nU,⟨_,e⟩|⟨h2,e⟩⟩<;>(rw [h] at e;simp only [Prod.mk.injEq] at e;omega)
theorem afn(l D:List UInt8)(u er:Int)(h:dq l=(D,u,er)):0≤u∧u≤65537:=by
 obtain ⟨D',u',afo,hd⟩:∃D u er,eO l=(D,u,er):=⟨_,_,_,rfl⟩
 have:=V6 l D' u' afo hd;unfold dq at h;rw [hd] at h;simp only at h
 split at h
 ·cases h;omega
 ·split at h<;>cases h<;>omega
theorem C3(t N n:Nat)(s:Cu)(x:Int)(S:Cu)(hx:ny n s=(x,S))(hn:n≤9223372036854775807)(w0 w:World)(h:CR w0 t N s w)(R:Ending→World→Prop)
 (hR:∀w',CR w0 t N S w'→w.grownBy w' (some N)→R (.returned (.int .i64 x)) w'):
 Calls prog 150 #[.pointer (some ⟨N,0,none⟩),.int .i64 n] w R:=by
 have HR:=ab hR;obtain ⟨T,S',hT⟩:∃T S,takeC n s=(T,S):=⟨_,_,rfl⟩
 unfold ny at hx;rw [hT] at hx;simp only [Prod.mk.injEq] at hx;obtain ⟨hx,rfl⟩:=hx;obtain ⟨g,hg⟩:=ai (cz T);rw [hg] at hx;have HX:=ab hx;have HG:=ab hg;have HT:=ab hT;have HC:=ab h;clear hR hT hx hg h;go_enter func150,ntmps150;go_wp2_with (first
  |(go_at_call 168;go_must (refine GL t N n s T S' HT.o_ hn w0 _ HC.o_ _ ?_);intro xa xc w2 ah b_ bM;have aY:=ab (ah.below b_.low);have ek:=ab b_;have oL:=ab bM;clear ah b_ bM)
  |(go_at_call 109;go_must (refine get_at _ T g HG.o_ _ aY.o_ _ ?_)))
 have e:wrap64 (g:Int)=x:=by rw [←HX.o_,IntKind.wrap_i64];unfold wrap64;omega
 show R (.returned (.int .i64 (wrap64 (g:Int)))) w2;rw [e];exact HR.o_ _ ek.o_ oL.o_
theorem OY(t N:Nat)(s:Cu)(T:List UInt8)(S:Cu)(hx:zJ s=(T,S))(w0 w:World)(h:CR w0 t N s w)(hT:di w0)(R:Ending→World→Prop)
 (hR:∀w',CR w0 t N S w'→w.grownBy w' (some N)→R (.returned (.string (str T))) w'):
 Calls prog 151 #[.pointer (some ⟨N,0,none⟩)] w R:=by
 have HR:=ab hR;obtain ⟨sb,bad⟩:=s;obtain ⟨D,u,er,hD⟩:∃D u er,dq sb=(D,u,er):=⟨_,_,_,rfl⟩
 have hu:=afn _ _ _ _ hD;obtain ⟨n,rfl⟩:∃n:Nat,u=(n:Int):=⟨u.toNat,by omega⟩
 unfold zJ at hx;simp only [hD,toNat_natCast] at hx;obtain ⟨X,S',hk⟩:∃X S,takeC n ⟨sb,bad || er != 0⟩=(X,S):=⟨_,_,rfl⟩
 rw [hk] at hx;simp only [Prod.mk.injEq] at hx;obtain ⟨rfl,rfl⟩:=hx;have HD:=ab hD;have HC:=ab h;have HT:=ab hT;have ao:=h.lt;obtain ⟨ad,c,aq,bX⟩:=h.row;simp only at aq bX;have c0:=af w N 0 _ _ _ aq;have eZ:=ab (bX.below h.low);have hn:n≤9223372036854775807:=by omega
 have ft:=ab ao;clear hR hD h bX hu aq ao hT;cases bad with
 |true=>
  rw [Bool.true_or] at hk;have HK:=ab hk;clear hk;go_enter func151,ntmps151;go_wp2_with (first
   |(go_at_call 108;go_must (refine Co _ sb D n _ HD.o_ _ eZ.o_ (HT.o_.below HC.o_.low) _ ?_);intro w2 ah;have aY:=ab ah;obtain ⟨iR,c2,bW,_⟩:=(HC.o_.below ah).row;have c1:=af w2 N 1 _ _ _ bW;have f1:=aB bW 1;clear ah bW c0)
   |(go_at_call 168;go_must (refine GL t N n ⟨sb,true⟩ X S' HK.o_ hn w0 _ ((HC.o_.below aY.o_).mark true) _ ?_);intro xa xc w4 _ iq cT;have mH:=ab iq;have Kz:=ab cT;have oj:=ab (bO (iT aY.o_) (bO (bL w2 ⟨N,1,none⟩ (.bool true)) cT));clear iq cT))
  exact HR.o_ _ mH.o_ oj.o_
 |false=>
  rw [Bool.false_or] at hk;have HK:=ab hk;clear hk;go_enter func151,ntmps151;go_wp2_with (first
   |(go_at_call 108;go_must (refine Co _ sb D n _ HD.o_ _ eZ.o_ (HT.o_.below HC.o_.low) _ ?_);intro w2 ah;have aY:=ab ah;obtain ⟨iR,c2,bW,_⟩:=(HC.o_.below ah).row;have c1:=af w2 N 1 _ _ _ bW;have f1:=aB bW 1;clear ah bW c0)
   |(go_at_call 168;go_must (refine GL t N n ⟨sb,er != 0⟩ X S' HK.o_ hn w0 _ ((HC.o_.below aY.o_).mark (er != 0)) _ ?_);intro xa xc w4 _ iq cT;have mH:=ab iq;have Kz:=ab cT;have oj:=ab (bO (iT aY.o_) (bO (bL w2 ⟨N,1,none⟩ (.bool (er != 0))) cT));clear iq cT))
  exact HR.o_ _ mH.o_ oj.o_
theorem V7{P:Prop}(h:P:=by
 exact HR.o_ da dc _ (cY (cY ix.o_ (bL w2 ⟨N,1,none⟩ _) (ik ix.o_ ft.o_)) Kz.o_ (ik ix.o_ ft.o_)) mH.o_ oj.o_):P:=h
theorem V8(t N:Nat)(s:Cu)(T:List UInt8)(S:Cu)(hx:C2 s=(T,S))(w0 w:World)(h:CR w0 t N s w)(R:Ending→World→Prop)
 (hR:∀xa xc w',w'.ownsRow w 5 1 (.slice xa T.length xc) T.length (bv T)→CR w0 t N S w'→w.grownBy w' (some N)→R (.returned (.slice xa T.length xc)) w'):
 Calls prog 148 #[.pointer (some ⟨N,0,none⟩)] w R:=by
 have HR:=ab hR;obtain ⟨sb,bad⟩:=s;obtain ⟨D,u,er,hD⟩:∃D u er,eO sb=(D,u,er):=⟨_,_,_,rfl⟩
 have hu:=V6 _ _ _ _ hD;obtain ⟨n,rfl⟩:∃n:Nat,u=(n:Int):=⟨u.toNat,by omega⟩
 unfold C2 at hx;simp only [hD,toNat_natCast] at hx;obtain ⟨X,S',hk⟩:∃X S,takeC n ⟨sb,bad || er != 0⟩=(X,S):=⟨_,_,rfl⟩
 rw [hk] at hx;simp only [Prod.mk.injEq] at hx;obtain ⟨rfl,rfl⟩:=hx;have HD:=ab hD;have HC:=ab h;have ao:=h.lt;obtain ⟨ad,c,aq,bX⟩:=h.row;simp only at aq bX;have c0:=af w N 0 _ _ _ aq;have eZ:=ab (bX.below h.low);have hn:n≤9223372036854775807:=by omega
 have ft:=ab ao;clear hR hD h bX hu aq ao;cases bad with
 |true=>
  rw [Bool.true_or] at hk;have HK:=ab hk;clear hk;go_enter func148,ntmps148;go_wp2_with (first
   |(go_at_call 112;go_must (refine Cn _ sb D n _ HD.o_ _ eZ.o_ _ ?_);intro da dc w2 gO ah;have ix:=ab gO;clear gO;have aY:=ab ah;obtain ⟨iR,c2,bW,_⟩:=(HC.o_.below ah).row;have c1:=af w2 N 1 _ _ _ bW;have f1:=aB bW 1;clear ah bW c0)
   |(go_at_call 168;go_must (refine GL t N n ⟨sb,true⟩ X S' HK.o_ hn w0 _ ((HC.o_.below aY.o_).mark true) _ ?_);intro xa xc w4 _ iq cT;have mH:=ab iq;have Kz:=ab cT;have oj:=ab (bO (iT aY.o_) (bO (bL w2 ⟨N,1,none⟩ (.bool true)) cT));clear iq cT))
  exact V7
 |false=>
  rw [Bool.false_or] at hk;have HK:=ab hk;clear hk;go_enter func148,ntmps148;go_wp2_with (first
   |(go_at_call 112;go_must (refine Cn _ sb D n _ HD.o_ _ eZ.o_ _ ?_);intro da dc w2 gO ah;have ix:=ab gO;clear gO;have aY:=ab ah;obtain ⟨iR,c2,bW,_⟩:=(HC.o_.below ah).row;have c1:=af w2 N 1 _ _ _ bW;have f1:=aB bW 1;clear ah bW c0)
   |(go_at_call 168;go_must (refine GL t N n ⟨sb,er != 0⟩ X S' HK.o_ hn w0 _ ((HC.o_.below aY.o_).mark (er != 0)) _ ?_);intro xa xc w4 _ iq cT;have mH:=ab iq;have Kz:=ab cT;have oj:=ab (bO (iT aY.o_) (bO (bL w2 ⟨N,1,none⟩ (.bool (er != 0))) cT));clear iq cT))
  exact V7
theorem V9(t N:Nat)(s:Cu)(x:Int)(S:Cu)(hx:ny 1 s=(x,S))(w0 w:World)(h:CR w0 t N s w)(R:Ending→World→Prop)
 (hR:∀w',CR w0 t N S w'→w.grownBy w' (some N)→R (.returned (.tuple #[.int .i64 (bits .and .i64 x 3),.bool (bits .and .i64 x 4 != 0)])) w'):
 Calls prog 149 #[.pointer (some ⟨N,0,none⟩)] w R:=by
 have HR:=ab hR;have HX:=ab hx;have HC:=ab h;clear hR hx h;go_enter func149,ntmps149;go_wp2_with (first
  |(go_at_call 150;go_must (refine C3 t N 1 s x S HX.o_ (by decide) w0 _ HC.o_ _ ?_);intro w2 b_ bM;have ek:=ab b_;have oL:=ab bM;clear b_ bM))
 exact HR.o_ _ ek.o_ oL.o_
open Nat (ne_of_gt)
variable{A dc:Nat}{o:Obj}{da:Option Addr}
theorem dQ(hg:w.grownBy w' (some N))(hB:w.heap[B]? =some o)(bh:B≠N):w'.heap[B]? =some o:=by
 have ao:=(Array.getElem?_eq_some_iff.1 hB).1;rw [hg.block B ao (by simpa using bh)];exact hB
def OZ(x:World)(N:Nat)(v0 v1 v2 v3 v4 v5 v6 v7 v8 v9:Value):World:=((((((((((x.setCell ⟨N,0,none⟩ v0).setCell ⟨N,1,none⟩ v1).setCell ⟨N,2,none⟩ v2).setCell ⟨N,3,none⟩ v3).setCell ⟨N,4,none⟩ v4).setCell ⟨N,5,none⟩ v5).setCell ⟨N,6,none⟩ v6).setCell ⟨N,7,none⟩ v7).setCell ⟨N,8,none⟩ v8).setCell ⟨N,9,none⟩ v9)
theorem V_{x:World}{c0 c1 c2 c3 c4 c5 c6 c7 c8 c9:Value}(q0:x.heap[N]? =some (.cells #[c0,c1,c2,c3,c4,c5,c6,c7,c8,c9] t (0,0)))(v0 v1 v2 v3 v4 v5 v6 v7 v8 v9:Value):(OZ x N v0 v1 v2 v3 v4 v5 v6 v7 v8 v9).heap[N]? =some (.cells #[v0,v1,v2,v3,v4,v5,v6,v7,v8,v9] t (0,0)):=by
 have q1:(x.setCell ⟨N,0,none⟩ v0).heap[N]? =some (.cells #[v0,c1,c2,c3,c4,c5,c6,c7,c8,c9] t (0,0)):=heap_setCell_same _ _ 0 _ _ _ q0;have q2:((x.setCell ⟨N,0,none⟩ v0).setCell ⟨N,1,none⟩ v1).heap[N]? =some (.cells #[v0,v1,c2,c3,c4,c5,c6,c7,c8,c9] t (0,0)):=heap_setCell_same _ _ 1 _ _ _ q1;have q3:(((x.setCell ⟨N,0,none⟩ v0).setCell ⟨N,1,none⟩ v1).setCell ⟨N,2,none⟩ v2).heap[N]? =some (.cells #[v0,v1,v2,c3,c4,c5,c6,c7,c8,c9] t (0,0)):=heap_setCell_same _ _ 2 _ _ _ q2;have q4:((((x.setCell ⟨N,0,none⟩ v0).setCell ⟨N,1,none⟩ v1).setCell ⟨N,2,none⟩ v2).setCell ⟨N,3,none⟩ v3).heap[N]? =some (.cells #[v0,v1,v2,v3,c4,c5,c6,c7,c8,c9] t (0,0)):=heap_setCell_same _ _ 3 _ _ _ q3;have q5:(((((x.setCell ⟨N,0,none⟩ v0).setCell ⟨N,1,none⟩ v1).setCell ⟨N,2,none⟩ v2).setCell ⟨N,3,none⟩ v3).setCell ⟨N,4,none⟩ v4).heap[N]? =some (.cells #[v0,v1,v2,v3,v4,c5,c6,c7,c8,c9] t (0,0)):=heap_setCell_same _ _ 4 _ _ _ q4;have q6:((((((x.setCell ⟨N,0,none⟩ v0).setCell ⟨N,1,none⟩ v1).setCell ⟨N,2,none⟩ v2).setCell ⟨N,3,none⟩ v3).setCell ⟨N,4,none⟩ v4).setCell ⟨N,5,none⟩ v5).heap[N]? =some (.cells #[v0,v1,v2,v3,v4,v5,c6,c7,c8,c9] t (0,0)):=heap_setCell_same _ _ 5 _ _ _ q5;have q7:(((((((x.setCell ⟨N,0,none⟩ v0).setCell ⟨N,1,none⟩ v1).setCell ⟨N,2,none⟩ v2).setCell ⟨N,3,none⟩ v3).setCell ⟨N,4,none⟩ v4).setCell ⟨N,5,none⟩ v5).setCell ⟨N,6,none⟩ v6).heap[N]? =some (.cells #[v0,v1,v2,v3,v4,v5,v6,c7,c8,c9] t (0,0)):=heap_setCell_same _ _ 6 _ _ _ q6;have q8:((((((((x.setCell ⟨N,0,none⟩ v0).setCell ⟨N,1,none⟩ v1).setCell ⟨N,2,none⟩ v2).setCell ⟨N,3,none⟩ v3).setCell ⟨N,4,none⟩ v4).setCell ⟨N,5,none⟩ v5).setCell ⟨N,6,none⟩ v6).setCell ⟨N,7,none⟩ v7).heap[N]? =some (.cells #[v0,v1,v2,v3,v4,v5,v6,v7,c8,c9] t (0,0)):=heap_setCell_same _ _ 7 _ _ _ q7;have q9:(((((((((x.setCell ⟨N,0,none⟩ v0).setCell ⟨N,1,none⟩ v1).setCell ⟨N,2,none⟩ v2).setCell ⟨N,3,none⟩ v3).setCell ⟨N,4,none⟩ v4).setCell ⟨N,5,none⟩ v5).setCell ⟨N,6,none⟩ v6).setCell ⟨N,7,none⟩ v7).setCell ⟨N,8,none⟩ v8).heap[N]? =some (.cells #[v0,v1,v2,v3,v4,v5,v6,v7,v8,c9] t (0,0)):=heap_setCell_same _ _ 8 _ _ _ q8;have afp:((((((((((x.setCell ⟨N,0,none⟩ v0).setCell ⟨N,1,none⟩ v1).setCell ⟨N,2,none⟩ v2).setCell ⟨N,3,none⟩ v3).setCell ⟨N,4,none⟩ v4).setCell ⟨N,5,none⟩ v5).setCell ⟨N,6,none⟩ v6).setCell ⟨N,7,none⟩ v7).setCell ⟨N,8,none⟩ v8).setCell ⟨N,9,none⟩ v9).heap[N]? =some (.cells #[v0,v1,v2,v3,v4,v5,v6,v7,v8,v9] t (0,0)):=heap_setCell_same _ _ 9 _ _ _ q9;exact afp
theorem ET(x:World)(N:Nat)(v0 v1 v2 v3 v4 v5 v6 v7 v8 v9:Value):x.grownBy (OZ x N v0 v1 v2 v3 v4 v5 v6 v7 v8 v9) (some N):=
 bO (bO (bO (bO (bO (bO (bO (bO (bO (bL _ ⟨N,0,none⟩ _) (bL _ ⟨N,1,none⟩ _)) (bL _ ⟨N,2,none⟩ _)) (bL _ ⟨N,3,none⟩ _)) (bL _ ⟨N,4,none⟩ _)) (bL _ ⟨N,5,none⟩ _)) (bL _ ⟨N,6,none⟩ _)) (bL _ ⟨N,7,none⟩ _)) (bL _ ⟨N,8,none⟩ _)) (bL _ ⟨N,9,none⟩ _)
theorem Wa{x:World}(hb:Below B w x)(hN:B≤N)(v0 v1 v2 v3 v4 v5 v6 v7 v8 v9:Value):Below B w (OZ x N v0 v1 v2 v3 v4 v5 v6 v7 v8 v9):=(((((((((hb.setCell hN v0).setCell hN v1).setCell hN v2).setCell hN v3).setCell hN v4).setCell hN v5).setCell hN v6).setCell hN v7).setCell hN v8).setCell hN v9
theorem Bh{x:World}{v5 v6 v7 v8 v9:Value}(q:x.heap[N]? =some (.cells #[v0,v1,v2,v3,v4,v5,v6,v7,v8,v9] t (0,0))):(x.cell? ⟨N,0,none⟩=some v0∧x.frozen? ⟨N,0,none⟩=false)∧(x.cell? ⟨N,1,none⟩=some v1∧x.frozen? ⟨N,1,none⟩=false)∧(x.cell? ⟨N,2,none⟩=some v2∧x.frozen? ⟨N,2,none⟩=false)∧(x.cell? ⟨N,3,none⟩=some v3∧x.frozen? ⟨N,3,none⟩=false)∧(x.cell? ⟨N,4,none⟩=some v4∧x.frozen? ⟨N,4,none⟩=false)∧(x.cell? ⟨N,5,none⟩=some v5∧x.frozen? ⟨N,5,none⟩=false)∧(x.cell? ⟨N,6,none⟩=some v6∧x.frozen? ⟨N,6,none⟩=false)∧(x.cell? ⟨N,7,none⟩=some v7∧x.frozen? ⟨N,7,none⟩=false)∧(x.cell? ⟨N,8,none⟩=some v8∧x.frozen? ⟨N,8,none⟩=false)∧(x.cell? ⟨N,9,none⟩=some v9∧x.frozen? ⟨N,9,none⟩=false):=
 ⟨⟨af x N 0 _ _ _ q,aB q 0⟩,⟨af x N 1 _ _ _ q,aB q 1⟩,⟨af x N 2 _ _ _ q,aB q 2⟩,⟨af x N 3 _ _ _ q,aB q 3⟩,⟨af x N 4 _ _ _ q,aB q 4⟩,⟨af x N 5 _ _ _ q,aB q 5⟩,⟨af x N 6 _ _ _ q,aB q 6⟩,⟨af x N 7 _ _ _ q,aB q 7⟩,⟨af x N 8 _ _ _ q,aB q 8⟩,⟨af x N 9 _ _ _ q,aB q 9⟩⟩
theorem zL{x y:World}(h:w.grownBy x (some N))(hg:x.grownBy y (some B))(hB:w.heap.size≤B):w.grownBy y (some N):=
 ⟨hg.os.trans h.os,hg.tape.trans h.tape,hg.output.trans h.output,Nat.le_trans h.size hg.size,fun k hk bh=>(hg.block k (Nat.lt_of_lt_of_le hk h.size) (fun e=>by cases e;omega)).trans (h.block k hk bh)⟩
theorem CR.other{s:Cu}(h:CR w0 t N s w)(hg:w.grownBy w' (some B))(bh:N≠B)(hl:Below w0 w0 w'):CR w0 t N s w':=by
 obtain ⟨ad,c,hr,hs⟩:=h.row;exact ⟨⟨ad,c,dQ hg hr bh,hs⟩,hl,h.nn,h.len⟩
theorem zM(w:World)(g:Nat)(cs:Array Value):w.grownBy (w.setRow g cs) (some g):=
 ⟨rfl,rfl,rfl,by simp,fun k _ bh=>setRow_other w g k cs (fun e=>bh (by rw [e]))⟩
structure NS(w0 w1:World)(t N A B:Nat)(s:Cu)(cs:List Value)(da:Option Addr)(dc:Nat)(D:List UInt8)(w:World):Prop where
 row:w.heap[B]? =some (.cells cs.toArray 34 (0,0))
 own:w.ownsRow (A+1) 5 1 (.slice da D.length dc) D.length (bv D)
 cr:CR w0 t N s w
 gr:w1.grownBy w (some N)
 lt:A<B
 nb:N≠B
 KC:w1.heap.size≤B
 GO:w0.heap.size≤A
theorem NS.set{s:Cu}{D:List UInt8}(h:NS w0 w1 t N A B s cs da dc D w)(i:Nat)(v:Value):NS w0 w1 t N A B s (cs.set i v) da dc D (w.setCell ⟨B,i,none⟩ v):=by
 have hg:=bL w ⟨B,i,none⟩ v;refine ⟨?_,jv h.own h.row (by decide) hg,h.cr.other hg h.nb (h.cr.low.setCell ?_ _),zL h.gr hg h.KC,h.lt,h.nb,h.KC,h.GO⟩
 ·rw [heap_setCell_same w B i _ _ _ h.row];simp
 ·exact Nat.le_trans h.GO (Nat.le_of_lt h.lt)
theorem NS.call{s s':Cu}{D:List UInt8}(h:NS w0 w1 t N A B s cs da dc D w)(hN:N<A+1)(hg:w.grownBy w' (some N))(hc:CR w0 t N s' w'):NS w0 w1 t N A B s' cs da dc D w':=
 ⟨dQ hg h.row (Ne.symm h.nb),cY h.own hg (ik h.own hN),hc,bO h.gr hg,h.lt,h.nb,h.KC,h.GO⟩
theorem NS.below{s:Cu}{D:List UInt8}(h:NS w0 w1 t N A B s cs da dc D w)(hb:Below w w w'):NS w0 w1 t N A B s cs da dc D w':=
 ⟨aA h.row hb,aK h.own hb,h.cr.below hb,bO h.gr (iT hb),h.lt,h.nb,h.KC,h.GO⟩
theorem afq(t N:Nat)(s s1 s2 s3 s4 s5 s6 s7 s8:Cu)(T1 D2 T4:List UInt8)(x3 x5 x6 x7 x8:Int)(h1:zJ s=(T1,s1))(h2:C2 s1=(D2,s2))(h3:ny 1 s2=(x3,s3))(h4:zJ s3=(T4,s4))(h5:ny 8 s4=(x5,s5))(h6:ny 8 s5=(x6,s6))(h7:ny 1 s6=(x7,s7))(h8:ny 1 s7=(x8,s8))(L:List Pr)(used:Int)(cd:Nat)(h9:nk 3 s8.b=(L,used,cd))(eV:s8.b.length≤100000000)(w0 w:World)(h:CR w0 t N s w)(hT:di w0)(R:Ending→World→Prop)
 (hR:∀da dc pa pc w',w'.ownsRow (w.heap.size+1) 5 1 (.slice da D2.length dc) D2.length (bv D2)→cZ w' (w.heap.size+1) (.slice pa L.length pc) L→CR w0 t N ⟨s8.b,s8.bad || (cd:Int) != 0 || used != (s8.b.length:Int)⟩ w'→w.grownBy w' (some N)→R (.returned (.agg (gV T1 da D2 dc (bits .and .i64 x3 3) (bits .and .i64 x3 4 != 0) T4 x5 pa L pc x7 x6 x8))) w'):
 Calls prog 166 #[.pointer (some ⟨N,0,none⟩)] w R:=by
 have H1:=ab h1;have H2:=ab h2;have H3:=ab h3;have H4:=ab h4;have H5:=ab h5;have H6:=ab h6;have H7:=ab h7;have H8:=ab h8;have H9:=ab h9;have yo:=ab eV;have afr:=ab (h.low.size);have HR:=ab hR;clear hR;have HT:=ab hT;have ao:=h.lt;obtain ⟨A,hA⟩:=ai w.heap.size;have hA1:=heap_alloc_new w (Obj.cells fW 34);have dF:=h.below ((Below.refl w w).alloc (Nat.le_refl _) (Obj.cells fW 34));have iX:w.grownBy (w.alloc (Obj.cells fW 34)) (some N):=iT ((Below.refl w w).alloc (Nat.le_refl _) (Obj.cells fW 34));have cm:(w.alloc (Obj.cells fW 34)).heap.size=A+1:=(CV w _).symm.trans (by rw [hA]);have ft:=ab ao;go_enter func166,ntmps166;go_upto_region 1 with fail
 rw [hA] at hA1;generalize w.alloc (Obj.cells fW 34)=w1 at hA1 dF iX cm⊢;have gA:CR w0 t N s w1.drew:=dF.below ((Below.refl _ _).drew);have jA:A+1≤w1.drew.heap.size:=Nat.le_of_eq cm.symm;have lK:w1.grownBy w1.drew (some N):=iT ((Below.refl _ _).drew);have sG:True∧Below w1.drew.heap.size w1.drew (w1.alloc (Obj.cells fW 34)).drew:=And.intro trivial ((Below.refl w1.drew.heap.size w1.drew).alloc (Nat.le_refl _) _);have Wb:w1.heap.size≠N:=by rw [cm];omega
 have lh:Hid (N<A):=by show _<_;omega
 have Wc:A<w1.heap.size:=by omega
 have uG:(w1.alloc (Obj.cells fW 34)).drew.heap[w1.heap.size]? =some (Obj.cells fW 34):=heap_alloc_new w1 _;have Wd:w1.grownBy (w1.alloc (Obj.cells fW 34)).drew (some N):=iT (((Below.refl w1 w1).alloc (Nat.le_refl _) _).drew);have sN:=ab cm;have C4:=ab hA1;clear hA1 dF cm h1 h2 h3 h4 h5 h6 h7 h8 h9 eV h hT;go_cut [3] from 7 to 16 (fun s3 wx=>∃(B:Nat)(da:Option Addr)(dc:Nat),s3= .pointer (some ⟨B,0,none⟩)∧Hid (wx.heap[B]? =some (.cells #[.string (str T1),.slice da D2.length dc,.int .i64 0,.bool false,.string ⟨#[]⟩,.int .i64 0,.slice none 0 0,.int .i64 0,.int .i64 0,.int .i64 0] 34 (0,0)))∧Hid (wx.ownsRow (A+1) 5 1 (.slice da D2.length dc) D2.length (bv D2))∧Hid (CR w0 t N s2 wx)∧Hid (w1.grownBy wx (some N))∧A<B)
 case first=>
  go_region_held3 (fun x=>True)
   (trivial)
   (first
    |(go_at_call 151;refine OY t N s T1 s1 H1.o_ w0 _ ?_ HT.o_ _ ?_;(first|with_reducible exact gA|with_reducible exact gA.below sG.2);intro w2 b_ bM;(first|(have KD:=bO lK bM)|(have KD:=bO Wd bM;have yw:=dQ bM uG Wb));have bn:True∧Below w2 w2 (w2.alloc (Obj.cells fW 34)):=And.intro trivial ((Below.refl _ _).alloc (Nat.le_refl _) _);have nU:A<w2.heap.size:=Nat.lt_of_lt_of_le Wc KD.size)
    |(go_at_call 148;refine V8 t N s1 D2 s2 H2.o_ w0 _ ?_ _ ?_;(first|with_reducible exact b_|with_reducible exact b_.below bn.2);intro da dc w3 bD j5 cB;(first|(have GP:=bO KD cB;(first|(have yx:=dQ cB yw Wb;obtain ⟨⟨z0,y0⟩,⟨z1,y1⟩,⟨z2,y2⟩,⟨z3,y3⟩,⟨z4,y4⟩,⟨z5,y5⟩,⟨z6,y6⟩,⟨z7,y7⟩,⟨z8,y8⟩,⟨z9,y9⟩⟩:=Bh yx)|skip))|(have GP:=bO (bO KD (iT bn.2)) cB;have AM:=dQ cB (heap_alloc_new w2 (Obj.cells fW 34)) (ne_of_gt (Nat.lt_trans lh.o_ nU));obtain ⟨⟨z0,y0⟩,⟨z1,y1⟩,⟨z2,y2⟩,⟨z3,y3⟩,⟨z4,y4⟩,⟨z5,y5⟩,⟨z6,y6⟩,⟨z7,y7⟩,⟨z8,y8⟩,⟨z9,y9⟩⟩:=Bh AM))))
  ·go_wp2_with fail;go_meet;have cx:Below w3 w3 (w3.alloc (Obj.cells #[.string (str T1),.slice da D2.length dc,.int .i64 0,.bool false,.string ⟨#[]⟩,.int .i64 0,.slice none 0 0,.int .i64 0,.int .i64 0,.int .i64 0] 34)):=(Below.refl _ _).alloc (Nat.le_refl _) _;exact ⟨w3.heap.size,da,dc,rfl,ab (heap_alloc_new w3 _),ab (bN (aK bD cx) nU),ab (j5.below cx),ab (bO GP (iT cx)),Nat.lt_of_lt_of_le Wc GP.size⟩
  ·go_wp2_with fail;go_meet;have ij:w2.heap.size<(w2.alloc (Obj.cells fW 34)).heap.size:=Nat.lt_of_lt_of_le (Nat.lt_succ_self _) (Nat.le_of_eq (CV w2 _));exact ⟨w2.heap.size,da,dc,rfl,ab (V_ AM (.string (str T1)) (.slice da D2.length dc) (.int .i64 0) (.bool false) (.string ⟨#[]⟩) (.int .i64 0) (.slice none 0 0) (.int .i64 0) (.int .i64 0) (.int .i64 0)),ab (bN (cY bD (ET w3 (w2.heap.size) (.string (str T1)) (.slice da D2.length dc) (.int .i64 0) (.bool false) (.string ⟨#[]⟩) (.int .i64 0) (.slice none 0 0) (.int .i64 0) (.int .i64 0) (.int .i64 0)) (ik bD ij)) (Nat.le_trans nU (Nat.le_of_lt ij))),ab (j5.other (ET w3 (w2.heap.size) (.string (str T1)) (.slice da D2.length dc) (.int .i64 0) (.bool false) (.string ⟨#[]⟩) (.int .i64 0) (.slice none 0 0) (.int .i64 0) (.int .i64 0) (.int .i64 0)) (by have:=lh.o_;have:=sN.o_;omega) (Wa j5.low (by have:=lh.o_;have:=sN.o_;have:=j5.nn;omega) (.string (str T1)) (.slice da D2.length dc) (.int .i64 0) (.bool false) (.string ⟨#[]⟩) (.int .i64 0) (.slice none 0 0) (.int .i64 0) (.int .i64 0) (.int .i64 0))),ab (zL GP (ET w3 (w2.heap.size) (.string (str T1)) (.slice da D2.length dc) (.int .i64 0) (.bool false) (.string ⟨#[]⟩) (.int .i64 0) (.slice none 0 0) (.int .i64 0) (.int .i64 0) (.int .i64 0)) (by have:=sN.o_;omega)),by have:=sN.o_;omega⟩
  ·go_wp2_with fail;go_meet;have ij:w1.heap.size<w2.heap.size:=(Array.getElem?_eq_some_iff.1 yw).1;exact ⟨w1.heap.size,da,dc,rfl,ab (V_ yx (.string (str T1)) (.slice da D2.length dc) (.int .i64 0) (.bool false) (.string ⟨#[]⟩) (.int .i64 0) (.slice none 0 0) (.int .i64 0) (.int .i64 0) (.int .i64 0)),ab (bN (cY bD (ET w3 (w1.heap.size) (.string (str T1)) (.slice da D2.length dc) (.int .i64 0) (.bool false) (.string ⟨#[]⟩) (.int .i64 0) (.slice none 0 0) (.int .i64 0) (.int .i64 0) (.int .i64 0)) (ik bD ij)) nU),ab (j5.other (ET w3 (w1.heap.size) (.string (str T1)) (.slice da D2.length dc) (.int .i64 0) (.bool false) (.string ⟨#[]⟩) (.int .i64 0) (.slice none 0 0) (.int .i64 0) (.int .i64 0) (.int .i64 0)) (by have:=lh.o_;have:=sN.o_;omega) (Wa j5.low (by have:=lh.o_;have:=sN.o_;have:=j5.nn;omega) (.string (str T1)) (.slice da D2.length dc) (.int .i64 0) (.bool false) (.string ⟨#[]⟩) (.int .i64 0) (.slice none 0 0) (.int .i64 0) (.int .i64 0) (.int .i64 0))),ab (zL GP (ET w3 (w1.heap.size) (.string (str T1)) (.slice da D2.length dc) (.int .i64 0) (.bool false) (.string ⟨#[]⟩) (.int .i64 0) (.slice none 0 0) (.int .i64 0) (.int .i64 0) (.int .i64 0)) (by have:=sN.o_;omega)),by have:=sN.o_;omega⟩
 obtain ⟨B,da,dc,rfl,b6,We,mH,oj,afs⟩:=hcut;obtain ⟨w4,rfl⟩:∃x,x=wc:=⟨_,rfl⟩
 have Wf:NS w0 w1 t N A B s2 [Value.string (str T1),.slice da D2.length dc,.int .i64 0,.bool false,.string ⟨#[]⟩,.int .i64 0,.slice none 0 0,.int .i64 0,.int .i64 0,.int .i64 0] da dc D2 w4:=⟨b6.o_,We.o_,mH.o_,oj.o_,afs,by have:=lh.o_;omega,by have:=sN.o_;omega,by rw [←hA];exact afr.o_⟩
 have Wg:=ab Wf;have tL:Hid (N<A+1):=Nat.lt_succ_of_lt lh.o_;clear Wf b6 We mH oj gA jA lK sG uG Wd;go_upto_region 3 with (first
  |(go_at_call 149;go_must (refine V9 t N s2 x3 s3 H3.o_ w0 _ Wg.o_.cr _ ?_);intro w5 qe fo;have n5:=Wg.o_.call tL.o_ fo qe;obtain ⟨⟨z0,y0⟩,⟨z1,y1⟩,⟨z2,y2⟩,⟨z3,y3⟩,⟨z4,y4⟩,⟨z5,y5⟩,⟨z6,y6⟩,⟨z7,y7⟩,⟨z8,y8⟩,⟨z9,y9⟩⟩:=Bh n5.row;have aft:=ab n5;clear n5 qe fo))
 have n6:NS w0 w1 t N A B s3 [Value.string (str T1),.slice da D2.length dc,.int .i64 (bits .and .i64 x3 3),.bool (bits .and .i64 x3 4 != 0),.string ⟨#[]⟩,.int .i64 0,.slice none 0 0,.int .i64 0,.int .i64 0,.int .i64 0] da dc D2 ((w5.setCell ⟨B,2,none⟩ (.int .i64 (bits .and .i64 x3 3))).setCell ⟨B,3,none⟩ (.bool (bits .and .i64 x3 4 != 0))):=(aft.o_.set 2 (.int .i64 (bits .and .i64 x3 3))).set 3 (.bool (bits .and .i64 x3 4 != 0));generalize ((w5.setCell ⟨B,2,none⟩ (.int .i64 (bits .and .i64 x3 3))).setCell ⟨B,3,none⟩ (.bool (bits .and .i64 x3 4 != 0)))=w6 at n6⊢;have Wh:=ab n6;clear n6 z0 y0 z1 y1 z2 y2 z3 y3 z4 y4 z5 y5 z6 y6 z7 y7 z8 y8 z9 y9;go_upto_region 4 with (first
  |(go_at_call 151;go_must (refine OY t N s3 T4 s4 H4.o_ w0 _ Wh.o_.cr HT.o_ _ ?_);intro w7 sO iu;have n7:=Wh.o_.call tL.o_ iu sO;obtain ⟨⟨z0,y0⟩,⟨z1,y1⟩,⟨z2,y2⟩,⟨z3,y3⟩,⟨z4,y4⟩,⟨z5,y5⟩,⟨z6,y6⟩,⟨z7,y7⟩,⟨z8,y8⟩,⟨z9,y9⟩⟩:=Bh n7.row;have afu:=ab n7;clear n7 sO iu))
 have n8:NS w0 w1 t N A B s4 [Value.string (str T1),.slice da D2.length dc,.int .i64 (bits .and .i64 x3 3),.bool (bits .and .i64 x3 4 != 0),.string (str T4),.int .i64 0,.slice none 0 0,.int .i64 0,.int .i64 0,.int .i64 0] da dc D2 (w7.setCell ⟨B,4,none⟩ (.string (str T4))):=afu.o_.set 4 (.string (str T4));generalize (w7.setCell ⟨B,4,none⟩ (.string (str T4)))=w8 at n8⊢;have KE:=n8.below (Below.refl w8 w8).drew;clear z0 y0 z1 y1 z2 y2 z3 y3 z4 y4 z5 y5 z6 y6 z7 y7 z8 y8 z9 y9;go_cut [] from 28 to 38 (fun wx=>Hid (NS w0 w1 t N A B s6 [Value.string (str T1),.slice da D2.length dc,.int .i64 (bits .and .i64 x3 3),.bool (bits .and .i64 x3 4 != 0),.string (str T4),.int .i64 x5,.slice none 0 0,.int .i64 0,.int .i64 x6,.int .i64 0] da dc D2 wx))
 case first=>
  go_region_held3 (fun x=>True)
   (trivial)
   (first
    |(have hq:=n8;go_at_call 150;refine C3 t N 8 s4 x5 s5 H5.o_ (by decide) w0 _ KE.cr _ ?_;intro w9 nA bo;have n9:=KE.call tL.o_ bo nA;clear hq n8 KE nA bo)
    |(have hq:=n9;go_at_call 150;refine C3 t N 8 s5 x6 s6 H6.o_ (by decide) w0 _ n9.cr _ ?_;intro eo sP iE;have O2:=n9.call tL.o_ iE sP;obtain ⟨⟨z0,y0⟩,⟨z1,y1⟩,⟨z2,y2⟩,⟨z3,y3⟩,⟨z4,y4⟩,⟨z5,y5⟩,⟨z6,y6⟩,⟨z7,y7⟩,⟨z8,y8⟩,⟨z9,y9⟩⟩:=Bh O2.row;clear hq n9 sP iE))
  all_goals
   go_wp2_with fail;go_meet
   first
    |exact ab ((O2.set 5 (.int .i64 x5)).set 8 (.int .i64 x6))
    |exact ab ((O2.set 8 (.int .i64 x6)).set 5 (.int .i64 x5))
 obtain ⟨dR,rfl⟩:∃x,x=wc:=⟨_,rfl⟩
 have O3:=hcut.o_.below (Below.refl dR dR).drew;clear n8 KE;go_upto_region 5 with fail
 go_cut [] from 38 to 48 (fun wx=>Hid (NS w0 w1 t N A B s8 [Value.string (str T1),.slice da D2.length dc,.int .i64 (bits .and .i64 x3 3),.bool (bits .and .i64 x3 4 != 0),.string (str T4),.int .i64 x5,.slice none 0 0,.int .i64 x7,.int .i64 x6,.int .i64 x8] da dc D2 wx))
 case first=>
  go_region_held3 (fun x=>True)
   (trivial)
   (first
    |(have hq:=hcut;go_at_call 150;refine C3 t N 1 s6 x7 s7 H7.o_ (by decide) w0 _ O3.cr _ ?_;intro fP GQ om;have Bi:=O3.call tL.o_ om GQ;clear hq hcut O3 GQ om)
    |(have hq:=Bi;go_at_call 150;refine C3 t N 1 s7 x8 s8 H8.o_ (by decide) w0 _ Bi.cr _ ?_;intro Bj Wi rN;have n13:=Bi.call tL.o_ rN Wi;obtain ⟨⟨z0,y0⟩,⟨z1,y1⟩,⟨z2,y2⟩,⟨z3,y3⟩,⟨z4,y4⟩,⟨z5,y5⟩,⟨z6,y6⟩,⟨z7,y7⟩,⟨z8,y8⟩,⟨z9,y9⟩⟩:=Bh n13.row;clear hq Bi Wi rN))
  all_goals
   go_wp2_with fail;go_meet
   first
    |exact ab ((n13.set 7 (.int .i64 x7)).set 9 (.int .i64 x8))
    |exact ab ((n13.set 9 (.int .i64 x8)).set 7 (.int .i64 x7))
 go_upto_region 6 with fail
 obtain ⟨GR,rfl⟩:∃x,x=wc:=⟨_,rfl⟩
 have EU:=hcut;obtain ⟨la,lc,Wj,Wk⟩:=EU.o_.cr.row;have k0:=af GR N 0 _ _ _ Wj;have tM:=ab (Wk.below EU.o_.cr.low);clear hcut Wj Wk;go_upto_region 7 with (first
  |(go_at_call 173;go_must (refine Gm 3 _ s8.b L used cd H9.o_ yo.o_ _ tM.o_ (HT.o_.below EU.o_.cr.low) _ ?_);intro pa pc qf Wl Wm;have Wn:=EU.o_.below Wm;have afv:=ab Wl;have O4:=ab Wn;clear Wn Wl Wm k0))
 obtain ⟨y,hy⟩:∃y,(s8.bad || (cd:Int) != 0 || used != (s8.b.length:Int))=y:=⟨_,rfl⟩
 have HY:=ab hy;clear hy;go_cut [] from 58 to 81 (fun wx=>wx=qf.setCell ⟨N,1,none⟩ (.bool y))
 case first=>
  obtain ⟨lb,ld,KF,_⟩:=O4.o_.cr.row;have m0:=af qf N 0 _ _ _ KF;have m1:qf.cell? ⟨N,1,none⟩=some (.bool s8.bad):=af qf N 1 _ _ _ KF;have f1:=aB KF 1;clear KF;obtain ⟨b8,afw⟩:=s8;simp only at*;cases afw with
  |true=>
   go_wp2_with fail;go_meet;rw [←HY.o_]
   rfl
  |false=>
   by_cases hc:(cd:Int)=0
   ·have b_:((cd:Int) != 0)=false:=by rw [hc];rfl
    go_wp2_with fail;go_meet;rw [←HY.o_,b_]
    first|rfl|(rw [Bool.false_or,Bool.false_or])|simp
   ·have b_:((cd:Int) != 0)=true:=bne_iff_ne.2 hc;go_wp2_with fail;go_meet;rw [←HY.o_,b_]
    first|rfl|(rw [Bool.false_or,Bool.false_or])|simp
 subst hcut;have n16:=O4.o_.call tL.o_ (bL qf ⟨N,1,none⟩ (.bool y)) (CR.mark O4.o_.cr y);have p16:=afv.o_.qI (bL qf ⟨N,1,none⟩ (.bool y)) EU.o_.cr.lt;generalize qf.setCell ⟨N,1,none⟩ (.bool y)=O5 at n16 p16⊢;obtain ⟨⟨z0,y0⟩,⟨z1,y1⟩,⟨z2,y2⟩,⟨z3,y3⟩,⟨z4,y4⟩,⟨z5,y5⟩,⟨z6,y6⟩,⟨z7,y7⟩,⟨z8,y8⟩,⟨z9,y9⟩⟩:=Bh n16.row;go_upto_region 9 with fail
 have GS:NS w0 w1 t N A B ⟨s8.b,y⟩ (gV T1 da D2 dc (bits .and .i64 x3 3) (bits .and .i64 x3 4 != 0) T4 x5 pa L pc x7 x6 x8) da dc D2 (O5.setCell ⟨B,6,none⟩ (.slice pa L.length pc)):=n16.set 6 (.slice pa L.length pc);have O6:=p16.typed n16.row (by decide) (by decide) (bL O5 ⟨B,6,none⟩ (.slice pa L.length pc));clear z0 y0 z1 y1 z2 y2 z3 y3 z4 y4 z5 y5 z6 y6 z7 y7 z8 y8 z9 y9 n16 p16;generalize O5.setCell ⟨B,6,none⟩ (.slice pa L.length pc)=Wo at GS O6⊢;obtain ⟨⟨z0,y0⟩,⟨z1,y1⟩,⟨z2,y2⟩,⟨z3,y3⟩,⟨z4,y4⟩,⟨z5,y5⟩,⟨z6,y6⟩,⟨z7,y7⟩,⟨z8,y8⟩,⟨z9,y9⟩⟩:=Bh GS.row;have KG:=ab (dQ GS.gr C4.o_ (ne_of_gt lh.o_));have GU:=ab GS;have afx:=ab O6;clear GS O6;go_wp2_with (first
  |(refine wpList_store_row (o:=⟨none,.store 34 (.tmp 2) (.tmp 83),_,_,_,_⟩) (by rfl) 34 (.tmp 2) (.tmp 83) (by rfl) A _ (by rfl) (by rfl) 34 _ KG.o_ (by kernel_rfl) (by rfl) (by simp [Value.oneCell']) ?_))
 have GV:=zM Wo A (gV T1 da D2 dc (bits .and .i64 x3 3) (bits .and .i64 x3 4 != 0) T4 x5 pa L pc x7 x6 x8);have fO:=GU.o_.cr.other GV (by have:=lh.o_;omega) (below_setRow GU.o_.cr.low GU.o_.GO (gV T1 da D2 dc (bits .and .i64 x3 3) (bits .and .i64 x3 4 != 0) T4 x5 pa L pc x7 x6 x8));have aT:=((afx.o_.mono (B':=A+1) (by have:=EU.o_.gr.size;have:=sN.o_;omega)).typed KG.o_ (by decide) (by decide) GV)
 have aV:=jv GU.o_.own KG.o_ (by decide) GV;have uZ:=zL (bO iX GU.o_.gr) GV (Nat.le_of_eq hA);have cw:=HR.o_ da dc pa pc;rw [hA,HY.o_] at cw;have HF:=ab (cw _ aV aT fO uZ);clear cw fO aT aV uZ GV;refine bodyPost_ret (results_cell_row rfl _ _ A 34 (gV T1 da D2 dc (bits .and .i64 x3 3) (bits .and .i64 x3 4 != 0) T4 x5 pa L pc x7 x6 x8) (0,0) _ rfl (setRow_heap Wo A _ _ _ _ KG.o_) underlying34 rfl (by kernel_rfl)) rfl ?_;exact HF.o_
end Go.Proofs.YtgimbocoamnkjaaGreatDoor
