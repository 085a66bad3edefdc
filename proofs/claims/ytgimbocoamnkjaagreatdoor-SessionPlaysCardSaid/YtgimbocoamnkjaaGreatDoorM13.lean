/- A part of the proof of SessionPlays, printed small; no conditions of its own. -/
import Derived.Test.YtgimbocoamnkjaaGreatDoorM12
import Derived.StillTailTactics
set_option maxRecDepth 100000
set_option maxHeartbeats 16000000
namespace Go.Proofs.YtgimbocoamnkjaaGreatDoor
open _root_.Go.Proofs.Tryz
open Int (toNat_natCast)
open List (eraseIdx_eq_take_drop_succ)
open Go.RowKit
theorem agQ(Rb:Nat)(s:aF)(f:List UInt8)(z:Int)(hz:cV (fun y:Sb=>y.filter==f) s.ay=z)(hl:s.ay.length≤100000)(w:World)(Ms M:Nat→Prop)(h:RR w Ms M Rb s)(ao:∀b,Ms b→b<w.heap.size)(R:Ending→World→Prop)
 (hR:∀M' w',RR w' Ms M' Rb (if z<0 then s else {s with ay:=s.ay.eraseIdx z.toNat})→Sep M M' w w'→R (.returned (.bool (decide (0≤z)))) w'):
 Calls prog 80 #[.pointer (some ⟨Rb,0,none⟩),.string (str f)] w R:=by
 obtain ⟨sv,qv,fv,gv,hx⟩:=h;have HR:=ab hR;have hs:=hx.hs;have c4:=hx.cells.2.2.2.2.1;have HX:=ab hx;have HZ:=ab hz;obtain ⟨n,hn⟩:=ai s.ay.length;rw [hn] at hs hl;obtain ⟨ga,gc,rfl⟩:=bF hs;obtain ⟨i0,bS,_,cm,_⟩:=info_parts kW;have HG:=ab hs;have HN:=ab hn;have ft:=ab ao;clear hR hx hs hn hz ao;go_enter func80,ntmps80;go_wp2;go_loopg [5] n (fun gn i wr=>∃k:Nat,k≤n∧gn=n - k∧i= .int .i64 k∧wr=w∧Hid (∀j (hj:j<k) (eE:j<s.ay.length),((s.ay[j]).filter==f)=false))
 case atStart=>exact ⟨0,Nat.zero_le _,by omega,rfl,rfl,ab (fun j hj=>by omega)⟩
 case round=>
  obtain ⟨k,hk,rfl,rfl,rfl,lv⟩:=hrel;by_cases ao:k<n
  ·have bd:(k:Int)<(n:Int):=by omega
   have f_:k<s.ay.length:=by have:=HN.o_;omega
   obtain ⟨g,rfl⟩:=et HG.o_ (by omega);have ef:=yd HG.o_ HN.o_ f_ 0 (by omega);obtain ⟨v,hv⟩:=ai ((s.ay[k]).filter);have xk:wr.cell? ⟨g,k*6,none⟩=some (.string (str v)):=by
    rw [←hv];exact ef
   clear ef;by_cases he:v=f
   ·subst he;have zZ:Hid (z=(k:Int)):=by
     show _=_;rw [←HZ.o_];exact Ck f_ (by simp [hv]) (fun j hj=>lv.o_ j hj (by omega))
    have iV:=(bf.gW HG.o_).cap;obtain ⟨Fg,ly⟩:=bf.upto (k:=k) (bf.gW (aK HG.o_ (Below.refl wr wr).drew)) underlying58 bS cm (by omega);obtain ⟨ax,oe,bW,_⟩:=bf.from (k:=k+1) (bf.gW HG.o_) underlying58 bS cm (by omega);have nJ:=bW.cap;have agR:wr.drew.cell? ⟨Rb,4,none⟩=_:=c4;have wQ:=ab bW;have rX:=ab ly;have gg:=ab iV;have ek:=ab nJ;have XE:∀w',(Instr.slice 58 (.slice (some ⟨g,0,none⟩) n gc) (some (.int .i64 ((k:Int)+1))) none none).run prog w'= .ok (.slice ax (n - (k+1)) (gc - (k+1))) w':=oe;have PV:IntKind.i64.wrap ((k:Int)+1)=(k:Int)+1:=by rw [IntKind.wrap_i64];omega
    have Ld:((str v).toList==(str v).toList)=true:=by simp
    clear ly bW iV nJ oe hv lv;go_wp2_with fail;go_region_law (first
     |(refine uL (by rfl) (.tmp 27) (.tmp 33) 58 (by rfl) wr 64 (.agg fX) 6 48 underlying58 kW rfl (by decide) none (by rfl) (World.ownsRow_nil _ _ _ _) (some ⟨g,0,none⟩) k gc _ (by rfl) rX.o_ (xj (sE _)) (fun h=>by cases h) (by unfold maxLen;omega) (by omega) (Nat.le_refl _) ?_;intro fY c3 w3 bD an;have agS:=cell_later an agR;have cH:Below wr wr w3:=dw (Below.refl wr wr).drew an)
     |(refine gx (by rfl) (.tmp 34) (.tmp 41) 58 (by rfl) wr 64 (.agg fX) 6 48 underlying58 kW rfl (by decide) fY k c3 _ (by rfl) bD ax (n - (k+1)) (gc - (k+1)) _ (by rfl) (Df wQ.o_ cH) (Dg (sE _)) ek.o_.2.2 (by unfold maxLen;omega) (by omega) cH.size ?_;intro gL Fh w4 eh cT _;have ak:=bC cH cT cH.size bD;have r4:=aA HX.o_.hS ak;have e4:=af w4 Rb 4 _ _ _ r4;have f4:=aB r4 4))
    all_goals
     have ql:k+(n - (k+1))=(s.ay.eraseIdx k).length:=by
      rw [List.length_eraseIdx_of_lt (by have:=HN.o_;omega),HN.o_]
      omega
     obtain ⟨M',iI,iJ⟩:=RX.Hd (ss:=s.ay.eraseIdx k) HX.o_ ft.o_ ak (by
      rw [←ql,eraseIdx_eq_take_drop_succ,List.flatMap_append,←vW 6 aP fT,←AQ 6 aP fT];exact eh)
     have pV:=ab iI;have rY:=ab iJ;clear iI iJ eh cT ak r4 e4 f4 cH bD agS an ql;have cw:=HR.o_ M' _ (by rw [zZ.o_,if_neg (by omega),toNat_natCast];exact ⟨_,qv,fv,gv,pV.o_⟩) rY.o_;rw [show decide (0≤z)=true by rw [zZ.o_];simp] at cw;have kH:=ab cw;clear cw;go_wp2_with fail;exact kH.o_
   ·have Ld:((str v).toList==(str f).toList)=false:=by rw [JW];simpa using he
    have Hb:Hid (∀j (hj:j<k+1) (eE:j<s.ay.length),((s.ay[j]).filter==f)=false):=fun j hj eE=>by
     by_cases mh:j=k
     ·subst mh;rw [hv]
      simpa using he
     ·exact lv.o_ j (by omega) eE
    have GA:¬str v=str f:=fun e=>he (by
     have h1:=JV v;rw [e,JV] at h1;exact h1.symm)
    have Lf:(v==f)=false:=by simpa using he
    clear hv;exact Ha
  ·have bd:¬(k:Int)<(n:Int):=by omega
   have zZ:Hid (z= -1):=by
    show _=_;rw [←HZ.o_];exact AT fun y hy=>by
     obtain ⟨j,hj,rfl⟩:=List.getElem_of_mem hy;exact lv.o_ j (by have:=HN.o_;omega) hj
   have cw:=HR.o_ M wr (by rw [zZ.o_];exact ⟨_,qv,fv,gv,HX.o_⟩) (.refl _ _);rw [show decide (0≤z)=false by rw [zZ.o_];decide] at cw;have kH:=ab cw;clear cw;go_wp2;exact kH.o_
variable{z:Int}{Rb i:Nat}{M Ms:Nat→Prop}{s:aF}{fv gv qv sv:Value}{w:World}
theorem RX.cj(h:RX w Ms M Rb sv qv fv gv s)(l:List Int):RX w Ms M Rb sv qv fv gv {s with cj:=l}:=
 ⟨h.hS,h.hs,h.hq,h.hf,h.hg,h.mR,h.ms,h.mq,h.mf,h.mg,h.kd,h.lo,h.qj,h.lt⟩
theorem RR.cj(h:RR w Ms M Rb s)(l:List Int):RR w Ms M Rb {s with cj:=l}:=by
 obtain ⟨sv,qv,fv,gv,hx⟩:=h;exact ⟨sv,qv,fv,gv,hx.cj l⟩
theorem Lg(Rb:Nat)(s:aF)(bY:Int)(b:Bool)(hb:kV s bY=b)(w:World)(Ms M:Nat→Prop)(h:RR w Ms M Rb s)(qh:s.queue.length≤100000)(R:Ending→World→Prop)
 (hR:R (.returned (.bool b)) w):
 Calls prog 83 #[.pointer (some ⟨Rb,0,none⟩),.int .i64 bY] w R:=by
 obtain ⟨sv,qv,fv,gv,hx⟩:=h;have HR:=ab hR;obtain ⟨ps,aT,aq,_⟩:=hx.hq;obtain ⟨fs,_,dI,_⟩:=hx.hf;obtain ⟨fa,fc,rfl⟩:=bF dI;obtain ⟨va,vc,rfl⟩:=aq.shape;have c6:=hx.cells.2.2.2.2.2.1;have c7:=hx.cells.2.2.2.2.2.2.1;obtain ⟨n,hn⟩:=ai s.queue.length;obtain ⟨m,hm⟩:=ai s.aj.length;rw [hn] at c6 aq;rw [hm] at c7;have HB:=ab hb;have HN:=ab hn;have HM:=ab hm;clear hR hx hb dI
 match hq:s.queue with
 |[]=>
  have dh:n=0:=by rw [←HN.o_,hq];rfl
  subst dh;obtain rfl:false=b:=by rw [←HB.o_];unfold kV;rw [hq]
  clear hq hn hm;go_enter func83,ntmps83;go_wp2;exact HR.o_
 |x::rest=>
  have dh:0<n:=by rw [←HN.o_,hq];simp
  have yg:(0:Int)<(n:Int):=by omega
  rw [hq] at aT;obtain ⟨p,pr,rfl⟩:∃p pr,ps=p::pr:=by
   cases ps with
   |nil=>simp at aT
   |cons p pr=>exact ⟨p,pr,rfl⟩
  obtain ⟨c,y⟩:=p;obtain rfl:y=x:=by simp at aT;exact aT.1
  obtain ⟨g,o,rfl,aW,_⟩:=aq.at dh;rw [List.flatMap_cons] at aW;have gw:=WM aW dh;have lG:(y.al==0 || (decide ((m:Int)<bY)&&decide (m<8)))=b:=by
   rw [←HB.o_,←HM.o_];unfold kV;rw [hq]
  have cK:=ab lG;clear aW aq aT hq lG hn hm;by_cases hz:y.al=0
  ·obtain rfl:true=b:=by rw [←cK.o_];simp [hz]
   have jr:(y.al==0)=true:=by simp [hz]
   rw [hz] at gw;clear hz jr;go_enter func83,ntmps83;go_wp2;exact HR.o_
  ·have jr:(y.al==0)=false:=by simp [hz]
   by_cases h1:(m:Int)<bY
   ·by_cases h2:m<8
    ·have Gb:(m:Int)<8:=by omega
     obtain rfl:true=b:=by rw [←cK.o_,jr];simp [h1,h2]
     clear cK;go_enter func83,ntmps83;go_wp2;exact HR.o_
    ·have Gb:¬(m:Int)<8:=by omega
     obtain rfl:false=b:=by rw [←cK.o_,jr];simp [h2]
     clear cK;go_enter func83,ntmps83;go_wp2;exact HR.o_
   ·obtain rfl:false=b:=by rw [←cK.o_,jr];simp [h1]
    clear cK;go_enter func83,ntmps83;go_wp2;exact HR.o_
theorem RR.C0(h:RR w Ms M Rb s)(hi:i<s.aj.length){f:Fl}(hf:s.aj[i]=f):∃sv qv g n fc gv v1 v2 v3,∃ps:List (V3×Fl),RX w Ms M Rb sv qv (.slice (some ⟨g,0,none⟩) n fc) gv s∧n=s.aj.length∧ps.map (·.2)=s.aj∧∃nx:i<ps.length,ps[i]=((v1,v2,v3),f)∧ps.length=n∧
 w.ownsRow 0 51 16 (.slice (some ⟨g,0,none⟩) n fc) n (ps.flatMap bH)∧(∀p∈ps,db w Ms p.1 p.2.item)∧(∀j,j<16→w.cell? ⟨g,i*16+j,none⟩= [Value.int .i64 f.id,.int .i64 f.state,.string (str f.item.note.aJ),v1,.int .i64 f.item.note.al,.bool f.item.note.aE,.string (str f.item.note.src),.int .i64 f.item.note.aN,v2,.int .i64 f.item.note.origin,.int .i64 f.item.note.number,.int .i64 f.item.note.aQ,.int .i64 f.item.al,.bool f.item.aM,v3,.string (str f.item.share)][j]?)∧w.cell? ⟨g,i*16+1,none⟩=some (.int .i64 f.state)∧w.cell? ⟨Rb,6,none⟩=some (.slice (some ⟨g,0,none⟩) n fc)∧(i:Int)<(n:Int):=by
 obtain ⟨sv,qv,fv,gv,hx⟩:=h;obtain ⟨ps,aT,aq,aS⟩:=id hx.hf;have aX:s.aj.length=ps.length:=by rw [←aT];simp
 have nx:i<ps.length:=by omega
 have afg:=aq;rw [aX] at aq;obtain ⟨fa,fc,mD⟩:=bF aq;subst mD;obtain ⟨g,hg⟩:=et aq (by omega);subst hg;have p_:(ps[i]).2=f:=by
  exact VV
 have hc:=F6 aq nx;obtain ⟨⟨⟨v1,v2,v3⟩,f'⟩,hp⟩:∃p,ps[i]=p:=⟨_,rfl⟩
 rw [hp] at p_ hc;simp only at p_;subst p_;exact ⟨sv,qv,g,ps.length,fc,gv,v1,v2,v3,ps,hx,aX.symm,aT,nx,hp,rfl,aq,aS,hc,hc 1 (by omega),hx.cells.2.2.2.2.2.2.1,by omega⟩
def z_(s:aF)(z st:Int):aF×Bool:=match s.aj[z.toNat]? with
 |none=>(s,false)
 |some f=>if z<0 then (s,false) else if f.state=st then ({s with aj:=s.aj.eraseIdx z.toNat},true) else (s,false)
theorem PW{st:Int}(h:z<0):z_ s z st=(s,false):=by
 unfold z_
 split
 ·rfl
 ·rw [if_pos h]
theorem Lh{st:Int}(h:i<s.aj.length):z_ s (i:Int) st=if (s.aj[i]).state=st then ({s with aj:=s.aj.eraseIdx i},true) else (s,false):=by
 unfold z_;simp [List.getElem?_eq_getElem h];intro h0
 omega
theorem XF{P:Prop}(h:P:=by
 go_wp2_with (first
  |(go_at_call 125;go_must (refine yJ Rb s id (-1) HZ.o_ hl _ Ms M H.o_ _ ?_)))
 exact HR.o_ M w H.o_ (.refl _ _)):P:=h
theorem XG{P:Prop}(h:P:=by
 go_wp2_with (first
  |(go_at_call 125;go_must (refine yJ Rb s id k HZ.o_ HL.o_ _ Ms M H.o_ _ ?_)))
 exact HR.o_ M w H.o_ (.refl _ _)):P:=h
theorem XH{P:Prop}(h:P:=by
 go_wp2_with (first
  |(go_at_call 125;go_must (refine yJ Rb s id k HZ.o_ HL.o_ _ Ms M H.o_ _ ?_))
  |(go_at_call 127;go_must (refine XD Rb s k HK.o_ HL.o_ _ Ms M H.o_ ft.o_ _ ?_);intro M' w' zt dX;have PZ:=ab zt;have P6:=ab dX;clear zt dX))
 refine HR.o_ _ _ ?_ P6.o_;rw [←eR.o_];exact PZ.o_):P:=h
theorem agT(Rb:Nat)(s:aF)(id z:Int)(hz:cV (fun f:Fl=>f.id==id) s.aj=z)(hl:s.aj.length≤100000)(s':aF)(b:Bool)(ht:z_ s z 1=(s',b))(w:World)(Ms M:Nat→Prop)(h:RR w Ms M Rb s)(ao:∀b,Ms b→b<w.heap.size)(R:Ending→World→Prop)
 (hR:∀M' w',RR w' Ms M' Rb s'→Sep M M' w w'→R (.returned (.bool b)) w'):
 Calls prog 71 #[.pointer (some ⟨Rb,0,none⟩),.int .i64 id] w R:=by
 have HR:=ab hR;have H:=ab h;have HZ:=ab hz;clear hR;by_cases h0:0≤z
 ·obtain ⟨k,hk,rfl,q1,q2⟩:=wO hz h0;obtain ⟨f,hf⟩:=ai (s.aj[k]);rw [Lh hk,hf] at ht;obtain ⟨sv,qv,g,n,fc,gv,v1,v2,v3,ps,hx,hn,q3,q4,q5,q6,q7,q8,q9,c1,c6,iC⟩:=h.C0 hk hf;obtain ⟨st,b7⟩:=ai f.state;rw [b7] at ht c1;have HT:=ab ht;have ft:=ab ao;have HK:=ab hk;have HL:=ab hl;have gA:¬(k:Int)<0:=by omega
  clear q1 q2 q3 q5 q6 q7 q8 q9 q4 h hx hn hz b7 hf ht ao h0 hk hl;by_cases he:st=1
  ·subst he;have dX:{s with aj:=s.aj.eraseIdx k}=s'∧true=b:=by have:=HT.o_;rw [if_pos rfl] at this;simpa using this
   obtain ⟨ch,rfl⟩:=dX;have eR:=ab ch;clear ch HT;go_enter func71,ntmps71;exact XH
  ·have bh:(st != 1)=true:=by simp [he]
   have dX:s=s'∧false=b:=by have:=HT.o_;rw [if_neg he] at this;simpa using this
   obtain ⟨ch,rfl⟩:=dX;subst ch;clear he HT;go_enter func71,ntmps71;exact XG
 ·obtain ⟨rfl,_⟩:=zG hz (by omega);rw [PW (by omega)] at ht;simp only [Prod.mk.injEq] at ht;obtain ⟨rfl,rfl⟩:=ht;clear hz h0 h;go_enter func71,ntmps71;exact XF
theorem agU(Rb:Nat)(s:aF)(id z:Int)(hz:cV (fun f:Fl=>f.id==id) s.aj=z)(hl:s.aj.length≤100000)(s':aF)(b:Bool)(ht:z_ s z 3=(s',b))(w:World)(Ms M:Nat→Prop)(h:RR w Ms M Rb s)(ao:∀b,Ms b→b<w.heap.size)(R:Ending→World→Prop)
 (hR:∀M' w',RR w' Ms M' Rb s'→Sep M M' w w'→R (.returned (.bool b)) w'):
 Calls prog 73 #[.pointer (some ⟨Rb,0,none⟩),.int .i64 id] w R:=by
 have HR:=ab hR;have H:=ab h;have HZ:=ab hz;clear hR;by_cases h0:0≤z
 ·obtain ⟨k,hk,rfl,q1,q2⟩:=wO hz h0;obtain ⟨f,hf⟩:=ai (s.aj[k]);rw [Lh hk,hf] at ht;obtain ⟨sv,qv,g,n,fc,gv,v1,v2,v3,ps,hx,hn,q3,q4,q5,q6,q7,q8,q9,c1,c6,iC⟩:=h.C0 hk hf;obtain ⟨st,b7⟩:=ai f.state;rw [b7] at ht c1;have HT:=ab ht;have ft:=ab ao;have HK:=ab hk;have HL:=ab hl;have gA:¬(k:Int)<0:=by omega
  clear q1 q2 q3 q5 q6 q7 q8 q9 q4 h hx hn hz b7 hf ht ao h0 hk hl;by_cases he:st=3
  ·subst he;have dX:{s with aj:=s.aj.eraseIdx k}=s'∧true=b:=by have:=HT.o_;rw [if_pos rfl] at this;simpa using this
   obtain ⟨ch,rfl⟩:=dX;have eR:=ab ch;clear ch HT;go_enter func73,ntmps73;exact XH
  ·have bh:(st != 3)=true:=by simp [he]
   have dX:s=s'∧false=b:=by have:=HT.o_;rw [if_neg he] at this;simpa using this
   obtain ⟨ch,rfl⟩:=dX;subst ch;clear he HT;go_enter func73,ntmps73;exact XG
 ·obtain ⟨rfl,_⟩:=zG hz (by omega);rw [PW (by omega)] at ht;simp only [Prod.mk.injEq] at ht;obtain ⟨rfl,rfl⟩:=ht;clear hz h0 h;go_enter func73,ntmps73;exact XF
theorem XI{P:Prop}(h:P:=by
 exact ⟨qs,q1,q2.uM (fun k dK=>aM k (q2.lt k dK) (by rw [q2.kind k dK];decide)),fun p hp=>(q3 p hp).apart h.kd h.lo hs⟩):P:=h
open List (getElem_set_ne mem_or_eq_of_mem_set)
open Nat (div_lt_of_lt_mul mod_lt mul_comm)
variable{fine:Bool}{B C e g k n:Nat}{w1:World}
theorem P7{α:Type}{c:Nat}(f:α→List Value)(hf:∀x,(f x).length=C)(hC:0<C){ps:List α}(hn:ps.length=n)(hk:k<n)(h:w.ownsRow B e C (.slice (some ⟨g,0,none⟩) n c) n (ps.flatMap f))(p:α):
 (w.setCells g (k*C) (f p)).ownsRow B e C (.slice (some ⟨g,0,none⟩) n c) n ((ps.set k p).flatMap f):=by
 subst hn;have aX:(ps.set k p).length=ps.length:=by simp
 refine ⟨by rw [eS C f hf,aX],?_⟩;rcases h.2 with ⟨hv,h0⟩|⟨g',cap,cur,dO,hB,hg,e1,e2,e3,e4⟩
 ·cases hv
 ·simp only [Value.slice.injEq,Option.some.injEq,Addr.mk.injEq] at dO;obtain ⟨⟨rfl,-,-⟩,-,rfl⟩:=dO;obtain ⟨jg,m1,m2,m3⟩:=nT g e (f p) (k*C) w cur hg;refine .inr ⟨g,c,jg,rfl,hB,m1,e1,e2,by rw [m2];exact e3,?_⟩;have dm:ps.length*C≤cur.size:=by
   have:=congrArg List.length e4;rw [eS C f hf,List.length_take] at this;simp at this
   omega
  have bJ:∀j,j<ps.length*C→cur[j]? =(ps.flatMap f)[j]?:=fun j hj=>by
   rw [←e4,List.getElem?_take,if_pos hj];simp
  apply List.ext_getElem?;intro j;rw [List.getElem?_take];by_cases hj:j<ps.length*C
  ·rw [if_pos hj];have e0:jg.toList[j]? =jg[j]?:=by simp
   have hr:j % C<C:=mod_lt _ hC;have kj:j / C*C+j % C=j:=by rw [mul_comm];exact Nat.div_add_mod j C
   have hi:j / C<ps.length:=div_lt_of_lt_mul (by rw [mul_comm];exact hj);have hs:=jQ C f hf (ps.set k p) (j / C) (j % C) (by simpa using hi) hr;have ho:=jQ C f hf ps (j / C) (j % C) hi hr;rw [kj] at hs ho;rw [e0,m3,hs,hf];by_cases tD:j / C=k
   ·have kJ:(ps.set k p)[j / C]'(by simpa using hi)=p:=by simp [tD]
    rw [kJ];rw [tD] at kj;rw [if_pos (by omega)]
    congr 1
    omega
   ·have kJ:(ps.set k p)[j / C]'(by simpa using hi)=ps[j / C]:=by
     rw [getElem_set_ne (by omega)]
    have agV:¬(k*C≤j∧j<k*C+C∧j<cur.size):=by
     rintro ⟨a,b,_⟩;apply tD;rw [show j=(j - k*C)+k*C by omega,Nat.add_mul_div_right _ _ hC,Nat.div_eq_of_lt (by omega)]
     omega
    rw [kJ,if_neg agV,bJ j hj,ho]
  ·rw [if_neg hj,List.getElem?_eq_none (by rw [eS C f hf,aX];omega)]
theorem RX.OV{ps:List (V3×Fl)}{fs:List Fl}(h:RX w Ms M Rb sv qv fv gv s)(hv:fv.ownBlock=some g)(aT:ps.map (·.2)=fs)(aS:∀p∈ps,db w Ms p.1 p.2.item)
 (hr:w1.ownsRow 0 51 16 fv fs.length (ps.flatMap bH)) (hg:w.grownBy w1 (some g)):RX w1 Ms M Rb sv qv fv gv {s with aj:=fs}∧Sep M M w w1:=by
 have hk:=h.Hc g hv;have hs:Sep M M w w1:= .kn hg (fun k hk=>by cases hk;exact h.mf g hv);have aM:∀b,b<w.heap.size→bA w b≠51+2→w1.heap[b]? =w.heap[b]?:=fun b hb bh=>hg.block b hb (fun e=>bh (by
  have e:=Option.some.inj e;rw [e];exact hk))
 refine ⟨⟨(aM Rb h.rb (by rw [h.Bq];decide)).trans h.hS,j_ h.hs (fun k dK=>aM k (h.hs.lt k dK).2 (by rw [eI h.hs k dK];decide)),?_,⟨ps,aT,hr,fun p hp=>(aS p hp).apart h.kd h.lo hs⟩,j_ h.hg (fun k dK=>aM k (h.hg.lt k dK).2 (by rw [eI h.hg k dK];decide)),h.mR,h.ms,h.mq,h.mf,h.mg,fun b hb=> ?_,h.lo,h.qj,fun b hb=>Nat.lt_of_lt_of_le (h.lt b hb) hg.size⟩,hs⟩
 ·obtain ⟨qs,q1,q2,q3⟩:=h.hq;exact XI
 ·by_cases e:b=g
  ·subst e;rw [eI hr b hv];exact .inr (.inr (.inl rfl))
  ·rw [xi (hg.block b (h.lt b hb) (fun e'=>e (Option.some.inj e')))];exact h.kd b hb
theorem agW{P:Program}{ops:Array Oper}{rest:List Oper}{o:Oper}{a:Act}{Q:Exit→Act→World→Prop}(kT:o.guard=none)(s x:Operand)(t:TypeId)
 (ho:o.op= .call {callee:= .builtin .append,args:=#[s,x],argTypes:=#[t,t]})
 (base:Nat) (e:TypeId) (z:Value) (size bytes:Nat) (ht:P.underlying t=some (.slice e)) (j8:(P.info? e).map (fun i=>(i.zero,i.size,i.bytes))=some (some z,size,bytes)) (gp:z.cells.size=size) (bm:0<size)
 (a0:Option Addr) (hs:a.eval s= .slice a0 0 0) (aV:w.ownsRow base e size (.slice a0 0 0) 0 [])
 (ad:Option Addr) (m c:Nat) (news:List Value) (hx:a.eval x= .slice ad m c) (bG:Rd w size ad m news) (h1:∀u∈news,u.oneCell'=true) (gG:ad=none→c=0)
 (h63:m≤maxLen) (eQ:m*bytes≤140737488355328) (iS:base≤w.heap.size)
 (h:∀bq c' w',w'.ownsRow base e size (.slice bq m c') m news→Below w w w'→wpList P ops Q rest (a.put o.dst (.slice bq m c')) w'):wpList P ops Q (o::rest) a w:=
 wpList_plain kT fun _ hK=>T' s x t ho base e z size bytes ht j8 gp bm a0 hs aV ad m c news hx bG h1 gG h63 eQ iS fun bq c' w' h2 h3=>hK _ _ (h bq c' w' h2 h3)
def Dh(s:aF)(z:Int)(fine:Bool):aF×Bool×Bool:=match s.aj[z.toNat]? with
 |none=>(s,false,false)
 |some f=>if z<0 then (s,false,false) else if f.state=1 then (s,false,false) else if f.state=3 then (s,true,true) else if fine=false then ({s with aj:=s.aj.eraseIdx z.toNat},true,false) else ({s with aj:=s.aj.set z.toNat ⟨f.id,3,j4 f.item⟩},true,true)
theorem XJ(h:z<0):Dh s z fine=(s,false,false):=by
 unfold Dh
 split
 ·rfl
 ·rw [if_pos h]
theorem P8(h:i<s.aj.length):Dh s (i:Int) fine=if (s.aj[i]).state=1 then (s,false,false) else if (s.aj[i]).state=3 then (s,true,true) else if fine=false then ({s with aj:=s.aj.eraseIdx i},true,false) else ({s with aj:=s.aj.set i ⟨(s.aj[i]).id,3,j4 (s.aj[i]).item⟩},true,true):=by
 unfold Dh;simp [List.getElem?_eq_getElem h];intro h0
 omega
theorem XK{P:Prop}(h:P:=by
 cases dX;clear HT;go_enter func72,ntmps72;go_wp2_with (first
  |(go_at_call 125;go_must (refine yJ Rb s cR k HZ.o_ HL.o_ _ Ms M H.o_ _ ?_)))
 exact HR.o_ M w H.o_ (.refl _ _)):P:=h
theorem agX(Rb:Nat)(s:aF)(id z:Int)(fine:Bool)(hz:cV (fun f:Fl=>f.id==id) s.aj=z)(hl:s.aj.length≤100000)(s':aF)(a b:Bool)(ht:Dh s z fine=(s',a,b))(w:World)(Ms M:Nat→Prop)(h:RR w Ms M Rb s)(ao:∀b,Ms b→b<w.heap.size)(R:Ending→World→Prop)
 (hR:∀M' w',RR w' Ms M' Rb s'→Sep M M' w w'→R (.returned (.tuple #[.bool a,.bool b])) w'):
 Calls prog 72 #[.pointer (some ⟨Rb,0,none⟩),.int .i64 id,.bool fine] w R:=by
 have HR:=ab hR;have H:=ab h;have HZ:=ab hz;have ft:=ab ao;have HL:=ab hl;clear hR;by_cases h0:0≤z
 ·obtain ⟨k,hk,rfl,q1,q2⟩:=wO hz h0;obtain ⟨⟨cR,fst,x⟩,hf⟩:∃f,s.aj[k]=f:=⟨_,rfl⟩
  have De:cR=id:=by
   rw [hf] at q1
   simpa using q1
  subst De;rw [P8 hk,hf] at ht;obtain ⟨sv,qv,g,n,fc,gv,v1,v2,v3,ps,hx,hn,aT,nx,p_,eA,aq,aS,hc,c1,c6,iC⟩:=h.C0 hk hf;simp only at ht c1;have ks:(((v1,v2,v3),⟨cR,fst,x⟩):V3×Fl)∈ps:=by
   have:=List.getElem_mem nx;rw [p_] at this;exact this
  have gR:=ab (aS _ ks).2;obtain ⟨⟨pa,pc,e1⟩,⟨qa,qc,e2⟩,ea,ec,e3⟩:=(aS _ ks).1.o_.shape;simp only at e1 e2 e3;subst e1 e2 e3;have HK:=ab hk;have gA:¬(k:Int)<0:=by omega
  have HX:=ab hx;have HN:=ab hn;have dn:=ab aT;have GJ:=ab p_;have fz:=ab eA;have aU:=ab aq;have gK:=ab aS;have HC:=ab hc;have HT:=ab ht;clear q1 q2 hz hf ht ao h0 hl h hx hn aT p_ eA aq aS hc hk ks;by_cases h1:fst=1
  ·subst h1;have dX:=HT.o_;rw [if_pos rfl] at dX;exact XK
  have Oq:(fst==1)=false:=by simpa using h1
  by_cases h3:fst=3
  ·subst h3;have dX:=HT.o_;rw [if_neg h1,if_pos rfl] at dX;exact XK
  have wF:(fst==3)=false:=by simpa using h3
  have dX:=HT.o_;rw [if_neg h1,if_neg h3] at dX;clear HT h1 h3;cases fine with
  |false=>
   rw [if_pos rfl] at dX;cases dX;go_enter func72,ntmps72;go_wp2_with (first
    |(go_at_call 125;go_must (refine yJ Rb s cR k HZ.o_ HL.o_ _ Ms M H.o_ _ ?_))
    |(go_at_call 127;go_must (refine XD Rb s k HK.o_ HL.o_ _ Ms M H.o_ ft.o_ _ ?_);intro M' w' zt dX;have PZ:=ab zt;have P6:=ab dX;clear zt dX))
   exact HR.o_ _ _ PZ.o_ P6.o_
  |true=>
   rw [if_neg (by decide)] at dX;have fZ:=ab dX;clear dX;have lg:n≤100000:=by have:=HN.o_;have:=HL.o_;omega
   have N1:=ab (heap_alloc_new w (Obj.cells lT 51));have an:Below w w (w.alloc (Obj.cells (cD cR fst x pa pc qa qc ea ec) 51)):=(Below.refl _ _).alloc (Nat.le_refl _) _;have bU:=ab an;have Ch:=cell_later an c6;have XL:=((bf.gW aU.o_).below an).rd;have XM:=ab XL;have iV:=(bf.gW aU.o_).cap;have aqv:=ab iV;have Br:=heap_alloc_new w (Obj.cells (cD cR fst x pa pc qa qc ea ec) 51);have rR:=ab Br;clear an XL iV Br;go_enter func72,ntmps72;go_wp2_with (first
    |(go_at_call 125;go_must (refine yJ Rb s cR k HZ.o_ HL.o_ _ Ms M H.o_ _ ?_))
    |(refine ie (o:=⟨some 47,.load 51 (.tmp 46),_,_,_,_⟩) (by rfl) 51 (.tmp 46) (by rfl) (g) ((k*16)) (by rfl) ((cD cR fst x pa pc qa qc ea ec)) _ (HC.o_) (underlying51) (by rfl) (by kernel_rfl) ?_)
    |(refine wpList_store_row (o:=⟨none,.store 51 (.tmp 9) (.tmp 47),_,_,_,_⟩) (by rfl) 51 (.tmp 9) (.tmp 47) (by rfl) w.heap.size _ (by rfl) (by rfl) 51 _ N1.o_ (by kernel_rfl) (by rfl) (by simp [Value.oneCell']) ?_;rw [World.setRow_alloc_new])
    |(at_builtin;go_must (refine agW (by rfl) (.tmp 49) (.tmp 53) 48 (by rfl) w 51 (Value.agg lT) 16 200 underlying48 x_ rfl (by decide) none (by rfl) (World.ownsRow_nil _ _ _ _) (some ⟨g,0,none⟩) n fc _ (by rfl) XM.o_ (XC gK.o_) (fun h=>by cases h) (by unfold maxLen;omega) (by omega) bU.o_.size ?_);intro gL c4 w4 eh ak;have lO:=bU.o_.trans (ak.mono bU.o_.size);have N4:=ab (aA rR.o_ ak);have r4:=aA HX.o_.hS lO;have e4:=af w4 Rb 6 _ _ _ r4;have f4:=aB r4 6;have px:=ab eh;have b6:=ab lO;clear eh ak lO r4))
   obtain ⟨M5,bp,jh⟩:=RX.XB (fs:=s.aj) (ps:=ps) HX.o_ ft.o_ b6.o_ dn.o_ gK.o_ (by rw [←HN.o_];exact px.o_);have bh:Rb≠w.heap.size:=fun e=>by have:=HX.o_.rb;omega
   have gz:=K8 (jv px.o_ (aA HX.o_.hS b6.o_) (by decide) (bL w4 ⟨Rb,6,none⟩ (.slice gL n c4)));have N5:(w4.setCell ⟨Rb,6,none⟩ (.slice gL n c4)).heap[w.heap.size]? =some (Obj.cells (cD cR fst x pa pc qa qc ea ec) 51):=(heap_setCell_other _ _ _ _ (fun e=>bh e.symm)).trans N4.o_;have Bp:∀b,Ms b→b<(w4.setCell ⟨Rb,6,none⟩ (.slice gL n c4)).heap.size:=fun b hb=>Nat.lt_of_lt_of_le (ft.o_ b hb) jh.size;obtain ⟨g4,rfl⟩:=et gz (by omega);have c0:=bp.cells.2.2.2.2.2.2.1;have c2:=af _ w 2 _ _ _ N5;clear N4 e4 f4 px c6 Ch c1 XM rR bU N1 b6 HC;generalize w4.setCell ⟨Rb,6,none⟩ (.slice (some ⟨g4,0,none⟩) n c4)=w5 at bp jh gz N5 Bp c0 c2⊢;have XN:=fun p hp=>(gK.o_ p hp).apart HX.o_.kd HX.o_.lo jh;have mM:=aK gz (Below.refl w5 w5).drew;have Bt:∀j,j<16→(w5.drew.cell? ⟨g4,k*16+j,none⟩).isSome=true:=fun j hj=>by
    have dI:=eS 16 bH iY ps;have:=fz.o_;rw [mM.cellAt (k*16+j) (by omega),List.getElem?_eq_getElem (by omega)]
    rfl
   have nK:∀j,j<16→w5.drew.frozen? ⟨g4,k*16+j,none⟩=false:=fun j _=>mM.frozenAt _;have gQ:=ab bp;have mE:=ab jh;have P9:=ab mM;have Fe:=ab Bp;have agY:=ab XN;have lJ:=ab Bt;have tX:=ab nK;have aqw:w5.drew.cell? ⟨Rb,6,none⟩=some (.slice (some ⟨g4,0,none⟩) n c4):=c0;have aqx:w5.drew.cell? ⟨w,2,none⟩=some (.string (str x.note.aJ)):=c2;clear bp jh gz N5 Bp XN mM Bt nK c0 c2 HX aU ft;go_still_tail 14,(by kernel_rfl)
   change wpList _ _ _ _ _ w5.drew
   go_wp2_with (refine Et (o:=⟨none,.store 51 (.tmp 70) (.tmp 69),_,_,_,_⟩) (by rfl) 51 (.tmp 70) (.tmp 69) (by rfl) g4 (k*16) #[Value.int .i64 cR,.int .i64 3,.string (str x.note.aJ),.slice none 0 0,.int .i64 0,.bool false,.string ⟨#[]⟩,.int .i64 0,.slice none 0 0,.int .i64 0,.int .i64 0,.int .i64 0,.int .i64 2,.bool false,.slice none 0 0,.string ⟨#[]⟩] (by rfl) (by rfl) lJ.o_ tX.o_ (by kernel_rfl) (by simp [Value.oneCell']) ?_);have kJ:=P7 bH iY (by decide) fz.o_ (k:=k) (by omega) P9.o_ ((.slice none 0 0,.slice none 0 0,.slice none 0 0),⟨cR,3,j4 x⟩);have Kv:(ps.set k ((.slice none 0 0,.slice none 0 0,.slice none 0 0),⟨cR,3,j4 x⟩)).map (·.2)=s.aj.set k ⟨cR,3,j4 x⟩:=by rw [List.map_set,dn.o_]
   have Bg:(s.aj.set k ⟨cR,3,j4 x⟩).length=n:=by rw [List.length_set,←HN.o_]
   have dP:=gQ.o_.below (Below.refl w5 w5).drew;rw [←Bg] at kJ;rw [←Bg] at dP;obtain ⟨fN,uY⟩:=RX.OV dP rfl Kv (fun p hp=>by
    rcases mem_or_eq_of_mem_set hp with hp|rfl
    ·exact (agY.o_ p hp).sep (.cU (Below.refl w5 w5).drew)
    ·exact VW _ gR.o_) kJ (pU _ _ _ _)
   rw [Bg] at fN;cases fZ.o_;exact HR.o_ M5 _ ⟨sv,qv,_,gv,fN⟩ ((mE.o_.below (Below.refl w5 w5).drew).trans uY)
 ·obtain ⟨rfl,_⟩:=zG hz (by omega);rw [XJ (by omega)] at ht;simp only [Prod.mk.injEq] at ht;obtain ⟨rfl,rfl,rfl⟩:=ht;clear hz h0 h;go_enter func72,ntmps72;go_wp2_with (first
   |(go_at_call 125;go_must (refine yJ Rb s id (-1) HZ.o_ HL.o_ _ Ms M H.o_ _ ?_)))
  exact HR.o_ M w H.o_ (.refl _ _)
def tY(a b:List UInt8):Bool:=Op.bytesLess a b
theorem RX.P_{ss:List Sb}(h:RX w Ms M Rb sv qv fv gv s)(hv:sv.ownBlock=some g)
 (hr:w1.ownsRow 0 64 6 sv ss.length (ss.flatMap aP)) (hg:w.grownBy w1 (some g)):RX w1 Ms M Rb sv qv fv gv {s with ay:=ss}∧Sep M M w w1:=by
 have hk:bA w g=64+2:=eI h.hs g hv;have hs:Sep M M w w1:= .kn hg (fun k hk=>by cases hk;exact h.ms g hv);have aM:∀b,b<w.heap.size→bA w b≠64+2→w1.heap[b]? =w.heap[b]?:=fun b hb bh=>hg.block b hb (fun e=>bh (by
  have e:=Option.some.inj e;rw [e];exact hk))
 refine ⟨⟨(aM Rb h.rb (by rw [h.Bq];decide)).trans h.hS,hr,?_,?_,j_ h.hg (fun k dK=>aM k (h.hg.lt k dK).2 (by rw [eI h.hg k dK];decide)),h.mR,h.ms,h.mq,h.mf,h.mg,fun b hb=> ?_,h.lo,h.qj,fun b hb=>Nat.lt_of_lt_of_le (h.lt b hb) hg.size⟩,hs⟩
 ·obtain ⟨qs,q1,q2,q3⟩:=h.hq;exact XI
 ·obtain ⟨qs,q1,q2,q3⟩:=h.hf;exact ⟨qs,q1,j_ q2 (fun k dK=>aM k (q2.lt k dK).2 (by rw [eI q2 k dK];decide)),fun p hp=>(q3 p hp).apart h.kd h.lo hs⟩
 ·by_cases e:b=g
  ·subst e;rw [eI hr b hv];exact .inr (.inr (.inr rfl))
  ·rw [xi (hg.block b (h.lt b hb) (fun e'=>e (Option.some.inj e')))];exact h.kd b hb
theorem P'{P:Prop}(h:P:=by
 have cE:j<s.ay.length:=by have:=HN.o_;omega
 obtain ⟨g,rfl⟩:=et eR.o_ (by omega);have ef:=yd eR.o_ HN.o_ cE 0 (by omega);obtain ⟨v,hv⟩:=ai ((s.ay[j]).filter);have xk:wo.cell? ⟨g,j*6,none⟩=some (.string (str v)):=by
  rw [←hv];exact ef
 have ao:=He.o_ j mh cE;unfold tY at ao;rw [hv] at ao;have hd:decide ((j:Int)<(n:Int))=true:=decide_eq_true lz;clear ef hv;go_wp2_with fail;go_quiet (fail);go_wp2;go_roundg (k - (j+1))
 case measure=>omega
 case rel=>exact ⟨j+1,by omega,rfl,by go_num,Go.below_drewN l_.o_ _⟩):P:=h
theorem agZ(Rb:Nat)(s:aF)(x:Sb)(k:Nat)(hk:k≤s.ay.length)(nH:∀j,j<k→∀(eE:j<s.ay.length),tY (s.ay[j]).filter x.filter=true)(vy:∀(h:k<s.ay.length),tY (s.ay[k]).filter x.filter=false)(bh:∀(h:k<s.ay.length),(s.ay[k]).filter≠x.filter)(h8:s.ay.length=8)(hl:s.ay.length≤100000)(w:World)(Ms M:Nat→Prop)(h:RR w Ms M Rb s)(ao:∀b,Ms b→b<w.heap.size)(R:Ending→World→Prop)
 (hR:∀w',Below w w w'→R (.returned (.tuple #[.bool false,.bool false])) w'):
 Calls prog 78 #[.pointer (some ⟨Rb,0,none⟩),.agg (bB x)] w R:=by
 have jj:=ab bh;clear bh;obtain ⟨sv,qv,fv,gv,hx⟩:=h;have HR:=ab hR;have aL:Below w w (w.alloc (Obj.cells (bB x) 64)):=(Below.refl _ _).alloc (Nat.le_refl _) _;have hT:=heap_alloc_new w (Obj.cells (bB x) 64);have hs:=(hx.below aL).hs;have c4:=(hx.below aL).cells.2.2.2.2.1;have HX:=ab (hx.below aL);obtain ⟨n,hn⟩:=ai s.ay.length;rw [hn] at hs hk hl;obtain ⟨ga,gc,rfl⟩:=bF hs;obtain ⟨i0,bS,_,cm,_⟩:=info_parts kW;have HG:=ab hs;have HN:=ab hn;have HT:=ab hT;have bu:=ab aL;have ft:Hid (∀b,Ms b→b<(w.alloc (Obj.cells (bB x) 64)).heap.size):=ab (fun b hb=>Nat.lt_of_lt_of_le (ao b hb) aL.size);have He:=ab nH;have Hg:=ab vy;clear hR hx hs ao nH vy aL hT c4;have ig:((n:Int)==8)=true:=by
  have:n=8:=by rw [←hn];exact h8
  simp [this]
 clear h8 hn;go_enter func78,ntmps78;go_wp2_with fail;generalize w.alloc (Obj.cells (bB x) 64)=w1 at HX HG HT bu ft⊢;have sX:Below w1 w1 w1:=Below.refl _ _;go_loopg [6] k (fun gn i wr=>∃j:Nat,j≤k∧gn=k - j∧i= .int .i64 j∧Below w1 w1 wr)
 case atStart=>exact ⟨0,Nat.zero_le _,by omega,rfl,sX⟩
 case round=>
  obtain ⟨j,hj,rfl,rfl,jn⟩:=hrel;clear sX;obtain ⟨wo,rfl⟩:∃x,x=wr:=⟨_,rfl⟩
  have ch:=aK HG.o_ jn;have c4:=cell_later jn HX.o_.cells.2.2.2.2.1;have t0:=cell_later jn (af w1 w.heap.size 0 _ _ _ HT.o_);have eR:=ab ch;have l_:=ab jn;clear ch;by_cases mh:j<k
  ·have lz:(j:Int)<(n:Int):=by omega
   exact P'
  ·obtain rfl:j=k:=by omega
   clear hj mh;by_cases iC:j<n
   ·have lz:(j:Int)<(n:Int):=by omega
    have cE:j<s.ay.length:=by have:=HN.o_;omega
    obtain ⟨g,rfl⟩:=et eR.o_ (by omega);have ef:=yd eR.o_ HN.o_ cE 0 (by omega);obtain ⟨v,hv⟩:=ai ((s.ay[j]).filter);have xk:wo.cell? ⟨g,j*6,none⟩=some (.string (str v)):=by
     rw [←hv];exact ef
    have ao:=Hg.o_ cE;unfold tY at ao;rw [hv] at ao;have hd:decide ((j:Int)<(n:Int))=true:=decide_eq_true lz;have HV:=ab hv;clear ef hv;go_wp2_with fail;go_quiet (fail);go_wp2_with fail;have ah:=Go.below_drewN l_.o_ nq;clear c4 t0 xk ao l_ eR;generalize wo.drewN nq=w2 at ah⊢;have bt:=aK HG.o_ ah;have c4:=cell_later ah HX.o_.cells.2.2.2.2.1;have t0:=cell_later ah (af w1 w.heap.size 0 _ _ _ HT.o_);have xk:w2.cell? ⟨g,j*6,none⟩=some (.string (str v)):=by
     rw [←HV.o_];exact yd bt HN.o_ cE 0 (by omega)
    have aY:=ab ah;clear bt;have he:¬v=x.filter:=by rw [←HV.o_];exact jj.o_ cE
    have Lf:(v==x.filter)=false:=by simpa using he
    have ag0:((str v).toList==(str x.filter).toList)=false:=by rw [JW];exact Lf
    go_quiet (fail);go_wp2;exact HR.o_ _ (bu.o_.trans ((Go.below_drewN aY.o_ _).mono bu.o_.size))
   ·obtain rfl:j=n:=by omega
    have lz:¬(j:Int)<(j:Int):=by omega
    have hd:decide ((j:Int)<(j:Int))=false:=decide_eq_false lz;go_wp2_with fail;go_quiet (fail);go_wp2_with fail;have ah:=Go.below_drewN l_.o_ nq;clear c4 t0 l_ eR;generalize wo.drewN nq=w2 at ah⊢;have c4:=cell_later ah HX.o_.cells.2.2.2.2.1;have t0:=cell_later ah (af w1 w.heap.size 0 _ _ _ HT.o_);have aY:=ab ah;go_quiet (fail);go_wp2;exact HR.o_ _ (bu.o_.trans ((Go.below_drewN aY.o_ _).mono bu.o_.size))
theorem ag1(Rb:Nat)(s:aF)(x:Sb)(k:Nat)(hk:k≤s.ay.length)(nH:∀j,j<k→∀(eE:j<s.ay.length),tY (s.ay[j]).filter x.filter=true)(vy:∀(h:k<s.ay.length),tY (s.ay[k]).filter x.filter=false)(f_:k<s.ay.length)(Ld:∀(h:k<s.ay.length),(s.ay[k]).filter=x.filter)(hl:s.ay.length≤100000)(w:World)(Ms M:Nat→Prop)(h:RR w Ms M Rb s)(ao:∀b,Ms b→b<w.heap.size)(R:Ending→World→Prop)
 (hR:∀M' w',RR w' Ms M' Rb {s with ay:=s.ay.set k x}→Sep M M' w w'→R (.returned (.tuple #[.bool false,.bool true])) w'):
 Calls prog 78 #[.pointer (some ⟨Rb,0,none⟩),.agg (bB x)] w R:=by
 have ag2:=ab Ld;have Li:=ab f_;clear Ld f_;obtain ⟨sv,qv,fv,gv,hx⟩:=h;have HR:=ab hR;have aL:Below w w (w.alloc (Obj.cells (bB x) 64)):=(Below.refl _ _).alloc (Nat.le_refl _) _;have hT:=heap_alloc_new w (Obj.cells (bB x) 64);have hs:=(hx.below aL).hs;have c4:=(hx.below aL).cells.2.2.2.2.1;have HX:=ab (hx.below aL);obtain ⟨n,hn⟩:=ai s.ay.length;rw [hn] at hs hk hl;obtain ⟨ga,gc,rfl⟩:=bF hs;obtain ⟨i0,bS,_,cm,_⟩:=info_parts kW;have HG:=ab hs;have HN:=ab hn;have HT:=ab hT;have bu:=ab aL;have ft:Hid (∀b,Ms b→b<(w.alloc (Obj.cells (bB x) 64)).heap.size):=ab (fun b hb=>Nat.lt_of_lt_of_le (ao b hb) aL.size);have He:=ab nH;have Hg:=ab vy;clear hR hx hs ao nH vy aL hT c4;clear hn;go_enter func78,ntmps78;go_wp2_with fail;generalize w.alloc (Obj.cells (bB x) 64)=w1 at HX HG HT bu ft⊢;have sX:Below w1 w1 w1:=Below.refl _ _;go_loopg [6] k (fun gn i wr=>∃j:Nat,j≤k∧gn=k - j∧i= .int .i64 j∧Below w1 w1 wr)
 case atStart=>exact ⟨0,Nat.zero_le _,by omega,rfl,sX⟩
 case round=>
  obtain ⟨j,hj,rfl,rfl,jn⟩:=hrel;clear sX;obtain ⟨wo,rfl⟩:∃x,x=wr:=⟨_,rfl⟩
  have ch:=aK HG.o_ jn;have c4:=cell_later jn HX.o_.cells.2.2.2.2.1;have t0:=cell_later jn (af w1 w.heap.size 0 _ _ _ HT.o_);have eR:=ab ch;have l_:=ab jn;clear ch;by_cases mh:j<k
  ·have lz:(j:Int)<(n:Int):=by omega
   exact P'
  ·obtain rfl:j=k:=by omega
   clear hj mh;by_cases iC:j<n
   ·have lz:(j:Int)<(n:Int):=by omega
    have cE:j<s.ay.length:=by have:=HN.o_;omega
    obtain ⟨g,rfl⟩:=et eR.o_ (by omega);have ef:=yd eR.o_ HN.o_ cE 0 (by omega);obtain ⟨v,hv⟩:=ai ((s.ay[j]).filter);have xk:wo.cell? ⟨g,j*6,none⟩=some (.string (str v)):=by
     rw [←hv];exact ef
    have ao:=Hg.o_ cE;unfold tY at ao;rw [hv] at ao;have hd:decide ((j:Int)<(n:Int))=true:=decide_eq_true lz;have HV:=ab hv;clear ef hv;go_wp2_with fail;go_quiet (fail);go_wp2_with fail;have ah:=Go.below_drewN l_.o_ nq;clear c4 t0 xk ao l_ eR;generalize wo.drewN nq=w2 at ah⊢;have bt:=aK HG.o_ ah;have c4:=cell_later ah HX.o_.cells.2.2.2.2.1;have t0:=cell_later ah (af w1 w.heap.size 0 _ _ _ HT.o_);have xk:w2.cell? ⟨g,j*6,none⟩=some (.string (str v)):=by
     rw [←HV.o_];exact yd bt HN.o_ cE 0 (by omega)
    have aY:=ab ah;clear bt;have he:v=x.filter:=by rw [←HV.o_];exact ag2.o_ cE
    subst he;go_quiet (fail);go_wp2_with fail;have an:=Go.below_drewN aY.o_ nq;clear c4 t0 xk aY;generalize w2.drewN nq=w3 at an⊢;have ak:Below w1 w1 w3.drew:=an.drew;have c4:w3.drew.cell? ⟨Rb,4,none⟩=some (.slice (some ⟨g,0,none⟩) n gc):=cell_later ak HX.o_.cells.2.2.2.2.1;have kt:=aA HT.o_ ak;have t0:=af _ w 0 _ _ _ kt;have t1:=af _ w 1 _ _ _ kt;have t2:=af _ w 2 _ _ _ kt;have t3:=af _ w 3 _ _ _ kt;have t4:=af _ w 4 _ _ _ kt;have t5:=af _ w 5 _ _ _ kt;have rA:=aK HG.o_ ak;have Bt:∀i,i<6→(w3.drew.cell? ⟨g,j*6+i,none⟩).isSome=true:=fun i hi=>by
     have:=HN.o_;have dI:=eS 6 aP fT s.ay;rw [rA.cellAt (j*6+i) (by omega),List.getElem?_eq_getElem (by omega)]
     rfl
    have nK:∀i,i<6→w3.drew.frozen? ⟨g,j*6+i,none⟩=false:=fun i _=>rA.frozenAt _;have b6:=ab ak;have Qa:=ab rA;have lJ:=ab Bt;have tX:=ab nK;clear an ak kt rA Bt nK;go_still_tail 7,(by kernel_rfl)
    change wpList _ _ _ _ _ w3.drew
    go_wp2_with (refine Et (o:=⟨none,.store 64 (.tmp 56) (.tmp 55),_,_,_,_⟩) (by rfl) 64 (.tmp 56) (.tmp 55) (by rfl) g (j*6) (bB x) (by rfl) (by rfl) lJ.o_ tX.o_ (by kernel_rfl) (by simp [Value.oneCell']) ?_);have kJ:=P7 aP fT (by decide) HN.o_ (k:=j) iC Qa.o_ x;have eT:=HX.o_.below b6.o_;have gy:(s.ay.set j x).length=n:=by rw [List.length_set,HN.o_]
    obtain ⟨bp,jh⟩:=RX.P_ eT rfl (by rw [gy];exact kJ) (pU _ _ _ _);exact HR.o_ M _ ⟨_,qv,fv,gv,bp⟩ (((Sep.cU bu.o_).trans (.cU b6.o_)).trans jh)
   ·obtain rfl:j=n:=by omega
    have lz:¬(j:Int)<(j:Int):=by omega
    have hd:decide ((j:Int)<(j:Int))=false:=decide_eq_false lz;go_wp2_with fail;go_quiet (fail);go_wp2_with fail;exact absurd Li.o_ (by have:=HN.o_;omega)
theorem XO{P:Prop}(h:P:=by
 have gy:j≤s.ay.length:=by have:=HN.o_;omega
 have ql:j+1+m=(s.ay.take j++ [x]++s.ay.drop j).length:=by
  have:=HM.o_;have:=HN.o_;rw [List.length_append,List.length_append,List.length_take,List.length_drop,List.length_singleton]
  omega
 obtain ⟨M',iI,iJ⟩:=RX.Hd (ss:=s.ay.take j++ [x]++s.ay.drop j) HX.o_ ft.o_ aC (by
  rw [←ql,List.flatMap_append,List.flatMap_append,←vW 6 aP fT,←AQ 6 aP fT];exact ez)
 have pV:=ab iI;have rY:=ab ((Sep.cU bu.o_).trans iJ);clear iI iJ ez fo aC r5 e5 f5 ak eh cH bD ql;go_wp2_with fail;exact HR.o_ M' _ ⟨_,qv,fv,gv,pV.o_⟩ rY.o_):P:=h
theorem ag3(Rb:Nat)(s:aF)(x:Sb)(k:Nat)(hk:k≤s.ay.length)(nH:∀j,j<k→∀(eE:j<s.ay.length),tY (s.ay[j]).filter x.filter=true)(vy:∀(h:k<s.ay.length),tY (s.ay[k]).filter x.filter=false)(bh:∀(h:k<s.ay.length),(s.ay[k]).filter≠x.filter)(h8:s.ay.length≠8)(hl:s.ay.length≤100000)(w:World)(Ms M:Nat→Prop)(h:RR w Ms M Rb s)(ao:∀b,Ms b→b<w.heap.size)(R:Ending→World→Prop)
 (hR:∀M' w',RR w' Ms M' Rb {s with ay:=s.ay.take k++ [x]++s.ay.drop k}→Sep M M' w w'→R (.returned (.tuple #[.bool true,.bool true])) w'):
 Calls prog 78 #[.pointer (some ⟨Rb,0,none⟩),.agg (bB x)] w R:=by
 have jj:=ab bh;clear bh;obtain ⟨sv,qv,fv,gv,hx⟩:=h;have HR:=ab hR;have aL:Below w w (w.alloc (Obj.cells (bB x) 64)):=(Below.refl _ _).alloc (Nat.le_refl _) _;have hT:=heap_alloc_new w (Obj.cells (bB x) 64);have hs:=(hx.below aL).hs;have c4:=(hx.below aL).cells.2.2.2.2.1;have HX:=ab (hx.below aL);obtain ⟨n,hn⟩:=ai s.ay.length;rw [hn] at hs hk hl;obtain ⟨ga,gc,rfl⟩:=bF hs;obtain ⟨i0,bS,_,cm,_⟩:=info_parts kW;have HG:=ab hs;have HN:=ab hn;have HT:=ab hT;have bu:=ab aL;have ft:Hid (∀b,Ms b→b<(w.alloc (Obj.cells (bB x) 64)).heap.size):=ab (fun b hb=>Nat.lt_of_lt_of_le (ao b hb) aL.size);have He:=ab nH;have Hg:=ab vy;clear hR hx hs ao nH vy aL hT c4;have ig:((n:Int)==8)=false:=by
  have:n≠8:=by rw [←hn];exact h8
  simp
  omega
 clear h8 hn;go_enter func78,ntmps78;go_wp2_with fail;generalize w.alloc (Obj.cells (bB x) 64)=w1 at HX HG HT bu ft⊢;have sX:Below w1 w1 w1:=Below.refl _ _;go_loopg [6] k (fun gn i wr=>∃j:Nat,j≤k∧gn=k - j∧i= .int .i64 j∧Below w1 w1 wr)
 case atStart=>exact ⟨0,Nat.zero_le _,by omega,rfl,sX⟩
 case round=>
  obtain ⟨j,hj,rfl,rfl,jn⟩:=hrel;clear sX;obtain ⟨wo,rfl⟩:∃x,x=wr:=⟨_,rfl⟩
  have ch:=aK HG.o_ jn;have c4:=cell_later jn HX.o_.cells.2.2.2.2.1;have t0:=cell_later jn (af w1 w.heap.size 0 _ _ _ HT.o_);have eR:=ab ch;have l_:=ab jn;clear ch;by_cases mh:j<k
  ·have lz:(j:Int)<(n:Int):=by omega
   exact P'
  ·obtain rfl:j=k:=by omega
   clear hj mh;by_cases iC:j<n
   ·have lz:(j:Int)<(n:Int):=by omega
    have cE:j<s.ay.length:=by have:=HN.o_;omega
    obtain ⟨g,rfl⟩:=et eR.o_ (by omega);have ef:=yd eR.o_ HN.o_ cE 0 (by omega);obtain ⟨v,hv⟩:=ai ((s.ay[j]).filter);have xk:wo.cell? ⟨g,j*6,none⟩=some (.string (str v)):=by
     rw [←hv];exact ef
    have ao:=Hg.o_ cE;unfold tY at ao;rw [hv] at ao;have hd:decide ((j:Int)<(n:Int))=true:=decide_eq_true lz;have HV:=ab hv;clear ef hv;go_wp2_with fail;go_quiet (fail);go_wp2_with fail;have ah:=Go.below_drewN l_.o_ nq;clear c4 t0 xk ao l_ eR;generalize wo.drewN nq=w2 at ah⊢;have bt:=aK HG.o_ ah;have c4:=cell_later ah HX.o_.cells.2.2.2.2.1;have t0:=cell_later ah (af w1 w.heap.size 0 _ _ _ HT.o_);have xk:w2.cell? ⟨g,j*6,none⟩=some (.string (str v)):=by
     rw [←HV.o_];exact yd bt HN.o_ cE 0 (by omega)
    have aY:=ab ah;clear bt;have he:¬v=x.filter:=by rw [←HV.o_];exact jj.o_ cE
    have Lf:(v==x.filter)=false:=by simpa using he
    have ag0:((str v).toList==(str x.filter).toList)=false:=by rw [JW];exact Lf
    go_quiet (fail);go_wp2_with fail;have an:=Go.below_drewN aY.o_ nq;clear c4 t0 aY;generalize w2.drewN nq=w3 at an⊢;have lA:Below w1 w1 w3.drew:=an.drew;have xl:Below w1 w1 (w3.alloc (Obj.cells (bB x) 64)).drew:=(an.alloc an.size _).drew;have iV:=(bf.gW HG.o_).cap;obtain ⟨Fg,_⟩:=bf.upto (k:=j) (bf.gW HG.o_) underlying58 bS cm (by omega);obtain ⟨ax,oe,bW,_⟩:=bf.from (k:=j) (bf.gW HG.o_) underlying58 bS cm (by omega);obtain ⟨m,hm⟩:=ai (n - j);rw [hm] at oe bW;have nJ:=bW.cap;have rX:Hid (∀y,Below w1 w1 y→Rd y 6 (some ⟨g,0,none⟩) j ((s.ay.flatMap aP).take (j*6))):=fun y hb=>(bf.upto (k:=j) (bf.gW (aK HG.o_ hb)) underlying58 bS cm (by omega)).2;have Qb:Hid (∀y,Below w1 w1 y→Rd y 6 ax m ((s.ay.flatMap aP).drop (j*6))):=fun y hb=>Df bW hb;have ku:Hid (Rd (w3.alloc (Obj.cells (bB x) 64)).drew 6 (some ⟨w3,0,none⟩) 1 (bB x)):=ab (Rd.below (cO w3 (bB x) 64 6 1 rfl) (Below.refl _ _).drew);have rZ:=aA HT.o_ lA;have t0:=af _ w 0 _ _ _ rZ;have t1:=af _ w 1 _ _ _ rZ;have t2:=af _ w 2 _ _ _ rZ;have t3:=af _ w 3 _ _ _ rZ;have t4:=af _ w 4 _ _ _ rZ;have t5:=af _ w 5 _ _ _ rZ;have c4:w3.drew.cell? ⟨Rb,4,none⟩=some (.slice (some ⟨g,0,none⟩) n gc):=cell_later lA HX.o_.cells.2.2.2.2.1;have ag4:(w3.alloc (Obj.cells (bB x) 64)).drew.cell? ⟨Rb,4,none⟩=some (.slice (some ⟨g,0,none⟩) n gc):=cell_later xl HX.o_.cells.2.2.2.2.1;clear rZ;have gg:=ab iV;have ek:=ab nJ;have HM:=ab hm;have Hh:∀u∈ (bB x:List Value),u.oneCell'=true:=fun u hu=>sE [x] u (by simpa [aP] using hu);have vz:=ab Hh;have Qc:j+1+m≤100001:=by omega
    clear iV nJ bW hm an Hh;go_region_law
     (first
      |(refine uL (by rfl) (.tmp 64) (.tmp 70) 58 (by rfl) w1 64 (.agg fX) 6 48 underlying58 kW rfl (by decide) none (by rfl) (World.ownsRow_nil _ _ _ _) (some ⟨g,0,none⟩) j gc _ (by rfl) (rX.o_ _ lA) (xj (sE _)) gg.o_.2.2 (by unfold maxLen;omega) (by omega) lA.size ?_;intro fY c3 w5 bD js;have cH:=lA.trans (js.mono lA.size);have oz:=cH.alloc cH.size (Obj.cells (bB x) 64);have r7:=cO w5 (bB x) 64 6 1 rfl;have pH:=aA HT.o_ cH;have u0:=af _ w 0 _ _ _ pH;have u1:=af _ w 1 _ _ _ pH;have u2:=af _ w 2 _ _ _ pH;have u3:=af _ w 3 _ _ _ pH;have u4:=af _ w 4 _ _ _ pH;have u5:=af _ w 5 _ _ _ pH;have Qd:=cell_later cH HX.o_.cells.2.2.2.2.1;have ag5:=cell_later oz HX.o_.cells.2.2.2.2.1;clear pH)
      |(refine uL (by rfl) (.tmp 64) (.tmp 70) 58 (by rfl) w1 64 (.agg fX) 6 48 underlying58 kW rfl (by decide) none (by rfl) (World.ownsRow_nil _ _ _ _) (some ⟨g,0,none⟩) j gc _ (by rfl) (rX.o_ _ xl) (xj (sE _)) gg.o_.2.2 (by unfold maxLen;omega) (by omega) xl.size ?_;intro fY c3 w5 bD js;have cH:=xl.trans (js.mono xl.size);have r7:=ku.o_.below js;have Qd:=cell_later cH HX.o_.cells.2.2.2.2.1)
      |(have hq:=oz;refine gx (by rfl) (.tmp 71) (.tmp 73) 58 (by rfl) w1 64 (.agg fX) 6 48 underlying58 kW rfl (by decide) fY j c3 _ (by rfl) (bD.alloc (Obj.cells (bB x) 64)) (some ⟨w5,0,none⟩) 1 1 (bB x) (by rfl) r7 vz.o_ (fun h=>by cases h) (by unfold maxLen;omega) (by omega) oz.size ?_;intro gL Fh w6 eh cT _;have ak:=bC oz cT oz.size (bD.alloc (Obj.cells (bB x) 64));have Qe:=cell_later ak HX.o_.cells.2.2.2.2.1;clear hq)
      |(have hq:=bD;refine gx (by rfl) (.tmp 71) (.tmp 73) 58 (by rfl) w1 64 (.agg fX) 6 48 underlying58 kW rfl (by decide) fY j c3 _ (by rfl) bD (some ⟨w3,0,none⟩) 1 1 (bB x) (by rfl) r7 vz.o_ (fun h=>by cases h) (by unfold maxLen;omega) (by omega) cH.size ?_;intro gL Fh w6 eh cT _;have ak:=bC cH cT cH.size bD;have Qe:=cell_later ak HX.o_.cells.2.2.2.2.1;clear hq)
      |(have hq:=ak;refine gx (by rfl) (.tmp 74) (.tmp 80) 58 (by rfl) w1 64 (.agg fX) 6 48 underlying58 kW rfl (by decide) gL (j+1) Fh _ (by rfl) eh ax m (gc - j) _ (by rfl) (Qb.o_ _ ak) (Dg (sE _)) ek.o_.2.2 (by unfold maxLen;omega) (by omega) ak.size ?_;intro F3 c5 w7 ez fo _;have aC:=bC ak fo ak.size eh;have r5:=aA HX.o_.hS aC;have e5:=af w7 Rb 4 _ _ _ r5;have f5:=aB r5 4;clear hq))
    all_goals
     exact XO
   ·obtain rfl:j=n:=by omega
    have lz:¬(j:Int)<(j:Int):=by omega
    have hd:decide ((j:Int)<(j:Int))=false:=decide_eq_false lz;go_wp2_with fail;go_quiet (fail);go_wp2_with fail;have ah:=Go.below_drewN l_.o_ nq;clear c4 t0 l_ eR;generalize wo.drewN nq=w2 at ah⊢;have c4:=cell_later ah HX.o_.cells.2.2.2.2.1;have t0:=cell_later ah (af w1 w.heap.size 0 _ _ _ HT.o_);have aY:=ab ah;go_quiet (fail);go_wp2_with fail;have an:=Go.below_drewN aY.o_ nq;clear c4 t0 aY;generalize w2.drewN nq=w3 at an⊢;have lA:Below w1 w1 w3.drew:=an.drew;have xl:Below w1 w1 (w3.alloc (Obj.cells (bB x) 64)).drew:=(an.alloc an.size _).drew;have iV:=(bf.gW HG.o_).cap;obtain ⟨Fg,_⟩:=bf.upto (k:=j) (bf.gW HG.o_) underlying58 bS cm (by omega);obtain ⟨ax,oe,bW,_⟩:=bf.from (k:=j) (bf.gW HG.o_) underlying58 bS cm (by omega);obtain ⟨m,hm⟩:=ai (j - j);rw [hm] at oe bW;have nJ:=bW.cap;have rX:Hid (∀y,Below w1 w1 y→Rd y 6 ga j ((s.ay.flatMap aP).take (j*6))):=fun y hb=>(bf.upto (k:=j) (bf.gW (aK HG.o_ hb)) underlying58 bS cm (by omega)).2;have Qb:Hid (∀y,Below w1 w1 y→Rd y 6 ax m ((s.ay.flatMap aP).drop (j*6))):=fun y hb=>Df bW hb;have ku:Hid (Rd (w3.alloc (Obj.cells (bB x) 64)).drew 6 (some ⟨w3,0,none⟩) 1 (bB x)):=ab (Rd.below (cO w3 (bB x) 64 6 1 rfl) (Below.refl _ _).drew);have rZ:=aA HT.o_ lA;have t0:=af _ w 0 _ _ _ rZ;have t1:=af _ w 1 _ _ _ rZ;have t2:=af _ w 2 _ _ _ rZ;have t3:=af _ w 3 _ _ _ rZ;have t4:=af _ w 4 _ _ _ rZ;have t5:=af _ w 5 _ _ _ rZ;have c4:w3.drew.cell? ⟨Rb,4,none⟩=some (.slice ga j gc):=cell_later lA HX.o_.cells.2.2.2.2.1;have ag4:(w3.alloc (Obj.cells (bB x) 64)).drew.cell? ⟨Rb,4,none⟩=some (.slice ga j gc):=cell_later xl HX.o_.cells.2.2.2.2.1;clear rZ;have gg:=ab iV;have ek:=ab nJ;have HM:=ab hm;have Hh:∀u∈ (bB x:List Value),u.oneCell'=true:=fun u hu=>sE [x] u (by simpa [aP] using hu);have vz:=ab Hh;have Qc:j+1+m≤100001:=by omega
    clear iV nJ bW hm an Hh;go_region_law
     (first
      |(refine uL (by rfl) (.tmp 64) (.tmp 70) 58 (by rfl) w1 64 (.agg fX) 6 48 underlying58 kW rfl (by decide) none (by rfl) (World.ownsRow_nil _ _ _ _) ga j gc _ (by rfl) (rX.o_ _ lA) (xj (sE _)) gg.o_.2.2 (by unfold maxLen;omega) (by omega) lA.size ?_;intro fY c3 w5 bD js;have cH:=lA.trans (js.mono lA.size);have oz:=cH.alloc cH.size (Obj.cells (bB x) 64);have r7:=cO w5 (bB x) 64 6 1 rfl;have pH:=aA HT.o_ cH;have u0:=af _ w 0 _ _ _ pH;have u1:=af _ w 1 _ _ _ pH;have u2:=af _ w 2 _ _ _ pH;have u3:=af _ w 3 _ _ _ pH;have u4:=af _ w 4 _ _ _ pH;have u5:=af _ w 5 _ _ _ pH;have Qd:=cell_later cH HX.o_.cells.2.2.2.2.1;have ag5:=cell_later oz HX.o_.cells.2.2.2.2.1;clear pH)
      |(refine uL (by rfl) (.tmp 64) (.tmp 70) 58 (by rfl) w1 64 (.agg fX) 6 48 underlying58 kW rfl (by decide) none (by rfl) (World.ownsRow_nil _ _ _ _) ga j gc _ (by rfl) (rX.o_ _ xl) (xj (sE _)) gg.o_.2.2 (by unfold maxLen;omega) (by omega) xl.size ?_;intro fY c3 w5 bD js;have cH:=xl.trans (js.mono xl.size);have r7:=ku.o_.below js;have Qd:=cell_later cH HX.o_.cells.2.2.2.2.1)
      |(have hq:=oz;refine gx (by rfl) (.tmp 71) (.tmp 73) 58 (by rfl) w1 64 (.agg fX) 6 48 underlying58 kW rfl (by decide) fY j c3 _ (by rfl) (bD.alloc (Obj.cells (bB x) 64)) (some ⟨w5,0,none⟩) 1 1 (bB x) (by rfl) r7 vz.o_ (fun h=>by cases h) (by unfold maxLen;omega) (by omega) oz.size ?_;intro gL Fh w6 eh cT _;have ak:=bC oz cT oz.size (bD.alloc (Obj.cells (bB x) 64));have Qe:=cell_later ak HX.o_.cells.2.2.2.2.1;clear hq)
      |(have hq:=bD;refine gx (by rfl) (.tmp 71) (.tmp 73) 58 (by rfl) w1 64 (.agg fX) 6 48 underlying58 kW rfl (by decide) fY j c3 _ (by rfl) bD (some ⟨w3,0,none⟩) 1 1 (bB x) (by rfl) r7 vz.o_ (fun h=>by cases h) (by unfold maxLen;omega) (by omega) cH.size ?_;intro gL Fh w6 eh cT _;have ak:=bC cH cT cH.size bD;have Qe:=cell_later ak HX.o_.cells.2.2.2.2.1;clear hq)
      |(have hq:=ak;refine gx (by rfl) (.tmp 74) (.tmp 80) 58 (by rfl) w1 64 (.agg fX) 6 48 underlying58 kW rfl (by decide) gL (j+1) Fh _ (by rfl) eh ax m (gc - j) _ (by rfl) (Qb.o_ _ ak) (Dg (sE _)) ek.o_.2.2 (by unfold maxLen;omega) (by omega) ak.size ?_;intro F3 c5 w7 ez fo _;have aC:=bC ak fo ak.size eh;have r5:=aA HX.o_.hS aC;have e5:=af w7 Rb 4 _ _ _ r5;have f5:=aB r5 4;clear hq))
    all_goals
     exact XO
def ml(e now:Int):Bool:=e != 0&&decide (e≤now)
theorem XP(a0 a1 a2 a3 a4 a6 a7 a8 a9:Value)(e now:Int)(b:Bool)(hb:ml e now=b)(w:World)(R:Ending→World→Prop)
 (hR:∀w',Below w w w'→R (.returned (.bool b)) w'):
 Calls prog 133 #[.agg #[a0,a1,a2,a3,a4,.int .i64 e,a6,a7,a8,a9],.int .i64 now] w R:=by
 have HR:=ab hR;have aw:Below w w (w.alloc (Obj.cells #[a0,a1,a2,a3,a4,.int .i64 e,a6,a7,a8,a9] 34)):=(Below.refl _ _).alloc (Nat.le_refl _) _;have bP:=ab aw;have c5:=af _ w 5 _ _ _ (heap_alloc_new w (Obj.cells #[a0,a1,a2,a3,a4,.int .i64 e,a6,a7,a8,a9] 34));clear hR aw;unfold ml at hb;by_cases h0:e=0
 ·obtain rfl:false=b:=by rw [←hb];simp [h0]
  subst h0;clear hb;go_enter func133,ntmps133;go_wp2;exact HR.o_ _ bP.o_
 ·have bh:(e != 0)=true:=by simpa using h0
  by_cases h1:e≤now
  ·obtain rfl:true=b:=by rw [←hb,bh];simp [h1]
   clear hb;go_enter func133,ntmps133;go_wp2;exact HR.o_ _ bP.o_
  ·obtain rfl:false=b:=by rw [←hb,bh];simp [h1]
   clear hb;go_enter func133,ntmps133;go_wp2;exact HR.o_ _ bP.o_
theorem ag6(a0 a1 a2 a3 a4 a6 a7 a8 a9:Value)(e now:Int)(b:Bool)(hb:ml e now=b)(w:World)(R:Ending→World→Prop)
 (hR:∀w',Below w w w'→R (.returned (.bool b)) w'):
 Calls prog 132 #[.agg #[a0,a1,a2,a3,a4,.int .i64 e,a6,a7,a8,a9],.int .i64 now] w R:=by
 have HR:=ab hR;have aw:Below w w (w.alloc (Obj.cells #[a0,a1,a2,a3,a4,.int .i64 e,a6,a7,a8,a9] 34)):=(Below.refl _ _).alloc (Nat.le_refl _) _;have bP:=ab aw;have c5:=af _ w 5 _ _ _ (heap_alloc_new w (Obj.cells #[a0,a1,a2,a3,a4,.int .i64 e,a6,a7,a8,a9] 34));clear hR aw;unfold ml at hb;by_cases h0:e=0
 ·obtain rfl:false=b:=by rw [←hb];simp [h0]
  subst h0;clear hb;go_enter func132,ntmps132;go_wp2;exact HR.o_ _ bP.o_
 ·have bh:(e != 0)=true:=by simpa using h0
  by_cases h1:e≤now
  ·obtain rfl:true=b:=by rw [←hb,bh];simp [h1]
   clear hb;go_enter func132,ntmps132;go_wp2;exact HR.o_ _ bP.o_
  ·obtain rfl:false=b:=by rw [←hb,bh];simp [h1]
   clear hb;go_enter func132,ntmps132;go_wp2;exact HR.o_ _ bP.o_
variable{x:Im}{bK:Value}
theorem RX.push{ps:List (V3×Im)}{c:V3}(h:RX w Ms M Rb sv qv fv gv s)(ao:∀b,Ms b→b<w.heap.size)(aT:ps.map (·.2)=s.queue)(aS:∀p∈ps,db w Ms p.1 p.2)(hx:db w Ms c x)
 (hr:bf w1 36 14 bK (s.queue.length+1) (ps.flatMap cL++cL (c,x))) (ha:AO w w1 qv bK):
 ∃M',RX (w1.setCell ⟨Rb,5,none⟩ bK) Ms M' Rb sv bK fv gv {s with queue:=s.queue++ [x]}∧Sep M M' w (w1.setCell ⟨Rb,5,none⟩ bK):=by
 obtain ⟨K,hg,hK⟩:∃K,w.grownBy w1 (some K)∧(M K∧bA w K=36+2∨w.heap.size≤K):=by
  rcases ha with ⟨hg,e⟩|⟨hg,e⟩
  ·cases hv:qv.ownBlock with
   |none=>exact ⟨w.heap.size,uK (by rw [hv] at hg;exact hg),.inr (Nat.le_refl _)⟩
   |some k=>exact ⟨k,by rw [hv] at hg;exact hg,.inl ⟨h.mq k hv,h.K6 k hv⟩⟩
  ·exact ⟨w.heap.size,uK hg,.inr (Nat.le_refl _)⟩
 have ju:∀k,bK.ownBlock=some k→M k∨w.heap.size≤k:=fun k hk=>by
  rcases ha with ⟨_,e⟩|⟨_,e⟩
  ·exact .inl (h.mq k (e▸hk))
  ·rw [e] at hk;cases hk;exact .inr (Nat.le_refl _)
 let M':Nat→Prop:=fun b=>M b∨bK.ownBlock=some b
 have ch:Sep M M' w w1:=⟨hg.os,hg.tape,hg.output,hg.size,fun b hb hM=>hg.block b hb (fun e=>by
  have e:=Option.some.inj e;rcases hK with ⟨hk,_⟩|hk
  ·exact hM (e▸hk)
  ·omega),fun b hb=>by
  rcases hb with hb|hb
  ·exact .inl hb
  ·exact ju b hb,fun F ⟨m,hm,hl⟩=>⟨m,.inl hm,hl⟩⟩
 have bh:∀b,b<w.heap.size→bA w b≠36+2→w1.heap[b]? =w.heap[b]?:=fun b hb hk=>hg.block b hb (fun e=>by
  have e:=Option.some.inj e;rcases hK with ⟨_,fA⟩|fA
  ·exact hk (e▸fA)
  ·omega)
 have iz:=(bh Rb h.rb (by rw [h.Bq];decide)).trans h.hS;have ib:bA w1 Rb=62+2:=jR iz;have bM:=bL w1 ⟨Rb,5,none⟩ bK;have bt:Sep M' M' w1 (w1.setCell ⟨Rb,5,none⟩ bK):= .kn bM (fun k hk=>by cases hk;exact .inl h.mR);have hs:=ch.trans bt;have aM:∀b,b<w1.heap.size→bA w1 b≠62+2→(w1.setCell ⟨Rb,5,none⟩ bK).heap[b]? =w1.heap[b]?:=fun b hb hk=>bM.block b hb (fun e=>hk (Option.some.inj e▸ib));have both:∀b,b<w.heap.size→bA w b≠36+2→bA w b≠62+2→(w1.setCell ⟨Rb,5,none⟩ bK).heap[b]? =w.heap[b]?:=fun b hb k1 k2=>by
  exact Es
 have K6:∀b,bK.ownBlock=some b→bA (w1.setCell ⟨Rb,5,none⟩ bK) b=36+2:=fun b hb=>by
  have h1:=hr.kind b hb;rw [xi (aM b (hr.lt b hb) (by rw [h1];decide))];exact h1
 refine ⟨M',⟨?_,j_ h.hs (fun k hk=>both k (h.hs.lt k hk).2 (by rw [eI h.hs k hk];decide) (by rw [eI h.hs k hk];decide)),?_,?_,j_ h.hg (fun k hk=>both k (h.hg.lt k hk).2 (by rw [eI h.hg k hk];decide) (by rw [eI h.hg k hk];decide)),
  .inl h.mR,fun k hk=> .inl (h.ms k hk),fun k hk=> .inr hk,fun k hk=> .inl (h.mf k hk),h.mg,?_,?_,?_,?_⟩,hs⟩
 ·rw [heap_setCell_same w1 Rb 5 _ _ _ iz]
  rfl
 ·refine ⟨ps++ [(c,x)],by rw [List.map_append,aT];rfl,?_,fun p hp=> ?_⟩
  ·rw [List.flatMap_append];have:=hr.grown bM (.inl (hr.ne iz (by decide)))
   simpa using this
  ·rcases List.mem_append.1 hp with hp|hp
   ·exact (aS p hp).apart h.kd h.lo hs
   ·obtain rfl:=List.mem_singleton.1 hp;exact hx.apart h.kd h.lo hs
 ·obtain ⟨fs,f1,f2,f3⟩:=h.hf;exact ⟨fs,f1,j_ f2 (fun k hk=>both k (f2.lt k hk).2 (by rw [eI f2 k hk];decide) (by rw [eI f2 k hk];decide)),fun p hp=>(f3 p hp).apart h.kd h.lo hs⟩
 ·rintro b (hb|hb)
  ·by_cases e:bK.ownBlock=some b
   ·rw [K6 b e];exact .inr (.inl rfl)
   ·by_cases e2:b=Rb
    ·subst e2;refine .inl ?_;unfold bA;rw [heap_setCell_same _ _ _ _ _ _ iz]
    ·have h1:w1.heap[b]? =w.heap[b]?:=by
      rcases ha with ⟨jL,e4⟩|⟨jL,_⟩
      ·exact jL.block b (h.lt b hb) (fun e5=>e (by rw [e4];exact e5.symm))
      ·exact jL.block b (h.lt b hb) (by simp)
     rw [xi ((heap_setCell_other _ _ _ _ e2).trans h1)];exact h.kd b hb
  ·rw [K6 b hb];exact .inr (.inl rfl)
 ·rintro b (hb|hb)
  ·exact h.lo b hb
  ·rcases ju b hb with h1|h1
   ·exact h.lo b h1
   ·obtain ⟨m,m1,m2⟩:=h.lo Rb h.mR;have:=h.rb;exact ⟨m,m1,by omega⟩
 ·rintro b (hb|hb)
  ·exact h.qj b hb
  ·rcases ju b hb with h1|h1
   ·exact h.qj b h1
   ·intro h2;have:=ao b h2
    omega
 ·rintro b (hb|hb)
  ·exact Nat.lt_of_lt_of_le (h.lt b hb) hs.size
  ·have:=hr.lt b hb
   simpa [World.setCell] using this
theorem ag7(Rb:Nat)(s:aF)(v:Array Value)(w:World)(Ms M:Nat→Prop)(h:RR w Ms M Rb s)(hl:8≤s.queue.length)(nU:s.queue.length≤100000)(R:Ending→World→Prop)
 (hR:∀w',Below w w w'→R (.returned (.bool false)) w'):
 Calls prog 68 #[.pointer (some ⟨Rb,0,none⟩),.agg v] w R:=by
 obtain ⟨sv,qv,fv,gv,hx⟩:=h;have HR:=ab hR;obtain ⟨qa,qc,rfl⟩:∃a c,qv= .slice a s.queue.length c:=by
  obtain ⟨ps,_,h2,_⟩:=hx.hq;exact h2.shape
 have aL:Below w w (w.alloc (.cells v 36)):=(Below.refl _ _).alloc (Nat.le_refl _) _;have bu:=ab aL;have c5:=(hx.below aL).cells.2.2.2.2.2.1;have NP:(8:Int)≤(s.queue.length:Int):=by omega
 clear hR hx aL;go_enter func68,ntmps68;go_wp2;exact HR.o_ _ bu.o_
theorem ag8(Rb:Nat)(s:aF)(x:Im)(pa:Option Addr)(pc:Nat)(qa:Option Addr)(qc:Nat)(ea:Option Addr)(ec:Nat)(w:World)(Ms M:Nat→Prop)(h:RR w Ms M Rb s)(ao:∀b,Ms b→b<w.heap.size)(hl:s.queue.length<8)(hc:db w Ms (.slice pa x.note.az.length pc,.slice qa x.note.props.length qc,.slice ea x.ids.length ec) x)(R:Ending→World→Prop)
 (hR:∀M' w',RR w' Ms M' Rb {s with queue:=s.queue++ [x]}→Sep M M' w w'→R (.returned (.bool true)) w'):
 Calls prog 68 #[.pointer (some ⟨Rb,0,none⟩),.agg (aG x pa pc qa qc ea ec)] w R:=by
 obtain ⟨sv,qv,fv,gv,hx⟩:=h;have HR:=ab hR;obtain ⟨va,vc,rfl⟩:∃a c,qv= .slice a s.queue.length c:=by
  obtain ⟨ps,_,h2,_⟩:=hx.hq;exact h2.shape
 obtain ⟨n,hn⟩:=ai s.queue.length;rw [hn] at hx hl;have NP:¬(8:Int)≤(n:Int):=by omega
 have aL:Below w w (w.alloc (Obj.cells (aG x pa pc qa qc ea ec) 36)):=(Below.refl _ _).alloc (Nat.le_refl _) _;have bu:=ab aL;have Cg:=ab (heap_alloc_new w (Obj.cells (aG x pa pc qa qc ea ec) 36));have Qf:=ab (hx.below aL);have mj:=ab (hc.sep (.cU aL));have XQ:Hid (∀b,Ms b→b<(w.alloc (Obj.cells (aG x pa pc qa qc ea ec) 36)).heap.size):=ab (fun b hb=>Nat.lt_of_lt_of_le (ao b hb) aL.size);have HN:=ab hn;have c5:=Qf.o_.cells.2.2.2.2.2.1;clear hR hc hx hn aL ao;go_enter func68,ntmps68;go_wp2_with fail;clear c5;generalize w.alloc (Obj.cells (aG x pa pc qa qc ea ec) 36)=w1 at bu Cg Qf mj XQ⊢;have iU:Below w1 w1 w1.drew:=(Below.refl _ _).drew;have vZ:=ab (Qf.o_.below iU);have gg:=ab (mj.o_.sep (.cU iU));have c5:=vZ.o_.cells.2.2.2.2.2.1;have je:Below w1.drew.heap.size w1.drew (w1.drew.alloc (Obj.cells (aG x pa pc qa qc ea ec) 36)):=(Below.refl _ _).alloc (Nat.le_refl _) _;have G':=ab (vZ.o_.below je);have lJ:=ab (gg.o_.sep (.cU je));have Qg:(w1.alloc (Obj.cells (aG x pa pc qa qc ea ec) 36)).drew.cell? ⟨Rb,5,none⟩=some (.slice va n vc):=cell_later je c5;obtain ⟨⟨i0,i1,i2,i3,i4,i5,i6⟩,i7,i8,i9,i10,i11,i12,i13⟩:=sx (w:=w1.drew) Cg.o_;obtain ⟨ps,aT,aq,aS⟩:=G'.o_.hq;rw [HN.o_] at aq;have dn:=ab aT;have aU:=ab aq;have gK:=ab aS;clear aT aq aS;go_region_law (first
  |refine Ub (by rfl) (.tmp 15) (.tmp 17) 52 (by rfl) 36 (Value.agg a_) 14 184 underlying52 sC rfl (by decide) (.slice va n vc) n _ (by rfl) aU.o_ ⟨w1,0,none⟩ 1 1 (aG x pa pc qa qc ea ec) (by rfl) (cO w1.drew (aG x pa pc qa qc ea ec) 36 14 1 rfl) (zp _ _ _ _ _ _ _) (by unfold maxLen;omega) (by omega) (by omega) ?_;intro F3 aqy w5 gz Ci;have r5:=Ci.row aU.o_ G'.o_.hS (by decide);have ag9:=af w5 Rb 5 _ _ _ r5;have f55:=aB r5 5)
 all_goals
  obtain ⟨M',iI,iJ⟩:=RX.push G'.o_ (fun b hb=>Nat.lt_of_lt_of_le (XQ.o_ b hb) (Nat.le_trans iU.size je.size)) dn.o_ gK.o_ lJ.o_ (by rw [HN.o_];exact gz) Ci;have pV:=ab iI;have rY:=ab ((((Sep.cU bu.o_).trans (.cU iU)).trans (.cU je)).trans iJ);clear iI iJ r5 ag9 f55 Ci gz i0 i1 i2 i3 i4 i5 i6 i7 i8 i9 i10 i11 i12 i13 c5 Qg;go_wp2_with fail;exact HR.o_ M' _ ⟨sv,_,fv,gv,pV.o_⟩ rY.o_
theorem XR{P:Prop}(h:P:=by
 have:=fz.o_;rw [Nat.add_assoc,aW (k*14+j) (by omega),jQ 14 cL my ps k j dM hj,iM]
 rfl):P:=h
theorem Qh{P:Prop}(h:P:=by
 have:=EJ.o_;show World.ownsRow _ _ _ _ _ _ _;rw [List.flatMap_append,show [(((Value.slice pa x.note.az.length pc,Value.slice qa x.note.props.length qc,Value.slice ea x.ids.length ec),x):V3×Im)].flatMap cL= (aG x pa pc qa qc ea ec) from rfl];exact this):P:=h
end Go.Proofs.YtgimbocoamnkjaaGreatDoor
