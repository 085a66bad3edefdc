/- A part of the proof of SessionPlays, printed small; no conditions of its own. -/
import Derived.Test.YtgimbocoamnkjaaGreatDoorM13
set_option maxRecDepth 100000
set_option maxHeartbeats 16000000
namespace Go.Proofs.YtgimbocoamnkjaaGreatDoor
open _root_.Go.Proofs.Tryz
variable{xs:List Value}{j:Nat}{w w':World}
open Go.RowKit
theorem Fi{α:Type}(p:α→Bool)(l:List α)(k:Nat)(h:k<l.length):(l.take (k+1)).filter p=(l.take k).filter p++(if p l[k]=true then [l[k]] else []):=by
 rw [List.take_add_one,List.getElem?_eq_getElem h,List.filter_append]
 congr 1
 simp only [Option.toList_some,List.filter_cons,List.filter_nil]
theorem aha{a:Addr}(hb:Below w w w')(h:w.cell? a=xs[j]?)(hj:j<xs.length):w'.cell? a=xs[j]?:=by
 rw [List.getElem?_eq_getElem hj] at h⊢;exact cell_later hb h
def oA(q:List Im)(now:Int):List Im:=q.filter fun x=> !ml x.note.aN now
theorem ahb(Rb:Nat)(s:aF)(now:Int)(d:Int)(hd:(s.queue.length:Int) - ((oA s.queue now).length:Int)=d)(hl:s.queue.length≤100000)(w:World)(Ms M:Nat→Prop)(h:RR w Ms M Rb s)(ao:∀b,Ms b→b<w.heap.size)(R:Ending→World→Prop)
 (hR:∀M' w',RR w' Ms M' Rb {s with queue:=oA s.queue now}→Sep M M' w w'→R (.returned (.int .i64 d)) w'):
 Calls prog 82 #[.pointer (some ⟨Rb,0,none⟩),.int .i64 now] w R:=by
 have HR:=ab hR;obtain ⟨sv,qv,fv,gv,hx⟩:=h;obtain ⟨ps,aT,aq,aS⟩:=id hx.hq;obtain ⟨n,hn⟩:=ai s.queue.length;have eA:ps.length=n:=by rw [←hn,←aT];simp
 rw [hn] at aq hl hd;obtain ⟨va,vc,rfl⟩:=aq.shape;have HX:=ab hx;have dn:=ab aT;have aU:=ab aq;have gK:=ab aS;have HN:=ab hn;have fz:=ab eA;have HD:=ab hd;have ft:=ab ao;clear hR hx aT aq aS hn eA hd ao;have sX:Below w w w:=Below.refl _ _;go_enter func82,ntmps82;go_wp2;go_loopg [5,6] n (fun gn s5 i wr=>∃(k m c:Nat)(ad:Option Addr) (qs:List (V3×Im)),k≤n∧gn=n - k∧i= .int .i64 k∧s5= .slice ad m c∧m≤k∧Hid ((ps.take k).filter (fun p=> !ml p.2.note.aN now)=qs)∧Hid (m=qs.length)∧Hid (wr.ownsRow w 36 14 (.slice ad m c) m (qs.flatMap cL))∧Below w w wr)
 case atStart=>exact ⟨0,0,0,none,[],Nat.zero_le _,by omega,rfl,rfl,Nat.le_refl _,rfl,rfl,World.ownsRow_nil _ _ _ _,sX⟩
 case round=>
  obtain ⟨k,m,c,ad,qs,hk,rfl,rfl,rfl,gP,HQ,HM,HO,hb⟩:=hrel;clear sX;obtain ⟨wo,rfl⟩:∃x,x=wr:=⟨_,rfl⟩
  have c5:=cell_later hb HX.o_.cells.2.2.2.2.2.1;have HB:=ab hb;have AE:=hb.size;by_cases ao:k<n
  ·have bd:(k:Int)<(n:Int):=by omega
   have dM:k<ps.length:=by have:=fz.o_;omega
   obtain ⟨⟨⟨v1,v2,v3⟩,x⟩,iM⟩:∃p,ps[k]=p:=⟨_,rfl⟩
   have ks:(((v1,v2,v3),x):V3×Im)∈ps:=by
    have:=List.getElem_mem dM;rw [iM] at this;exact this
   obtain ⟨⟨pa,pc,e1⟩,⟨qa,qc,e2⟩,ea,ec,e3⟩:=(gK.o_ _ ks).1.o_.shape;simp only at e1 e2 e3;subst e1 e2 e3;obtain ⟨g,o,kK,aW,_⟩:=(aU.o_.below hb).at (by omega);subst kK;have dI:∀j,j<14→wo.cell? ⟨g,o+k*14+j,none⟩= (aG x pa pc qa qc ea ec:List Value)[j]?:=fun j hj=>by
    exact XR
   have fy:=ab dI;have Aa:Hid (∀j,j<10→wo.cell? ⟨g,o+k*14+j,none⟩= (nR x.note pa pc qa qc:List Value)[j]?):=fun j hj=>by
    rw [dI j (by omega)]
    match j,hj with
    |0,_|1,_|2,_|3,_|4,_|5,_|6,_|7,_|8,_|9,_=>rfl
   have b7:=Fi (fun p:V3×Im=> !ml p.2.note.aN now) ps k dM;rw [HQ.o_,iM] at b7;simp only at b7;have ep:=ab b7;clear aW dI b7 ks iM HQ hb;cases hdd:ml x.note.aN now with
   |true=>
    have yE:=ab hdd;have nL:Hid ((ps.take (k+1)).filter (fun p=> !ml p.2.note.aN now)=qs):=by
     have:=ep.o_;rw [hdd,if_neg (by decide),List.append_nil] at this;exact this
    clear hdd ep;go_wp2_with (first
     |(refine ie (o:=⟨some 24,.load 34 (.tmp 23),_,_,_,_⟩) (by rfl) 34 (.tmp 23) (by rfl) (g) ((o+k*14)) (by rfl) ((nR x.note pa pc qa qc)) _ (Aa.o_) (underlying34) (by rfl) (by kernel_rfl) ?_)
     |(go_at_call 133;go_must (refine XP _ _ _ _ _ _ _ _ _ x.note.aN now true yE.o_ _ _ ?_);intro w2 ah;have aY:=ab ah;clear ah))
    go_roundg (n - (k+1))
    case measure=>omega
    case rel=>exact ⟨k+1,m,c,ad,qs,by omega,rfl,by go_num,rfl,by omega,nL,HM,ab (aK HO.o_ aY.o_),HB.o_.trans (aY.o_.mono HB.o_.size)⟩
   |false=>
    have yE:=ab hdd;have nL:Hid ((ps.take (k+1)).filter (fun p=> !ml p.2.note.aN now)=qs++ [(((Value.slice pa x.note.az.length pc,Value.slice qa x.note.props.length qc,Value.slice ea x.ids.length ec),x):V3×Im)]):=by
     have:=ep.o_;rw [hdd,if_pos (by decide)] at this;exact this
    clear hdd ep;go_wp2_with (first
     |(refine ie (o:=⟨some 24,.load 34 (.tmp 23),_,_,_,_⟩) (by rfl) 34 (.tmp 23) (by rfl) (g) ((o+k*14)) (by rfl) ((nR x.note pa pc qa qc)) _ (Aa.o_) (underlying34) (by rfl) (by kernel_rfl) ?_)
     |(go_at_call 133;go_must (refine XP _ _ _ _ _ _ _ _ _ x.note.aN now false yE.o_ _ _ ?_);intro w2 ah;have lI:=HB.o_.trans (ah.mono HB.o_.size);have aqz:=cell_later lI HX.o_.cells.2.2.2.2.2.1;have ix:=ab (aK HO.o_ ah);have ahc:Hid (∀j,j<14→w2.cell? ⟨g,o+k*14+j,none⟩= (aG x pa pc qa qc ea ec:List Value)[j]?):=ab (fun j hj=>(aha ah (fy.o_ j hj) hj));have gR:=ab lI;have aqA:=lI.size;clear ah lI c5)
     |(refine ie (o:=⟨some 35,.load 36 (.tmp 34),_,_,_,_⟩) (by rfl) 36 (.tmp 34) (by rfl) (g) ((o+k*14)) (by rfl) ((aG x pa pc qa qc ea ec)) _ (ahc.o_) (underlying36) (by rfl) (by kernel_rfl) ?_)
     |(at_builtin;go_must (refine gj (by rfl) (.tmp 28) (.tmp 36) 52 (by rfl) w 36 (Value.agg a_) 14 184 underlying52 sC rfl (by decide) ad m c _ (by rfl) (ix.o_.alloc (Obj.cells (aG x pa pc qa qc ea ec) 36)) (some ⟨w2,0,none⟩) 1 1 (aG x pa pc qa qc ea ec) (by rfl) (cO w2 (aG x pa pc qa qc ea ec) 36 14 1 rfl) (zp _ _ _ _ _ _ _) (fun h=>by cases h) (by unfold maxLen;omega) (by omega) (by simp;omega) ?_);intro fM Bu w6 dt bI _;have bg:=ab (bC (gR.o_.alloc gR.o_.size (Obj.cells (aG x pa pc qa qc ea ec) 36)) bI (by simp;omega) (ix.o_.alloc (Obj.cells (aG x pa pc qa qc ea ec) 36)));have EJ:=ab dt;clear dt bI))
    have Hi:Hid (w6.ownsRow w 36 14 (.slice fM (m+1) Bu) (m+1) ((qs++ [(((Value.slice pa x.note.az.length pc,Value.slice qa x.note.props.length qc,Value.slice ea x.ids.length ec),x):V3×Im)]).flatMap cL)):=by
     exact Qh
    go_roundg (n - (k+1))
    case measure=>omega
    case rel=>exact ⟨k+1,m+1,Bu,fM,qs++ [(((Value.slice pa x.note.az.length pc,Value.slice qa x.note.props.length qc,Value.slice ea x.ids.length ec),x):V3×Im)],by omega,rfl,by go_num,rfl,by omega,nL,ab (show m+1=(qs++ [(((Value.slice pa x.note.az.length pc,Value.slice qa x.note.props.length qc,Value.slice ea x.ids.length ec),x):V3×Im)]).length by rw [HM.o_];simp),Hi,bg.o_⟩
  ·have bd:¬(k:Int)<(n:Int):=by omega
   obtain rfl:k=n:=by omega
   have Lj:=HQ.o_;rw [List.take_of_length_le (by have:=fz.o_;omega)] at Lj;have pz:qs.map (·.2)=oA s.queue now:=by
    rw [←Lj,oA,←dn.o_,List.filter_map]
    rfl
   have jy:m=(oA s.queue now).length:=by rw [←pz,List.length_map];exact HM.o_
   have XS:∀p∈qs,p∈ps:=fun p hp=>by
    rw [←Lj] at hp;exact (List.mem_filter.1 hp).1
   have XT:=aA HX.o_.hS hb;have f5:=aB XT 5;obtain ⟨M',iI,iJ⟩:=RX.PU (qs:=oA s.queue now) HX.o_ ft.o_ hb pz (fun p hp=>gK.o_ p (XS p hp)) (by rw [←jy];exact HO.o_);have XU:(k:Int) - (m:Int)=d:=by rw [←HD.o_,jy]
   have PV:IntKind.i64.wrap ((k:Int) - (m:Int))=d:=by rw [IntKind.wrap_i64,XU];omega
   have pV:=ab iI;have rY:=ab iJ;clear Lj pz jy XS XT iI iJ XU hb;go_wp2;exact HR.o_ M' _ ⟨sv,_,fv,gv,pV.o_⟩ rY.o_
def oB(f:Fl):Bool:=f.state==1&&f.item.share != []
def j7(x:Im):Bool:=x.share != []&&decide (0<x.al)
def tZ(s:aF):List Im:=(s.aj.filter oB).map (·.item)++s.queue.filter j7
def vA(fs:List (V3×Fl)):List (V3×Im):=(fs.filter fun p=>oB p.2).map fun p=>(p.1,p.2.item)
theorem ahd(fs:List (V3×Fl))(k:Nat)(h:k<fs.length):vA (fs.take (k+1))=vA (fs.take k)++(if oB (fs[k]).2=true then [((fs[k]).1,(fs[k]).2.item)] else []):=by
 unfold vA;rw [Fi _ fs k h,List.map_append]
 congr 1
 split<;>rfl
theorem ahe(fs:List (V3×Fl)):(vA fs).map (·.2)=((fs.map (·.2)).filter oB).map (·.item):=by
 unfold vA;rw [List.filter_map,List.map_map,List.map_map]
 rfl
theorem ahf{fs:List (V3×Fl)}{p:V3×Im}(h:p∈vA fs):∃q∈fs,p=(q.1,q.2.item):=by
 unfold vA at h;obtain ⟨q,hq,rfl⟩:=List.mem_map.1 h;exact ⟨q,(List.mem_filter.1 hq).1,rfl⟩
theorem Lk(l:List UInt8):((str l).toList==ByteArray.toList ⟨#[]⟩)=(l== []):=JW l []
theorem XV{P:Prop}(h:P:=by
 go_wp2;go_roundg (n - (k+1))
 case measure=>omega
 case rel=>exact ⟨k+1,m,c,ad,rs,by omega,rfl,by go_num,rfl,by omega,nL,HM,HO,HB.o_⟩):P:=h
theorem XW{P:Prop}(h:P:=by
 go_wp2;go_roundg (nf - (k+1))
 case measure=>omega
 case rel=>exact ⟨k+1,m,c,ad,qs,by omega,rfl,by go_num,rfl,by omega,nL,HM,HO,HB.o_⟩):P:=h
theorem ahg(Rb:Nat)(s:aF)(N:Nat)(hN:(tZ s).length=N)(hl:s.queue.length≤100000)(pC:s.aj.length≤100000)(w:World)(Ms M:Nat→Prop)(h:RR w Ms M Rb s)(R:Ending→World→Prop)
 (hR:∀ad c (qs:List (V3×Im)) w',qs.map (·.2)=tZ s→w'.ownsRow w 36 14 (.slice ad N c) N (qs.flatMap cL)→(∀p∈qs,db w' Ms p.1 p.2)→Below w w w'→R (.returned (.slice ad N c)) w'):
 Calls prog 85 #[.pointer (some ⟨Rb,0,none⟩)] w R:=by
 have HR:=ab hR;obtain ⟨sv,qv,fv,gv,hx⟩:=h;obtain ⟨ps,aT,aq,aS⟩:=id hx.hq;obtain ⟨fQ,jG,fx,kL⟩:=id hx.hf;obtain ⟨n,hn⟩:=ai s.queue.length;obtain ⟨nf,mn⟩:=ai s.aj.length;have eA:ps.length=n:=by rw [←hn,←aT];simp
 have xm:fQ.length=nf:=by rw [←mn,←jG];simp
 rw [hn] at aq hl;rw [mn] at fx pC;obtain ⟨va,vc,rfl⟩:=aq.shape;obtain ⟨fa,fc,rfl⟩:=bF fx;have HX:=ab hx;have dn:=ab aT;have aU:=ab aq;have gK:=ab aS;have wV:=ab jG;have pD:=ab fx;have vk:=ab kL;have fz:=ab eA;have sY:=ab xm;have vB:=ab hN;clear hR hx aT aq aS hn eA jG fx kL mn xm hN;have sX:Below w w w:=Below.refl _ _;go_enter func85,ntmps85;go_wp2;go_loopg [3,4] nf (fun gn s5 i wr=>∃(k m c:Nat)(ad:Option Addr) (qs:List (V3×Im)),k≤nf∧gn=nf - k∧i= .int .i64 k∧s5= .slice ad m c∧m≤k∧Hid (vA (fQ.take k)=qs)∧Hid (m=qs.length)∧Hid (wr.ownsRow w 36 14 (.slice ad m c) m (qs.flatMap cL))∧Below w w wr)
 case atStart=>exact ⟨0,0,0,none,[],Nat.zero_le _,by omega,rfl,rfl,Nat.le_refl _,rfl,rfl,World.ownsRow_nil _ _ _ _,sX⟩
 case round=>
  obtain ⟨k,m,c,ad,qs,hk,rfl,rfl,rfl,gP,HQ,HM,HO,hb⟩:=hrel;clear sX;obtain ⟨wo,rfl⟩:∃x,x=wr:=⟨_,rfl⟩
  have c6:=cell_later hb HX.o_.cells.2.2.2.2.2.2.1;have HB:=ab hb;have AE:=hb.size;by_cases ao:k<nf
  ·have bd:(k:Int)<(nf:Int):=by omega
   have dM:k<fQ.length:=by have:=sY.o_;omega
   obtain ⟨⟨⟨v1,v2,v3⟩,⟨cR,fst,x⟩⟩,iM⟩:∃p,fQ[k]=p:=⟨_,rfl⟩
   have ks:(((v1,v2,v3),⟨cR,fst,x⟩):V3×Fl)∈fQ:=by
    have:=List.getElem_mem dM;rw [iM] at this;exact this
   obtain ⟨⟨pa,pc,e1⟩,⟨qa,qc,e2⟩,ea,ec,e3⟩:=(vk.o_ _ ks).1.o_.shape;simp only at e1 e2 e3;subst e1 e2 e3;have Di:=aK pD.o_ hb;obtain ⟨g,kK⟩:=et Di (by omega);subst kK;have dI:∀j,j<16→wo.cell? ⟨g,k*16+j,none⟩= (cD cR fst x pa pc qa qc ea ec:List Value)[j]?:=fun j hj=>by
    have:=sY.o_;rw [Di.cellAt (k*16+j) (by omega),jQ 16 bH iY fQ k j dM hj,iM]
    rfl
   have d1:=dI 1 (by omega);have d15:=dI 15 (by omega);have XY:wo.cell? ⟨g,k*16+1,none⟩=some (.int .i64 fst):=d1;have Ll:wo.cell? ⟨g,k*16+15,none⟩=some (.string (str x.share)):=d15;have fy:Hid (∀j,j<14→wo.cell? ⟨g,k*16+2+j,none⟩= (aG x pa pc qa qc ea ec:List Value)[j]?):=fun j hj=>by
    rw [Nat.add_assoc,dI (2+j) (by omega),Nat.add_comm 2 j]
    rfl
   have b7:=ahd fQ k dM;rw [HQ.o_,iM] at b7;simp only at b7;have ep:=ab b7;clear dI b7 ks iM HQ hb d1 d15 Di;by_cases ch:fst=1
   ·subst ch;by_cases bt:x.share= []
    ·have nL:Hid (vA (fQ.take (k+1))=qs):=by
      have:=ep.o_;rw [show oB ⟨cR,1,x⟩=false by simp [oB,bt],if_neg (by decide),List.append_nil] at this;exact this
     rw [bt] at Ll;have aqB:wo.cell? ⟨g,k*16+15,none⟩=some (.string ⟨#[]⟩):=Ll;clear ep bt Ll;exact XW
    ·have nL:Hid (vA (fQ.take (k+1))=qs++ [(((Value.slice pa x.note.az.length pc,Value.slice qa x.note.props.length qc,Value.slice ea x.ids.length ec),x):V3×Im)]):=by
      have:=ep.o_;rw [show oB ⟨cR,1,x⟩=true by simp [oB,bt],if_pos rfl] at this;exact this
     have fj:((str x.share).toList==ByteArray.toList ⟨#[]⟩)=false:=by rw [Lk];simpa using bt
     have Hj:(x.share== [])=false:=by simpa using bt
     clear ep;go_wp2_with (first
      |(refine ie (o:=⟨some 44,.load 36 (.tmp 43),_,_,_,_⟩) (by rfl) 36 (.tmp 43) (by rfl) (g) ((k*16+2)) (by rfl) ((aG x pa pc qa qc ea ec)) _ (fy.o_) (underlying36) (by rfl) (by kernel_rfl) ?_)
      |(at_builtin;go_must (refine gj (by rfl) (.tmp 36) (.tmp 45) 52 (by rfl) w 36 (Value.agg a_) 14 184 underlying52 sC rfl (by decide) ad m c _ (by rfl) (HO.o_.alloc (Obj.cells (aG x pa pc qa qc ea ec) 36)) (some ⟨wo,0,none⟩) 1 1 (aG x pa pc qa qc ea ec) (by rfl) (cO wo (aG x pa pc qa qc ea ec) 36 14 1 rfl) (zp _ _ _ _ _ _ _) (fun h=>by cases h) (by unfold maxLen;omega) (by omega) (by simp;omega) ?_);intro fM Bu w6 dt bI _;have bg:=ab (bC (HB.o_.alloc HB.o_.size (Obj.cells (aG x pa pc qa qc ea ec) 36)) bI (by simp;omega) (HO.o_.alloc (Obj.cells (aG x pa pc qa qc ea ec) 36)));have EJ:=ab dt;clear dt bI))
     have Hi:Hid (w6.ownsRow w 36 14 (.slice fM (m+1) Bu) (m+1) ((qs++ [(((Value.slice pa x.note.az.length pc,Value.slice qa x.note.props.length qc,Value.slice ea x.ids.length ec),x):V3×Im)]).flatMap cL)):=by
      exact Qh
     go_roundg (nf - (k+1))
     case measure=>omega
     case rel=>exact ⟨k+1,m+1,Bu,fM,qs++ [(((Value.slice pa x.note.az.length pc,Value.slice qa x.note.props.length qc,Value.slice ea x.ids.length ec),x):V3×Im)],by omega,rfl,by go_num,rfl,by omega,nL,ab (show m+1=(qs++ [(((Value.slice pa x.note.az.length pc,Value.slice qa x.note.props.length qc,Value.slice ea x.ids.length ec),x):V3×Im)]).length by rw [HM.o_];simp),Hi,bg.o_⟩
   ·have nL:Hid (vA (fQ.take (k+1))=qs):=by
     have:=ep.o_;rw [show oB ⟨cR,fst,x⟩=false by simp [oB,ch],if_neg (by decide),List.append_nil] at this;exact this
    have fj:(fst==1)=false:=by simpa using ch
    clear ep;exact XW
  ·have bd:¬(k:Int)<(nf:Int):=by omega
   obtain rfl:nf=k:=by omega
   have XZ:Hid (vA fQ=qs):=by
    have:=HQ.o_;rw [List.take_of_length_le (by have:=sY.o_;omega)] at this;exact this
   have ns:m≤nf:=gP;go_wp2;clear HQ;go_loopg [3,5] n (fun gn s5 i wr=>∃(k m c:Nat)(ad:Option Addr) (rs:List (V3×Im)),k≤n∧gn=n - k∧i= .int .i64 k∧s5= .slice ad m c∧m≤nf+k∧Hid (qs++(ps.take k).filter (fun p=>j7 p.2)=rs)∧Hid (m=rs.length)∧Hid (wr.ownsRow w 36 14 (.slice ad m c) m (rs.flatMap cL))∧Below w w wr)
   case atStart=>exact ⟨0,m,c,ad,qs,Nat.zero_le _,by omega,rfl,rfl,gP,by show _=_;simp,HM,HO,HB.o_⟩
   case round=>
    clear HM HO HB AE c6 gP hk bd;obtain ⟨k,m,c,ad,rs,hk,rfl,rfl,rfl,gP,HQ,HM,HO,hb⟩:=hrel;obtain ⟨wo,rfl⟩:∃x,x=wr:=⟨_,rfl⟩
    have c5:=cell_later hb HX.o_.cells.2.2.2.2.2.1;have HB:=ab hb;have AE:=hb.size;by_cases ao:k<n
    ·have bd:(k:Int)<(n:Int):=by omega
     have dM:k<ps.length:=by have:=fz.o_;omega
     obtain ⟨⟨⟨v1,v2,v3⟩,x⟩,iM⟩:∃p,ps[k]=p:=⟨_,rfl⟩
     have ks:(((v1,v2,v3),x):V3×Im)∈ps:=by
      have:=List.getElem_mem dM;rw [iM] at this;exact this
     obtain ⟨⟨pa,pc,e1⟩,⟨qa,qc,e2⟩,ea,ec,e3⟩:=(gK.o_ _ ks).1.o_.shape;simp only at e1 e2 e3;subst e1 e2 e3;obtain ⟨g,o,kK,aW,_⟩:=(aU.o_.below hb).at (by omega);subst kK;have dI:∀j,j<14→wo.cell? ⟨g,o+k*14+j,none⟩= (aG x pa pc qa qc ea ec:List Value)[j]?:=fun j hj=>by
      exact XR
     have fy:=ab dI;have d13:wo.cell? ⟨g,o+k*14+13,none⟩=some (.string (str x.share)):=dI 13 (by omega);have d10:wo.cell? ⟨g,o+k*14+10,none⟩=some (.int .i64 x.al):=dI 10 (by omega);have b7:=Fi (fun p:V3×Im=>j7 p.2) ps k dM;rw [iM] at b7;have X0:qs++(ps.take (k+1)).filter (fun p=>j7 p.2)=rs++(if j7 x=true then [(((Value.slice pa x.note.az.length pc,Value.slice qa x.note.props.length qc,Value.slice ea x.ids.length ec),x):V3×Im)] else []):=by
      rw [b7,←List.append_assoc,HQ.o_]
     have ep:=ab X0;clear aW dI b7 X0 ks iM HQ hb;by_cases bt:x.share= []
     ·have nL:Hid (qs++(ps.take (k+1)).filter (fun p=>j7 p.2)=rs):=by
       have:=ep.o_;rw [show j7 x=false by simp [j7,bt],if_neg (by decide),List.append_nil] at this;exact this
      rw [bt] at d13;have ahh:wo.cell? ⟨g,o+k*14+13,none⟩=some (.string ⟨#[]⟩):=d13;clear ep bt d13;exact XV
     ·have fj:((str x.share).toList==ByteArray.toList ⟨#[]⟩)=false:=by rw [Lk];simpa using bt
      have Hj:(x.share== [])=false:=by simpa using bt
      by_cases hq:(0:Int)<x.al
      ·have nL:Hid (qs++(ps.take (k+1)).filter (fun p=>j7 p.2)=rs++ [(((Value.slice pa x.note.az.length pc,Value.slice qa x.note.props.length qc,Value.slice ea x.ids.length ec),x):V3×Im)]):=by
        have:=ep.o_;rw [show j7 x=true by simp [j7,bt,hq],if_pos rfl] at this;exact this
       have tv:decide ((0:Int)<x.al)=true:=decide_eq_true hq;clear ep;go_wp2_with (first
        |(refine ie (o:=⟨some 83,.load 36 (.tmp 82),_,_,_,_⟩) (by rfl) 36 (.tmp 82) (by rfl) (g) ((o+k*14)) (by rfl) ((aG x pa pc qa qc ea ec)) _ (fy.o_) (underlying36) (by rfl) (by kernel_rfl) ?_)
        |(at_builtin;go_must (refine gj (by rfl) (.tmp 76) (.tmp 84) 52 (by rfl) w 36 (Value.agg a_) 14 184 underlying52 sC rfl (by decide) ad m c _ (by rfl) (HO.o_.alloc (Obj.cells (aG x pa pc qa qc ea ec) 36)) (some ⟨wo,0,none⟩) 1 1 (aG x pa pc qa qc ea ec) (by rfl) (cO wo (aG x pa pc qa qc ea ec) 36 14 1 rfl) (zp _ _ _ _ _ _ _) (fun h=>by cases h) (by unfold maxLen;omega) (by omega) (by simp;omega) ?_);intro fM Bu w6 dt bI _;have bg:=ab (bC (HB.o_.alloc HB.o_.size (Obj.cells (aG x pa pc qa qc ea ec) 36)) bI (by simp;omega) (HO.o_.alloc (Obj.cells (aG x pa pc qa qc ea ec) 36)));have EJ:=ab dt;clear dt bI))
       have Hi:Hid (w6.ownsRow w 36 14 (.slice fM (m+1) Bu) (m+1) ((rs++ [(((Value.slice pa x.note.az.length pc,Value.slice qa x.note.props.length qc,Value.slice ea x.ids.length ec),x):V3×Im)]).flatMap cL)):=by
        exact Qh
       go_roundg (n - (k+1))
       case measure=>omega
       case rel=>exact ⟨k+1,m+1,Bu,fM,rs++ [(((Value.slice pa x.note.az.length pc,Value.slice qa x.note.props.length qc,Value.slice ea x.ids.length ec),x):V3×Im)],by omega,rfl,by go_num,rfl,by omega,nL,ab (show m+1=(rs++ [(((Value.slice pa x.note.az.length pc,Value.slice qa x.note.props.length qc,Value.slice ea x.ids.length ec),x):V3×Im)]).length by rw [HM.o_];simp),Hi,bg.o_⟩
      ·have nL:Hid (qs++(ps.take (k+1)).filter (fun p=>j7 p.2)=rs):=by
        have:=ep.o_;rw [show j7 x=false by simp [j7,hq],if_neg (by decide),List.append_nil] at this;exact this
       have tv:decide ((0:Int)<x.al)=false:=decide_eq_false hq;clear ep;exact XV
    ·have bd:¬(k:Int)<(n:Int):=by omega
     obtain rfl:n=k:=by omega
     have Lm:=HQ.o_;rw [List.take_of_length_le (by have:=fz.o_;omega)] at Lm;have pz:rs.map (·.2)=tZ s:=by
      rw [←Lm,List.map_append,←XZ.o_,ahe,wV.o_,tZ,←dn.o_,List.filter_map]
      rfl
     have Qi:m=N:=by rw [←vB.o_,←pz,List.length_map];exact HM.o_
     subst Qi;have dm:∀p∈rs,db wo Ms p.1 p.2:=fun p hp=>by
      rw [←Lm] at hp;rcases List.mem_append.1 hp with hp|hp
      ·rw [←XZ.o_] at hp;obtain ⟨q,hq,rfl⟩:=ahf hp;exact (vk.o_ q hq).sep (.cU HB.o_)
      ·exact (gK.o_ p (List.mem_filter.1 hp).1).sep (.cU HB.o_)
     have kH:=ab (HR.o_ ad c rs wo pz HO.o_ dm HB.o_);clear Lm pz dm hb;go_wp2;exact kH.o_
open List (eraseIdx_eq_take_drop_succ getElem_take pairwise_append)
variable{i:Nat}
theorem Qj(L:List Int)(k:Nat)(hk:k<L.length):(iv L)[k]? =some (.int .i64 L[k]):=by
 simp [iv,hk]
theorem X1(L:List Int)(k:Nat):(iv L).take k=iv (L.take k):=by simp [iv]
theorem X3(L:List Int)(k:Nat):(iv L).drop k=iv (L.drop k):=by simp [iv]
theorem Qk(a b:List Int):iv a++iv b=iv (a++b):=by simp [iv]
theorem Hk(l:List Int)(d:Int):(bE l).contains d=l.contains d:=by
 rw [Bool.eq_iff_iff];simp [(rV l).mem_iff]
theorem ahi{l:List Int}{d:Int}(hi:i≤(bE l).length)(h1:∀j (hj:j<i),(bE l)[j]'(by omega)<d)(h2:∀(h:i<(bE l).length),d<(bE l)[i]):bE (l++ [d])=(bE l).take i++ [d]++(bE l).drop i:=by
 refine PM ((rV _).trans ?_) (Bo _) ?_
 ·have h3:(l++ [d]).Perm (bE l++ [d]):=(rV l).symm.append_right _;refine h3.trans ?_;have h4:bE l++ [d]=(bE l).take i++((bE l).drop i++ [d]):=by rw [←List.append_assoc,List.take_append_drop]
  rw [h4,List.append_assoc];exact (List.perm_append_comm).append_left _
 ·have hs:=Bo l;rw [←List.take_append_drop i (bE l)] at hs;obtain ⟨s1,s2,s3⟩:=List.pairwise_append.1 hs;have lo:∀x∈(bE l).take i,x<d:=fun x hx=>by
   obtain ⟨j,hj,rfl⟩:=List.getElem_of_mem hx;rw [getElem_take];exact h1 j (by have:=hj;rw [List.length_take] at this;omega)
  have gU:∀x∈(bE l).drop i,d<x:=fun x hx=>by
   obtain ⟨j,hj,rfl⟩:=List.getElem_of_mem hx;have zb:i+j<(bE l).length:=by simp at hj;omega
   rw [List.getElem_drop];have h5:=h2 (by omega);have h6:(bE l)[i]'(by omega)≤(bE l)[i+j]:=by
    rcases Nat.eq_or_lt_of_le (Nat.le_add_right i j) with e|e
    ·simp [←e]
    ·exact List.pairwise_iff_getElem.1 (Bo l) i (i+j) (by omega) zb e
   omega
  rw [List.append_assoc,pairwise_append];refine ⟨s1,?_,fun a ha b hb=> ?_⟩
  ·rw [List.singleton_append,List.pairwise_cons];exact ⟨fun x hx=>by have:=gU x hx;omega,s2⟩
  ·have:=lo a ha;rcases List.mem_append.1 hb with hb|hb
   ·obtain rfl:=List.mem_singleton.1 hb
    omega
   ·have:=gU b hb
    omega
theorem ahj{l:List Int}{d:Int}(hi:i<(bE l).length)(h1:∀j (hj:j<i),(bE l)[j]'(by omega)<d)(h2:d≤(bE l)[i]):((bE l)[i]=d)↔l.contains d=true:=by
 constructor
 ·intro h;rw [←Hk,←h];simp
 ·intro h;rw [←Hk] at h;obtain ⟨j,hj,e⟩:=List.getElem_of_mem (by simpa using h:d∈bE l);rcases Nat.lt_or_ge j i with ao|Ex
  ·have:=h1 j ao
   omega
  ·rcases Nat.eq_or_lt_of_le Ex with e2|e2
   ·subst e2;exact e
   ·have:=List.pairwise_iff_getElem.1 (Bo l) i j hi hj e2
    omega
theorem ahk{l:List Int}{d:Int}(hi:i<(bE l).length)(h:(bE l)[i]=d):bE (l.erase d)=(bE l).take i++(bE l).drop (i+1):=by
 rw [←eraseIdx_eq_take_drop_succ];have hm:d∈l:=by
  rw [←(rV l).mem_iff,←h];exact List.getElem_mem hi
 refine PM ((rV _).trans ?_) (Bo _) (List.Pairwise.sublist (List.eraseIdx_sublist _ _) (Bo l));have p1:(d::l.erase d).Perm l:=(List.perm_cons_erase hm).symm;have p2:(d::(bE l).eraseIdx i).Perm (bE l):=by
  rw [eraseIdx_eq_take_drop_succ];refine (List.perm_middle.symm).trans ?_;rw [←h,List.getElem_cons_drop,List.take_append_drop]
 exact ((p1.trans (rV l).symm).trans p2.symm).cons_inv
theorem X4{P:Prop}(h:P:=by
 rw [←HB.o_]
 symm
 rw [Bool.eq_false_iff];intro hm;obtain ⟨j,hj,e⟩:=List.getElem_of_mem (by simpa using hm:d∈L);exact lv.o_ j (by have:=HN.o_;omega) hj e):P:=h
theorem Ln(Rb:Nat)(s:aF)(d:Int)(b:Bool)(hb:s.aH.contains d=b)(hl:s.aH.length≤100000)(w:World)(Ms M:Nat→Prop)(h:RR w Ms M Rb s)(R:Ending→World→Prop)
 (hR:R (.returned (.bool b)) w):
 Calls prog 128 #[.pointer (some ⟨Rb,7,none⟩),.int .i64 d] w R:=by
 obtain ⟨sv,qv,fv,gv,hx⟩:=h;have HR:=ab hR;have hg:=hx.hg;have c7:=hx.cells.2.2.2.2.2.2.2;have aX:=tW s.aH;rw [←Hk] at hb;generalize bE s.aH=L at hg aX hb;rw [←aX] at hg hl;obtain ⟨n,hn⟩:=ai L.length;rw [hn] at hg hl;obtain ⟨ga,gc,rfl⟩:=bF hg;have HG:=ab hg;have HN:=ab hn;have HB:=ab hb;clear hR hx hg hn hb aX;go_enter func128,ntmps128;go_wp2;go_loopg [5] n (fun gn i wr=>∃k:Nat,k≤n∧gn=n - k∧i= .int .i64 k∧wr=w∧Hid (∀j (hj:j<k) (eE:j<L.length),L[j]≠d))
 case atStart=>exact ⟨0,Nat.zero_le _,by omega,rfl,rfl,ab (fun j hj=>by omega)⟩
 case round=>
  obtain ⟨k,hk,rfl,rfl,rfl,lv⟩:=hrel;by_cases ao:k<n
  ·have bd:(k:Int)<(n:Int):=by omega
   have f_:k<L.length:=by have:=HN.o_;omega
   obtain ⟨g,rfl⟩:=et HG.o_ (by omega);have ef:wr.cell? ⟨g,k,none⟩=some (.int .i64 L[k]):=by
    rw [HG.o_.cellAt k (by omega)];exact Qj L k f_
   obtain ⟨v,hv⟩:=ai (L[k]);rw [hv] at ef;by_cases he:v=d
   ·subst he;obtain rfl:true=b:=by rw [←HB.o_,←hv];simp
    clear hv;go_wp2;exact HR.o_
   ·have Hb:Hid (∀j (hj:j<k+1) (eE:j<L.length),L[j]≠d):=fun j hj eE=>by
     by_cases mh:j=k
     ·subst mh;rw [hv];exact he
     ·exact lv.o_ j (by omega) eE
    clear hv;exact Ha
  ·have bd:¬(k:Int)<(n:Int):=by omega
   obtain rfl:false=b:=by
    exact X4
   go_wp2;exact HR.o_
theorem ahl(Rb:Nat)(s:aF)(d:Int)(b:Bool)(hb:s.aH.contains d=b)(hl:s.aH.length≤100000)(w:World)(Ms M:Nat→Prop)(h:RR w Ms M Rb s)(ao:∀b,Ms b→b<w.heap.size)(R:Ending→World→Prop)
 (hR:∀M' w',RR w' Ms M' Rb {s with aH:=s.aH.erase d}→Sep M M' w w'→R (.returned (.bool b)) w'):
 Calls prog 76 #[.pointer (some ⟨Rb,7,none⟩),.int .i64 d] w R:=by
 obtain ⟨sv,qv,fv,gv,hx⟩:=h;have HR:=ab hR;have hg:=hx.hg;have c7:=hx.cells.2.2.2.2.2.2.2;have aX:=tW s.aH;have Ql:=ab (fun i hi h=>ahk (l:=s.aH) (d:=d) (i:=i) hi h);have HX:=ab hx;have bu:=ab hb;rw [←Hk] at hb;generalize bE s.aH=L at hg aX hb Ql;rw [←aX] at hg hl;obtain ⟨n,hn⟩:=ai L.length;rw [hn] at hg hl;obtain ⟨ga,gc,rfl⟩:=bF hg;obtain ⟨i0,bS,_,cm,_⟩:=info_parts qV;have HG:=ab hg;have HN:=ab hn;have m8:=ab aX;have HB:=ab hb;have ft:=ab ao;clear hR hx hg hn hb aX ao;go_enter func76,ntmps76;go_wp2;go_loopg [5] n (fun gn i wr=>∃k:Nat,k≤n∧gn=n - k∧i= .int .i64 k∧wr=w∧Hid (∀j (hj:j<k) (eE:j<L.length),L[j]≠d))
 case atStart=>exact ⟨0,Nat.zero_le _,by omega,rfl,rfl,ab (fun j hj=>by omega)⟩
 case round=>
  obtain ⟨k,hk,rfl,rfl,rfl,lv⟩:=hrel;by_cases ao:k<n
  ·have bd:(k:Int)<(n:Int):=by omega
   have f_:k<L.length:=by have:=HN.o_;omega
   obtain ⟨g,rfl⟩:=et HG.o_ (by omega);have ef:wr.cell? ⟨g,k,none⟩=some (.int .i64 L[k]):=by
    rw [HG.o_.cellAt k (by omega)];exact Qj L k f_
   obtain ⟨v,hv⟩:=ai (L[k]);rw [hv] at ef;by_cases he:v=d
   ·subst he;obtain rfl:true=b:=by rw [←HB.o_,←hv];simp
    have ahm:=ab (Ql.o_ k f_ hv);have iV:=(bf.gW HG.o_).cap;obtain ⟨Fg,ly⟩:=bf.upto (k:=k) (bf.gW (aK HG.o_ (Below.refl wr wr).drew)) underlying25 bS cm (by omega);obtain ⟨ax,oe,bW,_⟩:=bf.from (k:=k+1) (bf.gW HG.o_) underlying25 bS cm (by omega);have nJ:=bW.cap;have Hl:wr.drew.cell? ⟨Rb,7,none⟩=_:=c7;have wQ:=ab bW;have rX:=ab ly;have gg:=ab iV;have ek:=ab nJ;have XE:∀w',(Instr.slice 25 (.slice (some ⟨g,0,none⟩) n gc) (some (.int .i64 ((k:Int)+1))) none none).run prog w'= .ok (.slice ax (n - (k+1)) (gc - (k+1))) w':=oe;have PV:IntKind.i64.wrap ((k:Int)+1)=(k:Int)+1:=by rw [IntKind.wrap_i64];omega
    clear ly bW iV nJ oe hv Ql lv;go_wp2_with fail;go_region_law (first
     |(refine uL (by rfl) (.tmp 26) (.tmp 32) 25 (by rfl) wr 3 (.int .i64 0) 1 8 underlying25 qV rfl (by decide) none (by rfl) (World.ownsRow_nil _ _ _ _) (some ⟨g,0,none⟩) k gc _ (by rfl) rX.o_ (xj (xS _)) (fun h=>by cases h) (by unfold maxLen;omega) (by omega) (Nat.le_refl _) ?_;intro fY c3 w3 bD an;have zF:=cell_later an Hl;have cH:Below wr wr w3:=dw (Below.refl wr wr).drew an)
     |(refine gx (by rfl) (.tmp 33) (.tmp 40) 25 (by rfl) wr 3 (.int .i64 0) 1 8 underlying25 qV rfl (by decide) fY k c3 _ (by rfl) bD ax (n - (k+1)) (gc - (k+1)) _ (by rfl) (Df wQ.o_ cH) (Dg (xS _)) ek.o_.2.2 (by unfold maxLen;omega) (by omega) cH.size ?_;intro gL c4 w4 eh cT _;have ak:=bC cH cT cH.size bD;have r4:=aA HX.o_.hS ak;have e4:=af w4 Rb 7 _ _ _ r4;have f4:=aB r4 7))
    all_goals
     have ql:k+(n - (k+1))=(s.aH.erase v).length:=by
      have h1:v∈s.aH:=by simpa using bu.o_
      rw [List.length_erase_of_mem h1,←m8.o_,HN.o_]
      omega
     obtain ⟨M',iI,iJ⟩:=RX.K9 (gs:=s.aH.erase v) HX.o_ ft.o_ ak (by
      rw [←ql,ahm.o_,←Qk,←X1,←X3]
      simpa using eh)
     have pV:=ab iI;have rY:=ab iJ;clear iI iJ eh cT ak r4 e4 f4 cH bD zF an ql;go_wp2_with fail;exact HR.o_ M' _ ⟨sv,qv,fv,_,pV.o_⟩ rY.o_
   ·have Hb:Hid (∀j (hj:j<k+1) (eE:j<L.length),L[j]≠d):=fun j hj eE=>by
     by_cases mh:j=k
     ·subst mh;rw [hv];exact he
     ·exact lv.o_ j (by omega) eE
    clear hv;exact Ha
  ·have bd:¬(k:Int)<(n:Int):=by omega
   obtain rfl:false=b:=by
    exact X4
   have HE:Hid (s.aH.erase d=s.aH):=List.erase_of_not_mem (by simpa using bu.o_);go_wp2;exact HR.o_ M wr (by rw [HE.o_];exact ⟨sv,qv,fv,_,HX.o_⟩) (.refl _ _)
theorem ahn{l L:List Int}(hL:bE l=L){d:Int}(hi:i≤L.length)(h1:∀j (hj:j<i),L[j]'(by omega)<d)(h2:∀(h:i<L.length),d<L[i]):bE (l++ [d])=L.take i++ [d]++L.drop i:=by
 subst hL;exact ahi hi h1 h2
theorem aho{l L:List Int}(hL:bE l=L){d:Int}(hi:i<L.length)(h1:∀j (hj:j<i),L[j]'(by omega)<d)(h2:d≤L[i]):(L[i]=d)↔l.contains d=true:=by
 subst hL;exact ahj hi h1 h2
theorem ahp(Rb:Nat)(d:Int)(hd:d<1∨65535<d)(w:World)(R:Ending→World→Prop)
 (hR:R (.returned (.bool false)) w):
 Calls prog 99 #[.pointer (some ⟨Rb,7,none⟩),.int .i64 d] w R:=by
 have HR:=ab hR;clear hR;by_cases h1:d<1
 ·clear hd;go_enter func99,ntmps99;go_wp2;exact HR.o_
 ·have h2:65535<d:=by omega
  clear hd;go_enter func99,ntmps99;go_wp2;exact HR.o_
theorem X5{P:Prop}(h:P:=by
 obtain ⟨M',iI,iJ⟩:=RX.K9 (gs:=s.aH++ [d]) HX.o_ ft.o_ aC (by
  rw [←ql,X6.o_,←Qk,←Qk,←X1,←X3,show iv [d]= [Value.int .i64 d] from rfl]
  simpa using ez)
 have pV:=ab iI;have rY:=ab iJ;clear iI iJ ez fo aC r5 e5 f5 ak eh Lp cH bD zF an ql;go_wp2_with fail;exact HR.o_ M' _ ⟨sv,qv,fv,_,pV.o_⟩ rY.o_):P:=h
theorem ahq(Rb:Nat)(s:aF)(d:Int)(iU:1≤d)(vC:d≤65535)(b:Bool)(hb:s.aH.contains d= !b)(hl:s.aH.length≤100000)(w:World)(Ms M:Nat→Prop)(h:RR w Ms M Rb s)(ao:∀b,Ms b→b<w.heap.size)(R:Ending→World→Prop)
 (hR:∀M' w',RR w' Ms M' Rb (if b=true then {s with aH:=s.aH++ [d]} else s)→Sep M M' w w'→R (.returned (.bool b)) w'):
 Calls prog 99 #[.pointer (some ⟨Rb,7,none⟩),.int .i64 d] w R:=by
 obtain ⟨sv,qv,fv,gv,hx⟩:=h;have HR:=ab hR;have hg:=hx.hg;have c7:=hx.cells.2.2.2.2.2.2.2;have aX:=tW s.aH;have HX:=ab hx;have HB:=ab hb;have Ab:=ab (Hk s.aH d);obtain ⟨L,hL⟩:=ai (bE s.aH);rw [hL] at hg aX Ab;have Fj:=ab (fun i hi h1 h2=>ahn hL (d:=d) (i:=i) hi h1 h2);have zV:=ab (fun i hi h1 h2=>aho hL (d:=d) (i:=i) hi h1 h2);clear hL;rw [←aX] at hg hl;obtain ⟨n,hn⟩:=ai L.length;rw [hn] at hg hl;obtain ⟨ga,gc,rfl⟩:=bF hg;obtain ⟨i0,bS,_,cm,_⟩:=info_parts qV;have HG:=ab hg;have HN:=ab hn;have m8:=ab aX;have ft:=ab ao;have Oq:¬d<1:=by omega
 have Gb:¬65535<d:=by omega
 clear hR hx hg hn hb aX ao iU vC;go_enter func99,ntmps99;go_wp2;go_loopg [5] n (fun gn i wr=>∃k:Nat,k≤n∧gn=n - k∧i= .int .i64 k∧wr=w∧Hid (∀j (hj:j<k) (eE:j<L.length),L[j]<d))
 case atStart=>exact ⟨0,Nat.zero_le _,by omega,rfl,rfl,ab (fun j hj=>by omega)⟩
 case round=>
  obtain ⟨k,hk,rfl,rfl,rfl,lv⟩:=hrel;by_cases ao:k<n
  ·have bd:(k:Int)<(n:Int):=by omega
   have f_:k<L.length:=by have:=HN.o_;omega
   obtain ⟨g,rfl⟩:=et HG.o_ (by omega);have ef:wr.cell? ⟨g,k,none⟩=some (.int .i64 L[k]):=by
    rw [HG.o_.cellAt k (by omega)];exact Qj L k f_
   obtain ⟨v,hv⟩:=ai (L[k]);rw [hv] at ef;by_cases ahr:v<d
   ·have Hb:Hid (∀j (hj:j<k+1) (eE:j<L.length),L[j]<d):=fun j hj eE=>by
     by_cases mh:j=k
     ·subst mh;rw [hv];exact ahr
     ·exact lv.o_ j (by omega) eE
    clear hv;exact Ha
   ·have bJ:=zV.o_ k f_ (fun j hj=>lv.o_ j hj (by omega)) (by rw [hv];omega);rw [hv] at bJ;by_cases he:v=d
    ·obtain rfl:false=b:=by
      have:=bJ.1 he;rw [HB.o_] at this
      simpa using this.symm
     subst he;clear bJ hv;go_wp2;exact HR.o_ M wr ⟨sv,qv,fv,_,HX.o_⟩ (.refl _ _)
    ·obtain rfl:true=b:=by
      have:¬s.aH.contains d=true:=fun h=>he (bJ.2 h);rw [HB.o_] at this
      simpa using this
     have X6:Hid (bE (s.aH++ [d])=L.take k++ [d]++L.drop k):=Fj.o_ k (by omega) (fun j hj=>lv.o_ j hj (by omega)) (fun _=>by rw [hv];omega);have bh:(v==d)=false:=by simpa using he
     clear bJ hv he;clear lv zV Fj Ab;have iV:=(bf.gW HG.o_).cap;have gy:=iV.1;obtain ⟨Fg,ly⟩:=bf.upto (k:=k) (bf.gW (aK HG.o_ (Below.refl wr wr).drew)) underlying25 bS cm (by omega);obtain ⟨ax,oe,bW,_⟩:=bf.from (k:=k) (bf.gW HG.o_) underlying25 bS cm (by omega);have nJ:=bW.cap;have Hl:wr.drew.cell? ⟨Rb,7,none⟩=_:=c7;have eV:Below wr wr (wr.alloc (Obj.cells #[Value.int .i64 d] 3)).drew:=((Below.refl _ _).alloc (Nat.le_refl _) _).drew;have Qm:=cell_later eV c7;have Hm:=(bf.upto (k:=k) (bf.gW (aK HG.o_ eV)) underlying25 bS cm (by omega)).2;have wQ:=ab bW;have rX:=ab ly;have Qn:Hid (Rd (wr.alloc (Obj.cells #[Value.int .i64 d] 3)).drew 1 (some ⟨g,0,none⟩) k ((iv L).take (k*1))):=ab Hm;have ku:Hid (Rd (wr.alloc (Obj.cells #[Value.int .i64 d] 3)).drew 1 (some ⟨wr,0,none⟩) 1 [Value.int .i64 d]):=ab (Rd.below (cO wr #[Value.int .i64 d] 3 1 1 rfl) (Below.refl _ _).drew);have gg:=ab iV;have ek:=ab nJ;clear ly Hm bW iV nJ;go_wp2_with fail;go_region_law (first
      |(refine uL (by rfl) (.tmp 52) (.tmp 58) 25 (by rfl) wr 3 (.int .i64 0) 1 8 underlying25 qV rfl (by decide) none (by rfl) (World.ownsRow_nil _ _ _ _) (some ⟨g,0,none⟩) k gc _ (by rfl) rX.o_ (xj (xS _)) gg.o_.2.2 (by unfold maxLen;omega) (by omega) (Nat.le_refl _) ?_;intro fY c3 w3 bD an;have zF:=cell_later an Hl;have Hn:Below w3 w3 (w3.alloc (Obj.cells #[Value.int .i64 d] 3)):=(Below.refl _ _).alloc (Nat.le_refl _) _;have ahs:=cell_later Hn zF;have cH:Below wr wr w3:=dw (Below.refl wr wr).drew an;have oz:=cH.trans (Hn.mono cH.size);have r7:=cO w3 #[Value.int .i64 d] 3 1 1 rfl)
      |(refine uL (by rfl) (.tmp 52) (.tmp 58) 25 (by rfl) wr 3 (.int .i64 0) 1 8 underlying25 qV rfl (by decide) none (by rfl) (World.ownsRow_nil _ _ _ _) (some ⟨g,0,none⟩) k gc _ (by rfl) Qn.o_ (xj (xS _)) gg.o_.2.2 (by unfold maxLen;omega) (by omega) eV.size ?_;intro fY c3 w3 bD an;have zF:=cell_later an Qm;have cH:Below wr wr w3:=eV.trans (an.mono eV.size);have r7:=ku.o_.below an)
      |(refine gx (by rfl) (.tmp 59) (.tmp 61) 25 (by rfl) wr 3 (.int .i64 0) 1 8 underlying25 qV rfl (by decide) fY k c3 _ (by rfl) (bD.alloc (Obj.cells #[Value.int .i64 d] 3)) (some ⟨w3,0,none⟩) 1 1 [Value.int .i64 d] (by rfl) r7 (nQ _ _) (fun h=>by cases h) (by unfold maxLen;omega) (by omega) oz.size ?_;intro gL c4 w4 eh cT _;have ak:=bC oz cT oz.size (bD.alloc (Obj.cells #[Value.int .i64 d] 3));have Lp:=cell_later ak c7)
      |(refine gx (by rfl) (.tmp 59) (.tmp 61) 25 (by rfl) wr 3 (.int .i64 0) 1 8 underlying25 qV rfl (by decide) fY k c3 _ (by rfl) bD (some ⟨wr,0,none⟩) 1 1 [Value.int .i64 d] (by rfl) r7 (nQ _ _) (fun h=>by cases h) (by unfold maxLen;omega) (by omega) cH.size ?_;intro gL c4 w4 eh cT _;have ak:=bC cH cT cH.size bD;have Lp:=cell_later ak c7)
      |(refine gx (by rfl) (.tmp 62) (.tmp 68) 25 (by rfl) wr 3 (.int .i64 0) 1 8 underlying25 qV rfl (by decide) gL (k+1) c4 _ (by rfl) eh ax (n - k) (gc - k) _ (by rfl) (Df wQ.o_ ak) (Dg (xS _)) ek.o_.2.2 (by unfold maxLen;omega) (by omega) ak.size ?_;intro F3 c5 w5 ez fo _;have aC:=bC ak fo ak.size eh;have r5:=aA HX.o_.hS aC;have e5:=af w5 Rb 7 _ _ _ r5;have f5:=aB r5 7))
     all_goals
      have ql:k+1+(n - k)=(s.aH++ [d]).length:=by
       rw [List.length_append,←m8.o_,HN.o_,List.length_singleton]<;>omega
      exact X5
  ·have bd:¬(k:Int)<(n:Int):=by omega
   obtain rfl:k=n:=by omega
   obtain rfl:true=b:=by
    have h9:¬L.contains d=true:=fun hm=>by
     obtain ⟨j,hj,e⟩:=List.getElem_of_mem (by simpa using hm:d∈L);have:=lv.o_ j (by have:=HN.o_;omega) hj
     omega
    rw [Ab.o_,HB.o_] at h9
    simpa using h9
   have X6:Hid (bE (s.aH++ [d])=L.take k++ [d]++L.drop k):=Fj.o_ k (by have:=HN.o_;omega) (fun j hj=>lv.o_ j hj (by have:=HN.o_;omega)) (fun h=>by have:=HN.o_;omega);clear lv zV Fj Ab;have iV:=(bf.gW HG.o_).cap;have gy:=iV.1;obtain ⟨Fg,ly⟩:=bf.upto (k:=k) (bf.gW (aK HG.o_ (Below.refl wr wr).drew)) underlying25 bS cm (by omega);obtain ⟨ax,oe,bW,_⟩:=bf.from (k:=k) (bf.gW HG.o_) underlying25 bS cm (by omega);rw [Nat.sub_self] at oe bW;have nJ:=bW.cap;have Hl:wr.drew.cell? ⟨Rb,7,none⟩=_:=c7;have eV:Below wr wr (wr.alloc (Obj.cells #[Value.int .i64 d] 3)).drew:=((Below.refl _ _).alloc (Nat.le_refl _) _).drew;have Qm:=cell_later eV c7;have Hm:=(bf.upto (k:=k) (bf.gW (aK HG.o_ eV)) underlying25 bS cm (by omega)).2;have wQ:=ab bW;have rX:=ab ly;have Qn:Hid (Rd (wr.alloc (Obj.cells #[Value.int .i64 d] 3)).drew 1 ga k ((iv L).take (k*1))):=ab Hm;have ku:Hid (Rd (wr.alloc (Obj.cells #[Value.int .i64 d] 3)).drew 1 (some ⟨wr,0,none⟩) 1 [Value.int .i64 d]):=ab (Rd.below (cO wr #[Value.int .i64 d] 3 1 1 rfl) (Below.refl _ _).drew);have gg:=ab iV;have ek:=ab nJ;clear ly Hm bW iV nJ;go_wp2_with fail;go_region_law (first
    |(refine uL (by rfl) (.tmp 52) (.tmp 58) 25 (by rfl) wr 3 (.int .i64 0) 1 8 underlying25 qV rfl (by decide) none (by rfl) (World.ownsRow_nil _ _ _ _) ga k gc _ (by rfl) rX.o_ (xj (xS _)) gg.o_.2.2 (by unfold maxLen;omega) (by omega) (Nat.le_refl _) ?_;intro fY c3 w3 bD an;have zF:=cell_later an Hl;have Hn:Below w3 w3 (w3.alloc (Obj.cells #[Value.int .i64 d] 3)):=(Below.refl _ _).alloc (Nat.le_refl _) _;have ahs:=cell_later Hn zF;have cH:Below wr wr w3:=dw (Below.refl wr wr).drew an;have oz:=cH.trans (Hn.mono cH.size);have r7:=cO w3 #[Value.int .i64 d] 3 1 1 rfl)
    |(refine uL (by rfl) (.tmp 52) (.tmp 58) 25 (by rfl) wr 3 (.int .i64 0) 1 8 underlying25 qV rfl (by decide) none (by rfl) (World.ownsRow_nil _ _ _ _) ga k gc _ (by rfl) Qn.o_ (xj (xS _)) gg.o_.2.2 (by unfold maxLen;omega) (by omega) eV.size ?_;intro fY c3 w3 bD an;have zF:=cell_later an Qm;have cH:Below wr wr w3:=eV.trans (an.mono eV.size);have r7:=ku.o_.below an)
    |(refine gx (by rfl) (.tmp 59) (.tmp 61) 25 (by rfl) wr 3 (.int .i64 0) 1 8 underlying25 qV rfl (by decide) fY k c3 _ (by rfl) (bD.alloc (Obj.cells #[Value.int .i64 d] 3)) (some ⟨w3,0,none⟩) 1 1 [Value.int .i64 d] (by rfl) r7 (nQ _ _) (fun h=>by cases h) (by unfold maxLen;omega) (by omega) oz.size ?_;intro gL c4 w4 eh cT _;have ak:=bC oz cT oz.size (bD.alloc (Obj.cells #[Value.int .i64 d] 3));have Lp:=cell_later ak c7)
    |(refine gx (by rfl) (.tmp 59) (.tmp 61) 25 (by rfl) wr 3 (.int .i64 0) 1 8 underlying25 qV rfl (by decide) fY k c3 _ (by rfl) bD (some ⟨wr,0,none⟩) 1 1 [Value.int .i64 d] (by rfl) r7 (nQ _ _) (fun h=>by cases h) (by unfold maxLen;omega) (by omega) cH.size ?_;intro gL c4 w4 eh cT _;have ak:=bC cH cT cH.size bD;have Lp:=cell_later ak c7)
    |(refine gx (by rfl) (.tmp 62) (.tmp 68) 25 (by rfl) wr 3 (.int .i64 0) 1 8 underlying25 qV rfl (by decide) gL (k+1) c4 _ (by rfl) eh ax 0 (gc - k) _ (by rfl) (Df wQ.o_ ak) (Dg (xS _)) ek.o_.2.2 (by unfold maxLen;omega) (by omega) ak.size ?_;intro F3 c5 w5 ez fo _;have aC:=bC ak fo ak.size eh;have r5:=aA HX.o_.hS aC;have e5:=af w5 Rb 7 _ _ _ r5;have f5:=aB r5 7))
   all_goals
    have ql:k+1+0=(s.aH++ [d]).length:=by
     rw [List.length_append,←m8.o_,HN.o_,List.length_singleton]<;>omega
    exact X5
theorem aht(Rb:Nat)(s:aF)(id:Int)(s':aF)(a b:Bool)(hc:zX s id=(s',a,b))(hl:s.aH.length≤100000)(w:World)(Ms M:Nat→Prop)(h:RR w Ms M Rb s)(ao:∀b,Ms b→b<w.heap.size)(R:Ending→World→Prop)
 (hR:∀M' w',RR w' Ms M' Rb s'→Sep M M' w w'→R (.returned (.tuple #[.bool a,.bool b])) w'):
 Calls prog 74 #[.pointer (some ⟨Rb,0,none⟩),.int .i64 id] w R:=by
 have HR:=ab hR;have H:=ab h;have ft:=ab ao;obtain ⟨sv,qv,fv,gv,hx⟩:=h;have c7:=hx.cells.2.2.2.2.2.2.2;obtain ⟨ga,gc,rfl⟩:=bF hx.hg;clear hR hx ao;unfold zX at hc;by_cases h1:s.aH.contains id=true
 ·rw [if_pos h1] at hc;simp only [Prod.mk.injEq] at hc;obtain ⟨rfl,rfl,rfl⟩:=hc;have H1:=ab h1;clear h1;go_enter func74,ntmps74;go_wp2_with (go_at_call 128;go_must (refine Ln Rb s id true H1.o_ hl _ Ms M H.o_ _ ?_));exact HR.o_ _ _ H.o_ (.refl _ _)
 ·rw [if_neg h1] at hc;have H1:Hid (s.aH.contains id=false):=ab (Bool.eq_false_iff.2 h1);clear h1;obtain ⟨n,hn⟩:=ai s.aH.length;have HN:=ab hn;rw [hn] at hc c7;have HL:Hid (s.aH.length≤100000):=ab hl;clear hl hn;by_cases h2:n<8∧1≤id∧id≤65535
  ·rw [if_pos h2] at hc;simp only [Prod.mk.injEq] at hc;obtain ⟨rfl,rfl,rfl⟩:=hc;obtain ⟨h3,h4,h5⟩:=h2;have wF:¬(8:Int)≤(n:Int):=by omega
   go_enter func74,ntmps74;go_wp2_with (first
    |(go_at_call 128;go_must (refine Ln Rb s id false H1.o_ HL.o_ _ Ms M H.o_ _ ?_))
    |(go_at_call 99;go_must (refine ahq Rb s id h4 h5 true (by rw [H1.o_];rfl) HL.o_ _ Ms M H.o_ ft.o_ _ ?_);intro M3 w3 cG fj;have gY:=ab cG;have iD:=ab fj;clear cG fj))
   exact HR.o_ _ _ gY.o_ iD.o_
  ·rw [if_neg h2] at hc;simp only [Prod.mk.injEq] at hc;obtain ⟨rfl,rfl,rfl⟩:=hc;by_cases h3:n<8
   ·have wF:¬(8:Int)≤(n:Int):=by omega
    have H4:Hid (id<1∨65535<id):=ab (by omega);clear h2;go_enter func74,ntmps74;go_wp2_with (first
     |(go_at_call 128;go_must (refine Ln Rb s id false H1.o_ HL.o_ _ Ms M H.o_ _ ?_))
     |(go_at_call 99;go_must (refine ahp Rb id H4.o_ _ _ ?_)))
    exact HR.o_ _ _ H.o_ (.refl _ _)
   ·have wF:(8:Int)≤(n:Int):=by omega
    clear h2;go_enter func74,ntmps74;go_wp2_with (first
     |(go_at_call 128;go_must (refine Ln Rb s id false H1.o_ HL.o_ _ Ms M H.o_ _ ?_)))
    exact HR.o_ _ _ H.o_ (.refl _ _)
open Nat (ne_of_gt)
theorem X7(N:Nat)(x:Im)(hx:xb x)(hl:(jf x).length≤65535)(r:List UInt8)(w0 w:World)(h:CR w0 106 N ⟨(cS (jf x)).1++r,false⟩ w)(hT:di w0)(R:Ending→World→Prop)
 (hR:∀da dc pa pc ia ic w',dJ w' w.heap.size (.slice da x.note.az.length dc) (.slice pa x.note.props.length pc) (.slice ia x.ids.length ic) x→CR w0 106 N ⟨r,false⟩ w'→w.grownBy w' (some N)→R (.returned (Value.agg (aG x da dc pa pc ia ic))) w'):
 Calls prog 49 #[.pointer (some ⟨N,0,none⟩)] w R:=by
 have HR:=ab hR;have HX:=ab hx;have HT:=ab hT;have lB:=hl;obtain ⟨Y,hY⟩:=ai (jf x);rw [hY] at h lB;have hG:=F' Y r (by omega);have X8:(cS Y).1=aR Y.length 2++Y:=by unfold cS;rw [if_neg (by omega)]
 rw [←X8] at hG;have wv:=zO (l:=Y) (by omega);obtain ⟨a,GZ⟩:=ai ((cS Y).1);rw [GZ] at hG wv h;obtain ⟨n,hn⟩:=ai (Y.length+2);have rQ:(Y.length:Int)+2=(n:Int):=by omega
 rw [rQ] at hG;rw [hn] at wv;obtain ⟨sb,lN⟩:=ai (a++r);rw [lN] at hG h;have X9:n≤sb.length:=by have:=congrArg List.length lN;rw [List.length_append] at this;omega
 have aw:Below w w (w.alloc (Obj.cells a_ 36)):=(Below.refl _ _).alloc (Nat.le_refl _) _;have hA1:=heap_alloc_new w (Obj.cells a_ 36);have gg:=ab (h.below aw);have Ac:N<w.heap.size:=h.lt;have Bv:Hid (w.grownBy (w.alloc (Obj.cells a_ 36)) (some N)):=iT aw;have lh:=ab Ac;have jj:Hid (w.heap.size≠N):=ne_of_gt Ac;clear hR hx hT lB hl h aw Ac GZ X8 hn rQ;have HG:=ab hG;have Pd:=ab wv;have vg:=ab lN;have Qo:=ab hY;have Fk:=ab X9;clear hG wv lN hY X9;go_enter func49,ntmps49;go_upto_region 1 with fail
 generalize w.alloc (Obj.cells a_ 36)=w1 at gg hA1 Bv⊢;obtain ⟨A,xn⟩:=ai w.heap.size;rw [xn] at hA1 lh jj⊢;have C4:=ab hA1;have Bw:=ab xn;obtain ⟨ad,c,aq,bX⟩:=gg.o_.row;simp only at aq bX;have c0:=af w1 N 0 _ _ _ aq;have ahu:=ab (bX.below gg.o_.low);have ahv:=ab bX;have ahw:=ab aq;have OX:(n:Int)≤(c:Int):=by have:=bX.parts.2.2.1;have:=Fk.o_;omega
 have Kw:(n:Int)≤(sb.length:Int):=by have:=Fk.o_;omega
 clear hA1 aq bX xn;go_upto_region 3 with (first
  |(go_at_call 112;go_must (refine Cn _ sb Y n 0 HG.o_ _ ahu.o_ _ ?_);intro xa xc w2 gO ah;have bW:=aA ahw.o_ ah;have WG:=af w2 N 0 _ _ _ bW;have f0:=aB bW 0;have pB:=ab (aA C4.o_ ah);have ix:=ab gO;have oL:=ab (bO Bv.o_ (iT ah));have yK:=ab (gg.o_.lt);obtain ⟨Lx,df,hcut⟩:=Pc 106 N n sb a r vg.o_ Pd.o_ w0 w2 ad c bW ahv.o_ (gg.o_.below ah).low gg.o_.nn gg.o_.len;have GY:=ab hcut;clear hcut gO ah bW c0))
 have cB:=bL w2 ⟨N,0,none⟩ (.slice Lx (sb.length - n) (c - n));have Qp:=GY.o_.cr;have Qq:Bs (w2.setCell ⟨N,0,none⟩ (.slice Lx (sb.length - n) (c - n))) (.slice xa Y.length xc) (jf x):=by
  rw [Qo.o_];exact cp (cY ix.o_ cB (ik ix.o_ yK.o_))
 have Qr:=dQ cB pB.o_ jj.o_;have Dj:=bO oL.o_ cB;generalize w2.setCell ⟨N,0,none⟩ (.slice Lx (sb.length - n) (c - n))=w3 at Qp Qq Qr Dj⊢;have tN:=ab Qp;have ahx:=ab Qq;have yF:=ab Qr;have rO:=ab Dj;have ahy:Hid (A+1≤w3.heap.size):=by have h1:=(Array.getElem?_eq_some_iff.1 yF.o_).1;show _≤_;omega
 clear cB Qp Qq Qr Dj WG f0 df;go_upto_region 4 with (first
  |(go_at_call 113;go_must (refine agh x HX.o_ _ _ ahx.o_ (HT.o_.below tN.o_.low) _ ?_);intro da dc pa pc ia ic w4 Ho ak;have Qs:=ab (Ho.mono ahy.o_);have mH:=ab (tN.o_.below ak);have yy:=ab (aA yF.o_ ak);have oj:=ab (bO rO.o_ (iT ak));clear Ho ak))
 have dz:=heap_alloc_new w4 (Obj.cells (aG x da dc pa pc ia ic) 36);have aC:=(Below.refl w4 w4).alloc (Nat.le_refl _) (Obj.cells (aG x da dc pa pc ia ic) 36);generalize w4.alloc (Obj.cells (aG x da dc pa pc ia ic) 36)=w5 at dz aC⊢;have ao:=mH.o_.lt;obtain ⟨T,dN⟩:=ai w4.heap.size;rw [dN] at dz ao⊢;have lu:Hid (T≠N):=ne_of_gt ao;have qe:=mH.o_.below aC;obtain ⟨la,lc,Qt,_⟩:=qe.row;have c1:w5.cell? ⟨N,1,none⟩=some (.bool false):=af w5 N 1 _ _ _ Qt;have f1:=aB Qt 1;have mK:=ab dz;have pR:=ab qe;have Bn:=ab (aA yy.o_ aC);have Dk:=ab (Qs.o_.below aC);have rM:=ab (bO oj.o_ (iT aC));clear dz aC dN ao qe Qt;go_upto_region 5 with fail
 have bI:=bL w5 ⟨N,1,none⟩ (.bool false);have oC:=pR.o_.mark false;have iA:=dQ bI mK.o_ lu.o_;have Qu:=dQ bI Bn.o_ jj.o_;have Qv:=bO rM.o_ bI;have kM:N<A+1:=by have:=lh.o_;omega
 have Qw:dJ (w5.setCell ⟨N,1,none⟩ (.bool false)) (A+1) (.slice da x.note.az.length dc) (.slice pa x.note.props.length pc) (.slice ia x.ids.length ic) x:=⟨cY Dk.o_.p bI (ik Dk.o_.p kM),Dk.o_.q.qI bI kM,cY Dk.o_.i bI (ik Dk.o_.i kM)⟩
 generalize w5.setCell ⟨N,1,none⟩ (.bool false)=w6 at oC iA Qu Qv Qw⊢;have nB:=ab iA;have mP:=ab oC;have xd:=ab Qu;have vD:=ab Qv;have xo:=ab Qw;clear bI oC iA Qu Qv Qw kM c1 f1;go_wp2_with (first
  |(refine wpList_load_row (o:=⟨some 46,.load 36 (.tmp 6),_,_,_,_⟩) (by rfl) 36 (.tmp 6) (by rfl) (T) (by rfl) 36 _ (0,0) _ (nB).o_ (underlying36) (by rfl) (by kernel_rfl) ?_)
  |(refine wpList_store_row (o:=⟨none,.store 36 (.tmp 2) (.tmp 46),_,_,_,_⟩) (by rfl) 36 (.tmp 2) (.tmp 46) (by rfl) (A) _ (by rfl) (by rfl) 36 _ (xd).o_ (by kernel_rfl) (by rfl) (by simp [Value.oneCell']) ?_))
 refine bodyPost_ret (results_cell_row rfl _ _ A 36 (aG x da dc pa pc ia ic) (0,0) _ rfl (setRow_heap _ A _ _ _ _ xd.o_) underlying36 rfl (by kernel_rfl)) rfl ?_;have iu:=zM w6 A (aG x da dc pa pc ia ic);have hA1:A<A+1:=Nat.lt_succ_self _;have Dl:w.heap.size≤A+1:=by have:=Bw.o_;omega
 exact HR.o_ da dc pa pc ia ic _ ⟨bN (cY xo.o_.p iu (ik xo.o_.p hA1)) Dl,(xo.o_.q.qI iu hA1).mono Dl,bN (cY xo.o_.i iu (ik xo.o_.i hA1)) Dl⟩ (mP.o_.other iu jj.o_.symm (below_setRow mP.o_.low (Nat.le_trans mP.o_.nn (Nat.le_of_lt lh.o_)) _)) (zL vD.o_ iu (Nat.le_of_eq Bw.o_))
end Go.Proofs.YtgimbocoamnkjaaGreatDoor
