/- A part of the proof of SessionPlays, printed small; no conditions of its own. -/
import Derived.Test.YtgimbocoamnkjaaGreatDoorM06
set_option maxRecDepth 100000
set_option maxHeartbeats 16000000
namespace Go.Proofs.YtgimbocoamnkjaaGreatDoor
open _root_.Go.Proofs.Tryz
open List (drop_eq_getElem_cons drop_of_length_le drop_zero)
open Go.RowKit
theorem Vj(d:Value)(p:Pr)(w:World)(h:PC w d p)(R:Ending→World→Prop)
 (hR:∀a c w',w'.ownsRow w 5 1 (.slice a p.data.length c) p.data.length (bv p.data)→Below w w w'→R (.returned (.agg (dB p a c))) w'):
 Calls prog 222 #[.agg (bz p d)] w R:=by
 have HD:=ab h.hd;have aeu:=h.ld;have HR:=ab hR;clear hR h;obtain ⟨id,n,s,t,D⟩:=p;simp only at*;obtain ⟨da,dc,rfl,_⟩:=_root_.id HD.o_;have cF:=((Below.refl w w).alloc (Nat.le_refl _) (Obj.cells (ze id n s t da D dc) 147)).alloc (by simp) (Obj.cells hZ 147);have N0:Hid (((w.alloc (Obj.cells (ze id n s t da D dc) 147)).alloc (Obj.cells hZ 147)).heap[w.heap.size]? =some (Obj.cells (ze id n s t da D dc) 147)):=ab (gq (heap_alloc_new w _));have M0:Hid (((w.alloc (Obj.cells (ze id n s t da D dc) 147)).alloc (Obj.cells hZ 147)).heap[w.heap.size+1]? =some (Obj.cells hZ 147)):=by
  have:=heap_alloc_new (w.alloc (Obj.cells (ze id n s t da D dc) 147)) (Obj.cells hZ 147);rw [show (w.alloc (Obj.cells (ze id n s t da D dc) 147)).heap.size=w.heap.size+1 by simp] at this;exact ab this
 have cb:=ab cF;clear cF;go_enter func222,ntmps222;go_wp2_with (go_at_call 139;go_must (refine ael _ D _ (HD.o_.below cb.o_) (by omega) _ ?_);intro ca cc w1 bQ aw;have nr:=bT N0.o_ aw;have mr:=bT M0.o_ aw;obtain ⟨fC,fD,fE,fF,fG,fH,fI,fJ,fK,fL⟩:=c5 nr;obtain ⟨jb,jd,jU,jV,jW,jX,jY,jZ,j0,j1⟩:=c5 mr;have N1:=ab nr;have M1:=ab mr;have aI:=aD cb.o_ aw (by simp;omega);clear nr mr N0 M0);have p1:=heap_setCell_same _ _ 4 _ _ (.slice ca D.length cc) N1.o_;have p2:(w1.setCell ⟨w,4,none⟩ (.slice ca D.length cc)).heap[w.heap.size+1]? =some (Obj.cells hZ 147):=by
  rw [heap_setCell_other _ _ _ _ (by simp)];exact M1.o_
 refine bodyPost_ret (results_cell_row rfl _ _ (w.heap.size+1) 147 (ze id n s t ca D cc) (0,0) _ rfl (k_ p2 rfl _ _ _ _ _) underlying147 rfl (by kernel_rfl)) rfl ?_;exact HR.o_ _ _ _ (Cx p2 (by decide) _ _ _ _ _ _ _ _ _ (eF.tq N1.o_ (by decide) _ _ _ _ (bN bQ (by simp;omega)))) (gB (aI.setCell (Nat.le_refl _) _) (by omega) _ _ _ _ _)
theorem Vk(id:Int)(l:List Pr):(l.find? fun p=>decide (p.id=id)).isSome=wD id l:=by
 unfold wD
 induction l with
 |nil=>rfl
 |cons a l ih=>
  rw [List.find?_cons,List.any_cons];cases h:decide (a.id=id) with
  |true=>rfl
  |false=>simpa using ih
def lX(id:Int)(l:List Pr):Option Pr:=l.find? fun p=>decide (p.id=id)
theorem A9(id:Int)(v:Value)(l:List Pr)(p:Pr)(q:Bool)(hp:(lX id l).getD kU=p)(hq:(lX id l).isSome=q)(w:World)(hv:Ps w v l)(R:Ending→World→Prop)
 (hR:∀a c w',w'.ownsRow w 5 1 (.slice a p.data.length c) p.data.length (bv p.data)→Below w w w'→R (.returned (.tuple #[.agg (dB p a c),.bool q])) w'):
 Calls prog 213 #[.int .i64 id,v] w R:=by
 have HR:=ab hR;have HV:=ab hv;have b7:Hid ((lX id (l.drop 0)).getD kU=p∧(lX id (l.drop 0)).isSome=q):=by rw [drop_zero];exact ab ⟨hp,hq⟩
 clear hR hp hq;obtain ⟨va,vc,rfl,_⟩:=hv;obtain ⟨w0,Kc⟩:=ai (w.alloc (Obj.cells hZ 147));have aL:Below w w w0:=by rw [←Kc];exact (Below.refl _ _).alloc (Nat.le_refl _) _
 have n0:w0.heap[w.heap.size]? =some (Obj.cells hZ 147):=by rw [←Kc];exact heap_alloc_new w _
 have j2:w.heap.size+1≤w0.heap.size:=by rw [←Kc];simp
 have N0:=ab n0;clear n0;go_enter func213,ntmps213;go_wp2;clear Kc;go_loopg [10] l.length (fun gn i wr=>∃k:Nat,k≤l.length∧gn=l.length - k∧i= .int .i64 k∧Below w0 w0 wr∧Hid ((lX id (l.drop k)).getD kU=p∧(lX id (l.drop k)).isSome=q))
 case atStart=>exact ⟨0,Nat.zero_le _,by omega,rfl,Below.refl _ _,b7⟩
 case round=>
  obtain ⟨k,hk,rfl,rfl,hb,HS⟩:=hrel;have jn:=aD aL hb aL.size;have nr:=bT N0.o_ hb;have NR:=ab nr;have aqf:=hb.size;clear nr;by_cases ao:k<l.length
  ·have bd:(k:Int)<(l.length:Int):=by omega
   obtain ⟨Cy,Cz,ee,_,_,_,v4⟩:=HV.o_.below jn;simp only [Value.slice.injEq] at ee;obtain ⟨rfl,-,rfl⟩:=ee;obtain ⟨vb,vo,rfl,v5⟩:=v4 (by omega);obtain ⟨d0,⟨p0,p1,p2,p3,p4⟩,gC⟩:=v5 k ao;obtain ⟨y,hy⟩:=ai (l[k]);rw [hy] at p0 p1 p2 p3 gC;have CA:=HS.o_;rw [drop_eq_getElem_cons ao,hy,lX,List.find?_cons] at CA;obtain ⟨d1,d2,d3,rfl⟩:∃a n c,d0= .slice a n c:=by obtain ⟨a,c,h,_⟩:=gC.hd;exact ⟨_,_,_,h⟩
   have tH:=ab gC;have ob:Below wr wr (wr.alloc (Obj.cells #[.int .i64 y.id,.int .i64 y.num,.string (str y.text),.string (str y.pair),.slice d1 d2 d3] 147)):=(Below.refl _ _).alloc (Nat.le_refl _) _;have wG:=ab ob;have Vl:=br hb ob;have zx:=ab Vl;have NE:=ab (bT NR.o_ ob);have jo:=ab CA;clear v4 v5 hy CA gC Vl HS ob;by_cases hid:y.id=id
   ·have CB:y=p∧true=q:=by
     have:=jo.o_;rw [decide_eq_true hid] at this;exact this
    obtain ⟨rfl,rfl⟩:=CB;clear jo;subst hid;go_wp2_with (go_at_call 222;go_must (refine Vj _ y _ (tH.o_.below wG.o_) _ ?_);intro ca cc w5 ed dW;have n5:=bT NE.o_ dW;obtain ⟨fC,fD,fE,fF,fG,fH,fI,fJ,fK,fL⟩:=c5 n5;have N5:=ab n5;clear n5);have bp:=br zx.o_ dW;have Vm:=aD aL bp (by omega);refine bodyPost_ret (Ka rfl _ _ w 147 (dB y ca cc) (0,0) _ (Value.bool true) rfl rfl (k_ N5.o_ rfl _ _ _ _ _) underlying147 rfl (by kernel_rfl)) rfl ?_;exact HR.o_ _ _ _ (Cx N5.o_ (by decide) _ _ _ _ _ _ _ _ _ (bN ed (by have:=wG.o_.size;have:=jn.size;omega))) (gB Vm (Nat.le_refl _) _ _ _ _ _)
   ·have rC:Hid ((lX id (l.drop (k+1))).getD kU=p∧(lX id (l.drop (k+1))).isSome=q):=by
     have:=jo.o_;rw [decide_eq_false hid] at this;exact this
    clear jo;go_wp2;go_roundg (l.length - (k+1))
    case measure=>omega
    case rel=>exact ⟨k+1,by omega,rfl,by go_num,zx.o_,rC⟩
  ·have bd:¬(k:Int)<(l.length:Int):=by omega
   have CB:kU=p∧false=q:=by
    have:=HS.o_;rw [drop_of_length_le (by omega)] at this;exact this
   obtain ⟨rfl,rfl⟩:=CB;have fC:=af _ w 0 _ _ _ NR.o_;have fD:=af _ w 1 _ _ _ NR.o_;have fE:=af _ w 2 _ _ _ NR.o_;have fF:=af _ w 3 _ _ _ NR.o_;have fG:=af _ w 4 _ _ _ NR.o_;have fH:=aB NR.o_ 0;have fI:=aB NR.o_ 1;have fJ:=aB NR.o_ 2;have fK:=aB NR.o_ 3;have fL:=aB NR.o_ 4;clear HS;go_wp2;refine bodyPost_ret (Ka rfl _ _ w 147 hZ (0,0) _ (Value.bool false) rfl rfl (k_ NR.o_ rfl _ _ _ _ _) underlying147 rfl (by kernel_rfl)) rfl ?_;exact HR.o_ _ _ _ (World.ownsRow_nil _ _ _ _) (gB jn (Nat.le_refl _) _ _ _ _ _)
theorem aev(id:Int)(hk:aO id≠0)(v:Value)(b:List UInt8)(p:Pr)(u:Int)(hr:dL id b=some (p,u))(w:World)(hv:Bs w v b)(hT:di w)(R:Ending→World→Prop)
 (hR:∀d w',w'.ownsRow w 5 1 d p.data.length (bv p.data)→Below w w w'→R (.returned (.tuple #[.agg (bz p d),.int .i64 u,.bool true])) w'):
 Calls prog 212 #[.int .i64 id,v] w R:=by
 refine Vi id hk v b _ hr w hv hT R (fun p' u' d w' h h1 h2=> ?_) (fun n s t a m c u q w' h=>by cases h);simp only [Option.some.injEq,Prod.mk.injEq] at h;obtain ⟨rfl,rfl⟩:=h;exact hR d w' h1 h2
theorem aew(id:Int)(hk:aO id≠0)(v:Value)(b:List UInt8)(hr:dL id b=none)(w:World)(hv:Bs w v b)(hT:di w)(R:Ending→World→Prop)
 (hF:∀n s t a m c u w',Below w w w'→R (.returned (.tuple #[.agg #[.int .i64 id,.int .i64 n,.string s,.string t,.slice a m c],.int .i64 u,.bool false])) w'):
 Calls prog 212 #[.int .i64 id,v] w R:=by
 refine Vi id hk v b _ hr w hv hT R (fun p' u' d w' h=>by cases h) (fun n s t a m c u q w' h hq h1=> ?_);subst hq;exact hF n s t a m c u w' h1
theorem Vn{P:Prop}(h:P:=by
 refine bodyPost_ret (np rfl _ _ w 147 (dB p' dY dZ) (0,0) _ _ _ rfl rfl rfl (k_ N6.o_ rfl _ _ _ _ _) underlying147 rfl (by kernel_rfl)) rfl ?_;exact HB.o_ _ _ (Cx N6.o_ (by decide) _ _ _ _ _ _ _ _ _ EJ.o_) (gB dP (Nat.le_refl _) _ _ _ _ _)):P:=h
theorem Kd{P:Prop}(h:P:=by
 refine bodyPost_ret (np rfl _ _ w 147 (dB p' dY dZ) (0,0) _ _ _ rfl rfl rfl (k_ N6.o_ rfl _ _ _ _ _) underlying147 rfl (by kernel_rfl)) rfl ?_;exact HB.o_ _ _ _ _ _ _ _ _ (gB dP (Nat.le_refl _) _ _ _ _ _)):P:=h
theorem Vo(wh:Int)(v u:Value)(b:List UInt8)(l:List Pr)(c:Nat)(p:Pr)(m:Int)(hs:oT wh l b=(c,p,m))(w:World)(hv:Bs w v b)(hu:Ps w u l)(hT:di w)(R:Ending→World→Prop)
 (CD:c=0→∀d w',w'.ownsRow w 5 1 d p.data.length (bv p.data)→Below w w w'→R (.returned (.tuple #[.agg (bz p d),.int .i64 m,.int .i64 0])) w')
 (wH:c≠0→∀x y s t a k q w',Below w w w'→R (.returned (.tuple #[.agg #[.int .i64 x,.int .i64 y,.string s,.string t,.slice a k q],.int .i64 0,.int .i64 c])) w'):
 Calls prog 191 #[.int .i64 wh,v,u] w R:=by
 have HV:=ab hv;have HU:=ab hu;have HT:=ab hT;obtain ⟨va,vc,rfl,_,EK,Ge,_⟩:=_root_.id hv;obtain ⟨ua,uc,rfl,_⟩:=_root_.id hu;obtain ⟨⟨x,y,z⟩,hg⟩:∃g,dg b=g:=⟨_,rfl⟩
 have jA:=hs;unfold oT at hs;rw [hg] at hs;simp only at hs;have HG:=ab hg;have cF:=(Below.refl w w).alloc (Nat.le_refl _) (Obj.cells hZ 147);have N0:Hid ((w.alloc (Obj.cells hZ 147)).heap[w.heap.size]? =some (Obj.cells hZ 147)):=ab (heap_alloc_new w _);have cb:=ab cF;clear hv hu hT cF;by_cases hz:z≠0
 ·rw [if_pos (.inl hz)] at hs;simp only [Prod.mk.injEq] at hs;obtain ⟨rfl,rfl,rfl⟩:=hs;have jB:=wH (by omega);have HB:=ab jB;have OA:¬(z:Int)=0:=by omega
  clear CD wH jB jA hg;go_enter func191,ntmps191;go_wp2_with (go_at_call 190;go_must (refine sH _ b x y z HG.o_ _ (HV.o_.below cb.o_) _ ?_));refine bodyPost_ret (np rfl _ _ w 147 hZ (0,0) _ _ _ rfl rfl rfl N0.o_ underlying147 rfl (by kernel_rfl)) rfl ?_;exact HB.o_ _ _ _ _ _ _ _ _ cb.o_
 ·have j2:z=0:=by omega
  subst j2;obtain ⟨_,je,_⟩:=A6 b x y hg;obtain ⟨mm,hm⟩:=ai (bR (x:Int) wh);rw [hm] at hs;have HM:=ab hm;cases mm with
  |false=>
   simp only [ne_eq,not_true_eq_false,or_true,if_true,Prod.mk.injEq] at hs;obtain ⟨rfl,rfl,rfl⟩:=hs;have jB:=wH (by omega);have HB:=ab jB;clear CD wH jB jA hg hm;go_enter func191,ntmps191;go_wp2_with (first
    |(go_at_call 190;go_must (refine sH _ b x y 0 HG.o_ _ (HV.o_.below cb.o_) _ ?_))
    |(go_at_call 211;go_must (refine zw x wh false HM.o_ _ _ ?_);intro w1 aw;have nr:=bT N0.o_ aw;obtain ⟨fC,fD,fE,fF,fG,fH,fI,fJ,fK,fL⟩:=c5 nr;have N1:=ab nr;have aI:=br cb.o_ aw;clear nr N0 aw))
   refine bodyPost_ret (np rfl _ _ w 147 hZ (0,0) _ _ _ rfl rfl rfl (k_ N1.o_ rfl _ _ _ _ _) underlying147 rfl (by kernel_rfl)) rfl ?_;exact HB.o_ _ _ _ _ _ _ _ _ (gB aI (Nat.le_refl _) _ _ _ _ _)
  |true=>
   simp only [ne_eq,not_true_eq_false,Bool.true_eq_false,or_false,if_false] at hs;have dM:aO (x:Int)≠0:=Oz hm;have Gf:=ab dM;obtain ⟨La,df,bX⟩:=EH HV.o_ je;have eZ:=ab bX;obtain ⟨fp,Gg⟩:=ai ((lX x l).getD kU);obtain ⟨fq,tI⟩:=ai ((lX x l).isSome);have A8:wD x l=fq:=by rw [←tI];exact (Vk x l).symm
   rw [A8] at hs;have od:=ab Gg;have qQ:=ab tI;clear Gg tI A8 dM bX hm;obtain ⟨r,hr⟩:=ai (dL (x:Int) (b.drop y));rw [hr] at hs;have Vp:=ab hr;cases r with
   |none=>
    simp only [Prod.mk.injEq] at hs;obtain ⟨rfl,rfl,rfl⟩:=hs;have jB:=wH (by omega);have HB:=ab jB;have Vq:dL (x:Int) (b.drop y)=none:=hr;have Gh:∀w' R,Bs w' (Value.slice La (b.length - y) (vc - y)) (b.drop y)→di w'→_→Calls prog 212 #[.int .i64 x,Value.slice La (b.length - y) (vc - y)] w' R:=fun w' R h1 h2 h3=>aew x Gf.o_ _ _ Vq w' h1 h2 R h3;have oU:=ab Gh;clear CD wH jB jA hg hr Vq Gh Vp;go_enter func191,ntmps191;go_wp2_with (first
     |(go_at_call 190;go_must (refine sH _ b x y 0 HG.o_ _ (HV.o_.below cb.o_) _ ?_))
     |(go_at_call 211;go_must (refine zw x wh true HM.o_ _ _ ?_);intro w1 aw;have nr:=bT N0.o_ aw;obtain ⟨fC,fD,fE,fF,fG,fH,fI,fJ,fK,fL⟩:=c5 nr;have N1:=ab nr;have aI:=br cb.o_ aw;clear nr N0 aw)
     |(go_at_call 212;go_must (refine oU.o_ _ _ (eZ.o_.below aI) (HT.o_.below aI) ?_);intro vn vs vt Gi vm Gj vu w2 ah;have nr:=bT N1.o_ ah;clear fC fD fE fF fG fH fI fJ fK fL;obtain ⟨jb,jd,jU,jV,jW,jX,jY,jZ,j0,j1⟩:=c5 nr;have N2:=ab nr;have bn:=br aI ah;clear nr N1 ah)
     |(go_at_call 213;have cG:=gB bn (Nat.le_refl w.heap.size) (.int .i64 x) (.int .i64 vn) (.string vs) (.string vt) (.slice Gi vm Gj);have n3:=k_ N2.o_ rfl (.int .i64 x) (.int .i64 vn) (.string vs) (.string vt) (.slice Gi vm Gj);go_must (refine A9 x _ l fp fq od.o_ qQ.o_ _ (HU.o_.below cG) _ ?_);intro fa fc w4 bZ ak;have aC:=ak.alloc ak.size (Obj.cells (dB fp fa fc) 147);have n5:=bT n3 aC;clear jb jd jU jV jW jX jY jZ j0 j1;obtain ⟨oV,oW,oX,oY,oZ,pd,pf,pg,ph,pj⟩:=c5 n5;have N5:=ab n5;have bp:=aD cG aC (gB bn (Nat.le_refl w.heap.size) (.int .i64 x) (.int .i64 vn) (.string vs) (.string vt) (.slice Gi vm Gj)).size;skip;clear n3 n5 bZ ak aC N2))
    refine bodyPost_ret (np rfl _ _ w 147 #[.int .i64 x,.int .i64 vn,.string vs,.string vt,.slice Gi vm Gj] (0,0) _ _ _ rfl rfl rfl (k_ N5.o_ rfl _ _ _ _ _) underlying147 rfl (by kernel_rfl)) rfl ?_;exact HB.o_ _ _ _ _ _ _ _ _ (gB bp (Nat.le_refl _) _ _ _ _ _)
   |some pm=>
    obtain ⟨p',m'⟩:=pm;simp only at hs;obtain ⟨um,aex,Gk,EL,_,A_,_⟩:=Oo hr;rw [List.length_drop] at Gk;have Gl:∀w' R,Bs w' (Value.slice La (b.length - y) (vc - y)) (b.drop y)→di w'→_→Calls prog 212 #[.int .i64 x,Value.slice La (b.length - y) (vc - y)] w' R:=fun w' R h1 h2 h3=>aev x Gf.o_ _ _ p' m' hr w' h1 h2 R h3;have oU:=ab Gl;have ns:0≤m':=by omega
    have fV:(y:Int)+m'≤9223372036854775807:=by omega
    have aeu:=A_.ld;have Vr:=ab EL;clear EL;clear Gl hr Vp aex Gk A_;obtain ⟨oo,ho⟩:=ai (nj (x:Int) wh);rw [ho] at hs;have HO:=ab ho;clear ho;by_cases zy:fq=true∧oo=false
    ·rw [if_pos zy] at hs;obtain ⟨rfl,rfl⟩:=zy;simp only [Prod.mk.injEq] at hs;obtain ⟨rfl,rfl,rfl⟩:=hs;have jB:=wH (by omega);have HB:=ab jB;clear CD wH jB jA hg;have rG:∀w' (R:Ending→World→Prop),R (.returned (.bool false)) w'→Calls prog 214 #[.int .i64 x,.int .i64 wh] w' R:=fun w' R h=>Ov x wh w' R (by rw [HO.o_];exact h);have zz:=ab rG;clear rG;go_enter func191,ntmps191;go_wp2_with (first
      |(go_at_call 190;go_must (refine sH _ b x y 0 HG.o_ _ (HV.o_.below cb.o_) _ ?_))
      |(go_at_call 211;go_must (refine zw x wh true HM.o_ _ _ ?_);intro w1 aw;have nr:=bT N0.o_ aw;obtain ⟨fC,fD,fE,fF,fG,fH,fI,fJ,fK,fL⟩:=c5 nr;have N1:=ab nr;have aI:=br cb.o_ aw;clear nr N0 aw)
      |(go_at_call 212;go_must (refine oU.o_ _ _ (eZ.o_.below aI) (HT.o_.below aI) ?_);intro dv w2 ct ah;obtain ⟨dY,dZ,rfl⟩:=bF ct;have nr:=bT N1.o_ ah;clear fC fD fE fF fG fH fI fJ fK fL;obtain ⟨jb,jd,jU,jV,jW,jX,jY,jZ,j0,j1⟩:=c5 nr;have N2:=ab nr;have bn:=br aI ah;clear nr N1 ah ct)
      |(go_at_call 213;have cG:=gB bn (Nat.le_refl w.heap.size) (.int .i64 p'.id) (.int .i64 p'.num) (.string (str p'.text)) (.string (str p'.pair)) (.slice dY p'.data.length dZ);have n3:=k_ N2.o_ rfl (.int .i64 p'.id) (.int .i64 p'.num) (.string (str p'.text)) (.string (str p'.pair)) (.slice dY p'.data.length dZ);go_must (refine A9 x _ l fp true od.o_ qQ.o_ _ (HU.o_.below cG) _ ?_);intro fa fc w4 bZ ak;have aC:=ak.alloc ak.size (Obj.cells (dB fp fa fc) 147);have n5:=bT n3 aC;clear jb jd jU jV jW jX jY jZ j0 j1;obtain ⟨oV,oW,oX,oY,oZ,pd,pf,pg,ph,pj⟩:=c5 n5;have N5:=ab n5;have bp:=aD cG aC (gB bn (Nat.le_refl w.heap.size) (.int .i64 p'.id) (.int .i64 p'.num) (.string (str p'.text)) (.string (str p'.pair)) (.slice dY p'.data.length dZ)).size;skip;clear n3 n5 bZ ak aC N2)
      |(go_at_call 214;go_must (refine zz.o_ _ _ ?_)))
     refine bodyPost_ret (np rfl _ _ w 147 (dB p' dY dZ) (0,0) _ _ _ rfl rfl rfl (k_ N5.o_ rfl _ _ _ _ _) underlying147 rfl (by kernel_rfl)) rfl ?_;exact HB.o_ _ _ _ _ _ _ _ _ (gB bp (Nat.le_refl _) _ _ _ _ _)
    ·rw [if_neg zy] at hs;obtain ⟨nn,lf⟩:=ai (cW p');rw [lf] at hs;by_cases kG:nn≠0
     ·rw [if_pos kG] at hs;simp only [Prod.mk.injEq] at hs;obtain ⟨rfl,rfl,rfl⟩:=hs;have jB:=wH kG;have HB:=ab jB;have zo:decide (cW p'=0)=false:=decide_eq_false (by omega);have CE:=ab zo;have hc:((x:Int)=35∧nn=148)∨(¬(x:Int)=35∧nn=130):=by
       rw [←lf] at kG⊢;unfold cW at kG⊢;rw [Vr.o_] at kG⊢;by_cases h35:(x:Int)=35
       ·left
        refine ⟨h35,?_⟩;rw [h35] at kG⊢;simp only [show aO 35=2 from by decide,Nat.reduceEqDiff,false_and,if_false,Int.reduceEq,or_self,true_and] at kG⊢;by_cases dh:p'.num=0
        ·rw [if_pos dh]
        ·rw [if_neg dh] at kG;exact absurd rfl kG
       ·right
        refine ⟨h35,?_⟩;simp only [h35,false_and,if_false] at kG⊢
        split
        ·rfl
        ·rename_i h1
         rw [if_neg h1] at kG
         split
         ·rfl
         ·rename_i h2
          rw [if_neg h2] at kG;exact absurd rfl kG
      clear CD wH jB jA hg lf zo;have rG:∀w' (R:Ending→World→Prop),R (.returned (.bool oo)) w'→Calls prog 214 #[.int .i64 x,.int .i64 wh] w' R:=fun w' R h=>Ov x wh w' R (by rw [HO.o_];exact h);have zz:=ab rG;clear rG;rcases hc with ⟨h35,rfl⟩|⟨h35,rfl⟩
      ·have Vs:=ab h35;clear h35;cases fq with
       |false=>
        go_enter func191,ntmps191;go_wp2_with (first
         |(go_at_call 190;go_must (refine sH _ b x y 0 HG.o_ _ (HV.o_.below cb.o_) _ ?_))
         |(go_at_call 211;go_must (refine zw x wh true HM.o_ _ _ ?_);intro w1 aw;have nr:=bT N0.o_ aw;obtain ⟨fC,fD,fE,fF,fG,fH,fI,fJ,fK,fL⟩:=c5 nr;have N1:=ab nr;have aI:=br cb.o_ aw;clear nr N0 aw)
         |(go_at_call 212;go_must (refine oU.o_ _ _ (eZ.o_.below aI) (HT.o_.below aI) ?_);intro dv w2 ct ah;obtain ⟨dY,dZ,rfl⟩:=bF ct;have nr:=bT N1.o_ ah;clear fC fD fE fF fG fH fI fJ fK fL;obtain ⟨jb,jd,jU,jV,jW,jX,jY,jZ,j0,j1⟩:=c5 nr;have N2:=ab nr;have bn:=br aI ah;clear nr N1 ah ct)
         |(go_at_call 213;have cG:=gB bn (Nat.le_refl w.heap.size) (.int .i64 p'.id) (.int .i64 p'.num) (.string (str p'.text)) (.string (str p'.pair)) (.slice dY p'.data.length dZ);have n3:=k_ N2.o_ rfl (.int .i64 p'.id) (.int .i64 p'.num) (.string (str p'.text)) (.string (str p'.pair)) (.slice dY p'.data.length dZ);go_must (refine A9 x _ l fp false od.o_ qQ.o_ _ (HU.o_.below cG) _ ?_);intro fa fc w4 bZ ak;have aC:=ak.alloc ak.size (Obj.cells (dB fp fa fc) 147);have n5:=bT n3 aC;clear jb jd jU jV jW jX jY jZ j0 j1;obtain ⟨oV,oW,oX,oY,oZ,pd,pf,pg,ph,pj⟩:=c5 n5;have N5:=ab n5;have bp:=aD cG aC (gB bn (Nat.le_refl w.heap.size) (.int .i64 p'.id) (.int .i64 p'.num) (.string (str p'.text)) (.string (str p'.pair)) (.slice dY p'.data.length dZ)).size;skip;clear n3 n5 bZ ak aC N2)
         |(go_at_call 214;go_must (refine zz.o_ _ _ ?_))
         |(go_at_call 215;go_must (refine EI _ p' _ CE.o_ _ _ ?_);intro w6 bg;have nr:=bT N5.o_ bg;clear oV oW oX oY oZ pd pf pg ph pj;obtain ⟨CF,CG,CH,CI,CJ,CK,CL,CM,CN,CO⟩:=c5 nr;have N6:=ab nr;have dP:=br bp bg;have h35:=Vs.o_;clear nr N5 bg))
        exact Kd
       |true=>
        obtain rfl:oo=true:=by cases oo with
         |true=>rfl
         |false=>exact absurd ⟨rfl,rfl⟩ zy
        clear zy;go_enter func191,ntmps191;go_wp2_with (first
         |(go_at_call 190;go_must (refine sH _ b x y 0 HG.o_ _ (HV.o_.below cb.o_) _ ?_))
         |(go_at_call 211;go_must (refine zw x wh true HM.o_ _ _ ?_);intro w1 aw;have nr:=bT N0.o_ aw;obtain ⟨fC,fD,fE,fF,fG,fH,fI,fJ,fK,fL⟩:=c5 nr;have N1:=ab nr;have aI:=br cb.o_ aw;clear nr N0 aw)
         |(go_at_call 212;go_must (refine oU.o_ _ _ (eZ.o_.below aI) (HT.o_.below aI) ?_);intro dv w2 ct ah;obtain ⟨dY,dZ,rfl⟩:=bF ct;have nr:=bT N1.o_ ah;clear fC fD fE fF fG fH fI fJ fK fL;obtain ⟨jb,jd,jU,jV,jW,jX,jY,jZ,j0,j1⟩:=c5 nr;have N2:=ab nr;have bn:=br aI ah;clear nr N1 ah ct)
         |(go_at_call 213;have cG:=gB bn (Nat.le_refl w.heap.size) (.int .i64 p'.id) (.int .i64 p'.num) (.string (str p'.text)) (.string (str p'.pair)) (.slice dY p'.data.length dZ);have n3:=k_ N2.o_ rfl (.int .i64 p'.id) (.int .i64 p'.num) (.string (str p'.text)) (.string (str p'.pair)) (.slice dY p'.data.length dZ);go_must (refine A9 x _ l fp true od.o_ qQ.o_ _ (HU.o_.below cG) _ ?_);intro fa fc w4 bZ ak;have aC:=ak.alloc ak.size (Obj.cells (dB fp fa fc) 147);have n5:=bT n3 aC;clear jb jd jU jV jW jX jY jZ j0 j1;obtain ⟨oV,oW,oX,oY,oZ,pd,pf,pg,ph,pj⟩:=c5 n5;have N5:=ab n5;have bp:=aD cG aC (gB bn (Nat.le_refl w.heap.size) (.int .i64 p'.id) (.int .i64 p'.num) (.string (str p'.text)) (.string (str p'.pair)) (.slice dY p'.data.length dZ)).size;skip;clear n3 n5 bZ ak aC N2)
         |(go_at_call 214;go_must (refine zz.o_ _ _ ?_))
         |(go_at_call 215;go_must (refine EI _ p' _ CE.o_ _ _ ?_);intro w6 bg;have nr:=bT N5.o_ bg;clear oV oW oX oY oZ pd pf pg ph pj;obtain ⟨CF,CG,CH,CI,CJ,CK,CL,CM,CN,CO⟩:=c5 nr;have N6:=ab nr;have dP:=br bp bg;have h35:=Vs.o_;clear nr N5 bg))
        exact Kd
      ·cases fq with
       |false=>
        go_enter func191,ntmps191;go_wp2_with (first
         |(go_at_call 190;go_must (refine sH _ b x y 0 HG.o_ _ (HV.o_.below cb.o_) _ ?_))
         |(go_at_call 211;go_must (refine zw x wh true HM.o_ _ _ ?_);intro w1 aw;have nr:=bT N0.o_ aw;obtain ⟨fC,fD,fE,fF,fG,fH,fI,fJ,fK,fL⟩:=c5 nr;have N1:=ab nr;have aI:=br cb.o_ aw;clear nr N0 aw)
         |(go_at_call 212;go_must (refine oU.o_ _ _ (eZ.o_.below aI) (HT.o_.below aI) ?_);intro dv w2 ct ah;obtain ⟨dY,dZ,rfl⟩:=bF ct;have nr:=bT N1.o_ ah;clear fC fD fE fF fG fH fI fJ fK fL;obtain ⟨jb,jd,jU,jV,jW,jX,jY,jZ,j0,j1⟩:=c5 nr;have N2:=ab nr;have bn:=br aI ah;clear nr N1 ah ct)
         |(go_at_call 213;have cG:=gB bn (Nat.le_refl w.heap.size) (.int .i64 p'.id) (.int .i64 p'.num) (.string (str p'.text)) (.string (str p'.pair)) (.slice dY p'.data.length dZ);have n3:=k_ N2.o_ rfl (.int .i64 p'.id) (.int .i64 p'.num) (.string (str p'.text)) (.string (str p'.pair)) (.slice dY p'.data.length dZ);go_must (refine A9 x _ l fp false od.o_ qQ.o_ _ (HU.o_.below cG) _ ?_);intro fa fc w4 bZ ak;have aC:=ak.alloc ak.size (Obj.cells (dB fp fa fc) 147);have n5:=bT n3 aC;clear jb jd jU jV jW jX jY jZ j0 j1;obtain ⟨oV,oW,oX,oY,oZ,pd,pf,pg,ph,pj⟩:=c5 n5;have N5:=ab n5;have bp:=aD cG aC (gB bn (Nat.le_refl w.heap.size) (.int .i64 p'.id) (.int .i64 p'.num) (.string (str p'.text)) (.string (str p'.pair)) (.slice dY p'.data.length dZ)).size;skip;clear n3 n5 bZ ak aC N2)
         |(go_at_call 214;go_must (refine zz.o_ _ _ ?_))
         |(go_at_call 215;go_must (refine EI _ p' _ CE.o_ _ _ ?_);intro w6 bg;have nr:=bT N5.o_ bg;clear oV oW oX oY oZ pd pf pg ph pj;obtain ⟨CF,CG,CH,CI,CJ,CK,CL,CM,CN,CO⟩:=c5 nr;have N6:=ab nr;have dP:=br bp bg;skip;clear nr N5 bg))
        exact Kd
       |true=>
        obtain rfl:oo=true:=by cases oo with
         |true=>rfl
         |false=>exact absurd ⟨rfl,rfl⟩ zy
        clear zy;go_enter func191,ntmps191;go_wp2_with (first
         |(go_at_call 190;go_must (refine sH _ b x y 0 HG.o_ _ (HV.o_.below cb.o_) _ ?_))
         |(go_at_call 211;go_must (refine zw x wh true HM.o_ _ _ ?_);intro w1 aw;have nr:=bT N0.o_ aw;obtain ⟨fC,fD,fE,fF,fG,fH,fI,fJ,fK,fL⟩:=c5 nr;have N1:=ab nr;have aI:=br cb.o_ aw;clear nr N0 aw)
         |(go_at_call 212;go_must (refine oU.o_ _ _ (eZ.o_.below aI) (HT.o_.below aI) ?_);intro dv w2 ct ah;obtain ⟨dY,dZ,rfl⟩:=bF ct;have nr:=bT N1.o_ ah;clear fC fD fE fF fG fH fI fJ fK fL;obtain ⟨jb,jd,jU,jV,jW,jX,jY,jZ,j0,j1⟩:=c5 nr;have N2:=ab nr;have bn:=br aI ah;clear nr N1 ah ct)
         |(go_at_call 213;have cG:=gB bn (Nat.le_refl w.heap.size) (.int .i64 p'.id) (.int .i64 p'.num) (.string (str p'.text)) (.string (str p'.pair)) (.slice dY p'.data.length dZ);have n3:=k_ N2.o_ rfl (.int .i64 p'.id) (.int .i64 p'.num) (.string (str p'.text)) (.string (str p'.pair)) (.slice dY p'.data.length dZ);go_must (refine A9 x _ l fp true od.o_ qQ.o_ _ (HU.o_.below cG) _ ?_);intro fa fc w4 bZ ak;have aC:=ak.alloc ak.size (Obj.cells (dB fp fa fc) 147);have n5:=bT n3 aC;clear jb jd jU jV jW jX jY jZ j0 j1;obtain ⟨oV,oW,oX,oY,oZ,pd,pf,pg,ph,pj⟩:=c5 n5;have N5:=ab n5;have bp:=aD cG aC (gB bn (Nat.le_refl w.heap.size) (.int .i64 p'.id) (.int .i64 p'.num) (.string (str p'.text)) (.string (str p'.pair)) (.slice dY p'.data.length dZ)).size;skip;clear n3 n5 bZ ak aC N2)
         |(go_at_call 214;go_must (refine zz.o_ _ _ ?_))
         |(go_at_call 215;go_must (refine EI _ p' _ CE.o_ _ _ ?_);intro w6 bg;have nr:=bT N5.o_ bg;clear oV oW oX oY oZ pd pf pg ph pj;obtain ⟨CF,CG,CH,CI,CJ,CK,CL,CM,CN,CO⟩:=c5 nr;have N6:=ab nr;have dP:=br bp bg;skip;clear nr N5 bg))
        exact Kd
     ·rw [if_neg kG] at hs;simp only [Prod.mk.injEq] at hs;have dh:nn=0:=by omega
      subst dh;obtain ⟨ef,rfl,rfl⟩:=hs;subst ef;have gX:=CD rfl;have HB:=ab gX;have zo:decide (cW p'=0)=true:=decide_eq_true lf;have CE:=ab zo;clear CD wH gX jA hg lf zo kG;have rG:∀w' (R:Ending→World→Prop),R (.returned (.bool oo)) w'→Calls prog 214 #[.int .i64 x,.int .i64 wh] w' R:=fun w' R h=>Ov x wh w' R (by rw [HO.o_];exact h);have zz:=ab rG;clear rG;cases fq with
      |false=>
       go_enter func191,ntmps191;go_wp2_with (first
        |(go_at_call 190;go_must (refine sH _ b x y 0 HG.o_ _ (HV.o_.below cb.o_) _ ?_))
        |(go_at_call 211;go_must (refine zw x wh true HM.o_ _ _ ?_);intro w1 aw;have nr:=bT N0.o_ aw;obtain ⟨fC,fD,fE,fF,fG,fH,fI,fJ,fK,fL⟩:=c5 nr;have N1:=ab nr;have aI:=br cb.o_ aw;clear nr N0 aw)
        |(go_at_call 212;go_must (refine oU.o_ _ _ (eZ.o_.below aI) (HT.o_.below aI) ?_);intro dv w2 ct ah;obtain ⟨dY,dZ,rfl⟩:=bF ct;have nr:=bT N1.o_ ah;clear fC fD fE fF fG fH fI fJ fK fL;obtain ⟨jb,jd,jU,jV,jW,jX,jY,jZ,j0,j1⟩:=c5 nr;have N2:=ab nr;have bn:=br aI ah;have OB:=ab (bN (gF:=w.heap.size) ct aI.size);clear nr N1 ah ct)
        |(go_at_call 213;have cG:=gB bn (Nat.le_refl w.heap.size) (.int .i64 p'.id) (.int .i64 p'.num) (.string (str p'.text)) (.string (str p'.pair)) (.slice dY p'.data.length dZ);have n3:=k_ N2.o_ rfl (.int .i64 p'.id) (.int .i64 p'.num) (.string (str p'.text)) (.string (str p'.pair)) (.slice dY p'.data.length dZ);go_must (refine A9 x _ l fp false od.o_ qQ.o_ _ (HU.o_.below cG) _ ?_);intro fa fc w4 bZ ak;have aC:=ak.alloc ak.size (Obj.cells (dB fp fa fc) 147);have n5:=bT n3 aC;clear jb jd jU jV jW jX jY jZ j0 j1;obtain ⟨oV,oW,oX,oY,oZ,pd,pf,pg,ph,pj⟩:=c5 n5;have N5:=ab n5;have bp:=aD cG aC (gB bn (Nat.le_refl w.heap.size) (.int .i64 p'.id) (.int .i64 p'.num) (.string (str p'.text)) (.string (str p'.pair)) (.slice dY p'.data.length dZ)).size;have OC:=ab (aK (Cx (te:=5) N2.o_ (by decide) (.int .i64 p'.id) (.int .i64 p'.num) (.string (str p'.text)) (.string (str p'.pair)) (.slice dY p'.data.length dZ) _ _ _ _ OB.o_) aC);clear n3 n5 bZ ak aC N2)
        |(go_at_call 214;go_must (refine zz.o_ _ _ ?_))
        |(go_at_call 215;go_must (refine EI _ p' _ CE.o_ _ _ ?_);intro w6 bg;have nr:=bT N5.o_ bg;clear oV oW oX oY oZ pd pf pg ph pj;obtain ⟨CF,CG,CH,CI,CJ,CK,CL,CM,CN,CO⟩:=c5 nr;have N6:=ab nr;have dP:=br bp bg;have EJ:=ab (aK OC.o_ bg);clear nr N5 bg))
       exact Vn
      |true=>
       obtain rfl:oo=true:=by cases oo with
        |true=>rfl
        |false=>exact absurd ⟨rfl,rfl⟩ zy
       clear zy;go_enter func191,ntmps191;go_wp2_with (first
        |(go_at_call 190;go_must (refine sH _ b x y 0 HG.o_ _ (HV.o_.below cb.o_) _ ?_))
        |(go_at_call 211;go_must (refine zw x wh true HM.o_ _ _ ?_);intro w1 aw;have nr:=bT N0.o_ aw;obtain ⟨fC,fD,fE,fF,fG,fH,fI,fJ,fK,fL⟩:=c5 nr;have N1:=ab nr;have aI:=br cb.o_ aw;clear nr N0 aw)
        |(go_at_call 212;go_must (refine oU.o_ _ _ (eZ.o_.below aI) (HT.o_.below aI) ?_);intro dv w2 ct ah;obtain ⟨dY,dZ,rfl⟩:=bF ct;have nr:=bT N1.o_ ah;clear fC fD fE fF fG fH fI fJ fK fL;obtain ⟨jb,jd,jU,jV,jW,jX,jY,jZ,j0,j1⟩:=c5 nr;have N2:=ab nr;have bn:=br aI ah;have OB:=ab (bN (gF:=w.heap.size) ct aI.size);clear nr N1 ah ct)
        |(go_at_call 213;have cG:=gB bn (Nat.le_refl w.heap.size) (.int .i64 p'.id) (.int .i64 p'.num) (.string (str p'.text)) (.string (str p'.pair)) (.slice dY p'.data.length dZ);have n3:=k_ N2.o_ rfl (.int .i64 p'.id) (.int .i64 p'.num) (.string (str p'.text)) (.string (str p'.pair)) (.slice dY p'.data.length dZ);go_must (refine A9 x _ l fp true od.o_ qQ.o_ _ (HU.o_.below cG) _ ?_);intro fa fc w4 bZ ak;have aC:=ak.alloc ak.size (Obj.cells (dB fp fa fc) 147);have n5:=bT n3 aC;clear jb jd jU jV jW jX jY jZ j0 j1;obtain ⟨oV,oW,oX,oY,oZ,pd,pf,pg,ph,pj⟩:=c5 n5;have N5:=ab n5;have bp:=aD cG aC (gB bn (Nat.le_refl w.heap.size) (.int .i64 p'.id) (.int .i64 p'.num) (.string (str p'.text)) (.string (str p'.pair)) (.slice dY p'.data.length dZ)).size;have OC:=ab (aK (Cx (te:=5) N2.o_ (by decide) (.int .i64 p'.id) (.int .i64 p'.num) (.string (str p'.text)) (.string (str p'.pair)) (.slice dY p'.data.length dZ) _ _ _ _ OB.o_) aC);clear n3 n5 bZ ak aC N2)
        |(go_at_call 214;go_must (refine zz.o_ _ _ ?_))
        |(go_at_call 215;go_must (refine EI _ p' _ CE.o_ _ _ ?_);intro w6 bg;have nr:=bT N5.o_ bg;clear oV oW oX oY oZ pd pf pg ph pj;obtain ⟨CF,CG,CH,CI,CJ,CK,CL,CM,CN,CO⟩:=c5 nr;have N6:=ab nr;have dP:=br bp bg;have EJ:=ab (aK OC.o_ bg);clear nr N5 bg))
       exact Vn
theorem Vt{P:Prop}(h:P:=by
 intro w';have:=df w';rw [Nat.add_sub_cancel_left] at this;rw [show (y:Int)+(n:Int)=((y+n:Nat):Int) by omega];exact this):P:=h
theorem Vu{P:Prop}(h:P:=by
 refine ⟨n,[],(b.drop y).take n,La,vc - y,by rw [mA.o_];omega,mA.o_.symm,by rw [mA.o_],ab (by rw [mA.o_];simp;omega),ab (cZ.nil _ _),ab (fun p hp=>by cases hp),by rw [mA.o_];exact eZ,Below.refl _ _,HF⟩):P:=h
theorem Vv{P:Prop}(h:P:=by
 rcases List.mem_append.1 hq with h|h
 ·exact fU.o_ q h
 ·obtain rfl:=List.mem_singleton.1 h;exact OD.o_):P:=h
open Int (toNat_natCast)
variable{p:Pr}
theorem aey(wh:Int)(v u:Value)(b:List UInt8)(l:List Pr)(p:Pr)(m:Int)(hs:oT wh l b=(0,p,m))(w:World)(hv:Bs w v b)(hu:Ps w u l)(hT:di w)(R:Ending→World→Prop)
 (hR:∀d w',w'.ownsRow w 5 1 d p.data.length (bv p.data)→Below w w w'→R (.returned (.tuple #[.agg (bz p d),.int .i64 m,.int .i64 0])) w'):
 Calls prog 191 #[.int .i64 wh,v,u] w R:=
 Vo wh v u b l 0 p m hs w hv hu hT R (fun _=>hR) (fun h=>absurd rfl h)
theorem aez(wh:Int)(v u:Value)(b:List UInt8)(l:List Pr)(c:Nat)(p:Pr)(m:Int)(hc:c≠0)(hs:oT wh l b=(c,p,m))(w:World)(hv:Bs w v b)(hu:Ps w u l)(hT:di w)(R:Ending→World→Prop)
 (hR:∀x y s t a k q w',Below w w w'→R (.returned (.tuple #[.agg #[.int .i64 x,.int .i64 y,.string s,.string t,.slice a k q],.int .i64 0,.int .i64 c])) w'):
 Calls prog 191 #[.int .i64 wh,v,u] w R:=
 Vo wh v u b l c p m hs w hv hu hT R (fun h=>absurd h hc) (fun _=>hR)
theorem Ct.pb(h:Ct p)(h0:0≤p.id)(h1:p.id<268435456):PB p:=by
 have:=h.ld;have:=h.lt;have:=h.lp;have:=h.n0;have:=h.n1;exact ⟨by omega,by omega,by omega,by omega,by omega,by omega,by omega⟩
theorem Vw(f:Nat)(wh:Int)(l:List Pr):nY f wh l []=(l,0):=by cases f<;>rfl
theorem Gm(wh:Int)(v:Value)(b:List UInt8)(out:List Pr)(used:Int)(c:Nat)(h:nk wh b=(out,used,c))(eV:b.length≤100000000)(w:World)(hv:Bs w v b)(hT:di w)(R:Ending→World→Prop)
 (hR:∀ad cc w',cZ w' w.heap.size (.slice ad out.length cc) out→Below w w w'→R (.returned (.tuple #[.slice ad out.length cc,.int .i64 used,.int .i64 c])) w'):
 Calls prog 173 #[.int .i64 wh,v] w R:=by
 have HR:=ab hR;have HV:=ab hv;have HT:=ab hT;obtain ⟨va,vc,rfl,_,EK,Ge,_⟩:=_root_.id hv;obtain ⟨⟨n,y,z⟩,hg⟩:∃g,dg b=g:=⟨_,rfl⟩
 unfold nk at h;rw [hg] at h;simp only at h;have HG:=ab hg;clear hR hv hT;by_cases hz:z≠0
 ·rw [if_pos (.inl hz)] at h;simp only [Prod.mk.injEq] at h;obtain ⟨rfl,rfl,rfl⟩:=h;have OA:¬(z:Int)=0:=by omega
  clear hg;go_enter func173,ntmps173;go_wp2_with (go_at_call 190;go_must (refine sH _ b n y z HG.o_ _ HV.o_ _ ?_));go_ret3;exact HR.o_ none 0 _ (cZ.nil _ _) (Below.refl _ _)
 ·have j2:z=0:=by omega
  subst j2;obtain ⟨aeA,je,_⟩:=A6 b n y hg;clear hg;by_cases wm:b.length<n+y
  ·rw [if_pos (.inr wm)] at h;simp only [Prod.mk.injEq] at h;obtain ⟨rfl,rfl,rfl⟩:=h;have OE:(b.length:Int) - (y:Int)<(n:Int):=by omega
   go_enter func173,ntmps173;go_wp2_with (go_at_call 190;go_must (refine sH _ b n y 0 HG.o_ _ HV.o_ _ ?_));go_ret3;exact HR.o_ none 0 _ (cZ.nil _ _) (Below.refl _ _)
  ·rw [if_neg (by simpa using wm)] at h;have OE:¬((b.length:Int) - (y:Int)<(n:Int)):=by omega
   obtain ⟨⟨o2,c2⟩,hF⟩:∃o,nY n wh [] ((b.drop y).take n)=o:=⟨_,rfl⟩
   rw [hF] at h;simp only at h;have HF:=ab hF;have HH:=ab h;obtain ⟨La,df,bX⟩:=Va (lo:=y) (hi:=y+n) HV.o_ (by omega) (by omega);rw [Nat.add_sub_cancel_left] at bX;have oe:∀w',(Instr.slice 22 (.slice va b.length vc) (some (.int .i64 (y:Int))) (some (.int .i64 ((y:Int)+(n:Int)))) none).run prog w'= .ok (.slice La n (vc - y)) w':=by
    exact Vt
   have aL:(b.take (y+n)).drop y=(b.drop y).take n:=by rw [List.drop_take,Nat.add_sub_cancel_left]
   rw [aL] at bX;have Gn:((b.drop y).take n).length=n:=by rw [List.length_take,List.length_drop];omega
   have eZ:=ab bX;have mA:=ab Gn;clear h hF df bX aL Gn;go_enter func173,ntmps173;go_wp2_with (go_at_call 190;go_must (refine sH _ b n y 0 HG.o_ _ HV.o_ _ ?_));clear oe;go_loopg [4,10] n (fun gn L rest wr=>∃(f:Nat)(l':List Pr)(b':List UInt8)(ra:Option Addr)(rc:Nat),b'.length≤f∧gn=b'.length∧rest= .slice ra b'.length rc∧Hid (l'.length+b'.length≤b.length)∧Hid (cZ wr w.heap.size L l')∧Hid (∀p∈l',PB p)∧Hid (Bs w (.slice ra b'.length rc) b')∧Below w w wr∧Hid (nY f wh l' b'=(o2,c2)))
   case atStart=>
    exact Vu
   case round=>
    obtain ⟨f,l',b',ra,rc,hf,rfl,rfl,CP,dn,fU,cK,hb,rI⟩:=hrel;obtain ⟨wo,rfl⟩:∃x,x=wr:=⟨_,rfl⟩
    obtain ⟨aeB,Lc,rfl⟩:=cZ.shape dn.o_;have Ev:=hb.size;by_cases sq:0<b'.length
    ·have aeC:(0:Int)<(b'.length:Int):=by omega
     obtain ⟨f',rfl⟩:∃f',f=f'+1:=⟨f - 1,by omega⟩
     have bh:b'≠ []:=fun hc=>by rw [hc] at sq;simp at sq
     have gD:=rI.o_;unfold nY at gD;rw [if_neg bh] at gD;obtain ⟨⟨sc,p,m⟩,hs⟩:∃s,oT wh l' b'=s:=⟨_,rfl⟩
     rw [hs] at gD;simp only at gD;have HS:=ab hs;by_cases rF:sc≠0
     ·rw [if_pos rF] at gD;simp only [Prod.mk.injEq] at gD;obtain ⟨rfl,rfl⟩:=gD;have aqg:¬(sc:Int)=0:=by omega
      have hh:=HH.o_;rw [if_pos rF] at hh;simp only [Prod.mk.injEq] at hh;obtain ⟨rfl,rfl,rfl⟩:=hh;have yj:=ab rF;clear hs HH bh rF rI HF;go_wp2_with (go_at_call 191;go_must (refine aez wh _ _ b' l' sc p m yj.o_ HS.o_ _ (cK.o_.below hb) (dn.o_.ps fU.o_) (HT.o_.below hb) _ ?_);intro x1 x2 x3 x4 x5 x6 x7 w5 aC);have lI:=aD hb aC hb.size;go_ret3;exact HR.o_ none 0 _ (cZ.nil _ _) (lI.alloc lI.size _)
     ·have jA:sc=0:=by omega
      subst jA;rw [if_neg rF] at gD;obtain ⟨um,rfl,aeD,AG,_,A_,_,_,bS,cQ,_,_⟩:=Ot hs;rw [toNat_natCast] at gD;have aeE:=ab gD;obtain ⟨Lb,df,bX⟩:=EH cK.o_ AG;have J0:=ab bX;have OD:=ab (A_.pb bS cQ);have nv:l'.length+1≤100000000:=by have:=CP.o_;omega
      have Ke:=aeE;clear hs gD A_ rF rI bX bh;obtain ⟨ds,B_,aq,xQ,qH⟩:=dn.o_;have yk:=ab B_;have yl:=ab xQ;have aU:=ab aq;have uQ:=ab qH;clear xQ aq qH;go_wp2_with (first
       |(go_at_call 191;go_must (refine aey wh _ _ b' l' p um HS.o_ _ (cK.o_.below hb) (dn.o_.ps fU.o_) (HT.o_.below hb) _ ?_);intro d5 w5 ed aC;obtain ⟨da,dc,rfl⟩:=bF ed;have gz:=World.ownsRow.alloc (aK aU.o_ aC) (Obj.cells (dB p da dc) 147);have lI:=aD hb aC hb.size;have bp:=lI.alloc lI.size (Obj.cells (dB p da dc) 147);have bG:=cO (w5.alloc (Obj.cells (dB p da dc) 147)) (dB p da dc) 147 5 1 rfl;rw [show (w5.alloc (Obj.cells (dB p da dc) 147)).heap.size=w5.heap.size+1 by simp] at bG)
       |(at_builtin;go_must (refine j9 (by rfl) (.tmp 50) (.tmp 52) 32 (by rfl) w 147 (.agg hZ) 5 72 underlying32 Tryz.xP rfl (by decide) _ _ _ _ rfl (World.ownsRow.alloc gz _) _ _ _ _ rfl bG (zg _ _ _) (by simp) (by unfold maxLen;omega) (by omega) (by have:=lI.size;simp;omega) ?_)))
      intro fM c6 w6 dt bI;have lD:eF 5 w5 w6:=(eF.below (((Below.refl w5 w5).alloc (Nat.le_refl _) _).alloc (by simp) _)).trans (eF.Ek (gz.alloc _) bI (by decide));have zA:Below w w w6:=bC (bp.alloc bp.size _) bI (by have:=lI.size;simp;omega) (gz.alloc _);have ju:∀v∈ds,fR v (.slice da p.data.length dc):=by
       intro v hv k hk hc;obtain ⟨i,hi,rfl⟩:=List.getElem_of_mem hv;have h1:=((yl.o_ i (by rw [←yk.o_];exact hi)).lt k hk).2;have h2:=(ed.lt k hc).1
       omega
      have wI:cZ w6 w.heap.size (.slice fM (l'.length+1) c6) (l'++ [p]):=cZ.push yk.o_ (fun i hi=>aK (yl.o_ i hi) aC) lD dt (bN ed hb.size) uQ.o_ ju;have CQ:=ab wI;have Gp:Hid (∀q∈l'++ [p],PB q):=ab fun q hq=>by
       exact Vv
      clear wI ju lD dt bI gz ed bG bp aC lI;go_wp2;go_roundg (b'.drop um).length
      case measure=>rw [List.length_drop];omega
      case rel=>exact ⟨f',l'++ [p],b'.drop um,Lb,rc - um,by rw [List.length_drop];omega,rfl,by rw [List.length_drop],ab (by have:=CP.o_;rw [List.length_append,List.length_drop];simp;omega),CQ,Gp,by rw [List.length_drop];exact J0,zA,Ke⟩
    ·have aL:b'= []:=List.eq_nil_of_length_eq_zero (by omega);subst aL;have gD:=rI.o_;rw [Vw] at gD;simp only [Prod.mk.injEq] at gD;obtain ⟨rfl,rfl⟩:=gD;have hh:=HH.o_;rw [if_neg (by simp)] at hh;simp only [Prod.mk.injEq] at hh;obtain ⟨rfl,rfl,rfl⟩:=hh;clear HH rI HF;go_wp2;go_ret3;exact HR.o_ _ _ _ dn.o_ hb
theorem Kf{P:Prop}(h:P:=by
 obtain rfl:r=false:=HR.o_.symm;clear HR;go_enter func188,ntmps188;go_wp2
 all_goals first|exact aL|exact hR _ aL):P:=h
theorem Vx(d e:Value)(p q:Pr)(r:Bool)(hr:AH p q=r)(w:World)(hp:PC w d p)(hq:PC w e q)(R:Ending→World→Prop)
 (hR:∀w',Below w w w'→R (.returned (.bool r)) w'):
 Calls prog 188 #[.agg (bz p d),.agg (bz q e)] w R:=by
 obtain ⟨i,n,t,u,x⟩:=p;obtain ⟨i',n',t',u',x'⟩:=q;have aL:=((Below.refl w w).alloc (Nat.le_refl _) (Obj.cells #[Value.int .i64 i,Value.int .i64 n,.string (str t),.string (str u),d] 147)).alloc (by simp) (Obj.cells #[Value.int .i64 i',Value.int .i64 n',.string (str t'),.string (str u'),e] 147);have k1:=ru (P:=prog) underlying22 underlying5 underlying9 (hp.hd.below aL);have k2:=ru (P:=prog) underlying22 underlying5 underlying9 (hq.hd.below aL);unfold AH at hr;simp only at*;obtain ⟨r1,h1⟩:∃x,(i==i')=x:=⟨_,rfl⟩
 obtain ⟨r2,h2⟩:∃x,(n==n')=x:=⟨_,rfl⟩
 obtain ⟨r3,h3⟩:∃x,(t==t')=x:=⟨_,rfl⟩
 obtain ⟨r4,h4⟩:∃x,(u==u')=x:=⟨_,rfl⟩
 obtain ⟨r5,h5⟩:∃y,(x==x')=y:=⟨_,rfl⟩
 rw [h1,h2,h3,h4,h5] at hr;have HR:=ab hr;clear hp hq hr;cases r1 with
 |false=>
  exact Kf
 |true=>
  cases r2 with
  |false=>
   exact Kf
  |true=>
   cases r3 with
   |false=>
    exact Kf
   |true=>
    cases r4 with
    |false=>
     exact Kf
    |true=>
     obtain rfl:r=r5:=by have:=HR.o_;simpa using this.symm
     clear HR;go_enter func188,ntmps188;go_wp2
     all_goals first|exact aL|exact hR _ aL
theorem aeF(v u:Value)(l m:List Pr)(r:Bool)(hr:B9 l m=r)(w:World)(hv:Ps w v l)(hu:Ps w u m)(R:Ending→World→Prop)
 (hR:∀w',Below w w w'→R (.returned (.bool r)) w'):
 Calls prog 187 #[v,u,.func (.func 188) #[] #[]] w R:=by
 have HR:=ab hR;have HV:=ab hv;have HU:=ab hu;have fZ:=ab hr;clear hR hr;obtain ⟨va,vc,rfl,_⟩:=hv;obtain ⟨ua,uc,rfl,_⟩:=hu;by_cases aX:l.length=m.length
 ·have Gq:(l.length:Int)=(m.length:Int):=by omega
  have m8:=ab aX;have bh:((l.length:Int) != (m.length:Int))=false:=by simp [aX]
  clear aX Gq;go_enter func187,ntmps187;go_wp2;go_loopg [7,8,9,17] l.length (fun gn _ _ _ i wr=>∃k:Nat,k≤l.length∧gn=l.length - k∧i= .int .i64 k∧Below w w wr∧Hid (l.take k=m.take k))
  case atStart=>exact ⟨0,Nat.zero_le _,by omega,rfl,Below.refl _ _,ab rfl⟩
  case round=>
   obtain ⟨k,hk,rfl,rfl,hb,HS⟩:=hrel;obtain ⟨wo,rfl⟩:∃x,x=wr:=⟨_,rfl⟩
   by_cases ao:k<l.length
   ·have bd:(k:Int)<(l.length:Int):=by omega
    have ij:k<m.length:=by have:=m8.o_;omega
    have Gr:(k:Int)<(m.length:Int):=by omega
    obtain ⟨Cy,Cz,ee,_,_,_,v4⟩:=HV.o_.below hb;simp only [Value.slice.injEq] at ee;obtain ⟨rfl,-,rfl⟩:=ee;obtain ⟨vb,vo,rfl,v5⟩:=v4 (by omega);obtain ⟨d0,⟨p0,p1,p2,p3,p4⟩,gC⟩:=v5 k ao;obtain ⟨aeG,aeH,ee,_,_,_,u4⟩:=HU.o_.below hb;simp only [Value.slice.injEq] at ee;obtain ⟨rfl,-,rfl⟩:=ee;obtain ⟨ub,uo,rfl,u5⟩:=u4 (by omega);obtain ⟨e0,⟨q0,q1,q2,q3,q4⟩,uR⟩:=u5 k ij;have oh:Hid (l.take (k+1)=l.take k++ [l[k]]):=ab (List.take_succ_eq_append_getElem ao);have Gs:Hid (m.take (k+1)=m.take k++ [m[k]]):=ab (List.take_succ_eq_append_getElem ij);have El:Hid (l[k]? =some l[k]):=ab (List.getElem?_eq_getElem ao);have oL:Hid (m[k]? =some m[k]):=ab (List.getElem?_eq_getElem ij);obtain ⟨y,hy⟩:=ai (l[k]);obtain ⟨y',Gt⟩:=ai (m[k]);rw [hy] at p0 p1 p2 p3 gC oh El;rw [Gt] at q0 q1 q2 q3 uR Gs oL;obtain ⟨d1,d2,d3,rfl⟩:∃a n c,d0= .slice a n c:=by obtain ⟨a,c,h,_⟩:=gC.hd;exact ⟨_,_,_,h⟩
    obtain ⟨e1,e2,e3,rfl⟩:∃a n c,e0= .slice a n c:=by obtain ⟨a,c,h,_⟩:=uR.hd;exact ⟨_,_,_,h⟩
    have sJ:Below wo wo (wo.alloc (Obj.cells #[.int .i64 y.id,.int .i64 y.num,.string (str y.text),.string (str y.pair),.slice d1 d2 d3] 147)):=(Below.refl _ _).alloc (Nat.le_refl _) _;have aqh:=cell_later sJ q0;have aqi:=cell_later sJ q1;have aqj:=cell_later sJ q2;have aqk:=cell_later sJ q3;have aql:=cell_later sJ q4;have ob:Below wo wo ((wo.alloc (Obj.cells #[.int .i64 y.id,.int .i64 y.num,.string (str y.text),.string (str y.pair),.slice d1 d2 d3] 147)).alloc (Obj.cells #[.int .i64 y'.id,.int .i64 y'.num,.string (str y'.text),.string (str y'.pair),.slice e1 e2 e3] 147)):=sJ.alloc (by simp) _;have tH:=ab (gC.below ob);have Kg:=ab (uR.below ob);have zx:=ab (br hb ob);obtain ⟨g,hg⟩:=ai (AH y y');have A':=ab hg;clear v4 v5 u4 u5 hy Gt gC uR hg sJ ob;cases g with
    |true=>
     have Gu:y=y':=(JG y y').1 A'.o_;have HN:Hid (l.take (k+1)=m.take (k+1)):=by
      refine ab ?_;rw [oh.o_,Gs.o_,HS.o_,Gu]
     clear Gu;go_wp2_with (go_at_call 188;go_must (refine Vx _ _ y y' true A'.o_ _ tH.o_ Kg.o_ _ ?_);intro w5 aC;have bp:=br zx.o_ aC);exact TS
    |false=>
     have JH:y≠y':=fun h=>by have:=(JG y y').2 h;rw [A'.o_] at this;cases this
     obtain rfl:r=false:=by
      exact TU
     clear JH;go_wp2_with (go_at_call 188;go_must (refine Vx _ _ y y' false A'.o_ _ tH.o_ Kg.o_ _ ?_);intro w5 aC;have bp:=br zx.o_ aC);exact HR.o_ _ bp
   ·have bd:¬(k:Int)<(l.length:Int):=by omega
    exact TV
 ·have bh:((l.length:Int) != (m.length:Int))=true:=by simp;omega
  obtain rfl:r=false:=by
   rw [←fZ.o_];exact decide_eq_false fun h=>aX (by rw [h])
  have Gq:¬(l.length:Int)=(m.length:Int):=by omega
  clear aX;go_enter func187,ntmps187;go_wp2;exact HR.o_ _ (Below.refl _ _)
theorem OF(v u:Value)(l m:List Pr)(r:Bool)(hr:B9 l m=r)(w:World)(hv:Ps w v l)(hu:Ps w u m)(R:Ending→World→Prop)
 (hR:∀w',Below w w w'→R (.returned (.bool r)) w'):
 Calls prog 169 #[v,u] w R:=by
 have HR:=ab hR;clear hR;have fZ:=ab hr;have HV:=ab hv;have HU:=ab hu;obtain ⟨va,vc,rfl,_⟩:=hv;obtain ⟨ua,uc,rfl,_⟩:=hu;clear hr;go_enter func169,ntmps169;go_wp2_with (go_at_call 187;go_must (refine aeF _ _ l m r fZ.o_ _ HV.o_ HU.o_ _ ?_);intro w1 aw);exact HR.o_ _ aw
end Go.Proofs.YtgimbocoamnkjaaGreatDoor
