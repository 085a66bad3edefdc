/- A part of the proof of SessionPlays, printed small; no conditions of its own. -/
import Derived.Test.YtgimbocoamnkjaaGreatDoorM07
import Derived.Deep.CutRange
import Derived.Maps.RangeWalk
import Derived.Lib.SliceRun
set_option maxRecDepth 100000
set_option maxHeartbeats 16000000
namespace Go.Proofs.YtgimbocoamnkjaaGreatDoor
open _root_.Go.Proofs.Tryz
variable{e:Nat}{v1 v2 v3:Value}{w:World}
open Go.RowKit
theorem Gv(n:Int):(dG n).1.length≤4:=by
 unfold dG
 split
 ·simp
 ·exact (Oh 3 _).2
theorem Kh(l:List UInt8):(b5 l).1.length≤65537:=by
 unfold b5 cS
 split
 ·split
  ·simp
  ·simp only [List.length_append,eU];omega
 ·simp
theorem aeI(l:List UInt8):(cS l).1.length≤65537:=by
 unfold cS
 split
 ·simp
 ·simp only [List.length_append,eU];omega
theorem OG(x:Nat)(n:Int)(h:n≤8):(dE x n).length≤8:=by
 unfold dE
 split
 ·simp
 ·rw [eU];omega
theorem Ba(p:Pr):(bV p).length≤140000:=by
 unfold bV;rw [List.length_append];have h0:=Gv p.id;have h1:=Gv p.num;have h2:=Kh p.text;have h3:=Kh p.pair;have h4:=aeI p.data;have h5:=OG (u64 p.num) 1 (by omega);have h6:=OG (u64 p.num) 2 (by omega);have h7:=OG (u64 p.num) 4 (by omega)
 repeat' split
 all_goals first|omega|(rw [List.length_append];omega)|(simp only [List.length_nil];omega)
theorem EM{a b c:List UInt8}(h1:Bs w v1 a)(h2:Bs w v2 b)(h3:Bs w v3 c):vT (w.alloc (.cells #[v1,v2,v3] e)) (.slice (some ⟨w,0,none⟩) 3 3) [a,b,c]:=
 AB [v1,v2,v3] [a,b,c] rfl (by simp) fun i hi=>by
  match i,hi with
  |0,_=>exact ⟨v1,rfl,h1⟩
  |1,_=>exact ⟨v2,rfl,h2⟩
  |2,_=>exact ⟨v3,rfl,h3⟩
theorem flat3(a b c:List UInt8): [a,b,c].flatten=a++(b++c):=by simp
theorem OH{P:Prop}(h:P:=by
 have sK:Below w2 w2 w3:=br (Below.refl _ _).drew an;have jS:=br sK ak;have eT:=br bn jS;have zB:=aK tJ jS;have rJ:Bs w4 (.slice none 0 0) Q:=by rw [HQ.o_];exact Cw _
 clear c0 c1 jb jd jU jV jW jX jY jZ j0 j1 sK jS an ak uS CS;have hB:=EM (e:=22) (eD zB).2 (eD bZ).2 rJ;go_wp2_with (go_at_call 55;go_must (refine m_ _ [V,P,Q] J pk.o_ _ hB (by have:=lY.o_;omega) _ ?_));intro eC c9 w9 cI cx;go_wp2;exact HR.o_ _ _ _ (bN cI (by have:=(eT).size;simp;omega)) (aD ((eT).alloc (eT).size _) cx (by have:=(eT).size;simp;omega))):P:=h
theorem aeJ(d:Value)(p:Pr)(hk:aO p.id=1)(J:List UInt8)(hJ:bV p=J)(w:World)(h:PC w d p)(hT:di w)(R:Ending→World→Prop)
 (hR:∀ad c w',w'.ownsRow w 5 1 (.slice ad J.length c) J.length (bv J)→Below w w w'→R (.returned (.slice ad J.length c)) w'):
 Calls prog 171 #[.agg (bz p d)] w R:=by
 have HR:=ab hR;have HK:=ab hk;have HP:=ab h;have HT:=ab hT;obtain ⟨V,er,hV⟩:∃V er,dG p.id=(V,er):=⟨_,_,rfl⟩
 have HV:=ab hV;have cE:=Ba p;rw [lW,hV] at hJ;rw [lW,hV] at cE;rw [hJ] at cE;simp only at hJ;have lY:=ab cE;have N0:Hid ((w.alloc (Obj.cells (bz p d) 147)).heap[w.heap.size]? =some (Obj.cells (bz p d) 147)):=ab (heap_alloc_new w _);have cF:=(Below.refl w w).alloc (Nat.le_refl _) (Obj.cells (bz p d) 147);clear hR h hV cE hT;obtain ⟨X,hX⟩:=ai (u64 p.num);have CS:IntKind.u64.wrap p.num=(X:Int):=by rw [←hX,IntKind.wrap_u64];unfold u64;omega
 have pY:X<18446744073709551616:=by rw [←hX];unfold u64;omega
 have pZ:=ab pY;obtain ⟨P,hP⟩:=ai (dE X 1);obtain ⟨Q,hQ⟩:∃Q:List UInt8,Q= []:=⟨_,rfl⟩
 have jC:ff p=P:=by unfold ff;rw [hk,hX];exact hP
 rw [jC] at hJ;have pk:Hid ([V,P,Q].flatten=J):=ab (by rw [flat3,hQ,List.append_nil];exact hJ);have gM:=ab hP;have HQ:=ab hQ;have uS:∀w,(Op.shift .shl .i64 1 .i64 (IntKind.i64.wrap 0)).run prog w= .ok (.int .i64 1) w:=fun _=>by kernel_rfl
 clear pY hP hX jC hJ hk hQ;go_enter func171,ntmps171;go_wp2_with (first
  |(go_at_call_of 172 (Value.int .i64 p.id);go_must (refine sF p.id V er HV.o_ _ _ ?_);intro va vc w1 bQ aw;have nr:=bT N0.o_ aw;obtain ⟨fC,fD,fE,fF,fG,fH,fI,fJ,fK,fL⟩:=c5 nr;have N1:=ab nr;have aI:=br cF aw;have fh:=bN (gF:=w.heap.size) bQ (by simp);clear nr N0 aw bQ)
  |(go_at_call 189;go_must (refine i_ p.id 1 HK.o_ _ _ ?_);intro w2 ah;have nr:=bT N1.o_ ah;clear fC fD fE fF fG fH fI fJ fK fL;obtain ⟨jb,jd,jU,jV,jW,jX,jY,jZ,j0,j1⟩:=c5 nr;have N2:=ab nr;have bn:=br aI ah;have tJ:=aK fh ah;clear nr N1 ah fh))
 have c0:w2.drew.cell? ⟨w,0,none⟩=some (.int .i64 p.id):=jb;have c1:w2.drew.cell? ⟨w,1,none⟩=some (.int .i64 p.num):=jd;go_region_held3 (fun x=>x.cell? ⟨w,0,none⟩=some (.int .i64 p.id)∧x.cell? ⟨w,1,none⟩=some (.int .i64 p.num))
  (first|exact ⟨c0,c1⟩|exact ⟨cell_later an c0,cell_later an c1⟩|exact ⟨cell_later ak (cell_later an c0),cell_later ak (cell_later an c1)⟩|go_keep)
  (first
   |(go_at_call 189;refine i_ p.id 1 HK.o_ _ _ ?_;intro w3 an)
   |(go_at_call 56;refine wi X pZ.o_ 1 P gM.o_ _ _ ?_;intro pa pc w4 bZ ak))
 all_goals
  exact OH
theorem aeK(d:Value)(p:Pr)(hk:aO p.id=2)(J:List UInt8)(hJ:bV p=J)(w:World)(h:PC w d p)(hT:di w)(R:Ending→World→Prop)
 (hR:∀ad c w',w'.ownsRow w 5 1 (.slice ad J.length c) J.length (bv J)→Below w w w'→R (.returned (.slice ad J.length c)) w'):
 Calls prog 171 #[.agg (bz p d)] w R:=by
 have HR:=ab hR;have HK:=ab hk;have HP:=ab h;have HT:=ab hT;obtain ⟨V,er,hV⟩:∃V er,dG p.id=(V,er):=⟨_,_,rfl⟩
 have HV:=ab hV;have cE:=Ba p;rw [lW,hV] at hJ;rw [lW,hV] at cE;rw [hJ] at cE;simp only at hJ;have lY:=ab cE;have N0:Hid ((w.alloc (Obj.cells (bz p d) 147)).heap[w.heap.size]? =some (Obj.cells (bz p d) 147)):=ab (heap_alloc_new w _);have cF:=(Below.refl w w).alloc (Nat.le_refl _) (Obj.cells (bz p d) 147);clear hR h hV cE hT;obtain ⟨X,hX⟩:=ai (u64 p.num);have CS:IntKind.u64.wrap p.num=(X:Int):=by rw [←hX,IntKind.wrap_u64];unfold u64;omega
 have pY:X<18446744073709551616:=by rw [←hX];unfold u64;omega
 have pZ:=ab pY;obtain ⟨P,hP⟩:=ai (dE X 2);obtain ⟨Q,hQ⟩:∃Q:List UInt8,Q= []:=⟨_,rfl⟩
 have jC:ff p=P:=by unfold ff;rw [hk,hX];exact hP
 rw [jC] at hJ;have pk:Hid ([V,P,Q].flatten=J):=ab (by rw [flat3,hQ,List.append_nil];exact hJ);have gM:=ab hP;have HQ:=ab hQ;have uS:∀w,(Op.shift .shl .i64 1 .i64 (IntKind.i64.wrap 1)).run prog w= .ok (.int .i64 2) w:=fun _=>by kernel_rfl
 clear pY hP hX jC hJ hk hQ;go_enter func171,ntmps171;go_wp2_with (first
  |(go_at_call_of 172 (Value.int .i64 p.id);go_must (refine sF p.id V er HV.o_ _ _ ?_);intro va vc w1 bQ aw;have nr:=bT N0.o_ aw;obtain ⟨fC,fD,fE,fF,fG,fH,fI,fJ,fK,fL⟩:=c5 nr;have N1:=ab nr;have aI:=br cF aw;have fh:=bN (gF:=w.heap.size) bQ (by simp);clear nr N0 aw bQ)
  |(go_at_call 189;go_must (refine i_ p.id 2 HK.o_ _ _ ?_);intro w2 ah;have nr:=bT N1.o_ ah;clear fC fD fE fF fG fH fI fJ fK fL;obtain ⟨jb,jd,jU,jV,jW,jX,jY,jZ,j0,j1⟩:=c5 nr;have N2:=ab nr;have bn:=br aI ah;have tJ:=aK fh ah;clear nr N1 ah fh))
 have c0:w2.drew.cell? ⟨w,0,none⟩=some (.int .i64 p.id):=jb;have c1:w2.drew.cell? ⟨w,1,none⟩=some (.int .i64 p.num):=jd;go_region_held3 (fun x=>x.cell? ⟨w,0,none⟩=some (.int .i64 p.id)∧x.cell? ⟨w,1,none⟩=some (.int .i64 p.num))
  (first|exact ⟨c0,c1⟩|exact ⟨cell_later an c0,cell_later an c1⟩|exact ⟨cell_later ak (cell_later an c0),cell_later ak (cell_later an c1)⟩|go_keep)
  (first
   |(go_at_call 189;refine i_ p.id 2 HK.o_ _ _ ?_;intro w3 an)
   |(go_at_call 56;refine wi X pZ.o_ 2 P gM.o_ _ _ ?_;intro pa pc w4 bZ ak))
 all_goals
  exact OH
theorem aeL(d:Value)(p:Pr)(hk:aO p.id=3)(J:List UInt8)(hJ:bV p=J)(w:World)(h:PC w d p)(hT:di w)(R:Ending→World→Prop)
 (hR:∀ad c w',w'.ownsRow w 5 1 (.slice ad J.length c) J.length (bv J)→Below w w w'→R (.returned (.slice ad J.length c)) w'):
 Calls prog 171 #[.agg (bz p d)] w R:=by
 have HR:=ab hR;have HK:=ab hk;have HP:=ab h;have HT:=ab hT;obtain ⟨V,er,hV⟩:∃V er,dG p.id=(V,er):=⟨_,_,rfl⟩
 have HV:=ab hV;have cE:=Ba p;rw [lW,hV] at hJ;rw [lW,hV] at cE;rw [hJ] at cE;simp only at hJ;have lY:=ab cE;have N0:Hid ((w.alloc (Obj.cells (bz p d) 147)).heap[w.heap.size]? =some (Obj.cells (bz p d) 147)):=ab (heap_alloc_new w _);have cF:=(Below.refl w w).alloc (Nat.le_refl _) (Obj.cells (bz p d) 147);clear hR h hV cE hT;obtain ⟨X,hX⟩:=ai (u64 p.num);have CS:IntKind.u64.wrap p.num=(X:Int):=by rw [←hX,IntKind.wrap_u64];unfold u64;omega
 have pY:X<18446744073709551616:=by rw [←hX];unfold u64;omega
 have pZ:=ab pY;obtain ⟨P,hP⟩:=ai (dE X 4);obtain ⟨Q,hQ⟩:∃Q:List UInt8,Q= []:=⟨_,rfl⟩
 have jC:ff p=P:=by unfold ff;rw [hk,hX];exact hP
 rw [jC] at hJ;have pk:Hid ([V,P,Q].flatten=J):=ab (by rw [flat3,hQ,List.append_nil];exact hJ);have gM:=ab hP;have HQ:=ab hQ;have uS:∀w,(Op.shift .shl .i64 1 .i64 (IntKind.i64.wrap 2)).run prog w= .ok (.int .i64 4) w:=fun _=>by kernel_rfl
 clear pY hP hX jC hJ hk hQ;go_enter func171,ntmps171;go_wp2_with (first
  |(go_at_call_of 172 (Value.int .i64 p.id);go_must (refine sF p.id V er HV.o_ _ _ ?_);intro va vc w1 bQ aw;have nr:=bT N0.o_ aw;obtain ⟨fC,fD,fE,fF,fG,fH,fI,fJ,fK,fL⟩:=c5 nr;have N1:=ab nr;have aI:=br cF aw;have fh:=bN (gF:=w.heap.size) bQ (by simp);clear nr N0 aw bQ)
  |(go_at_call 189;go_must (refine i_ p.id 3 HK.o_ _ _ ?_);intro w2 ah;have nr:=bT N1.o_ ah;clear fC fD fE fF fG fH fI fJ fK fL;obtain ⟨jb,jd,jU,jV,jW,jX,jY,jZ,j0,j1⟩:=c5 nr;have N2:=ab nr;have bn:=br aI ah;have tJ:=aK fh ah;clear nr N1 ah fh))
 have c0:w2.drew.cell? ⟨w,0,none⟩=some (.int .i64 p.id):=jb;have c1:w2.drew.cell? ⟨w,1,none⟩=some (.int .i64 p.num):=jd;go_region_held3 (fun x=>x.cell? ⟨w,0,none⟩=some (.int .i64 p.id)∧x.cell? ⟨w,1,none⟩=some (.int .i64 p.num))
  (first|exact ⟨c0,c1⟩|exact ⟨cell_later an c0,cell_later an c1⟩|exact ⟨cell_later ak (cell_later an c0),cell_later ak (cell_later an c1)⟩|go_keep)
  (first
   |(go_at_call 189;refine i_ p.id 3 HK.o_ _ _ ?_;intro w3 an)
   |(go_at_call 56;refine wi X pZ.o_ 4 P gM.o_ _ _ ?_;intro pa pc w4 bZ ak))
 all_goals
  exact OH
theorem OI{P:Prop}(h:P:=by
 intro eC c9 w9 cI cx;go_wp2;exact HR.o_ _ _ _ (bN cI (by have:=eT.size;simp;omega)) (aD (eT.alloc eT.size _) cx (by have:=eT.size;simp;omega))):P:=h
theorem aeM(d:Value)(p:Pr)(hk:aO p.id=4)(J:List UInt8)(hJ:bV p=J)(w:World)(h:PC w d p)(hT:di w)(R:Ending→World→Prop)
 (hR:∀ad c w',w'.ownsRow w 5 1 (.slice ad J.length c) J.length (bv J)→Below w w w'→R (.returned (.slice ad J.length c)) w'):
 Calls prog 171 #[.agg (bz p d)] w R:=by
 have HR:=ab hR;have HK:=ab hk;have HP:=ab h;have HT:=ab hT;obtain ⟨V,er,hV⟩:∃V er,dG p.id=(V,er):=⟨_,_,rfl⟩
 have HV:=ab hV;have cE:=Ba p;rw [lW,hV] at hJ;rw [lW,hV] at cE;rw [hJ] at cE;simp only at hJ;have lY:=ab cE;have N0:Hid ((w.alloc (Obj.cells (bz p d) 147)).heap[w.heap.size]? =some (Obj.cells (bz p d) 147)):=ab (heap_alloc_new w _);have cF:=(Below.refl w w).alloc (Nat.le_refl _) (Obj.cells (bz p d) 147);clear hR h hV cE hT;obtain ⟨P,e2,hP⟩:∃P e2,dG p.num=(P,e2):=⟨_,_,rfl⟩
 obtain ⟨Q,hQ⟩:∃Q:List UInt8,Q= []:=⟨_,rfl⟩
 have jC:ff p=P:=by unfold ff;rw [hk,hP];rfl
 rw [jC] at hJ;have pk:Hid ([V,P,Q].flatten=J):=ab (by rw [flat3,hQ,List.append_nil];exact hJ);have gM:=ab hP;have HQ:=ab hQ;clear hP jC hJ hk hQ;go_enter func171,ntmps171;go_wp2_with (first
  |(go_at_call 189;go_must (refine i_ p.id 4 HK.o_ _ _ ?_);intro w2 ah;have nr:=bT N1.o_ ah;clear fC fD fE fF fG fH fI fJ fK fL;obtain ⟨jb,jd,jU,jV,jW,jX,jY,jZ,j0,j1⟩:=c5 nr;have N2:=ab nr;have bn:=br aI ah;have tJ:=aK fh ah;clear nr N1 ah fh)
  |(have _:=N2.o_;go_at_call 172;go_must (refine sF p.num P e2 gM.o_ _ _ ?_);intro pa pc w4 bZ ak;have eT:=br bn ak;have zB:=aK tJ ak;have rJ:Bs w4 (.slice none 0 0) Q:=(by rw [HQ.o_];exact Cw _);have hB:=EM (e:=22) (eD zB).2 (eD bZ).2 rJ;clear jb jd jU jV jW jX jY jZ j0 j1 ak N2)
  |(go_at_call_of 172 (Value.int .i64 p.id);go_must (refine sF p.id V er HV.o_ _ _ ?_);intro va vc w1 bQ aw;have nr:=bT N0.o_ aw;obtain ⟨fC,fD,fE,fF,fG,fH,fI,fJ,fK,fL⟩:=c5 nr;have N1:=ab nr;have aI:=br cF aw;have fh:=bN (gF:=w.heap.size) bQ (by simp);clear nr N0 aw bQ)
  |(go_at_call 55;go_must (refine m_ _ [V,P,Q] J pk.o_ _ hB (by have:=lY.o_;omega) _ ?_)))
 exact OI
theorem aeN(d:Value)(p:Pr)(hk:aO p.id=5)(J:List UInt8)(hJ:bV p=J)(w:World)(h:PC w d p)(hT:di w)(R:Ending→World→Prop)
 (hR:∀ad c w',w'.ownsRow w 5 1 (.slice ad J.length c) J.length (bv J)→Below w w w'→R (.returned (.slice ad J.length c)) w'):
 Calls prog 171 #[.agg (bz p d)] w R:=by
 have HR:=ab hR;have HK:=ab hk;have HP:=ab h;have HT:=ab hT;obtain ⟨V,er,hV⟩:∃V er,dG p.id=(V,er):=⟨_,_,rfl⟩
 have HV:=ab hV;have cE:=Ba p;rw [lW,hV] at hJ;rw [lW,hV] at cE;rw [hJ] at cE;simp only at hJ;have lY:=ab cE;have N0:Hid ((w.alloc (Obj.cells (bz p d) 147)).heap[w.heap.size]? =some (Obj.cells (bz p d) 147)):=ab (heap_alloc_new w _);have cF:=(Below.refl w w).alloc (Nat.le_refl _) (Obj.cells (bz p d) 147);clear hR h hV cE hT;obtain ⟨P,e2,hP⟩:∃P e2,b5 p.text=(P,e2):=⟨_,_,rfl⟩
 obtain ⟨Q,hQ⟩:∃Q:List UInt8,Q= []:=⟨_,rfl⟩
 have jC:ff p=P:=by unfold ff;rw [hk,hP];rfl
 rw [jC] at hJ;have pk:Hid ([V,P,Q].flatten=J):=ab (by rw [flat3,hQ,List.append_nil];exact hJ);have gM:=ab hP;have HQ:=ab hQ;clear hP jC hJ hk hQ;go_enter func171,ntmps171;go_wp2_with (first
  |(go_at_call_of 172 (Value.int .i64 p.id);go_must (refine sF p.id V er HV.o_ _ _ ?_);intro va vc w1 bQ aw;have nr:=bT N0.o_ aw;obtain ⟨fC,fD,fE,fF,fG,fH,fI,fJ,fK,fL⟩:=c5 nr;have N1:=ab nr;have aI:=br cF aw;have fh:=bN (gF:=w.heap.size) bQ (by simp);clear nr N0 aw bQ)
  |(go_at_call 189;go_must (refine i_ p.id 5 HK.o_ _ _ ?_);intro w2 ah;have nr:=bT N1.o_ ah;clear fC fD fE fF fG fH fI fJ fK fL;obtain ⟨jb,jd,jU,jV,jW,jX,jY,jZ,j0,j1⟩:=c5 nr;have N2:=ab nr;have bn:=br aI ah;have tJ:=aK fh ah;clear nr N1 ah fh)
  |(go_at_call 54;go_must (refine A0 p.text P e2 gM.o_ _ (by have:=HP.o_.lt;omega) (HT.o_.below bn) _ ?_);intro pa pc w4 bZ ak;have eT:=br bn ak;have zB:=aK tJ ak;have rJ:Bs w4 (.slice none 0 0) Q:=(by rw [HQ.o_];exact Cw _);have hB:=EM (e:=22) (eD zB).2 (eD bZ).2 rJ;clear jb jd jU jV jW jX jY jZ j0 j1 ak N2)
  |(go_at_call 55;go_must (refine m_ _ [V,P,Q] J pk.o_ _ hB (by have:=lY.o_;omega) _ ?_)))
 exact OI
theorem aeO(d:Value)(p:Pr)(hk:aO p.id=6)(J:List UInt8)(hJ:bV p=J)(w:World)(h:PC w d p)(hT:di w)(R:Ending→World→Prop)
 (hR:∀ad c w',w'.ownsRow w 5 1 (.slice ad J.length c) J.length (bv J)→Below w w w'→R (.returned (.slice ad J.length c)) w'):
 Calls prog 171 #[.agg (bz p d)] w R:=by
 have HR:=ab hR;have HK:=ab hk;have HP:=ab h;have HT:=ab hT;obtain ⟨V,er,hV⟩:∃V er,dG p.id=(V,er):=⟨_,_,rfl⟩
 have HV:=ab hV;have cE:=Ba p;rw [lW,hV] at hJ;rw [lW,hV] at cE;rw [hJ] at cE;simp only at hJ;have lY:=ab cE;have N0:Hid ((w.alloc (Obj.cells (bz p d) 147)).heap[w.heap.size]? =some (Obj.cells (bz p d) 147)):=ab (heap_alloc_new w _);have cF:=(Below.refl w w).alloc (Nat.le_refl _) (Obj.cells (bz p d) 147);clear hR h hV cE hT;obtain ⟨P,e2,hP⟩:∃P e2,cS p.data=(P,e2):=⟨_,_,rfl⟩
 obtain ⟨Q,hQ⟩:∃Q:List UInt8,Q= []:=⟨_,rfl⟩
 have jC:ff p=P:=by unfold ff;rw [hk,hP];rfl
 rw [jC] at hJ;have pk:Hid ([V,P,Q].flatten=J):=ab (by rw [flat3,hQ,List.append_nil];exact hJ);have gM:=ab hP;have HQ:=ab hQ;clear hP jC hJ hk hQ;go_enter func171,ntmps171;go_wp2_with (first
  |(go_at_call_of 172 (Value.int .i64 p.id);go_must (refine sF p.id V er HV.o_ _ _ ?_);intro va vc w1 bQ aw;have nr:=bT N0.o_ aw;obtain ⟨fC,fD,fE,fF,fG,fH,fI,fJ,fK,fL⟩:=c5 nr;have N1:=ab nr;have aI:=br cF aw;have fh:=bN (gF:=w.heap.size) bQ (by simp);clear nr N0 aw bQ)
  |(go_at_call 189;go_must (refine i_ p.id 6 HK.o_ _ _ ?_);intro w2 ah;have nr:=bT N1.o_ ah;clear fC fD fE fF fG fH fI fJ fK fL;obtain ⟨jb,jd,jU,jV,jW,jX,jY,jZ,j0,j1⟩:=c5 nr;have N2:=ab nr;have bn:=br aI ah;have tJ:=aK fh ah;clear nr N1 ah fh)
  |(go_at_call 118;go_must (refine F8 _ p.data P e2 gM.o_ _ (HP.o_.hd.below bn) _ ?_);intro pa pc w4 bZ ak;have eT:=br bn ak;have zB:=aK tJ ak;have rJ:Bs w4 (.slice none 0 0) Q:=(by rw [HQ.o_];exact Cw _);have hB:=EM (e:=22) (eD zB).2 (eD bZ).2 rJ;clear jb jd jU jV jW jX jY jZ j0 j1 ak N2)
  |(go_at_call 55;go_must (refine m_ _ [V,P,Q] J pk.o_ _ hB (by have:=lY.o_;omega) _ ?_)))
 exact OI
theorem aeP(d:Value)(p:Pr)(hk:aO p.id=7)(J:List UInt8)(hJ:bV p=J)(w:World)(h:PC w d p)(hT:di w)(R:Ending→World→Prop)
 (hR:∀ad c w',w'.ownsRow w 5 1 (.slice ad J.length c) J.length (bv J)→Below w w w'→R (.returned (.slice ad J.length c)) w'):
 Calls prog 171 #[.agg (bz p d)] w R:=by
 have HR:=ab hR;have HK:=ab hk;have HP:=ab h;have HT:=ab hT;obtain ⟨V,er,hV⟩:∃V er,dG p.id=(V,er):=⟨_,_,rfl⟩
 have HV:=ab hV;have cE:=Ba p;rw [lW,hV] at hJ;rw [lW,hV] at cE;rw [hJ] at cE;simp only at hJ;have lY:=ab cE;have N0:Hid ((w.alloc (Obj.cells (bz p d) 147)).heap[w.heap.size]? =some (Obj.cells (bz p d) 147)):=ab (heap_alloc_new w _);have cF:=(Below.refl w w).alloc (Nat.le_refl _) (Obj.cells (bz p d) 147);clear hR h hV cE hT;obtain ⟨P,e2,hP⟩:∃P e2,b5 p.text=(P,e2):=⟨_,_,rfl⟩
 obtain ⟨Q,e3,hQ⟩:∃Q e3,b5 p.pair=(Q,e3):=⟨_,_,rfl⟩
 have jC:ff p=P++Q:=by unfold ff;rw [hk,hP,hQ];rfl
 rw [jC] at hJ;have pk:Hid ([V,P,Q].flatten=J):=ab (by rw [flat3];exact hJ);have gM:=ab hP;have HQ:=ab hQ;clear hP jC hJ hk hQ;go_enter func171,ntmps171;go_wp2_with (first
  |(go_at_call_of 172 (Value.int .i64 p.id);go_must (refine sF p.id V er HV.o_ _ _ ?_);intro va vc w1 bQ aw;have nr:=bT N0.o_ aw;obtain ⟨fC,fD,fE,fF,fG,fH,fI,fJ,fK,fL⟩:=c5 nr;have N1:=ab nr;have aI:=br cF aw;have fh:=bN (gF:=w.heap.size) bQ (by simp);clear nr N0 aw bQ)
  |(go_at_call 189;go_must (refine i_ p.id 7 HK.o_ _ _ ?_);intro w2 ah;have nr:=bT N1.o_ ah;clear fC fD fE fF fG fH fI fJ fK fL;obtain ⟨jb,jd,jU,jV,jW,jX,jY,jZ,j0,j1⟩:=c5 nr;have N2:=ab nr;have bn:=br aI ah;have tJ:=aK fh ah;clear nr N1 ah fh)
  |(have n2:=N2.o_;go_at_call 54;go_must (refine A0 p.text P e2 gM.o_ _ (by have:=HP.o_.lt;omega) (HT.o_.below bn) _ ?_);intro pa pc w4 bZ ak;have eT:=br bn ak;have zB:=aK tJ ak;have nr:=bT n2 ak;clear jb jd jU jV jW jX jY jZ j0 j1 n2;obtain ⟨CF,CG,CH,CI,CJ,CK,CL,CM,CN,CO⟩:=c5 nr;clear ak N2 nr)
  |(go_at_call 54;go_must (refine A0 p.pair Q e3 HQ.o_ _ (by have:=HP.o_.lp;omega) (HT.o_.below eT) _ ?_);intro qa qc w6 dt bg;have dP:=br eT bg;have ym:=aK zB bg;have aeQ:=aK bZ bg;have hB:=EM (e:=22) (eD ym).2 (eD aeQ).2 (eD dt).2;clear CF CG CH CI CJ CK CL CM CN CO bg)
  |(go_at_call 55;go_must (refine m_ _ [V,P,Q] J pk.o_ _ hB (by have:=lY.o_;omega) _ ?_)))
 intro eC c9 w9 cI cx;go_wp2;exact HR.o_ _ _ _ (bN cI (by have:=dP.size;simp;omega)) (aD (dP.alloc dP.size _) cx (by have:=dP.size;simp;omega))
theorem aeR(d:Value)(p:Pr)(hk:aO p.id=0)(J:List UInt8)(hJ:bV p=J)(w:World)(h:PC w d p)(hT:di w)(R:Ending→World→Prop)
 (hR:∀ad c w',w'.ownsRow w 5 1 (.slice ad J.length c) J.length (bv J)→Below w w w'→R (.returned (.slice ad J.length c)) w'):
 Calls prog 171 #[.agg (bz p d)] w R:=by
 have HR:=ab hR;have HK:=ab hk;have HP:=ab h;have HT:=ab hT;obtain ⟨V,er,hV⟩:∃V er,dG p.id=(V,er):=⟨_,_,rfl⟩
 have HV:=ab hV;have cE:=Ba p;rw [lW,hV] at hJ;rw [lW,hV] at cE;rw [hJ] at cE;simp only at hJ;have lY:=ab cE;have N0:Hid ((w.alloc (Obj.cells (bz p d) 147)).heap[w.heap.size]? =some (Obj.cells (bz p d) 147)):=ab (heap_alloc_new w _);have cF:=(Below.refl w w).alloc (Nat.le_refl _) (Obj.cells (bz p d) 147);clear hR h hV cE hT;obtain ⟨P,hP⟩:∃P:List UInt8,P= []:=⟨_,rfl⟩
 obtain ⟨Q,hQ⟩:∃Q:List UInt8,Q= []:=⟨_,rfl⟩
 have jC:ff p=P:=by unfold ff;rw [hk,hP];rfl
 rw [jC] at hJ;have pk:Hid ([V,P,Q].flatten=J):=ab (by rw [flat3,hQ,List.append_nil];exact hJ);have gM:=ab hP;have HQ:=ab hQ;clear hP jC hJ hk hQ;go_enter func171,ntmps171;go_wp2_with (first
  |(go_at_call_of 172 (Value.int .i64 p.id);go_must (refine sF p.id V er HV.o_ _ _ ?_);intro va vc w1 bQ aw;have nr:=bT N0.o_ aw;obtain ⟨fC,fD,fE,fF,fG,fH,fI,fJ,fK,fL⟩:=c5 nr;have N1:=ab nr;have aI:=br cF aw;have fh:=bN (gF:=w.heap.size) bQ (by simp);clear nr N0 aw bQ)
  |(go_at_call 189;go_must (refine i_ p.id 0 HK.o_ _ _ ?_);intro w2 ah;have bn:=br aI ah;have tJ:=aK fh ah;have rJ:Bs w2 (.slice none 0 0) Q:=(by rw [HQ.o_];exact Cw _);have aeS:Bs w2 (.slice none 0 0) P:=(by rw [gM.o_];exact Cw _);have hB:=EM (e:=22) (eD tJ).2 aeS rJ;clear fC fD fE fF fG fH fI fJ fK fL N1 ah fh)
  |(go_at_call 55;go_must (refine m_ _ [V,P,Q] J pk.o_ _ hB (by have:=lY.o_;omega) _ ?_)))
 intro eC c9 w9 cI cx;go_wp2;exact HR.o_ _ _ _ (bN cI (by have:=bn.size;simp;omega)) (aD (bn.alloc bn.size _) cx (by have:=bn.size;simp;omega))
theorem aeT(d:Value)(p:Pr)(J:List UInt8)(hJ:bV p=J)(w:World)(h:PC w d p)(hT:di w)(R:Ending→World→Prop)
 (hR:∀ad c w',w'.ownsRow w 5 1 (.slice ad J.length c) J.length (bv J)→Below w w w'→R (.returned (.slice ad J.length c)) w'):
 Calls prog 171 #[.agg (bz p d)] w R:=by
 rcases Gd p.id with hk|hk|hk|hk|hk|hk|hk|hk
 ·exact aeR d p hk J hJ w h hT R hR
 ·exact aeJ d p hk J hJ w h hT R hR
 ·exact aeK d p hk J hJ w h hT R hR
 ·exact aeL d p hk J hJ w h hT R hR
 ·exact aeM d p hk J hJ w h hT R hR
 ·exact aeN d p hk J hJ w h hT R hR
 ·exact aeO d p hk J hJ w h hT R hR
 ·exact aeP d p hk J hJ w h hT R hR
theorem Vy{P:Prop}(h:P:=by
 rw [←EN];refine Nat.le_trans ?_ yo.o_
 conv=>rhs;rw [←List.take_append_drop (k+1) l,List.flatMap_append,List.length_append]
 omega):P:=h
theorem Ki{a b:List UInt8}(h1:Bs w v1 a)(h2:Bs w v2 b):vT (w.alloc (.cells #[v1,v2] e)) (.slice (some ⟨w,0,none⟩) 2 2) [a,b]:=
 AB [v1,v2] [a,b] rfl (by simp) fun i hi=>by
  match i,hi with
  |0,_=>exact ⟨v1,rfl,h1⟩
  |1,_=>exact ⟨v2,rfl,h2⟩
theorem aeU(a b:List UInt8): [a,b].flatten=a++b:=by simp
theorem aeV(wh:Int)(v:Value)(l:List Pr)(x:List UInt8)(c:Nat)(h:eP wh l=(x,c))(eV:(l.flatMap bV).length≤90000000)(w:World)(hv:Ps w v l)(hT:di w)(R:Ending→World→Prop)
 (hR:∀ad cc w',w'.ownsRow w 5 1 (.slice ad x.length cc) x.length (bv x)→Below w w w'→R (.returned (.tuple #[.slice ad x.length cc,.int .i64 c])) w'):
 Calls prog 155 #[.int .i64 wh,v] w R:=by
 have HR:=ab hR;have HV:=ab hv;have HT:=ab hT;have HH:=ab h;have yo:=ab eV;obtain ⟨va,vc,rfl,_,Ge,_⟩:=_root_.id hv;clear hR hv hT h eV;go_enter func155,ntmps155;go_wp2;go_loopg [6,8,16] l.length (fun gn L _ i wr=>∃(k:Nat)(B:List UInt8)(ba:Option Addr)(bc:Nat),k≤l.length∧gn=l.length - k∧i= .int .i64 k∧L= .slice ba B.length bc∧Hid ((l.take k).flatMap bV=B)∧B.length≤90000000∧Hid (wr.ownsRow w 5 1 (.slice ba B.length bc) B.length (bv B))∧Below w w wr)
 case atStart=>exact ⟨0,[],none,0,Nat.zero_le _,by omega,rfl,rfl,ab rfl,by simp,ab (World.ownsRow_nil _ _ _ _),Below.refl _ _⟩
 case round=>
  obtain ⟨k,B,ba,bc,hk,rfl,rfl,rfl,HB,zC,Bb,hb⟩:=hrel;obtain ⟨wo,rfl⟩:∃y,y=wr:=⟨_,rfl⟩
  by_cases ao:k<l.length
  ·have bd:(k:Int)<(l.length:Int):=by omega
   obtain ⟨Cy,Cz,ee,_,_,_,v4⟩:=HV.o_.below hb;simp only [Value.slice.injEq] at ee;obtain ⟨rfl,-,rfl⟩:=ee;obtain ⟨vb,vo,rfl,v5⟩:=v4 (by omega);obtain ⟨d0,⟨p0,p1,p2,p3,p4⟩,gC⟩:=v5 k ao;have oh:Hid (l.take (k+1)=l.take k++ [l[k]]):=ab (List.take_succ_eq_append_getElem ao);obtain ⟨y,hy⟩:=ai (l[k]);rw [hy] at p0 p1 p2 p3 gC oh;obtain ⟨d1,d2,d3,rfl⟩:∃a n c,d0= .slice a n c:=by obtain ⟨a,c,h,_⟩:=gC.hd;exact ⟨_,_,_,h⟩
   have ob:Below wo wo (wo.alloc (Obj.cells #[.int .i64 y.id,.int .i64 y.num,.string (str y.text),.string (str y.pair),.slice d1 d2 d3] 147)):=(Below.refl _ _).alloc (Nat.le_refl _) _;have tH:=ab (gC.below ob);have zx:=ab (br hb ob);have aeW:=ab (aK Bb.o_ ob);obtain ⟨J,hJ⟩:=ai (bV y);have HJ:=ab hJ;have EN:(l.take (k+1)).flatMap bV=B++J:=by rw [oh.o_,List.flatMap_append,HB.o_,List.flatMap_singleton,hJ]
   have Gw:(B++J).length≤90000000:=by
    exact Vy
   rw [List.length_append] at Gw;have bP:=ab EN;clear v4 v5 hy gC ob hJ oh EN;go_wp2_with (first
    |(go_at_call 171;go_must (refine aeT _ y J HJ.o_ _ tH.o_ (HT.o_.below zx.o_) _ ?_);intro ja jc w5 ed aC;have bp:=aD zx.o_ aC zx.o_.size;have oi:=aK aeW.o_ aC;obtain ⟨aqm,aqn,Vz,VA,_,_,VB⟩:=(eD ed).2;simp only [Value.slice.injEq] at Vz;obtain ⟨rfl,-,rfl⟩:=Vz)
    |(at_builtin;go_must (refine j9 (by rfl) (.tmp 20) (.tmp 22) 22 (by rfl) w 5 (.int .u8 0) 1 1 underlying22 Tryz.cJ rfl (by decide) _ _ _ _ rfl oi _ _ _ _ rfl VA (eX _) VB (by unfold maxLen;omega) (by omega) (by have:=bp.size;omega) ?_)))
   intro fM c6 w6 dt bI;have bg:=bC bp bI (by have:=bp.size;omega) oi;rw [←oK] at dt;have ym:w6.ownsRow w 5 1 (.slice fM (B++J).length c6) (B++J).length (bv (B++J)):=by rw [List.length_append];exact dt
   have jM:=ab ym;clear ym dt bI oi VA VB ed aC bp;go_wp2;go_roundg (l.length - (k+1))
   case measure=>omega
   case rel=>exact ⟨k+1,B++J,fM,c6,by omega,rfl,by go_num,by rw [List.length_append],bP,by rw [List.length_append];exact Gw,jM,bg⟩
  ·have bd:¬(k:Int)<(l.length:Int):=by omega
   have wJ:l.flatMap bV=B:=by have:=HB.o_;rwa [List.take_of_length_le (by omega)] at this
   have hh:=HH.o_;unfold eP at hh;rw [wJ] at hh;obtain ⟨V,er,hV⟩:∃V er,dG (B.length:Int)=(V,er):=⟨_,_,rfl⟩
   rw [hV] at hh;simp only at hh;have CT:=ab hV;have EK:V.length≤4:=by have:=Gv (B.length:Int);rw [hV] at this;exact this
   clear HH wJ hV;by_cases CU:er≠0
   ·rw [if_pos CU] at hh;simp only [Prod.mk.injEq] at hh;obtain ⟨rfl,rfl⟩:=hh;go_wp2_with (go_at_call 172;go_must (refine sF _ V er CT.o_ _ _ ?_);intro Gx Gy w5 ed aC;have bp:=aD hb aC hb.size)
    try go_ret2
    exact HR.o_ none 0 _ (World.ownsRow_nil _ _ _ _) bp
   ·have aeX:er=0:=by omega
    subst aeX;rw [if_neg CU] at hh;obtain ⟨Y,hY⟩:=ai (V++B);have je:Y.length≤90000004:=by rw [←hY,List.length_append];omega
    have pk:Hid ([V,B].flatten=Y):=ab (by rw [aeU];exact hY);rw [hY] at hh;obtain ⟨m,used,rc,bG⟩:∃m used rc,nk wh Y=(m,used,rc):=⟨_,_,_,rfl⟩
    rw [bG] at hh;have uT:=ab bG;have Bc:=ab hh;clear hh hY CU;by_cases Gz:rc=0
    ·subst Gz;have fU:Hid (∀p∈m,PB p):=ab (by
      obtain ⟨_,_,_,_,_,_,_,_,_,h8,_⟩:=Ou bG;exact fun p hp=>by
       obtain ⟨g1,_,_,g4,g5⟩:=h8 p hp;exact g1.pb g4 g5)
     clear bG;by_cases lZ:used=(Y.length:Int)
     ·subst lZ;obtain ⟨sr,mB⟩:=ai (B9 m l);have yp:=ab mB;cases sr with
      |true=>
       have jy:m=l:=of_decide_eq_true mB;have hh:=Bc.o_;rw [if_pos (by rw [jy])] at hh;simp only [Prod.mk.injEq] at hh;obtain ⟨rfl,rfl⟩:=hh;clear mB Bc jy;go_wp2_with (first
        |(go_at_call 172;go_must (refine sF _ V 0 CT.o_ _ _ ?_);intro Gx Gy w5 ed aC;have bp:=aD hb aC hb.size;have oi:=aK Bb.o_ aC;have hB:=Ki (e:=22) (eD ed).2 (eD oi).2)
        |(go_at_call 55;go_must (refine m_ _ [V,B] Y pk.o_ _ hB (by omega) _ ?_);intro ya yc w6 dt bg;have dP:=aD (bp.alloc bp.size _) bg (by have:=bp.size;simp;omega);have jM:=ab (bN (gF:=w.heap.size) dt (by have:=bp.size;simp;omega));clear dt bg hB oi ed aC)
        |(go_at_call 173;go_must (refine Gm wh _ Y m _ 0 uT.o_ (by omega) _ (eD jM.o_).2 (HT.o_.below dP) _ ?_);intro ma mc w7 zD aZ;have fN:=aD dP aZ dP.size;have mx:=ab (aK jM.o_ aZ);have OJ:=ab (zD.ps fU.o_);clear zD aZ)
        |(go_at_call 169;go_must (refine OF _ _ m l true yp.o_ _ OJ.o_ (HV.o_.below fN) _ ?_);intro w8 gh;have oR:=aD fN gh fN.size;have kD:=ab (aK mx.o_ gh)))
       try go_ret2
       exact HR.o_ _ _ _ kD.o_ oR
      |false=>
       have jy:m≠l:=of_decide_eq_false mB;have hh:=Bc.o_;rw [if_neg (by simp [jy])] at hh;simp only [Prod.mk.injEq] at hh;obtain ⟨rfl,rfl⟩:=hh;clear mB Bc jy;go_wp2_with (first
        |(go_at_call 172;go_must (refine sF _ V 0 CT.o_ _ _ ?_);intro Gx Gy w5 ed aC;have bp:=aD hb aC hb.size;have oi:=aK Bb.o_ aC;have hB:=Ki (e:=22) (eD ed).2 (eD oi).2)
        |(go_at_call 55;go_must (refine m_ _ [V,B] Y pk.o_ _ hB (by omega) _ ?_);intro ya yc w6 dt bg;have dP:=aD (bp.alloc bp.size _) bg (by have:=bp.size;simp;omega);have jM:=ab (bN (gF:=w.heap.size) dt (by have:=bp.size;simp;omega));clear dt bg hB oi ed aC)
        |(go_at_call 173;go_must (refine Gm wh _ Y m _ 0 uT.o_ (by omega) _ (eD jM.o_).2 (HT.o_.below dP) _ ?_);intro ma mc w7 zD aZ;have fN:=aD dP aZ dP.size;have OJ:=ab (zD.ps fU.o_);clear zD aZ)
        |(go_at_call 169;go_must (refine OF _ _ m l false yp.o_ _ OJ.o_ (HV.o_.below fN) _ ?_);intro w8 gh;have oR:=aD fN gh fN.size))
       try go_ret2
       exact HR.o_ none 0 _ (World.ownsRow_nil _ _ _ _) oR
     ·have bh:(used != (Y.length:Int))=true:=by simp [lZ]
      have hh:=Bc.o_;rw [if_neg (by simp [lZ])] at hh;simp only [Prod.mk.injEq] at hh;obtain ⟨rfl,rfl⟩:=hh;clear Bc;go_wp2_with (first
       |(go_at_call 172;go_must (refine sF _ V 0 CT.o_ _ _ ?_);intro Gx Gy w5 ed aC;have bp:=aD hb aC hb.size;have oi:=aK Bb.o_ aC;have hB:=Ki (e:=22) (eD ed).2 (eD oi).2)
       |(go_at_call 55;go_must (refine m_ _ [V,B] Y pk.o_ _ hB (by omega) _ ?_);intro ya yc w6 dt bg;have dP:=aD (bp.alloc bp.size _) bg (by have:=bp.size;simp;omega);have jM:=ab (bN (gF:=w.heap.size) dt (by have:=bp.size;simp;omega));clear dt bg hB oi ed aC)
       |(go_at_call 173;go_must (refine Gm wh _ Y m used 0 uT.o_ (by omega) _ (eD jM.o_).2 (HT.o_.below dP) _ ?_);intro ma mc w7 zD aZ;have fN:=aD dP aZ dP.size;clear zD aZ))
      try go_ret2
      exact HR.o_ none 0 _ (World.ownsRow_nil _ _ _ _) fN
    ·have aeY:¬(rc:Int)=0:=by omega
     have hh:=Bc.o_;rw [if_neg (by simp [Gz])] at hh;simp only [Prod.mk.injEq] at hh;obtain ⟨rfl,rfl⟩:=hh;clear Bc bG;go_wp2_with (first
      |(go_at_call 172;go_must (refine sF _ V 0 CT.o_ _ _ ?_);intro Gx Gy w5 ed aC;have bp:=aD hb aC hb.size;have oi:=aK Bb.o_ aC;have hB:=Ki (e:=22) (eD ed).2 (eD oi).2)
      |(go_at_call 55;go_must (refine m_ _ [V,B] Y pk.o_ _ hB (by omega) _ ?_);intro ya yc w6 dt bg;have dP:=aD (bp.alloc bp.size _) bg (by have:=bp.size;simp;omega);have jM:=ab (bN (gF:=w.heap.size) dt (by have:=bp.size;simp;omega));clear dt bg hB oi ed aC)
      |(go_at_call 173;go_must (refine Gm wh _ Y m used rc uT.o_ (by omega) _ (eD jM.o_).2 (HT.o_.below dP) _ ?_);intro ma mc w7 zD aZ;have fN:=aD dP aZ dP.size;clear zD aZ))
     try go_ret2
     exact HR.o_ none 0 _ (World.ownsRow_nil _ _ _ _) fN
theorem VC{P:Prop}(h:P:=by
 have h3:=aD h2 bU.o_ h2.size;have h4:=aD h3 b6.o_ h3.size;exact aD h4 eb.o_ h4.size):P:=h
variable{l0 l1 l2:List UInt8}{B N g n t:Nat}{fr:Nat×Nat}{ad:Option Addr}{a d f h v0 v4:Value}
def eK(x:Nt):List UInt8:=(b5 x.aJ).1++(cS x.az).1++ [b8 (kr x.al x.aE)]++(b5 x.src).1++aR (bj x.aN) 8++aR (bj x.number) 8++ [b8 x.origin,b8 x.aQ]++(eP 3 x.props).1
theorem VD{v5 v6 v7:Value}{l3 l4 l5 l6 l7:List UInt8}(hg:g=w.heap.size)(h0:Bs w v0 l0)(h1:Bs w v1 l1)(h2:Bs w v2 l2)(h3:Bs w v3 l3)(h4:Bs w v4 l4)(h5:Bs w v5 l5)(h6:Bs w v6 l6)(h7:Bs w v7 l7):vT (w.alloc (.cells #[v0,v1,v2,v3,v4,v5,v6,v7] e)) (.slice (some ⟨g,0,none⟩) 8 8) [l0,l1,l2,l3,l4,l5,l6,l7]:=by
 subst hg;exact AB [v0,v1,v2,v3,v4,v5,v6,v7] [l0,l1,l2,l3,l4,l5,l6,l7] rfl (by simp) fun i hi=>by
  match i,hi with
  |0,_=>exact ⟨v0,rfl,h0⟩
  |1,_=>exact ⟨v1,rfl,h1⟩
  |2,_=>exact ⟨v2,rfl,h2⟩
  |3,_=>exact ⟨v3,rfl,h3⟩
  |4,_=>exact ⟨v4,rfl,h4⟩
  |5,_=>exact ⟨v5,rfl,h5⟩
  |6,_=>exact ⟨v6,rfl,h6⟩
  |7,_=>exact ⟨v7,rfl,h7⟩
theorem cp{c:Nat}{l:List UInt8}(h:w.ownsRow B e 1 (.slice ad n c) n (bv l)):Bs w (.slice ad n c) l:=by
 obtain rfl:n=l.length:=by
  have:=h.1
  simpa using this.symm
 exact (eD h).2
structure NR(y:World)(t p f x:Value)(T P F X:List UInt8):Prop where
 t:Bs y t T
 p:Bs y p P
 f:Bs y f F
 x:Bs y x X
theorem NR.below{y y':World}{t p x:Value}{T P F X:List UInt8}(h:NR y t p f x T P F X)(hb:Below y y y'):NR y' t p f x T P F X:=⟨h.t.below hb,h.p.below hb,h.f.below hb,h.x.below hb⟩
theorem CV(w:World)(o:Obj):w.heap.size+1=(w.alloc o).heap.size:=by simp
theorem yr{x:World}{b c e g i j:Value}(k:x.heap[N]? =some (.cells #[a,b,c,d,e,f,g,h,i,j] t fr)):x.cell? ⟨N,2,none⟩=some c∧x.cell? ⟨N,3,none⟩=some d∧x.cell? ⟨N,5,none⟩=some f∧x.cell? ⟨N,7,none⟩=some h∧x.cell? ⟨N,8,none⟩=some i∧x.cell? ⟨N,9,none⟩=some j:=
 ⟨af x _ 2 _ _ _ k,af x _ 3 _ _ _ k,af x _ 5 _ _ _ k,af x _ 7 _ _ _ k,af x _ 8 _ _ _ k,af x _ 9 _ _ _ k⟩
theorem VE(x:Nt)(pv qv:Value)(w:World)(hp:Bs w pv x.az)(hq:Ps w qv x.props)(hB:AJ x)(oM:(x.props.flatMap bV).length≤90000000)(hT:di w)(Y:List UInt8)(hY:eK x=Y)(je:Y.length≤140737488355328)(R:Ending→World→Prop)
 (hR:∀ad c w',w'.ownsRow w 5 1 (.slice ad Y.length c) Y.length (bv Y)→Below w w w'→R (.returned (.slice ad Y.length c)) w'):
 Calls prog 119 #[.agg (xT x pv qv)] w R:=by
 obtain ⟨aJ,az,al,aE,src,aN,props,origin,number,aQ⟩:=x;have aqo:=hB.t;have Kj:=hB.s;simp only at*;have HR:=ab hR;have AK:=ab oM;obtain ⟨pa,pc,rfl⟩:∃a c,pv= .slice a az.length c:=by obtain ⟨a,c,e,_⟩:=hp;exact ⟨a,c,e⟩
 obtain ⟨qa,qc,rfl⟩:∃a c,qv= .slice a props.length c:=by obtain ⟨a,c,e,_⟩:=hq;exact ⟨a,c,e⟩
 obtain ⟨⟨TT,te⟩,dN⟩:∃q,b5 aJ=q:=⟨_,rfl⟩
 obtain ⟨⟨PP,pe⟩,sL⟩:∃q,cS az=q:=⟨_,rfl⟩
 obtain ⟨⟨FF,fe⟩,kI⟩:∃q,b5 src=q:=⟨_,rfl⟩
 obtain ⟨⟨XX,xe⟩,Bd⟩:∃q,eP 3 props=q:=⟨_,rfl⟩
 obtain ⟨E1,pq⟩:=ai (aR (bj aN) 8);obtain ⟨E2,pw⟩:=ai (aR (bj number) 8);have HJ:Hid ([TT,PP,[b8 (kr al aE)],FF,E1,E2,[b8 origin,b8 aQ],XX].flatten=Y):=by
  show _=_;rw [←hY];unfold eK;simp only [dN,sL,kI,Bd,pq,pw];simp
 obtain ⟨O0,m9⟩:=ai ((Obj.cells (gV aJ pa az pc al aE src aN qa props qc origin number aQ) 34));have aL:Below w w (w.alloc O0):=(Below.refl _ _).alloc (Nat.le_refl _) _;have n0:=heap_alloc_new w O0;have l8:=ab (hT.below aL);have EO:=ab (hp.below aL);have zr:=ab (hq.below aL);have bu:=ab aL;have N0:=ab n0;rw [←m9] at l8 EO zr bu N0;have EP:=ab dN;have Kk:=ab sL;have tK:=ab kI;have CW:=ab Bd;have wK:=ab pq;have uU:=ab pw;have mC:=ab je;have fV:Hid True:=trivial;clear hR oM hp hq hT hY je dN sL kI Bd pq pw m9 aL n0 hB;go_enter func119,ntmps119;go_wp2_with (first
  |(have hq:=fV;go_at_call 54;go_must (refine A0 aJ TT te EP.o_ _ (by omega) l8.o_ _ ?_);intro ta tc w2 gO ah;have ix:=ab (cp gO);have aY:=ab ah;have N2:=ab (aA N0.o_ ah);have c1:=af w2 _ 1 _ _ _ N2.o_;clear hq fV gO ah)
  |(go_at_call 118;go_must (refine F8 _ az PP pe Kk.o_ _ (EO.o_.below aY.o_) _ ?_);intro da dc w3 bD an;have eH:=ab (cp bD);have bU:=ab an;have N3:=ab (aA N2.o_ an);have c4:=af w3 _ 4 _ _ _ N3.o_;clear bD an)
  |(go_at_call 54;go_must (refine A0 src FF fe tK.o_ _ (by omega) ((l8.o_.below aY.o_).below bU.o_) _ ?_);intro fa fc w4 eh ak;have px:=ab (cp eh);have b6:=ab ak;have N4:=ab (aA N3.o_ ak);have c6:=af w4 _ 6 _ _ _ N4.o_;clear eh ak)
  |(go_at_call 155;go_must (refine aeV 3 _ props XX xe CW.o_ AK.o_ _ (((zr.o_.below aY.o_).below bU.o_).below b6.o_) (((l8.o_.below aY.o_).below bU.o_).below b6.o_) _ ?_);intro xa xc w5 ez aC;have iy:=ab (cp ez);have eb:=ab aC;have N5:=ab (aA N4.o_ aC);clear ez aC))
 have Kl:Hid (Below w w w5):=by
  have h2:=aD bu.o_ aY.o_ bu.o_.size;exact VC
 have zk:Below w5 w5 w5.drew:=(Below.refl _ _).drew;have fb:NR w5.drew (.slice ta TT.length tc) (.slice da PP.length dc) (.slice fa FF.length fc) (.slice xa XX.length xc) TT PP FF XX:=NR.below ⟨((ix.o_.below bU.o_).below b6.o_).below eb.o_,(eH.o_.below b6.o_).below eb.o_,px.o_.below eb.o_,iy.o_⟩ zk;have dh:=aA N5.o_ zk;have yt:Below w5.drew.heap.size w5.drew (w5.alloc (Obj.cells #[Value.int .u8 (IntKind.u8.wrap origin),Value.int .u8 (IntKind.u8.wrap aQ)] 5)).drew:=(Below.refl w5.drew.heap.size w5.drew).alloc (Nat.le_refl _) _;have VF:=zk;have m7:True∧Bs (w5.alloc (Obj.cells #[Value.int .u8 (IntKind.u8.wrap origin),Value.int .u8 (IntKind.u8.wrap aQ)] 5)).drew (.slice (some ⟨w5,0,none⟩) 2 2) [b8 origin,b8 aQ]:=And.intro trivial (cp (l:= [b8 origin,b8 aQ]) (J3 (B:=0) w5.drew origin aQ (Nat.zero_le _)));have gJ:Hid True:=trivial;clear c1 c4 c6;go_region_held3 (fun x=>x.cell? ⟨w,2,none⟩=some (.int .i64 al)∧x.cell? ⟨w,3,none⟩=some (.bool aE)∧x.cell? ⟨w,5,none⟩=some (.int .i64 aN)∧x.cell? ⟨w,7,none⟩=some (.int .i64 origin)∧x.cell? ⟨w,8,none⟩=some (.int .i64 number)∧x.cell? ⟨w,9,none⟩=some (.int .i64 aQ))
  (first|with_reducible exact yr dh|with_reducible exact yr (aA dh yt)|with_reducible exact yr iA|with_reducible exact yr (aA iA CX)|with_reducible exact yr jD|with_reducible exact yr (aA jD Be)|with_reducible exact yr ig|with_reducible exact yr (aA ig wL)|with_reducible exact yr iL|go_keep)
  (first
   |(go_at_call 120;refine UH al aE _ _ ?_;intro ma mc w6 p7 bg;have gP:=cp p7;have iA:=(by first|with_reducible exact aA dh bg|with_reducible exact aA (aA dh yt) bg:w6.heap[w.heap.size]? =some (Obj.cells (gV aJ pa az pc al aE src aN qa props qc origin number aQ) 34));have CY:=(by first|with_reducible exact fb.below bg|with_reducible exact (fb.below yt).below bg:NR w6 (.slice ta TT.length tc) (.slice da PP.length dc) (.slice fa FF.length fc) (.slice xa XX.length xc) TT PP FF XX);have Km:=(by first|with_reducible exact dw VF bg|with_reducible exact dw (dw VF yt) bg:Below w5 w5 w6);have CX:Below w6 w6 (w6.alloc (Obj.cells #[Value.int .u8 (IntKind.u8.wrap origin),Value.int .u8 (IntKind.u8.wrap aQ)] 5)):=(Below.refl _ _).alloc (Nat.le_refl _) _;(first|(have Kn:=m7.2.below bg;have VG:=And.intro trivial Kn;clear Kn)|(have VG:=And.intro trivial (hlk0.2.below bg))|(have Kn:=And.intro trivial (cp (l:= [b8 origin,b8 aQ]) (J3 (B:=0) w6 origin aQ (Nat.zero_le _))))))
   |(have hq:=gJ;go_at_call 156;refine UI aN E1 wK.o_ _ _ ?_;intro aeZ ae0 w7 e_ aZ;replace gP:=(by first|with_reducible exact gP.below aZ|with_reducible exact (gP.below CX).below aZ:Bs w7 (.slice ma 1 mc) [b8 (kr al aE)]);have CZ:=cp e_;have jD:=(by first|with_reducible exact aA iA aZ|with_reducible exact aA (aA iA CX) aZ:w7.heap[w.heap.size]? =some (Obj.cells (gV aJ pa az pc al aE src aN qa props qc origin number aQ) 34));have uV:=(by first|with_reducible exact CY.below aZ|with_reducible exact (CY.below CX).below aZ:NR w7 (.slice ta TT.length tc) (.slice da PP.length dc) (.slice fa FF.length fc) (.slice xa XX.length xc) TT PP FF XX);have Ko:=(by first|with_reducible exact dw Km aZ|with_reducible exact dw (dw Km CX) aZ:Below w5 w5 w7);have Be:Below w7 w7 (w7.alloc (Obj.cells #[Value.int .u8 (IntKind.u8.wrap origin),Value.int .u8 (IntKind.u8.wrap aQ)] 5)):=(Below.refl _ _).alloc (Nat.le_refl _) _;(first|(have rK:=Kn.2.below aZ;have VH:=And.intro trivial rK;clear rK)|(have VH:=And.intro trivial (VG.2.below aZ))|(have rK:=And.intro trivial (cp (l:= [b8 origin,b8 aQ]) (J3 (B:=0) w7 origin aQ (Nat.zero_le _)))));clear hq gJ)
   |(go_at_call 156;refine UI number E2 uU.o_ _ _ ?_;intro OK OM w8 yu gh;replace gP:=(by first|with_reducible exact gP.below gh|with_reducible exact (gP.below Be).below gh:Bs w8 (.slice ma 1 mc) [b8 (kr al aE)]);replace CZ:=(by first|with_reducible exact CZ.below gh|with_reducible exact (CZ.below Be).below gh:Bs w8 (.slice aeZ E1.length ae0) E1);have GA:=cp yu;have ig:=(by first|with_reducible exact aA jD gh|with_reducible exact aA (aA jD Be) gh:w8.heap[w.heap.size]? =some (Obj.cells (gV aJ pa az pc al aE src aN qa props qc origin number aQ) 34));have l9:=(by first|with_reducible exact uV.below gh|with_reducible exact (uV.below Be).below gh:NR w8 (.slice ta TT.length tc) (.slice da PP.length dc) (.slice fa FF.length fc) (.slice xa XX.length xc) TT PP FF XX);have Kp:=(by first|with_reducible exact dw Ko gh|with_reducible exact dw (dw Ko Be) gh:Below w5 w5 w8);have wL:Below w8 w8 (w8.alloc (Obj.cells #[Value.int .u8 (IntKind.u8.wrap origin),Value.int .u8 (IntKind.u8.wrap aQ)] 5)):=(Below.refl _ _).alloc (Nat.le_refl _) _;(first|(have py:=rK.2.below gh;have Kq:=And.intro trivial py;clear py)|(have Kq:=And.intro trivial (VH.2.below gh))|(have py:=And.intro trivial (cp (l:= [b8 origin,b8 aQ]) (J3 (B:=0) w8 origin aQ (Nat.zero_le _)))));have p8:=ab (CV w8 (Obj.cells #[Value.int .u8 (IntKind.u8.wrap origin),Value.int .u8 (IntKind.u8.wrap aQ)] 5)))
   |(have hq:=Kq;go_at_call 55;have kf:=ab (fun o=>dw Kp ((Below.refl w8 w8).alloc (Nat.le_refl _) o):∀o:Obj,Below w5 w5 (w8.alloc o));have nw:=VD (e:=22) (g:=w8.heap.size) rfl l9.t l9.p gP l9.f CZ GA Kq.2 l9.x;refine m_ _ _ Y HJ.o_ _ nw mC.o_ _ ?_;clear nw;intro ja jc w9 Bf cx;have zC:=dw (kf.o_ _) cx;have VI:=ab (fun o=>Nat.le_trans Kl.o_.size (kf.o_ o).size);have ki:=ab zC;have rL:=ab Bf;have iL:=aA N5.o_ zC;clear iA jD ig CY uV l9 Km Ko Kp CX Be wL gP CZ GA zC Bf cx p8 hq Kq kf)
   |(have hq:=py;go_at_call 55;have kf:=ab (fun o=>dw (dw Kp wL) ((Below.refl (w8.alloc (Obj.cells #[Value.int .u8 (IntKind.u8.wrap origin),Value.int .u8 (IntKind.u8.wrap aQ)] 5)).heap.size (w8.alloc (Obj.cells #[Value.int .u8 (IntKind.u8.wrap origin),Value.int .u8 (IntKind.u8.wrap aQ)] 5))).alloc (Nat.le_refl _) o):∀o:Obj,Below w5 w5 ((w8.alloc (Obj.cells #[Value.int .u8 (IntKind.u8.wrap origin),Value.int .u8 (IntKind.u8.wrap aQ)] 5)).alloc o));have nw:=VD (e:=22) p8.o_ (l9.t.below wL) (l9.p.below wL) (gP.below wL) (l9.f.below wL) (CZ.below wL) (GA.below wL) py.2 (l9.x.below wL);refine m_ _ _ Y HJ.o_ _ nw mC.o_ _ ?_;clear nw;intro ja jc w9 Bf cx;have zC:=dw (kf.o_ _) cx;have VI:=ab (fun o=>Nat.le_trans Kl.o_.size (kf.o_ o).size);have ki:=ab zC;have rL:=ab Bf;have iL:=aA N5.o_ zC;clear iA jD ig CY uV l9 Km Ko Kp CX Be wL gP CZ GA zC Bf cx p8 hq py kf))
 all_goals
  go_wp2_with fail;exact HR.o_ _ _ _ (bN rL.o_ (VI.o_ _)) (aD Kl.o_ ki.o_ Kl.o_.size)
def jf(x:Im):List UInt8:=(cS (eK x.note)).1++ [b8 (kr x.al x.aM)]++ [b8 (x.ids.length:Int)]++x.ids.flatMap (fun i=>aR (bj i) 4)++(b5 x.share).1
theorem VJ(hg:g=w.heap.size)(h0:Bs w v0 l0)(h1:Bs w v1 l1)(h2:Bs w v2 l2):vT (w.alloc (.cells #[v0,v1,v2] e)) (.slice (some ⟨g,0,none⟩) 3 3) [l0,l1,l2]:=by
 subst hg;exact AB [v0,v1,v2] [l0,l1,l2] rfl (by simp) fun i hi=>by
  match i,hi with
  |0,_=>exact ⟨v0,rfl,h0⟩
  |1,_=>exact ⟨v1,rfl,h1⟩
  |2,_=>exact ⟨v2,rfl,h2⟩
theorem GC{x:World}{b c e g i j k l m n:Value}(q:x.heap[N]? =some (.cells #[a,b,c,d,e,f,g,h,i,j,k,l,m,n] t fr)):x.cell? ⟨N,10,none⟩=some k∧x.cell? ⟨N,11,none⟩=some l∧x.cell? ⟨N,12,none⟩=some m:=
 ⟨af x _ 10 _ _ _ q,af x _ 11 _ _ _ q,af x _ 12 _ _ _ q⟩
theorem VK{P:Prop}(h:P:=by
 rw [←tK.o_]
 conv=>rhs;rw [←List.take_append_drop j ids,List.flatMap_append,List.length_append]
 omega):P:=h
theorem VL{P:Prop}(h:P:=by
 have h2:=aD bu.o_ aY.o_ bu.o_.size;have h3:=aD h2 bU.o_ h2.size;exact aD h3 b6.o_ h3.size):P:=h
theorem ae1(w:World)(R:Ending→World→Prop)(hR:R (.returned (.int .i64 0)) w):
 Calls prog 175 #[.int .u64 0] w R:=by
 go_enter func175,ntmps175;go_wp2_with (go_at_call 202;go_in);refine Eq.mp (congrArg (fun v=>R (Ending.returned v) w) ?_) hR
 kernel_rfl
theorem ae2(w:World)(R:Ending→World→Prop)(hR:R (.returned (.tuple #[])) w):
 Calls prog 157 #[.slice none 0 0] w R:=by
 go_enter func157,ntmps157;go_wp2_with (first
  |(go_at_call 175;go_must (refine ae1 _ _ ?_))
  |(go_at_call 174;go_in)
  |(go_at_call 192;go_in))
 refine wp_loop_rounds 1 ?_;rw [rounds_succ];go_wp2_with (first
  |(go_at_call 192;go_in))
 refine wp_loop_rounds 1 ?_;rw [rounds_succ];go_wp2_with fail;go_end0;go_wp2_with fail;refine bodyPost_ret (results_none rfl _ _ _) rfl ?_;simp only [];go_wp2_with fail;go_end0;exact hR
open List (eraseIdx_eq_take_drop_succ)
open Nat (add_zero)
variable{i k:Nat}
theorem VM{P:Program}(w:World)(t e ty:TypeId)(z:Value)(cs:Array Value)(ht:P.underlying t=some (.slice e))(hv:∀w,(zeroValue e).run P w= .ok z w)(hz:z.cells=cs)(h1:∀v∈cs.toList,v.oneCell'=true)(b o c:Nat)
 (hc:∀j,j<cs.size→(w.cell? ⟨b,o+j,none⟩).isSome=true) (hf:∀j,j<cs.size→w.frozen? ⟨b,o+j,none⟩=false):
 (Builtin.clear_ #[t] ty #[.slice (some ⟨b,o,none⟩) 1 c]).run P w= .ok (.tuple #[]) (w.setCells b o cs.toList):=by
 have Kr:(Builtin.zeroCells z.cells 1).toList=cs.toList:=by
  rw [hz];apply List.ext_getElem
  ·simp [Builtin.zeroCells]
  ·intro i h1 h2;have h3:i<cs.size:=by simpa using h2
   simp [Builtin.zeroCells,Nat.mod_eq_of_lt h3,h3]
 have b7:=run_storeCells_cells (P:=P) b o cs.toList 0 w (by simpa using hc) (by simpa using hf) h1;simp only [add_zero] at b7;simp [Builtin.clear_,run_underlying ht,hv,Kr,b7]
theorem ae3(w:World):(zeroValue 51).run prog w= .ok (Value.agg lT) w:=by kernel_rfl
theorem ae4:∀v∈(lT:Array Value).toList,v.oneCell'=true:=by
 intro v hv;simp only [List.mem_cons,List.not_mem_nil,or_false] at hv;rcases hv with rfl|rfl|rfl|rfl|rfl|rfl|rfl|rfl|rfl|rfl|rfl|rfl|rfl|rfl|rfl|rfl<;>rfl
theorem VN{c:Nat}{ps:List (V3×Fl)}(hi:i+(k - i)=k)(hk:k+1=ps.length)(h:w.ownsRow B 51 16 (.slice (some ⟨g,0,none⟩) ps.length c) ps.length (ps.flatMap bH))(zs:List Value):
 ((w.setCells g (0+i*16) ((ps.drop (i+1)).flatMap bH)).setCells g (k*16) zs).ownsRow B 51 16 (.slice (some ⟨g,0,none⟩) k c) k ((ps.eraseIdx i).flatMap bH):=by
 have aX:(ps.eraseIdx i).length=k:=by rw [List.length_eraseIdx_of_lt (by omega)];omega
 refine ⟨by rw [eS 16 bH iY,aX],?_⟩;rcases h.2 with ⟨hv,h0⟩|⟨g',cap,cur,hv,hB,hg,h1,h2,h3,h4⟩
 ·cases hv
 ·simp only [Value.slice.injEq,Option.some.injEq,Addr.mk.injEq] at hv;obtain ⟨⟨rfl,-,-⟩,-,rfl⟩:=hv;obtain ⟨jq,k1,k2,k3⟩:=nT g 51 ((ps.drop (i+1)).flatMap bH) (0+i*16) w cur hg;obtain ⟨jg,m1,m2,m3⟩:=nT g 51 zs (k*16) _ jq k1;refine .inr ⟨g,c,jg,rfl,hB,m1,by omega,h2,by rw [m2,k2];exact h3,?_⟩;have jT:((ps.drop (i+1)).flatMap bH).length=(k - i) *16:=by
   rw [eS 16 bH iY,List.length_drop]
   congr 1
   omega
  have dm:ps.length*16≤cur.size:=by
   have:=congrArg List.length h4;rw [eS 16 bH iY,List.length_take] at this;simp at this
   omega
  have bJ:∀j,j<ps.length*16→cur[j]? =(ps.flatMap bH)[j]?:=fun j hj=>by
   rw [←h4,List.getElem?_take,if_pos hj];simp
  apply List.ext_getElem?;intro j;rw [List.getElem?_take];by_cases hj:j<k*16
  ·rw [if_pos hj];have e0:jg.toList[j]? =jg[j]?:=by simp
   rw [e0,m3,if_neg (by omega),k3,jT,eraseIdx_eq_take_drop_succ,List.flatMap_append];have iB:((ps.take i).flatMap bH).length=i*16:=by
    rw [eS 16 bH iY,List.length_take]
    congr 1
    omega
   by_cases kj:j<i*16
   ·rw [if_neg (by omega),bJ j (by omega),List.getElem?_append_left (by rw [iB];exact kj),←vW 16 bH iY,List.getElem?_take,if_pos kj]
   ·rw [if_pos (by omega),List.getElem?_append_right (by rw [iB];omega),iB]
    congr 1
    omega
  ·rw [if_neg hj,List.getElem?_eq_none (by rw [eS 16 bH iY,aX];omega)]
theorem ae5(g c:Nat)(ps:List (V3×Fl))(i:Nat)(hi:i<ps.length)(hl:ps.length≤100000)(w:World)(sM:∀u∈ps.flatMap bH,u.oneCell'=true)(hf:w.ownsRow 0 51 16 (.slice (some ⟨g,0,none⟩) ps.length c) ps.length (ps.flatMap bH))(R:Ending→World→Prop)
 (hR:∀w',w'.ownsRow 0 51 16 (.slice (some ⟨g,0,none⟩) (ps.length - 1) c) (ps.length - 1) ((ps.eraseIdx i).flatMap bH)→w.grownBy w' (some g)→R (.returned (.slice (some ⟨g,0,none⟩) (ps.length - 1) c)) w'):
 Calls prog 107 #[.slice (some ⟨g,0,none⟩) ps.length c,.int .i64 i,.int .i64 ((i:Int)+1)] w R:=by
 have HR:=ab hR;have HF:=ab hf;clear hR hf;obtain ⟨k,hk⟩:∃k,k+1=ps.length:=⟨ps.length - 1,by omega⟩
 obtain ⟨n,hn⟩:=ai ps.length;have iC:n - 1=k:=by omega
 have iV:=(bf.gW HF.o_).cap;obtain ⟨i0,bS,_,cm,_⟩:=info_parts x_;have uW:i<n:=by omega
 have sD:Below w w w.drew:=(Below.refl w w).drew;have aq:=(bf.gW HF.o_)
 obtain ⟨ax,df,bW,km⟩:=bf.from (k:=i+1) aq underlying48 bS cm (by omega);rw [AQ 16 bH iY] at bW;have OO:∃A,ax=some A:=by
  cases ax with
  |some A=>exact ⟨A,rfl⟩
  |none=>cases km
 obtain ⟨A,rfl⟩:=OO;have bG:=(bW.below sD).rd;have lC:∀j u,((ps.drop (i+1)).flatMap bH)[j]? =some u→w.drew.cell? (A.add j)=some u:=fun j u hj=>by
  have pT:j<(ps.length - (i+1)) *16:=by
   rw [←bG.1];exact (List.getElem?_eq_some_iff.1 hj).1
  exact Us
 have lg:=bG.1;have GD:∀j,j<((ps.drop (i+1)).flatMap bH).length→(w.drew.cell? ⟨g,0+i*16+j,none⟩).isSome=true∧w.drew.frozen? ⟨g,0+i*16+j,none⟩=false:=fun j hj=>by
  rw [lg] at hj;have h0:=aK HF.o_ sD;refine ⟨?_,h0.frozenAt _⟩;rw [h0.cellAt _ (by omega),List.getElem?_eq_getElem (by rw [eS 16 bH iY];omega)]
  rfl
 have GF:∀u∈(ps.drop (i+1)).flatMap bH,u.oneCell'=true:=fun u hu=>sM u (by
  obtain ⟨p,hp,hu⟩:=List.mem_flatMap.1 hu;exact List.mem_flatMap.2 ⟨p,List.mem_of_mem_drop hp,hu⟩)
 obtain ⟨W1,lU⟩:=ai (w.drew.setCells g (0+i*16) ((ps.drop (i+1)).flatMap bH));have cw:=VN (i:=i) (k:=k) (by omega) hk (aK HF.o_ sD) (lT:Array Value).toList;have GG:=VN (i:=i) (k:=k) (by omega) hk (aK HF.o_ sD) [];have zm:w.grownBy (W1.setCells g (k*16) (lT:Array Value).toList) (some g):=by
  exact Uu
 rw [lU] at cw GG;have j3:∀ty,(Builtin.clear_ #[48] ty #[.slice (some ⟨g,k*16,none⟩) 1 (c - k)]).run prog W1= .ok (.tuple #[]) (W1.setCells g (k*16) (lT:Array Value).toList):=fun ty=>by
  obtain ⟨jq,k1,k2,_⟩:∃jq:Array Value,W1.heap[g]? =some (.cells jq 51 (0,0))∧n*16≤jq.size∧True:=by
   rcases (aK HF.o_ sD).2 with ⟨hv,h0⟩|⟨g',cap,cur,hv,hB,hg,h1,h2,h3,h4⟩
   ·cases hv
   ·simp only [Value.slice.injEq,Option.some.injEq,Addr.mk.injEq] at hv;obtain ⟨⟨rfl,-,-⟩,-,rfl⟩:=hv;obtain ⟨jq,k1,k2,k3⟩:=nT g 51 ((ps.drop (i+1)).flatMap bH) (0+i*16) w.drew cur hg;rw [lU] at k1;have:=congrArg List.length h4;rw [eS 16 bH iY,List.length_take] at this;simp at this;exact ⟨jq,k1,by omega,trivial⟩
  refine VM W1 _ 51 ty (Value.agg lT) _ underlying48 ae3 rfl ae4 g (k*16) _ (fun j hj=> ?_) (fun j hj=> ?_)
  ·have hj:j<16:=hj;rw [af W1 g _ jq _ _ k1,Array.getElem?_eq_getElem (by omega)]
   rfl
  ·exact frozen_of_row W1 g _ jq _ k1
 have he:prog.elem 48=51:=by simp [Program.elem,underlying48]
 have bt:∀w',(Instr.slice 48 (.slice (some ⟨g,0,none⟩) k c) (some (.int .i64 (k:Int))) (some (.int .i64 (n:Int))) none).run prog w'= .ok (.slice (some ⟨g,k*16,none⟩) 1 (c - k)) w':=fun w'=>by
  rw [run_slice_lh (P:=prog) w' _ _ k c (by rw [he];exact underlying48) .i64 .i64 k n (by omega) (by omega) (by omega),he];exact Ut
 replace df:∀w',(Instr.slice 48 (.slice (some ⟨g,0,none⟩) n c) (some (.int .i64 ((i:Int)+1))) none none).run prog w'= .ok (.slice (some A) (n - (i+1)) (c - (i+1))) w':=fun w'=>by
  have:=df w';rw [hn] at this;exact this
 rw [hn] at iV aq bW km⊢;rw [hn,iC] at HR;have kH:=ab cw;have OQ:=ab zm;have HW:=ab lU;have HN:=ab lC;have wM:=ab GD;have zE:=ab GF;have uX:Hid (((ps.drop (i+1)).flatMap bH).length=(n - (i+1)) *16):=by show _=_;rw [←hn];exact lg
 have tC:i+(n - (i+1))=k:=by omega
 have OR:=ab tC;have OS:i≤c:=by omega
 have ae6:i+1≤c:=by omega
 have zi:((i:Int)==(i:Int)+1)=false:=by simp;omega
 clear cw GG zm lU lC GD GF lg tC bG aq bW km sM HF sD hn hk;go_enter func107,ntmps107;go_wp2_with fail;go_region_law (refine step_append_room rfl (.tmp 22) (.tmp 25) 48 rfl 51 i0 16 underlying48 bS cm g 0 i c (by rfl) A (n - (i+1)) (c - (i+1)) _ (by rfl) uX.o_ HN.o_ zE.o_ (by omega) wM.o_ ?_;rw [HW.o_,OR.o_]);go_wp2;exact HR.o_ _ kH.o_ OQ.o_
end Go.Proofs.YtgimbocoamnkjaaGreatDoor
