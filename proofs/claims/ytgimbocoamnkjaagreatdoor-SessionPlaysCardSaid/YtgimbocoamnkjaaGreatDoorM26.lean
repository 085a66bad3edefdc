/- A part of the proof of SessionPlays, printed small; no conditions of its own. -/
import Derived.Test.YtgimbocoamnkjaaGreatDoorM25
import Derived.Test.YtgimbocoamnkjaaGreatDoorM22
set_option maxRecDepth 100000
set_option maxHeartbeats 16000000
namespace Go.Proofs.YtgimbocoamnkjaaGreatDoor
open _root_.Go.Proofs.Tryz
open Bool (and_eq_true)
open List (all_eq_true)
open Nat (zero_add)
variable{ok:Bool}{wh:Int}{l:List Pr}{B K e n:Nat}{ad:Option Addr}{p:Pr}{w:World}
open Go.RowKit
theorem Ap{P:Prop}(h:P:=by
 go_wp2
 try go_ret2
 exact HR.o_ _ _ _ (bN bZ (by simp)) (br cb.o_ (br (Below.refl _ _).drew ak))):P:=h
theorem ang(d:Value)(p:Pr)(hk:aO p.id=1)(J:List UInt8)(ok:Bool)(hJ:iQ p=(J,ok))(w:World)(h:PC w d p)(R:Ending→World→Prop)
 (hR:∀ad c w',w'.ownsRow w 5 1 (.slice ad J.length c) J.length (bv J)→Below w w w'→R (.returned (.tuple #[.slice ad J.length c,.bool ok])) w'):
 Calls prog 203 #[.agg (bz p d)] w R:=by
 have HR:=ab hR;have HK:=ab hk;have HP:=ab h;have N0:Hid ((w.alloc (Obj.cells (bz p d) 147)).heap[w.heap.size]? =some (Obj.cells (bz p d) 147)):=ab (heap_alloc_new w _);have cb:Hid (Below w w (w.alloc (Obj.cells (bz p d) 147))):=ab ((Below.refl _ _).alloc (Nat.le_refl _) _);clear hR h;obtain ⟨X,hX⟩:=ai (u64 p.num);have CS:IntKind.u64.wrap p.num=(X:Int):=by rw [←hX,IntKind.wrap_u64];unfold u64;omega
 have pY:X<18446744073709551616:=by rw [←hX];unfold u64;omega
 have pZ:=ab pY;have e0:iQ p=(dE X 1,decide (0≤p.num∧p.num<256)):=by unfold iQ;simp only [hk,hX,Nat.reduceEqDiff,if_true,if_false]
 rw [e0] at hJ;simp only [Prod.mk.injEq] at hJ;obtain ⟨hP,gX⟩:=hJ;have gM:=ab hP;have kP:=ab gX;clear pY hP hX e0 hk gX;have c1:(w.alloc (Obj.cells (bz p d) 147)).drew.cell? ⟨w,1,none⟩=some (.int .i64 p.num):=af _ w 1 _ _ _ N0.o_;by_cases h0:0≤p.num
 ·by_cases h1:p.num<256
  ·obtain rfl:ok=true:=by rw [←kP.o_];exact decide_eq_true ⟨h0,h1⟩
   have iU:decide (p.num<256)=true:=decide_eq_true h1;go_enter func203,ntmps203;go_wp2_with (go_at_call 206;go_must (refine kx p.id 1 HK.o_ _ _ ?_));go_region_held3 (fun x=>x.cell? ⟨w,1,none⟩=some (.int .i64 p.num)) (first|exact c1|exact cell_later ak c1|go_keep) (first|(go_at_call 64;refine wj X pZ.o_ 1 J gM.o_ _ _ ?_;intro pa pc w4 bZ ak))
   all_goals
    exact Ap
  ·obtain rfl:ok=false:=by rw [←kP.o_];exact decide_eq_false fun h=>h1 h.2
   have iU:decide (p.num<256)=false:=decide_eq_false h1;go_enter func203,ntmps203;go_wp2_with (go_at_call 206;go_must (refine kx p.id 1 HK.o_ _ _ ?_));go_region_held3 (fun x=>x.cell? ⟨w,1,none⟩=some (.int .i64 p.num)) (first|exact c1|exact cell_later ak c1|go_keep) (first|(go_at_call 64;refine wj X pZ.o_ 1 J gM.o_ _ _ ?_;intro pa pc w4 bZ ak))
   all_goals
    exact Ap
 ·obtain rfl:ok=false:=by rw [←kP.o_];exact decide_eq_false fun h=>h0 h.1
  have zh:decide (0≤p.num)=false:=decide_eq_false h0;go_enter func203,ntmps203;go_wp2_with (go_at_call 206;go_must (refine kx p.id 1 HK.o_ _ _ ?_))
  first|(go_region_with (first|(go_at_call 64;refine wj X pZ.o_ 1 J gM.o_ _ _ ?_;intro pa pc w4 bZ ak;have c4:=cell_later ak c1)))|fail
  all_goals
   exact Ap
theorem anh(d:Value)(p:Pr)(hk:aO p.id=2)(J:List UInt8)(ok:Bool)(hJ:iQ p=(J,ok))(w:World)(h:PC w d p)(R:Ending→World→Prop)
 (hR:∀ad c w',w'.ownsRow w 5 1 (.slice ad J.length c) J.length (bv J)→Below w w w'→R (.returned (.tuple #[.slice ad J.length c,.bool ok])) w'):
 Calls prog 203 #[.agg (bz p d)] w R:=by
 have HR:=ab hR;have HK:=ab hk;have HP:=ab h;have N0:Hid ((w.alloc (Obj.cells (bz p d) 147)).heap[w.heap.size]? =some (Obj.cells (bz p d) 147)):=ab (heap_alloc_new w _);have cb:Hid (Below w w (w.alloc (Obj.cells (bz p d) 147))):=ab ((Below.refl _ _).alloc (Nat.le_refl _) _);clear hR h;obtain ⟨X,hX⟩:=ai (u64 p.num);have CS:IntKind.u64.wrap p.num=(X:Int):=by rw [←hX,IntKind.wrap_u64];unfold u64;omega
 have pY:X<18446744073709551616:=by rw [←hX];unfold u64;omega
 have pZ:=ab pY;have e0:iQ p=(dE X 2,decide (0≤p.num∧p.num<65536)):=by unfold iQ;simp only [hk,hX,Nat.reduceEqDiff,if_true,if_false]
 rw [e0] at hJ;simp only [Prod.mk.injEq] at hJ;obtain ⟨hP,gX⟩:=hJ;have gM:=ab hP;have kP:=ab gX;clear pY hP hX e0 hk gX;have c1:(w.alloc (Obj.cells (bz p d) 147)).drew.cell? ⟨w,1,none⟩=some (.int .i64 p.num):=af _ w 1 _ _ _ N0.o_;by_cases h0:0≤p.num
 ·by_cases h1:p.num<65536
  ·obtain rfl:ok=true:=by rw [←kP.o_];exact decide_eq_true ⟨h0,h1⟩
   have iU:decide (p.num<65536)=true:=decide_eq_true h1;go_enter func203,ntmps203;go_wp2_with (go_at_call 206;go_must (refine kx p.id 2 HK.o_ _ _ ?_));go_region_held3 (fun x=>x.cell? ⟨w,1,none⟩=some (.int .i64 p.num)) (first|exact c1|exact cell_later ak c1|go_keep) (first|(go_at_call 64;refine wj X pZ.o_ 2 J gM.o_ _ _ ?_;intro pa pc w4 bZ ak))
   all_goals
    exact Ap
  ·obtain rfl:ok=false:=by rw [←kP.o_];exact decide_eq_false fun h=>h1 h.2
   have iU:decide (p.num<65536)=false:=decide_eq_false h1;go_enter func203,ntmps203;go_wp2_with (go_at_call 206;go_must (refine kx p.id 2 HK.o_ _ _ ?_));go_region_held3 (fun x=>x.cell? ⟨w,1,none⟩=some (.int .i64 p.num)) (first|exact c1|exact cell_later ak c1|go_keep) (first|(go_at_call 64;refine wj X pZ.o_ 2 J gM.o_ _ _ ?_;intro pa pc w4 bZ ak))
   all_goals
    exact Ap
 ·obtain rfl:ok=false:=by rw [←kP.o_];exact decide_eq_false fun h=>h0 h.1
  have zh:decide (0≤p.num)=false:=decide_eq_false h0;go_enter func203,ntmps203;go_wp2_with (go_at_call 206;go_must (refine kx p.id 2 HK.o_ _ _ ?_))
  first|(go_region_with (first|(go_at_call 64;refine wj X pZ.o_ 2 J gM.o_ _ _ ?_;intro pa pc w4 bZ ak;have c4:=cell_later ak c1)))|fail
  all_goals
   exact Ap
theorem ani(d:Value)(p:Pr)(hk:aO p.id=3)(J:List UInt8)(ok:Bool)(hJ:iQ p=(J,ok))(w:World)(h:PC w d p)(R:Ending→World→Prop)
 (hR:∀ad c w',w'.ownsRow w 5 1 (.slice ad J.length c) J.length (bv J)→Below w w w'→R (.returned (.tuple #[.slice ad J.length c,.bool ok])) w'):
 Calls prog 203 #[.agg (bz p d)] w R:=by
 have HR:=ab hR;have HK:=ab hk;have HP:=ab h;have N0:Hid ((w.alloc (Obj.cells (bz p d) 147)).heap[w.heap.size]? =some (Obj.cells (bz p d) 147)):=ab (heap_alloc_new w _);have cb:Hid (Below w w (w.alloc (Obj.cells (bz p d) 147))):=ab ((Below.refl _ _).alloc (Nat.le_refl _) _);clear hR h;obtain ⟨X,hX⟩:=ai (u64 p.num);have CS:IntKind.u64.wrap p.num=(X:Int):=by rw [←hX,IntKind.wrap_u64];unfold u64;omega
 have pY:X<18446744073709551616:=by rw [←hX];unfold u64;omega
 have pZ:=ab pY;have e0:iQ p=(dE X 4,decide (0≤p.num∧p.num<4294967296)):=by unfold iQ;simp only [hk,hX,Nat.reduceEqDiff,if_true,if_false]
 rw [e0] at hJ;simp only [Prod.mk.injEq] at hJ;obtain ⟨hP,gX⟩:=hJ;have gM:=ab hP;have kP:=ab gX;clear pY hP hX e0 hk gX;have c1:(w.alloc (Obj.cells (bz p d) 147)).drew.cell? ⟨w,1,none⟩=some (.int .i64 p.num):=af _ w 1 _ _ _ N0.o_;by_cases h0:0≤p.num
 ·by_cases h1:p.num<4294967296
  ·obtain rfl:ok=true:=by rw [←kP.o_];exact decide_eq_true ⟨h0,h1⟩
   have iU:decide (p.num<4294967296)=true:=decide_eq_true h1;go_enter func203,ntmps203;go_wp2_with (go_at_call 206;go_must (refine kx p.id 3 HK.o_ _ _ ?_));go_region_held3 (fun x=>x.cell? ⟨w,1,none⟩=some (.int .i64 p.num)) (first|exact c1|exact cell_later ak c1|go_keep) (first|(go_at_call 64;refine wj X pZ.o_ 4 J gM.o_ _ _ ?_;intro pa pc w4 bZ ak))
   all_goals
    exact Ap
  ·obtain rfl:ok=false:=by rw [←kP.o_];exact decide_eq_false fun h=>h1 h.2
   have iU:decide (p.num<4294967296)=false:=decide_eq_false h1;go_enter func203,ntmps203;go_wp2_with (go_at_call 206;go_must (refine kx p.id 3 HK.o_ _ _ ?_));go_region_held3 (fun x=>x.cell? ⟨w,1,none⟩=some (.int .i64 p.num)) (first|exact c1|exact cell_later ak c1|go_keep) (first|(go_at_call 64;refine wj X pZ.o_ 4 J gM.o_ _ _ ?_;intro pa pc w4 bZ ak))
   all_goals
    exact Ap
 ·obtain rfl:ok=false:=by rw [←kP.o_];exact decide_eq_false fun h=>h0 h.1
  have zh:decide (0≤p.num)=false:=decide_eq_false h0;go_enter func203,ntmps203;go_wp2_with (go_at_call 206;go_must (refine kx p.id 3 HK.o_ _ _ ?_))
  first|(go_region_with (first|(go_at_call 64;refine wj X pZ.o_ 4 J gM.o_ _ _ ?_;intro pa pc w4 bZ ak;have c4:=cell_later ak c1)))|fail
  all_goals
   exact Ap
theorem anj(d:Value)(p:Pr)(hk:aO p.id=4)(J:List UInt8)(ok:Bool)(hJ:iQ p=(J,ok))(w:World)(h:PC w d p)(R:Ending→World→Prop)
 (hR:∀ad c w',w'.ownsRow w 5 1 (.slice ad J.length c) J.length (bv J)→Below w w w'→R (.returned (.tuple #[.slice ad J.length c,.bool ok])) w'):
 Calls prog 203 #[.agg (bz p d)] w R:=by
 have HR:=ab hR;have HK:=ab hk;have HP:=ab h;have N0:Hid ((w.alloc (Obj.cells (bz p d) 147)).heap[w.heap.size]? =some (Obj.cells (bz p d) 147)):=ab (heap_alloc_new w _);have cb:Hid (Below w w (w.alloc (Obj.cells (bz p d) 147))):=ab ((Below.refl _ _).alloc (Nat.le_refl _) _);clear hR h;obtain ⟨P,er,hP⟩:∃P er,dG p.num=(P,er):=⟨_,_,rfl⟩
 have e0:iQ p=(P,decide (er=0)):=by unfold iQ;simp only [hk,hP,Nat.reduceEqDiff,if_true,if_false]
 rw [e0] at hJ;simp only [Prod.mk.injEq] at hJ;obtain ⟨rfl,gX⟩:=hJ;obtain rfl:ok=(er==0):=by rw [←gX];by_cases h:er=0<;>simp [h]
 have gM:Hid (dG p.num=(P,er)):=ab hP;clear hP e0 hk gX;go_enter func203,ntmps203;go_wp2_with (first
  |(go_at_call 206;go_must (refine kx p.id 4 HK.o_ _ _ ?_))
  |(go_at_call 204;go_must (refine UP p.num P er gM.o_ _ _ ?_);intro pa pc w4 bZ ak))
 go_wp2
 try go_ret2
 exact HR.o_ _ _ _ (bN bZ (by simp)) (br cb.o_ ak)
theorem ank(d:Value)(p:Pr)(hk:aO p.id=5)(J:List UInt8)(ok:Bool)(hJ:iQ p=(J,ok))(w:World)(h:PC w d p)(R:Ending→World→Prop)
 (hR:∀ad c w',w'.ownsRow w 5 1 (.slice ad J.length c) J.length (bv J)→Below w w w'→R (.returned (.tuple #[.slice ad J.length c,.bool ok])) w'):
 Calls prog 203 #[.agg (bz p d)] w R:=by
 have HR:=ab hR;have HK:=ab hk;have HP:=ab h;have N0:Hid ((w.alloc (Obj.cells (bz p d) 147)).heap[w.heap.size]? =some (Obj.cells (bz p d) 147)):=ab (heap_alloc_new w _);have cb:Hid (Below w w (w.alloc (Obj.cells (bz p d) 147))):=ab ((Below.refl _ _).alloc (Nat.le_refl _) _);clear hR h;obtain ⟨P,er,hP⟩:∃P er,b5 p.text=(P,er):=⟨_,_,rfl⟩
 have e0:iQ p=(P,decide (er=0)):=by unfold iQ;simp only [hk,hP,Nat.reduceEqDiff,if_true,if_false]
 rw [e0] at hJ;simp only [Prod.mk.injEq] at hJ;obtain ⟨rfl,gX⟩:=hJ;obtain rfl:ok=(er==0):=by rw [←gX];by_cases h:er=0<;>simp [h]
 have gM:Hid (b5 p.text=(P,er)):=ab hP;clear hP e0 hk gX;go_enter func203,ntmps203;go_wp2_with (first
  |(go_at_call 206;go_must (refine kx p.id 5 HK.o_ _ _ ?_))
  |(go_at_call 63;go_must (refine yY p.text P er gM.o_ _ (by have:=HP.o_.lt;omega) _ ?_);intro pa pc w4 bZ ak))
 go_wp2
 try go_ret2
 exact HR.o_ _ _ _ (bN bZ (by simp)) (br cb.o_ ak)
theorem anl(d:Value)(p:Pr)(hk:aO p.id=6)(J:List UInt8)(ok:Bool)(hJ:iQ p=(J,ok))(w:World)(h:PC w d p)(R:Ending→World→Prop)
 (hR:∀ad c w',w'.ownsRow w 5 1 (.slice ad J.length c) J.length (bv J)→Below w w w'→R (.returned (.tuple #[.slice ad J.length c,.bool ok])) w'):
 Calls prog 203 #[.agg (bz p d)] w R:=by
 have HR:=ab hR;have HK:=ab hk;have HP:=ab h;have N0:Hid ((w.alloc (Obj.cells (bz p d) 147)).heap[w.heap.size]? =some (Obj.cells (bz p d) 147)):=ab (heap_alloc_new w _);have cb:Hid (Below w w (w.alloc (Obj.cells (bz p d) 147))):=ab ((Below.refl _ _).alloc (Nat.le_refl _) _);clear hR h;obtain ⟨P,er,hP⟩:∃P er,cS p.data=(P,er):=⟨_,_,rfl⟩
 have e0:iQ p=(P,decide (er=0)):=by unfold iQ;simp only [hk,hP,Nat.reduceEqDiff,if_true,if_false]
 rw [e0] at hJ;simp only [Prod.mk.injEq] at hJ;obtain ⟨rfl,gX⟩:=hJ;obtain rfl:ok=(er==0):=by rw [←gX];by_cases h:er=0<;>simp [h]
 have gM:Hid (cS p.data=(P,er)):=ab hP;clear hP e0 hk gX;go_enter func203,ntmps203;go_wp2_with (first
  |(go_at_call 206;go_must (refine kx p.id 6 HK.o_ _ _ ?_))
  |(go_at_call 67;go_must (refine FH _ p.data P er gM.o_ _ (HP.o_.hd.below cb.o_) _ ?_);intro pa pc w4 bZ ak))
 go_wp2
 try go_ret2
 exact HR.o_ _ _ _ (bN bZ (by simp)) (br cb.o_ ak)
theorem anm(d:Value)(p:Pr)(hk:aO p.id=7)(J:List UInt8)(ok:Bool)(hJ:iQ p=(J,ok))(w:World)(h:PC w d p)(R:Ending→World→Prop)
 (hR:∀ad c w',w'.ownsRow w 5 1 (.slice ad J.length c) J.length (bv J)→Below w w w'→R (.returned (.tuple #[.slice ad J.length c,.bool ok])) w'):
 Calls prog 203 #[.agg (bz p d)] w R:=by
 have HR:=ab hR;have HK:=ab hk;have HP:=ab h;have N0:Hid ((w.alloc (Obj.cells (bz p d) 147)).heap[w.heap.size]? =some (Obj.cells (bz p d) 147)):=ab (heap_alloc_new w _);have cb:Hid (Below w w (w.alloc (Obj.cells (bz p d) 147))):=ab ((Below.refl _ _).alloc (Nat.le_refl _) _);clear hR h;obtain ⟨P,er,hP⟩:∃P er,b5 p.text=(P,er):=⟨_,_,rfl⟩
 obtain ⟨Q,es,hQ⟩:∃Q es,b5 p.pair=(Q,es):=⟨_,_,rfl⟩
 have G_:=Kh p.text;have L3:=Kh p.pair;rw [hP] at G_;rw [hQ] at L3;simp only at G_ L3;have e0:iQ p=(P++Q,decide (er=0∧es=0)):=by unfold iQ;simp only [hk,hP,hQ,Nat.reduceEqDiff,if_true,if_false]
 rw [e0] at hJ;simp only [Prod.mk.injEq] at hJ;obtain ⟨DZ,gX⟩:=hJ;have FI:=ab DZ;have gM:=ab hP;have BO:=ab hQ;clear hP hQ e0 hk DZ;by_cases CU:er=0
 ·subst CU;obtain rfl:ok=(es==0):=by rw [←gX];by_cases h:es=0<;>simp [h]
  clear gX;go_enter func203,ntmps203;go_wp2_with (first
   |(go_at_call 206;go_must (refine kx p.id 7 HK.o_ _ _ ?_))
   |(have n0:=N0;go_at_call 63;go_must (refine yY p.text P 0 gM.o_ _ (by have:=HP.o_.lt;omega) _ ?_);intro pa pc w4 bZ ak;have eT:=br cb.o_ ak;have nr:=bT n0.o_ ak;obtain ⟨fC,fD,fE,fF,fG,fH,fI,fJ,fK,fL⟩:=c5 nr;have px:=ab (bN (gF:=w.heap.size) bZ (by simp));clear bZ ak N0 n0 nr)
   |(go_at_call 63;go_must (refine yY p.pair Q es BO.o_ _ (by have:=HP.o_.lp;omega) _ ?_);intro qa qc w6 dt bg;have dP:=br eT bg;have ym:=aK px.o_ bg;obtain ⟨s1,s2,se,ly,_,_,Am⟩:=(eD dt).2;simp only [Value.slice.injEq] at se;obtain ⟨rfl,-,rfl⟩:=se)
   |(at_builtin;go_must (refine j9 (by rfl) (.tmp 106) (.tmp 107) 22 (by rfl) w 5 (.int .u8 0) 1 1 underlying22 Tryz.cJ rfl (by decide) _ _ _ _ rfl ym _ _ _ _ rfl ly (eX _) Am (by unfold maxLen;omega) (by omega) dP.size ?_);intro An c7 w7 oI iu;have fN:=bC dP iu dP.size ym;have rK:P.length+Q.length=J.length:=(by rw [←FI.o_,List.length_append]);have D0:w7.ownsRow w 5 1 (.slice An J.length c7) J.length (bv J):=(by rw [←oK,rK,FI.o_] at oI;exact oI);have Sw:=ab rK;clear oI iu rK))
  try go_ret2
  have h9:=HR.o_ _ _ _ D0 fN;rw [←Sw.o_] at h9;exact h9
 ·obtain rfl:ok=false:=by rw [←gX];exact decide_eq_false fun h=>CU h.1
  have arD:(er==0)=false:=by simp [CU]
  clear gX;go_enter func203,ntmps203;go_wp2_with (first
   |(go_at_call 206;go_must (refine kx p.id 7 HK.o_ _ _ ?_))
   |(have n0:=N0;go_at_call 63;go_must (refine yY p.text P er gM.o_ _ (by have:=HP.o_.lt;omega) _ ?_);intro pa pc w4 bZ ak;have eT:=br cb.o_ ak;have nr:=bT n0.o_ ak;obtain ⟨fC,fD,fE,fF,fG,fH,fI,fJ,fK,fL⟩:=c5 nr;have px:=ab (bN (gF:=w.heap.size) bZ (by simp));clear bZ ak N0 n0 nr)
   |(go_at_call 63;go_must (refine yY p.pair Q es BO.o_ _ (by have:=HP.o_.lp;omega) _ ?_);intro qa qc w6 dt bg;have dP:=br eT bg;have ym:=aK px.o_ bg;obtain ⟨s1,s2,se,ly,_,_,Am⟩:=(eD dt).2;simp only [Value.slice.injEq] at se;obtain ⟨rfl,-,rfl⟩:=se)
   |(at_builtin;go_must (refine j9 (by rfl) (.tmp 106) (.tmp 107) 22 (by rfl) w 5 (.int .u8 0) 1 1 underlying22 Tryz.cJ rfl (by decide) _ _ _ _ rfl ym _ _ _ _ rfl ly (eX _) Am (by unfold maxLen;omega) (by omega) dP.size ?_);intro An c7 w7 oI iu;have fN:=bC dP iu dP.size ym;have rK:P.length+Q.length=J.length:=(by rw [←FI.o_,List.length_append]);have D0:w7.ownsRow w 5 1 (.slice An J.length c7) J.length (bv J):=(by rw [←oK,rK,FI.o_] at oI;exact oI);have Sw:=ab rK;clear oI iu rK))
  try go_ret2
  have h9:=HR.o_ _ _ _ D0 fN;rw [←Sw.o_] at h9;exact h9
theorem ann(d:Value)(p:Pr)(hk:aO p.id=0)(J:List UInt8)(ok:Bool)(hJ:iQ p=(J,ok))(w:World)(h:PC w d p)(R:Ending→World→Prop)
 (hR:∀ad c w',w'.ownsRow w 5 1 (.slice ad J.length c) J.length (bv J)→Below w w w'→R (.returned (.tuple #[.slice ad J.length c,.bool ok])) w'):
 Calls prog 203 #[.agg (bz p d)] w R:=by
 have HR:=ab hR;have HK:=ab hk;have HP:=ab h;have N0:Hid ((w.alloc (Obj.cells (bz p d) 147)).heap[w.heap.size]? =some (Obj.cells (bz p d) 147)):=ab (heap_alloc_new w _);have cb:Hid (Below w w (w.alloc (Obj.cells (bz p d) 147))):=ab ((Below.refl _ _).alloc (Nat.le_refl _) _);clear hR h;have e0:iQ p=([],false):=by unfold iQ;simp only [hk,Nat.reduceEqDiff,if_false]
 rw [e0] at hJ;simp only [Prod.mk.injEq] at hJ;obtain ⟨rfl,rfl⟩:=hJ;clear e0 hk;go_enter func203,ntmps203;go_wp2_with (go_at_call 206;go_must (refine kx p.id 0 HK.o_ _ _ ?_))
 try go_ret2
 exact HR.o_ none 0 _ (World.ownsRow_nil _ _ _ _) cb.o_
theorem aaz(d:Value)(p:Pr)(J:List UInt8)(ok:Bool)(hJ:iQ p=(J,ok))(w:World)(h:PC w d p)(R:Ending→World→Prop)
 (hR:∀ad c w',w'.ownsRow w 5 1 (.slice ad J.length c) J.length (bv J)→Below w w w'→R (.returned (.tuple #[.slice ad J.length c,.bool ok])) w'):
 Calls prog 203 #[.agg (bz p d)] w R:=by
 rcases Gd p.id with hk|hk|hk|hk|hk|hk|hk|hk
 ·exact ann d p hk J ok hJ w h R hR
 ·exact ang d p hk J ok hJ w h R hR
 ·exact anh d p hk J ok hJ w h R hR
 ·exact ani d p hk J ok hJ w h R hR
 ·exact anj d p hk J ok hJ w h R hR
 ·exact ank d p hk J ok hJ w h R hR
 ·exact anl d p hk J ok hJ w h R hR
 ·exact anm d p hk J ok hJ w h R hR
theorem ano(h:qE p=false):p.id<1∨127<p.id∨(1≤p.id∧p.id≤127∧(iQ p).2=false):=by
 unfold qE at h;by_cases h1:1≤p.id∧p.id≤127
 ·rw [decide_eq_true h1,Bool.true_and] at h;exact .inr (.inr ⟨h1.1,h1.2,h⟩)
 ·omega
theorem anp(h:qE p=true):1≤p.id∧p.id≤127∧iQ p=(ff p,true):=by
 unfold qE at h;rw [and_eq_true,decide_eq_true_eq] at h;refine ⟨h.1.1,h.1.2,?_⟩;rw [←am1 p,←h.2]
theorem anq(X:World)(hK:K=X.heap.size)(hB:B≤K):(X.alloc (.cells #[] e)).ownsRow B e 1 (.slice (some ⟨K,0,none⟩) 0 0) 0 (bv []):=by
 subst hK;exact World.ownsRow_made X #[] 0 hB (by unfold maxLen;omega) (by simp)
theorem anr{c:Nat}{a p:List UInt8}{x:UInt8}(h:w.ownsRow B 5 1 (.slice ad n c) n (bv a++bv [x]++bv p)):w.ownsRow B 5 1 (.slice ad (a++ [x]++p).length c) (a++ [x]++p).length (bv (a++ [x]++p)):=by
 have e1:bv a++bv [x]++bv p=bv (a++ [x]++p):=by simp [bv]
 rw [e1] at h;have h2:=(eD h).1;rw [h2] at h;exact h
theorem aaA(x:UInt8)(i:Int)(hi:(x.toNat:Int)=i)(hK:K=w.heap.size):Rd (w.alloc (.cells #[.int .u8 i] e)) 1 (some ⟨K,0,none⟩) 1 (bv [x]):=by
 subst hK;subst hi;exact cO w #[.int .u8 (x.toNat:Int)] e 1 1 rfl
theorem I8(v:Value)(l:List Pr)(J:List UInt8)(ok:Bool)(h:tk l=(J,ok))(eV:(l.flatMap bV).length≤90000000)(w:World)(hv:Ps w v l)(R:Ending→World→Prop)
 (hR:∀ad cc w',w'.ownsRow w 5 1 (.slice ad J.length cc) J.length (bv J)→Below w w w'→R (.returned (.tuple #[.slice ad J.length cc,.bool ok])) w'):
 Calls prog 176 #[v] w R:=by
 have HR:=ab hR;have HV:=ab hv;have HH:=ab h;have yo:=ab eV;obtain ⟨va,vc,rfl,_,Ge,_⟩:=_root_.id hv;have jB:l.all qE=false→(J= []∧ok=false):=by
  intro ha;unfold tk at h;rw [if_neg (by rw [ha];simp)] at h;simp only [Prod.mk.injEq] at h;exact ⟨h.1.symm,h.2.symm⟩
 have qb:=ab jB;clear hR hv h eV jB;go_enter func176,ntmps176;go_wp2;go_loopg [4,5,6] l.length (fun gn L i _ wr=>∃(k:Nat)(B:List UInt8)(ba:Option Addr)(bc:Nat),k≤l.length∧gn=l.length - k∧i= .int .i64 k∧L= .slice ba B.length bc∧Hid ((l.take k).flatMap bV=B)∧Hid ((l.take k).all qE=true)∧B.length≤90000000∧Hid (wr.ownsRow w 5 1 (.slice ba B.length bc) B.length (bv B))∧Below w w wr)
 case atStart=>exact ⟨0,[],none,0,Nat.zero_le _,by omega,rfl,rfl,ab rfl,ab rfl,by simp,ab (World.ownsRow_nil _ _ _ _),Below.refl _ _⟩
 case round=>
  obtain ⟨k,B,ba,bc,hk,rfl,rfl,rfl,HB,EY,zC,Bb,hb⟩:=hrel;obtain ⟨wo,rfl⟩:∃y,y=wr:=⟨_,rfl⟩
  by_cases ao:k<l.length
  ·have bd:(k:Int)<(l.length:Int):=by omega
   obtain ⟨Cy,Cz,ee,_,_,_,v4⟩:=HV.o_;simp only [Value.slice.injEq] at ee;obtain ⟨rfl,-,rfl⟩:=ee;obtain ⟨vb,vo,rfl,v5⟩:=v4 (by omega);obtain ⟨d0,Sx,gC⟩:=v5 k ao;have oh:Hid (l.take (k+1)=l.take k++ [l[k]]):=ab (List.take_succ_eq_append_getElem ao);have aaB:Hid (l[k]∈l):=ab (List.getElem_mem ao);obtain ⟨y,hy⟩:=ai (l[k]);rw [hy] at Sx gC oh aaB;obtain ⟨p0,p1,p2,p3,p4⟩:=Sx.below hb;obtain ⟨d1,d3,rfl,_⟩:=_root_.id gC.hd;have tH:=ab gC;have N0:Hid ((wo.alloc (Obj.cells (dB y d1 d3) 147)).heap[wo.heap.size]? =some (Obj.cells (dB y d1 d3) 147)):=ab (heap_alloc_new wo _);have si:=hb.alloc hb.size (Obj.cells (dB y d1 d3) 147);have sj:=ab (World.ownsRow.alloc Bb.o_ (Obj.cells (dB y d1 d3) 147));clear v4 v5 hy gC Sx;obtain ⟨q,hq⟩:=ai (qE y);cases q with
   |false=>
    have iW:l.all qE=false:=by
     cases ha:l.all qE with
     |false=>rfl
     |true=>rw [all_eq_true] at ha;have:=ha y aaB.o_;rw [hq] at this;cases this
    obtain ⟨rfl,rfl⟩:=qb.o_ iW;clear iW;rcases ano hq with h1|h1|⟨h1,h2,h3⟩
    ·clear hq;go_wp2
     try go_ret2
     exact HR.o_ none 0 _ (World.ownsRow_nil _ _ _ _) si
    ·have h2:¬y.id<1:=by omega
     clear hq;go_wp2
     try go_ret2
     exact HR.o_ none 0 _ (World.ownsRow_nil _ _ _ _) si
    ·have g1:¬y.id<1:=by omega
     have g2:¬127<y.id:=by omega
     obtain ⟨⟨P,z⟩,hP⟩:∃r,iQ y=r:=⟨_,rfl⟩
     rw [hP] at h3;simp only at h3;subst h3;have HP:=ab hP;clear hq hP;go_wp2_with (first
      |(at_builtin;have n0:=N0;have I9:=aaA (w:=wo.alloc (Obj.cells (dB y d1 d3) 147)) (e:=5) (K:=wo.heap.size+1) (b8 y.id) y.id (by rw [uE];omega) (by simp);have Aq:=World.ownsRow.alloc sj.o_ (Obj.cells #[.int .u8 y.id] 5);go_must (refine j9 (by rfl) (.tmp 29) (.tmp 33) 22 (by rfl) w 5 (.int .u8 0) 1 1 underlying22 Tryz.cJ rfl (by decide) _ _ _ _ rfl Aq _ _ _ _ rfl I9 (eX _) (fun h=>by cases h) (by unfold maxLen;omega) (by omega) (Nat.le_trans si.size (by simp)) ?_);intro fM c6 w6 dt bI;have n6:=eG bI (gq (o':=Obj.cells #[.int .u8 y.id] 5) n0.o_) (dU (gq (o':=Obj.cells #[.int .u8 y.id] 5) n0.o_) Aq (by decide));obtain ⟨fC,fD,fE,fF,fG,fH,fI,fJ,fK,fL⟩:=c5 n6;have dP:=bC (si.alloc si.size (Obj.cells #[.int .u8 y.id] 5)) bI (Nat.le_trans si.size (by simp)) Aq;have jM:=ab dt;clear dt bI Aq I9 n6 n0 N0)
      |(go_at_call 203;go_must (refine aaz _ y P false HP.o_ _ (tH.o_.below dP) _ ?_);intro pa pc w7 oI aZ;have fN:=aD dP aZ dP.size))
     try go_ret2
     exact HR.o_ none 0 _ (World.ownsRow_nil _ _ _ _) fN
   |true=>
    obtain ⟨h1,h2,hP⟩:=anp hq;have g1:¬y.id<1:=by omega
    have g2:¬127<y.id:=by omega
    obtain ⟨P,sL⟩:=ai (ff y);rw [sL] at hP;have HP:=ab hP;have aaC:bV y=b8 y.id::P:=by rw [am2 hq,sL]
    have EN:(l.take (k+1)).flatMap bV=B++ [b8 y.id]++P:=by rw [oh.o_,List.flatMap_append,HB.o_,List.flatMap_singleton,aaC];simp
    have aaD:(l.take (k+1)).all qE=true:=by rw [oh.o_,List.all_append,EY.o_];simp [hq]
    have Gw:(B++ [b8 y.id]++P).length≤90000000:=by
     exact Vy
    have m8:=ab Gw;simp only [List.length_append,List.length_singleton] at Gw;have bP:=ab EN;have ans:=ab aaD;clear hq sL hP aaC EN aaD;go_wp2_with (first
     |(at_builtin;have n0:=N0;have I9:=aaA (w:=wo.alloc (Obj.cells (dB y d1 d3) 147)) (e:=5) (K:=wo.heap.size+1) (b8 y.id) y.id (by rw [uE];omega) (by simp);have Aq:=World.ownsRow.alloc sj.o_ (Obj.cells #[.int .u8 y.id] 5);go_must (refine j9 (by rfl) (.tmp 29) (.tmp 33) 22 (by rfl) w 5 (.int .u8 0) 1 1 underlying22 Tryz.cJ rfl (by decide) _ _ _ _ rfl Aq _ _ _ _ rfl I9 (eX _) (fun h=>by cases h) (by unfold maxLen;omega) (by omega) (Nat.le_trans si.size (by simp)) ?_);intro fM c6 w6 dt bI;have n6:=eG bI (gq (o':=Obj.cells #[.int .u8 y.id] 5) n0.o_) (dU (gq (o':=Obj.cells #[.int .u8 y.id] 5) n0.o_) Aq (by decide));obtain ⟨fC,fD,fE,fF,fG,fH,fI,fJ,fK,fL⟩:=c5 n6;have dP:=bC (si.alloc si.size (Obj.cells #[.int .u8 y.id] 5)) bI (Nat.le_trans si.size (by simp)) Aq;have jM:=ab dt;clear dt bI Aq I9 n6 n0 N0)
     |(go_at_call 203;go_must (refine aaz _ y P true HP.o_ _ (tH.o_.below dP) _ ?_);intro pa pc w7 oI aZ;have fN:=aD dP aZ dP.size;have D0:=aK jM.o_ aZ;obtain ⟨s3,s4,se,aaE,_,_,aaF⟩:=(eD oI).2;simp only [Value.slice.injEq] at se;obtain ⟨rfl,-,rfl⟩:=se;clear jM oI aZ)
     |(at_builtin;have e_:=D0;go_must (refine j9 (by rfl) (.tmp 42) (.tmp 43) 22 (by rfl) w 5 (.int .u8 0) 1 1 underlying22 Tryz.cJ rfl (by decide) _ _ _ _ rfl e_ _ _ _ _ rfl aaE (eX _) aaF (by unfold maxLen;omega) (by omega) fN.size ?_);intro BX c8 w8 Ar dk;have oR:=bC fN dk fN.size D0;have MS:w8.ownsRow w 5 1 (.slice BX (B++ [b8 y.id]++P).length c8) (B++ [b8 y.id]++P).length (bv (B++ [b8 y.id]++P)):=anr Ar;have kD:=ab MS;clear Ar dk MS D0 e_ aaE aaF fN))
    go_roundg (l.length - (k+1))
    case measure=>omega
    case rel=>exact ⟨k+1,B++ [b8 y.id]++P,BX,c8,by omega,rfl,by go_num,by (simp;omega),bP,ans,m8.o_,kD,oR⟩
  ·have bd:¬(k:Int)<(l.length:Int):=by omega
   have wJ:l.flatMap bV=B:=by have:=HB.o_;rwa [List.take_of_length_le (by omega)] at this
   have iW:l.all qE=true:=by have:=EY.o_;rwa [List.take_of_length_le (by omega)] at this
   have hh:=HH.o_;unfold tk at hh;rw [if_pos iW,wJ] at hh;obtain ⟨V,er,hV⟩:∃V er,dG (B.length:Int)=(V,er):=⟨_,_,rfl⟩
   rw [hV] at hh;simp only [Prod.mk.injEq] at hh;obtain ⟨hJ,gX⟩:=hh;obtain rfl:ok=(er==0):=by rw [←gX];by_cases h:er=0<;>simp [h]
   have CT:=ab hV;have EK:V.length≤4:=by have:=Gv (B.length:Int);rw [hV] at this;exact this
   have HJ:=ab hJ;clear HH qb wJ iW hV gX hJ;go_wp2_with (first
    |(go_at_call 204;go_must (refine UP _ V er CT.o_ _ _ ?_);intro Gx Gy w5 ed aC;have bp:=aD hb aC hb.size;have iy:=ab (aK Bb.o_ aC);have rD:=anq (B:=w5.heap.size) (e:=5) w5 rfl (Nat.le_refl _);have sJ:Below w5 w5 (w5.alloc (Obj.cells #[] 5)):=(Below.refl w5 w5).alloc (Nat.le_refl _) _;obtain ⟨s1,s2,se,ly,_,_,Am⟩:=(eD ed).2.below sJ;simp only [Value.slice.injEq] at se;obtain ⟨rfl,-,rfl⟩:=se;clear ed aC)
    |(at_builtin;have aaG:=rD;go_must (refine j9 (by rfl) (.tmp 51) (.tmp 52) 22 (by rfl) w5 5 (.int .u8 0) 1 1 underlying22 Tryz.cJ rfl (by decide) _ _ _ _ rfl aaG _ _ _ _ rfl ly (eX _) Am (by unfold maxLen;omega) (by omega) (by simp) ?_);intro An c7 w7 oI iu;rw [zero_add] at oI;have Ao:=bC sJ iu (by simp) rD;obtain ⟨s3,s4,se,ant,_,_,Oa⟩:=(eD iy.o_).2.below Ao;simp only [Value.slice.injEq] at se;obtain ⟨rfl,-,rfl⟩:=se;clear rD aaG ly Am iu)
    |(at_builtin;have anu:=oI;go_must (refine j9 (by rfl) (.tmp 53) (.tmp 54) 22 (by rfl) w5 5 (.int .u8 0) 1 1 underlying22 Tryz.cJ rfl (by decide) _ _ _ _ rfl anu _ _ _ _ rfl ant (eX _) Oa (by unfold maxLen;omega) (by omega) Ao.size ?_);intro BX c8 w8 Ar dk;have mJ:=bC Ao dk Ao.size oI;have oR:=aD bp mJ bp.size;have py:V.length+B.length=J.length:=(by rw [←HJ.o_,List.length_append]);have MS:w8.ownsRow w 5 1 (.slice BX J.length c8) J.length (bv J):=(by have e1:bv []++bv V++bv B=bv J:=(by rw [←HJ.o_];simp [bv]);rw [e1,py] at Ar;exact bN Ar bp.size);have anv:=ab py;clear Ar dk py))
   try go_ret2
   have h9:=HR.o_ _ _ _ MS oR;rw [←anv.o_] at h9;exact h9
theorem anw{b:List UInt8}{m:List Pr}{used:Int}{d:Nat}(h:nk wh b=(m,used,d)):∀p∈m,PB p:=by
 by_cases hd:d=0
 ·subst hd;obtain ⟨_,_,_,_,_,_,_,_,_,h8,_⟩:=Ou h;exact fun p hp=>by
   obtain ⟨g1,_,_,g4,g5⟩:=h8 p hp;exact g1.pb g4 g5
 ·have hm:m= []:=by
   unfold nk at h
   split at h
   ·simp only [Prod.mk.injEq] at h;exact h.1.symm
   ·split at h
    ·simp only [Prod.mk.injEq] at h;exact h.1.symm
    ·simp only [Prod.mk.injEq] at h
     omega
  subst hm;exact fun p hp=>by cases hp
theorem anx{J:List UInt8}(h:tk l=(J,ok)):J.length≤(l.flatMap bV).length+4:=by
 unfold tk at h
 split at h
 ·simp only [Prod.mk.injEq] at h;rw [←h.1,List.length_append];have:=Gv ((l.flatMap bV).length:Int)
  omega
 ·simp only [Prod.mk.injEq] at h;rw [←h.1];simp
theorem anz(wh:Int)(v:Value)(l:List Pr)(x:List UInt8)(c:Nat)(h:eP wh l=(x,c))(eV:(l.flatMap bV).length≤90000000)(w:World)(hv:Ps w v l)(hT:di w)(R:Ending→World→Prop)
 (hR:∀ad cc w',w'.ownsRow w 5 1 (.slice ad x.length cc) x.length (bv x)→Below w w w'→R (.returned (.tuple #[.slice ad x.length cc,.int .i64 c])) w'):
 Calls prog 159 #[.int .i64 wh,v] w R:=by
 have HR:=ab hR;have HV:=ab hv;have HT:=ab hT;have yo:=ab eV;obtain ⟨va,vc,rfl,_,Ge,_⟩:=_root_.id hv;rw [←am6] at h;unfold I3 at h;obtain ⟨⟨J,ok⟩,hJ⟩:∃r,tk l=r:=⟨_,rfl⟩
 have anA:=anx hJ;rw [hJ] at h;simp only at h;have HJ:=ab hJ;have arE:J.length≤90000004:=by omega
 clear hR hv hT eV hJ anA;cases ok with
 |false=>
  rw [if_pos rfl] at h;simp only [Prod.mk.injEq] at h;obtain ⟨rfl,rfl⟩:=h;go_enter func159,ntmps159;go_wp2_with (go_at_call 176;go_must (refine I8 _ l J false HJ.o_ yo.o_ _ HV.o_ _ ?_);intro ja jc w1 bQ aI)
  try go_ret2
  exact HR.o_ none 0 _ (World.ownsRow_nil _ _ _ _) aI
 |true=>
  rw [if_neg (by simp)] at h;obtain ⟨⟨m,used,rc⟩,bG⟩:∃r,nk wh J=r:=⟨_,rfl⟩
  rw [bG] at h;have uT:=ab bG;have fU:=ab (anw bG);clear bG;by_cases Gz:rc=0
  ·subst Gz;by_cases lZ:used=(J.length:Int)
   ·subst lZ;obtain ⟨sr,mB⟩:=ai (B9 l m);have yp:=ab mB;cases sr with
    |true=>
     have jy:l=m:=of_decide_eq_true mB;rw [if_pos (by rw [jy])] at h;simp only [Prod.mk.injEq] at h;obtain ⟨rfl,rfl⟩:=h;clear mB jy;go_enter func159,ntmps159;go_wp2_with (first
      |(go_at_call 176;go_must (refine I8 _ l J true HJ.o_ yo.o_ _ HV.o_ _ ?_);intro ja jc w1 bQ aI;have sQ:=ab bQ;clear bQ)
      |(go_at_call 163;go_must (refine MR wh _ J m _ 0 uT.o_ (by omega) _ (eD sQ.o_).2 (HT.o_.below aI) _ ?_);intro ma mc w2 As ah;have bn:=aD aI ah aI.size;have ix:=ab (aK sQ.o_ ah);have Sy:=ab (As.ps fU.o_);clear As ah)
      |(go_at_call 161;go_must (refine R6 _ _ l m true yp.o_ _ (HV.o_.below bn) Sy.o_ _ ?_);intro w3 an;have cG:=aD bn an bn.size;have eH:=ab (aK ix.o_ an)))
     try go_ret2
     exact HR.o_ _ _ _ eH.o_ cG
    |false=>
     have jy:l≠m:=of_decide_eq_false mB;rw [if_neg (by simp [Ne.symm jy])] at h;simp only [Prod.mk.injEq] at h;obtain ⟨rfl,rfl⟩:=h;clear mB jy;go_enter func159,ntmps159;go_wp2_with (first
      |(go_at_call 176;go_must (refine I8 _ l J true HJ.o_ yo.o_ _ HV.o_ _ ?_);intro ja jc w1 bQ aI;have sQ:=ab bQ;clear bQ)
      |(go_at_call 163;go_must (refine MR wh _ J m _ 0 uT.o_ (by omega) _ (eD sQ.o_).2 (HT.o_.below aI) _ ?_);intro ma mc w2 As ah;have bn:=aD aI ah aI.size;have Sy:=ab (As.ps fU.o_);clear As ah)
      |(go_at_call 161;go_must (refine R6 _ _ l m false yp.o_ _ (HV.o_.below bn) Sy.o_ _ ?_);intro w3 an;have cG:=aD bn an bn.size))
     try go_ret2
     exact HR.o_ none 0 _ (World.ownsRow_nil _ _ _ _) cG
   ·have bh:(used != (J.length:Int))=true:=by simp [lZ]
    rw [if_neg (by simp [lZ])] at h;simp only [Prod.mk.injEq] at h;obtain ⟨rfl,rfl⟩:=h;go_enter func159,ntmps159;go_wp2_with (first
     |(go_at_call 176;go_must (refine I8 _ l J true HJ.o_ yo.o_ _ HV.o_ _ ?_);intro ja jc w1 bQ aI;have sQ:=ab bQ;clear bQ)
     |(go_at_call 163;go_must (refine MR wh _ J m used 0 uT.o_ (by omega) _ (eD sQ.o_).2 (HT.o_.below aI) _ ?_);intro ma mc w2 As ah;have bn:=aD aI ah aI.size;clear As ah))
    try go_ret2
    exact HR.o_ none 0 _ (World.ownsRow_nil _ _ _ _) bn
  ·have aeY:¬(rc:Int)=0:=by omega
   rw [if_neg (by simp [Gz])] at h;simp only [Prod.mk.injEq] at h;obtain ⟨rfl,rfl⟩:=h;go_enter func159,ntmps159;go_wp2_with (first
    |(go_at_call 176;go_must (refine I8 _ l J true HJ.o_ yo.o_ _ HV.o_ _ ?_);intro ja jc w1 bQ aI;have sQ:=ab bQ;clear bQ)
    |(go_at_call 163;go_must (refine MR wh _ J m used rc uT.o_ (by omega) _ (eD sQ.o_).2 (HT.o_.below aI) _ ?_);intro ma mc w2 As ah;have bn:=aD aI ah aI.size;clear As ah))
   try go_ret2
   exact HR.o_ none 0 _ (World.ownsRow_nil _ _ _ _) bn
open Nat (add_mul)
variable{w':World}
section
variable {P:Program} {w:World}
theorem aaH{P:Prop}(h:P:=by
 rw [hr] at jw;simp only [Result.ok.injEq] at jw;obtain ⟨rfl,rfl⟩:=jw;exact ⟨.inr ⟨⟨w.heap.size,rfl,Nat.le_refl _⟩,⟨rfl,rfl,rfl,by simp,fun k hk _=>heap_alloc_old w.drew _ hk⟩⟩,Nat.le_succ _⟩):P:=h
theorem anB(base:Nat)(t ty e:TypeId)(i:TypeInfo)(z:Value)(size bytes:Nat)(ht:P.underlying t=some (.slice e))(hi:P.info? e=some i)(hz:i.zero=some z)
 (oN:i.size=size) (oO:i.bytes=bytes) (gp:z.cells.size=size) (bm:0<size)
 (v:Value) (n:Nat) (xs:List Value) (aV:w.ownsRow base e size v n xs)
 (a:Addr) (m c:Nat) (news:List Value) (hl:news.length=m*size) (lC:∀j u,news[j]? =some u→w.cell? (a.add j)=some u) (h1:∀u∈news,u.oneCell'=true)
 (h63:n+m≤maxLen) (eQ:(n+m) *bytes≤140737488355328) (iS:base≤w.heap.size) (hm:0<m):
 ∃v' w',(Builtin.append_ #[t,t] ty #[v,.slice (some a) m c]).run P w= .ok v' w'∧w'.ownsRow base e size v' (n+m) (xs++news)∧tB w w' v v'∧w.drawn≤w'.drawn:=by
 obtain ⟨v',w',hr,h2,h3,_,_⟩:=run_append_own_at (P:=P) w base t ty e i z size bytes ht hi hz oN oO gp bm v n xs aV a m c news hl lC h1 h63 eQ iS;refine ⟨v',w',hr,h2,?_⟩;subst oN oO;have acU:n+m≤9223372036854775807:=by simp only [maxLen] at h63;omega
 rcases aV.2 with ⟨rfl,rfl⟩|⟨g,cap,cur,rfl,hbg,hg,sy,AN,dm,htake⟩
 ·have jw:=run_append_nil (P:=P) w t ty e i z ht hi hz a m c news hl lC hm (by omega) (by have hb:=eQ;simp only [zero_add] at hb;omega);exact aaH
 ·by_cases zn:n+m≤cap
  ·have zo:n*i.size+news.length≤cur.size:=by rw [hl,dm,←add_mul];exact Nat.mul_le_mul_right _ zn
   have jw:=run_append_room (P:=P) w t ty e i ht hi g n cap cur hg a m c news hl lC h1 zn zo;rw [hr] at jw;simp only [Result.ok.injEq] at jw;obtain ⟨rfl,rfl⟩:=jw;exact ⟨.inl ⟨g,n,n+m,cap,rfl,rfl,h3⟩,Nat.le_refl _⟩
  ·have holds:∀j u,xs[j]? =some u→w.cell? ((⟨g,0,none⟩:Addr).add j)=some u:=aV.cells (g:=g) rfl;have jw:=run_append_grow (P:=P) w t ty e i z ht hi hz ⟨g,0,none⟩ n cap xs aV.1 holds a m c news hl lC (by omega) (by omega) (growslice_fits (by omega) eQ);exact aaH
end
theorem anC(h:Below w w w')(hd:w.drawn≤w'.drawn):JK w w':=by
 refine ⟨w'.drawn - w.drawn,w'.heap.extract w.heap.size w'.heap.size,?_⟩;obtain ⟨hp,tp,dr,os,ou⟩:=w';obtain ⟨uG,anD,Sz,anE,anF⟩:=w;have h1:os=anE:=h.os;have h2:tp=anD:=h.tape;have h3:ou=anF:=h.output;have h4:uG.size≤hp.size:=h.size;have h5:∀k,k<uG.size→hp[k]? =uG[k]?:=h.block;have h6:Sz≤dr:=hd;subst h1 h2 h3;have e1:hp=uG++hp.extract uG.size hp.size:=by
  apply Array.ext_getElem?;intro k;by_cases hk:k<uG.size
  ·rw [Array.getElem?_append_left hk,h5 k hk]
  ·rw [Array.getElem?_append_right (by omega),Array.getElem?_extract]
   split
   ·congr 1
    omega
   ·exact Array.getElem?_eq_none (by omega)
 show World.mk _ _ _ _ _=World.mk _ _ _ _ _
 congr 1
 show dr=Sz+(dr - Sz)
 omega
theorem anG{P:Program}{ops:Array Oper}{rest:List Oper}{o:Oper}{a:Act}{Q:Exit→Act→World→Prop}(kT:o.guard=none)(s x:Operand)(t:TypeId)
 (ho:o.op= .call {callee:= .builtin .append,args:=#[s,x],argTypes:=#[t,t]})
 (base:Nat) (e:TypeId) (z:Value) (size bytes:Nat) (ht:P.underlying t=some (.slice e)) (j8:(P.info? e).map (fun i=>(i.zero,i.size,i.bytes))=some (some z,size,bytes)) (gp:z.cells.size=size) (bm:0<size)
 (ad:Option Addr) (n c:Nat) (xs:List Value) (hs:a.eval s= .slice ad n c) (aV:w.ownsRow base e size (.slice ad n c) n xs)
 (iR:Addr) (c2:Nat) (news:List Value) (hx:a.eval x= .slice (some iR) 1 c2) (bG:Rd w size (some iR) 1 news) (h1:∀u∈news,u.oneCell'=true)
 (h63:n+1≤maxLen) (eQ:(n+1) *bytes≤140737488355328) (iS:base≤w.heap.size)
 (h:∀bq c' w',w'.ownsRow base e size (.slice bq (n+1) c') (n+1) (xs++news)→w.grownBy w' (Value.slice ad n c).ownBlock→w.drawn≤w'.drawn→wpList P ops Q rest (a.put o.dst (.slice bq (n+1) c')) w'):
 wpList P ops Q (o::rest) a w:=by
 obtain ⟨i,hi,hz,cQ,gU⟩:=info_parts j8;refine wpList_plain kT fun K hK=> ?_;obtain ⟨v',w',hr,h2,h3,h4⟩:=anB (P:=P) (w:=w) base t o.type e i z size bytes ht hi hz cQ gU gp bm _ n xs aV iR 1 c2 news bG.1 (by
  intro j q hj;obtain ⟨b,o',FR,hc⟩:=bG.2 (by omega);obtain rfl:=Option.some.inj FR;have pT:j<1*size:=by rw [←bG.1];exact (List.getElem?_eq_some_iff.1 hj).1
  rw [Addr.add_lit,hc j pT];exact hj) h1 h63 eQ iS (by decide)
 obtain ⟨bq,c',rfl⟩:=bF h2;unfold Oper.wp execOp;simp only [ho,resolve,invoke,builtin,Sem.run_bind,Sem.run_pure,Result.andThen_ok,List.map_toArray,List.map_cons,List.map_nil,hs,hx,hr];refine hK _ _ (h bq c' w' h2 ?_ h4);rcases h3 with ⟨b,n1,n2,c3,q1,q2,q3⟩|⟨_,q3⟩
 ·rw [q1];exact q3
 ·exact uK q3
theorem anH(v:Value)(l:List Pr)(ids:List Int)(hm:ids.length≤1000)(ia:Option Addr)(n c:Nat)(hn:n=ids.length)(w:World)(cs:List Value)(hr:Rd w 1 ia n cs)(dm:cs=ids.map (Value.int .i64))(hv:Ps w v l)(nv:l.length≤1000000)(R:Ending→World→Prop)
 (hR:∀ad cc w',Below w w w'→w.drawn≤w'.drawn→R (.returned (.slice ad (lL l ids).length cc)) w'):
 Calls prog 177 #[v,.slice ia n c] w R:=by
 have HR:=ab hR;have HV:=ab hv;have uT:=ab hr;have aaI:=ab dm;have HN:=ab hn;obtain ⟨va,vc,rfl,_⟩:=_root_.id hv;clear hR hv hr dm hn;go_enter func177,ntmps177;go_wp2;go_loopg [5,6] l.length (fun gn L i wr=>∃(k:Nat)(o:List Pr)(oa:Option Addr)(oc:Nat),k≤l.length∧gn=l.length - k∧i= .int .i64 k∧L= .slice oa o.length oc∧Hid (o=lL (l.take k) ids)∧o.length≤k∧Hid (∃xs,wr.ownsRow w 147 5 (.slice oa o.length oc) o.length xs)∧Below w w wr∧w.drawn≤wr.drawn)
 case atStart=>exact ⟨0,[],none,0,Nat.zero_le _,by omega,rfl,rfl,ab rfl,Nat.le_refl _,ab ⟨[],World.ownsRow_nil _ _ _ _⟩,Below.refl _ _,Nat.le_refl _⟩
 case round=>
  obtain ⟨k,o,oa,oc,hk,rfl,rfl,rfl,HO,gX,dn,hb,GX⟩:=hrel;obtain ⟨wo,rfl⟩:∃y,y=wr:=⟨_,rfl⟩
  by_cases ao:k<l.length
  ·have bd:(k:Int)<(l.length:Int):=by omega
   obtain ⟨Cy,Cz,ee,_,_,_,v4⟩:=HV.o_.below hb;simp only [Value.slice.injEq] at ee;obtain ⟨rfl,-,rfl⟩:=ee;obtain ⟨vb,vo,rfl,v5⟩:=v4 (by omega);obtain ⟨d0,⟨p0,p1,p2,p3,p4⟩,gC⟩:=v5 k ao;have oh:Hid (l.take (k+1)=l.take k++ [l[k]]):=ab (List.take_succ_eq_append_getElem ao);obtain ⟨y,hy⟩:=ai (l[k]);rw [hy] at p0 p1 p2 p3 gC oh;obtain ⟨d1,d3,rfl,_⟩:=_root_.id gC.hd;obtain ⟨z,hz⟩:=ai (ids.contains y.id);have fh:lL (l.take (k+1)) ids=o++(if z=true then [y] else []):=by rw [oh.o_,Wp,←HO.o_,hz]
   have sQ:=ab fh;have HZ:=ab hz;clear v4 v5 hy gC hz fh;cases z with
   |false=>
    go_wp2_with (go_at_call 205;go_must (refine Sl y.id ids false HZ.o_ ia n c HN.o_ hm _ cs (uT.o_.below hb) aaI.o_ _ ?_));go_roundg (l.length - (k+1))
    case measure=>omega
    case rel=>exact ⟨k+1,o,oa,oc,by omega,rfl,by go_num,rfl,ab (by rw [sQ.o_];simp),by omega,dn,hb,GX⟩
   |true=>
    obtain ⟨xs,aq⟩:=dn.o_;have aU:=ab aq;clear aq;have gz:=aU.o_;have bG:=cO wo (dB y d1 d3) 147 5 1 rfl;go_wp2_with (first
     |(go_at_call 205;go_must (refine Sl y.id ids true HZ.o_ ia n c HN.o_ hm _ cs (uT.o_.below hb) aaI.o_ _ ?_))
     |(at_builtin;go_must (refine anG (by rfl) (.tmp 20) (.tmp 25) 32 (by rfl) w 147 (.agg hZ) 5 72 underlying32 Tryz.xP rfl (by decide) _ _ _ _ rfl (World.ownsRow.alloc gz _) _ _ _ rfl bG (zg _ _ _) (by unfold maxLen;omega) (by omega) (Nat.le_trans hb.size (by simp)) ?_)))
    intro fM c6 w6 dt bI anI;have anJ:w.drawn≤w6.drawn:=Nat.le_trans GX anI;have zA:Below w w w6:=bC (hb.alloc hb.size _) bI (Nat.le_trans hb.size (by simp)) (gz.alloc _);have anK:Hid (∃xs,w6.ownsRow w 147 5 (.slice fM (o++ [y]).length c6) (o++ [y]).length xs):=ab ⟨_,by rw [List.length_append];exact dt⟩;clear dt bI gz bG;go_wp2;go_roundg (l.length - (k+1))
    case measure=>omega
    case rel=>exact ⟨k+1,o++ [y],fM,c6,by omega,rfl,by go_num,by rw [List.length_append];rfl,ab (by rw [sQ.o_];simp),by rw [List.length_append];simp;omega,anK,zA,anJ⟩
  ·have bd:¬(k:Int)<(l.length:Int):=by omega
   have wJ:lL l ids=o:=by rw [HO.o_,List.take_of_length_le (by omega)]
   have HF:=ab wJ;clear wJ;go_wp2;have h9:=HR.o_ oa oc _ hb GX;rw [HF.o_] at h9;exact h9
theorem anL(v:Value)(l:List Pr)(w:World)(hv:Ps w v l)(nv:l.length≤1000000)(m:Nat)(hm:(lL l [1,3,8,9,38]).length=m)(R:Ending→World→Prop)
 (hR:∀ad cc w',JK w w'→R (.returned (.slice ad m cc)) w'):
 Calls prog 160 #[v] w R:=by
 subst hm;have HR:=ab hR;have aL:Below w w (w.alloc (Obj.cells #[Value.int .i64 1,Value.int .i64 3,Value.int .i64 8,Value.int .i64 9,Value.int .i64 38] 3)):=(Below.refl _ _).alloc (Nat.le_refl _) _;have bu:=ab aL;have HV:=ab (hv.below aL);have HI:=ab (cO w #[Value.int .i64 1,Value.int .i64 3,Value.int .i64 8,Value.int .i64 9,Value.int .i64 38] 3 1 5 rfl);obtain ⟨va,vc,rfl,_⟩:=id hv;clear hR aL hv;go_enter func160,ntmps160;go_wp2_with (first
  |(go_at_call 177;go_must (refine anH _ l [1,3,8,9,38] (by decide) _ 5 5 rfl _ _ HI.o_ rfl HV.o_ nv _ ?_);intro oa oc w3 an lA;have bU:=ab (anC (aD bu.o_ an bu.o_.size) (show w.drawn≤w3.drawn from lA));clear an lA))
 exact HR.o_ _ _ _ bU.o_
theorem SA(q:Int)(b:Bool)(AR:0≤q)(lV:q≤2):kr q b=(if b=true then q+4 else q):=by
 obtain rfl|rfl|rfl:q=0∨q=1∨q=2:=by omega
 all_goals cases b<;>decide+kernel
theorem aaJ(q:Int)(b:Bool)(AR:0≤q)(lV:q≤2)(m:Int)(hm:kr q b=m)(w:World)(R:Ending→World→Prop)
 (hR:R (.returned (.int .u8 m)) w):
 Calls prog 124 #[.int .i64 q,.bool b] w R:=by
 have HR:=ab hR;rw [SA q b AR lV] at hm;have HM:=ab hm;clear hR hm;cases b with
 |true=>
  have hw:IntKind.i64.wrap (q+4)=q+4:=by rw [IntKind.wrap_i64];omega
  have wk:IntKind.u8.wrap (q+4)=q+4:=by rw [IntKind.wrap_u8];omega
  have aaK:q+4=m:=by have:=HM.o_;rwa [if_pos rfl] at this
  have anM:=ab aaK;clear aaK;go_enter func124,ntmps124;go_wp2;rw [anM.o_];exact HR.o_
 |false=>
  have wk:IntKind.u8.wrap q=q:=by rw [IntKind.wrap_u8];omega
  obtain rfl:q=m:=by have:=HM.o_;rwa [if_neg (by decide)] at this
  go_enter func124,ntmps124;go_wp2;exact HR.o_
open List (nil_append)
theorem Au(n:Int)(k:Nat)(hk:1≤k)(Fx:k≤8)(P:List UInt8)(hP:aR (bj n) k=P)(w:World)(R:Ending→World→Prop)
 (hR:∀ad c w',w'.ownsRow w 5 1 (.slice ad P.length c) P.length (bv P)→Below w w w'→R (.returned (.slice ad P.length c)) w'):
 Calls prog 64 #[.int .u64 (IntKind.u64.wrap n),.int .i64 k] w R:=by
 rw [show (Value.int .u64 (IntKind.u64.wrap n))=Value.int .u64 (bj n:Int) from A1 n];refine wj (bj n) (A2 n) (k:Int) P ?_ w R hR;unfold dE;rw [if_neg (by omega),←hP]
 rfl
theorem anN(x:Nt)(hx:C5 x)(pv qv:Value)(W:World)(hp:Bs W pv x.az)(hq:Ps W qv x.props)(hB:AJ x)(oM:(x.props.flatMap bV).length≤65535)(hT:di W)(Y:List UInt8)(hY:eK x=Y)(je:Y.length≤100000)(R:Ending→World→Prop)
 (hR:∀ad c u',u'.ownsRow W 5 1 (.slice ad Y.length c) Y.length (bv Y)→Below W W u'→R (.returned (.tuple #[.slice ad Y.length c,.bool true])) u'):
 Calls prog 123 #[.agg (xT x pv qv)] W R:=by
 obtain ⟨aJ,az,al,aE,src,aN,props,origin,number,aQ⟩:=x;have zI:=hx;have arF:=hB.q;have anO:=hB.l;obtain ⟨tt,tl,pl,st,sl,q0,q1,e0,e1,m0,m1,⟨ko,ho,gO⟩,⟨kh,hh,anP⟩,lay,kk⟩:=hx;simp only at ho hh;subst ho hh;simp only at*;have HR:=ab hR;have AK:Hid ((props.flatMap bV).length≤90000000):=Nat.le_trans oM (by decide);obtain ⟨pa,pc,rfl⟩:∃a c,pv= .slice a az.length c:=by obtain ⟨a,c,e,_⟩:=hp;exact ⟨a,c,e⟩
 obtain ⟨qa,qc,rfl⟩:∃a c,qv= .slice a props.length c:=by obtain ⟨a,c,e,_⟩:=hq;exact ⟨a,c,e⟩
 obtain ⟨⟨TT,te⟩,dN⟩:∃q,b5 aJ=q:=⟨_,rfl⟩
 obtain ⟨⟨PP,pe⟩,sL⟩:∃q,cS az=q:=⟨_,rfl⟩
 obtain ⟨⟨FF,fe⟩,kI⟩:∃q,b5 src=q:=⟨_,rfl⟩
 obtain ⟨⟨XX,xe⟩,Bd⟩:∃q,eP 3 props=q:=⟨_,rfl⟩
 obtain rfl:te=0:=by have:=wE aJ tl tt;rw [dN] at this;exact (Prod.mk.inj this).2
 obtain rfl:fe=0:=by have:=wE src sl st;rw [kI] at this;exact (Prod.mk.inj this).2
 obtain rfl:pe=0:=by
  unfold cS at sL;rw [if_neg (by omega)] at sL;exact (Prod.mk.inj sL).2.symm
 obtain rfl:xe=0:=by rw [Bd] at lay;exact lay
 obtain ⟨E1,pq⟩:=ai (aR (bj aN) 8);obtain ⟨E2,pw⟩:=ai (aR (bj number) 8);have SB:TT++PP++ [b8 (kr al aE)]++FF++E1++E2++ [b8 (ko:Int),b8 (kh:Int)]++XX=Y:=by
  rw [←hY];unfold eK;simp only [dN,sL,kI,Bd,pq,pw]
 have I_:TT.length≤100000∧PP.length≤100000∧FF.length≤100000∧XX.length≤100000∧E1.length=8∧E2.length=8:=by
  have:=congrArg List.length SB;simp only [List.length_append,List.length_cons,List.length_nil] at this;refine ⟨by omega,by omega,by omega,by omega,by rw [←pq,eU],by rw [←pw,eU]⟩
 have HY:=ab SB;have aL:Below W W (W.alloc (Obj.cells (gV aJ pa az pc al aE src aN qa props qc ko number kh) 34)):=(Below.refl _ _).alloc (Nat.le_refl _) _;have n0:=heap_alloc_new W (Obj.cells (gV aJ pa az pc al aE src aN qa props qc ko number kh) 34);have l8:=ab (hT.below aL);have EO:=ab (hp.below aL);have zr:=ab (hq.below aL);obtain ⟨T,I'⟩:=ai W.heap.size;obtain ⟨u,nX⟩:=ai (W.alloc (Obj.cells (gV aJ pa az pc al aE src aN qa props qc ko number kh) 34));rw [nX] at aL n0 l8 EO zr;rw [I'] at n0;have bu:=ab aL;have c0:=af u _ 0 _ _ _ n0;have N0:=ab n0;have EP:=ab dN;have Kk:=ab sL;have tK:=ab kI;have CW:=ab Bd;have wK:=ab pq;have uU:=ab pw;have fV:Hid True:=trivial;obtain ⟨l1,l2,l3,l4,l5,l6⟩:=I_;have anQ:=ab kk;clear hR oM hp hq hT hY je dN sL kI Bd pq pw aL hB zI tt st lay kk SB;go_enter func123,ntmps123;go_upto_region 5 with (first
  |(have hq:=fV;go_at_call 63;go_must (refine yY aJ TT 0 EP.o_ _ (by omega) _ ?_);intro ta tc w2 gO ah;have ix:=ab (cp gO);have aY:=ab ah;have N2:=ab (aA N0.o_ ah);have c1:=af w2 _ 1 _ _ _ N2.o_;clear hq fV gO ah)
  |(go_at_call 67;go_must (refine FH _ az PP 0 Kk.o_ _ (EO.o_.below aY.o_) _ ?_);intro da dc w3 bD an;have eH:=ab (cp bD);have bU:=ab an;have N3:=ab (aA N2.o_ an);have c4:=af w3 _ 4 _ _ _ N3.o_;clear bD an)
  |(go_at_call 63;go_must (refine yY src FF 0 tK.o_ _ (by omega) _ ?_);intro fa fc w4 eh ak;have px:=ab (cp eh);have b6:=ab ak;have N4:=ab (aA N3.o_ ak);have c6:=af w4 _ 6 _ _ _ N4.o_;clear eh ak)
  |(go_at_call 159;go_must (refine anz 3 _ props XX 0 CW.o_ AK.o_ _ (((zr.o_.below aY.o_).below bU.o_).below b6.o_) (((l8.o_.below aY.o_).below bU.o_).below b6.o_) _ ?_);intro xa xc w5 ez aC;have iy:=ab (cp ez);have eb:=ab aC;have N5:=ab (aA N4.o_ aC);have Ja:=ab ((((zr.o_.below aY.o_).below bU.o_).below b6.o_).below aC);clear ez aC))
 clear c0 c1 c4 c6;have SC:Hid (Below u u w5):=by
  have h2:=aY.o_;exact VC
 have FE:Hid (NR w5 (.slice ta TT.length tc) (.slice da PP.length dc) (.slice fa FF.length fc) (.slice xa XX.length xc) TT PP FF XX):=ab ⟨((ix.o_.below bU.o_).below b6.o_).below eb.o_,(eH.o_.below b6.o_).below eb.o_,px.o_.below eb.o_,iy.o_⟩;have anR:props.length≤1000000:=Nat.le_trans anO (by decide);clear l8 EO zr EP Kk tK CW AK aY bU b6 eb ix eH px iy N0 N2 N3 N4;go_cut [12] from 38 to 61 (fun anS wx=>anS= .bool true∧Hid (Below w5 w5 wx))
 case first=>
  have tw:Below w5 w5 w5.drew:=(Below.refl _ _).drew;have k5:w5.drew.cell? ⟨T,6,none⟩=some (.slice qa props.length qc):=af _ T 6 _ _ _ (aA N5.o_ tw);go_region_held3 (fun x=>x.cell? ⟨T,6,none⟩=some (.slice qa props.length qc))
   (first|with_reducible exact k5|with_reducible exact k6|go_keep)
   (first
    |(go_at_call 160;refine anL _ props w5.drew (Ja.o_.below tw) anR props.length anQ.o_ _ ?_;intro ka kc w6 bI;have bg:=dw tw bI.below;have k6:w6.cell? ⟨T,6,none⟩=some (.slice qa props.length qc):=af _ T 6 _ _ _ (aA N5.o_ bg)))
  all_goals
   go_wp2_with fail;go_meet;exact ⟨rfl,ab bg⟩
 obtain ⟨rfl,mP⟩:=hcut;obtain ⟨w,rfl⟩:∃x,x=wc:=⟨_,rfl⟩
 have aaL:=aD SC.o_ mP.o_ SC.o_.size;have vL:Hid (Below W W w):=ab (aD bu.o_ aaL bu.o_.size);have SD:=aA N5.o_ mP.o_;obtain ⟨c2,c3,c5,c7,c8,c9⟩:=yr SD;have nB:=ab SD;have xI:=ab (FE.o_.below mP.o_);have arG:(ko:Int)<256:=by omega
 have arH:(kh:Int)<256:=by omega
 clear aaL SD FE mP SC N5 Ja n0 nX I' bu;go_upto_region 7 with fail
 clear c2 c3 c5 c7 c8 c9 e0 e1 m0 m1;have aaM:(w.alloc (.cells #[] 5)).ownsRow w 5 1 (.slice (some ⟨w,0,none⟩) 0 0) 0 []:=World.ownsRow_made (base:=w.heap.size) (e:=5) (size:=1) w #[] 0 (Nat.le_refl _) (by unfold maxLen;omega) rfl;have aL:=(Below.refl w w).alloc (Nat.le_refl _) (.cells #[] 5);have mx:=ab aaM;have gf:=ab aL;have Bl:Hid True:=trivial;have aaN:Hid True:=trivial;clear aaM aL;go_upto_region 8 with (first
  |(have hq:=Bl;at_builtin;go_must (refine gj (by rfl) (.tmp 113) (.tmp 114) 22 (by rfl) w 5 (.int .u8 0) 1 1 underlying22 Tryz.cJ rfl (by decide) (some ⟨w,0,none⟩) 0 0 _ (by rfl) mx.o_ ta TT.length tc _ (by rfl) (xI.o_.t.below gf.o_).parts.2.1 (eX _) xI.o_.t.parts.2.2.2.2 (by unfold maxLen;omega) (by omega) gf.o_.size ?_);intro BX c8 w8 Ar dk _;have fS:=ab (bC gf.o_ dk gf.o_.size mx.o_);have kD:=ab Ar;clear hq Bl Ar dk)
  |(have hq:=aaN;at_builtin;go_must (refine gj (by rfl) (.tmp 115) (.tmp 116) 22 (by rfl) w 5 (.int .u8 0) 1 1 underlying22 Tryz.cJ rfl (by decide) BX TT.length c8 _ (by rfl) (show w8.ownsRow w 5 1 (.slice BX TT.length c8) TT.length (bv TT) by have:=kD.o_;rwa [zero_add,nil_append] at this) da PP.length dc _ (by rfl) (xI.o_.p.below fS.o_).parts.2.1 (eX _) xI.o_.p.parts.2.2.2.2 (by unfold maxLen;omega) (by omega) fS.o_.size ?_);intro eC c9 w9 cI bo _;have ki:=ab (bC fS.o_ bo fS.o_.size (show w8.ownsRow w 5 1 (.slice BX TT.length c8) TT.length (bv TT) by have:=kD.o_;rwa [zero_add,nil_append] at this));have rL:=ab cI;clear hq aaN cI bo))
 clear mx gf kD fS;have n9:=aA nB.o_ ki.o_;have c2:=af _ T 2 _ _ _ n9;have c3:=af _ T 3 _ _ _ n9;obtain ⟨mk,gP⟩:=ai (kr al aE);have MT:=ab gP;have SE:0≤mk∧mk<256:=by
  have:=SA al aE q0 q1;rw [gP] at this;rw [this]
  split<;>omega
 have Fa:=rL.o_.alloc (Obj.cells #[.int .u8 mk] 5);have aaO:=ki.o_.alloc ki.o_.size (Obj.cells #[.int .u8 mk] 5);have aaP:=cO w9 #[.int .u8 mk] 5 1 1 rfl;have jJ:=ab Fa;have MU:=ab aaO;have aaQ:=ab aaP;have AS:Hid True:=trivial;have aaR:Hid True:=trivial;clear n9 gP Fa aaO aaP;go_upto_region 9 with (first
  |(go_at_call 124;go_must (refine aaJ al aE q0 q1 mk MT.o_ _ _ ?_))
  |(have hq:=AS;at_builtin;go_must (refine gj (by rfl) (.tmp 118) (.tmp 124) 22 (by rfl) w 5 (.int .u8 0) 1 1 underlying22 Tryz.cJ rfl (by decide) eC (TT.length+PP.length) c9 _ (by rfl) jJ.o_ (some ⟨w9,0,none⟩) 1 1 _ (by rfl) aaQ.o_ (nQ _ _) (fun h=>by cases h) (by unfold maxLen;omega) (by omega) MU.o_.size ?_);intro anT gw eo aaS iE _;have xr:=ab (bC MU.o_ iE MU.o_.size jJ.o_);have Dr:=ab aaS;clear hq AS aaS iE)
  |(have hq:=aaR;at_builtin;go_must (refine gj (by rfl) (.tmp 125) (.tmp 126) 22 (by rfl) w 5 (.int .u8 0) 1 1 underlying22 Tryz.cJ rfl (by decide) anT (TT.length+PP.length+1) gw _ (by rfl) Dr.o_ fa FF.length fc _ (by rfl) (xI.o_.f.below xr.o_).parts.2.1 (eX _) xI.o_.f.parts.2.2.2.2 (by unfold maxLen;omega) (by omega) xr.o_.size ?_);intro KR kq dR G9 mQ _;have BF:=ab (bC xr.o_ mQ xr.o_.size Dr.o_);have Af:=ab G9;clear hq aaR G9 mQ))
 clear jJ MU aaQ rL ki Dr xr c2 c3;have arI:E1.length≤8:=by omega
 have arJ:E2.length≤8:=by omega
 clear l5 l6;obtain ⟨N1,ue⟩:=ai (TT.length+PP.length+1+FF.length);obtain ⟨L1,SF⟩:=ai (bv TT++bv PP++ [Value.int .u8 mk]++bv FF);have arK:N1≤300001:=by omega
 rw [ue,SF] at Af;rw [ue];have tL:=ab ue;have vz:=ab SF;clear ue SF;go_cut [13] from 128 to 138 (fun anU wx=>∃(ad:Option Addr)(c:Nat),anU= .slice ad (N1+E1.length+E2.length) c∧Hid (wx.ownsRow w 5 1 (.slice ad (N1+E1.length+E2.length) c) (N1+E1.length+E2.length) (L1++bv E1++bv E2))∧Hid (Below w w wx))
 case first=>
  have hd:Below dR dR dR.drew:=(Below.refl _ _).drew;have qL:=ab (aD BF.o_ hd BF.o_.size);have MV:=ab (aK Af.o_ hd);have sZ:=aA nB.o_ qL.o_;have c5:=af _ T 5 _ _ _ sZ;have c8:=af _ T 8 _ _ _ sZ;have xq:Hid True:=trivial;clear hd sZ;go_region_law (first
   |(have hq:=xq;go_simp;go_at_call 64;refine Au aN 8 (by decide) (by decide) E1 wK.o_ _ _ ?_;intro MW MX wA BY cF;have sj:=ab (aK MV.o_ cF);have cb:=ab (aD qL.o_ cF qL.o_.size);have xK:=ab (cp BY);have arL:=af _ T 8 _ _ _ (aA nB.o_ cb.o_);have hA:Hid True:=trivial;clear hq xq BY cF)
   |((have hq:=hA;refine gx (by rfl) (.tmp 128) (.tmp 132) 22 (by rfl) w 5 (.int .u8 0) 1 1 underlying22 Tryz.cJ rfl (by decide) KR N1 kq _ (by rfl) sj.o_ MW E1.length MX _ (by rfl) xK.o_.parts.2.1 (eX _) xK.o_.parts.2.2.2.2 (by unfold maxLen;omega) (by omega) cb.o_.size ?_;intro rm nO lQ lR iG _;have jl:=ab (bC cb.o_ iG cb.o_.size sj.o_);have mW:=ab lR;clear hq hA lR iG);have arM:=af _ T 8 _ _ _ (aA nB.o_ jl.o_);have aaT:Hid True:=trivial)
   |(have hq:=aaT;go_simp;go_at_call 64;refine Au number 8 (by decide) (by decide) E2 uU.o_ _ _ ?_;intro BS BT wC D1 xL;have qK:=ab (aK mW.o_ xL);have pQ:=ab (aD jl.o_ xL jl.o_.size);have yj:=ab (cp D1);have bn:Hid True:=trivial;clear hq aaT D1 xL)
   |((have hq:=bn;refine gx (by rfl) (.tmp 133) (.tmp 137) 22 (by rfl) w 5 (.int .u8 0) 1 1 underlying22 Tryz.cJ rfl (by decide) rm (N1+E1.length) nO _ (by rfl) qK.o_ BS E2.length BT _ (by rfl) yj.o_.parts.2.1 (eX _) yj.o_.parts.2.2.2.2 (by unfold maxLen;omega) (by omega) pQ.o_.size ?_;intro vN vO Ah lS jt _;have qF:=ab (bC pQ.o_ jt pQ.o_.size qK.o_);have tm:=ab lS;clear hq bn lS jt))
   |(have hq:=hA;go_simp;go_at_call 64;refine Au number 8 (by decide) (by decide) E2 uU.o_ _ _ ?_;intro BS BT wC D1 xL;have qK:=ab (aK sj.o_ xL);have pQ:=ab (aD cb.o_ xL cb.o_.size);have aaU:=ab (xK.o_.below xL);have yj:=ab (cp D1);have SG:Hid True:=trivial;clear hq hA D1 xL)
   |(have anV:=SG;((have hq:=SG;refine gx (by rfl) (.tmp 128) (.tmp 132) 22 (by rfl) w 5 (.int .u8 0) 1 1 underlying22 Tryz.cJ rfl (by decide) KR N1 kq _ (by rfl) qK.o_ MW E1.length MX _ (by rfl) aaU.o_.parts.2.1 (eX _) aaU.o_.parts.2.2.2.2 (by unfold maxLen;omega) (by omega) pQ.o_.size ?_;intro rm nO lQ lR iG _;have jl:=ab (bC pQ.o_ iG pQ.o_.size qK.o_);have mW:=ab lR;clear hq SG lR iG));have xJ:Hid True:=trivial)
   |(have anV:=xJ;((have hq:=xJ;refine gx (by rfl) (.tmp 133) (.tmp 137) 22 (by rfl) w 5 (.int .u8 0) 1 1 underlying22 Tryz.cJ rfl (by decide) rm (N1+E1.length) nO _ (by rfl) mW.o_ BS E2.length BT _ (by rfl) yj.o_.parts.2.1 (eX _) yj.o_.parts.2.2.2.2 (by unfold maxLen;omega) (by omega) jl.o_.size ?_;intro vN vO Ah lS jt _;have qF:=ab (bC jl.o_ jt jl.o_.size mW.o_);have tm:=ab lS;clear hq xJ lS jt))))
  all_goals
   go_wp2_with fail;go_meet;exact ⟨vN,vO,rfl,tm,qF⟩
 obtain ⟨anW,jm,rfl,pK,Fb⟩:=hcut;obtain ⟨fP,rfl⟩:∃x,x=wc:=⟨_,rfl⟩
 obtain ⟨N2,yL⟩:=ai (N1+E1.length+E2.length);obtain ⟨L2,SI⟩:=ai (L1++bv E1++bv E2);have arN:N2≤300017:=by omega
 rw [yL,SI] at pK;rw [yL];have yK:=ab yL;have mi:=ab SI;have Bi:=aA nB.o_ Fb.o_;have c7:=af _ T 7 _ _ _ Bi;have c9:=af _ T 9 _ _ _ Bi;have aaV:=pK.o_.alloc (Obj.cells #[.int .u8 (ko:Int),.int .u8 (kh:Int)] 5);have aaW:=Fb.o_.alloc Fb.o_.size (Obj.cells #[.int .u8 (ko:Int),.int .u8 (kh:Int)] 5);have aaX:=cO fP #[.int .u8 (ko:Int),.int .u8 (kh:Int)] 5 1 2 rfl;have gT:=ab aaV;have SJ:=ab aaW;have anX:=ab aaX;have anY:Hid (∀u∈ [Value.int .u8 (ko:Int),Value.int .u8 (kh:Int)],u.oneCell'=true):=fun u hu=>by
  simp only [List.mem_cons,List.not_mem_nil,or_false] at hu;rcases hu with rfl|rfl<;>rfl
 have aaY:Hid True:=trivial;have aaZ:Hid True:=trivial;clear yL SI Bi aaV aaW aaX Af BF;go_wp2_with (first
  |(have hq:=aaY;at_builtin;go_must (refine gj (by rfl) (.tmp 139) (.tmp 146) 22 (by rfl) w 5 (.int .u8 0) 1 1 underlying22 Tryz.cJ rfl (by decide) anW N2 jm _ (by rfl) gT.o_ (some ⟨fP,0,none⟩) 2 2 _ (by rfl) anX.o_ anY.o_ (fun h=>by cases h) (by unfold maxLen;omega) (by omega) SJ.o_.size ?_);intro FJ FK LU xM sg _;have xN:=ab (bC SJ.o_ sg SJ.o_.size gT.o_);have BZ:=ab xM;clear hq aaY xM sg)
  |(have hq:=aaZ;at_builtin;go_must (refine gj (by rfl) (.tmp 147) (.tmp 148) 22 (by rfl) w 5 (.int .u8 0) 1 1 underlying22 Tryz.cJ rfl (by decide) FJ (N2+2) FK _ (by rfl) BZ.o_ xa XX.length xc _ (by rfl) (xI.o_.x.below xN.o_).parts.2.1 (eX _) xI.o_.x.parts.2.2.2.2 (by unfold maxLen;omega) (by omega) xN.o_.size ?_);intro arO arP ajl aa0 Ir _;have anZ:=ab (bC xN.o_ Ir xN.o_.size BZ.o_);have an0:=ab aa0;clear hq aaZ aa0 Ir))
 have an1:(Value.int .u8 mk)=Value.int .u8 ((b8 mk).toNat:Int):=by
  rw [←wu,IntKind.wrap_u8,show mk % 256=mk by omega]
 have bd:∀k:Nat,k<256→Value.int .u8 (k:Int)=Value.int .u8 ((b8 (k:Int)).toNat:Int):=fun k hk=>by
  rw [←wu,IntKind.wrap_u8,show (k:Int) % 256=(k:Int) by omega]
 have an2:L2++ [Value.int .u8 (ko:Int),.int .u8 (kh:Int)]++bv XX=bv Y:=by
  rw [←HY.o_,←mi.o_,←vz.o_,MT.o_,an1,bd ko gO,bd kh anP];simp only [oK,List.append_assoc]
  rfl
 have aX:N2+2+XX.length=Y.length:=by
  rw [←HY.o_,←yK.o_,←tL.o_];simp only [List.length_append,List.length_cons,List.length_nil]
 have cw:=an0.o_;rw [an2,aX] at cw;rw [aX];exact HR.o_ _ _ _ (bN cw vL.o_.size) (aD vL.o_ anZ.o_ vL.o_.size)
end Go.Proofs.YtgimbocoamnkjaaGreatDoor
