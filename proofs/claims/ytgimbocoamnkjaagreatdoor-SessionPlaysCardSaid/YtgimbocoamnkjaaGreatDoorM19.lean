/- A part of the proof of SessionPlays, printed small; no conditions of its own. -/
import Derived.Test.YtgimbocoamnkjaaGreatDoorM18
set_option maxRecDepth 100000
set_option maxHeartbeats 16000000
namespace Go.Proofs.YtgimbocoamnkjaaGreatDoor
open _root_.Go.Proofs.Tryz
variable{x:Im}{l:List Pr}{ds xs:List Value}{B B' K e m n t:Nat}{fr:Nat×Nat}{bx:Obj}{ad:Option Addr}{pv qv v:Value}{W w iF x':World}
open Go.RowKit
theorem IR.app{x:World}{s:Nat}(h:IR W W.heap.size bx x)(hr:x.ownsRow (W.heap.size+2) e s v n xs)(hg:x.grownBy x' v.ownBlock):IR W W.heap.size bx x':=by
 rcases hr.2 with ⟨rfl,_⟩|⟨g,cap,cur,rfl,hb,hk,_⟩
 ·exact h.below (ry hg (Nat.le_refl _) (fun k hk=>by simp [Value.ownBlock] at hk))
 ·exact IR.grown (K:=g) h hg (by omega) (by omega) (by omega)
theorem OP.app{wr:World}{s:Nat}{c:Nat}(h:OP W B wr ad n c ds l)(hr:wr.ownsRow B' e s v m xs)(he:e≠147)(hg:wr.grownBy iF v.ownBlock)(hB:W.heap.size≤B'):OP W B iF ad n c ds l:=by
 rcases hr.2 with ⟨rfl,_⟩|⟨g,cap,cur,rfl,hb,hk,_⟩
 ·exact h.below (ry hg (Nat.le_refl _) (fun k hk=>by simp [Value.ownBlock] at hk))
 ·exact ⟨h.nl,h.len,jv h.row hk he hg,h.old,FT h.low hg h.low.size (fun k hk=>by simp only [Value.ownBlock,Option.some.injEq] at hk;omega)⟩
theorem ajH{α ω:Type}{H G:α→ω→Prop}{Iu:Prop}(m:(∀a w,H a w→G a w)→Iu)(t:∀a w,H a w→G a w):Iu:=m t
theorem ajI(fm:Int)(qU: -9223372036854775808≤fm)(A3:fm≤9223372036854775807)(cv rv uv:Value)(co cr us:List UInt8)(L:List Pr)(hL:kQ fm co cr us=L)(W w:World)(yS:Below W W w)(yT:Bs W cv co)(fO:Bs W rv cr)(lZ:Bs W uv us)(R:Ending→World→Prop)
 (hR:∀ad c ds w',OP W w.heap.size w' ad L.length c ds L→Below w w w'→R (.returned (.slice ad L.length c)) w'):
 Calls prog 39 #[.agg #[.int .i64 fm,cv,rv,uv]] w R:=by
 by_cases h1:0≤fm
 ·exact ajD fm h1 qU A3 cv rv uv co cr us L hL W w yS yT fO lZ R hR
 ·exact ajG fm h1 qU A3 cv rv uv co cr us L hL W w yS yT fO lZ R hR
theorem OP.typed{wr:World}{cs:Array Value}{c:Nat}(h:OP W B wr ad n c ds l)(hK:wr.heap[K]? =some (.cells cs t fr))(ht:t≠147)(hg:wr.grownBy iF (some K))(h2:W.heap.size≤K):OP W B iF ad n c ds l:=
 ⟨h.nl,h.len,jv h.row hK ht hg,h.old,FT h.low hg h.low.size (fun k hk=>by cases hk;exact h2)⟩
theorem OP.mono{wr:World}{c:Nat}(h:OP W B wr ad n c ds l)(hB:B'≤B):OP W B' wr ad n c ds l:=⟨h.nl,h.len,bN h.row hB,h.old,h.low⟩
structure BN(W:World)(B:Nat)(w:World)(pv qv ev:Value)(x:Im):Prop where
 p:Bs W pv x.note.az
 q:∃ad c ds,qv= .slice ad x.note.props.length c∧OP W B w ad x.note.props.length c ds x.note.props
 i:w.ownsRow B 3 1 ev x.ids.length (Go.Proofs.YtgimbocoamnkjaaGreatDoor.iv x.ids)
 low:Below W W w
theorem BN.c{ev:Value}(h:BN W B w pv qv ev x):gH w pv qv ev x:=by
 obtain ⟨ad,c,ds,rfl,ho⟩:=h.q;obtain ⟨a,e,rfl⟩:=bF h.i;exact ⟨h.p.below h.low,ho.ps,JI h.i rfl⟩
theorem Zd{P:Prop}(h:P:=by
 have qS:∀x:World,x.heap[w.heap.size]? =some (Obj.cells (sw ta tc fa fc sa sc pa pc ca cc ra rc ua uc ia ic aJ src share az co cr us ids al sub eM fm aE aM origin number) 27)→x.heap[NB]? =some (Obj.cells (gV TP xa PY xc QW aE SP EX la L lc (bits .and .i64 origin 255) (bits .and .i64 number 16777215) 0) 34)→x.cell? ⟨w,5,none⟩=some (.int .i64 sub)∧x.cell? ⟨w,7,none⟩=some (.bool aM)∧x.cell? ⟨NB,0,none⟩=some (.string (str TP))∧x.cell? ⟨NB,1,none⟩=some (.slice xa PY.length xc)∧x.cell? ⟨NB,2,none⟩=some (.int .i64 QW)∧x.cell? ⟨NB,3,none⟩=some (.bool aE)∧x.cell? ⟨NB,4,none⟩=some (.string (str SP))∧x.cell? ⟨NB,5,none⟩=some (.int .i64 EX)∧x.cell? ⟨NB,6,none⟩=some (.slice la L.length lc)∧x.cell? ⟨NB,7,none⟩=some (.int .i64 (bits .and .i64 origin 255))∧x.cell? ⟨NB,8,none⟩=some (.int .i64 (bits .and .i64 number 16777215))∧x.cell? ⟨NB,9,none⟩=some (.int .i64 0):=fun x h k=>⟨af x _ 5 _ _ _ h,af x _ 7 _ _ _ h,af x _ 0 _ _ _ k,af x _ 1 _ _ _ k,af x _ 2 _ _ _ k,af x _ 3 _ _ _ k,af x _ 4 _ _ _ k,af x _ 5 _ _ _ k,af x _ 6 _ _ _ k,af x _ 7 _ _ _ k,af x _ 8 _ _ _ k,af x _ 9 _ _ _ k⟩
 have s0:=qS wy.drew HI.o_.box sU.o_;have s1:=qS (wy.alloc (Obj.cells a_ 36)).drew (HI.o_.alloc (Obj.cells a_ 36)).box (show (wy.alloc (Obj.cells a_ 36)).heap[NB]? =some (Obj.cells (gV TP xa PY xc QW aE SP EX la L lc (bits .and .i64 origin 255) (bits .and .i64 number 16777215) 0) 34) from gq sU.o_);have s2:=qS (wy.alloc (Obj.cells (xR TP xa PY xc QW aE SP EX la L lc (bits .and .i64 origin 255) (bits .and .i64 number 16777215) SW aM) 36)).drew (HI.o_.alloc _).box (show (wy.alloc (Obj.cells (xR TP xa PY xc QW aE SP EX la L lc (bits .and .i64 origin 255) (bits .and .i64 number 16777215) SW aM) 36)).heap[NB]? =some (Obj.cells (gV TP xa PY xc QW aE SP EX la L lc (bits .and .i64 origin 255) (bits .and .i64 number 16777215) 0) 34) from gq sU.o_);apply ajH (H:=fun (IB:Nat)(w':World)=>Hid (IR w w.heap.size (Obj.cells (sw ta tc fa fc sa sc pa pc ca cc ra rc ua uc ia ic aJ src share az co cr us ids al sub eM fm aE aM origin number) 27) w')∧Hid (w'.heap[IB]? =some (Obj.cells (xR TP xa PY xc QW aE SP EX la L lc (bits .and .i64 origin 255) (bits .and .i64 number 16777215) SW aM) 36))∧Hid (w.heap.size+2≤IB)∧Hid (∃ds,OP W w.heap.size w' la L.length lc ds L))
 ·intro Iv;have zK:=ab Iv;clear Iv;go_region_held3 (fun x=>x.cell? ⟨w,5,none⟩=some (.int .i64 sub)∧x.cell? ⟨w,7,none⟩=some (.bool aM)∧x.cell? ⟨NB,0,none⟩=some (.string (str TP))∧x.cell? ⟨NB,1,none⟩=some (.slice xa PY.length xc)∧x.cell? ⟨NB,2,none⟩=some (.int .i64 QW)∧x.cell? ⟨NB,3,none⟩=some (.bool aE)∧x.cell? ⟨NB,4,none⟩=some (.string (str SP))∧x.cell? ⟨NB,5,none⟩=some (.int .i64 EX)∧x.cell? ⟨NB,6,none⟩=some (.slice la L.length lc)∧x.cell? ⟨NB,7,none⟩=some (.int .i64 (bits .and .i64 origin 255))∧x.cell? ⟨NB,8,none⟩=some (.int .i64 (bits .and .i64 number 16777215))∧x.cell? ⟨NB,9,none⟩=some (.int .i64 0))
   (first|with_reducible exact s0|with_reducible exact s1|with_reducible exact s2|go_keep)
   (first
    |(go_at_call 20;refine mv sub 0 2 _ (by decide) (by decide) (by decide) _ ?_;rw [Iw.o_]))
  all_goals
   have hf:=And.intro ((HI.o_.alloc (Obj.cells (xR TP xa PY xc QW aE SP EX la L lc (bits .and .i64 origin 255) (bits .and .i64 number 16777215) SW aM) 36)).below (Below.refl _ _).drew) (And.intro (show (wy.alloc (Obj.cells (xR TP xa PY xc QW aE SP EX la L lc (bits .and .i64 origin 255) (bits .and .i64 number 16777215) SW aM) 36)).drew.heap[wy.heap.size]? =some (Obj.cells (xR TP xa PY xc QW aE SP EX la L lc (bits .and .i64 origin 255) (bits .and .i64 number 16777215) SW aM) 36) from heap_alloc_new wy _) (And.intro HI.o_.sz (show∃ds,OP W w.heap.size (wy.alloc (Obj.cells (xR TP xa PY xc QW aE SP EX la L lc (bits .and .i64 origin 255) (bits .and .i64 number 16777215) SW aM) 36)).drew la L.length lc ds L from by
    obtain ⟨ds,ho⟩:=Ix.o_;exact ⟨ds,(ho.below ((Below.refl _ _).alloc (Nat.le_refl _) _)).below (Below.refl _ _).drew⟩)))
   generalize (wy.alloc (Obj.cells (xR TP xa PY xc QW aE SP EX la L lc (bits .and .i64 origin 255) (bits .and .i64 number 16777215) SW aM) 36)).drew=wx at hf⊢;generalize wy.heap.size=IB at hf⊢
   with_reducible exact zK.o_ IB wx ⟨ab hf.1,ab hf.2.1,ab hf.2.2.1,ab hf.2.2.2⟩
 ·intro IB w5 ajJ;obtain ⟨qR,Ze,ow,Zf⟩:=ajJ;clear s0 s1 s2 qS xB HI sU Ix;have jP:=af w5 _ 13 _ _ _ qR.o_.box;have Zg:Hid ((qA ids).length=min ids.length 4):=by
   show _=_;unfold qA;rw [List.length_map,List.length_take,Nat.min_comm]
  go_wp2_with fail;go_loopg [5] (min ids.length 4) (fun gn i wr=>∃(k c:Nat)(ad:Option Addr),k≤min ids.length 4∧gn=min ids.length 4 - k∧i= .int .i64 k∧Hid (IR w w.heap.size (Obj.cells (sw ta tc fa fc sa sc pa pc ca cc ra rc ua uc ia ic aJ src share az co cr us ids al sub eM fm aE aM origin number) 27) wr)∧Hid (wr.heap[IB]? =some (Obj.cells #[.string (str TP),.slice xa PY.length xc,.int .i64 QW,.bool aE,.string (str SP),.int .i64 EX,.slice la L.length lc,.int .i64 (bits .and .i64 origin 255),.int .i64 (bits .and .i64 number 16777215),.int .i64 0,.int .i64 SW,.bool aM,.slice ad k c,.string ⟨#[]⟩] 36))∧Hid (wr.ownsRow (w.heap.size+2) 3 1 (.slice ad k c) k (iv ((qA ids).take k)))∧Hid (∃ds,OP W w.heap.size wr la L.length lc ds L))
  case atStart=>exact ⟨0,0,none,Nat.zero_le _,by omega,rfl,qR,Ze,World.ownsRow_nil _ _ _ _,Zf⟩
  case round=>
   obtain ⟨k,c,ad,hk,rfl,rfl,HI,Fv,aU,Iy⟩:=hrel;obtain ⟨wo,rfl⟩:∃x,x=wr:=⟨_,rfl⟩
   clear qR Ze Zf jP;have jP:=af wo _ 13 _ _ _ HI.o_.box;by_cases ao:k<min ids.length 4
   ·skip
    have ib:k<ids.length:=by omega
    have bd:(k:Int)<(ids.length:Int):=by omega
    have kZ:(k:Int)<4:=by omega
    obtain ⟨g,o,Da,qT⟩:=(HM.o_.i.below HI.o_.low).at k ib;subst Da;have hT:(qA ids).take (k+1)=(qA ids).take k++ [IntKind.i64.wrap (1+bits .and .i64 ids[k] 16777215)]:=by
     have hl:k<(qA ids).length:=by rw [Zg.o_];exact ao
     rw [List.take_succ_eq_append_getElem hl]
     congr 2
     simp [qA]
    obtain ⟨x,hx⟩:=ai (ids[k]);rw [hx] at qT hT;have HT:=ab hT;have Iz:=(aU.o_.alloc (Obj.cells #[.int .i64 (IntKind.i64.wrap (1+bits .and .i64 x 16777215))] 3))
    have L_:=gq (o':=(Obj.cells #[.int .i64 (IntKind.i64.wrap (1+bits .and .i64 x 16777215))] 3)) Fv.o_;have Rt:=HI.o_.alloc (Obj.cells #[.int .i64 (IntKind.i64.wrap (1+bits .and .i64 x 16777215))] 3);have Zh:∃ds,OP W w.heap.size (wo.alloc (Obj.cells #[.int .i64 (IntKind.i64.wrap (1+bits .and .i64 x 16777215))] 3)) la L.length lc ds L:=by
     obtain ⟨ds,ho⟩:=Iy.o_;exact ⟨ds,ho.below ((Below.refl _ _).alloc (Nat.le_refl _) _)⟩
    have Zi:=cO wo #[.int .i64 (IntKind.i64.wrap (1+bits .and .i64 x 16777215))] 3 1 1 rfl;have Zj:w.heap.size+2≤(wo.alloc (Obj.cells #[.int .i64 (IntKind.i64.wrap (1+bits .and .i64 x 16777215))] 3)).heap.size:=Rt.sz;have d12:wo.drew.cell? ⟨IB,12,none⟩=some (.slice ad k c):=af wo IB 12 _ _ _ Fv.o_;have d13:wo.drew.cell? ⟨w,13,none⟩=some (.slice (some ⟨g,o,none⟩) ids.length ic):=af wo _ 13 _ _ _ HI.o_.box;have dx:wo.drew.cell? ⟨g,o+k,none⟩=some (.int .i64 x):=qT;have Cc:(wo.alloc (Obj.cells #[.int .i64 (IntKind.i64.wrap (1+bits .and .i64 x 16777215))] 3)).drew.cell? ⟨IB,12,none⟩=some (.slice ad k c):=af _ IB 12 _ _ _ L_;clear hx hT qT;go_wp2_with fail;go_region_law (first
     |(refine gx (by rfl) (.tmp 57) (.tmp 65) 25 (by rfl) (w.heap.size+2) 3 (.int .i64 0) 1 8 underlying25 TY rfl (by decide) ad k c _ (by rfl) (aK Iz (Below.refl _ _).drew) _ 1 1 [.int .i64 (IntKind.i64.wrap (1+bits .and .i64 x 16777215))] (by rfl) (Zi.below (Below.refl _ _).drew) (nQ _ _) (fun h=>by cases h) (by unfold maxLen;omega) (by omega) Zj ?_;intro eC c9 w9 cI bo _;have Fw:=eG bo (show (wo.alloc (Obj.cells #[.int .i64 (IntKind.i64.wrap (1+bits .and .i64 x 16777215))] 3)).drew.heap[IB]? =_ from L_) (dU (show (wo.alloc (Obj.cells #[.int .i64 (IntKind.i64.wrap (1+bits .and .i64 x 16777215))] 3)).drew.heap[IB]? =_ from L_) (aK Iz (Below.refl _ _).drew) (by decide));have ajK:=af w9 IB 12 _ _ _ Fw;have f129:=aB Fw 12))
    all_goals
     have Zk:=IR.app (Rt.below (Below.refl _ _).drew) (aK Iz (Below.refl _ _).drew) bo;have Zl:∃ds,OP W w.heap.size w9 la L.length lc ds L:=by
      obtain ⟨ds,ho⟩:=Zh;exact ⟨ds,(ho.below (Below.refl _ _).drew).app (aK Iz (Below.refl _ _).drew) (by decide) bo (Nat.le_trans jI.o_.size (Nat.le_add_right _ 2))⟩
     have pN:=bL w9 ⟨IB,12,none⟩ (.slice eC (k+1) c9);have Ru:=ab (IR.grown (K:=IB) Zk pN (Nat.le_trans (Nat.le_add_right _ 2) ow.o_) (by have:=ow.o_;omega) (by have:=ow.o_;omega));have ajL:Hid ((w9.setCell ⟨IB,12,none⟩ (.slice eC (k+1) c9)).heap[IB]? =some (Obj.cells #[.string (str TP),.slice xa PY.length xc,.int .i64 QW,.bool aE,.string (str SP),.int .i64 EX,.slice la L.length lc,.int .i64 (bits .and .i64 origin 255),.int .i64 (bits .and .i64 number 16777215),.int .i64 0,.int .i64 SW,.bool aM,.slice eC (k+1) c9,.string ⟨#[]⟩] 36)):=heap_setCell_same w9 IB 12 _ _ _ Fw;have ajM:Hid ((w9.setCell ⟨IB,12,none⟩ (.slice eC (k+1) c9)).ownsRow (w.heap.size+2) 3 1 (.slice eC (k+1) c9) (k+1) (iv ((qA ids).take (k+1)))):=by
      have h1:=jv cI Fw (by decide) pN;rw [HT.o_];unfold iv;rw [List.map_append];exact h1
     have ajN:Hid (∃ds,OP W w.heap.size (w9.setCell ⟨IB,12,none⟩ (.slice eC (k+1) c9)) la L.length lc ds L):=by
      obtain ⟨ds,ho⟩:=Zl;exact ⟨ds,ho.typed Fw (by decide) pN (Nat.le_trans jI.o_.size (Nat.le_trans (Nat.le_add_right _ 2) ow.o_))⟩
     clear Zk Zl pN Fw ajK f129 cI bo Iz L_ Rt Zh Zi Zj d12 d13 dx Cc jP;go_wp2_with fail;go_roundg (min ids.length 4 - (k+1))
     case measure=>omega
     case rel=>exact ⟨k+1,c9,eC,by omega,rfl,by go_num,Ru,ajL,ajM,ajN⟩
   ·have iC:k=min ids.length 4:=by omega
    have Zm:=Zg.o_;obtain ⟨IA,Ma⟩:=ai (qA ids);rw [Ma] at Zm;have aq:=aU.o_;rw [Ma,List.take_of_length_le (by omega)] at aq;have Aj:=ab aq;have E':Hid (IA.length=k):=by show _=_;omega
    have Mb:=ab Ma;clear aq Ma Zm aU;have c2:=af wo _ 2 _ _ _ HI.o_.box;by_cases ib:k<ids.length
    ·have bd:(k:Int)<(ids.length:Int):=by omega
     have kZ:¬(k:Int)<4:=by omega
     clear iC;by_cases uS:(0:Int)<(share.length:Int)
     ·obtain ⟨xC,Ak⟩:=ai (d_ share);obtain ⟨SH,qB⟩:=ai (tf++xC);have Rv:=ab Ak;have DP:Hid ((if 0<share.length then tf++d_ share else [])=SH):=by show _=_;rw [if_pos (by omega),Ak,qB]
      have ajO:∀x:World,(Op.stringOp .add ⟨#[36,115,104,97,114,101,47,103,47]⟩ (str xC)).run prog x= .ok (.string (str SH)) x:=fun x=>by
       rw [run_string_add_sum x _ _ (by show 9+xC.length≤9223372036854775807;rw [←Ak];have:=oG share;omega),←qB];exact congrArg (fun z=>Result.ok (Value.string z) x) (L0 tf xC)
      clear Ak qB;go_wp2_with (first
       |(go_at_call 38;go_must (refine DN _ share xC Rv.o_ _ (HM.o_.s.below HI.o_.low) _ ?_;intro dR gS;have DA:=HI.o_.below gS;have uk:=BM Fv.o_ gS;have IC:=aK Aj.o_ gS;have ID:∃ds,OP W w.heap.size dR la L.length lc ds L:=Iy.o_.imp fun ds h=>h.below gS;have ajP:dR.cell? ⟨IB,13,none⟩=some (.string ⟨#[]⟩):=af dR IB 13 _ _ _ uk;have ajQ:=aB uk 13;have pN:=bL dR ⟨IB,13,none⟩ (.string (str SH));have tV:=ab (IR.grown (K:=IB) DA pN (Nat.le_trans (Nat.le_add_right _ 2) ow.o_) (by have:=ow.o_;omega) (by have:=ow.o_;omega));have oH:=ab tV.o_.res;have DQ:Hid ((dR.setCell ⟨IB,13,none⟩ (.string (str SH))).heap[IB]? =some (Obj.cells #[.string (str TP),.slice xa PY.length xc,.int .i64 QW,.bool aE,.string (str SP),.int .i64 EX,.slice la L.length lc,.int .i64 (bits .and .i64 origin 255),.int .i64 (bits .and .i64 number 16777215),.int .i64 0,.int .i64 SW,.bool aM,.slice ad k c,.string (str SH)] 36)):=heap_setCell_same dR IB 13 _ _ _ uk;have Rw:=ab (jv IC uk (by decide) pN);have Rx:Hid (∃ds,OP W w.heap.size (dR.setCell ⟨IB,13,none⟩ (.string (str SH))) la L.length lc ds L):=ID.imp fun ds h=>h.typed uk (by decide) pN (Nat.le_trans jI.o_.size (Nat.le_trans (Nat.le_add_right _ 2) ow.o_));clear DA uk IC ID pN gS))
       |(refine wpList_load_row (o:=⟨some 77,.load 36 (.tmp 4),_,_,_,_⟩) (by rfl) 36 (.tmp 4) (by rfl) (IB) (by rfl) 36 _ (0,0) _ (DQ).o_ (underlying36) (by rfl) (by kernel_rfl) ?_)
       |(refine wpList_store_row (o:=⟨none,.store 36 (.tmp 2) (.tmp 77),_,_,_,_⟩) (by rfl) 36 (.tmp 2) (.tmp 77) (by rfl) (w.heap.size+1) _ (by rfl) (by rfl) 36 _ (oH).o_ (by kernel_rfl) (by rfl) (by simp [Value.oneCell']) ?_))
      refine bodyPost_ret (results_cell_row rfl _ _ (w.heap.size+1) 36 _ (0,0) _ rfl (setRow_heap _ (w.heap.size+1) _ _ _ _ (oH).o_) underlying36 rfl (by kernel_rfl)) rfl ?_;have lB:=E'.o_;subst lB;have hX:iO ⟨aJ,src,share,az,al,sub,aE,aM,eM,fm,co,cr,us,ids,origin,number⟩=⟨⟨TP,PY,QW,aE,SP,EX,L,bits .and .i64 origin 255,bits .and .i64 number 16777215,0⟩,SW,aM,IA,SH⟩:=by
       unfold iO;simp only [l8.o_,Mc.o_,wM.o_,show List.take 300 az=PY from IE.o_,HL.o_,BO.o_,Iw.o_,HE.o_,Mb.o_,DP.o_]
      have hr:=HR.o_ xa xc la lc ad c;rw [hX] at hr;have xD:=fun cs=>below_setRow (tV).o_.low (Nat.le_add_right w.heap.size 1) cs;refine hr _ ⟨Fc.o_,?_,?_,aD jI.o_ (xD _) jI.o_.size⟩ (xD _)
      ·obtain ⟨ds,ho⟩:=(Rx).o_;exact ⟨_,_,_,rfl,ho.typed (oH).o_ (by decide) (rz _ _ _) (Nat.le_trans jI.o_.size (Nat.le_add_right _ 1))⟩
      ·exact bN (jv (Rw).o_ (oH).o_ (by decide) (rz _ _ _)) (Nat.le_add_right _ 2)
     ·have IF:¬0<share.length:=by omega
      obtain ⟨SH,qB⟩:∃l:List UInt8,[]=l:=⟨_,rfl⟩
      have DP:Hid ((if 0<share.length then tf++d_ share else [])=SH):=by show _=_;rw [if_neg IF,qB]
      have DQ:Hid (wo.heap[IB]? =some (Obj.cells #[.string (str TP),.slice xa PY.length xc,.int .i64 QW,.bool aE,.string (str SP),.int .i64 EX,.slice la L.length lc,.int .i64 (bits .and .i64 origin 255),.int .i64 (bits .and .i64 number 16777215),.int .i64 0,.int .i64 SW,.bool aM,.slice ad k c,.string (str SH)] 36)):=by show _=_;rw [←qB];exact Fv.o_
      have oH:=ab HI.o_.res;have ajR:=ab qB;clear qB IF;go_wp2_with (first
       |(refine wpList_load_row (o:=⟨some 77,.load 36 (.tmp 4),_,_,_,_⟩) (by rfl) 36 (.tmp 4) (by rfl) (IB) (by rfl) 36 _ (0,0) _ (DQ).o_ (underlying36) (by rfl) (by kernel_rfl) ?_)
       |(refine wpList_store_row (o:=⟨none,.store 36 (.tmp 2) (.tmp 77),_,_,_,_⟩) (by rfl) 36 (.tmp 2) (.tmp 77) (by rfl) (w.heap.size+1) _ (by rfl) (by rfl) 36 _ (oH).o_ (by kernel_rfl) (by rfl) (by simp [Value.oneCell']) ?_))
      refine bodyPost_ret (results_cell_row rfl _ _ (w.heap.size+1) 36 _ (0,0) _ rfl (setRow_heap _ (w.heap.size+1) _ _ _ _ (oH).o_) underlying36 rfl (by kernel_rfl)) rfl ?_;have lB:=E'.o_;subst lB;have hX:iO ⟨aJ,src,share,az,al,sub,aE,aM,eM,fm,co,cr,us,ids,origin,number⟩=⟨⟨TP,PY,QW,aE,SP,EX,L,bits .and .i64 origin 255,bits .and .i64 number 16777215,0⟩,SW,aM,IA,SH⟩:=by
       unfold iO;simp only [l8.o_,Mc.o_,wM.o_,show List.take 300 az=PY from IE.o_,HL.o_,BO.o_,Iw.o_,HE.o_,Mb.o_,DP.o_]
      have hr:=HR.o_ xa xc la lc ad c;rw [hX] at hr;have xD:=fun cs=>below_setRow (HI).o_.low (Nat.le_add_right w.heap.size 1) cs;refine hr _ ⟨Fc.o_,?_,?_,aD jI.o_ (xD _) jI.o_.size⟩ (xD _)
      ·obtain ⟨ds,ho⟩:=(Iy).o_;exact ⟨_,_,_,rfl,ho.typed (oH).o_ (by decide) (rz _ _ _) (Nat.le_trans jI.o_.size (Nat.le_add_right _ 1))⟩
      ·exact bN (jv (Aj).o_ (oH).o_ (by decide) (rz _ _ _)) (Nat.le_add_right _ 2)
    ·have bd:¬(k:Int)<(ids.length:Int):=by omega
     clear iC;by_cases uS:(0:Int)<(share.length:Int)
     ·obtain ⟨xC,Ak⟩:=ai (d_ share);obtain ⟨SH,qB⟩:=ai (tf++xC);have Rv:=ab Ak;have DP:Hid ((if 0<share.length then tf++d_ share else [])=SH):=by show _=_;rw [if_pos (by omega),Ak,qB]
      have ajO:∀x:World,(Op.stringOp .add ⟨#[36,115,104,97,114,101,47,103,47]⟩ (str xC)).run prog x= .ok (.string (str SH)) x:=fun x=>by
       rw [run_string_add_sum x _ _ (by show 9+xC.length≤9223372036854775807;rw [←Ak];have:=oG share;omega),←qB];exact congrArg (fun z=>Result.ok (Value.string z) x) (L0 tf xC)
      clear Ak qB;go_wp2_with (first
       |(go_at_call 38;go_must (refine DN _ share xC Rv.o_ _ (HM.o_.s.below HI.o_.low) _ ?_;intro dR gS;have DA:=HI.o_.below gS;have uk:=BM Fv.o_ gS;have IC:=aK Aj.o_ gS;have ID:∃ds,OP W w.heap.size dR la L.length lc ds L:=Iy.o_.imp fun ds h=>h.below gS;have ajP:dR.cell? ⟨IB,13,none⟩=some (.string ⟨#[]⟩):=af dR IB 13 _ _ _ uk;have ajQ:=aB uk 13;have pN:=bL dR ⟨IB,13,none⟩ (.string (str SH));have tV:=ab (IR.grown (K:=IB) DA pN (Nat.le_trans (Nat.le_add_right _ 2) ow.o_) (by have:=ow.o_;omega) (by have:=ow.o_;omega));have oH:=ab tV.o_.res;have DQ:Hid ((dR.setCell ⟨IB,13,none⟩ (.string (str SH))).heap[IB]? =some (Obj.cells #[.string (str TP),.slice xa PY.length xc,.int .i64 QW,.bool aE,.string (str SP),.int .i64 EX,.slice la L.length lc,.int .i64 (bits .and .i64 origin 255),.int .i64 (bits .and .i64 number 16777215),.int .i64 0,.int .i64 SW,.bool aM,.slice ad k c,.string (str SH)] 36)):=heap_setCell_same dR IB 13 _ _ _ uk;have Rw:=ab (jv IC uk (by decide) pN);have Rx:Hid (∃ds,OP W w.heap.size (dR.setCell ⟨IB,13,none⟩ (.string (str SH))) la L.length lc ds L):=ID.imp fun ds h=>h.typed uk (by decide) pN (Nat.le_trans jI.o_.size (Nat.le_trans (Nat.le_add_right _ 2) ow.o_));clear DA uk IC ID pN gS))
       |(refine wpList_load_row (o:=⟨some 77,.load 36 (.tmp 4),_,_,_,_⟩) (by rfl) 36 (.tmp 4) (by rfl) (IB) (by rfl) 36 _ (0,0) _ (DQ).o_ (underlying36) (by rfl) (by kernel_rfl) ?_)
       |(refine wpList_store_row (o:=⟨none,.store 36 (.tmp 2) (.tmp 77),_,_,_,_⟩) (by rfl) 36 (.tmp 2) (.tmp 77) (by rfl) (w.heap.size+1) _ (by rfl) (by rfl) 36 _ (oH).o_ (by kernel_rfl) (by rfl) (by simp [Value.oneCell']) ?_))
      refine bodyPost_ret (results_cell_row rfl _ _ (w.heap.size+1) 36 _ (0,0) _ rfl (setRow_heap _ (w.heap.size+1) _ _ _ _ (oH).o_) underlying36 rfl (by kernel_rfl)) rfl ?_;have lB:=E'.o_;subst lB;have hX:iO ⟨aJ,src,share,az,al,sub,aE,aM,eM,fm,co,cr,us,ids,origin,number⟩=⟨⟨TP,PY,QW,aE,SP,EX,L,bits .and .i64 origin 255,bits .and .i64 number 16777215,0⟩,SW,aM,IA,SH⟩:=by
       unfold iO;simp only [l8.o_,Mc.o_,wM.o_,show List.take 300 az=PY from IE.o_,HL.o_,BO.o_,Iw.o_,HE.o_,Mb.o_,DP.o_]
      have hr:=HR.o_ xa xc la lc ad c;rw [hX] at hr;have xD:=fun cs=>below_setRow (tV).o_.low (Nat.le_add_right w.heap.size 1) cs;refine hr _ ⟨Fc.o_,?_,?_,aD jI.o_ (xD _) jI.o_.size⟩ (xD _)
      ·obtain ⟨ds,ho⟩:=(Rx).o_;exact ⟨_,_,_,rfl,ho.typed (oH).o_ (by decide) (rz _ _ _) (Nat.le_trans jI.o_.size (Nat.le_add_right _ 1))⟩
      ·exact bN (jv (Rw).o_ (oH).o_ (by decide) (rz _ _ _)) (Nat.le_add_right _ 2)
     ·have IF:¬0<share.length:=by omega
      obtain ⟨SH,qB⟩:∃l:List UInt8,[]=l:=⟨_,rfl⟩
      have DP:Hid ((if 0<share.length then tf++d_ share else [])=SH):=by show _=_;rw [if_neg IF,qB]
      have DQ:Hid (wo.heap[IB]? =some (Obj.cells #[.string (str TP),.slice xa PY.length xc,.int .i64 QW,.bool aE,.string (str SP),.int .i64 EX,.slice la L.length lc,.int .i64 (bits .and .i64 origin 255),.int .i64 (bits .and .i64 number 16777215),.int .i64 0,.int .i64 SW,.bool aM,.slice ad k c,.string (str SH)] 36)):=by show _=_;rw [←qB];exact Fv.o_
      have oH:=ab HI.o_.res;have ajR:=ab qB;clear qB IF;go_wp2_with (first
       |(refine wpList_load_row (o:=⟨some 77,.load 36 (.tmp 4),_,_,_,_⟩) (by rfl) 36 (.tmp 4) (by rfl) (IB) (by rfl) 36 _ (0,0) _ (DQ).o_ (underlying36) (by rfl) (by kernel_rfl) ?_)
       |(refine wpList_store_row (o:=⟨none,.store 36 (.tmp 2) (.tmp 77),_,_,_,_⟩) (by rfl) 36 (.tmp 2) (.tmp 77) (by rfl) (w.heap.size+1) _ (by rfl) (by rfl) 36 _ (oH).o_ (by kernel_rfl) (by rfl) (by simp [Value.oneCell']) ?_))
      refine bodyPost_ret (results_cell_row rfl _ _ (w.heap.size+1) 36 _ (0,0) _ rfl (setRow_heap _ (w.heap.size+1) _ _ _ _ (oH).o_) underlying36 rfl (by kernel_rfl)) rfl ?_;have lB:=E'.o_;subst lB;have hX:iO ⟨aJ,src,share,az,al,sub,aE,aM,eM,fm,co,cr,us,ids,origin,number⟩=⟨⟨TP,PY,QW,aE,SP,EX,L,bits .and .i64 origin 255,bits .and .i64 number 16777215,0⟩,SW,aM,IA,SH⟩:=by
       unfold iO;simp only [l8.o_,Mc.o_,wM.o_,show List.take 300 az=PY from IE.o_,HL.o_,BO.o_,Iw.o_,HE.o_,Mb.o_,DP.o_]
      have hr:=HR.o_ xa xc la lc ad c;rw [hX] at hr;have xD:=fun cs=>below_setRow (HI).o_.low (Nat.le_add_right w.heap.size 1) cs;refine hr _ ⟨Fc.o_,?_,?_,aD jI.o_ (xD _) jI.o_.size⟩ (xD _)
      ·obtain ⟨ds,ho⟩:=(Iy).o_;exact ⟨_,_,_,rfl,ho.typed (oH).o_ (by decide) (rz _ _ _) (Nat.le_trans jI.o_.size (Nat.le_add_right _ 1))⟩
      ·exact bN (jv (Aj).o_ (oH).o_ (by decide) (rz _ _ _)) (Nat.le_add_right _ 2)):P:=h
theorem ajS(m:Md)(hb:DO m)(a0 a1 a2 a3 b1 b2 b3 b4:Value)(W w:World)(hW:Below W W w)(IG:yR W a0 a1 a2 a3 b1 b2 b3 b4 m)(R:Ending→World→Prop)
 (hR:∀pa pc qa qc ea ec w',BN W w.heap.size w' (.slice pa (iO m).note.az.length pc) (.slice qa (iO m).note.props.length qc) (.slice ea (iO m).ids.length ec) (iO m)→Below w w w'→R (.returned (Value.agg (aG (iO m) pa pc qa qc ea ec))) w'):
 Calls prog 9 #[.agg #[a0,a1,a2,a3,.int .i64 m.al,.int .i64 m.sub,.bool m.aE,.bool m.aM,.int .i64 m.eM,.int .i64 m.fm,b1,b2,b3,b4,.int .i64 m.origin,.int .i64 m.number]] w R:=by
 have HR:=ab hR;have hm:=IG.below hW;have HM:=ab hm;have Me:=ab IG;have jI:=ab hW;have Zn:=ab hb.fm;obtain ⟨aJ,src,share,az,al,sub,aE,aM,eM,fm,co,cr,us,ids,origin,number⟩:=m;obtain ⟨⟨ta,tc,rfl,_⟩,⟨fa,fc,rfl,_⟩,⟨sa,sc,rfl,_⟩,⟨pa,pc,rfl,_⟩,⟨ca,cc,rfl,_⟩,⟨ra,rc,rfl,_⟩,⟨ua,uc,rfl,_⟩,⟨ia,ic,rfl,_⟩⟩:=hm;simp only at*;clear hR hb IG hW;obtain ⟨T0,xE⟩:=ai (d_ aJ);obtain ⟨TP,Ry⟩:=ai (116::T0);obtain ⟨SP,Zo⟩:=ai (d_ src);obtain ⟨PY,Zp⟩:=ai (az.take (300:Int).toNat);obtain ⟨L,hL⟩:=ai (kQ fm co cr us);obtain ⟨QW,Zq⟩:=ai (within al 0 2);have Y9:(⟨#[116]⟩:ByteArray)++str T0=str TP:=by rw [←Ry];exact L0 [116] T0
 have ajv:¬(1+(str T0).size > 9223372036854775807):=by
  show¬(1+T0.length > 9223372036854775807);rw [←xE];have:=oG aJ
  omega
 have Mf:∀x:World,(Op.stringOp .add ⟨#[116]⟩ (str T0)).run prog x= .ok (.string (str TP)) x:=fun x=>by
  rw [run_string_add_sum x _ _ (by show 1+T0.length≤9223372036854775807;rw [←xE];have:=oG aJ;omega),Y9]
 have l8:=ab xE;have Mc:=ab Ry;have wM:=ab Zo;have IE:=ab Zp;have HL:=ab hL;have BO:=ab Zq;have i0:IR w w.heap.size (Obj.cells (sw ta tc fa fc sa sc pa pc ca cc ra rc ua uc ia ic aJ src share az co cr us ids al sub eM fm aE aM origin number) 27) ((w.alloc (Obj.cells (sw ta tc fa fc sa sc pa pc ca cc ra rc ua uc ia ic aJ src share az co cr us ids al sub eM fm aE aM origin number) 27)).alloc (Obj.cells a_ 36)):=⟨((Below.refl _ _).alloc (Nat.le_refl _) _).alloc (by simp) _,gq (heap_alloc_new w (Obj.cells (sw ta tc fa fc sa sc pa pc ca cc ra rc ua uc ia ic aJ src share az co cr us ids al sub eM fm aE aM origin number) 27)),by
  have:=heap_alloc_new (w.alloc (Obj.cells (sw ta tc fa fc sa sc pa pc ca cc ra rc ua uc ia ic aJ src share az co cr us ids al sub eM fm aE aM origin number) 27)) (Obj.cells a_ 36);rw [show (w.alloc (Obj.cells (sw ta tc fa fc sa sc pa pc ca cc ra rc ua uc ia ic aJ src share az co cr us ids al sub eM fm aE aM origin number) 27)).heap.size=w.heap.size+1 by simp] at this;exact this,by simp⟩
 clear xE Ry Zo Zp hL Zq;go_enter func9,ntmps9;go_wp2_with fail;generalize (w.alloc (Obj.cells (sw ta tc fa fc sa sc pa pc ca cc ra rc ua uc ia ic aJ src share az co cr us ids al sub eM fm aE aM origin number) 27)).alloc (Obj.cells a_ 36)=w1 at i0⊢;have I0:=ab i0;have Mg:IR w w.heap.size (Obj.cells (sw ta tc fa fc sa sc pa pc ca cc ra rc ua uc ia ic aJ src share az co cr us ids al sub eM fm aE aM origin number) 27) (w1.alloc (Obj.cells fW 34)).drew:=(i0.alloc (Obj.cells fW 34)).below (Below.refl _ _).drew;have j2:(w1.alloc (Obj.cells fW 34)).drew.heap[w1.heap.size]? =some (Obj.cells fW 34):=heap_alloc_new w1 (Obj.cells fW 34);replace i0:=i0.below (Below.refl w1 w1).drew;have xB:∀x:World,x.heap[w.heap.size]? =some (Obj.cells (sw ta tc fa fc sa sc pa pc ca cc ra rc ua uc ia ic aJ src share az co cr us ids al sub eM fm aE aM origin number) 27)→x.cell? ⟨w,0,none⟩=some (.slice ta aJ.length tc)∧x.cell? ⟨w,1,none⟩=some (.slice fa src.length fc)∧x.cell? ⟨w,3,none⟩=some (.slice pa az.length pc)∧x.cell? ⟨w,4,none⟩=some (.int .i64 al)∧x.cell? ⟨w,6,none⟩=some (.bool aE)∧x.cell? ⟨w,9,none⟩=some (.int .i64 fm)∧x.cell? ⟨w,10,none⟩=some (.slice ca co.length cc)∧x.cell? ⟨w,11,none⟩=some (.slice ra cr.length rc)∧x.cell? ⟨w,12,none⟩=some (.slice ua us.length uc)∧x.cell? ⟨w,14,none⟩=some (.int .i64 origin)∧x.cell? ⟨w,15,none⟩=some (.int .i64 number):=fun x h=>⟨af x _ 0 _ _ _ h,af x _ 1 _ _ _ h,af x _ 3 _ _ _ h,af x _ 4 _ _ _ h,af x _ 6 _ _ _ h,af x _ 9 _ _ _ h,af x _ 10 _ _ _ h,af x _ 11 _ _ _ h,af x _ 12 _ _ _ h,af x _ 14 _ _ _ h,af x _ 15 _ _ _ h⟩
 have s0:=xB w1.drew i0.box;apply ajA (H:=fun (xa:Option Addr)(xc:Nat)(la:Option Addr)(lc:Nat)(NB:Nat)(w':World)=>Hid (IR w w.heap.size (Obj.cells (sw ta tc fa fc sa sc pa pc ca cc ra rc ua uc ia ic aJ src share az co cr us ids al sub eM fm aE aM origin number) 27) w')∧Hid (w'.heap[NB]? =some (Obj.cells (gV TP xa PY xc QW aE SP 0 la L lc (bits .and .i64 origin 255) (bits .and .i64 number 16777215) 0) 34))∧Hid (w.heap.size+2≤NB)∧Hid (Bs W (.slice xa PY.length xc) PY)∧Hid (∃ds,OP W w.heap.size w' la L.length lc ds L))
 ·intro Iv;have Mh:=ab Iv;clear Iv;go_region_held3 (fun x=>x.cell? ⟨w,0,none⟩=some (.slice ta aJ.length tc)∧x.cell? ⟨w,1,none⟩=some (.slice fa src.length fc)∧x.cell? ⟨w,3,none⟩=some (.slice pa az.length pc)∧x.cell? ⟨w,4,none⟩=some (.int .i64 al)∧x.cell? ⟨w,6,none⟩=some (.bool aE)∧x.cell? ⟨w,9,none⟩=some (.int .i64 fm)∧x.cell? ⟨w,10,none⟩=some (.slice ca co.length cc)∧x.cell? ⟨w,11,none⟩=some (.slice ra cr.length rc)∧x.cell? ⟨w,12,none⟩=some (.slice ua us.length uc)∧x.cell? ⟨w,14,none⟩=some (.int .i64 origin)∧x.cell? ⟨w,15,none⟩=some (.int .i64 number))
   (first|with_reducible exact s0|with_reducible exact xB _ Mg.box|with_reducible exact xB _ i3.box|with_reducible exact xB _ (i3.alloc _).box|with_reducible exact xB _ i5.box|with_reducible exact xB _ (i5.alloc _).box|with_reducible exact xB _ i7.box|with_reducible exact xB _ (i7.alloc _).box|with_reducible exact xB _ (IR.grown i7 (Zc nS _ _ _ _ _ _ _ _ _ _).2 (Nat.le_trans (Nat.le_add_right _ 2) fg) (by omega) (by omega)).box|go_keep)
   (first
    |(go_at_call_of 38 aJ.length;refine DN _ aJ T0 l8.o_ _ (HM.o_.t.below (IR.low (by first|with_reducible exact i0|with_reducible exact Mg))) _ ?_;intro w3 an;have i3:=IR.below (by first|with_reducible exact i0|with_reducible exact Mg) an)
    |(go_at_call 30;refine Y_ _ az PY 300 IE.o_ W _ Me.o_.p (by decide) _ ?_;intro xa xc Mi)
    |(go_at_call 20;refine mv al 0 2 _ (by decide) (by decide) (by decide) _ ?_;rw [BO.o_])
    |(go_at_call_of 38 src.length;refine DN _ src SP wM.o_ _ (HM.o_.f.below (IR.low (by first|with_reducible exact i3|with_reducible exact i3.alloc _))) _ ?_;intro w5 aC;have i5:=IR.below (by first|with_reducible exact i3|with_reducible exact i3.alloc _) aC)
    |(go_at_call 39;refine ajI fm Zn.o_.1 Zn.o_.2 _ _ _ co cr us L HL.o_ W _ (aD jI.o_ (IR.low (by first|with_reducible exact i5|with_reducible exact i5.alloc _)) jI.o_.size) Me.o_.c Me.o_.r Me.o_.u _ ?_;intro la lc ds w7 yO aZ;replace yO:=yO.mono (Nat.le_trans (Nat.le_add_right w.heap.size 2) (IR.sz (by first|with_reducible exact i5|with_reducible exact i5.alloc _)));have i7:=IR.below (by first|with_reducible exact i5|with_reducible exact i5.alloc _) aZ;first|(have nS:w7.heap[w1.heap.size]? =some (Obj.cells fW 34):=BM (BM (BM j2 an) aC) aZ;have fg:w.heap.size+2≤w1.heap.size:=i0.sz;obtain ⟨⟨z0,z1,z2,z3,z4⟩,z5,z6,z7,z8,z9⟩:=Rs nS;have zf:=aB nS)|(have nS:w7.heap[w3.heap.size]? =some (Obj.cells fW 34):=BM (BM (heap_alloc_new w3 (Obj.cells fW 34)) aC) aZ;have fg:w.heap.size+2≤w3.heap.size:=i3.sz;obtain ⟨⟨z0,z1,z2,z3,z4⟩,z5,z6,z7,z8,z9⟩:=Rs nS;have zf:=aB nS)|(have nS:w7.heap[w5.heap.size]? =some (Obj.cells fW 34):=BM (heap_alloc_new w5 (Obj.cells fW 34)) aZ;have fg:w.heap.size+2≤w5.heap.size:=i5.sz;obtain ⟨⟨z0,z1,z2,z3,z4⟩,z5,z6,z7,z8,z9⟩:=Rs nS;have zf:=aB nS)|skip))
  all_goals first
   |(
     have hf:=And.intro (i7.alloc (Obj.cells (gV TP xa PY xc QW aE SP 0 la L lc (bits .and .i64 origin 255) (bits .and .i64 number 16777215) 0) 34)) (And.intro (heap_alloc_new w7 (Obj.cells (gV TP xa PY xc QW aE SP 0 la L lc (bits .and .i64 origin 255) (bits .and .i64 number 16777215) 0) 34)) (And.intro i7.sz (yO.below ((Below.refl w7 w7).alloc (Nat.le_refl _) (Obj.cells (gV TP xa PY xc QW aE SP 0 la L lc (bits .and .i64 origin 255) (bits .and .i64 number 16777215) 0) 34)))));generalize w7.alloc (Obj.cells (gV TP xa PY xc QW aE SP 0 la L lc (bits .and .i64 origin 255) (bits .and .i64 number 16777215) 0) 34)=wz at hf⊢;generalize w7.heap.size=NB at hf⊢
     with_reducible exact Mh.o_ xa xc la lc NB wz ⟨ab hf.1,ab hf.2.1,ab hf.2.2.1,ab Mi,ab ⟨_,hf.2.2.2⟩⟩)
   |(
     have hp:=Zc nS (.string (str TP)) (.slice xa PY.length xc) (.int .i64 QW) (.bool aE) (.string (str SP)) (.int .i64 0) (.slice la L.length lc) (.int .i64 (bits .and .i64 origin 255)) (.int .i64 (bits .and .i64 number 16777215)) (.int .i64 0);have hf:=And.intro (IR.grown i7 hp.2 (Nat.le_trans (Nat.le_add_right _ 2) fg) (by omega) (by omega)) (And.intro hp.1 (And.intro fg (yO.typed nS (by decide) hp.2 (Nat.le_trans jI.o_.size (Nat.le_trans (Nat.le_add_right _ 2) fg)))));clear hp nS fg zf z0 z1 z2 z3 z4 z5 z6 z7 z8 z9
     first
      |(
        generalize ((((((((((w7.setCell ⟨(w5.heap.size),0,none⟩ (.string (str TP))).setCell ⟨(w5.heap.size),1,none⟩ (.slice xa PY.length xc)).setCell ⟨(w5.heap.size),2,none⟩ (.int .i64 QW)).setCell ⟨(w5.heap.size),3,none⟩ (.bool aE)).setCell ⟨(w5.heap.size),4,none⟩ (.string (str SP))).setCell ⟨(w5.heap.size),5,none⟩ (.int .i64 0)).setCell ⟨(w5.heap.size),6,none⟩ (.slice la L.length lc)).setCell ⟨(w5.heap.size),7,none⟩ (.int .i64 (bits .and .i64 origin 255))).setCell ⟨(w5.heap.size),8,none⟩ (.int .i64 (bits .and .i64 number 16777215))).setCell ⟨(w5.heap.size),9,none⟩ (.int .i64 0))=wz at hf⊢;generalize w5.heap.size=NB at hf⊢
        with_reducible exact Mh.o_ xa xc la lc NB wz ⟨ab hf.1,ab hf.2.1,ab hf.2.2.1,ab Mi,ab ⟨_,hf.2.2.2⟩⟩)
      |(
        generalize ((((((((((w7.setCell ⟨(w3.heap.size),0,none⟩ (.string (str TP))).setCell ⟨(w3.heap.size),1,none⟩ (.slice xa PY.length xc)).setCell ⟨(w3.heap.size),2,none⟩ (.int .i64 QW)).setCell ⟨(w3.heap.size),3,none⟩ (.bool aE)).setCell ⟨(w3.heap.size),4,none⟩ (.string (str SP))).setCell ⟨(w3.heap.size),5,none⟩ (.int .i64 0)).setCell ⟨(w3.heap.size),6,none⟩ (.slice la L.length lc)).setCell ⟨(w3.heap.size),7,none⟩ (.int .i64 (bits .and .i64 origin 255))).setCell ⟨(w3.heap.size),8,none⟩ (.int .i64 (bits .and .i64 number 16777215))).setCell ⟨(w3.heap.size),9,none⟩ (.int .i64 0))=wz at hf⊢;generalize w3.heap.size=NB at hf⊢
        with_reducible exact Mh.o_ xa xc la lc NB wz ⟨ab hf.1,ab hf.2.1,ab hf.2.2.1,ab Mi,ab ⟨_,hf.2.2.2⟩⟩)
      |(
        generalize ((((((((((w7.setCell ⟨(w1.heap.size),0,none⟩ (.string (str TP))).setCell ⟨(w1.heap.size),1,none⟩ (.slice xa PY.length xc)).setCell ⟨(w1.heap.size),2,none⟩ (.int .i64 QW)).setCell ⟨(w1.heap.size),3,none⟩ (.bool aE)).setCell ⟨(w1.heap.size),4,none⟩ (.string (str SP))).setCell ⟨(w1.heap.size),5,none⟩ (.int .i64 0)).setCell ⟨(w1.heap.size),6,none⟩ (.slice la L.length lc)).setCell ⟨(w1.heap.size),7,none⟩ (.int .i64 (bits .and .i64 origin 255))).setCell ⟨(w1.heap.size),8,none⟩ (.int .i64 (bits .and .i64 number 16777215))).setCell ⟨(w1.heap.size),9,none⟩ (.int .i64 0))=wz at hf⊢;generalize w1.heap.size=NB at hf⊢
        with_reducible exact Mh.o_ xa xc la lc NB wz ⟨ab hf.1,ab hf.2.1,ab hf.2.2.1,ab Mi,ab ⟨_,hf.2.2.2⟩⟩))
 ·intro xa xc la lc NB wz hh;obtain ⟨HI,sU,qi,Fc,Ix⟩:=hh;clear i0 Mg j2 s0 I0;obtain ⟨c0,c1,c3,c4,c6,c9,gw,kq,jm,BP,BQ⟩:=xB wz HI.o_.box;have c8:wz.cell? ⟨w,8,none⟩=some (.int .i64 eM):=af wz _ 8 _ _ _ HI.o_.box;obtain ⟨SW,Zr⟩:=ai (within sub 0 2);have Iw:=ab Zr;clear Zr;by_cases pC:0<eM
  ·have c5:=af wz NB 5 _ _ _ sU.o_;have f5:=aB sU.o_ 5;go_wp2_with fail;have pN:=bL wz ⟨NB,5,none⟩ (.int .i64 (bits .and .i64 eM 65535));have Rz:=heap_setCell_same wz NB 5 _ _ (.int .i64 (bits .and .i64 eM 65535)) sU.o_;have hi:=IR.grown (K:=NB) HI.o_ pN (Nat.le_trans (Nat.le_add_right _ 2) qi.o_) (by have:=qi.o_;omega) (by have:=qi.o_;omega);have yO:∃ds,OP W w.heap.size (wz.setCell ⟨NB,5,none⟩ (.int .i64 (bits .and .i64 eM 65535))) la L.length lc ds L:=Ix.o_.imp fun ds h=>h.typed sU.o_ (by decide) pN (Nat.le_trans jI.o_.size (Nat.le_trans (Nat.le_add_right _ 2) qi.o_));clear pN c5 f5 HI sU Ix c0 c1 c3 c4 c6 c9 gw kq jm BP BQ c8;generalize wz.setCell ⟨NB,5,none⟩ (.int .i64 (bits .and .i64 eM 65535))=wy at hi Rz yO⊢;obtain ⟨EX,DR⟩:∃e:Int,bits .and .i64 eM 65535=e:=⟨_,rfl⟩
   have IH:wy.heap[NB]? =some (Obj.cells (gV TP xa PY xc QW aE SP EX la L lc (bits .and .i64 origin 255) (bits .and .i64 number 16777215) 0) 34):=by rw [←DR];exact Rz
   have HI:=ab hi;have sU:=ab IH;have Ix:=ab yO;have RA:=ab DR;clear hi Rz yO DR IH;have HE:Hid ((if 0<eM then bits .and .i64 eM 65535 else 0)=EX):=(by show _=_;rw [if_pos pC,RA.o_])
   exact Zd
  ·go_wp2_with fail;obtain ⟨wy,rfl⟩:∃x,x=wz:=⟨_,rfl⟩
   obtain ⟨EX,DR⟩:∃e:Int,e=0:=⟨_,rfl⟩
   have IH:wy.heap[NB]? =some (Obj.cells (gV TP xa PY xc QW aE SP EX la L lc (bits .and .i64 origin 255) (bits .and .i64 number 16777215) 0) 34):=by rw [DR];exact sU.o_
   replace sU:=ab IH;have RA:=ab DR;clear c0 c1 c3 c4 c6 c9 gw kq jm BP BQ c8 IH DR;have HE:Hid ((if 0<eM then bits .and .i64 eM 65535 else 0)=EX):=(by show _=_;rw [if_neg (by omega),RA.o_])
   exact Zd
variable{S:Nat}{M:Nat→Prop}{s:aF}
theorem SR.mS(h:SR w M S s):M S:=by
 obtain ⟨NB,MB,GB,GM,sv,qv,fv,hx⟩:=h;exact hx.mS
theorem SR.lt(h:SR w M S s):∀b,M b→b<w.heap.size:=by
 obtain ⟨NB,MB,GB,GM,sv,qv,fv,hx⟩:=h;exact hx.lt
theorem BN.wr{ev:Value}(h:BN W B w pv qv ev x)(hM:∀b,M b→W.heap.size≤b∧b<B):Safe (Wr w M) w fun y=>gH y pv qv ev x:=fun M' w' s=>by
 have hW:∀b,Wr w M b→W.heap.size≤b:=by
  rintro b (hb|⟨_,m,hm,gy⟩)
  ·exact (hM b hb).1
  ·exact Nat.le_trans (hM m hm).1 gy
 have hl:=aD h.low (s.low (B:=W.heap.size) h.low.size hW) (Nat.le_refl _);have key:∀{e size n:Nat}{v:Value}{xs:List Value},¬vX (e+2)→w.ownsRow B e size v n xs→w'.ownsRow B e size v n xs:=fun he ho=>TZ ho (fun k hk hm=>by
  rcases hm with hm|⟨hm,_⟩
  ·have:=(ho.lt k hk).1;have:=(hM k hm).2
   omega
  ·rw [eI ho k hk] at hm;exact he hm) M' w' s
 obtain ⟨ad,c,ds,e,ho⟩:=h.q;exact BN.c ⟨h.p,⟨ad,c,ds,e,ho.nl,ho.len,key (by unfold vX;decide) ho.row,ho.old,hl⟩,key (by unfold vX;decide) h.i,hl⟩
variable{Rb:Nat}{Ms:Nat→Prop}{fv dp gv sv:Value}{w' w1:World}
theorem RX.Cj(h:RX w Ms M Rb sv qv fv gv s)(ao:∀b,Ms b→b<w.heap.size)(cs:Array Value):
 RX (w.alloc (.cells cs 36)) Ms (fun b=>M b∨b=w.heap.size) Rb sv qv fv gv s∧Sep M (fun b=>M b∨b=w.heap.size) w (w.alloc (.cells cs 36)):=by
 have hb:Below w w (w.alloc (.cells cs 36)):=(Below.refl _ _).alloc (Nat.le_refl _) _;have hs:Sep M (fun b=>M b∨b=w.heap.size) w (w.alloc (.cells cs 36)):=(Sep.cU hb).more (fun b hb=>hb.imp id (fun e=>by omega)) (fun F ⟨m,hm,hl⟩=>⟨m,.inl hm,hl⟩);have h1:=h.below hb;refine ⟨⟨h1.hS,h1.hs,h1.hq,h1.hf,h1.hg,.inl h.mR,fun k hk=> .inl (h.ms k hk),fun k hk=> .inl (h.mq k hk),fun k hk=> .inl (h.mf k hk),h.mg,?_,?_,?_,?_⟩,hs⟩
 ·rintro b (hm|rfl)
  ·exact h1.kd b hm
  ·rw [jR (heap_alloc_new w _)];exact .inr (.inl rfl)
 ·rintro b (hm|rfl)
  ·exact h.lo b hm
  ·obtain ⟨m,m1,m2⟩:=h.lo Rb h.mR;have:=h.rb;exact ⟨m,m1,by omega⟩
 ·rintro b (hm|rfl)
  ·exact h.qj b hm
  ·intro h2;have:=ao _ h2
   omega
 ·rintro b (hm|rfl)
  ·exact h1.lt b hm
  ·simp
theorem RX.inner(h:RX w Ms M Rb sv qv fv gv s)(hK:M K)(e0:K≠Rb)(e1:sv.ownBlock≠some K)(e2:qv.ownBlock≠some K)(e3:fv.ownBlock≠some K)(hg:w.grownBy w' (some K))(hk:bA w' K=bA w K):
 RX w' Ms M Rb sv qv fv gv s∧Sep M M w w':=by
 have hs:Sep M M w w':= .kn hg (fun k hk=>by cases hk;exact hK);have key:∀b,b<w.heap.size→b≠K→w'.heap[b]? =w.heap[b]?:=fun b hb bh=>hg.block b hb (fun e=>bh (Option.some.inj e));have own:∀{v:Value}{k:Nat},v.ownBlock≠some K→v.ownBlock=some k→k≠K:=fun hv hk e=>hv (e▸hk);refine ⟨⟨(key Rb h.rb e0.symm).trans h.hS,j_ h.hs (fun k dK=>key k (h.hs.lt k dK).2 (own e1 dK)),?_,?_,j_ h.hg (fun k dK=>key k (h.hg.lt k dK).2 (fun e=> ?_)),h.mR,h.ms,h.mq,h.mf,h.mg,fun b hb=> ?_,h.lo,h.qj,fun b hb=>Nat.lt_of_lt_of_le (h.lt b hb) hg.size⟩,hs⟩
 ·obtain ⟨ps,h1,h2,h3⟩:=h.hq;exact ⟨ps,h1,h2.uM (fun k dK=>key k (h2.lt k dK) (own e2 dK)),fun p hp=>(h3 p hp).apart h.kd h.lo hs⟩
 ·obtain ⟨ps,h1,h2,h3⟩:=h.hf;exact ⟨ps,h1,j_ h2 (fun k dK=>key k (h2.lt k dK).2 (own e3 dK)),fun p hp=>(h3 p hp).apart h.kd h.lo hs⟩
 ·have h1:=h.kd K hK;have h2:=eI h.hg k dK;rw [e] at h2;exact h1.int h2
 ·by_cases e:b=K
  ·rw [e,hk];exact h.kd K hK
  ·rw [xi (key b (h.lt b hb) e)];exact h.kd b hb
theorem RX.qN{ps:List (V3×Fl)}{fs:List Fl}(h:RX w Ms M Rb sv qv fv gv s)(ao:∀b,Ms b→b<w.heap.size)(aT:ps.map (·.2)=fs)(aS:∀p∈ps,db w Ms p.1 p.2.item)
 (hr:w1.ownsRow 0 51 16 dp fs.length (ps.flatMap bH)) (ha:tB w w1 fv dp):
 ∃M',RX (w1.setCell ⟨Rb,6,none⟩ dp) Ms M' Rb sv qv dp gv {s with aj:=fs}∧Sep M M' w (w1.setCell ⟨Rb,6,none⟩ dp)∧(∀b,M b→M' b):=by
 have hg:=ha.grown;have bJ:(dp.ownBlock=fv.ownBlock∧w.grownBy w1 fv.ownBlock)∨((∃k,dp.ownBlock=some k∧w.heap.size≤k)∧w.grownBy w1 none):=by
  rcases ha with ⟨b,n,n',c,rfl,rfl,h3⟩|h3
  ·exact .inl ⟨rfl,h3⟩
  ·exact .inr h3
 obtain ⟨K,jL,hK⟩:∃K,w.grownBy w1 (some K)∧(M K∧bA w K=51+2∨w.heap.size≤K):=by
  cases hv:fv.ownBlock with
  |none=>exact ⟨w.heap.size,uK (by rw [hv] at hg;exact hg),.inr (Nat.le_refl _)⟩
  |some k=>exact ⟨k,by rw [hv] at hg;exact hg,.inl ⟨h.mf k hv,h.Hc k hv⟩⟩
 have ju:∀k,dp.ownBlock=some k→M k∨w.heap.size≤k:=fun k hk=>by
  rcases bJ with ⟨e,_⟩|⟨⟨k',e,gy⟩,_⟩
  ·exact .inl (h.mf k (e▸hk))
  ·rw [e] at hk;cases hk;exact .inr gy
 let M':Nat→Prop:=fun b=>M b∨dp.ownBlock=some b
 have ch:Sep M M' w w1:=⟨jL.os,jL.tape,jL.output,jL.size,fun b hb hM=>jL.block b hb (fun e=>by
  have e:=Option.some.inj e;rcases hK with ⟨hk,_⟩|hk
  ·exact hM (e▸hk)
  ·omega),fun b hb=>by
  rcases hb with hb|hb
  ·exact .inl hb
  ·exact ju b hb,fun F ⟨m,hm,hl⟩=>⟨m,.inl hm,hl⟩⟩
 have bh:∀b,b<w.heap.size→bA w b≠51+2→w1.heap[b]? =w.heap[b]?:=fun b hb hk=>jL.block b hb (fun e=>by
  have e:=Option.some.inj e;rcases hK with ⟨_,fA⟩|fA
  ·exact hk (e▸fA)
  ·omega)
 have iz:=(bh Rb h.rb (by rw [h.Bq];decide)).trans h.hS;have ib:bA w1 Rb=62+2:=jR iz;have bM:=bL w1 ⟨Rb,6,none⟩ dp;have bt:Sep M' M' w1 (w1.setCell ⟨Rb,6,none⟩ dp):= .kn bM (fun k hk=>by cases hk;exact .inl h.mR);have hs:=ch.trans bt;have aM:∀b,b<w1.heap.size→bA w1 b≠62+2→(w1.setCell ⟨Rb,6,none⟩ dp).heap[b]? =w1.heap[b]?:=fun b hb hk=>bM.block b hb (fun e=>hk (Option.some.inj e▸ib));have both:∀b,b<w.heap.size→bA w b≠51+2→bA w b≠62+2→(w1.setCell ⟨Rb,6,none⟩ dp).heap[b]? =w.heap[b]?:=fun b hb k1 k2=>by
  exact Es
 have Hc:∀b,dp.ownBlock=some b→bA (w1.setCell ⟨Rb,6,none⟩ dp) b=51+2:=fun b hb=>by
  have h1:=eI hr b hb;rw [xi (aM b (hr.lt b hb).2 (by rw [h1];decide))];exact h1
 refine ⟨M',⟨?_,j_ h.hs (fun k hk=>both k (h.hs.lt k hk).2 (by rw [eI h.hs k hk];decide) (by rw [eI h.hs k hk];decide)),?_,?_,j_ h.hg (fun k hk=>both k (h.hg.lt k hk).2 (by rw [eI h.hg k hk];decide) (by rw [eI h.hg k hk];decide)),
  .inl h.mR,fun k hk=> .inl (h.ms k hk),fun k hk=> .inl (h.mq k hk),fun k hk=> .inr hk,h.mg,?_,?_,?_,?_⟩,hs,fun b hb=> .inl hb⟩
 ·rw [heap_setCell_same w1 Rb 6 _ _ _ iz]
  rfl
 ·obtain ⟨qs,q1,q2,q3⟩:=h.hq;exact ⟨qs,q1,q2.uM (fun k hk=>both k (q2.lt k hk) (by rw [q2.kind k hk];decide) (by rw [q2.kind k hk];decide)),fun p hp=>(q3 p hp).apart h.kd h.lo hs⟩
 ·exact ⟨ps,aT,jv hr iz (by decide) bM,fun p hp=>(aS p hp).apart h.kd h.lo hs⟩
 ·rintro b (hb|hb)
  ·by_cases e:dp.ownBlock=some b
   ·rw [Hc b e];exact .inr (.inr (.inl rfl))
   ·by_cases e2:b=Rb
    ·subst e2;refine .inl ?_;unfold bA;rw [heap_setCell_same _ _ _ _ _ _ iz]
    ·have h1:w1.heap[b]? =w.heap[b]?:=by
      rcases bJ with ⟨e4,cT⟩|⟨_,cT⟩
      ·exact cT.block b (h.lt b hb) (fun e5=>e (by rw [e4];exact e5.symm))
      ·exact cT.block b (h.lt b hb) (by simp)
     rw [xi ((heap_setCell_other _ _ _ _ e2).trans h1)];exact h.kd b hb
  ·rw [Hc b hb];exact .inr (.inr (.inl rfl))
 ·rintro b (hb|hb)
  ·exact h.lo b hb
  ·rcases ju b hb with h1|h1
   ·exact h.lo b h1
   ·obtain ⟨m,m1,m2⟩:=h.lo Rb h.mR;have:=h.rb;exact ⟨m,m1,by omega⟩
 ·rintro b (hb|hb)
  ·exact h.qj b hb
  ·rcases ju b hb with h1|h1
   ·exact h.qj b h1
   ·intro h2;have:=ao b h2
    omega
 ·rintro b (hb|hb)
  ·exact Nat.lt_of_lt_of_le (h.lt b hb) hs.size
  ·have:=(hr.lt b hb).2
   simpa [World.setCell] using this
theorem ajT{P:Program}{o:Oper}{a:Act}{K:Act→World→Prop}{Q:Exit→Act→World→Prop}(s x:Operand)(t:TypeId)
 (ho:o.op= .call {callee:= .builtin .append,args:=#[s,x],argTypes:=#[t,t]})
 (base:Nat) (e:TypeId) (z:Value) (size bytes:Nat) (ht:P.underlying t=some (.slice e)) (j8:(P.info? e).map (fun i=>(i.zero,i.size,i.bytes))=some (some z,size,bytes)) (gp:z.cells.size=size) (bm:0<size)
 (v:Value) (n:Nat) (xs:List Value) (hs:a.eval s=v) (aV:w.ownsRow base e size v n xs)
 (b:Nat) (m c:Nat) (news:List Value) (hx:a.eval x= .slice (some ⟨b,0,none⟩) m c) (bG:Rd w size (some ⟨b,0,none⟩) m news) (h1:∀u∈news,u.oneCell'=true)
 (h63:n+m≤maxLen) (eQ:(n+m) *bytes≤140737488355328) (iS:base≤w.heap.size) (hm:0<m)
 (h:∀bq c' w',w'.ownsRow base e size (.slice bq (n+m) c') (n+m) (xs++news)→tB w w' v (.slice bq (n+m) c')→K (a.put o.dst (.slice bq (n+m) c')) w'):o.wp P a w K Q:=by
 obtain ⟨i,hi,hz,cQ,gU⟩:=info_parts j8;have lC:∀j u,news[j]? =some u→w.cell? ((⟨b,0,none⟩:Addr).add j)=some u:=fun j u hj=>by
  have pT:j<m*size:=by rw [←bG.1];exact (List.getElem?_eq_some_iff.1 hj).1
  obtain ⟨b',o',e',hc⟩:=bG.2 (by omega);cases e';rw [Addr.add_lit,hc j pT];exact hj
 obtain ⟨v',w',hr,h2,h3⟩:=JP (P:=P) w base t o.type e i z size bytes ht hi hz cQ gU gp bm v n xs aV ⟨b,0,none⟩ m c news bG.1 lC h1 h63 eQ iS hm;obtain ⟨bq,c',rfl⟩:=bF h2;exact ND
theorem Zs{P:Program}{ops:Array Oper}{o:Oper}{a:Act}{K:Act→World→Prop}{Q:Exit→Act→World→Prop}{E:Prop}(kT:o.guard=none)(s x:Operand)(t:TypeId)
 (ho:o.op= .call {callee:= .builtin .append,args:=#[s,x],argTypes:=#[t,t]})
 (base:Nat) (e:TypeId) (z:Value) (size bytes:Nat) (ht:P.underlying t=some (.slice e)) (j8:(P.info? e).map (fun i=>(i.zero,i.size,i.bytes))=some (some z,size,bytes)) (gp:z.cells.size=size) (bm:0<size)
 (v:Value) (n:Nat) (xs:List Value) (hs:a.eval s=v) (aV:w.ownsRow base e size v n xs)
 (b:Nat) (m c:Nat) (news:List Value) (hx:a.eval x= .slice (some ⟨b,0,none⟩) m c) (bG:Rd w size (some ⟨b,0,none⟩) m news) (h1:∀u∈news,u.oneCell'=true)
 (h63:n+m≤maxLen) (eQ:(n+m) *bytes≤140737488355328) (iS:base≤w.heap.size) (hm:0<m)
 (h:∀bq c' w',w'.ownsRow base e size (.slice bq (n+m) c') (n+m) (xs++news)→tB w w' v (.slice bq (n+m) c')→K (a.put o.dst (.slice bq (n+m) c')) w'):
 if Region.wanted o (yielded ops a.tmps)=true then Oper.wp P o a w K Q else E:=by
 have hw:Region.wanted o (yielded ops a.tmps)=true:=by simp [Region.wanted,kT]
 rw [if_pos hw];exact ajT s x t ho base e z size bytes ht j8 gp bm v n xs hs aV b m c news hx bG h1 h63 eQ iS hm h
end Go.Proofs.YtgimbocoamnkjaaGreatDoor
