/- A part of the proof of SessionReads; no conditions. -/
import Derived.Test.YtgimbocoamnkjaaGreatDoorM14
set_option maxRecDepth 100000
set_option maxHeartbeats 16000000
namespace Go.Proofs.YtgimbocoamnkjaaGreatDoor
open _root_.Go.Proofs.Tryz
variable{x:Im}{l:List Pr}{ds xs:List Value}{B B' K e m n t:Nat}{fr:Nat×Nat}{bx:Obj}{Y:av}{pv qv v:Value}{aw4 w lQ x':World}
open Go.RowKit
theorem IR.app{x:World}{s:Nat}(h:IR aw4 aw4.heap.size bx x)(hr:x.ownsRow (aw4.heap.size+2) e s v n xs)(A:x.grownBy x' v.ownBlock):IR aw4 aw4.heap.size bx x':=by
 rcases hr.2 with⟨rfl,_⟩|⟨g,cap,cur,rfl,U,G,_⟩
 ·exact h.below (s_ A bj (fun k G=>by simp[Value.ownBlock] at G))
 exact IR.grown (K:=g) h A (by omega) (by omega) (by omega)
theorem OP.app{wr:World}{s:Nat}{c:Nat}(h:OP aw4 B wr Y n c ds l)(hr:wr.ownsRow B' e s v m xs)(he:e≠147)(A:wr.grownBy lQ v.ownBlock)(hB:aw4.heap.size≤B'):OP aw4 B lQ Y n c ds l:=by
 rcases hr.2 with⟨rfl,_⟩|⟨g,cap,cur,rfl,U,G,_⟩
 ·exact h.below (s_ A bj (fun k G=>by simp[Value.ownBlock] at G))
 exact⟨h.nl,h.len,iO h.row G he A,h.old,Jr h.low A h.low.size (fun k G=>by simp only[Value.ownBlock,Option.some.injEq] at G;omega)⟩
theorem al4{α ω:Type}{H awV:α→ω→Prop}{Lh:Prop}(m:(∀a w,H a w→awV a w)→Lh)(t:∀a w,H a w→awV a w):Lh:=m t
theorem al5(fm:Int)(qF: -9223372036854775808≤fm)(zd:fm≤9223372036854775807)(cv rv uv:Value)(co cr us:List UInt8)(L:List Pr)(hL:mJ fm co cr us=L)(aw4 w:World)(A2:Below aw4 aw4 w)(A3:Bs aw4 cv co)(fL:Bs aw4 rv cr)(rH:Bs aw4 uv us)(R:ak)
 (I:∀Y c ds w',OP aw4 w.heap.size w' Y L.length c ds L→Below w w w'→R (.returned (.slice Y L.length c)) w'):
 Calls prog 39 #[.agg #[E fm,cv,rv,uv]] w R:=by
 by_cases h1:0≤fm
 ·exact al0 fm h1 qF zd cv rv uv co cr us L hL aw4 w A2 A3 fL rH R I
 exact al3 fm h1 qF zd cv rv uv co cr us L hL aw4 w A2 A3 fL rH R I
theorem OP.typed{wr:World}{cs:Array Value}{c:Nat}(h:OP aw4 B wr Y n c ds l)(hK:wr.heap[K]? =some (.cells cs t fr))(ht:t≠147)(A:wr.grownBy lQ (some K))(h2:aw4.heap.size≤K):OP aw4 B lQ Y n c ds l:=
 ⟨h.nl,h.len,iO h.row hK ht A,h.old,Jr h.low A h.low.size (fun k G=>by cases G;exact h2)⟩
theorem OP.mono{wr:World}{c:Nat}(h:OP aw4 B wr Y n c ds l)(hB:B'≤B):OP aw4 B' wr Y n c ds l:=⟨h.nl,h.len,cm h.row hB,h.old,h.low⟩
structure DU(aw4:World)(B:Nat)(w:World)(pv qv ev:Value)(x:Im):Prop where
 p:Bs aw4 pv x.note.ay
 q:∃Y c ds,qv= .slice Y x.note.props.length c∧OP aw4 B w Y x.note.props.length c ds x.note.props
 i:w.ownsRow B 3 1 ev x.ids.length (Go.Proofs.YtgimbocoamnkjaaGreatDoor.iv x.ids)
 low:Below aw4 aw4 w
theorem DU.c{ev:Value}(h:DU aw4 B w pv qv ev x):ie w pv qv ev x:=by
 obtain⟨Y,c,ds,rfl,ho⟩:=h.q;obtain⟨a,e,rfl⟩:=cR h.i;exact⟨h.p.below h.low,ho.ps,Jv h.i rfl⟩
theorem abD{P:Prop}(h:P:=by
 have qS:∀x:World,x.heap[w.heap.size]? =some (.cells (ve ta tc fa fc sa sc V X ca cc ra rc ua uc ia ic aF src share ay co cr us ids ah sub fM fm aL aI origin number) 27)→x.heap[NB]? =some (.cells (fj TP xa PY xc QW aL SP EX la L lc (bits .and .i64 origin 255) (bits .and .i64 number 16777215) 0) 34)→x.cell? ⟨w,5,none⟩=some (.int .i64 sub)∧x.cell? ⟨w,7,none⟩=some (.bool aI)∧x.cell? ⟨NB,0,none⟩=some (.string (str TP))∧x.cell? ⟨NB,1,none⟩=some (.slice xa PY.length xc)∧x.cell? ⟨NB,2,none⟩=some (.int .i64 QW)∧x.cell? ⟨NB,3,none⟩=some (.bool aL)∧x.cell? ⟨NB,4,none⟩=some (.string (str SP))∧x.cell? ⟨NB,5,none⟩=some (.int .i64 EX)∧x.cell? ⟨NB,6,none⟩=some (.slice la L.length lc)∧x.cell? ⟨NB,7,none⟩=some (.int .i64 (bits .and .i64 origin 255))∧x.cell? ⟨NB,8,none⟩=some (.int .i64 (bits .and .i64 number 16777215))∧x.cell? ⟨NB,9,none⟩=some (.int .i64 0):=fun x h k=>⟨D 5 h,D 7 h,D 0 k,D 1 k,D 2 k,D 3 k,D 4 k,D 5 k,D 6 k,D 7 k,D 8 k,D 9 k⟩
 have s0:=qS wy.drew HI.O.box nS.O;have s1:=qS (wy.alloc (.cells aX 36)).drew (HI.O.alloc (.cells aX 36)).box (show(wy.alloc (.cells aX 36)).heap[NB]? =some (.cells (fj TP xa PY xc QW aL SP EX la L lc (bits .and .i64 origin 255) (bits .and .i64 number 16777215) 0) 34) from js nS.O);have s2:=qS (wy.alloc (.cells (Av TP xa PY xc QW aL SP EX la L lc (bits .and .i64 origin 255) (bits .and .i64 number 16777215) SW aI) 36)).drew (HI.O.alloc _).box (show(wy.alloc (.cells (Av TP xa PY xc QW aL SP EX la L lc (bits .and .i64 origin 255) (bits .and .i64 number 16777215) SW aI) 36)).heap[NB]? =some (.cells (fj TP xa PY xc QW aL SP EX la L lc (bits .and .i64 origin 255) (bits .and .i64 number 16777215) 0) 34) from js nS.O);apply al4 (H:=fun (IB:Nat)(w':World)=>Hid (IR w w.heap.size (.cells (ve ta tc fa fc sa sc V X ca cc ra rc ua uc ia ic aF src share ay co cr us ids ah sub fM fm aL aI origin number) 27) w')∧Hid (w'.heap[IB]? =some (.cells (Av TP xa PY xc QW aL SP EX la L lc (bits .and .i64 origin 255) (bits .and .i64 number 16777215) SW aI) 36))∧Hid (w.heap.size+2≤IB)∧Hid (∃ds,OP aw4 w.heap.size w' la L.length lc ds L))
 ·intro Li;have vI:=Z Li;clear Li;go_region_held3 (fun x=>x.cell? ⟨w,5,none⟩=some (.int .i64 sub)∧x.cell? ⟨w,7,none⟩=some (.bool aI)∧x.cell? ⟨NB,0,none⟩=some (.string (str TP))∧x.cell? ⟨NB,1,none⟩=some (.slice xa PY.length xc)∧x.cell? ⟨NB,2,none⟩=some (.int .i64 QW)∧x.cell? ⟨NB,3,none⟩=some (.bool aL)∧x.cell? ⟨NB,4,none⟩=some (.string (str SP))∧x.cell? ⟨NB,5,none⟩=some (.int .i64 EX)∧x.cell? ⟨NB,6,none⟩=some (.slice la L.length lc)∧x.cell? ⟨NB,7,none⟩=some (.int .i64 (bits .and .i64 origin 255))∧x.cell? ⟨NB,8,none⟩=some (.int .i64 (bits .and .i64 number 16777215))∧x.cell? ⟨NB,9,none⟩=some (.int .i64 0))
   (first|with_reducible exact s0|with_reducible exact s1|with_reducible exact s2|go_keep)
   (first
    |(go_at_call 20;refine py sub 0 2 _ (by decide) (by decide) (by decide) _ ?_;rw[Lj.O]))
  all_goals
   have hf:=And.intro ((HI.O.alloc (.cells (Av TP xa PY xc QW aL SP EX la L lc (bits .and .i64 origin 255) (bits .and .i64 number 16777215) SW aI) 36)).below (bq _)) (And.intro (show(wy.alloc (.cells (Av TP xa PY xc QW aL SP EX la L lc (bits .and .i64 origin 255) (bits .and .i64 number 16777215) SW aI) 36)).drew.heap[wy.heap.size]? =some (.cells (Av TP xa PY xc QW aL SP EX la L lc (bits .and .i64 origin 255) (bits .and .i64 number 16777215) SW aI) 36) from aH wy _) (And.intro HI.O.sz (show∃ds,OP aw4 w.heap.size (wy.alloc (.cells (Av TP xa PY xc QW aL SP EX la L lc (bits .and .i64 origin 255) (bits .and .i64 number 16777215) SW aI) 36)).drew la L.length lc ds L from by
    obtain⟨ds,ho⟩:=Lk.O;exact⟨ds,(ho.below (aD _ _)).below (bq _)⟩)))
   generalize (wy.alloc (.cells (Av TP xa PY xc QW aL SP EX la L lc (bits .and .i64 origin 255) (bits .and .i64 number 16777215) SW aI) 36)).drew=wx at hf⊢;generalize wy.heap.size=IB at hf⊢
   with_reducible exact vI.O IB wx ⟨Z hf.1,Z hf.2.1,Z hf.2.2.1,Z hf.2.2.2⟩
 intro IB w5 al6;obtain⟨pR,abE,tK,abF⟩:=al6;clear s0 s1 s2 qS zR HI nS Lk;have jN:=D 13 pR.O.box;have abG:Hid ((sQ ids).length=min ids.length 4):=by
  show _=_;unfold sQ;rw[j0,bS,Nat.min_comm]
 go_wp2_with fail;go_loopg [5] (min ids.length 4) (fun gn i wr=>∃(k c:Nat)(Y:av),k≤min ids.length 4∧gn=min ids.length 4 - k∧i= .int .i64 k∧Hid (IR w w.heap.size (.cells (ve ta tc fa fc sa sc V X ca cc ra rc ua uc ia ic aF src share ay co cr us ids ah sub fM fm aL aI origin number) 27) wr)∧Hid (wr.heap[IB]? =some (.cells #[.string (str TP),.slice xa PY.length xc,E QW,.bool aL,.string (str SP),E EX,.slice la L.length lc,E (bits .and .i64 origin 255),E (bits .and .i64 number 16777215),E 0,E SW,.bool aI,.slice Y k c,.string ⟨#[]⟩] 36))∧Hid (wr.ownsRow (w.heap.size+2) 3 1 (.slice Y k c) k (iv ((sQ ids).take k)))∧Hid (∃ds,OP aw4 w.heap.size wr la L.length lc ds L))
 case atStart=>exact⟨0,0,none,bP _,by omega,rfl,pR,abE,bO _ _ _ _,abF⟩
 case round=>
  obtain⟨k,c,Y,G,rfl,rfl,HI,Iu,aV,Ll⟩:=hrel;obtain⟨wo,rfl⟩:∃x,x=wr:=⟨_,rfl⟩
  clear pR abE abF jN;have jN:=D 13 HI.O.box;by_cases au:k<min ids.length 4
  ·skip
   have iS:k<ids.length:=by omega
   have bo:(k:Int)<(ids.length:Int):=by omega
   have rl:(k:Int)<4:=by omega
   obtain⟨g,o,FC,tF⟩:=(HM.O.i.below HI.O.low).at k iS;subst FC;have hT:(sQ ids).take (k+1)=(sQ ids).take k++ [IntKind.i64.wrap (1+bits .and .i64 ids[k] 16777215)]:=by
    have hl:k<(sQ ids).length:=by rw[abG.O];exact au
    rw[kF hl]
    congr 2
    simp[sQ]
   obtain⟨x,F⟩:=ai (ids[k]);rw[F] at tF hT;have HT:=Z hT;have Lm:=(aV.O.alloc (.cells #[.int .i64 (IntKind.i64.wrap (1+bits .and .i64 x 16777215))] 3))
   have Pq:=js (o':=(Obj.cells #[.int .i64 (IntKind.i64.wrap (1+bits .and .i64 x 16777215))] 3)) Iu.O;have T9:=HI.O.alloc (.cells #[.int .i64 (IntKind.i64.wrap (1+bits .and .i64 x 16777215))] 3);have abH:∃ds,OP aw4 w.heap.size (wo.alloc (.cells #[.int .i64 (IntKind.i64.wrap (1+bits .and .i64 x 16777215))] 3)) la L.length lc ds L:=by
    obtain⟨ds,ho⟩:=Ll.O;exact⟨ds,ho.below (aD _ _)⟩
   have abI:=dO wo #[.int .i64 (IntKind.i64.wrap (1+bits .and .i64 x 16777215))] 3 1 1 rfl;have abJ:w.heap.size+2≤(wo.alloc (.cells #[.int .i64 (IntKind.i64.wrap (1+bits .and .i64 x 16777215))] 3)).heap.size:=T9.sz;have d12:wo.drew.cell? ⟨IB,12,none⟩=some (.slice Y k c):=D 12 Iu.O;have d13:wo.drew.cell? ⟨w,13,none⟩=some (.slice (some ⟨g,o,none⟩) ids.length ic):=D 13 HI.O.box;have dx:wo.drew.cell? ⟨g,o+k,none⟩=some (.int .i64 x):=tF;have Ew:(wo.alloc (.cells #[.int .i64 (IntKind.i64.wrap (1+bits .and .i64 x 16777215))] 3)).drew.cell? ⟨IB,12,none⟩=some (.slice Y k c):=D 12 Pq;clear F hT tF;go_wp2_with fail;go_region_law (first
    |(refine ig (by rfl) (.tmp 57) (.tmp 65) 25 (by rfl) (w.heap.size+2) 3 (E 0) 1 8 underlying25 XL rfl (by decide) Y k c _ (by rfl) (aR Lm (bq _)) _ 1 1 [.int .i64 (IntKind.i64.wrap (1+bits .and .i64 x 16777215))] (by rfl) (abI.below (bq _)) (px _ _) (fun h=>by cases h) (by unfold maxLen;omega) (by omega) abJ ?_;intro fK c9 w9 dA bW _;have Iv:=hZ bW (show(wo.alloc (.cells #[.int .i64 (IntKind.i64.wrap (1+bits .and .i64 x 16777215))] 3)).drew.heap[IB]? =_ from Pq) (i_ (show(wo.alloc (.cells #[.int .i64 (IntKind.i64.wrap (1+bits .and .i64 x 16777215))] 3)).drew.heap[IB]? =_ from Pq) (aR Lm (bq _)) (by decide));have al7:=D 12 Iv;have f129:=aC Iv 12))
   all_goals
    have abK:=IR.app (T9.below (bq _)) (aR Lm (bq _)) bW;have abL:∃ds,OP aw4 w.heap.size w9 la L.length lc ds L:=by
     obtain⟨ds,ho⟩:=abH;exact⟨ds,(ho.below (bq _)).app (aR Lm (bq _)) (by decide) bW (aJ kN.O.size (lE _ 2))⟩
    have rT:=br w9 ⟨IB,12,none⟩ (.slice fK (k+1) c9);have Iw:=Z (IR.grown (K:=IB) abK rT (aJ (lE _ 2) tK.O) (by have:=tK.O;omega) (by have:=tK.O;omega));have al8:Hid ((w9.setCell ⟨IB,12,none⟩ (.slice fK (k+1) c9)).heap[IB]? =some (.cells #[.string (str TP),.slice xa PY.length xc,E QW,.bool aL,.string (str SP),E EX,.slice la L.length lc,E (bits .and .i64 origin 255),E (bits .and .i64 number 16777215),E 0,E SW,.bool aI,.slice fK (k+1) c9,.string ⟨#[]⟩] 36)):=bm w9 IB 12 _ _ _ Iv;have al9:Hid ((w9.setCell ⟨IB,12,none⟩ (.slice fK (k+1) c9)).ownsRow (w.heap.size+2) 3 1 (.slice fK (k+1) c9) (k+1) (iv ((sQ ids).take (k+1)))):=by
     have h1:=iO dA Iv (by decide) rT;rw[HT.O];unfold iv;rw[nv];exact h1
    have ama:Hid (∃ds,OP aw4 w.heap.size (w9.setCell ⟨IB,12,none⟩ (.slice fK (k+1) c9)) la L.length lc ds L):=by
     obtain⟨ds,ho⟩:=abL;exact⟨ds,ho.typed Iv (by decide) rT (aJ kN.O.size (aJ (lE _ 2) tK.O))⟩
    clear abK abL rT Iv al7 f129 dA bW Lm Pq T9 abH abI abJ d12 d13 dx Ew jN;go_wp2_with fail;go_roundg (min ids.length 4 - (k+1))
    case measure=>omega
    case rel=>exact⟨k+1,c9,fK,by omega,rfl,by go_num,Iw,al8,al9,ama⟩
  have jh:k=min ids.length 4:=by omega
  have abM:=abG.O;obtain⟨Ln,Pu⟩:=ai (sQ ids);rw[Pu] at abM;have aq:=aV.O;rw[Pu,gy (by omega)] at aq;have Cl:=Z aq;have Lp:Hid (Ln.length=k):=by show _=_;omega
  have Pv:=Z Pu;clear aq Pu abM aV;have c2:=D 2 HI.O.box;by_cases iS:k<ids.length
  ·have bo:(k:Int)<(ids.length:Int):=by omega
   have rl:¬(k:Int)<4:=by omega
   clear jh;by_cases lW:(0:Int)<(share.length:Int)
   ·obtain⟨zS,Cm⟩:=ai (e_ share);obtain⟨SH,sR⟩:=ai (vR++zS);have T_:=Z Cm;have F9:Hid ((if 0<share.length then vR++e_ share else [])=SH):=by show _=_;rw[if_pos (by omega),Cm,sR]
    have amb:∀x:World,(Op.stringOp .add ⟨#[36,115,104,97,114,101,47,103,47]⟩ (str zS)).run prog x= .ok (.string (str SH)) x:=fun x=>by
     rw[run_string_add_sum x _ _ (by show 9+zS.length≤9223372036854775807;rw[←Cm];have:=qN share;omega),←sR];exact congrArg (fun z=>Result.ok (Value.string z) x) (Pg vR zS)
    clear Cm sR;go_wp2_with (first
     |(go_at_call 38;go_must(refine F6 _ share zS T_.O _ (HM.O.s.below HI.O.low) _ ?_;intro du eH;have AZ:=HI.O.below eH;have xg:=DT Iu.O eH;have Lq:=aR Cl.O eH;have Lr:∃ds,OP aw4 w.heap.size du la L.length lc ds L:=Ll.O.imp fun ds h=>h.below eH;have amc:du.cell? ⟨IB,13,none⟩=some (.string ⟨#[]⟩):=D 13 xg;have amd:=aC xg 13;have rT:=br du ⟨IB,13,none⟩ (.string (str SH));have vS:=Z (IR.grown (K:=IB) AZ rT (aJ (lE _ 2) tK.O) (by have:=tK.O;omega) (by have:=tK.O;omega));have qO:=Z vS.O.res;have F_:Hid ((du.setCell ⟨IB,13,none⟩ (.string (str SH))).heap[IB]? =some (.cells #[.string (str TP),.slice xa PY.length xc,E QW,.bool aL,.string (str SP),E EX,.slice la L.length lc,E (bits .and .i64 origin 255),E (bits .and .i64 number 16777215),E 0,E SW,.bool aI,.slice Y k c,.string (str SH)] 36)):=bm du IB 13 _ _ _ xg;have T':=Z (iO Lq xg (by decide) rT);have Ua:Hid (∃ds,OP aw4 w.heap.size (du.setCell ⟨IB,13,none⟩ (.string (str SH))) la L.length lc ds L):=Lr.imp fun ds h=>h.typed xg (by decide) rT (aJ kN.O.size (aJ (lE _ 2) tK.O));clear AZ xg Lq Lr rT eH))
     |(refine kJ 77 36 4 IB F_.O underlying36 ?_)
     |(refine gw 36 2 77 (w.heap.size+1) qO.O ?_))
    refine bodyPost_ret (results_cell_row rfl _ _ (w.heap.size+1) 36 _ (0,0) _ rfl (setRow_heap _ (w.heap.size+1) _ _ _ _ (qO).O) underlying36 rfl (by kernel_rfl)) rfl ?_;have td:=Lp.O;subst td;have hX:jW ⟨aF,src,share,ay,ah,sub,aL,aI,fM,fm,co,cr,us,ids,origin,number⟩=⟨⟨TP,PY,QW,aL,SP,EX,L,bits .and .i64 origin 255,bits .and .i64 number 16777215,0⟩,SW,aI,Ln,SH⟩:=by
     unfold jW;simp only[pH.O,Pw.O,zr.O,show List.take 300 ay=PY from Ls.O,HL.O,DV.O,Lj.O,HE.O,Pv.O,F9.O]
    have hr:=HR.O xa xc la lc Y c;rw[hX] at hr;have zT:=fun cs=>below_setRow (vS).O.low (lE w.heap.size 1) cs;refine hr _ ⟨Ij.O,?_,?_,cz kN.O (zT _) kN.O.size⟩ (zT _)
    ·obtain⟨ds,ho⟩:=(Ua).O;exact⟨_,_,_,rfl,ho.typed (qO).O (by decide) (ui _ _ _) (aJ kN.O.size (lE _ 1))⟩
    exact cm (iO (T').O (qO).O (by decide) (ui _ _ _)) (lE _ 2)
   have Lt:¬0<share.length:=by omega
   obtain⟨SH,sR⟩:∃l:List UInt8,[]=l:=⟨_,rfl⟩
   have F9:Hid ((if 0<share.length then vR++e_ share else [])=SH):=by show _=_;rw[if_neg Lt,sR]
   have F_:Hid (wo.heap[IB]? =some (.cells #[.string (str TP),.slice xa PY.length xc,E QW,.bool aL,.string (str SP),E EX,.slice la L.length lc,E (bits .and .i64 origin 255),E (bits .and .i64 number 16777215),E 0,E SW,.bool aI,.slice Y k c,.string (str SH)] 36)):=by show _=_;rw[←sR];exact Iu.O
   have qO:=Z HI.O.res;have ame:=Z sR;clear sR Lt;go_wp2_with (first
    |(refine kJ 77 36 4 IB F_.O underlying36 ?_)
    |(refine gw 36 2 77 (w.heap.size+1) qO.O ?_))
   refine bodyPost_ret (results_cell_row rfl _ _ (w.heap.size+1) 36 _ (0,0) _ rfl (setRow_heap _ (w.heap.size+1) _ _ _ _ (qO).O) underlying36 rfl (by kernel_rfl)) rfl ?_;have td:=Lp.O;subst td;have hX:jW ⟨aF,src,share,ay,ah,sub,aL,aI,fM,fm,co,cr,us,ids,origin,number⟩=⟨⟨TP,PY,QW,aL,SP,EX,L,bits .and .i64 origin 255,bits .and .i64 number 16777215,0⟩,SW,aI,Ln,SH⟩:=by
    unfold jW;simp only[pH.O,Pw.O,zr.O,show List.take 300 ay=PY from Ls.O,HL.O,DV.O,Lj.O,HE.O,Pv.O,F9.O]
   have hr:=HR.O xa xc la lc Y c;rw[hX] at hr;have zT:=fun cs=>below_setRow (HI).O.low (lE w.heap.size 1) cs;refine hr _ ⟨Ij.O,?_,?_,cz kN.O (zT _) kN.O.size⟩ (zT _)
   ·obtain⟨ds,ho⟩:=(Ll).O;exact⟨_,_,_,rfl,ho.typed (qO).O (by decide) (ui _ _ _) (aJ kN.O.size (lE _ 1))⟩
   exact cm (iO (Cl).O (qO).O (by decide) (ui _ _ _)) (lE _ 2)
  have bo:¬(k:Int)<(ids.length:Int):=by omega
  clear jh;by_cases lW:(0:Int)<(share.length:Int)
  ·obtain⟨zS,Cm⟩:=ai (e_ share);obtain⟨SH,sR⟩:=ai (vR++zS);have T_:=Z Cm;have F9:Hid ((if 0<share.length then vR++e_ share else [])=SH):=by show _=_;rw[if_pos (by omega),Cm,sR]
   have amb:∀x:World,(Op.stringOp .add ⟨#[36,115,104,97,114,101,47,103,47]⟩ (str zS)).run prog x= .ok (.string (str SH)) x:=fun x=>by
    rw[run_string_add_sum x _ _ (by show 9+zS.length≤9223372036854775807;rw[←Cm];have:=qN share;omega),←sR];exact congrArg (fun z=>Result.ok (Value.string z) x) (Pg vR zS)
   clear Cm sR;go_wp2_with (first
    |(go_at_call 38;go_must(refine F6 _ share zS T_.O _ (HM.O.s.below HI.O.low) _ ?_;intro du eH;have AZ:=HI.O.below eH;have xg:=DT Iu.O eH;have Lq:=aR Cl.O eH;have Lr:∃ds,OP aw4 w.heap.size du la L.length lc ds L:=Ll.O.imp fun ds h=>h.below eH;have amc:du.cell? ⟨IB,13,none⟩=some (.string ⟨#[]⟩):=D 13 xg;have amd:=aC xg 13;have rT:=br du ⟨IB,13,none⟩ (.string (str SH));have vS:=Z (IR.grown (K:=IB) AZ rT (aJ (lE _ 2) tK.O) (by have:=tK.O;omega) (by have:=tK.O;omega));have qO:=Z vS.O.res;have F_:Hid ((du.setCell ⟨IB,13,none⟩ (.string (str SH))).heap[IB]? =some (.cells #[.string (str TP),.slice xa PY.length xc,E QW,.bool aL,.string (str SP),E EX,.slice la L.length lc,E (bits .and .i64 origin 255),E (bits .and .i64 number 16777215),E 0,E SW,.bool aI,.slice Y k c,.string (str SH)] 36)):=bm du IB 13 _ _ _ xg;have T':=Z (iO Lq xg (by decide) rT);have Ua:Hid (∃ds,OP aw4 w.heap.size (du.setCell ⟨IB,13,none⟩ (.string (str SH))) la L.length lc ds L):=Lr.imp fun ds h=>h.typed xg (by decide) rT (aJ kN.O.size (aJ (lE _ 2) tK.O));clear AZ xg Lq Lr rT eH))
    |(refine kJ 77 36 4 IB F_.O underlying36 ?_)
    |(refine gw 36 2 77 (w.heap.size+1) qO.O ?_))
   refine bodyPost_ret (results_cell_row rfl _ _ (w.heap.size+1) 36 _ (0,0) _ rfl (setRow_heap _ (w.heap.size+1) _ _ _ _ (qO).O) underlying36 rfl (by kernel_rfl)) rfl ?_;have td:=Lp.O;subst td;have hX:jW ⟨aF,src,share,ay,ah,sub,aL,aI,fM,fm,co,cr,us,ids,origin,number⟩=⟨⟨TP,PY,QW,aL,SP,EX,L,bits .and .i64 origin 255,bits .and .i64 number 16777215,0⟩,SW,aI,Ln,SH⟩:=by
    unfold jW;simp only[pH.O,Pw.O,zr.O,show List.take 300 ay=PY from Ls.O,HL.O,DV.O,Lj.O,HE.O,Pv.O,F9.O]
   have hr:=HR.O xa xc la lc Y c;rw[hX] at hr;have zT:=fun cs=>below_setRow (vS).O.low (lE w.heap.size 1) cs;refine hr _ ⟨Ij.O,?_,?_,cz kN.O (zT _) kN.O.size⟩ (zT _)
   ·obtain⟨ds,ho⟩:=(Ua).O;exact⟨_,_,_,rfl,ho.typed (qO).O (by decide) (ui _ _ _) (aJ kN.O.size (lE _ 1))⟩
   exact cm (iO (T').O (qO).O (by decide) (ui _ _ _)) (lE _ 2)
  have Lt:¬0<share.length:=by omega
  obtain⟨SH,sR⟩:∃l:List UInt8,[]=l:=⟨_,rfl⟩
  have F9:Hid ((if 0<share.length then vR++e_ share else [])=SH):=by show _=_;rw[if_neg Lt,sR]
  have F_:Hid (wo.heap[IB]? =some (.cells #[.string (str TP),.slice xa PY.length xc,E QW,.bool aL,.string (str SP),E EX,.slice la L.length lc,E (bits .and .i64 origin 255),E (bits .and .i64 number 16777215),E 0,E SW,.bool aI,.slice Y k c,.string (str SH)] 36)):=by show _=_;rw[←sR];exact Iu.O
  have qO:=Z HI.O.res;have ame:=Z sR;clear sR Lt;go_wp2_with (first
   |(refine kJ 77 36 4 IB F_.O underlying36 ?_)
   |(refine gw 36 2 77 (w.heap.size+1) qO.O ?_))
  refine bodyPost_ret (results_cell_row rfl _ _ (w.heap.size+1) 36 _ (0,0) _ rfl (setRow_heap _ (w.heap.size+1) _ _ _ _ (qO).O) underlying36 rfl (by kernel_rfl)) rfl ?_;have td:=Lp.O;subst td;have hX:jW ⟨aF,src,share,ay,ah,sub,aL,aI,fM,fm,co,cr,us,ids,origin,number⟩=⟨⟨TP,PY,QW,aL,SP,EX,L,bits .and .i64 origin 255,bits .and .i64 number 16777215,0⟩,SW,aI,Ln,SH⟩:=by
   unfold jW;simp only[pH.O,Pw.O,zr.O,show List.take 300 ay=PY from Ls.O,HL.O,DV.O,Lj.O,HE.O,Pv.O,F9.O]
  have hr:=HR.O xa xc la lc Y c;rw[hX] at hr;have zT:=fun cs=>below_setRow (HI).O.low (lE w.heap.size 1) cs;refine hr _ ⟨Ij.O,?_,?_,cz kN.O (zT _) kN.O.size⟩ (zT _)
  ·obtain⟨ds,ho⟩:=(Ll).O;exact⟨_,_,_,rfl,ho.typed (qO).O (by decide) (ui _ _ _) (aJ kN.O.size (lE _ 1))⟩
  exact cm (iO (Cl).O (qO).O (by decide) (ui _ _ _)) (lE _ 2)):P:=h
theorem amf(m:Md)(U:F8 m)(a0 a1 a2 a3 b1 b2 b3 b4:Value)(aw4 w:World)(hW:Below aw4 aw4 w)(Lu:A1 aw4 a0 a1 a2 a3 b1 b2 b3 b4 m)(R:ak)
 (I:∀V X qa qc ea ec w',DU aw4 w.heap.size w' (.slice V (jW m).note.ay.length X) (.slice qa (jW m).note.props.length qc) (.slice ea (jW m).ids.length ec) (jW m)→Below w w w'→R (.returned (Value.agg (aG (jW m) V X qa qc ea ec))) w'):
 Calls prog 9 #[.agg #[a0,a1,a2,a3,.int .i64 m.ah,.int .i64 m.sub,.bool m.aL,.bool m.aI,.int .i64 m.fM,.int .i64 m.fm,b1,b2,b3,b4,.int .i64 m.origin,.int .i64 m.number]] w R:=by
 have HR:=Z I;have hm:=Lu.below hW;obtain⟨HM,Px,kN⟩:=bX hm Lu hW;have abN:=Z U.fm;obtain⟨aF,src,share,ay,ah,sub,aL,aI,fM,fm,co,cr,us,ids,origin,number⟩:=m;obtain⟨⟨ta,tc,rfl,_⟩,⟨fa,fc,rfl,_⟩,⟨sa,sc,rfl,_⟩,⟨V,X,rfl,_⟩,⟨ca,cc,rfl,_⟩,⟨ra,rc,rfl,_⟩,⟨ua,uc,rfl,_⟩,⟨ia,ic,rfl,_⟩⟩:=hm;simp only at*;clear I U Lu hW;obtain⟨T0,zU⟩:=ai (e_ aF);obtain⟨TP,Ub⟩:=ai (116::T0);obtain⟨SP,abO⟩:=ai (e_ src);obtain⟨PY,abP⟩:=ai (ay.take (300:Int).toNat);obtain⟨L,hL⟩:=ai (mJ fm co cr us);obtain⟨QW,abQ⟩:=ai (within ah 0 2);have abv:(⟨#[116]⟩:ByteArray)++str T0=str TP:=by rw[←Ub];exact Pg [116] T0
 have alT:¬(1+(str T0).size > 9223372036854775807):=by
  show¬(1+T0.length > 9223372036854775807);rw[←zU];have:=qN aF
  omega
 have Py:∀x:World,(Op.stringOp .add ⟨#[116]⟩ (str T0)).run prog x= .ok (.string (str TP)) x:=fun x=>by
  rw[run_string_add_sum x _ _ (by show 1+T0.length≤9223372036854775807;rw[←zU];have:=qN aF;omega),abv]
 obtain⟨pH,Pw,zr,Ls,HL,DV⟩:=CN zU Ub abO abP hL abQ;have i0:IR w w.heap.size (.cells (ve ta tc fa fc sa sc V X ca cc ra rc ua uc ia ic aF src share ay co cr us ids ah sub fM fm aL aI origin number) 27) ((w.alloc (.cells (ve ta tc fa fc sa sc V X ca cc ra rc ua uc ia ic aF src share ay co cr us ids ah sub fM fm aL aI origin number) 27)).alloc (.cells aX 36)):=⟨(aD _ _).alloc (by simp) _,js (aH w (.cells (ve ta tc fa fc sa sc V X ca cc ra rc ua uc ia ic aF src share ay co cr us ids ah sub fM fm aL aI origin number) 27)),by
  have:=aH (w.alloc (.cells (ve ta tc fa fc sa sc V X ca cc ra rc ua uc ia ic aF src share ay co cr us ids ah sub fM fm aL aI origin number) 27)) (.cells aX 36);rw[show(w.alloc (.cells (ve ta tc fa fc sa sc V X ca cc ra rc ua uc ia ic aF src share ay co cr us ids ah sub fM fm aL aI origin number) 27)).heap.size=w.heap.size+1 by simp] at this;exact this,by simp⟩
 clear zU Ub abO abP hL abQ;go_enter func9,ntmps9;go_wp2_with fail;generalize (w.alloc (.cells (ve ta tc fa fc sa sc V X ca cc ra rc ua uc ia ic aF src share ay co cr us ids ah sub fM fm aL aI origin number) 27)).alloc (.cells aX 36)=w1 at i0⊢;have I0:=Z i0;have Pz:IR w w.heap.size (.cells (ve ta tc fa fc sa sc V X ca cc ra rc ua uc ia ic aF src share ay co cr us ids ah sub fM fm aL aI origin number) 27) (w1.alloc (.cells dP 34)).drew:=(i0.alloc (.cells dP 34)).below (bq _);have lV:(w1.alloc (.cells dP 34)).drew.heap[w1.heap.size]? =some (.cells dP 34):=aH w1 (.cells dP 34);replace i0:=i0.below (bq w1);have zR:∀x:World,x.heap[w.heap.size]? =some (.cells (ve ta tc fa fc sa sc V X ca cc ra rc ua uc ia ic aF src share ay co cr us ids ah sub fM fm aL aI origin number) 27)→x.cell? ⟨w,0,none⟩=some (.slice ta aF.length tc)∧x.cell? ⟨w,1,none⟩=some (.slice fa src.length fc)∧x.cell? ⟨w,3,none⟩=some (.slice V ay.length X)∧x.cell? ⟨w,4,none⟩=some (.int .i64 ah)∧x.cell? ⟨w,6,none⟩=some (.bool aL)∧x.cell? ⟨w,9,none⟩=some (.int .i64 fm)∧x.cell? ⟨w,10,none⟩=some (.slice ca co.length cc)∧x.cell? ⟨w,11,none⟩=some (.slice ra cr.length rc)∧x.cell? ⟨w,12,none⟩=some (.slice ua us.length uc)∧x.cell? ⟨w,14,none⟩=some (.int .i64 origin)∧x.cell? ⟨w,15,none⟩=some (.int .i64 number):=fun x h=>⟨D 0 h,D 1 h,D 3 h,D 4 h,D 6 h,D 9 h,D 10 h,D 11 h,D 12 h,D 14 h,D 15 h⟩
 have s0:=zR w1.drew i0.box;apply alX (H:=fun (xa:av)(xc:Nat)(la:av)(lc:Nat)(NB:Nat)(w':World)=>Hid (IR w w.heap.size (.cells (ve ta tc fa fc sa sc V X ca cc ra rc ua uc ia ic aF src share ay co cr us ids ah sub fM fm aL aI origin number) 27) w')∧Hid (w'.heap[NB]? =some (.cells (fj TP xa PY xc QW aL SP 0 la L lc (bits .and .i64 origin 255) (bits .and .i64 number 16777215) 0) 34))∧Hid (w.heap.size+2≤NB)∧Hid (Bs aw4 (.slice xa PY.length xc) PY)∧Hid (∃ds,OP aw4 w.heap.size w' la L.length lc ds L))
 ·intro Li;have PA:=Z Li;clear Li;go_region_held3 (fun x=>x.cell? ⟨w,0,none⟩=some (.slice ta aF.length tc)∧x.cell? ⟨w,1,none⟩=some (.slice fa src.length fc)∧x.cell? ⟨w,3,none⟩=some (.slice V ay.length X)∧x.cell? ⟨w,4,none⟩=some (.int .i64 ah)∧x.cell? ⟨w,6,none⟩=some (.bool aL)∧x.cell? ⟨w,9,none⟩=some (.int .i64 fm)∧x.cell? ⟨w,10,none⟩=some (.slice ca co.length cc)∧x.cell? ⟨w,11,none⟩=some (.slice ra cr.length rc)∧x.cell? ⟨w,12,none⟩=some (.slice ua us.length uc)∧x.cell? ⟨w,14,none⟩=some (.int .i64 origin)∧x.cell? ⟨w,15,none⟩=some (.int .i64 number))
   (first|with_reducible exact s0|with_reducible exact zR _ Pz.box|with_reducible exact zR _ i3.box|with_reducible exact zR _ (i3.alloc _).box|with_reducible exact zR _ i5.box|with_reducible exact zR _ (i5.alloc _).box|with_reducible exact zR _ i7.box|with_reducible exact zR _ (i7.alloc _).box|with_reducible exact zR _ (IR.grown i7 (abC qh _ _ _ _ _ _ _ _ _ _).2 (aJ (lE _ 2) gM) (by omega) (by omega)).box|go_keep)
   (first
    |(go_at_call_of 38 aF.length;refine F6 _ aF T0 pH.O _ (HM.O.t.below (IR.low (by first|with_reducible exact i0|with_reducible exact Pz))) _ ?_;intro w3 an;have i3:=IR.below (by first|with_reducible exact i0|with_reducible exact Pz) an)
    |(go_at_call 30;refine abw _ ay PY 300 Ls.O aw4 _ Px.O.p (by decide) _ ?_;intro xa xc PD)
    |(go_at_call 20;refine py ah 0 2 _ (by decide) (by decide) (by decide) _ ?_;rw[DV.O])
    |(go_at_call_of 38 src.length;refine F6 _ src SP zr.O _ (HM.O.f.below (IR.low (by first|with_reducible exact i3|with_reducible exact i3.alloc _))) _ ?_;intro w5 aE;have i5:=IR.below (by first|with_reducible exact i3|with_reducible exact i3.alloc _) aE)
    |(go_at_call 39;refine al5 fm abN.O.1 abN.O.2 _ _ _ co cr us L HL.O aw4 _ (cz kN.O (IR.low (by first|with_reducible exact i5|with_reducible exact i5.alloc _)) kN.O.size) Px.O.c Px.O.r Px.O.u _ ?_;intro la lc ds w7 A6 bp;replace A6:=A6.mono (aJ (lE w.heap.size 2) (IR.sz (by first|with_reducible exact i5|with_reducible exact i5.alloc _)));have i7:=IR.below (by first|with_reducible exact i5|with_reducible exact i5.alloc _) bp;first|(have qh:w7.heap[w1.heap.size]? =some (.cells dP 34):=DT (DT (DT lV an) aE) bp;have gM:w.heap.size+2≤w1.heap.size:=i0.sz;obtain⟨⟨z0,z1,z2,z3,z4⟩,z5,z6,z7,z8,z9⟩:=T8 qh;have zf:=aC qh)|(have qh:w7.heap[w3.heap.size]? =some (.cells dP 34):=DT (DT (aH w3 (.cells dP 34)) aE) bp;have gM:w.heap.size+2≤w3.heap.size:=i3.sz;obtain⟨⟨z0,z1,z2,z3,z4⟩,z5,z6,z7,z8,z9⟩:=T8 qh;have zf:=aC qh)|(have qh:w7.heap[w5.heap.size]? =some (.cells dP 34):=DT (aH w5 (.cells dP 34)) bp;have gM:w.heap.size+2≤w5.heap.size:=i5.sz;obtain⟨⟨z0,z1,z2,z3,z4⟩,z5,z6,z7,z8,z9⟩:=T8 qh;have zf:=aC qh)|skip))
  all_goals first
   |(
     have hf:=And.intro (i7.alloc (.cells (fj TP xa PY xc QW aL SP 0 la L lc (bits .and .i64 origin 255) (bits .and .i64 number 16777215) 0) 34)) (And.intro (aH w7 (.cells (fj TP xa PY xc QW aL SP 0 la L lc (bits .and .i64 origin 255) (bits .and .i64 number 16777215) 0) 34)) (And.intro i7.sz (A6.below (aD w7 (.cells (fj TP xa PY xc QW aL SP 0 la L lc (bits .and .i64 origin 255) (bits .and .i64 number 16777215) 0) 34)))));generalize w7.alloc (.cells (fj TP xa PY xc QW aL SP 0 la L lc (bits .and .i64 origin 255) (bits .and .i64 number 16777215) 0) 34)=wz at hf⊢;generalize w7.heap.size=NB at hf⊢
     with_reducible exact PA.O xa xc la lc NB wz ⟨Z hf.1,Z hf.2.1,Z hf.2.2.1,Z PD,Z ⟨_,hf.2.2.2⟩⟩)
   |(
     have hp:=abC qh (.string (str TP)) (.slice xa PY.length xc) (E QW) (.bool aL) (.string (str SP)) (E 0) (.slice la L.length lc) (E (bits .and .i64 origin 255)) (E (bits .and .i64 number 16777215)) (E 0);have hf:=And.intro (IR.grown i7 hp.2 (aJ (lE _ 2) gM) (by omega) (by omega)) (And.intro hp.1 (And.intro gM (A6.typed qh (by decide) hp.2 (aJ kN.O.size (aJ (lE _ 2) gM)))));clear hp qh gM zf z0 z1 z2 z3 z4 z5 z6 z7 z8 z9
     first
      |(
        generalize ((((((((((w7.setCell ⟨(w5.heap.size),0,none⟩ (.string (str TP))).setCell ⟨(w5.heap.size),1,none⟩ (.slice xa PY.length xc)).setCell ⟨(w5.heap.size),2,none⟩ (E QW)).setCell ⟨(w5.heap.size),3,none⟩ (.bool aL)).setCell ⟨(w5.heap.size),4,none⟩ (.string (str SP))).setCell ⟨(w5.heap.size),5,none⟩ (E 0)).setCell ⟨(w5.heap.size),6,none⟩ (.slice la L.length lc)).setCell ⟨(w5.heap.size),7,none⟩ (E (bits .and .i64 origin 255))).setCell ⟨(w5.heap.size),8,none⟩ (E (bits .and .i64 number 16777215))).setCell ⟨(w5.heap.size),9,none⟩ (E 0))=wz at hf⊢;generalize w5.heap.size=NB at hf⊢
        with_reducible exact PA.O xa xc la lc NB wz ⟨Z hf.1,Z hf.2.1,Z hf.2.2.1,Z PD,Z ⟨_,hf.2.2.2⟩⟩)
      |(
        generalize ((((((((((w7.setCell ⟨(w3.heap.size),0,none⟩ (.string (str TP))).setCell ⟨(w3.heap.size),1,none⟩ (.slice xa PY.length xc)).setCell ⟨(w3.heap.size),2,none⟩ (E QW)).setCell ⟨(w3.heap.size),3,none⟩ (.bool aL)).setCell ⟨(w3.heap.size),4,none⟩ (.string (str SP))).setCell ⟨(w3.heap.size),5,none⟩ (E 0)).setCell ⟨(w3.heap.size),6,none⟩ (.slice la L.length lc)).setCell ⟨(w3.heap.size),7,none⟩ (E (bits .and .i64 origin 255))).setCell ⟨(w3.heap.size),8,none⟩ (E (bits .and .i64 number 16777215))).setCell ⟨(w3.heap.size),9,none⟩ (E 0))=wz at hf⊢;generalize w3.heap.size=NB at hf⊢
        with_reducible exact PA.O xa xc la lc NB wz ⟨Z hf.1,Z hf.2.1,Z hf.2.2.1,Z PD,Z ⟨_,hf.2.2.2⟩⟩)
      |(
        generalize ((((((((((w7.setCell ⟨(w1.heap.size),0,none⟩ (.string (str TP))).setCell ⟨(w1.heap.size),1,none⟩ (.slice xa PY.length xc)).setCell ⟨(w1.heap.size),2,none⟩ (E QW)).setCell ⟨(w1.heap.size),3,none⟩ (.bool aL)).setCell ⟨(w1.heap.size),4,none⟩ (.string (str SP))).setCell ⟨(w1.heap.size),5,none⟩ (E 0)).setCell ⟨(w1.heap.size),6,none⟩ (.slice la L.length lc)).setCell ⟨(w1.heap.size),7,none⟩ (E (bits .and .i64 origin 255))).setCell ⟨(w1.heap.size),8,none⟩ (E (bits .and .i64 number 16777215))).setCell ⟨(w1.heap.size),9,none⟩ (E 0))=wz at hf⊢;generalize w1.heap.size=NB at hf⊢
        with_reducible exact PA.O xa xc la lc NB wz ⟨Z hf.1,Z hf.2.1,Z hf.2.2.1,Z PD,Z ⟨_,hf.2.2.2⟩⟩))
 intro xa xc la lc NB wz hh;obtain⟨HI,nS,Cn,Ij,Lk⟩:=hh;clear i0 Pz lV s0 I0;obtain⟨c0,c1,c3,c4,c6,c9,fD,iP,iQ,DW,DX⟩:=zR wz HI.O.box;have c8:wz.cell? ⟨w,8,none⟩=some (.int .i64 fM):=D 8 HI.O.box;obtain⟨SW,abR⟩:=ai (within sub 0 2);have Lj:=Z abR;clear abR;by_cases rN:0<fM
 ·have c5:=D 5 nS.O;have f5:=aC nS.O 5;go_wp2_with fail;have rT:=br wz ⟨NB,5,none⟩ (E (bits .and .i64 fM 65535));have Uc:=bm wz NB 5 _ _ (E (bits .and .i64 fM 65535)) nS.O;have hi:=IR.grown (K:=NB) HI.O rT (aJ (lE _ 2) Cn.O) (by have:=Cn.O;omega) (by have:=Cn.O;omega);have A6:∃ds,OP aw4 w.heap.size (wz.setCell ⟨NB,5,none⟩ (E (bits .and .i64 fM 65535))) la L.length lc ds L:=Lk.O.imp fun ds h=>h.typed nS.O (by decide) rT (aJ kN.O.size (aJ (lE _ 2) Cn.O));clear rT c5 f5 HI nS Lk c0 c1 c3 c4 c6 c9 fD iP iQ DW DX c8;generalize wz.setCell ⟨NB,5,none⟩ (E (bits .and .i64 fM 65535))=wy at hi Uc A6⊢;obtain⟨EX,F'⟩:∃e:Int,bits .and .i64 fM 65535=e:=⟨_,rfl⟩
  have Lv:wy.heap[NB]? =some (.cells (fj TP xa PY xc QW aL SP EX la L lc (bits .and .i64 origin 255) (bits .and .i64 number 16777215) 0) 34):=by rw[←F'];exact Uc
  obtain⟨HI,nS,Lk,Ud⟩:=cF hi Lv A6 F';clear hi Uc A6 F' Lv;have HE:Hid ((if 0<fM then bits .and .i64 fM 65535 else 0)=EX):=(by show _=_;rw[if_pos rN,Ud.O])
  exact abD
 go_wp2_with fail;obtain⟨wy,rfl⟩:∃x,x=wz:=⟨_,rfl⟩
 obtain⟨EX,F'⟩:∃e:Int,e=0:=⟨_,rfl⟩
 have Lv:wy.heap[NB]? =some (.cells (fj TP xa PY xc QW aL SP EX la L lc (bits .and .i64 origin 255) (bits .and .i64 number 16777215) 0) 34):=by rw[F'];exact nS.O
 replace nS:=Z Lv;have Ud:=Z F';clear c0 c1 c3 c4 c6 c9 fD iP iQ DW DX c8 Lv F';have HE:Hid ((if 0<fM then bits .and .i64 fM 65535 else 0)=EX):=(by show _=_;rw[if_neg (by omega),Ud.O])
 exact abD
