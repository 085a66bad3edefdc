/- A part of the proof of SessionReads; no conditions. -/
import Derived.Test.YtgimbocoamnkjaaGreatDoorM12
set_option maxRecDepth 100000
set_option maxHeartbeats 16000000
namespace Go.Proofs.YtgimbocoamnkjaaGreatDoor
open _root_.Go.Proofs.Tryz
open Go.RowKit
theorem aaY{P:Prop}(h:P:=by
 have fw:j≤s.al.length:=by have:=HN.O;omega
 have sL:j+1+m=(s.al.take j++ [x]++s.al.drop j).length:=by
  have:=HM.O;have:=HN.O;rw[aK,aK,bS,dw,List.length_singleton]
  omega
 obtain⟨M',jP,jQ⟩:=RX.KM (ss:=s.al.take j++ [x]++s.al.drop j) HX.O fx.O aE (by
  rw[←sL,jZ,jZ,←yR 6 aT ij,←C4 6 aT ij];exact gC)
 have sk:=Z jP;have uM:=Z ((Sep.cL bB.O).trans jQ);clear jP jQ gC gZ aE r5 e5 f5 ao eQ dh bN sL;go_wp2_with fail;exact HR.O M' _ ⟨_,qv,fv,gv,sk.O⟩ uM.O):P:=h
theorem akZ(Rb:Nat)(s:az)(x:Sb)(k:Nat)(G:k≤s.al.length)(pV:∀j,j<k→∀(gA:j<s.al.length),wZ (s.al[j]).filter x.filter=true)(xY:∀(h:k<s.al.length),wZ (s.al[k]).filter x.filter=false)(bf:∀(h:k<s.al.length),(s.al[k]).filter≠x.filter)(h8:s.al.length≠8)(hl:s.al.length≤100000)(w:World)(Ms M:Nat→Prop)(h:RR w Ms M Rb s)(au:∀b,Ms b→b<w.heap.size)(R:ak)
 (I:∀M' w',RR w' Ms M' Rb {s with al:=s.al.take k++ [x]++s.al.drop k}→Sep M M' w w'→R (.returned (.tuple #[.bool true,.bool true])) w'):
 Calls prog 78 #[zq Rb,.agg (bH x)] w R:=by
 have fA:=Z bf;clear bf;obtain⟨sv,qv,fv,gv,F⟩:=h;have HR:=Z I;have aM:Below w w (w.alloc (.cells (bH x) 64)):=aD _ _;have hT:=aH w (.cells (bH x) 64);have W:=(F.below aM).W;have c4:=(F.below aM).cells.2.2.2.2.1;have HX:=Z (F.below aM);obtain⟨n,hn⟩:=ai s.al.length;rw[hn] at W G hl;obtain⟨ga,gc,rfl⟩:=cR W;obtain⟨i0,cp,_,cJ,_⟩:=info_parts mw;obtain⟨HG,HN,HT,bB⟩:=cF W hn hT aM;have fx:Hid (∀b,Ms b→b<(w.alloc (.cells (bH x) 64)).heap.size):=Z (fun b U=>eV (au b U) aM.size);have Ts:=Z pV;have KO:=Z xY;clear I F W au pV xY aM hT c4;have mT:((n:Int)==8)=false:=by
  have:n≠8:=by rw[←hn];exact h8
  simp
  omega
 clear h8 hn;go_enter func78,ntmps78;go_wp2_with fail;generalize w.alloc (.cells (bH x) 64)=w1 at HX HG HT bB fx⊢;have vO:Below w1 w1 w1:=Below.refl _ _;go_loopg [6] k (fun gn i wr=>∃j:Nat,j≤k∧gn=k - j∧i= .int .i64 j∧Below w1 w1 wr)
 case atStart=>exact⟨0,bP _,by omega,rfl,vO⟩
 case round=>
  obtain⟨j,hj,rfl,rfl,jg⟩:=hrel;clear vO;obtain⟨wo,rfl⟩:∃x,x=wr:=⟨_,rfl⟩
  have cH:=aR HG.O jg;have c4:=cell_later jg HX.O.cells.2.2.2.2.1;have t0:=cell_later jg (D 0 HT.O);have iH:=Z cH;have m7:=Z jg;clear cH;by_cases pQ:j<k
  ·have sN:(j:Int)<(n:Int):=by omega
   exact Tr
  obtain rfl:j=k:=by omega
  clear hj pQ;by_cases jh:j<n
  ·have sN:(j:Int)<(n:Int):=by omega
   have cW:j<s.al.length:=by have:=HN.O;omega
   obtain⟨g,rfl⟩:=jF iH.O (by omega);have fI:=yV iH.O HN.O cW 0 (by omega);obtain⟨v,hv⟩:=ai ((s.al[j]).filter);have xX:wo.cell? ⟨g,j*6,none⟩=some (.string (str v)):=by
    rw[←hv];exact fI
   have au:=KO.O cW;unfold wZ at au;rw[hv] at au;have hd:decide ((j:Int)<(n:Int))=true:=eN sN;have HV:=Z hv;clear fI hv;go_wp2_with fail;go_quiet (fail);go_wp2_with fail;have aj:=Go.below_drewN m7.O nq;clear c4 t0 xX au m7 iH;generalize wo.drewN nq=w2 at aj⊢;have bF:=aR HG.O aj;have c4:=cell_later aj HX.O.cells.2.2.2.2.1;have t0:=cell_later aj (D 0 HT.O);have xX:w2.cell? ⟨g,j*6,none⟩=some (.string (str v)):=by
    rw[←HV.O];exact yV bF HN.O cW 0 (by omega)
   have bn:=Z aj;clear bF;have he:¬v=x.filter:=by rw[←HV.O];exact fA.O cW
   have OV:(v==x.filter)=false:=by simpa using he
   have akW:((str v).toList==(str x.filter).toList)=false:=by rw[Ny];exact OV
   go_quiet (fail);go_wp2_with fail;have an:=Go.below_drewN bn.O nq;clear c4 t0 bn;generalize w2.drewN nq=w3 at an⊢;have oH:Below w1 w1 w3.drew:=an.drew;have vP:Below w1 w1 (w3.alloc (.cells (bH x) 64)).drew:=(an.alloc an.size _).drew;have jv:=(bh.iG HG.O).cap;obtain⟨FL,_⟩:=bh.upto (k:=j) (bh.iG HG.O) underlying58 cp cJ (by omega);obtain⟨ax,ov,bE,_⟩:=bh.from (k:=j) (bh.iG HG.O) underlying58 cp cJ (by omega);obtain⟨m,hm⟩:=ai (n - j);rw[hm] at ov bE;have pW:=bE.cap;have uL:Hid (∀y,Below w1 w1 y→Rd y 6 (some ⟨g,0,none⟩) j ((s.al.flatMap aT).take (j*6))):=fun y U=>(bh.upto (k:=j) (bh.iG (aR HG.O U)) underlying58 cp cJ (by omega)).2;have Tu:Hid (∀y,Below w1 w1 y→Rd y 6 ax m ((s.al.flatMap aT).drop (j*6))):=fun y U=>FI bE U;have oI:Hid (Rd (w3.alloc (.cells (bH x) 64)).drew 6 (some ⟨w3,0,none⟩) 1 (bH x)):=Z (Rd.below (dO w3 (bH x) 64 6 1 rfl) (bq _));have uO:=aA HT.O oH;have t0:=D 0 uO;have t1:=D 1 uO;have t2:=D 2 uO;have t3:=D 3 uO;have t4:=D 4 uO;have t5:=D 5 uO;have c4:w3.drew.cell? ⟨Rb,4,none⟩=some (.slice (some ⟨g,0,none⟩) n gc):=cell_later oH HX.O.cells.2.2.2.2.1;have ak0:(w3.alloc (.cells (bH x) 64)).drew.cell? ⟨Rb,4,none⟩=some (.slice (some ⟨g,0,none⟩) n gc):=cell_later vP HX.O.cells.2.2.2.2.1;clear uO;obtain⟨fP,eT,HM⟩:=bX jv pW hm;have KP:∀u∈ (bH x:List Value),u.oneCell'=true:=fun u hu=>vw [x] u (by simpa [aT] using hu);have qI:=Z KP;have Tv:j+1+m≤100001:=by omega
   clear jv pW bE hm an KP;go_region_law
    (first
     |(refine yQ (by rfl) (.tmp 64) (.tmp 70) 58 (by rfl) w1 64 (.agg gB) 6 48 underlying58 mw rfl (by decide) none (by rfl) (bO _ _ _ _) (some ⟨g,0,none⟩) j gc _ (by rfl) (uL.O _ oH) (zK (vw _)) fP.O.2.2 (by unfold maxLen;omega) (by omega) oH.size ?_;intro h_ c3 w5 bN o_;have dh:=oH.trans (o_.mono oH.size);have qJ:=dh.alloc dh.size (.cells (bH x) 64);have uP:=dO w5 (bH x) 64 6 1 rfl;have pd:=aA HT.O dh;have u0:=D 0 pd;have u1:=D 1 pd;have u2:=D 2 pd;have u3:=D 3 pd;have u4:=D 4 pd;have u5:=D 5 pd;have OZ:=cell_later dh HX.O.cells.2.2.2.2.1;have ak1:=cell_later qJ HX.O.cells.2.2.2.2.1;clear pd)
     |(refine yQ (by rfl) (.tmp 64) (.tmp 70) 58 (by rfl) w1 64 (.agg gB) 6 48 underlying58 mw rfl (by decide) none (by rfl) (bO _ _ _ _) (some ⟨g,0,none⟩) j gc _ (by rfl) (uL.O _ vP) (zK (vw _)) fP.O.2.2 (by unfold maxLen;omega) (by omega) vP.size ?_;intro h_ c3 w5 bN o_;have dh:=vP.trans (o_.mono vP.size);have uP:=oI.O.below o_;have OZ:=cell_later dh HX.O.cells.2.2.2.2.1)
     |(have hq:=qJ;refine ig (by rfl) (.tmp 71) (.tmp 73) 58 (by rfl) w1 64 (.agg gB) 6 48 underlying58 mw rfl (by decide) h_ j c3 _ (by rfl) (bN.alloc (.cells (bH x) 64)) (some ⟨w5,0,none⟩) 1 1 (bH x) (by rfl) uP qI.O (fun h=>by cases h) (by unfold maxLen;omega) (by omega) qJ.size ?_;intro oq Io w6 eQ cV _;have ao:=bT qJ cV qJ.size (bN.alloc (.cells (bH x) 64));have Tw:=cell_later ao HX.O.cells.2.2.2.2.1;clear hq)
     |(have hq:=bN;refine ig (by rfl) (.tmp 71) (.tmp 73) 58 (by rfl) w1 64 (.agg gB) 6 48 underlying58 mw rfl (by decide) h_ j c3 _ (by rfl) bN (some ⟨w3,0,none⟩) 1 1 (bH x) (by rfl) uP qI.O (fun h=>by cases h) (by unfold maxLen;omega) (by omega) dh.size ?_;intro oq Io w6 eQ cV _;have ao:=bT dh cV dh.size bN;have Tw:=cell_later ao HX.O.cells.2.2.2.2.1;clear hq)
     |(have hq:=ao;refine ig (by rfl) (.tmp 74) (.tmp 80) 58 (by rfl) w1 64 (.agg gB) 6 48 underlying58 mw rfl (by decide) oq (j+1) Io _ (by rfl) eQ ax m (gc - j) _ (by rfl) (Tu.O _ ao) (FJ (vw _)) eT.O.2.2 (by unfold maxLen;omega) (by omega) ao.size ?_;intro ED c5 w7 gC gZ _;have aE:=bT ao gZ ao.size eQ;have r5:=aA HX.O.hS aE;have e5:=D 4 r5;have f5:=aC r5 4;clear hq))
   all_goals
    exact aaY
  obtain rfl:j=n:=by omega
  have sN:¬(j:Int)<(j:Int):=by omega
  have hd:decide ((j:Int)<(j:Int))=false:=dN sN;go_wp2_with fail;go_quiet (fail);go_wp2_with fail;have aj:=Go.below_drewN m7.O nq;clear c4 t0 m7 iH;generalize wo.drewN nq=w2 at aj⊢;have c4:=cell_later aj HX.O.cells.2.2.2.2.1;have t0:=cell_later aj (D 0 HT.O);have bn:=Z aj;go_quiet (fail);go_wp2_with fail;have an:=Go.below_drewN bn.O nq;clear c4 t0 bn;generalize w2.drewN nq=w3 at an⊢;have oH:Below w1 w1 w3.drew:=an.drew;have vP:Below w1 w1 (w3.alloc (.cells (bH x) 64)).drew:=(an.alloc an.size _).drew;have jv:=(bh.iG HG.O).cap;obtain⟨FL,_⟩:=bh.upto (k:=j) (bh.iG HG.O) underlying58 cp cJ (by omega);obtain⟨ax,ov,bE,_⟩:=bh.from (k:=j) (bh.iG HG.O) underlying58 cp cJ (by omega);obtain⟨m,hm⟩:=ai (j - j);rw[hm] at ov bE;have pW:=bE.cap;have uL:Hid (∀y,Below w1 w1 y→Rd y 6 ga j ((s.al.flatMap aT).take (j*6))):=fun y U=>(bh.upto (k:=j) (bh.iG (aR HG.O U)) underlying58 cp cJ (by omega)).2;have Tu:Hid (∀y,Below w1 w1 y→Rd y 6 ax m ((s.al.flatMap aT).drop (j*6))):=fun y U=>FI bE U;have oI:Hid (Rd (w3.alloc (.cells (bH x) 64)).drew 6 (some ⟨w3,0,none⟩) 1 (bH x)):=Z (Rd.below (dO w3 (bH x) 64 6 1 rfl) (bq _));have uO:=aA HT.O oH;have t0:=D 0 uO;have t1:=D 1 uO;have t2:=D 2 uO;have t3:=D 3 uO;have t4:=D 4 uO;have t5:=D 5 uO;have c4:w3.drew.cell? ⟨Rb,4,none⟩=some (.slice ga j gc):=cell_later oH HX.O.cells.2.2.2.2.1;have ak0:(w3.alloc (.cells (bH x) 64)).drew.cell? ⟨Rb,4,none⟩=some (.slice ga j gc):=cell_later vP HX.O.cells.2.2.2.2.1;clear uO;obtain⟨fP,eT,HM⟩:=bX jv pW hm;have KP:∀u∈ (bH x:List Value),u.oneCell'=true:=fun u hu=>vw [x] u (by simpa [aT] using hu);have qI:=Z KP;have Tv:j+1+m≤100001:=by omega
  clear jv pW bE hm an KP;go_region_law
   (first
    |(refine yQ (by rfl) (.tmp 64) (.tmp 70) 58 (by rfl) w1 64 (.agg gB) 6 48 underlying58 mw rfl (by decide) none (by rfl) (bO _ _ _ _) ga j gc _ (by rfl) (uL.O _ oH) (zK (vw _)) fP.O.2.2 (by unfold maxLen;omega) (by omega) oH.size ?_;intro h_ c3 w5 bN o_;have dh:=oH.trans (o_.mono oH.size);have qJ:=dh.alloc dh.size (.cells (bH x) 64);have uP:=dO w5 (bH x) 64 6 1 rfl;have pd:=aA HT.O dh;have u0:=D 0 pd;have u1:=D 1 pd;have u2:=D 2 pd;have u3:=D 3 pd;have u4:=D 4 pd;have u5:=D 5 pd;have OZ:=cell_later dh HX.O.cells.2.2.2.2.1;have ak1:=cell_later qJ HX.O.cells.2.2.2.2.1;clear pd)
    |(refine yQ (by rfl) (.tmp 64) (.tmp 70) 58 (by rfl) w1 64 (.agg gB) 6 48 underlying58 mw rfl (by decide) none (by rfl) (bO _ _ _ _) ga j gc _ (by rfl) (uL.O _ vP) (zK (vw _)) fP.O.2.2 (by unfold maxLen;omega) (by omega) vP.size ?_;intro h_ c3 w5 bN o_;have dh:=vP.trans (o_.mono vP.size);have uP:=oI.O.below o_;have OZ:=cell_later dh HX.O.cells.2.2.2.2.1)
    |(have hq:=qJ;refine ig (by rfl) (.tmp 71) (.tmp 73) 58 (by rfl) w1 64 (.agg gB) 6 48 underlying58 mw rfl (by decide) h_ j c3 _ (by rfl) (bN.alloc (.cells (bH x) 64)) (some ⟨w5,0,none⟩) 1 1 (bH x) (by rfl) uP qI.O (fun h=>by cases h) (by unfold maxLen;omega) (by omega) qJ.size ?_;intro oq Io w6 eQ cV _;have ao:=bT qJ cV qJ.size (bN.alloc (.cells (bH x) 64));have Tw:=cell_later ao HX.O.cells.2.2.2.2.1;clear hq)
    |(have hq:=bN;refine ig (by rfl) (.tmp 71) (.tmp 73) 58 (by rfl) w1 64 (.agg gB) 6 48 underlying58 mw rfl (by decide) h_ j c3 _ (by rfl) bN (some ⟨w3,0,none⟩) 1 1 (bH x) (by rfl) uP qI.O (fun h=>by cases h) (by unfold maxLen;omega) (by omega) dh.size ?_;intro oq Io w6 eQ cV _;have ao:=bT dh cV dh.size bN;have Tw:=cell_later ao HX.O.cells.2.2.2.2.1;clear hq)
    |(have hq:=ao;refine ig (by rfl) (.tmp 74) (.tmp 80) 58 (by rfl) w1 64 (.agg gB) 6 48 underlying58 mw rfl (by decide) oq (j+1) Io _ (by rfl) eQ ax m (gc - j) _ (by rfl) (Tu.O _ ao) (FJ (vw _)) eT.O.2.2 (by unfold maxLen;omega) (by omega) ao.size ?_;intro ED c5 w7 gC gZ _;have aE:=bT ao gZ ao.size eQ;have r5:=aA HX.O.hS aE;have e5:=D 4 r5;have f5:=aC r5 4;clear hq))
  all_goals
   exact aaY
