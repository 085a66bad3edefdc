/- A part of the proof of SessionReads; no conditions. -/
import Derived.Test.YtgimbocoamnkjaaGreatDoorM18
set_option maxRecDepth 100000
set_option maxHeartbeats 16000000
namespace Go.Proofs.YtgimbocoamnkjaaGreatDoor
open _root_.Go.Proofs.Tryz
open Go.RowKit
theorem Re{P:Prop}(h:P:=by
 go_enter func126,ntmps126;go_wp2_with (first
  |(go_at_call 161;go_must(refine LO _ _ _ [] _ jT.O _ HQ.O nM.O _ ?_);intro w3 an;have r0:=aA N0.O an;have r1:=aA N1.O an;have c7:=D 7 r0;have c8:=D 8 r0;have c9:=D 9 r0;have d7:=D 7 r1;have d8:=D 8 r1;have d9:=D 9 r1;have Mw:=Z (aQ bB.O an)))
 exact HR.O _ Mw.O):P:=h
theorem ML{P:Prop}(h:P:=by
 go_enter func126,ntmps126;go_wp2_with (first
  |(go_at_call 161;go_must(refine LO _ _ _ [] _ jT.O _ HQ.O nM.O _ ?_);intro w3 an;have r0:=aA N0.O an;have r1:=aA N1.O an;have c7:=D 7 r0;have c8:=D 8 r0;have c9:=D 9 r0;have d7:=D 7 r1;have d8:=D 8 r1;have d9:=D 9 r1;have Mw:=Z (aQ bB.O an)))
 exact HR.O _ bB.O):P:=h
theorem asY(x:Nt)(z:Bool)(hz:z=true↔x=gN x.aF)(pv qv pu qu:Value)(w:World)(hp:Bs w pv x.ay)(hq:Ps w qv x.props)(m9:Bs w pu [])(pk:Ps w qu [])(R:ak)
 (I:∀w',Below w w w'→R (.returned (.bool z)) w'):
 Calls prog 126 #[(Value.agg (uj x pv qv)),(Value.agg (uj (gN x.aF) pu qu))] w R:=by
 by_cases A:x=gN x.aF
 ·rw[hz.2 A] at I;rw[A] at hp hq;have:=acv (gN x.aF) pv qv pu qu w hp hq m9 pk R I;rw[A];exact this
 obtain rfl:z=false:=by cases z with|false=>rfl|true=>exact absurd (hz.1 rfl) A
 have J:=aet x A;obtain⟨aF,ay,ah,aL,src,aP,props,origin,number,aW⟩:=x;clear A hz;simp only[gN] at*;obtain⟨O0,kH⟩:=ai ((Obj.cells #[.string (str aF),pv,E ah,.bool aL,.string (str src),E aP,qv,E origin,E number,E aW] 34));obtain⟨O1,eP⟩:=ai ((Obj.cells #[.string (str aF),pu,E 0,.bool false,.string (str []),E 0,qu,E 0,E 0,E 0] 34));have aM:Below w w ((w.alloc O0).alloc O1):=(aD _ _).alloc (by simp) _;have n0:=js (o':=O1) (aH w O0);have n1:=aH (w.alloc O0) O1;rw[show(w.alloc O0).heap.size=w.heap.size+1 by simp] at n1;obtain⟨bB,N0,N1⟩:=bX aM n0 n1;rw[←kH,←eP] at bB N0 N1;clear aM n0 n1 kH eP;have HR:=Z I;have k1:=lU (P:=prog) underlying22 underlying5 underlying9 (hp.below bB.O);have k2:=lU (P:=prog) underlying22 underlying5 underlying9 (m9.below bB.O);have HQ:=Z (hq.below bB.O);have nM:=Z (pk.below bB.O);have jT:Hid (Bq props []=decide (props= [])):=rfl;clear hp hq m9 pk I;rcases J with h1|⟨rfl,h2⟩|⟨rfl,rfl,rfl⟩|⟨rfl,rfl,rfl,h4⟩|⟨rfl,rfl,rfl,rfl,h5⟩|⟨rfl,rfl,rfl,rfl,rfl,h6⟩|⟨rfl,rfl,rfl,rfl,rfl,rfl,h7⟩|⟨rfl,rfl,rfl,rfl,rfl,rfl,rfl,h8⟩|⟨rfl,rfl,rfl,rfl,rfl,rfl,rfl,rfl,h9⟩
 ·have hf:=Qo _ h1;have zd:(ay== [])=false:=by simpa using h1
  have awv:ay.isEmpty=false:=by simpa using h1
  exact ML
 ·have hf:(ah==0)=false:=by simpa using h2
  exact ML
 ·skip
  exact ML
 ·have hf:=Qo _ h4;exact ML
 ·have hf:(aP==0)=false:=by simpa using h5
  exact ML
 ·rw[dN h6] at jT;exact Re
 ·rw[eN rfl] at jT;have hf:(origin==0)=false:=by simpa using h7
  exact Re
 ·rw[eN rfl] at jT;have hf:(number==0)=false:=by simpa using h8
  exact Re
 rw[eN rfl] at jT;have hf:(aW==0)=false:=by simpa using h9
 exact Re
theorem MM{P:Prop}(h:P:=by
 go_enter func70,ntmps70;go_wp2_with (first
  |(go_at_call 126;go_must(refine asY n _ rL.O _ _ _ _ _ (HC.O.p.below ct.O) (HC.O.q.below ct.O) (Z0.nil.bs _) (Z0.nil.ps _) _ ?_);intro w3 an;have r0:=aA N0.O an;have r1:=aA N1.O an;have fD:=D 10 r0;have iP:=D 11 r0;have iQ:=D 12 r0;have jN:=D 13 r0;have d10:=D 10 r1;have d11:=D 11 r1;have d12:=D 12 r1;have d13:=D 13 r1;have cq:=Z (aQ ct.O an);clear an r0 r1))
 exact HR.O _ cq.O):P:=h
theorem afu(x:Im)(z:Bool)(hz:z=true↔x=gI x.note.aF)(pv qv ev:Value)(w:World)(J:ie w pv qv ev x)(R:ak)
 (I:∀w',Below w w w'→R (.returned (.bool z)) w'):
 Calls prog 70 #[(Value.agg (qi x pv qv ev)),(Value.agg #[.string (str (gI x.note.aF).note.aF),(.slice none 0 0),.int .i64 (gI x.note.aF).note.ah,.bool (gI x.note.aF).note.aL,.string (str (gI x.note.aF).note.src),.int .i64 (gI x.note.aF).note.aP,(.slice none 0 0),.int .i64 (gI x.note.aF).note.origin,.int .i64 (gI x.note.aF).note.number,.int .i64 (gI x.note.aF).note.aW,.int .i64 (gI x.note.aF).ah,.bool (gI x.note.aF).aI,(.slice none 0 0),.string (str (gI x.note.aF).share)])] w R:=by
 by_cases A:x=gI x.note.aF
 ·rw[hz.2 A] at I;rw[A] at J;have h0:ie w (.slice none 0 0) (.slice none 0 0) (.slice none 0 0) (gI x.note.aF):=⟨Z0.nil.bs _,Z0.nil.ps _,Z0.nil.is _⟩
  have:=PZ (gI x.note.aF) pv qv ev (.slice none 0 0) (.slice none 0 0) (.slice none 0 0) w J h0 R I;rw[A];exact this
 have HR:=Z I;obtain⟨⟨V,X,rfl⟩,⟨qa,qc,rfl⟩,ea,ec,rfl⟩:=J.shape;obtain⟨n,ah,aI,ids,share⟩:=x;simp only[gI] at*;obtain⟨z1,cJ⟩:∃z1:Bool,z1=true↔n=gN n.aF:=by
  by_cases h:n=gN n.aF
  ·exact⟨true,by simp[←h]⟩
  exact⟨false,by simp[h]⟩
 have vx:z=(z1&&decide (ah=2)&& !aI&&decide (ids= [])&&decide (share= [])):=by
  exact aev
 obtain⟨O0,kH⟩:=ai ((Obj.cells (qg n.aF V n.ay X n.ah n.aL n.src n.aP qa n.props qc n.origin n.number n.aW ah aI ea ids ec share) 36));obtain⟨O1,eP⟩:=ai ((Obj.cells #[.string (str n.aF),.slice none 0 0,E 0,.bool false,.string (str []),E 0,.slice none 0 0,E 0,E 0,E 0,E 2,.bool false,.slice none 0 0,.string (str [])] 36));have aw:Below w w ((w.alloc O0).alloc O1):=(aD _ _).alloc (by simp) _;have n0:=js (o':=O1) (aH w O0);have n1:=aH (w.alloc O0) O1;rw[show(w.alloc O0).heap.size=w.heap.size+1 by simp] at n1;obtain⟨ct,N0,N1⟩:=bX aw n0 n1;rw[←kH,←eP] at ct N0 N1;obtain⟨HC,rL,yC,HG⟩:=cF J cJ vx A;clear aw n0 n1 kH eP I J hz cJ vx A;cases z1 with
 |false=>
  obtain rfl:z=false:=by rw[yC.O];rfl
  exact MM
 |true=>
 by_cases h2:ah=2
 ·subst h2;cases aI with
  |true=>
   obtain rfl:z=false:=by rw[yC.O];rfl
   exact MM
  |false=>
  by_cases h5:share= []
  ·subst h5;by_cases h4:ids= []
   ·subst h4;exact(HG.O (by rw[rL.O.1 rfl];rfl)).elim
   ·obtain rfl:z=false:=by rw[yC.O];simp[h4]
    have td:((ids.length:Int) != 0)=true:=by have:=List.length_pos_iff.2 h4;simp;omega
    have aww:((ids.length:Int)==0)=false:=by have:=List.length_pos_iff.2 h4;simp;omega
    exact MM
  obtain rfl:z=false:=by rw[yC.O];simp[h5]
  have hf:share.isEmpty=false:=by simpa using h5
  have zd:=Qo _ h5;exact MM
 obtain rfl:z=false:=by rw[yC.O];simp[h2]
 have hf:(ah==2)=false:=by simpa using h2
 have zd:(ah != 2)=true:=by simpa using h2
 exact MM
