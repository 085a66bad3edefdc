/- A part of the proof of SessionReads; no conditions. -/
import Derived.Test.YtgimbocoamnkjaaGreatDoorM25
import Derived.Test.YtgimbocoamnkjaaGreatDoorM23
import Derived.Test.YtgimbocoamnkjaaGreatDoorM22
set_option maxRecDepth 100000
set_option maxHeartbeats 16000000
namespace Go.Proofs.YtgimbocoamnkjaaGreatDoor
open _root_.Go.Proofs.Tryz
open Nat (le_of_eq ne_of_gt)
variable{x:Im}{cs:List Value}{N Rb T j t:Nat}{fr:Nat×Nat}{Ms:Nat→Prop}{s:az}{a:Value}{aw4 w w':World}
open Go.RowKit
theorem Ri{cs:Array Value}(h:w.heap[T]? =some (.cells cs t fr))(h1:t≠5)(h2:t≠147)(h3:t≠3):qj (bw w T):=by
 rw[j6 h];unfold qj
 omega
theorem atf{b:Value}{vs:List Value}(h:w.heap[T]? =some (.cells (a::b::cs).toArray t (0,0)))(hl:vs.length=cs.length):(w.setCells T 2 vs).heap[T]? =some (.cells (a::b::vs).toArray t (0,0)):=by
 obtain⟨BD,h1,h2,h3⟩:=pB T t vs 2 w _ h;have e:BD=(a::b::vs).toArray:=by
  apply Array.ext_getElem?;intro j;rw[h3 j];simp only[List.size_toArray,ey,List.getElem?_toArray];by_cases hj:2≤j∧j<2+vs.length∧j<cs.length+1+1
  ·rw[if_pos hj];obtain⟨i,rfl⟩:∃i,j=i+2:=⟨j - 2,by omega⟩
   simp
  rw[if_neg hj]
  match j with
  |0=>rfl
  |1=>rfl
  |j+2=>
   simp only[List.getElem?_cons_succ];rw[xz (by omega),xz (by omega)]
 rw[h1,e]
theorem oN.atg{r:Cu}(h:oN aw4 w Ms N Rb s r T){c:V3}(hi:dk w Ms c x)(G:qj (bw w T))(A:w.grownBy w' (some T)):dk w' Ms c x:=by
 obtain⟨M,⟨sv,qv,fv,gv,F⟩,hM⟩:=h.ex;obtain⟨m,h1,h2⟩:=F.lo Rb F.mR;have h3:=h.lt m h1;have h4:=h.cr.nn;have h5:=h.nt;exact⟨hi.1.sep (Sep.Wh ⟨m,h1,by omega⟩ G A),hi.2⟩
theorem ath{r:Cu}(h:RK aw4 w Ms N Rb s r)(d:Int)(l:List Int)(ok:Bool)(hh:nX s.aB d=(l,ok))(hl:s.aB.length≤100000)(R:ak)
 (I:∀w',RK aw4 w' Ms N Rb {s with aB:=l} r→R (.returned (.bool ok)) w'):
 Calls prog 99 #[.pointer (some ⟨Rb,7,none⟩),E d] w R:=by
 obtain⟨M,hr,hM⟩:=h.ex;unfold nX at hh
 split at hh
 ·rename_i J
  cases hh;refine TF Rb s d J.1 J.2.1 true (by rw[J.2.2];rfl) hl w Ms M hr h.GF R fun M' w' h1 h2=>I w' (h.step hM ?_ h2)
  rwa [if_pos rfl] at h1
 rename_i J
 cases hh;by_cases h1:1≤d∧d≤65535
 ·have h3:s.aB.contains d=true:=by
   cases h4:s.aB.contains d with
   |true=>rfl
   |false=>exact absurd ⟨h1.1,h1.2,h4⟩ J
  refine TF Rb s d h1.1 h1.2 false (by rw[h3];rfl) hl w Ms M hr h.GF R fun M' w' k1 k2=>I w' (h.step hM ?_ k2)
  rwa [if_neg (by decide)] at k1
 exact abg Rb d (by omega) w R (I w h)
theorem ati(h:Q5 s):(kP s).length≤140000000:=by
 have h1:=yD dF 65542 s.al fun x F=>by
  have k1:=qC (l:=x.filter) (h.sb x F).f;have k2:=(h.sb x F).f;exact Vz
 have h2:=yD d_ 65537 s.queue fun x F=>by
  have k1:=uE (h.qk x F).2;have k2:=(h.qk x F).2;unfold d_
  omega
 have h3:=yD fB 65540 s.ag fun x F=>by
  have k1:=uE (h.fk x F).2;have k2:=(h.fk x F).2;exact Vy
 exact aeJ
theorem atj{l:List Sb}(h:l.length=j+1){f:List UInt8}:gS l f= !decide (Lib.compareBytes (l[j]'(by omega)).filter f<0):=by
 have e:l.getLast? =some (l[j]'(by omega)):=by
  rw[List.getLast?_eq_getElem?,show l.length - 1=j by omega];exact dW (by omega)
 unfold gS;rw[e]
theorem afK{P:Prop}(h:P:=by
 go_wp2_with fail;go_quiet (fail);go_wp2_with fail;go_meet;exact⟨rfl,Z (Go.below_drewN dg _)⟩):P:=h
theorem WB{P:Prop}(h:P:=by
 have bo:¬(k:Int)<(k:Int):=by omega
 go_wp2_with fail;go_meet;exact⟨k,s,_,nZ,nT,sZ,eb,Z (.inl rfl)⟩):P:=h
theorem afL(b:List UInt8)(ep:b.length≤140000000)(v:Value)(w:World)(hv:Bs w v b)(hT:dy w)(Ms:Nat→Prop)(au:∀x,Ms x→x<w.heap.size)(bf:∃m,Ms m)(R:ak)
 (lI:rdZ b=none→∀w',Below w w w'→R (.returned (.tuple #[.pointer none,E 200])) w')
 (MS:∀s,rdZ b=some s→∀Rb M w',RR w' Ms M Rb s→(∀x,M x→w.heap.size≤x)→Below w w w'→R (.returned (.tuple #[zq Rb,E 0])) w'):
 Calls prog 33 #[v] w R:=by
 obtain⟨eR,WC,HT,HV⟩:=cF lI MS hT hv;obtain⟨va,vc,rfl,_⟩:=id hv;obtain⟨cl,c1,k1⟩:∃T s,hO ⟨b,false⟩=(T,s):=⟨_,_,rfl⟩
 obtain⟨ex,c2,k2⟩:∃T s,aN 8 c1=(T,s):=⟨_,_,rfl⟩
 obtain⟨en,c3,k3⟩:∃T s,aN 8 c2=(T,s):=⟨_,_,rfl⟩
 obtain⟨on,c4,k4⟩:∃T s,aN 1 c3=(T,s):=⟨_,_,rfl⟩
 obtain⟨n5,c5,k5⟩:∃T s,aN 1 c4=(T,s):=⟨_,_,rfl⟩
 obtain⟨m1,rfl,fR⟩:=kS (by decide) k5;obtain⟨ob,kt⟩:∃z,(on==1)=z:=⟨_,rfl⟩
 have WD:=asp k1 k2 k3 k4;rw[kt] at WD;obtain⟨s0,iy⟩:∃s:az,{cZ cl with cI:=ex,ends:=en,ej:=ob}=s:=⟨_,rfl⟩
 have oy:Hid (T1 b m1 0 s0 c5):=Z (by rw[←iy];exact asr WD k5);have Bc:Hid (jD s0 c5):=Z (by rw[←iy];exact jD.start (uf k1).1 ex en ob c5);have qI:Hid (s0.al.length=0∧s0.queue.length=0∧s0.ag.length=0∧s0.aB.length=0):=Z (by rw[←iy];exact⟨rfl,rfl,rfl,rfl⟩);have b1:Below w w (w.alloc (.cells #[.slice va b.length vc,.bool false] 137)):=aD _ _;have fL:CR w 137 w.heap.size ⟨b,false⟩ (w.alloc (.cells #[.slice va b.length vc,.bool false] 137)):=⟨⟨va,vc,aH _ _,hv⟩,b1,Nat.le_refl _,by simp only;omega⟩
 obtain⟨fP,K1,K2,K3,K4,K5,Qk,fx,fA⟩:=CO fL k1 k2 k3 k4 k5 iy au bf;clear lI MS hT hv au bf b1 fL k1 k2 k3 k4 k5 WD iy;go_enter func33,ntmps33;go_upto_region 2 with fail
 generalize w.alloc (.cells #[.slice va b.length vc,.bool false] 137)=w1 at fP⊢;obtain⟨N,hN⟩:=ai w.heap.size;have kO:=Z hN;rw[hN] at fP⊢;clear hN;go_upto_region 3 with(first
  |(go_at_call 95;go_must(refine ME N _ cl c1 K1.O w _ fP.O _ ?_);intro w2 bM bD;have eT:=Z bM;have gJ:Hid True:=trivial;clear bM bD)
  |(have hq:=gJ;go_at_call 96;go_must(refine nY N 8 _ ex c2 K2.O (by decide) w _ eT.O _ ?_);intro w3 iB dz;have np:=Z iB;clear hq gJ iB dz;have pk:Hid True:=trivial)
  |(have hq:=pk;go_at_call 96;go_must(refine nY N 8 _ en c3 K3.O (by decide) w _ np.O _ ?_);intro w4 fy cV;have jz:=Z fy;clear hq pk fy cV;have sj:Hid True:=trivial)
  |(have hq:=sj;go_at_call 96;go_must(refine nY N 1 _ on c4 K4.O (by decide) w _ jz.O _ ?_);intro w5 pP gZ;have nw:=Z pP;clear hq sj pP gZ))
 have MT:=asX (cl:=cl) (ex:=ex) (en:=en) (ob:=ob) nw.O fx.O fA.O;rw[Qk.O] at MT;generalize w5.alloc (.cells #[.string (str cl),E ex,E en,.bool ob,.slice none 0 0,.slice none 0 0,.slice none 0 0,.slice none 0 0] 62)=w6 at MT⊢;obtain⟨Rb,LZ⟩:=ai w5.heap.size;rw[LZ] at MT⊢;have WE:=Z MT;clear MT LZ fP eT np jz nw K1 K2 K3 K4 Qk kt;go_upto_block 0 with(first
  |(go_at_call 96;go_must(refine nY N 1 _ _ c5 K5.O (by decide) w _ WE.O.cr _ ?_);intro w7 tu fT;have WG:=Z (WE.O.cur tu fT);clear tu fT))
 clear WE K5;go_cut [] from 36 to 106 (fun wx=>∃(k:Nat)(s:az)(c:Cu),Hid (RK w wx Ms N Rb s c)∧Hid (T1 b m1 k s c)∧Hid (jD s c)∧Hid (s.queue.length=0∧s.ag.length=0∧s.aB.length=0)∧Hid (k=m1∨c.bad=true))
 case first=>
  go_wp2_with fail;go_loopg [7,8,9] m1 (fun gn i _ _ wr=>∃(k:Nat)(s:az)(c:Cu),k≤m1∧gn=m1 - k∧i= .int .i64 k∧Hid (s.al.length=k)∧Hid (RK w wr Ms N Rb s c)∧Hid (T1 b m1 k s c)∧Hid (jD s c)∧Hid (s.queue.length=0∧s.ag.length=0∧s.aB.length=0))
  case atStart=>exact⟨0,s0,c5,bP _,by omega,rfl,Z qI.O.1,WG,oy,Bc,Z qI.O.2⟩
  case round=>
   clear WG oy Bc qI;obtain⟨k,s,c,G,rfl,rfl,iL,nZ,nT,sZ,eb⟩:=hrel;obtain⟨wo,rfl⟩:∃x,x=wr:=⟨_,rfl⟩
   obtain⟨cb,bad⟩:=c;have c1:wo.cell? ⟨N,1,none⟩=some (.bool bad):=nZ.O.cells.1;by_cases au:k<m1;rotate_left
   ·obtain rfl:k=m1:=by omega
    exact WB
   have bo:(k:Int)<(m1:Int):=by omega
   cases bad with
   |true=>
    go_wp2_with fail;go_meet;exact⟨k,s,_,nZ,nT,sZ,eb,Z (.inr rfl)⟩
   |false=>
    obtain⟨awX,s1,k1⟩:∃T s',hO ⟨cb,false⟩=(T,s'):=⟨_,_,rfl⟩
    obtain⟨o,s2,k2⟩:∃T s',aN 1 s1=(T,s'):=⟨_,_,rfl⟩
    obtain⟨ID,s3,k3⟩:∃T s',aN 4 s2=(T,s'):=⟨_,_,rfl⟩
    obtain⟨m,rfl,dt⟩:=kS (by decide) k2;obtain⟨x,F⟩:∃x:Sb,⟨awX,bits .and .i64 (m:Int) 3,bits .and .i64 (m:Int) 4 != 0,bits .and .i64 (m:Int) 8 != 0,(m:Int) / 16,ID⟩=x:=⟨_,rfl⟩
    have I:Ef ⟨cb,false⟩=(x,s3):=by
     unfold Ef;simp only[k1,k2,k3,F]
    have mY:awX=x.filter:=by rw[←F]
    have lP:bits .and .i64 (m:Int) 3=x.ah:=by rw[←F]
    have tE:(bits .and .i64 (m:Int) 4 != 0)=x.kn:=by rw[←F]
    have yB:(bits .and .i64 (m:Int) 8 != 0)=x.kq:=by rw[←F]
    have tv:(m:Int) / 16=x.eX:=by rw[←F]
    have xP:ID=x.id:=by rw[←F]
    subst mY xP;have eM:Hid (T1 b m1 (k+1) {s with al:=s.al++ [x]} ⟨s3.b,s3.bad || gS s.al x.filter⟩):=Z (ass nT.O au I);have El:Hid (jD {s with al:=s.al++ [x]} ⟨s3.b,s3.bad || gS s.al x.filter⟩):=Z (sZ.O.sub I (by have:=iL.O;have:m1<256:=fR;omega));obtain⟨sX,uX⟩:=s3;obtain⟨g,A⟩:=ai (gS s.al x.filter);rw[A] at eM El;obtain⟨HG,K1,K2,K3⟩:=cF A k1 k2 k3;have vk:m<256:=dt;clear F I k1 k2 k3 dt A nT sZ;go_upto_block 1 with fail
    go_upto_region 8 with(first
     |(go_at_call 95;go_must(refine ME N _ _ s1 K1.O w _ nZ.O.cr _ ?_);intro df jk eU;have CJ:=Z (nZ.O.cur jk eU);have afM:=Z (aH df (.cells gB 64));clear jk eU)
     |((refine gw 64 8 50 (df.heap.size) afM.O ?_);rw[World.setRow_alloc_new]))
    have MU:=CJ.O.box (.cells #[.string (str x.filter),E 0,.bool false,.bool false,E 0,E 0] 64);have yw:=aH df (.cells #[.string (str x.filter),E 0,.bool false,.bool false,E 0,E 0] 64);generalize df.alloc (.cells #[.string (str x.filter),E 0,.bool false,.bool false,E 0,E 0] 64)=du at MU yw⊢;obtain⟨T,cQ⟩:=ai df.heap.size;rw[cQ] at MU yw⊢;have Jd:=Z MU;have Bf:=Z yw;have yG:Hid (T≠N):=ne_of_gt MU.nt;clear MU yw cQ afM CJ nZ c1;go_upto_region 9 with(first
     |(go_at_call 96;go_must(refine nY N 1 _ _ s2 K2.O (by decide) w _ Jd.O.cr _ ?_);intro cY Dv BZ;have t_:=Z (Jd.O.cur Dv BZ);have uY:=dI BZ Bf.O yG.O;have yy:=Z uY;have t1:=D 1 uY;have f1:=aC uY 1;have t2:=D 2 uY;have f2:=aC uY 2;have t3:=D 3 uY;have f3:=aC uY 3;have t4:=D 4 uY;have f4:=aC uY 4;clear Dv BZ uY))
    go_upto_region 10 with fail
    have Em:((((cY.setCell ⟨T,1,none⟩ (.int .i64 x.ah)).setCell ⟨T,2,none⟩ (.bool x.kn)).setCell ⟨T,3,none⟩ (.bool x.kq)).setCell ⟨T,4,none⟩ (.int .i64 x.eX)).heap[T]? =some (.cells #[.string (str x.filter),.int .i64 x.ah,.bool x.kn,.bool x.kq,.int .i64 x.eX,E 0] 64):=by
     rw[bm _ T 4 _ _ _ (bm _ T 3 _ _ _ (bm _ T 2 _ _ _ (bm cY T 1 _ _ _ yy.O)))]
     rfl
    have mE:cY.grownBy ((((cY.setCell ⟨T,1,none⟩ (.int .i64 x.ah)).setCell ⟨T,2,none⟩ (.bool x.kn)).setCell ⟨T,3,none⟩ (.bool x.kq)).setCell ⟨T,4,none⟩ (.int .i64 x.eX)) (some T):=cg (cg (cg (br cY ⟨T,1,none⟩ _) (br _ ⟨T,2,none⟩ _)) (br _ ⟨T,3,none⟩ _)) (br _ ⟨T,4,none⟩ _);have WH:=t_.O.put (Ri yy.O (by decide) (by decide) (by decide)) mE;generalize (((cY.setCell ⟨T,1,none⟩ (.int .i64 x.ah)).setCell ⟨T,2,none⟩ (.bool x.kn)).setCell ⟨T,3,none⟩ (.bool x.kq)).setCell ⟨T,4,none⟩ (.int .i64 x.eX)=mD at Em WH⊢;have MV:=Z Em;have Je:=Z WH;clear Em WH mE t1 f1 t2 f2 t3 f3 t4 f4 lP tv tE yB Jd Bf t_ yy;go_upto_region 11 with(first
     |(go_at_call 96;go_must(refine nY N 4 _ _ ⟨sX,uX⟩ K3.O (by decide) w _ Je.O.cr _ ?_);intro rM Bk CK;have xv:=Z (Je.O.cur Bk CK);have Bl:=dI CK MV.O yG.O;have WI:=Z Bl;have t5:=D 5 Bl;have f5:=aC Bl 5;clear Bk CK Bl))
    have GI:(rM.setCell ⟨T,5,none⟩ (.int .i64 x.id)).heap[T]? =some (.cells (bH x) 64):=by
     rw[bm rM T 5 _ _ _ WI.O]
     rfl
    have GJ:=xv.O.put (Ri WI.O (by decide) (by decide) (by decide)) (br rM ⟨T,5,none⟩ (.int .i64 x.id));generalize rM.setCell ⟨T,5,none⟩ (.int .i64 x.id)=oF at GI GJ⊢;have MW:=Z GI;have wm:=Z GJ;clear GI GJ t5 f5 Je MV xv WI K1 K2 K3;go_cut [93] from 70 to 93 (fun atk wx=>atk= .bool g∧Hid (Below oF oF wx))
    case first=>
     obtain⟨M,⟨sv,qv,fv,gv,F⟩,hM⟩:=wm.O.ex;have aq:=F.W;rw[iL.O] at aq;obtain⟨sa,sc,rfl⟩:=cR aq;have c4:=F.cells.2.2.2.2.1;have t0:=D 0 MW.O;have aV:=Z aq;clear F aq hM;by_cases gL:k=0
     ·subst gL;obtain rfl:g=false:=by
       rw[←HG.O,n_ iL.O]
       rfl
      exact afK
     obtain⟨j,rfl⟩:∃j,k=j+1:=⟨k - 1,by omega⟩
     clear gL;have cW:j<s.al.length:=by have:=iL.O;omega
     obtain⟨gb,rfl⟩:=jF aV.O (by omega);have fI:=yV aV.O iL.O cW 0 (by omega);obtain⟨v,hv⟩:=ai ((s.al[j]).filter);have xX:oF.cell? ⟨gb,j*6,none⟩=some (.string (str v)):=by
      rw[←hv];exact fI
     have jK:Op.bytesLess v x.filter= !g:=by
      rw[←HG.O,atj iL.O,hv,bytesLess_eq,Bool.not_not]
     have hd:decide ((0:Int)<((j+1:Nat):Int))=true:=eN (by omega);have awC:IntKind.i64.wrap (((j+1:Nat):Int) - 1)=(j:Int):=by rw[IntKind.wrap_i64];omega
     clear fI hv;exact afK
    obtain⟨rfl,WJ⟩:=hcut;obtain⟨Fv,rfl⟩:∃x,x=wc:=⟨_,rfl⟩
    have rZ:=Z (wm.O.below WJ.O);have WK:=Z (aA MW.O WJ.O);clear wm MW WJ HG;go_upto_if 93 with fail
    go_cut [] from 94 to 96 (fun wx=>Hid (oN w wx Ms N Rb s ⟨sX,uX || g⟩ T)∧Hid (wx.heap[T]? =some (.cells (bH x) 64)))
    case first=>
     obtain⟨c1,f1⟩:=rZ.O.rk.cells;cases g with
     |true=>
      go_wp2_with fail;go_meet;exact⟨by rw[Bool.or_true];exact Z (rZ.O.mark true),Z (dI (br Fv ⟨N,1,none⟩ _) WK.O yG.O)⟩
     |false=>
      go_wp2_with fail;go_meet;exact⟨by rw[Bool.or_false];exact rZ,WK⟩
    obtain⟨yF,MX⟩:=hcut;obtain⟨kv,rfl⟩:∃x,x=wc:=⟨_,rfl⟩
    clear rZ WK yG;go_upto_region 13 with fail
    have xw:=bq kv;have Am:=yF.O.below xw;have CL:=aA MX.O xw;have di:Below kv.drew.heap.size kv.drew (kv.drew.alloc (.cells (bH x) 64)):=aD _ _;have Ak:=Z (Am.below di).rk;obtain⟨M,⟨sv,qv,fv,gv,F⟩,hM⟩:=Am.ex;have WL:=F.W;rw[iL.O] at WL;obtain⟨sa,sc,rfl⟩:=cR WL;have c4:=F.cells.2.2.2.2.1;have OZ:(kv.alloc (.cells (bH x) 64)).drew.cell? ⟨Rb,4,none⟩=some (.slice sa k sc):=cell_later di c4;have bu:=F.below di;have fE:=bu.W;rw[iL.O] at fE;obtain⟨aV,ff,HM⟩:=bX fE bu hM;have t0:=oP kv.drew T 0 _ _ _ CL;obtain⟨t1,t2,t3,t4,t5⟩:=Cc CL;have afN:k<256:=by have h1:m1<256:=fR;omega
    clear xw Am CL WL F bu fE hM di;go_region_law (first
     |(refine PE (by rfl) (.tmp 101) (.tmp 103) 58 (by rfl) 0 64 (.agg gB) 6 48 underlying58 mw rfl (by decide) (.slice sa k sc) k _ (by rfl) aV.O kv 1 1 (bH x) (by rfl) (dO kv.drew (bH x) 64 6 1 rfl) (PJ x) (by unfold maxLen;omega) (by omega) (bP _) (by decide) ?_;intro fS wU w6 ky pX;have bI:=pX.grown;have r6:=hZ bI ff.O.hS (i_ ff.O.hS aV.O (by decide));have e4:=D 4 r6;have f4:=aC r6 4))
    all_goals
     obtain⟨M',tq,cK⟩:=RX.asV (ss:=s.al++ [x]) ff.O Ak.O.GF (by rw[aK,iL.O,jZ];simpa [aT] using ky) pX;have GK:Hid (RK w _ Ms N Rb {s with al:=s.al++ [x]} ⟨sX,uX || g⟩):=Z (Ak.O.step (fun b U=>(HM.O b U).1) ⟨_,_,_,_,tq⟩ cK);have GL:Hid (({s with al:=s.al++ [x]}:az).al.length=k+1):=Z (by show(s.al++ [x]).length=k+1;rw[aK,iL.O];rfl);clear tq cK ky pX bI r6 t0 t1 t2 t3 t4 t5;go_wp2_with fail;go_roundg (m1 - (k+1))
     case measure=>omega
     case rel=>exact⟨k+1,_,_,by omega,rfl,by go_num,GL,GK,eM,El,eb⟩
 clear WG oy Bc qI;obtain⟨ka,sa,ca,WM,afO,afP,Ej,afQ⟩:=hcut;obtain⟨wa,rfl⟩:∃x,x=wc:=⟨_,rfl⟩
 obtain⟨n6,c6,k6⟩:∃T s,aN 1 ca=(T,s):=⟨_,_,rfl⟩
 obtain⟨m2,rfl,fh⟩:=kS (by decide) k6;have BO:=Z (ast afO.O afQ.O k6);have F1:=Z (afP.O.num k6);have K6:=Z k6;clear k6 afO afP afQ;go_upto_block 2 with(first
  |(go_at_call 96;go_must(refine nY N 1 _ _ c6 K6.O (by decide) w _ WM.O.cr _ ?_);intro w8 kR eL;have An:=Z (WM.O.cur kR eL);clear kR eL))
 clear WM K6;go_cut [] from 109 to 147 (fun wx=>∃(k:Nat)(s:az)(c:Cu),Hid (RK w wx Ms N Rb s c)∧Hid (T2 b m2 k s c)∧Hid (jD s c)∧Hid (s.ag.length=0∧s.aB.length=0)∧Hid (k=m2∨c.bad=true))
 case first=>
  go_wp2_with fail;go_loopg [10,11,12] m2 (fun gn i _ _ wr=>∃(k:Nat)(s:az)(c:Cu),k≤m2∧gn=m2 - k∧i= .int .i64 k∧Hid (s.queue.length=k)∧Hid (RK w wr Ms N Rb s c)∧Hid (T2 b m2 k s c)∧Hid (jD s c)∧Hid (s.ag.length=0∧s.aB.length=0))
  case atStart=>exact⟨0,sa,c6,bP _,by omega,rfl,Z Ej.O.1,An,BO,F1,Z Ej.O.2⟩
  case round=>
   clear An BO F1 Ej;obtain⟨k,s,c,G,rfl,rfl,iL,nZ,nT,sZ,eb⟩:=hrel;obtain⟨wo,rfl⟩:∃x,x=wr:=⟨_,rfl⟩
   obtain⟨cb,bad⟩:=c;have c1:wo.cell? ⟨N,1,none⟩=some (.bool bad):=nZ.O.cells.1;by_cases au:k<m2;rotate_left
   ·obtain rfl:k=m2:=by omega
    exact WB
   have bo:(k:Int)<(m2:Int):=by omega
   cases bad with
   |true=>
    go_wp2_with fail;go_meet;exact⟨k,s,_,nZ,nT,sZ,eb,Z (.inr rfl)⟩
   |false=>
    obtain⟨aw2,s1,k1⟩:∃T s',hO ⟨cb,false⟩=(T,s'):=⟨_,_,rfl⟩
    obtain⟨x,er,k2⟩:∃T s',rdI aw2=(T,s'):=⟨_,_,rfl⟩
    obtain⟨sX,uX⟩:=s1;have I:itemR ⟨cb,false⟩=(x,⟨sX,uX || er != 0⟩):=by
     unfold itemR;simp only[k1,k2]
    have eM:=Z (asu nT.O au I);have El:=Z (sZ.O.push I (by have:=iL.O;have:m2<256:=fh;omega));have HB:=Z (V8 I).1;have En:=Z (uf k1).1;have K1:=Z k1;have K2:=Z k2;clear I k1 k2 nT sZ;go_upto_block 3 with fail
    go_upto_region 19 with(first
     |(go_at_call 98;go_must(refine MD N _ aw2 ⟨sX,uX⟩ K1.O w _ nZ.O.cr _ ?_);intro xa xc df oK jk eU;have uR:=Z (b_ oK);have CJ:=Z (nZ.O.cur jk eU);clear oK jk eU)
     |(go_at_call 97;go_must(refine afF aw2 x er K2.O _ _ uR.O En.O (HT.O.below CJ.O.cr.low) _ ?_);intro da dc V X ia ic du afR eH;have AZ:Hid (dk du Ms (.slice da x.note.ay.length dc,.slice V x.note.props.length X,.slice ia x.ids.length ic) x):=Z ⟨(afR.wr CJ.O.GF).imp fun y hy=>hy.c HB.O,HB.O⟩;have MY:=Z (CJ.O.below eH);have afS:=Z (aH du (.cells aX 36));clear afR eH)
     |((refine gw 36 11 125 (du.heap.size) afS.O ?_);rw[World.setRow_alloc_new]))
    have MZ:=MY.O.box (.cells (aG x da dc V X ia ic) 36);have uY:=aH du (.cells (aG x da dc V X ia ic) 36);have CF:=AZ.O.sep (.cL (aD du (.cells (aG x da dc V X ia ic) 36)));generalize du.alloc (.cells (aG x da dc V X ia ic) 36)=cY at MZ uY CF⊢;obtain⟨T,cQ⟩:=ai du.heap.size;rw[cQ] at MZ uY⊢;obtain⟨t_,yy,vS⟩:=bX MZ uY CF;have yG:Hid (T≠N):=ne_of_gt MZ.nt;clear MZ uY CF cQ afS AZ MY CJ uR;clear nZ c1 K1 K2 En;go_cut [] from 127 to 137 (fun wx=>Hid (oN w wx Ms N Rb s ⟨sX,uX || er != 0⟩ T)∧Hid (wx.heap[T]? =some (.cells (aG x da dc V X ia ic) 36))∧Hid (dk wx Ms (.slice da x.note.ay.length dc,.slice V x.note.props.length X,.slice ia x.ids.length ic) x))
    case first=>
     obtain⟨c1,f1⟩:=t_.O.rk.cells;cases uX with
     |true=>
      go_wp2_with fail;go_meet;exact⟨Z (t_.O.mark true),Z (dI (br cY ⟨N,1,none⟩ _) yy.O yG.O),Z (t_.O.Ca vS.O (br cY ⟨N,1,none⟩ _))⟩
     |false=>
      go_wp2_with fail;go_meet;exact⟨Z (t_.O.mark (er != 0)),Z (dI (br cY ⟨N,1,none⟩ _) yy.O yG.O),Z (t_.O.Ca vS.O (br cY ⟨N,1,none⟩ _))⟩
    clear t_ yy vS;obtain⟨yF,MX,WN⟩:=hcut;obtain⟨kv,rfl⟩:∃x,x=wc:=⟨_,rfl⟩
    go_upto_region 20 with fail
    have xw:=bq kv;have Am:=yF.O.below xw;have CL:=aA MX.O xw;have di:Below kv.drew.heap.size kv.drew (kv.drew.alloc (.cells (aG x da dc V X ia ic) 36)):=aD _ _;have Ak:=Z (Am.below di).rk;have pR:=Z ((WN.O.sep (.cL xw)).sep (.cL di));obtain⟨M,⟨sv,qv,fv,gv,F⟩,hM⟩:=Am.ex;obtain⟨afT,afU,rfl⟩:∃a c,qv= .slice a s.queue.length c:=by
     obtain⟨ps,_,h2,_⟩:=F.hq;exact h2.shape
    rw[iL.O] at F;have c5:=F.cells.2.2.2.2.2.1;have aa1:(kv.alloc (.cells (aG x da dc V X ia ic) 36)).drew.cell? ⟨Rb,5,none⟩=some (.slice afT k afU):=cell_later di c5;have bu:=F.below di;obtain⟨ps,aZ,fE,KN⟩:=bu.hq;rw[iL.O] at fE;obtain⟨aV,ff,dR,je,HM⟩:=jq fE bu aZ KN hM;obtain⟨⟨i0,i1,i2,i3,i4,i5,i6⟩,i7,i8,i9,i10,i11,i12,i13⟩:=tg (w:=kv.drew) CL;have afN:k<256:=by have h1:m2<256:=fh;omega
    clear xw Am CL F bu aZ fE KN hM di;go_region_law (first
     |refine RL (by rfl) (.tmp 142) (.tmp 144) 52 (by rfl) 36 (Value.agg aX) 14 184 underlying52 vr rfl (by decide) (.slice afT k afU) k _ (by rfl) aV.O ⟨kv,0,none⟩ 1 1 (aG x da dc V X ia ic) (by rfl) (dO kv.drew (aG x da dc V X ia ic) 36 14 1 rfl) (BE _ _ _ _ _ _ _) (by unfold maxLen;omega) (by omega) (by omega) ?_;intro fS wU w6 ky pX;have r6:=pX.row aV.O ff.O.hS (by decide);have e5:=D 5 r6;have f5:=aC r6 5)
    all_goals
     obtain⟨M',tq,cK⟩:=RX.push ff.O Ak.O.GF dR.O je.O pR.O (by rw[iL.O];exact ky) pX;have GK:Hid (RK w _ Ms N Rb {s with queue:=s.queue++ [x]} ⟨sX,uX || er != 0⟩):=Z (Ak.O.step (fun b U=>(HM.O b U).1) ⟨_,_,_,_,tq⟩ cK);have GL:Hid (({s with queue:=s.queue++ [x]}:az).queue.length=k+1):=Z (by show(s.queue++ [x]).length=k+1;rw[aK,iL.O];rfl);clear tq cK ky pX r6 i0 i1 i2 i3 i4 i5 i6 i7 i8 i9 i10 i11 i12 i13;go_wp2_with fail;go_roundg (m2 - (k+1))
     case measure=>omega
     case rel=>exact⟨k+1,_,_,by omega,rfl,by go_num,GL,GK,eM,El,eb⟩
 clear An BO F1 Ej;obtain⟨kb,sb,cb,WO,afV,afW,oE,afX⟩:=hcut;obtain⟨wb,rfl⟩:∃x,x=wc:=⟨_,rfl⟩
 obtain⟨n7,c7,k7⟩:∃T s,aN 1 cb=(T,s):=⟨_,_,rfl⟩
 obtain⟨m3,rfl,lP⟩:=kS (by decide) k7;have Jh:=Z (asv afV.O afX.O k7);have WQ:=Z (afW.O.num k7);have K7:=Z k7;clear k7 afV afW afX;go_upto_block 4 with(first
  |(go_at_call 96;go_must(refine nY N 1 _ _ c7 K7.O (by decide) w _ WO.O.cr _ ?_);intro w8 kR eL;have An:=Z (WO.O.cur kR eL);clear kR eL))
 clear WO K7;go_cut [] from 150 to 195 (fun wx=>∃(k:Nat)(s:az)(c:Cu),Hid (RK w wx Ms N Rb s c)∧Hid (T3 b m3 k s c)∧Hid (jD s c)∧Hid (s.aB.length=0)∧Hid (k=m3∨c.bad=true))
 case first=>
  go_wp2_with fail;go_loopg [13,14,15,16] m3 (fun gn i _ _ _ wr=>∃(k:Nat)(s:az)(c:Cu),k≤m3∧gn=m3 - k∧i= .int .i64 k∧Hid (s.ag.length=k)∧Hid (RK w wr Ms N Rb s c)∧Hid (T3 b m3 k s c)∧Hid (jD s c)∧Hid (s.aB.length=0))
  case atStart=>exact⟨0,sb,c7,bP _,by omega,rfl,Z oE.O.1,An,Jh,WQ,Z oE.O.2⟩
  case round=>
   clear An Jh WQ oE;obtain⟨k,s,c,G,rfl,rfl,iL,nZ,nT,sZ,eb⟩:=hrel;obtain⟨wo,rfl⟩:∃x,x=wr:=⟨_,rfl⟩
   obtain⟨cb,bad⟩:=c;have c1:wo.cell? ⟨N,1,none⟩=some (.bool bad):=nZ.O.cells.1;by_cases au:k<m3;rotate_left
   ·obtain rfl:k=m3:=by omega
    exact WB
   have bo:(k:Int)<(m3:Int):=by omega
   cases bad with
   |true=>
    go_wp2_with fail;go_meet;exact⟨k,s,_,nZ,nT,sZ,eb,Z (.inr rfl)⟩
   |false=>
    obtain⟨id,s1,k1⟩:∃T s',aN 2 ⟨cb,false⟩=(T,s'):=⟨_,_,rfl⟩
    obtain⟨state,s2,k2⟩:∃T s',aN 1 s1=(T,s'):=⟨_,_,rfl⟩
    obtain⟨aw2,s3,k3⟩:∃T s',hO s2=(T,s'):=⟨_,_,rfl⟩
    obtain⟨x,er,k4⟩:∃T s',rdI aw2=(T,s'):=⟨_,_,rfl⟩
    obtain⟨sX,uX⟩:=s3;have I:flR ⟨cb,false⟩=(⟨id,state,x⟩,⟨sX,uX || er != 0⟩):=by
     unfold flR itemR;simp only[k1,k2,k3,k4]
    have eM:=Z (asw nT.O au I);have El:=Z (sZ.O.mP I (by have:=iL.O;have:m3<256:=lP;omega));have HB:Hid (fX x):=Z (afa I).1.1;have En:=Z (uf k3).1;obtain⟨K1,K2,K3,K4⟩:=cF k1 k2 k3 k4;have gJ:Hid True:=trivial;clear I k1 k2 k3 k4 nT sZ;go_upto_block 5 with fail
    go_upto_region 26 with(first
     |(have hq:=gJ;go_at_call 96;go_must(refine nY N 2 _ id s1 K1.O (by decide) w _ nZ.O.cr _ ?_);intro w8 kR eL;have C1:=Z (nZ.O.cur kR eL);clear hq gJ kR eL;have pk:Hid True:=trivial)
     |(have hq:=pk;go_at_call 96;go_must(refine nY N 1 _ state s2 K2.O (by decide) w _ C1.O.cr _ ?_);intro w9 lX bW;have Ji:=Z (C1.O.cur lX bW);have afY:=Z (aH w9 (.cells mo 51));clear hq pk lX bW)
     |((refine gw 51 14 166 (w9.heap.size) afY.O ?_);rw[World.setRow_alloc_new]))
    have M4:=Ji.O.box (.cells #[E id,E state,.string ⟨#[]⟩,.slice none 0 0,E 0,.bool false,.string ⟨#[]⟩,E 0,.slice none 0 0,E 0,E 0,E 0,E 0,.bool false,.slice none 0 0,.string ⟨#[]⟩] 51);have Rj:=aH w9 (.cells #[E id,E state,.string ⟨#[]⟩,.slice none 0 0,E 0,.bool false,.string ⟨#[]⟩,E 0,.slice none 0 0,E 0,E 0,E 0,E 0,.bool false,.slice none 0 0,.string ⟨#[]⟩] 51);generalize w9.alloc (.cells #[E id,E state,.string ⟨#[]⟩,.slice none 0 0,E 0,.bool false,.string ⟨#[]⟩,E 0,.slice none 0 0,E 0,E 0,E 0,E 0,.bool false,.slice none 0 0,.string ⟨#[]⟩] 51)=df at M4 Rj⊢;obtain⟨T,cQ⟩:=ai w9.heap.size;rw[cQ] at M4 Rj⊢;have WR:=Z M4;have mC:=Z Rj;have yG:Hid (T≠N):=ne_of_gt M4.nt;clear M4 Rj cQ afY C1 Ji nZ K1 K2 c1;go_upto_region 27 with(first
     |(go_at_call 98;go_must(refine MD N _ aw2 ⟨sX,uX⟩ K3.O w _ WR.O.cr _ ?_);intro xa xc du zQ yx fN;have uS:=Z (b_ zQ);have Rk:=Z (WR.O.cur yx fN);have Cn:=Z (dI fN mC.O yG.O);clear zQ yx fN)
     |(go_at_call 97;go_must(refine afF aw2 x er K4.O _ _ uS.O En.O (HT.O.below Rk.O.cr.low) _ ?_);intro da dc V X ia ic cY afZ dC;have vS:Hid (dk cY Ms (.slice da x.note.ay.length dc,.slice V x.note.props.length X,.slice ia x.ids.length ic) x):=Z ⟨(afZ.wr Rk.O.rk.GF).imp fun y hy=>hy.c HB.O,HB.O⟩;have WS:=Z (Rk.O.below dC);have PQ:=Z (aA Cn.O dC);have af0:=Z (aH cY (.cells aX 36));clear afZ dC)
     |((refine gw 36 15 171 (cY.heap.size) af0.O ?_);rw[World.setRow_alloc_new]))
    have Rl:=aD cY (.cells (aG x da dc V X ia ic) 36);have WT:=WS.O.below Rl;have WU:=aA PQ.O Rl;have WV:=vS.O.sep (.cL Rl);have Rm:=aH cY (.cells (aG x da dc V X ia ic) 36);generalize cY.alloc (.cells (aG x da dc V X ia ic) 36)=mD at WT WU WV Rm⊢;have jK:=WS.O.cr.lt;obtain⟨T2,JH⟩:=ai cY.heap.size;rw[JH] at Rm jK⊢;have WW:Hid (T2≠N):=ne_of_gt jK;obtain⟨Jj,KG,Ec,pZ⟩:=cF WT WU WV Rm;clear Rl WT WU WV Rm jK JH af0 vS WR mC Rk Cn WS PQ uS K3 K4 En;go_cut [] from 173 to 183 (fun wx=>Hid (oN w wx Ms N Rb s ⟨sX,uX || er != 0⟩ T)∧Hid (wx.heap[T]? =some (.cells #[E id,E state,.string ⟨#[]⟩,.slice none 0 0,E 0,.bool false,.string ⟨#[]⟩,E 0,.slice none 0 0,E 0,E 0,E 0,E 0,.bool false,.slice none 0 0,.string ⟨#[]⟩] 51))∧Hid (wx.heap[T2]? =some (.cells (aG x da dc V X ia ic) 36))∧Hid (dk wx Ms (.slice da x.note.ay.length dc,.slice V x.note.props.length X,.slice ia x.ids.length ic) x))
    case first=>
     obtain⟨c1,f1⟩:=Jj.O.rk.cells;cases uX with
     |true=>
      go_wp2_with fail;go_meet;exact⟨Z (Jj.O.mark true),Z (dI (br mD ⟨N,1,none⟩ _) KG.O yG.O),Z (dI (br mD ⟨N,1,none⟩ _) pZ.O WW.O),Z (Jj.O.Ca Ec.O (br mD ⟨N,1,none⟩ _))⟩
     |false=>
      go_wp2_with fail;go_meet;exact⟨Z (Jj.O.mark (er != 0)),Z (dI (br mD ⟨N,1,none⟩ _) KG.O yG.O),Z (dI (br mD ⟨N,1,none⟩ _) pZ.O WW.O),Z (Jj.O.Ca Ec.O (br mD ⟨N,1,none⟩ _))⟩
    clear Jj KG Ec pZ yG WW;obtain⟨WX,fA,Rn,af1⟩:=hcut;obtain⟨rM,rfl⟩:∃x,x=wc:=⟨_,rfl⟩
    have mB:Hid (∀j,j<((aG x da dc V X ia ic):Array Value).size→(rM.cell? ⟨T,2+j,none⟩).isSome=true):=Z (fun j hj=>by
     rw[D (2+j) fA.O];exact(by
      have h:∀j,j<14→((#[E id,E state,.string ⟨#[]⟩,.slice none 0 0,E 0,.bool false,.string ⟨#[]⟩,E 0,.slice none 0 0,E 0,E 0,E 0,E 0,.bool false,.slice none 0 0,.string ⟨#[]⟩]:Array Value)[2+j]?).isSome=true:=fun j hj=>by
       match j,hj with
       |0,_|1,_|2,_|3,_|4,_|5,_|6,_|7,_|8,_|9,_|10,_|11,_|12,_|13,_=>rfl
      exact h j hj))
    have sM:Hid (∀j,j<((aG x da dc V X ia ic):Array Value).size→rM.frozen? ⟨T,2+j,none⟩=false):=Z (fun j _=>aC fA.O (2+j));go_upto_region 29 with(first
     |(refine kJ 184 36 15 T2 Rn.O underlying36 ?_)
     |(refine EF (o:=⟨none,.store 36 (.tmp 185) (.tmp 184),_,_,_,_⟩) (by rfl) 36 (.tmp 185) (.tmp 184) (by rfl) T 2 (aG x da dc V X ia ic) (by rfl) (by rfl) mB.O sM.O (by kernel_rfl) (by simp[Value.oneCell']) ?_))
    have Ro:=qZ T (aG x da dc V X ia ic) 2 rM;have GI:=atf (vs:= (aG x da dc V X ia ic)) fA.O rfl;have GJ:=WX.O.put (Ri fA.O (by decide) (by decide) (by decide)) Ro;have WY:=WX.O.atg af1.O (Ri fA.O (by decide) (by decide) (by decide)) Ro;generalize rM.setCells T 2 (aG x da dc V X ia ic)=kv at Ro GI GJ WY⊢;have yF:=Z GJ;have MX:Hid (kv.heap[T]? =some (.cells (cA id state x da dc V X ia ic) 51)):=Z GI;have WN:=Z WY;clear Ro GI GJ WY WX fA Rn af1 mB sM;have xw:=bq kv;have Am:=yF.O.below xw;have CL:=aA MX.O xw;have di:Below kv.drew.heap.size kv.drew (kv.drew.alloc (.cells (cA id state x da dc V X ia ic) 51)):=aD _ _;have Ak:=Z (Am.below di).rk;have pR:=Z ((WN.O.sep (.cL xw)).sep (.cL di));obtain⟨M,⟨sv,qv,fv,gv,F⟩,hM⟩:=Am.ex;obtain⟨fa,fc,rfl⟩:∃a c,fv= .slice a s.ag.length c:=by
     obtain⟨ps,_,h2,_⟩:=F.hf;exact cR h2
    rw[iL.O] at F;have c7:=F.cells.2.2.2.2.2.2.1;have Fp:(kv.alloc (.cells (cA id state x da dc V X ia ic) 51)).drew.cell? ⟨Rb,6,none⟩=some (.slice fa k fc):=cell_later di c7;have bu:=F.below di;obtain⟨gf,jM,fz,lz⟩:=bu.hf;rw[iL.O] at fz;obtain⟨oY,ff,wT,vK,HM⟩:=jq fz bu jM lz hM;obtain⟨t0,t1,t2,t3,t4,t5,t6,t7,t8,t9,t10,t11,t12,t13,t14,t15⟩:=jU CL;have afN:k<256:=by have h1:m3<256:=lP;omega
    clear xw Am CL F bu jM fz lz hM di;go_region_law (first
     |(refine PE (by rfl) (.tmp 190) (.tmp 192) 48 (by rfl) 0 51 (Value.agg mo) 16 200 underlying48 yS rfl (by decide) (.slice fa k fc) k _ (by rfl) oY.O kv 1 1 (cA id state x da dc V X ia ic) (by rfl) (dO kv.drew (cA id state x da dc V X ia ic) 51 16 1 rfl) (KA _ _ _ _ _ _ _) (by unfold maxLen;omega) (by omega) (bP _) (by decide) ?_;intro fS wU w6 ky pX;have bI:=pX.grown;have r6:=hZ bI ff.O.hS (i_ ff.O.hS oY.O (by decide));have e7:=D 6 r6;have f7:=aC r6 6))
    all_goals
     obtain⟨M',tq,cK,_⟩:=RX.mP (fs:=s.ag++ [⟨id,state,x⟩]) (ps:=gf++ [((.slice da x.note.ay.length dc,.slice V x.note.props.length X,.slice ia x.ids.length ic),⟨id,state,x⟩)]) ff.O Ak.O.GF (by rw[nv,wT.O];rfl) (fun p hp=>by
      rcases ez.1 hp with hp|hp
      ·exact vK.O p hp
      obtain rfl:=dM.1 hp;exact pR.O) (by rw[jZ,aK,iL.O];exact ky) pX
     have GK:Hid (RK w _ Ms N Rb {s with ag:=s.ag++ [⟨id,state,x⟩],bJ:=s.bJ++ [id]} ⟨sX,uX || er != 0⟩):=Z (Ak.O.step (fun b U=>(HM.O b U).1) ⟨_,_,_,_,tq.bJ _⟩ cK);have GL:Hid (({s with ag:=s.ag++ [⟨id,state,x⟩],bJ:=s.bJ++ [id]}:az).ag.length=k+1):=Z (by show(s.ag++ [(⟨id,state,x⟩:Fl)]).length=k+1;rw[aK,iL.O];rfl);clear tq cK ky pX bI r6 t0 t1 t2 t3 t4 t5 t6 t7 t8 t9 t10 t11 t12 t13 t14 t15;go_wp2_with fail;go_roundg (m3 - (k+1))
     case measure=>omega
     case rel=>exact⟨k+1,_,_,by omega,rfl,by go_num,GL,GK,eM,El,eb⟩
 clear An Jh WQ oE;obtain⟨kc,sc,cc,WZ,af2,af3,MK,tm⟩:=hcut;obtain⟨wd,rfl⟩:∃x,x=wc:=⟨_,rfl⟩
 obtain⟨n8,c8,k8⟩:∃T s,aN 1 cc=(T,s):=⟨_,_,rfl⟩
 obtain⟨m4,rfl,tv⟩:=kS (by decide) k8;have IX:=Z (asx af2.O tm.O k8);have LQ:=Z (af3.O.num k8);have K8:=Z k8;clear k8 af2 af3 tm;go_upto_block 6 with(first
  |(go_at_call 96;go_must(refine nY N 1 _ _ c8 K8.O (by decide) w _ WZ.O.cr _ ?_);intro w8 kR eL;have An:=Z (WZ.O.cur kR eL);clear kR eL))
 clear WZ K8;go_cut [] from 198 to 225 (fun wx=>∃(k:Nat)(s:az)(c:Cu),Hid (RK w wx Ms N Rb s c)∧Hid (T4 b m4 k s c)∧Hid (jD s c)∧Hid (k=m4∨c.bad=true))
 case first=>
  go_wp2_with fail;go_loopg [17] m4 (fun gn i wr=>∃(k:Nat)(s:az)(c:Cu),k≤m4∧gn=m4 - k∧i= .int .i64 k∧Hid (s.aB.length≤k)∧Hid (RK w wr Ms N Rb s c)∧Hid (T4 b m4 k s c)∧Hid (jD s c))
  case atStart=>exact⟨0,sc,c8,bP _,by omega,rfl,Z (le_of_eq MK.O),An,IX,LQ⟩
  case round=>
   clear An IX LQ MK;obtain⟨k,s,c,G,rfl,rfl,iL,nZ,nT,sZ⟩:=hrel;obtain⟨wo,rfl⟩:∃x,x=wr:=⟨_,rfl⟩
   obtain⟨cb,bad⟩:=c;have c1:wo.cell? ⟨N,1,none⟩=some (.bool bad):=nZ.O.cells.1;by_cases au:k<m4;rotate_left
   ·obtain rfl:k=m4:=by omega
    have bo:¬(k:Int)<(k:Int):=by omega
    go_wp2_with fail;go_meet;exact⟨k,s,_,nZ,nT,sZ,Z (.inl rfl)⟩
   have bo:(k:Int)<(m4:Int):=by omega
   cases bad with
   |true=>
    go_wp2_with fail;go_meet;exact⟨k,s,_,nZ,nT,sZ,Z (.inr rfl)⟩
   |false=>
    obtain⟨x,c',F⟩:∃T s',aN 2 ⟨cb,false⟩=(T,s'):=⟨_,_,rfl⟩
    obtain⟨l,ok,hh⟩:∃l b,nX s.aB x=(l,b):=⟨_,_,rfl⟩
    have xf:s.aB.length<255:=by have:=iL.O;have:m4<256:=tv;omega
    have eM:=Z (asy nT.O au F hh);have El:=Z (sZ.O.MA (c':=c') rfl hh xf);have TQ:Hid (s.aB.length≤100000):=by show _≤_;omega
    have GL:Hid (({s with aB:=l}:az).aB.length≤k+1):=Z (by
     have h1:=iL.O;unfold nX at hh
     split at hh<;>cases hh
     ·show(s.aB++ [x]).length≤k+1;rw[aK];show _+1≤_
      omega
     show s.aB.length≤k+1
     omega)
    have HX:=Z F;have HH:=Z hh;clear F hh xf nT sZ;go_upto_block 7 with fail
    go_cut [] from 210 to 225 (fun wx=>Hid (RK w wx Ms N Rb {s with aB:=l} ⟨c'.b,!ok⟩))
    case first=>
     clear c1;go_upto_region 34 with fail
     have Bm:=Z (nZ.O.below (bq wo));have k1:wo.drew.cell? ⟨N,1,none⟩=some (.bool false):=Bm.O.cells.1
     first
      |go_region_law (first
       |(go_simp;go_at_call 96;refine nY N 2 _ x c' HX.O (by decide) w _ Bm.O.cr _ ?_;intro df jk eU;have CJ:=Z (Bm.O.cur jk eU);clear jk eU)
       |(go_simp;go_at_call 99;refine ath CJ.O x l ok HH.O TQ.O _ ?_;intro du D9;have MY:=Z D9;obtain⟨e1,e2⟩:=MY.O.cells;clear D9))
      |fail
     all_goals
      go_wp2_with fail;go_meet;exact Z (MY.O.mark (!ok))
    have GK:=hcut;go_wp2_with fail;go_roundg (m4 - (k+1))
    case measure=>omega
    case rel=>exact⟨k+1,_,_,by omega,rfl,by go_num,GL,GK,eM,El⟩
 clear An IX LQ MK;obtain⟨kd,sd,cd,Bm,af4,af5,Fg⟩:=hcut;obtain⟨we,rfl⟩:∃x,x=wc:=⟨_,rfl⟩
 have Co:=Z (asz af4.O Fg.O);obtain⟨awD,bad⟩:=cd;have c1:we.cell? ⟨N,1,none⟩=some (.bool bad):=Bm.O.cells.1;clear af4 Fg;cases bad with
 |true=>
  go_wp2_with fail;exact eR.O (Q6 Co.O (fun h=>by cases h.1)) _ Bm.O.cr.low
 |false=>
 have W2:=af5.O.lay rfl;obtain⟨awX,hF⟩:∃awX:Bool,awX=true↔Eg sd:=by
  by_cases h:Eg sd
  ·exact⟨true,by simp[h]⟩
  exact⟨false,by simp[h]⟩
 obtain⟨C,hC⟩:∃C:Bool,C=true↔MG sd:=by
  by_cases h:MG sd
  ·exact⟨true,by simp[h]⟩
  exact⟨false,by simp[h]⟩
 obtain⟨aw0,hY⟩:=ai (kP sd);have kK:=ati W2;rw[hY] at kK;obtain⟨M,PU,hM⟩:=Bm.O.ex;obtain⟨gu,HM,xx,HF,HC,HY,lv⟩:=qV PU hM W2 hF hC hY kK;clear W2 hF hC hY kK PU hM;go_upto_region 38 with(first
  |(go_at_call 21;go_must(refine afd Rb sd xx.O awX HF.O _ Ms M gu.O (HT.O.below Bm.O.cr.low) aw0 HY.O lv.O _ ?_);intro ya yc tW af6 W3;have nk:=Z (b_ af6);have Rp:=Z (gu.O.sep (.cL W3));have jB:=Z (cz Bm.O.cr.low W3 Bm.O.cr.low.size);clear af6 W3 c1))
 cases awX with
 |false=>
  go_wp2_with fail;exact eR.O (Q6 Co.O (fun h=>by have:=HF.O.2 h.2.1;cases this)) _ jB.O
 |true=>
  cases C with
  |false=>
   go_wp2_with (first
    |(go_at_call 100;go_must(refine Wj Rb sd (aJ xx.O.sn (by decide)) (aJ xx.O.qn (by decide)) (aJ xx.O.fn (by decide)) (aJ xx.O.gn (by decide)) false HC.O _ Ms M Rp.O _ ?_);intro af7 Ao;have qb:=Z (aQ jB.O Ao);clear Ao))
   exact eR.O (Q6 Co.O (fun h=>by have:=HC.O.2 h.2.2.1;cases this)) _ qb.O
  |true=>
   by_cases jS:aw0=b
   ·go_wp2_with (first
     |(go_at_call 100;go_must(refine Wj Rb sd (aJ xx.O.sn (by decide)) (aJ xx.O.qn (by decide)) (aJ xx.O.fn (by decide)) (aJ xx.O.gn (by decide)) true HC.O _ Ms M Rp.O _ ?_);intro af7 Ao;have qb:=Z (aQ jB.O Ao);have atl:=Z (Rp.O.sep (.cL Ao));have Jf:=lU (P:=prog) underlying22 underlying5 underlying9 (nk.O.below Ao);have EO:=lU (P:=prog) underlying22 underlying5 underlying9 (HV.O.below qb.O);obtain⟨sY,Al⟩:=ai (str aw0);have x_:str b=sY:=(by rw[←jS,Al]);rw[Al] at Jf;rw[x_] at EO;have Rf:=Z jS;clear jS Al x_ Ao))
    exact WC.O sd (asE af5.O rfl (HF.O.1 (by first|rfl|trivial)) (HC.O.1 (by first|rfl|trivial)) (HY.O.trans Rf.O) Co.O) Rb M _ atl.O (fun x F=>by have h1:=HM.O x F;have h2:=kO.O;omega) qb.O
   have Rf:=Z jS;have iy:(aw0==b)=false:=by simpa using jS
   go_wp2_with (first
    |(go_at_call 100;go_must(refine Wj Rb sd (aJ xx.O.sn (by decide)) (aJ xx.O.qn (by decide)) (aJ xx.O.fn (by decide)) (aJ xx.O.gn (by decide)) true HC.O _ Ms M Rp.O _ ?_);intro af7 Ao;have qb:=Z (aQ jB.O Ao);have Jf:=lU (P:=prog) underlying22 underlying5 underlying9 (nk.O.below Ao);have EO:=lU (P:=prog) underlying22 underlying5 underlying9 (HV.O.below qb.O);clear Ao))
   exact eR.O (Q6 Co.O (fun h=>Rf.O (HY.O.symm.trans h.2.2.2))) _ qb.O
