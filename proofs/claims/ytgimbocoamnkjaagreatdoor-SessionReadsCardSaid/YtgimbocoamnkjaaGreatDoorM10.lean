/- A part of the proof of SessionReads; no conditions. -/
import Derived.Test.YtgimbocoamnkjaaGreatDoorM07
import Derived.Test.YtgimbocoamnkjaaGreatDoorM06
import Derived.Test.YtgimbocoamnkjaaGreatDoorM05
import Derived.Test.YtgimbocoamnkjaaGreatDoorM04
import Derived.Test.YtgimbocoamnkjaaGreatDoorCards
import Derived.Test.YtgimbocoamnkjaaGreatDoorTie
import Derived.Lib.LaidIn
import Derived.Lib.LaidU8T
import Derived.Deep.DeepHandedRow
import Derived.Deep.DeepWitnessRowRef
import Derived.PinnedBridge
set_option maxRecDepth 100000
set_option maxHeartbeats 16000000
namespace Go.Proofs.YtgimbocoamnkjaaGreatDoor
open _root_.Go.Proofs.Tryz
open Int (toNat_natCast)
open List (getElem_map getElem_mem mem_cons_of_mem mem_cons_self mem_or_eq_of_mem_set nodup_append)
variable{fine ok:Bool}{x:Im}{id z:Int}{rest:List Im}{s s':az}
open Go.RowKit
theorem aan:∀(l:List Int)(i:Nat)(h:i<l.length),l.Nodup→l.erase l[i]=l.eraseIdx i
 |[],i,h,_=>by simp at h
 |x::l,0,h,_=>by simp
 |x::l,i+1,h,hn=>by
  have k_:=List.nodup_cons.1 hn;have hi:i<l.length:=by simpa using h
  have bf:x≠l[i]:=fun e=>k_.1 (e▸getElem_mem hi);rw[List.getElem_cons_succ,List.eraseIdx_cons_succ,List.erase_cons_tail (by simpa using bf),aan l i hi k_.2]
theorem map_eraseIdx{α β:Type}(f:α→β):∀(l:List α)(i:Nat),(l.eraseIdx i).map f=(l.map f).eraseIdx i
 |[],i=>by simp
 |x::l,0=>by simp
 |x::l,i+1=>by rw[List.eraseIdx_cons_succ,List.map_cons,List.map_cons,List.eraseIdx_cons_succ,map_eraseIdx f l i]
structure gg(s:az):Prop where
 qn:s.queue.length≤8
 fn:s.ag.length≤8
 eq:s.bJ=s.ag.map (·.id)
 nd:s.bJ.Nodup
 rg:∀f∈s.ag,1≤f.id∧f.id≤8
 qq:∀x∈s.queue,0≤x.ah
theorem gg.new(l:List UInt8):gg (cZ l):=⟨by simp[cZ],by simp[cZ],rfl,.nil,by simp[cZ],by simp[cZ]⟩
theorem gg.i64(h:gg s):∀f∈s.ag,iR f.id:=fun f hf=>by
 have:=h.rg f hf;exact⟨by omega,by omega⟩
theorem gg.push(h:gg s)(hl:s.queue.length<8)(F:0≤x.ah):gg {s with queue:=s.queue++ [x]}:=
 ⟨by show(s.queue++ [x]).length≤8;rw[aK];show _+1≤8;omega,h.fn,h.eq,h.nd,h.rg,fun y hy=>by
  rcases ez.1 hy with hy|hy
  ·exact h.qq y hy
  obtain rfl:=dM.1 hy;exact F⟩
theorem gg.pop(h:gg s)(hq:s.queue=x::rest):gg {s with queue:=rest}:=
 ⟨by have:=h.qn;rw[hq,ey] at this;show rest.length≤8;omega,h.fn,h.eq,h.nd,h.rg,fun y hy=>h.qq y (by rw[hq];exact mem_cons_of_mem _ hy)⟩
theorem gg.mP{d:Nat}{q:Int}(h:gg s)(hq:s.queue=x::rest)(hf:s.ag.length<8)(h1:1≤d)(h2:d≤s.bJ.length+1)(J:s.bJ.contains (d:Int)=false):
 gg {s with queue:=rest,bJ:=s.bJ++ [(d:Int)],ag:=s.ag++ [⟨d,q,x⟩]}:=by
 have hp:=h.pop hq;have lO:s.bJ.length=s.ag.length:=by rw[h.eq,j0]
 refine⟨hp.qn,?_,?_,?_,?_,hp.qq⟩
 ·show(s.ag++ [(⟨d,q,x⟩:Fl)]).length≤8;rw[aK];show _+1≤8
  omega
 ·show s.bJ++ [(d:Int)]=(s.ag++ [(⟨d,q,x⟩:Fl)]).map (·.id);rw[nv,h.eq]
  rfl
 ·show(s.bJ++ [(d:Int)]).Nodup;rw[nodup_append];refine⟨h.nd,by simp,fun a ha b U=> ?_⟩;obtain rfl:=dM.1 U;rintro rfl;simp at J;exact J ha
 intro f B5;rcases ez.1 B5 with B5|B5
 ·exact h.rg f B5
 obtain rfl:=dM.1 B5;exact⟨by show(1:Int)≤(d:Int);omega,by show(d:Int)≤8;omega⟩
theorem gg.land{p:Fl→Bool}(h:gg s)(hz:dE p s.ag=z):gg (kM s z):=by
 unfold kM
 split
 ·exact h
 obtain⟨k,G,rfl,_⟩:=zv hz (by omega);simp only[toNat_natCast,dW G,Option.map_some,Option.getD_some];have eB:k<(s.ag.map (·.id)).length:=by rw[j0];exact G
 refine⟨h.qn,?_,?_,h.nd.erase _,fun f hf=>h.rg f (List.mem_of_mem_eraseIdx hf),h.qq⟩
 ·show(s.ag.eraseIdx k).length≤8;have:=h.fn;rw[List.length_eraseIdx]
  split<;>omega
 show s.bJ.erase (s.ag[k]).id=(s.ag.eraseIdx k).map (·.id);rw[map_eraseIdx,h.eq];have hn:(s.ag.map (·.id)).Nodup:=h.eq▸h.nd;have:=aan (s.ag.map (·.id)) k eB hn
 rwa [getElem_map] at this
theorem gg.S7{p:Fl→Bool}{a b:Bool}(h:gg s)(hz:dE p s.ag=z)(hr:BW s z fine=(s',a,b)):gg s':=by
 by_cases hn:z<0
 ·rw[Kj hn] at hr;cases hr;exact h
 obtain⟨k,G,rfl,_⟩:=zv hz (by omega);rw[On G] at hr
 split at hr
 ·cases hr;exact h
 split at hr
 ·cases hr;exact h.land hz
 cases hr;refine⟨h.qn,by show(s.ag.set k _).length≤8;rw[qU];exact h.fn,?_,h.nd,fun f hf=> ?_,h.qq⟩
 ·show s.bJ=(s.ag.set k _).map (·.id);rw[h.eq];apply List.ext_getElem
  ·simp
  ·intro i h1 h2;rw[getElem_map,getElem_map,List.getElem_set]
   split
   ·rename_i e
    subst e
    rfl
   rfl
 rcases mem_or_eq_of_mem_set hf with h1|h1
 ·exact h.rg f h1
 rw[h1];exact(h.rg (s.ag[k]) (getElem_mem G):1≤(s.ag[k]).id∧(s.ag[k]).id≤8)
inductive zD (s:az) (cu:Int):Im→Int→Bool→az→Prop
 |no (h:mQ s cu=false):zD s cu ⟨⟨[],[],0,false,[],0,[],0,0,0⟩,0,false,[],[]⟩ 0 false s
 |out (x:Im) (rest:List Im) (hq:s.queue=x::rest) (h:mQ s cu=true) (hz:x.ah=0):zD s cu x 0 true {s with queue:=rest}
 |mP (x:Im) (rest:List Im) (d:Nat) (hq:s.queue=x::rest) (h:mQ s cu=true) (hz:0<x.ah) (h1:1≤d) (h2:d≤s.bJ.length+1) (J:s.bJ.contains (d:Int)=false) (ha:∀j:Nat,1≤j→j<d→s.bJ.contains (j:Int)=true):
  zD s cu x (d:Int) true {s with queue:=rest,bJ:=s.bJ++ [(d:Int)],ag:=s.ag++ [⟨d,x.ah,x⟩]}
theorem aka{cu:Int}(hq:s.queue=x::rest)(h:mQ s cu=true)(hz:0<x.ah):(s.ag.length:Int)<cu∧s.ag.length<8:=by
 unfold mQ at h;rw[hq] at h;simp only[Bool.or_eq_true,beq_iff_eq,Bool.and_eq_true,decide_eq_true_eq] at h;rcases h with h|h
 ·omega
 exact h
theorem zD.inv{cu:Int}(h:gg s)(hn:zD s cu x id ok s'):gg s':=by
 cases hn with
 |no _=>exact h
 |out x rest hq _ _=>exact h.pop hq
 |mP x rest d hq hr hz h1 h2 J ha=>exact h.mP hq (aka hq hr hz).2 h1 h2 J
theorem aao(S:Nat)(s:az)(cu:Int)(hi:gg s)(w:World)(M:Nat→Prop)(h:SR w M S s)(R:ak)
 (I:∀x id ok s' B M' V X qa qc ea ec w',zD s cu x id ok s'→SR w' M' S s'→Sep M M' w w'→ft w' B (.slice V x.note.ay.length X) (.slice qa x.note.props.length qc) (.slice ea x.ids.length ec) x→w.heap.size≤B→(∀b,M' b→b<B)→fX x→
   R (.returned (.tuple #[(Value.agg (aG x V X qa qc ea ec)),E id,.bool ok])) w'):
 Calls prog 10 #[zq S,E cu] w R:=by
 have avj:=hi.qn;have akb:=hi.fn;have lO:s.bJ.length=s.ag.length:=by rw[hi.eq,j0]
 cases hr:mQ s cu with
 |false=>
  refine aj2 S s cu hr w M h (by omega) R fun w' U=> ?_;have hM:∀b,M b→b<w'.heap.size:=fun b hm=>by
   obtain⟨NB,MB,GB,GM,sv,qv,fv,F⟩:=h;have:=F.lt b hm;have:=U.size
   omega
  exact I _ _ _ _ w'.heap.size M none 0 none 0 none 0 w' (.no hr) (h.below U) (.cL U) ⟨bO _ _ _ _,cE.nil _ _,bO _ _ _ _⟩ U.size hM X1
 |true=>
  cases hq:s.queue with
  |nil=>
   unfold mQ at hr;rw[hq] at hr;simp at hr
  |cons x rest=>
   have F:=hi.qq x (by rw[hq];exact mem_cons_self);by_cases hz:x.ah=0
   ·exact aj3 S s x rest hq cu hr hz w M h (by omega) R fun B M' V X qa qc ea ec w' h1 h2 h3 h4 h5 h6=>I _ _ _ _ B M' V X qa qc ea ec w' (.out x rest hq hr hz) h1 h2 h3 h4 h5 h6
   obtain⟨d,d1,d2,d3,d4⟩:=ahs s.bJ;exact aj8 S s x rest hq cu hr (by omega) d d1 (by omega) d3 d4 (by omega) (by omega) w M h (by omega) R fun B M' V X qa qc ea ec w' h1 h2 h3 h4 h5 h6=>I _ _ _ _ B M' V X qa qc ea ec w' (.mP x rest d hq hr (by omega) d1 d2 d3 d4) h1 h2 h3 h4 h5 h6
variable{N S t:Nat}{fr:Nat×Nat}{M M':Nat→Prop}{aw4 w w':World}
theorem aap{a L:List Value}(k n:Nat)(hN:w.heap[N]? =some (.cells a.toArray t fr))(hL:L=(a.drop k).take n):∀j,j<L.length→w.cell? ⟨N,k+j,none⟩=L[j]?:=by
 intro j hj;subst hL;have Bo:j<n:=by rw[bS] at hj;omega
 rw[D (k+j) hN,List.getElem?_take_of_lt Bo,List.getElem?_drop];simp
structure SW(aw4 w:World)(S:Nat)(s:az):Prop where
 ex:∃M,SR w M S s∧∀b,M b→aw4.heap.size≤b
 low:Below aw4 aw4 w
theorem SW.step(hl:Below aw4 aw4 w)(hM:∀b,M b→aw4.heap.size≤b)(h:SR w' M' S s')(W:Sep M M' w w'):SW aw4 w' S s':=
 ⟨⟨M',h,fun b U=>by
  rcases W.new b U with h1|h1
  ·exact hM b h1
  exact aJ hl.size h1⟩,cz hl (W.low hl.size hM) bj⟩
theorem SW.below(h:SW aw4 w S s)(U:Below w w w'):SW aw4 w' S s:=by
 obtain⟨M,h1,h2⟩:=h.ex;exact⟨⟨M,h1.below U,h2⟩,cz h.low U h.low.size⟩
def kk(s:az)(x:Im):az×Bool:=if s.queue.length<8 then ({s with queue:=s.queue++ [x]},true) else (s,false)
theorem gg.kk(h:gg s)(F:0≤x.ah):gg (kk s x).1:=by
 unfold Go.Proofs.YtgimbocoamnkjaaGreatDoor.kk
 split
 ·rename_i hl
  exact h.push hl F
 exact h
theorem aaq(S:Nat)(s:az)(x:Im)(b:Bool)(s':az)(W:kk s x=(s',b))(hi:gg s)(pv qw ev:Value)(w:World)(M:Nat→Prop)(h:SR w M S s)(J:ie w pv qw ev x)(hB:fX x)(R:ak)
 (I:∀M' w',SR w' M' S s'→Sep M M' w w'→R (.returned (.bool b)) w'):
 Calls prog 8 #[zq S,(Value.agg (qi x pv qw ev))] w R:=by
 unfold kk at W;by_cases hl:s.queue.length<8
 ·rw[if_pos hl] at W;cases W;exact ahz S s x pv qw ev w M h hl J hB R I
 rw[if_neg hl] at W;cases W;have:=hi.qn;exact X7 S s _ w M h (by omega) (by omega) R fun w' U=>I M w' (h.below U) (.cL U)
theorem akc(S:Nat)(s:az)(x:Im)(b:Bool)(s':az)(W:kk s x=(s',b))(hi:gg s)(pv qw ev:Value)(aw4 w:World)(h:SW aw4 w S s)(J:ie w pv qw ev x)(hB:fX x)(R:ak)
 (I:∀w',SW aw4 w' S s'→R (.returned (.bool b)) w'):
 Calls prog 8 #[zq S,(Value.agg (qi x pv qw ev))] w R:=by
 obtain⟨M,h1,h2⟩:=h.ex;exact aaq S s x b s' W hi pv qw ev w M h1 J hB R fun M' w' k1 k2=>I w' (.step h.low h2 k1 k2)
theorem akd(S:Nat)(s:az)(cu:Int)(hi:gg s)(aw4 w:World)(h:SW aw4 w S s)(R:ak)
 (I:∀x id ok s' V X qa qc ea ec w',zD s cu x id ok s'→SW aw4 w' S s'→ie w' (.slice V x.note.ay.length X) (.slice qa x.note.props.length qc) (.slice ea x.ids.length ec) x→fX x→
   R (.returned (.tuple #[(Value.agg (aG x V X qa qc ea ec)),E id,.bool ok])) w'):
 Calls prog 10 #[zq S,E cu] w R:=by
 obtain⟨M,h1,h2⟩:=h.ex;exact aao S s cu hi w M h1 R fun x id ok s' B M' V X qa qc ea ec w' k1 k2 k3 k4 k5 k6 k7=>I x id ok s' V X qa qc ea ec w' k1 (.step h.low h2 k2 k3) (k4.c k7) k7
theorem aar(S:Nat)(s:az)(id z:Int)(hz:dE (mv id [1]) s.ag=z)(hi:gg s)(aw4 w:World)(h:SW aw4 w S s)(R:ak)
 (I:∀w',SW aw4 w' S (kM s z)→R (.returned (.bool (decide (0≤z)))) w'):
 Calls prog 12 #[zq S,E id] w R:=by
 obtain⟨M,h1,h2⟩:=h.ex;have:=hi.fn;exact Zy S s id z hz hi.i64 (by omega) w M h1 R fun M' w' k1 k2=>I w' (.step h.low h2 k1 k2)
theorem ake(S:Nat)(s:az)(n:Nat)(hn:s.ag.length=n)(hi:gg s)(aw4 w:World)(h:SW aw4 w S s)(R:ak)
 (I:∀Y c (qs:List (V3×Fl)) w',qs.map (·.2)=s.ag→w'.ownsRow w 51 16 (.slice Y n c) n (qs.flatMap bV)→SW aw4 w' S s→Below w w w'→R (.returned (.slice Y n c)) w'):
 Calls prog 16 #[zq S] w R:=by
 subst hn;obtain⟨M,h1,h2⟩:=h.ex;have:=hi.fn;exact aag S s (by omega) w M h1 R fun Y c qs w' k1 k2 k3 k4 k5=>I Y c qs w' k1 k2 (h.below k5) k5
theorem akf(l:List UInt8)(w:World)(R:ak)
 (I:∀S w',SW w w' S (cZ l)→R (.returned (zq S)) w'):
 Calls prog 6 #[.string (str l)] w R:=
 aah l w R fun S M w' h1 h2 h3=>I S w' ⟨⟨M,h1,h2⟩,h3⟩
theorem akg(S:Nat)(s:az)(aw4 w:World)(h:SW aw4 w S s)(R:ak)
 (I:R (.returned (.string (str s.gF))) w):
 Calls prog 36 #[zq S] w R:=by
 obtain⟨M,h1,h2⟩:=h.ex;exact aai S s w M h1 R I
theorem an4(Y:av)(n c:Nat)(xs:List Value)(w:World)(hr:Rd w 6 Y n xs)(uA:∀u∈xs,u.oneCell'=true)(h1:n≤c)(h3:Y=none→c=0)(hn:n≤1000000)(R:ak)
 (I:∀bK c' w',w'.ownsRow w 64 6 (.slice bK n c') n xs→Below w w w'→R (.returned (.slice bK n c')) w'):
 Calls prog 134 #[.slice Y n c] w R:=by
 have HR:=Z I;clear I;cases Y with
 |none=>
  have J:c=0:=h3 rfl;subst J;obtain rfl:n=0:=by omega
  have F:xs= []:=n_ (by have:=hr.1;omega);subst F;have he:∀w:World,(binOp .eql 58 (.slice none 0 0) (.slice none 0 0)).run prog w= .ok (.bool true) w:=fun _=>rfl;go_enter func134,ntmps134;go_wp2;exact HR.O none 0 _ (bO _ _ _ _) dg
 |some a=>
  have he:∀w:World,(binOp .eql 58 (.slice (some a) n c) (.slice none 0 0)).run prog w= .ok (.bool false) w:=fun _=>rfl;have aU:=(World.ownsRow_made (base:=w.heap.size) (e:=64) (size:=6) w #[] 0 bj (by unfold maxLen;omega) rfl)
  have jb:=Js hr (.cells #[] 64);have tf:=Z uA;go_enter func134,ntmps134;go_wp2_with (at_builtin;go_must(refine kU (by rfl) (.tmp 5) (.tmp 6) 58 (by rfl) w 64 (.agg gB) 6 48 underlying58 mw rfl (by decide) _ _ _ _ rfl aU _ _ _ _ rfl jb tf.O h3 (by unfold maxLen;omega) (by omega) (by simp) ?_));exact ZF
theorem an5(S:Nat)(s:az)(hl:s.al.length≤100000)(w:World)(M:Nat→Prop)(h:SR w M S s)(R:ak)
 (I:∀Y c w',w'.ownsRow w 64 6 (.slice Y s.al.length c) s.al.length (s.al.flatMap aT)→Below w w w'→R (.returned (.slice Y s.al.length c)) w'):
 Calls prog 88 #[zq S] w R:=by
 have HR:=Z I;obtain⟨NB,MB,GB,GM,sv,qv,fv,F⟩:=h;obtain⟨sa,sc,rfl⟩:=cR F.W;have aV:=Z F.W;have c5:=(ef F.hS).2.1;obtain⟨n,hn⟩:=ai s.al.length;rw[hn] at c5 aV hl HR;clear I F hn;go_enter func88,ntmps88;go_wp2_with (go_at_call 134;go_must(refine an4 sa n sc (s.al.flatMap aT) w (wv aV.O) (vw _) (xA aV.O).1 (GV aV.O) (aJ hl (by decide)) _ ?_);intro h_ c3 w3 bN an;have iF:=Z bN;have cq:=Z an;clear bN an);exact HR.O h_ c3 w3 iF.O cq.O
variable{f:Fl}
theorem aoW{s s':az}{awZ x:Im}{id:Int}{ok:Bool}(hq:s.queue= [awZ])(hX:awZ.ah=1)(hf:s.ag= [])(hn:s.bJ= [])(h:zD s 1 x id ok s'):ok=true∧id=1∧s'.ag= [⟨1,1,awZ⟩]:=by
 have hr:mQ s 1=true:=by
  unfold mQ;rw[hq,hf];simp
 cases h with
 |no h=>rw[hr] at h;cases h
 |out y rest wB h hz=>rw[hq] at wB;cases wB;omega
 |mP y rest d wB h hz h1 h2 J ha=>
  rw[hq] at wB;cases wB;rw[hn] at h2;have hd:d=1:=by simp at h2;omega
  subst hd;refine⟨rfl,rfl,?_⟩;show s.ag++ [⟨1,awZ.ah,awZ⟩]=_;rw[hf,hX]
  rfl
theorem aoX(h:s.ag= [f]):(kM s 0).ag= []:=by
 unfold kM;show(s.ag.eraseIdx 0)= [];rw[h]
 rfl
theorem acX(h:s.ag= [⟨1,1,x⟩]):dE (mv 1 [1]) s.ag=0:=by
 rw[h]
 rfl
theorem aoY{p:Fl→Bool}(h:s.ag= []):dE p s.ag= -1:=by
 rw[h]
 rfl
theorem acY:fX ⟨⟨[],[],0,false,[],0,[],0,0,0⟩,1,false,[],[]⟩:=⟨⟨by simp,by simp,by simp,by simp,by simp,by decide⟩,by simp,by simp,by decide⟩
theorem aoZ(w:World):ie w (.slice none 0 0) (.slice none 0 0) (.slice none 0 0) ⟨⟨[],[],0,false,[],0,[],0,0,0⟩,1,false,[],[]⟩:=
 ft.c (B:=0) ⟨bO _ _ _ _,cE.nil _ _,bO _ _ _ _⟩ acY
theorem ao0(w:World)(R:ak)
 (I:∀w',Below w w w'→R (.returned (.bool true)) w'):
 Calls prog 7 #[] w R:=by
 have HR:=Z I;clear I;obtain⟨s0,iy⟩:=ai (cZ [99]);have cp:gg s0:=iy▸gg.new [99];have fI:s0.gF= [99]:=by rw[←iy];rfl
 obtain⟨awZ,hX⟩:∃x:Im,(⟨⟨[],[],0,false,[],0,[],0,0,0⟩,1,false,[],[]⟩:Im)=x:=⟨_,rfl⟩
 have acZ:awZ.ah=1:=by rw[←hX]
 obtain⟨s1,cH⟩:∃s,kk s0 awZ=(s,true):=⟨{s0 with queue:=s0.queue++ [awZ]},by unfold kk;rw[if_pos (by rw[←iy];decide)]⟩
 have dJ:gg s1:=by
  have:=cp.kk (x:=awZ) (by omega);rw[cH] at this;exact this
 have Fq:s1.queue= [awZ]∧s1.ag= []∧s1.bJ= []:=by
  have h1:s1={s0 with queue:=s0.queue++ [awZ]}:=by
   rw[show s1=(kk s0 awZ).1 from(congrArg Prod.fst cH).symm];unfold kk;rw[if_pos (by rw[←iy];decide)]
  rw[h1,←iy];exact⟨rfl,rfl,rfl⟩
 obtain⟨EB,IC,Qk,iH,uJ,UU,HX,ao1⟩:=Nh cp dJ iy cH fI Fq hX acZ;have fR:Hid True:=trivial;clear cp dJ iy cH fI Fq hX acZ;go_enter func7,ntmps7;go_wp2_with (first
  |(go_at_call 6;go_must(refine akf [99] _ _ ?_);intro S w1 h1;rw[Qk.O] at h1;have Ql:=Z h1;clear h1)
  |(go_at_call 36;go_must(refine akg S s0 w _ Ql.O _ ?_);rw[uJ.O])
  |(go_at_call 8;go_must(refine akc S s0 ⟨⟨[],[],0,false,[],0,[],0,0,0⟩,1,false,[],[]⟩ true s1 (by rw[HX.O];exact iH.O) EB.O _ _ _ w _ Ql.O (aoZ _) acY _ ?_);intro w2 h2;have ao2:=Z h2;clear h2)
  |(go_at_call 10;go_must(refine akd S s1 1 IC.O w _ ao2.O _ ?_);intro x id ok s3 V X qa qc ea ec w3 hn h3 _ _;have Qa:=Z (hn.inv IC.O);obtain⟨e1,e2,e3⟩:=aoW UU.O.1 ao1.O UU.O.2.1 UU.O.2.2 hn;subst e1;subst e2;have ao3:=Z h3;have UW:=Z e3;have N3:=Z (aH w3 (.cells aX 36));clear h3 hn e3)
  |(refine gw 36 3 20 w3.heap.size N3.O ?_;rw[World.setRow_alloc_new];have h4:=ao3.O.below (aD w3 (.cells (aG x V X qa qc ea ec) 36));generalize w3.alloc (.cells (aG x V X qa qc ea ec) 36)=w4 at h4⊢;have ao4:=Z h4;clear h4)
  |(have hq:=fR;go_at_call 12;go_must(refine aar S s3 1 0 (acX UW.O) Qa.O w _ ao4.O _ ?_);intro w5 h5;have uI:=gg.land (p:=mv 1 [1]) (z:=0) Qa.O (acX UW.O);have IJ:(kM s3 0).ag= []:=aoX UW.O;generalize kM s3 0=s5 at h5 uI IJ;obtain⟨ao5,pR,tS⟩:=bX h5 uI IJ;clear hq fR h5 uI IJ)
  |(go_at_call 12;go_must(refine aar S s5 1 (-1) (aoY tS.O) pR.O w _ ao5.O _ ?_);intro w6 h6;rw[show kM s5 (-1)=s5 from if_pos (by decide)] at h6;have ao6:=Z h6;clear h6)
  |(go_at_call 16;go_must(refine ake S s5 0 (by rw[tS.O,gi]) pR.O w _ ao6.O _ ?_);intro fa fc qs w7 _ _ h7 _))
 all_goals exact HR.O _ h7.low
open Go.Shelf Go.ChangeShapes Go.WideShapes Go.ChangeAt Go.Lib
theorem own:ownKnob prog.godebug=none:=by kernel_rfl
noncomputable def laidWorld (os:Os):World:=
 let w0:=World.holding prog os ⟨#[],#[],[]⟩
 let put (h:Array Obj) (g:Nat) (cs:Array Value):Array Obj:=h.modify g fun
  | .cells _ t frozen=> .cells cs t frozen
  |o=>o
 let h1:=put w0.heap 0 (Lib.firstTab.map fun z=>Value.int .u8 z).toArray
 let h2:=put h1 1 ((List.range 16).flatMap fun i=> [Value.int .u8 (Lib.accLo i),Value.int .u8 (Lib.accHi i)]).toArray
 {w0 with heap:=h2}
abbrev Ni:List (String×DataW Unit):= [("unicode/utf8.acceptRanges",Rows.laid_unicode_utf8_acceptRanges),("unicode/utf8.first",Rows.laid_unicode_utf8_first)]
theorem agX(os:Os)(args:Array Value):laidMet prog Ni ((laidWorld os).forCall (fun _ _=>0) ⟨#[],args,[]⟩).memory:=
 (LaidIn.of_run (l:=Ni) [0,1] 8 (by kernel_rfl) (by kernel_rfl) (by kernel_rfl) (by kernel_rfl)).met
theorem agY:(Rows.laid_unicode_utf8_acceptRanges:DataW Unit)=acceptData:=by kernel_rfl
theorem agZ:Rows.laid_unicode_utf8_first=firstData:=Pinned.utf8First_eq
theorem ag0(hL:laidMet prog Ni aw4):dy aw4:=
 utf8Tabs_of_readsT (U8Types.of196 Tryz.Xv) ⟨by kernel_rfl,by kernel_rfl,by kernel_rfl,by kernel_rfl,by kernel_rfl,by kernel_rfl,by kernel_rfl⟩
  (Lib.laidMet.reads hL (.tail _ (by rw[←agZ];exact .head _))) (Lib.laidMet.reads hL (by rw[←agY];exact .head _))
