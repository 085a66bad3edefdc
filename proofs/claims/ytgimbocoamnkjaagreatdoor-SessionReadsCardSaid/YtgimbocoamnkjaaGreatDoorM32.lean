/- A part of the proof of SessionReads; no conditions. -/
import Derived.Test.YtgimbocoamnkjaaGreatDoorM18
import Derived.Test.YtgimbocoamnkjaaGreatDoorM16
import Derived.Deep.CutBlock
set_option maxRecDepth 100000
set_option maxHeartbeats 16000000
namespace Go.Proofs.YtgimbocoamnkjaaGreatDoor
open _root_.Go.Proofs.Tryz
variable{xs:List Value}{B N S e n size t:Nat}{fr:Nat×Nat}{a d h v:Value}{w w':World}
open Go.RowKit
theorem Vw(b:Bool)(n r:Int)(hr:(if b then n else 0)=r)(w:World)(R:ak)
 (I:R (.returned (E r)) w):
 Calls prog 65 #[.bool b,E n] w R:=by
 subst hr;cases b with
 |false=>
  have HR:=Z (show R (.returned (E 0)) w from I);clear I;go_enter func65,ntmps65;go_wp2;exact HR.O
 |true=>
  have HR:=Z (show R (.returned (E n)) w from I);clear I;go_enter func65,ntmps65;go_wp2;exact HR.O
theorem Bd{x:World}{b c e f g:Value}(q:x.heap[S]? =some (.cells #[a,b,c,d,e,f,g,h] t fr)):x.cell? ⟨S,1,none⟩=some b∧x.cell? ⟨S,2,none⟩=some c∧x.cell? ⟨S,3,none⟩=some d∧x.cell? ⟨S,4,none⟩=some e:=
 ⟨D 1 q,D 2 q,D 3 q,D 4 q⟩
theorem QG{b:Value}(h:w.ownsRow B e size v n xs)(A:w.grownBy w' b.ownBlock)(au:∀k,b.ownBlock=some k→k<B):w'.ownsRow B e size v n xs:=
 j1 h A fun k G J=>by
  have h1:=au k J.symm;have h2:=(h.lt k G).1
  omega
theorem ad9{b b':Value}(au:∀k,b.ownBlock=some k→k<B)(hz:b'.ownBlock=b.ownBlock∨b'.ownBlock=some N):∀k,b'.ownBlock=some k→k<B∨k=N:=fun k G=>by
 rcases hz with h|h
 ·exact .inl (au k (h.symm.trans G))
 exact .inr (Option.some.inj (G.symm.trans h))
theorem Vx{wA:World}{b:Value}(h:w.ownsRow B e size v n xs)(hA:wA.ownsRow B e size v n xs)(A:w.grownBy w' b.ownBlock)(hz:∀k,b.ownBlock=some k→k<B∨k=wA.heap.size):w'.ownsRow B e size v n xs:=
 j1 h A fun k G J=>by
  have h3:=(hA.lt k G).1;have h4:=(hA.lt k G).2;rcases hz k J.symm with h|h<;>omega
open Bool (or_eq_false_iff)
open List (drop_left getElem_map getElem_mem nodup_append pairwise_append pairwise_iff_getElem take_length)
variable{ok:Bool}{f:Fl}{x:Im}{i k m m0:Nat}{s:az}
structure Q4(x:Sb):Prop where
 f:x.filter.length≤65535
 q0:0≤x.ah
 q1:x.ah≤3
 h0:0≤x.eX
 h1:x.eX≤15
 i0:0≤x.id
 i1:x.id<4294967296
structure Q5(s:az):Prop where
 cn:s.gF.length≤65535
 sn:s.al.length≤255
 sb:∀x∈s.al,Q4 x
 qn:s.queue.length≤255
 qk:∀x∈s.queue,gh x∧(db x).length≤65535
 fn:s.ag.length≤255
 fk:∀f∈s.ag,gh f.item∧(db f.item).length≤65535
 gn:s.aB.length≤255
def Eg(s:az):Prop:=eg s.gF=true∧0≤s.cI∧s.cI≤4611686018427387904∧0≤s.ends∧s.ends≤4611686018427387904∧∀x∈s.al,tN x
