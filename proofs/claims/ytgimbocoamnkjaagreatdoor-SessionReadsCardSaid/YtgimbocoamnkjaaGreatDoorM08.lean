/- A part of the proof of SessionReads; no conditions. -/
import Derived.Test.YtgimbocoamnkjaaGreatDoorM05
import Derived.Test.YtgimbocoamnkjaaGreatDoorM04
set_option maxRecDepth 100000
set_option maxHeartbeats 16000000
namespace Go.Proofs.YtgimbocoamnkjaaGreatDoor
open _root_.Go.Proofs.Tryz
variable{l0 l1 l2:List UInt8}{S T e g t:Nat}{fr:Nat×Nat}{a d h v0 v1 v2 v3:Value}{w:World}
open Go.RowKit
theorem ajH{v4:Value}{l3 l4:List UInt8}(A:g=w.heap.size)(h0:Bs w v0 l0)(h1:Bs w v1 l1)(h2:Bs w v2 l2)(h3:Bs w v3 l3)(h4:Bs w v4 l4):yJ (w.alloc (.cells #[v0,v1,v2,v3,v4] e)) (.slice (some ⟨g,0,none⟩) 5 5) [l0,l1,l2,l3,l4]:=by
 subst A;exact CQ [v0,v1,v2,v3,v4] [l0,l1,l2,l3,l4] rfl (by simp) fun i hi=>by
  match i,hi with
  |0,_=>exact⟨v0,rfl,h0⟩
  |1,_=>exact⟨v1,rfl,h1⟩
  |2,_=>exact⟨v2,rfl,h2⟩
  |3,_=>exact⟨v3,rfl,h3⟩
  |4,_=>exact⟨v4,rfl,h4⟩
theorem ZG{l3:List UInt8}(A:g=w.heap.size)(h0:Bs w v0 l0)(h1:Bs w v1 l1)(h2:Bs w v2 l2)(h3:Bs w v3 l3):yJ (w.alloc (.cells #[v0,v1,v2,v3] e)) (.slice (some ⟨g,0,none⟩) 4 4) [l0,l1,l2,l3]:=by
 subst A;exact CQ [v0,v1,v2,v3] [l0,l1,l2,l3] rfl (by simp) fun i hi=>by
  match i,hi with
  |0,_=>exact⟨v0,rfl,h0⟩
  |1,_=>exact⟨v1,rfl,h1⟩
  |2,_=>exact⟨v2,rfl,h2⟩
  |3,_=>exact⟨v3,rfl,h3⟩
theorem SL(b:Bool)(n r:Int)(hr:(if b then n else 0)=r)(w:World)(R:ak)(I:R (.returned (E r)) w):Calls prog 58 #[.bool b,E n] w R:=by
 subst hr;exact ahU b n w R I
theorem Hv{b c e f g i:Value}(hS:w.heap[S]? =some (.cells #[a,b,c,d,e,f,g,h,i] t fr)):w.cell? ⟨S,2,none⟩=some c∧w.cell? ⟨S,3,none⟩=some d∧w.cell? ⟨S,4,none⟩=some e∧w.cell? ⟨S,5,none⟩=some f:=
 ⟨D 2 hS,D 3 hS,D 4 hS,D 5 hS⟩
theorem jU{x:World}{b c e f g i j k l m n o p:Value}(q:x.heap[T]? =some (.cells #[a,b,c,d,e,f,g,h,i,j,k,l,m,n,o,p] t fr)):x.cell? ⟨T,0,none⟩=some a∧x.cell? ⟨T,1,none⟩=some b∧x.cell? ⟨T,2,none⟩=some c∧x.cell? ⟨T,3,none⟩=some d∧x.cell? ⟨T,4,none⟩=some e∧x.cell? ⟨T,5,none⟩=some f∧x.cell? ⟨T,6,none⟩=some g∧x.cell? ⟨T,7,none⟩=some h∧x.cell? ⟨T,8,none⟩=some i∧x.cell? ⟨T,9,none⟩=some j∧x.cell? ⟨T,10,none⟩=some k∧x.cell? ⟨T,11,none⟩=some l∧x.cell? ⟨T,12,none⟩=some m∧x.cell? ⟨T,13,none⟩=some n∧x.cell? ⟨T,14,none⟩=some o∧x.cell? ⟨T,15,none⟩=some p:=
 ⟨D 0 q,D 1 q,D 2 q,D 3 q,D 4 q,D 5 q,D 6 q,D 7 q,D 8 q,D 9 q,D 10 q,D 11 q,D 12 q,D 13 q,D 14 q,D 15 q⟩
theorem ZH{P:Prop}(h:P:=by
 have e:wrap64 (g:Int)=x:=by rw[←HX.O,IntKind.wrap_i64];unfold wrap64;omega
 show R (.returned (.int .i64 (wrap64 (g:Int)))) w2;rw[e];exact HR.O _ eT.O lG.O):P:=h
theorem SM{P:Prop}(h:P:=by
 have:=Km w0 _ hp.2.1;rw[Nat.mul_one] at this;have e:(bv sb).drop n=bv (sb.drop n):=by unfold bv;rw[List.map_drop]
 rwa [e] at this):P:=h
