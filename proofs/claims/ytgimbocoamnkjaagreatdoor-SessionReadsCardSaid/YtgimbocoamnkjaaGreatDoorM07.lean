/- A part of the proof of SessionReads; no conditions. -/
import Derived.Test.YtgimbocoamnkjaaGreatDoorM02
import Derived.Deep.CutRange
import Derived.Test.YtgimbocoamnkjaaGreatDoorRows
import Derived.ProofKit
import Derived.SizedLaws
import Derived.ChangeMaps5
set_option maxRecDepth 100000
set_option maxHeartbeats 16000000
namespace Go.Proofs.YtgimbocoamnkjaaGreatDoor
open _root_.Go.Proofs.Tryz
open List (contains_cons contains_nil getElem_mem)
open Go.RowKit
theorem UX(x:Int)(ps:List Int)(z:Bool)(hz:ps.contains x=z)(Y:av)(n c:Nat)(hn:n=ps.length)(hm:ps.length≤1000)(w:World)(cs:List Value)(hr:Rd w 1 Y n cs)(dQ:cs=ps.map (Value.int .i64))(R:ak)
 (I:R (.returned (.bool z)) w):
 Calls prog 205 #[E x,.slice Y n c] w R:=by
 subst hn;subst dQ;have HZ:=Z hz;clear hz;go_enter func205,ntmps205;go_wp2;go_loop [5] (fun i=>∃k:Nat,k≤ps.length∧i= .int .i64 k∧Hid ((ps.take k).contains x=false)) (fun i=>ps.length - (intOf i).toNat)
 case atStart=>exact⟨0,bP _,rfl,Z (by simp)⟩
 case round=>
  obtain⟨k,G,rfl,lI⟩:=hrel;by_cases au:k<ps.length
  ·have bo:(k:Int)<(ps.length:Int):=by omega
   obtain⟨b,o,rfl,bg⟩:=hr.2 (by omega);have ur:=bg k (by omega);rw[List.getElem?_map,dW au,Option.map_some] at ur;have HS:Hid (ps.take (k+1)=ps.take k++ [ps[k]]):=Z (kF au);have HM:Hid (ps[k]∈ps):=Z (getElem_mem au);obtain⟨p,sw⟩:=ai (ps[k]);rw[sw] at HS HM ur;clear bg hr sw;by_cases he:p=x
   ·subst he;obtain rfl:z=true:=by rw[←HZ.O];simpa using HM.O
    go_wp2;exact I
   have hp:Hid ((ps.take (k+1)).contains x=false):=by
    refine Z ?_;rw[HS.O];have:=lI.O;simp only[List.contains_eq_mem,ez,dM,decide_eq_false_iff_not] at this⊢;rintro(h|h)
    ·exact this h
    exact he h.symm
   clear lI;go_wp2;go_round
   case rel=>exact⟨k+1,by omega,by go_num,hp⟩
   case measure=>simp[intOf];omega
  have bo:¬(k:Int)<(ps.length:Int):=by omega
  obtain rfl:z=false:=by
   rw[←HZ.O];have:=lI.O
   rwa [gy (by omega)] at this
  go_wp2;exact I
theorem vV(ps:List Int)(n:Nat)(hn:n=ps.length)(hm:ps.length≤1000)(vs:Array Value)(W:vs.toList=ps.map (Value.int .i64))(t:Nat)(x:Int)(z:Bool)(hz:ps.contains x=z)(K:Nat)(w:World)(hK:K=w.heap.size)(R:ak)
 (I:R (.returned (.bool z)) (w.alloc (.cells vs t))):
 Calls prog 205 #[E x,.slice (some ⟨K,0,none⟩) n n] (w.alloc (.cells vs t)) R:=by
 subst hK;refine UX x ps z hz _ n n hn hm _ vs.toList (dO w vs t 1 n ?_) W R I;have:=congrArg List.length W;simp only[j0] at this;rw[Nat.mul_one,hn,←this];simp
theorem apf(id:Int)(w:World)(R:ak)(I:R (.returned (E (aS id))) w):
 Calls prog 206 #[E id] w R:=by
 by_cases h1:id=1
 ·subst h1;have e:aS 1=1:=by decide
  rw[e] at I
  skip
  go_enter func206,ntmps206;go_wp2;exact I
 by_cases h2:id=2
 ·subst h2;have e:aS 2=3:=by decide
  rw[e] at I;clear h1;go_enter func206,ntmps206;go_wp2;exact I
 by_cases h3:id=3
 ·subst h3;have e:aS 3=5:=by decide
  rw[e] at I;clear h1 h2;go_enter func206,ntmps206;go_wp2;exact I
 by_cases h8:id=8
 ·subst h8;have e:aS 8=5:=by decide
  rw[e] at I;clear h1 h2 h3;go_enter func206,ntmps206;go_wp2;exact I
 by_cases h9:id=9
 ·subst h9;have e:aS 9=6:=by decide
  rw[e] at I;clear h1 h2 h3 h8;go_enter func206,ntmps206;go_wp2;exact I
 by_cases h11:id=11
 ·subst h11;have e:aS 11=4:=by decide
  rw[e] at I;clear h1 h2 h3 h8 h9;go_enter func206,ntmps206;go_wp2;exact I
 by_cases h17:id=17
 ·subst h17;have e:aS 17=3:=by decide
  rw[e] at I;clear h1 h2 h3 h8 h9 h11;go_enter func206,ntmps206;go_wp2;exact I
 by_cases h18:id=18
 ·subst h18;have e:aS 18=5:=by decide
  rw[e] at I;clear h1 h2 h3 h8 h9 h11 h17;go_enter func206,ntmps206;go_wp2;exact I
 by_cases h19:id=19
 ·subst h19;have e:aS 19=2:=by decide
  rw[e] at I;clear h1 h2 h3 h8 h9 h11 h17 h18;go_enter func206,ntmps206;go_wp2;exact I
 by_cases h21:id=21
 ·subst h21;have e:aS 21=5:=by decide
  rw[e] at I;clear h1 h2 h3 h8 h9 h11 h17 h18 h19;go_enter func206,ntmps206;go_wp2;exact I
 by_cases h22:id=22
 ·subst h22;have e:aS 22=6:=by decide
  rw[e] at I;clear h1 h2 h3 h8 h9 h11 h17 h18 h19 h21;go_enter func206,ntmps206;go_wp2;exact I
 by_cases h23:id=23
 ·subst h23;have e:aS 23=1:=by decide
  rw[e] at I;clear h1 h2 h3 h8 h9 h11 h17 h18 h19 h21 h22;go_enter func206,ntmps206;go_wp2;exact I
 by_cases h24:id=24
 ·subst h24;have e:aS 24=3:=by decide
  rw[e] at I;clear h1 h2 h3 h8 h9 h11 h17 h18 h19 h21 h22 h23;go_enter func206,ntmps206;go_wp2;exact I
 by_cases h25:id=25
 ·subst h25;have e:aS 25=1:=by decide
  rw[e] at I;clear h1 h2 h3 h8 h9 h11 h17 h18 h19 h21 h22 h23 h24;go_enter func206,ntmps206;go_wp2;exact I
 by_cases h26:id=26
 ·subst h26;have e:aS 26=5:=by decide
  rw[e] at I;clear h1 h2 h3 h8 h9 h11 h17 h18 h19 h21 h22 h23 h24 h25;go_enter func206,ntmps206;go_wp2;exact I
 by_cases h28:id=28
 ·subst h28;have e:aS 28=5:=by decide
  rw[e] at I;clear h1 h2 h3 h8 h9 h11 h17 h18 h19 h21 h22 h23 h24 h25 h26;go_enter func206,ntmps206;go_wp2;exact I
 by_cases h31:id=31
 ·subst h31;have e:aS 31=5:=by decide
  rw[e] at I;clear h1 h2 h3 h8 h9 h11 h17 h18 h19 h21 h22 h23 h24 h25 h26 h28;go_enter func206,ntmps206;go_wp2;exact I
 by_cases h33:id=33
 ·subst h33;have e:aS 33=2:=by decide
  rw[e] at I;clear h1 h2 h3 h8 h9 h11 h17 h18 h19 h21 h22 h23 h24 h25 h26 h28 h31;go_enter func206,ntmps206;go_wp2;exact I
 by_cases h34:id=34
 ·subst h34;have e:aS 34=2:=by decide
  rw[e] at I;clear h1 h2 h3 h8 h9 h11 h17 h18 h19 h21 h22 h23 h24 h25 h26 h28 h31 h33;go_enter func206,ntmps206;go_wp2;exact I
 by_cases h35:id=35
 ·subst h35;have e:aS 35=2:=by decide
  rw[e] at I;clear h1 h2 h3 h8 h9 h11 h17 h18 h19 h21 h22 h23 h24 h25 h26 h28 h31 h33 h34;go_enter func206,ntmps206;go_wp2;exact I
 by_cases h36:id=36
 ·subst h36;have e:aS 36=1:=by decide
  rw[e] at I;clear h1 h2 h3 h8 h9 h11 h17 h18 h19 h21 h22 h23 h24 h25 h26 h28 h31 h33 h34 h35;go_enter func206,ntmps206;go_wp2;exact I
 by_cases h37:id=37
 ·subst h37;have e:aS 37=1:=by decide
  rw[e] at I;clear h1 h2 h3 h8 h9 h11 h17 h18 h19 h21 h22 h23 h24 h25 h26 h28 h31 h33 h34 h35 h36;go_enter func206,ntmps206;go_wp2;exact I
 by_cases h38:id=38
 ·subst h38;have e:aS 38=7:=by decide
  rw[e] at I;clear h1 h2 h3 h8 h9 h11 h17 h18 h19 h21 h22 h23 h24 h25 h26 h28 h31 h33 h34 h35 h36 h37;go_enter func206,ntmps206;go_wp2;exact I
 by_cases h39:id=39
 ·subst h39;have e:aS 39=3:=by decide
  rw[e] at I;clear h1 h2 h3 h8 h9 h11 h17 h18 h19 h21 h22 h23 h24 h25 h26 h28 h31 h33 h34 h35 h36 h37 h38;go_enter func206,ntmps206;go_wp2;exact I
 by_cases h40:id=40
 ·subst h40;have e:aS 40=1:=by decide
  rw[e] at I;clear h1 h2 h3 h8 h9 h11 h17 h18 h19 h21 h22 h23 h24 h25 h26 h28 h31 h33 h34 h35 h36 h37 h38 h39;go_enter func206,ntmps206;go_wp2;exact I
 by_cases h41:id=41
 ·subst h41;have e:aS 41=1:=by decide
  rw[e] at I;clear h1 h2 h3 h8 h9 h11 h17 h18 h19 h21 h22 h23 h24 h25 h26 h28 h31 h33 h34 h35 h36 h37 h38 h39 h40;go_enter func206,ntmps206;go_wp2;exact I
 by_cases h42:id=42
 ·subst h42;have e:aS 42=1:=by decide
  rw[e] at I;clear h1 h2 h3 h8 h9 h11 h17 h18 h19 h21 h22 h23 h24 h25 h26 h28 h31 h33 h34 h35 h36 h37 h38 h39 h40 h41;go_enter func206,ntmps206;go_wp2;exact I
 have e1:aS id=0:=by unfold aS;simp only[h1,h2,h3,h8,h9,h11,h17,h18,h19,h21,h22,h23,h24,h25,h26,h28,h31,h33,h34,h35,h36,h37,h38,h39,h40,h41,h42,or_self,if_false]
 rw[e1] at I;go_enter func206,ntmps206;go_wp2;exact I
theorem vW{P:Prop}(h:P:=by
 have HR:=Z I;clear I;go_enter func180,ntmps180;go_wp2_with (go_at_call 205;refine eF _ z HZ.O _ _ ?_ _ ?_;· simp);exact HR.O _ (aD _ _)):P:=h
theorem apg(wh:Int)(w:World)(R:ak)(I:∀w',Below w w w'→R (.returned (.bool (ch 1 wh))) w'):
 Calls prog 180 #[E 1,E wh] w R:=by
 obtain⟨z,hz⟩:=ai (ch 1 wh);rw[hz] at I;have HZ:Hid ([(3:Int),(16:Int)].contains wh=z):=Z hz;clear hz;have eF:=vV [(3:Int),(16:Int)] 2 rfl (by decide) #[Value.int .i64 3,Value.int .i64 16] rfl 3;exact vW
theorem aph(wh:Int)(w:World)(R:ak)(I:∀w',Below w w w'→R (.returned (.bool (ch 2 wh))) w'):
 Calls prog 180 #[E 2,E wh] w R:=by
 obtain⟨z,hz⟩:=ai (ch 2 wh);rw[hz] at I;have HZ:Hid ([(3:Int),(16:Int)].contains wh=z):=Z hz;clear hz;have eF:=vV [(3:Int),(16:Int)] 2 rfl (by decide) #[Value.int .i64 3,Value.int .i64 16] rfl 3;exact vW
theorem api(wh:Int)(w:World)(R:ak)(I:∀w',Below w w w'→R (.returned (.bool (ch 3 wh))) w'):
 Calls prog 180 #[E 3,E wh] w R:=by
 obtain⟨z,hz⟩:=ai (ch 3 wh);rw[hz] at I;have HZ:Hid ([(3:Int),(16:Int)].contains wh=z):=Z hz;clear hz;have eF:=vV [(3:Int),(16:Int)] 2 rfl (by decide) #[Value.int .i64 3,Value.int .i64 16] rfl 3;exact vW
theorem apj(wh:Int)(w:World)(R:ak)(I:∀w',Below w w w'→R (.returned (.bool (ch 8 wh))) w'):
 Calls prog 180 #[E 8,E wh] w R:=by
 obtain⟨z,hz⟩:=ai (ch 8 wh);rw[hz] at I;have HZ:Hid ([(3:Int),(16:Int)].contains wh=z):=Z hz;clear hz;have eF:=vV [(3:Int),(16:Int)] 2 rfl (by decide) #[Value.int .i64 3,Value.int .i64 16] rfl 3;exact vW
theorem apk(wh:Int)(w:World)(R:ak)(I:∀w',Below w w w'→R (.returned (.bool (ch 9 wh))) w'):
 Calls prog 180 #[E 9,E wh] w R:=by
 obtain⟨z,hz⟩:=ai (ch 9 wh);rw[hz] at I;have HZ:Hid ([(3:Int),(16:Int)].contains wh=z):=Z hz;clear hz;have eF:=vV [(3:Int),(16:Int)] 2 rfl (by decide) #[Value.int .i64 3,Value.int .i64 16] rfl 3;exact vW
theorem apl(wh:Int)(w:World)(R:ak)(I:∀w',Below w w w'→R (.returned (.bool (ch 11 wh))) w'):
 Calls prog 180 #[E 11,E wh] w R:=by
 obtain⟨z,hz⟩:=ai (ch 11 wh);rw[hz] at I;have HZ:Hid ([(3:Int),(8:Int)].contains wh=z):=Z hz;clear hz;have eF:=vV [(3:Int),(8:Int)] 2 rfl (by decide) #[Value.int .i64 3,Value.int .i64 8] rfl 3;exact vW
theorem apm(wh:Int)(w:World)(R:ak)(I:∀w',Below w w w'→R (.returned (.bool (ch 17 wh))) w'):
 Calls prog 180 #[E 17,E wh] w R:=by
 obtain⟨z,hz⟩:=ai (ch 17 wh);rw[hz] at I;have HZ:Hid ([(1:Int),(2:Int),(14:Int)].contains wh=z):=Z hz;clear hz;have eF:=vV [(1:Int),(2:Int),(14:Int)] 3 rfl (by decide) #[Value.int .i64 1,Value.int .i64 2,Value.int .i64 14] rfl 3;exact vW
theorem sU{P:Prop}(h:P:=by
 have HR:=Z I;clear I;go_enter func180,ntmps180;go_wp2;exact HR.O _ dg):P:=h
theorem apn(wh:Int)(w:World)(R:ak)(I:∀w',Below w w w'→R (.returned (.bool (ch 18 wh))) w'):
 Calls prog 180 #[E 18,E wh] w R:=by
 have e:ch 18 wh=(wh==2):=by
  show [(2:Int)].contains wh=_;rw[contains_cons,contains_nil,Bool.or_false]
 rw[e] at I;exact sU
theorem apo(wh:Int)(w:World)(R:ak)(I:∀w',Below w w w'→R (.returned (.bool (ch 19 wh))) w'):
 Calls prog 180 #[E 19,E wh] w R:=by
 have e:ch 19 wh=(wh==2):=by
  show [(2:Int)].contains wh=_;rw[contains_cons,contains_nil,Bool.or_false]
 rw[e] at I;exact sU
theorem apq(wh:Int)(w:World)(R:ak)(I:∀w',Below w w w'→R (.returned (.bool (ch 21 wh))) w'):
 Calls prog 180 #[E 21,E wh] w R:=by
 obtain⟨z,hz⟩:=ai (ch 21 wh);rw[hz] at I;have HZ:Hid ([(1:Int),(2:Int),(15:Int)].contains wh=z):=Z hz;clear hz;have eF:=vV [(1:Int),(2:Int),(15:Int)] 3 rfl (by decide) #[Value.int .i64 1,Value.int .i64 2,Value.int .i64 15] rfl 3;exact vW
theorem apr(wh:Int)(w:World)(R:ak)(I:∀w',Below w w w'→R (.returned (.bool (ch 22 wh))) w'):
 Calls prog 180 #[E 22,E wh] w R:=by
 obtain⟨z,hz⟩:=ai (ch 22 wh);rw[hz] at I;have HZ:Hid ([(1:Int),(2:Int),(15:Int)].contains wh=z):=Z hz;clear hz;have eF:=vV [(1:Int),(2:Int),(15:Int)] 3 rfl (by decide) #[Value.int .i64 1,Value.int .i64 2,Value.int .i64 15] rfl 3;exact vW
theorem aps(wh:Int)(w:World)(R:ak)(I:∀w',Below w w w'→R (.returned (.bool (ch 23 wh))) w'):
 Calls prog 180 #[E 23,E wh] w R:=by
 have e:ch 23 wh=(wh==1):=by
  show [(1:Int)].contains wh=_;rw[contains_cons,contains_nil,Bool.or_false]
 rw[e] at I;exact sU
theorem apt(wh:Int)(w:World)(R:ak)(I:∀w',Below w w w'→R (.returned (.bool (ch 24 wh))) w'):
 Calls prog 180 #[E 24,E wh] w R:=by
 have e:ch 24 wh=(wh==16):=by
  show [(16:Int)].contains wh=_;rw[contains_cons,contains_nil,Bool.or_false]
 rw[e] at I;exact sU
theorem apu(wh:Int)(w:World)(R:ak)(I:∀w',Below w w w'→R (.returned (.bool (ch 25 wh))) w'):
 Calls prog 180 #[E 25,E wh] w R:=by
 have e:ch 25 wh=(wh==1):=by
  show [(1:Int)].contains wh=_;rw[contains_cons,contains_nil,Bool.or_false]
 rw[e] at I;exact sU
theorem apv(wh:Int)(w:World)(R:ak)(I:∀w',Below w w w'→R (.returned (.bool (ch 26 wh))) w'):
 Calls prog 180 #[E 26,E wh] w R:=by
 have e:ch 26 wh=(wh==2):=by
  show [(2:Int)].contains wh=_;rw[contains_cons,contains_nil,Bool.or_false]
 rw[e] at I;exact sU
theorem apw(wh:Int)(w:World)(R:ak)(I:∀w',Below w w w'→R (.returned (.bool (ch 28 wh))) w'):
 Calls prog 180 #[E 28,E wh] w R:=by
 obtain⟨z,hz⟩:=ai (ch 28 wh);rw[hz] at I;have HZ:Hid ([(2:Int),(14:Int)].contains wh=z):=Z hz;clear hz;have eF:=vV [(2:Int),(14:Int)] 2 rfl (by decide) #[Value.int .i64 2,Value.int .i64 14] rfl 3;exact vW
theorem apx(wh:Int)(w:World)(R:ak)(I:∀w',Below w w w'→R (.returned (.bool (ch 31 wh))) w'):
 Calls prog 180 #[E 31,E wh] w R:=by
 obtain⟨z,hz⟩:=ai (ch 31 wh);rw[hz] at I;have HZ:Hid ([(2:Int),(4:Int),(5:Int),(6:Int),(7:Int),(9:Int),(11:Int),(14:Int),(15:Int)].contains wh=z):=Z hz;clear hz;have eF:=vV [(2:Int),(4:Int),(5:Int),(6:Int),(7:Int),(9:Int),(11:Int),(14:Int),(15:Int)] 9 rfl (by decide) #[Value.int .i64 2,Value.int .i64 4,Value.int .i64 5,Value.int .i64 6,Value.int .i64 7,Value.int .i64 9,Value.int .i64 11,Value.int .i64 14,Value.int .i64 15] rfl 3;exact vW
theorem apy(wh:Int)(w:World)(R:ak)(I:∀w',Below w w w'→R (.returned (.bool (ch 33 wh))) w'):
 Calls prog 180 #[E 33,E wh] w R:=by
 obtain⟨z,hz⟩:=ai (ch 33 wh);rw[hz] at I;have HZ:Hid ([(1:Int),(2:Int)].contains wh=z):=Z hz;clear hz;have eF:=vV [(1:Int),(2:Int)] 2 rfl (by decide) #[Value.int .i64 1,Value.int .i64 2] rfl 3;exact vW
theorem apz(wh:Int)(w:World)(R:ak)(I:∀w',Below w w w'→R (.returned (.bool (ch 34 wh))) w'):
 Calls prog 180 #[E 34,E wh] w R:=by
 obtain⟨z,hz⟩:=ai (ch 34 wh);rw[hz] at I;have HZ:Hid ([(1:Int),(2:Int)].contains wh=z):=Z hz;clear hz;have eF:=vV [(1:Int),(2:Int)] 2 rfl (by decide) #[Value.int .i64 1,Value.int .i64 2] rfl 3;exact vW
theorem apA(wh:Int)(w:World)(R:ak)(I:∀w',Below w w w'→R (.returned (.bool (ch 35 wh))) w'):
 Calls prog 180 #[E 35,E wh] w R:=by
 have e:ch 35 wh=(wh==3):=by
  show [(3:Int)].contains wh=_;rw[contains_cons,contains_nil,Bool.or_false]
 rw[e] at I;exact sU
theorem apB(wh:Int)(w:World)(R:ak)(I:∀w',Below w w w'→R (.returned (.bool (ch 36 wh))) w'):
 Calls prog 180 #[E 36,E wh] w R:=by
 have e:ch 36 wh=(wh==2):=by
  show [(2:Int)].contains wh=_;rw[contains_cons,contains_nil,Bool.or_false]
 rw[e] at I;exact sU
theorem apC(wh:Int)(w:World)(R:ak)(I:∀w',Below w w w'→R (.returned (.bool (ch 37 wh))) w'):
 Calls prog 180 #[E 37,E wh] w R:=by
 have e:ch 37 wh=(wh==2):=by
  show [(2:Int)].contains wh=_;rw[contains_cons,contains_nil,Bool.or_false]
 rw[e] at I;exact sU
theorem apD(wh:Int)(w:World)(R:ak)(I:∀w',Below w w w'→R (.returned (.bool (ch 38 wh))) w'):
 Calls prog 180 #[E 38,E wh] w R:=by
 have e:ch 38 wh=decide (1≤wh∧wh≤16∧wh≠12∧wh≠13):=by
  have:ch 38 wh=true↔(1≤wh∧wh≤16∧wh≠12∧wh≠13):=by
   show [(1:Int),2,3,4,5,6,7,8,9,10,11,14,15,16].contains wh=true↔_;simp only[contains_cons,contains_nil,Bool.or_false,Bool.or_eq_true,beq_iff_eq]
   omega
  cases h:ch 38 wh with
  |true=>exact(eN (this.1 h)).symm
  |false=>exact(dN fun J=>by rw[this.2 J] at h;cases h).symm
 rw[e] at I;clear e;by_cases h1:1≤wh
 ·by_cases h2:wh≤16
  ·by_cases h3:wh=12
   ·subst h3;exact sU
   ·by_cases h4:wh=13
    ·subst h4;clear h3;exact sU
    ·have e:decide (1≤wh∧wh≤16∧wh≠12∧wh≠13)=true:=eN ⟨h1,h2,h3,h4⟩;rw[e] at I;have b4:=Z (show(wh != 13)=true by simp[h4]);have b3:=Z (show(wh != 12)=true by simp[h3]);clear e;have HR:=Z I;clear I;go_enter func180,ntmps180;go_wp2;have h9:=HR.O _ dg;rw[show true=(wh != 12&&wh != 13) by simp[h3,h4]] at h9;exact h9
  ·have e:decide (1≤wh∧wh≤16∧wh≠12∧wh≠13)=false:=dN fun J=>h2 J.2.1;rw[e] at I;clear e;exact sU
 have e:decide (1≤wh∧wh≤16∧wh≠12∧wh≠13)=false:=dN fun J=>h1 J.1;rw[e] at I;clear e;exact sU
theorem apE(wh:Int)(w:World)(R:ak)(I:∀w',Below w w w'→R (.returned (.bool (ch 39 wh))) w'):
 Calls prog 180 #[E 39,E wh] w R:=by
 obtain⟨z,hz⟩:=ai (ch 39 wh);rw[hz] at I;have HZ:Hid ([(1:Int),(2:Int)].contains wh=z):=Z hz;clear hz;have eF:=vV [(1:Int),(2:Int)] 2 rfl (by decide) #[Value.int .i64 1,Value.int .i64 2] rfl 3;exact vW
theorem apF(wh:Int)(w:World)(R:ak)(I:∀w',Below w w w'→R (.returned (.bool (ch 40 wh))) w'):
 Calls prog 180 #[E 40,E wh] w R:=by
 have e:ch 40 wh=(wh==2):=by
  show [(2:Int)].contains wh=_;rw[contains_cons,contains_nil,Bool.or_false]
 rw[e] at I;exact sU
theorem apG(wh:Int)(w:World)(R:ak)(I:∀w',Below w w w'→R (.returned (.bool (ch 41 wh))) w'):
 Calls prog 180 #[E 41,E wh] w R:=by
 have e:ch 41 wh=(wh==2):=by
  show [(2:Int)].contains wh=_;rw[contains_cons,contains_nil,Bool.or_false]
 rw[e] at I;exact sU
theorem apH(wh:Int)(w:World)(R:ak)(I:∀w',Below w w w'→R (.returned (.bool (ch 42 wh))) w'):
 Calls prog 180 #[E 42,E wh] w R:=by
 have e:ch 42 wh=(wh==2):=by
  show [(2:Int)].contains wh=_;rw[contains_cons,contains_nil,Bool.or_false]
 rw[e] at I;exact sU
theorem apI(id wh:Int)(w:World)(R:ak)(I:∀w',Below w w w'→R (.returned (.bool (ch id wh))) w'):
 Calls prog 180 #[E id,E wh] w R:=by
 by_cases h1:id=1
 ·subst h1;exact apg wh w R I
 by_cases h2:id=2
 ·subst h2;exact aph wh w R I
 by_cases h3:id=3
 ·subst h3;exact api wh w R I
 by_cases h8:id=8
 ·subst h8;exact apj wh w R I
 by_cases h9:id=9
 ·subst h9;exact apk wh w R I
 by_cases h11:id=11
 ·subst h11;exact apl wh w R I
 by_cases h17:id=17
 ·subst h17;exact apm wh w R I
 by_cases h18:id=18
 ·subst h18;exact apn wh w R I
 by_cases h19:id=19
 ·subst h19;exact apo wh w R I
 by_cases h21:id=21
 ·subst h21;exact apq wh w R I
 by_cases h22:id=22
 ·subst h22;exact apr wh w R I
 by_cases h23:id=23
 ·subst h23;exact aps wh w R I
 by_cases h24:id=24
 ·subst h24;exact apt wh w R I
 by_cases h25:id=25
 ·subst h25;exact apu wh w R I
 by_cases h26:id=26
 ·subst h26;exact apv wh w R I
 by_cases h28:id=28
 ·subst h28;exact apw wh w R I
 by_cases h31:id=31
 ·subst h31;exact apx wh w R I
 by_cases h33:id=33
 ·subst h33;exact apy wh w R I
 by_cases h34:id=34
 ·subst h34;exact apz wh w R I
 by_cases h35:id=35
 ·subst h35;exact apA wh w R I
 by_cases h36:id=36
 ·subst h36;exact apB wh w R I
 by_cases h37:id=37
 ·subst h37;exact apC wh w R I
 by_cases h38:id=38
 ·subst h38;exact apD wh w R I
 by_cases h39:id=39
 ·subst h39;exact apE wh w R I
 by_cases h40:id=40
 ·subst h40;exact apF wh w R I
 by_cases h41:id=41
 ·subst h41;exact apG wh w R I
 by_cases h42:id=42
 ·subst h42;exact apH wh w R I
 have e1:wJ id=0:=by unfold wJ;simp only[h1,h2,h3,h8,h9,h11,h17,h18,h19,h21,h22,h23,h24,h25,h26,h28,h31,h33,h34,h35,h36,h37,h38,h39,h40,h41,h42,or_self,if_false]
 have e:ch id wh=false:=by unfold ch;rw[e1];rfl
 rw[e] at I;clear e e1;exact sU
variable{d:Value}{w w':World}
theorem PW{P:Prop}(h:P:=by
 obtain rfl:r=false:=HR.O.symm;go_enter func178,ntmps178;go_wp2
 all_goals first|exact aM|exact I _ aM):P:=h
theorem an2(d e:Value)(p q:Pr)(r:Bool)(hr:CY p q=r)(w:World)(hp:PC w d p)(hq:PC w e q)(R:ak)
 (I:∀w',Below w w w'→R (.returned (.bool r)) w'):
 Calls prog 178 #[.agg (bL p d),.agg (bL q e)] w R:=by
 obtain⟨i,n,t,u,x⟩:=p;obtain⟨i',n',t',u',x'⟩:=q;have aM:=(aD w (.cells #[Value.int .i64 i,Value.int .i64 n,.string (str t),.string (str u),d] 147)).alloc (by simp) (.cells #[Value.int .i64 i',Value.int .i64 n',.string (str t'),.string (str u'),e] 147);have k1:=lU (P:=prog) underlying22 underlying5 underlying9 (hp.hd.below aM);have k2:=lU (P:=prog) underlying22 underlying5 underlying9 (hq.hd.below aM);unfold CY at hr;simp only at*;obtain⟨r1,h1⟩:∃x,(i==i')=x:=⟨_,rfl⟩
 obtain⟨r2,h2⟩:∃x,(n==n')=x:=⟨_,rfl⟩
 obtain⟨r3,h3⟩:∃x,(t==t')=x:=⟨_,rfl⟩
 obtain⟨r4,h4⟩:∃x,(u==u')=x:=⟨_,rfl⟩
 obtain⟨r5,h5⟩:∃y,(x==x')=y:=⟨_,rfl⟩
 rw[h1,h2,h3,h4,h5] at hr;have HR:=Z hr;clear hp hq hr;cases r1 with
 |false=>
  exact PW
 |true=>
  cases r2 with
  |false=>
   exact PW
  |true=>
   cases r3 with
   |false=>
    exact PW
   |true=>
    cases r4 with
    |false=>
     exact PW
    |true=>
     obtain rfl:r=r5:=by have:=HR.O;simpa using this.symm
     go_enter func178,ntmps178;go_wp2
     all_goals first|exact aM|exact I _ aM
theorem acu{b o:Nat}{y:Pr}(U:Below w w w')(h:(w.cell? ⟨b,o,none⟩=some (Value.int .i64 y.id)∧w.cell? ⟨b,o+1,none⟩=some (Value.int .i64 y.num)∧w.cell? ⟨b,o+2,none⟩=some (Value.string (str y.text))∧w.cell? ⟨b,o+3,none⟩=some (Value.string (str y.pair))∧w.cell? ⟨b,o+4,none⟩=some d)):(w'.cell? ⟨b,o,none⟩=some (Value.int .i64 y.id)∧w'.cell? ⟨b,o+1,none⟩=some (Value.int .i64 y.num)∧w'.cell? ⟨b,o+2,none⟩=some (Value.string (str y.text))∧w'.cell? ⟨b,o+3,none⟩=some (Value.string (str y.pair))∧w'.cell? ⟨b,o+4,none⟩=some d):=⟨cell_later U h.1,cell_later U h.2.1,cell_later U h.2.2.1,cell_later U h.2.2.2.1,cell_later U h.2.2.2.2⟩
theorem LO(v u:Value)(l m:List Pr)(r:Bool)(hr:Bq l m=r)(w:World)(hv:Ps w v l)(hu:Ps w u m)(R:ak)
 (I:∀w',Below w w w'→R (.returned (.bool r)) w'):
 Calls prog 161 #[v,u] w R:=by
 obtain⟨HR,HV,HU,gu⟩:=cF I hv hu hr;clear I hr;obtain⟨va,vc,rfl,_⟩:=hv;obtain⟨ua,uc,rfl,_⟩:=hu;by_cases bk:l.length=m.length;rotate_left
 ·have bf:((l.length:Int) != (m.length:Int))=true:=by simp;omega
  obtain rfl:r=false:=by
   rw[←gu.O];exact dN fun h=>bk (by rw[h])
  have CX:¬(l.length:Int)=(m.length:Int):=by omega
  clear bk;go_enter func161,ntmps161;go_wp2;exact HR.O _ dg
 have CX:(l.length:Int)=(m.length:Int):=by omega
 have oR:=Z bk;have bf:((l.length:Int) != (m.length:Int))=false:=by simp[bk]
 clear bk CX;go_enter func161,ntmps161;go_wp2;go_loopg [5] l.length (fun gn i wr=>∃k:Nat,k≤l.length∧gn=l.length - k∧i= .int .i64 k∧Below w w wr∧Hid (l.take k=m.take k))
 case atStart=>exact⟨0,bP _,by omega,rfl,Below.refl _ _,Z rfl⟩
 case round=>
  obtain⟨k,G,rfl,rfl,U,HS⟩:=hrel;obtain⟨wo,rfl⟩:∃x,x=wr:=⟨_,rfl⟩
  by_cases au:k<l.length;rotate_left
  ·have bo:¬(k:Int)<(l.length:Int):=by omega
   exact XJ
  have bo:(k:Int)<(l.length:Int):=by omega
  have jK:k<m.length:=by have:=oR.O;omega
  have J6:(k:Int)<(m.length:Int):=by omega
  obtain⟨EU,EV,ee,_,_,_,v4⟩:=HV.O.below U;simp only[Value.slice.injEq] at ee;obtain⟨rfl,-,rfl⟩:=ee;obtain⟨vb,vo,rfl,v5⟩:=v4 (by omega);obtain⟨d0,⟨p0,p1,p2,p3,p4⟩,iJ⟩:=v5 k au;obtain⟨ai3,ai4,ee,_,_,_,u4⟩:=HU.O.below U;simp only[Value.slice.injEq] at ee;obtain⟨rfl,-,rfl⟩:=ee;obtain⟨ub,uo,rfl,u5⟩:=u4 (by omega);obtain⟨e0,⟨q0,q1,q2,q3,q4⟩,xI⟩:=u5 k jK;have oy:Hid (l.take (k+1)=l.take k++ [l[k]]):=Z (kF au);have BO:Hid (m.take (k+1)=m.take k++ [m[k]]):=Z (kF jK);have G2:Hid (l[k]? =some l[k]):=Z (dW au);have lG:Hid (m[k]? =some m[k]):=Z (dW jK);obtain⟨y,hy⟩:=ai (l[k]);obtain⟨y',J7⟩:=ai (m[k]);rw[hy] at p0 p1 p2 p3 iJ oy G2;rw[J7] at q0 q1 q2 q3 xI BO lG;obtain⟨d1,d2,d3,rfl⟩:∃a n c,d0= .slice a n c:=by obtain⟨a,c,h,_⟩:=iJ.hd;exact⟨_,_,_,h⟩
  obtain⟨e1,e2,e3,rfl⟩:∃a n c,e0= .slice a n c:=by obtain⟨a,c,h,_⟩:=xI.hd;exact⟨_,_,_,h⟩
  obtain⟨g,A⟩:=ai (CY y y');have xJ:=Z A;clear v4 v5 u4 u5 hy J7 A;go_wp2;have C0:Below w w wo.drew:=U.drew;have tm:Hid (PC wo.drew (.slice d1 d2 d3) y):=Z (iJ.below (bq _));have Fg:Hid (PC wo.drew (.slice e1 e2 e3) y'):=Z (xI.below (bq _));have c0:(wo.drew.cell? ⟨vb,vo+k*5,none⟩=some (Value.int .i64 y.id)∧wo.drew.cell? ⟨vb,vo+k*5+1,none⟩=some (Value.int .i64 y.num)∧wo.drew.cell? ⟨vb,vo+k*5+2,none⟩=some (Value.string (str y.text))∧wo.drew.cell? ⟨vb,vo+k*5+3,none⟩=some (Value.string (str y.pair))∧wo.drew.cell? ⟨vb,vo+k*5+4,none⟩=some (Value.slice d1 d2 d3)):=⟨p0,p1,p2,p3,p4⟩
  have c1:(wo.drew.cell? ⟨ub,uo+k*5,none⟩=some (Value.int .i64 y'.id)∧wo.drew.cell? ⟨ub,uo+k*5+1,none⟩=some (Value.int .i64 y'.num)∧wo.drew.cell? ⟨ub,uo+k*5+2,none⟩=some (Value.string (str y'.text))∧wo.drew.cell? ⟨ub,uo+k*5+3,none⟩=some (Value.string (str y'.pair))∧wo.drew.cell? ⟨ub,uo+k*5+4,none⟩=some (Value.slice e1 e2 e3)):=⟨q0,q1,q2,q3,q4⟩
  clear p0 p1 p2 p3 p4 q0 q1 q2 q3 q4 iJ xI;go_region_held (fun w'=>(w'.cell? ⟨vb,vo+k*5,none⟩=some (Value.int .i64 y.id)∧w'.cell? ⟨vb,vo+k*5+1,none⟩=some (Value.int .i64 y.num)∧w'.cell? ⟨vb,vo+k*5+2,none⟩=some (Value.string (str y.text))∧w'.cell? ⟨vb,vo+k*5+3,none⟩=some (Value.string (str y.pair))∧w'.cell? ⟨vb,vo+k*5+4,none⟩=some (Value.slice d1 d2 d3))∧(w'.cell? ⟨ub,uo+k*5,none⟩=some (Value.int .i64 y'.id)∧w'.cell? ⟨ub,uo+k*5+1,none⟩=some (Value.int .i64 y'.num)∧w'.cell? ⟨ub,uo+k*5+2,none⟩=some (Value.string (str y'.text))∧w'.cell? ⟨ub,uo+k*5+3,none⟩=some (Value.string (str y'.pair))∧w'.cell? ⟨ub,uo+k*5+4,none⟩=some (Value.slice e1 e2 e3)))
   (first|exact⟨c0,c1⟩|exact⟨f0,f1⟩|go_keep)
   (first|(go_at_call 178;refine an2 _ _ y y' g xJ.O _ tm.O Fg.O _ ?_;intro w5 aE;have f0:=acu aE c0;have f1:=acu aE c1;have bu:=aQ C0 aE;clear c0 c1))
  cases g with
  |true=>
   have J8:y=y':=(Nk y y').1 xJ.O;have HN:Hid (l.take (k+1)=m.take (k+1)):=by
    refine Z ?_;rw[oy.O,BO.O,HS.O,J8]
   clear J8;go_wp2;exact XH
  |false=>
   have Nn:y≠y':=fun h=>by have:=(Nk y y').2 h;rw[xJ.O] at this;cases this
   obtain rfl:r=false:=by
    exact XI
   clear Nn;go_wp2;exact HR.O _ bu
theorem KI(N m:Nat)(l:List Int)(n:Nat)(hn:l.length=n)(w:World)(W:St w N m l)(R:ak)
 (I:R (.returned (E n)) w):
 Calls prog 116 #[zq N] w R:=by
 subst hn;have HR:=Z I;obtain⟨aw2,hD,_,bt⟩:=W.2.ex;have c0:w.cell? ⟨N,0,none⟩=some (.map (some m)):=D 0 W.1;have yO:=Z bt;clear W I bt;go_enter func116,ntmps116;go_wp2_with (first
  |(at_len;refine wpList_len_own _ rfl _ 141 rfl 3 161 underlying141 _ m _ aw2 rfl hD ?_;rw[yO.O]))
 exact HR.O
def pU(s:az)(id:Int):az×Bool×Bool:=
 if s.aB.contains id=true then (s,true,true)
 else if s.aB.length<8∧1≤id∧id≤65535 then ({s with aB:=s.aB++ [id]},false,true) else (s,false,false)
theorem akH(S:Nat)(s:az)(id:Int)(hid:iR id)(s':az)(a b:Bool)(J:pU s id=(s',a,b))(w:World)(M:Nat→Prop)(h:SR w M S s)(R:ak)
 (I:∀w',SR w' M S s'→Sep M M w w'→R (.returned (.tuple #[.bool a,.bool b])) w'):
 Calls prog 52 #[zq S,E id] w R:=by
 have HR:=Z I;obtain⟨NB,MB,GB,GM,sv,qv,fv,F⟩:=h;have HX:=Z F;have c8:=(ef F.hS).2.2.2.2;clear I F;unfold pU at J;by_cases h1:s.aB.contains id=true
 ·rw[if_pos h1] at J;simp only[Prod.mk.injEq] at J;obtain⟨rfl,rfl,rfl⟩:=J;have H1:=Z h1;clear h1;go_enter func52,ntmps52;go_wp2_with (go_at_call 115;go_must(refine AF GB GM s.aB id true H1.O _ HX.O.A hid _ ?_);intro w2 aj;have bn:=Z aj;clear aj);exact HR.O _ ⟨NB,MB,GB,GM,sv,qv,fv,HX.O.below bn.O⟩ (.cL bn.O)
 rw[if_neg h1] at J;have H1:Hid (s.aB.contains id=false):=Z (ns.2 h1);clear h1;obtain⟨n,hn⟩:=ai s.aB.length;have HN:=Z hn;rw[hn] at J;by_cases h2:n<8∧1≤id∧id≤65535
 ·rw[if_pos h2] at J;simp only[Prod.mk.injEq] at J;obtain⟨rfl,rfl,rfl⟩:=J;obtain⟨h3,h4,h5⟩:=h2;have su:(n:Int)<8:=by omega
  have HL:Hid (s.aB.length≤100000):=by have:=HN.O;show _≤_;omega
  clear hn;go_enter func52,ntmps52;go_wp2_with (first
   |(go_at_call 115;go_must(refine AF GB GM s.aB id false H1.O _ HX.O.A hid _ ?_);intro w2 aj;have jm:=Z (HX.O.below aj);have bn:=Z aj;have OQ:=(ef (HX.O.below aj).hS).2.2.2.2;clear aj c8)
   |(go_at_call 116;go_must(refine KI GB GM s.aB n HN.O _ jm.O.A _ ?_))
   |(go_at_call 51;go_must(refine RM GB GM s.aB id h4 h5 H1.O HL.O _ jm.O.A _ ?_);intro w3 zu dz;have dq:=SX.RU jm.O dz zu;have ji:=Z dq.1;have ku:=Z dq.2;clear zu dz dq))
  exact HR.O _ ⟨NB,MB,GB,GM,sv,qv,fv,ji.O⟩ ((Sep.cL bn.O).trans ku.O)
 rw[if_neg h2] at J;simp only[Prod.mk.injEq] at J;obtain⟨rfl,rfl,rfl⟩:=J;clear hn;by_cases h3:n<8
 ·have su:(n:Int)<8:=by omega
  have h4:id<1∨65535<id∨s.aB.contains id=true:=by omega
  have H4:=Z h4;clear h2 h4;go_enter func52,ntmps52;go_wp2_with (first
   |(go_at_call 115;go_must(refine AF GB GM s.aB id false H1.O _ HX.O.A hid _ ?_);intro w2 aj;have jm:=Z (HX.O.below aj);have bn:=Z aj;have OQ:=(ef (HX.O.below aj).hS).2.2.2.2;clear aj c8)
   |(go_at_call 116;go_must(refine KI GB GM s.aB n HN.O _ jm.O.A _ ?_))
   |(go_at_call 51;go_must(refine RO GB GM s.aB id hid H4.O _ jm.O.A _ ?_);intro w3 an;have ji:=Z (jm.O.below an);have ku:Hid (Sep M M w2 w3):=Z (.cL an);clear an))
  exact HR.O _ ⟨NB,MB,GB,GM,sv,qv,fv,ji.O⟩ ((Sep.cL bn.O).trans ku.O)
 have su:¬(n:Int)<8:=by omega
 clear h2;go_enter func52,ntmps52;go_wp2_with (first
  |(go_at_call 115;go_must(refine AF GB GM s.aB id false H1.O _ HX.O.A hid _ ?_);intro w2 aj;have jm:=Z (HX.O.below aj);have bn:=Z aj;have OQ:=(ef (HX.O.below aj).hS).2.2.2.2;clear aj c8)
  |(go_at_call 116;go_must(refine KI GB GM s.aB n HN.O _ jm.O.A _ ?_)))
 exact HR.O _ ⟨NB,MB,GB,GM,sv,qv,fv,jm.O⟩ (.cL bn.O)
theorem akI(S:Nat)(s:az)(id:Int)(hid:iR id)(b:Bool)(U:s.aB.contains id=b)(w:World)(M:Nat→Prop)(h:SR w M S s)(R:ak)
 (I:∀w',SR w' M S {s with aB:=s.aB.erase id}→Sep M M w w'→R (.returned (.bool b)) w'):
 Calls prog 75 #[zq S,E id] w R:=by
 have HR:=Z I;obtain⟨NB,MB,GB,GM,sv,qv,fv,F⟩:=h;have HX:=Z F;have cT:=Z U;have c8:=(ef F.hS).2.2.2.2;clear I F U;go_enter func75,ntmps75;go_wp2_with (go_at_call 106;go_must(refine XW GB GM s.aB id hid b cT.O _ HX.O.A _ ?_);intro w3 zu dz;have dq:=SX.RU HX.O dz zu;have ji:=Z dq.1;have ku:=Z dq.2;clear zu dz dq);exact HR.O _ ⟨NB,MB,GB,GM,sv,qv,fv,ji.O⟩ ku.O
theorem akJ(S:Nat)(s:az)(w:World)(M:Nat→Prop)(h:SR w M S s)(R:ak)
 (I:∀w',Below w w w'→R (.returned (.tuple #[.int .i64 s.cI,.int .i64 s.ends,.bool s.ej])) w'):
 Calls prog 86 #[zq S] w R:=by
 have HR:=Z I;obtain⟨NB,MB,GB,GM,sv,qv,fv,F⟩:=h;obtain⟨⟨c0,c1,c2,c3,c4⟩,c5,c6,c7,c8⟩:(w.cell? ⟨S,0,none⟩=_∧w.cell? ⟨S,1,none⟩=_∧w.cell? ⟨S,2,none⟩=some (.int .i64 s.cI)∧w.cell? ⟨S,3,none⟩=some (.int .i64 s.ends)∧w.cell? ⟨S,4,none⟩=some (.bool s.ej))∧True∧True∧True∧True:=⟨⟨D 0 F.hS,D 1 F.hS,D 2 F.hS,D 3 F.hS,D 4 F.hS⟩,trivial,trivial,trivial,trivial⟩
 have k2:w.drew.cell? ⟨S,2,none⟩=_:=c2;have k3:w.drew.cell? ⟨S,3,none⟩=_:=c3;have k4:w.drew.cell? ⟨S,4,none⟩=_:=c4;clear I F c0 c1 c5 c6 c7 c8;go_enter func86,ntmps86;go_upto_region 1 with fail
 go_region
 all_goals
  go_wp2_with fail;go_ret3;exact HR.O _ (bq _)
theorem KJ{P:Prop}(h:P:=by
 go_wp2;go_roundg (n - (k+1))
 case measure=>omega
 case rel=>exact⟨k+1,by omega,rfl,by go_num,rfl,KK⟩):P:=h
variable{B g k n:Nat}
theorem mw:(prog.info? 64).map (fun i=>(i.zero,i.size,i.bytes))=some (some (.agg gB),6,48):=by kernel_rfl
theorem Nx(l:List UInt8):(str l).toList=l:=by rw[ByteArray.toList_eq]
theorem Ny(a b:List UInt8):((str a).toList==(str b).toList)=(a==b):=by rw[Nx,Nx]
theorem vw(l:List Sb):∀u∈l.flatMap aT,u.oneCell'=true:=fun u hu=>by
 obtain⟨p,_,hu⟩:=List.mem_flatMap.1 hu;exact X3
theorem yV{c:Nat}{l:List Sb}(h:w.ownsRow B 64 6 (.slice (some ⟨g,0,none⟩) n c) n (l.flatMap aT))(hn:l.length=n)(G:k<l.length):∀j,j<6→w.cell? ⟨g,k*6+j,none⟩=(aT l[k])[j]?:=fun j hj=>by
 rw[h.cellAt (k*6+j) (by omega),kY 6 aT ij l k j G hj]
theorem IL(id wh:Int)(m:Bool)(hm:ch id wh=m)(w:World)(R:ak)(I:∀w',Below w w w'→R (.returned (.bool m)) w'):
 Calls prog 180 #[E id,E wh] w R:=by
 subst hm;exact apI id wh w R I
theorem mh(id:Int)(k:Nat)(G:aS id=k)(w:World)(R:ak)(I:R (.returned (E k)) w):
 Calls prog 206 #[E id] w R:=by
 subst G;exact apf id w R I
def oJ(e now:Int):Bool:=e != 0&&decide (e≤now)
theorem aaZ(a0 a1 a2 a3 a4 a6 a7 a8 a9:Value)(e now:Int)(b:Bool)(U:oJ e now=b)(w:World)(R:ak)
 (I:∀w',Below w w w'→R (.returned (.bool b)) w'):
 Calls prog 133 #[.agg #[a0,a1,a2,a3,a4,E e,a6,a7,a8,a9],E now] w R:=by
 have HR:=Z I;have aw:Below w w (w.alloc (.cells #[a0,a1,a2,a3,a4,E e,a6,a7,a8,a9] 34)):=aD _ _;have ct:=Z aw;have c5:=D 5 (aH w (.cells #[a0,a1,a2,a3,a4,E e,a6,a7,a8,a9] 34));clear I aw;unfold oJ at U;by_cases h0:e=0
 ·obtain rfl:false=b:=by rw[←U];simp[h0]
  subst h0;clear U;go_enter func133,ntmps133;go_wp2;exact HR.O _ ct.O
 have bf:(e != 0)=true:=by simpa using h0
 by_cases h1:e≤now
 ·obtain rfl:true=b:=by rw[←U,bf];simp[h1]
  clear U;go_enter func133,ntmps133;go_wp2;exact HR.O _ ct.O
 obtain rfl:false=b:=by rw[←U,bf];simp[h1]
 clear U;go_enter func133,ntmps133;go_wp2;exact HR.O _ ct.O
theorem ak2(a0 a1 a2 a3 a4 a6 a7 a8 a9:Value)(e now:Int)(b:Bool)(U:oJ e now=b)(w:World)(R:ak)
 (I:∀w',Below w w w'→R (.returned (.bool b)) w'):
 Calls prog 132 #[.agg #[a0,a1,a2,a3,a4,E e,a6,a7,a8,a9],E now] w R:=by
 have HR:=Z I;have aw:Below w w (w.alloc (.cells #[a0,a1,a2,a3,a4,E e,a6,a7,a8,a9] 34)):=aD _ _;have ct:=Z aw;have c5:=D 5 (aH w (.cells #[a0,a1,a2,a3,a4,E e,a6,a7,a8,a9] 34));clear I aw;unfold oJ at U;by_cases h0:e=0
 ·obtain rfl:false=b:=by rw[←U];simp[h0]
  subst h0;clear U;go_enter func132,ntmps132;go_wp2;exact HR.O _ ct.O
 have bf:(e != 0)=true:=by simpa using h0
 by_cases h1:e≤now
 ·obtain rfl:true=b:=by rw[←U,bf];simp[h1]
  clear U;go_enter func132,ntmps132;go_wp2;exact HR.O _ ct.O
 obtain rfl:false=b:=by rw[←U,bf];simp[h1]
 clear U;go_enter func132,ntmps132;go_wp2;exact HR.O _ ct.O
theorem acv(x:Nt)(pv qv pu qu:Value)(w:World)(hp:Bs w pv x.ay)(hq:Ps w qv x.props)(m9:Bs w pu x.ay)(pk:Ps w qu x.props)(R:ak)
 (I:∀w',Below w w w'→R (.returned (.bool true)) w'):
 Calls prog 126 #[.agg (uj x pv qv),.agg (uj x pu qu)] w R:=by
 obtain⟨aF,ay,ah,aL,src,aP,props,origin,number,aW⟩:=x;simp only at*;obtain⟨O0,kH⟩:=ai ((Obj.cells #[.string (str aF),pv,E ah,.bool aL,.string (str src),E aP,qv,E origin,E number,E aW] 34));obtain⟨O1,eP⟩:=ai ((Obj.cells #[.string (str aF),pu,E ah,.bool aL,.string (str src),E aP,qu,E origin,E number,E aW] 34));have aM:Below w w ((w.alloc O0).alloc O1):=(aD _ _).alloc (by simp) _;have n0:=js (o':=O1) (aH w O0);have n1:=aH (w.alloc O0) O1;rw[show(w.alloc O0).heap.size=w.heap.size+1 by simp] at n1;obtain⟨bB,N0,N1⟩:=bX aM n0 n1;rw[←kH,←eP] at bB N0 N1;clear aM n0 n1 kH eP;have k1:=lU (P:=prog) underlying22 underlying5 underlying9 (hp.below bB.O);have k2:=lU (P:=prog) underlying22 underlying5 underlying9 (m9.below bB.O);have HR:=Z I;have HQ:=Z (hq.below bB.O);have nM:=Z (pk.below bB.O);have jT:Hid (Bq props props=true):=eN rfl;clear hp hq m9 pk I;go_enter func126,ntmps126;go_wp2_with (first
  |(go_at_call 161;go_must(refine LO _ _ props props true jT.O _ HQ.O nM.O _ ?_);intro w3 an;have r0:=aA N0.O an;have r1:=aA N1.O an;have c7:=D 7 r0;have c8:=D 8 r0;have c9:=D 9 r0;have d7:=D 7 r1;have d8:=D 8 r1;have d9:=D 9 r1))
 all_goals exact HR.O _ (aQ bB.O an)
theorem PZ(x:Im)(pv qv ev pu qu eu:Value)(w:World)(h:ie w pv qv ev x)(h2:ie w pu qu eu x)(R:ak)
 (I:∀w',Below w w w'→R (.returned (.bool true)) w'):
 Calls prog 70 #[(Value.agg (qi x pv qv ev)),(Value.agg (qi x pu qu eu))] w R:=by
 obtain⟨HR,HC,eT⟩:=bX I h h2;obtain⟨⟨V,X,rfl⟩,⟨qa,qc,rfl⟩,ea,ec,rfl⟩:=h.shape;obtain⟨⟨DZ,D0,rfl⟩,⟨kD,kE,rfl⟩,SC,SD,rfl⟩:=h2.shape;obtain⟨⟨aF,ay,mO,aL,src,aP,props,origin,number,aW⟩,ah,aI,ids,share⟩:=x;simp only at*;clear I h h2;obtain⟨O0,kH⟩:=ai ((Obj.cells (qg aF V ay X mO aL src aP qa props qc origin number aW ah aI ea ids ec share) 36));obtain⟨O1,eP⟩:=ai ((Obj.cells (qg aF DZ ay D0 mO aL src aP kD props kE origin number aW ah aI SC ids SD share) 36));have aw:Below w w ((w.alloc O0).alloc O1):=(aD _ _).alloc (by simp) _;have n0:=js (o':=O1) (aH w O0);have n1:=aH (w.alloc O0) O1;rw[show(w.alloc O0).heap.size=w.heap.size+1 by simp] at n1;obtain⟨ct,N0,N1⟩:=bX aw n0 n1;rw[←kH,←eP] at ct N0 N1;clear aw n0 n1 kH eP;have HA:=Z (HC.O.below ct.O);have qP:=Z (eT.O.below ct.O);go_enter func70,ntmps70;go_wp2_with (first
  |(go_at_call 126;go_must(refine acv ⟨aF,ay,mO,aL,src,aP,props,origin,number,aW⟩ _ _ _ _ _ HA.O.p HA.O.q qP.O.p qP.O.q _ ?_);intro w3 an;have r0:=aA N0.O an;have r1:=aA N1.O an;have fD:=D 10 r0;have iP:=D 11 r0;have iQ:=D 12 r0;have jN:=D 13 r0;have d10:=D 10 r1;have d11:=D 11 r1;have d12:=D 12 r1;have d13:=D 13 r1;obtain⟨cq,Jz,AY⟩:=bX an r0 r1;clear an r0 r1))
 go_loopg [5] ids.length (fun gn i wr=>∃k:Nat,k≤ids.length∧gn=ids.length - k∧i= .int .i64 k∧Hid (Below w3 w3 wr))
 case atStart=>exact⟨0,bP _,by omega,rfl,Z dg⟩
 case round=>
  obtain⟨k,G,rfl,rfl,HB⟩:=hrel;obtain⟨wo,rfl⟩:∃x,x=wr:=⟨_,rfl⟩
  clear fD iP iQ jN d10 d11 d12 d13;have m7:Hid (Below w w wo):=cz (aQ ct.O cq.O) HB.O (aQ ct.O cq.O).size;have iQ:=D 12 (aA Jz.O HB.O);have d12:=D 12 (aA AY.O HB.O);have td:=HC.O.i.len;by_cases au:k<ids.length
  ·have bo:(k:Int)<(ids.length:Int):=by omega
   obtain⟨g,o,FC,tF⟩:=(HC.O.i.below m7.O).at k au;obtain⟨g2,o2,an3,acw⟩:=(eT.O.i.below m7.O).at k au;subst FC;subst an3;obtain⟨x,F⟩:=ai (ids[k]);rw[F] at tF acw;have bf:(x != x)=false:=by simp
   have avG:wo.drew.cell? ⟨w,12,none⟩=_:=iQ;have avH:wo.drew.cell? ⟨w.heap.size+1,12,none⟩=_:=d12;have avI:wo.drew.cell? ⟨g,o+k,none⟩=_:=tF;have avJ:wo.drew.cell? ⟨g2,o2+k,none⟩=_:=acw;clear F;go_wp2_with fail;go_region
   all_goals go_wp2_with fail
   go_roundg (ids.length - (k+1))
   case measure=>omega
   case rel=>exact⟨k+1,by omega,rfl,by go_num,Z HB.O.drew⟩
  have bo:¬(k:Int)<(ids.length:Int):=by omega
  go_wp2;exact HR.O _ m7.O
theorem P6{P:Prop}(h:P:=by
 go_roundg (n - (k+1))
 case measure=>omega
 case rel=>exact⟨k+1,by omega,rfl,by go_num,dj⟩):P:=h
theorem an6(l:List Int)(n:Nat)(hn:n≤100000)(a1 a2:av)(c1 c2:Nat)(w:World)(h1:Rd w 1 a1 n (iv l))(h2:Rd w 1 a2 n (iv l))(R:ak)
 (I:∀w',Below w w w'→R (.returned (.bool true)) w'):
 Calls prog 90 #[.slice a1 n c1,.slice a2 n c2] w R:=by
 obtain⟨HR,H1,H2⟩:=bX I h1 h2;have lO:n=l.length:=by have:=h1.1;unfold iv at this;rw[j0] at this;omega
 have HN:=Z lO;clear I h1 h2 lO;go_enter func90,ntmps90;go_wp2;go_loopg [5] n (fun gn i wr=>∃k:Nat,k≤n∧gn=n - k∧i= .int .i64 k∧Hid (Below w w wr))
 case atStart=>exact⟨0,bP _,by omega,rfl,Z dg⟩
 case round=>
  obtain⟨k,G,rfl,rfl,HB⟩:=hrel;obtain⟨wo,rfl⟩:∃x,x=wr:=⟨_,rfl⟩
  by_cases au:k<n
  ·have bo:(k:Int)<(n:Int):=by omega
   have gq:k<l.length:=by have:=HN.O;omega
   obtain⟨g1,o1,e1,eD⟩:=(H1.O.below HB.O).2 (by omega);obtain⟨g2,o2,e2,bM⟩:=(H2.O.below HB.O).2 (by omega);obtain⟨x,F⟩:=ai (l[k]);have hv:(iv l)[k]? =some (.int .i64 x):=by unfold iv;rw[List.getElem?_map,dW gq,F];rfl
   subst e1 e2;have d1:wo.cell? ⟨g1,o1+k,none⟩=some (.int .i64 x):=(eD k (by omega)).trans hv;have d2:wo.cell? ⟨g2,o2+k,none⟩=some (.int .i64 x):=(bM k (by omega)).trans hv;have dj:=Z (HB.O.drew);clear eD bM hv F;go_wp2;go_region
   all_goals go_wp2_with fail
   exact P6
  have bo:¬(k:Int)<(n:Int):=by omega
  go_wp2;exact HR.O _ HB.O
open List (mem_cons_of_mem mem_cons_self)
variable{held:Bool}{base CU:Nat}{v:Value}{aw4:World}
open Go.ChangeShapes Go.WideShapes Go.ChangeAt
theorem agR(s:ByteArray):∃l:List UInt8,s=str l∧l.length=s.size:=⟨s.data.toList,by apply ByteArray.ext;simp,rfl⟩
theorem Xs{H:Type}{enc:TypeId×Value→H}{P:Program}(hl:laidOutB P=true){W':World}(U:Below aw4 aw4 W'):
 ∀(ts:List TypeId)(vs:List Value) (ds:List (DataW H)) (ps:List MemPlace),(∀t∈ts,P.readableRec t=true∧t<P.types.size)→
  DataW.TrodAll enc P aw4 0 (fun _=>true) true ts vs ds ps→(∀x∈ps,x.block<aw4.heap.size)→DataW.TrodAll enc P W' 0 (fun b=>decide (b<aw4.heap.size)) true ts vs ds ps
 |[],[],[],_,_,h,_=>h
 |t::ts,v::vs,d::ds,ps,ht,h,au=>by
  obtain⟨p,q,h1,h2,rfl⟩:=h;refine⟨p,q,?_,Xs hl U ts vs ds q (fun t' h'=>ht t' (mem_cons_of_mem _ h')) h2 (fun x F=>au x (List.mem_append_right _ F)),rfl⟩;have:=ht t mem_cons_self;exact Below.trod hl this.1 this.2 h1 U (fun x F=>au x (List.mem_append_left _ F))
 |[],_::_,_,_,_,h,_=>by cases h
 |[],[],_::_,_,_,h,_=>by cases h
 |_::_,[],_,_,_,h,_=>by cases h
 |_::_,_::_,[],_,_,h,_=>by cases h
theorem agS(zs:List Int)(h:∀n∈zs,(Lit.int .u8 n).wf=true):∃b:List UInt8,zs=b.map fun x=>(x.toNat:Int):=by
 refine⟨zs.map fun z=>b8 z,?_⟩;rw[List.map_map]
 conv=>lhs;rw[←List.map_id zs]
 refine List.map_congr_left fun z hz=> ?_;have hw:=h z hz;simp[Lit.wf,IntKind.min,IntKind.max,IntKind.signed,IntKind.bits] at hw;have:=xB z;simp only[id_eq,Function.comp_apply]
 omega
theorem Xt{H:Type}(d:DataW H):1≤Rows.uptoBulk d:=by
 cases d with
 |lit l=>cases l<;>simp[Rows.uptoBulk]
 |nil=>simp[Rows.uptoBulk]
 |ptr d=>simp[Rows.uptoBulk]
 |slice GY spare=>simp[Rows.uptoBulk]
 |agg parts=>simp[Rows.uptoBulk]
 |iface t d=>simp[Rows.uptoBulk]
 |map entries=>simp[Rows.uptoBulk]
 |held h=>simp[Rows.uptoBulk]
theorem agT{H:Type}(l:List (DataW H)):l.length≤Rows.uptoBulkAll l:=by
 induction l with
 |nil=>simp
 |cons x r ih=>
  have:=Xt x;simp only[Rows.uptoBulkAll,ey]
  omega
theorem RA{a:Addr}(h:aw4.cell? (a.add 0)=some v):a=⟨a.block,a.off,none⟩:=by
 have e0:a.add 0=a:=rfl;rw[e0] at h;cases a with
 |mk bl of sp=>
  cases sp with
  |none=>rfl
  |some s=>simp[World.cell?] at h;split at h<;>simp at h
theorem Xu{H:Type}{enc:TypeId×Value→H}{P:Program}{spare:Nat→Bool}{t e:TypeId}{d:DataW H}{p:List MemPlace}(ht:P.underlying t=some (.slice e))(he:P.underlying e=some (.int .u8))(J:P.cellsOf e=1)
 (hf:DataW.trod enc P aw4 base spare held CU t [v]=some (d,p)) (fW:∀b,spare b=true):∃b:List UInt8,Bs aw4 v b∧b.length+1≤Rows.uptoBulk d:=by
 rcases open_ints ht he J hf with⟨dQ,F⟩|⟨a,len,cap,zs,dQ,_,hl,hm,hz,F,bg,CV⟩
 ·simp only[List.cons.injEq,and_true] at dQ;subst dQ;exact⟨[],⟨none,0,rfl,Rd.nil _ _ _,Nat.le_refl _,by omega,fun _=>rfl⟩,by have:=Xt d;simpa using this⟩
 simp only[List.cons.injEq,and_true] at dQ;subst dQ;rw[fW] at hz;simp only[if_true] at hz;obtain⟨b,rfl⟩:=agS zs CV;rw[j0] at hz;unfold maxLen at hm;have bk:(b.take len).length=len:=by rw[bS];omega
 refine⟨b.take len,⟨some a,cap,by rw[bk],⟨by simp,fun hn=> ?_⟩,by rw[bk];exact hl,by omega,fun h=>by cases h⟩,?_⟩
 ·rw[bk] at hn⊢;have CW:=RA (bg 0 (by rw[j0];omega));refine⟨a.block,a.off,by rw[←CW],fun j hj=> ?_⟩;have gA:=bg j (by rw[j0];omega);have e1:a.add j=⟨a.block,a.off+j,none⟩:=by
   conv=>lhs;rw[CW]
   rw[Addr.add_lit]
  rw[e1] at gA;rw[gA,Jq _ j (by omega)];simp[List.getD,show j<b.length by omega]
 simp only[Prod.mk.injEq] at F;rw[F.1,bk];have h2:=agT (lits .u8 ((b.map fun x=>(x.toNat:Int)).take len):List (DataW H));have h3:(lits .u8 ((b.map fun x=>(x.toNat:Int)).take len):List (DataW H)).length=len:=by
  simp only[lits,j0,bS];omega
 simp only[Rows.uptoBulk]
 omega
theorem agU{H:Type}{enc:TypeId×Value→H}{P:Program}{spare:Nat→Bool}{t e:TypeId}{d:DataW H}{p:List MemPlace}(ht:P.underlying t=some (.slice e))(he:P.underlying e=some (.int .u8))(J:P.cellsOf e=1)
 (h:DataW.Trod enc P aw4 base spare held t v d p) (W:∃a len cap,v= .slice a len cap) (fW:∀b,spare b=true):∃b:List UInt8,Bs aw4 v b∧b.length+1≤Rows.uptoBulk d:=by
 obtain⟨a0,l0,c0,rfl⟩:=W;obtain⟨CU,hf⟩:=h;exact Xu ht he J hf fW
open List (drop_eq_getElem_cons)
variable{cs:List Value}{C e j t:Nat}
def Fits{H:Type}(P:Program)(t:TypeId)(d:DataW H):Prop:=∀n∈d.weights P t,n≤reachBytes
theorem anA{H:Type}{P:Program}{e:TypeId}{l:List (DataW H)}{d:DataW H}(hd:d∈l):∀n∈d.weights P e,n∈DataW.weightsAll P e l:=by
 induction l with
 |nil=>cases hd
 |cons x r ih=>
  intro n hn;simp only[DataW.weightsAll,ez];cases List.mem_cons.1 hd with
  |inl h=>subst h;exact .inl hn
  |inr h=>exact .inr (ih h n hn)
theorem Fits.elem{H:Type}{P:Program}{t e:TypeId}{GY spare:List (DataW H)}(ht:P.underlying t=some (.slice e))(h:Fits P t (.slice GY spare)){d:DataW H}(hd:d∈GY):Fits P e d:=by
 intro n hn;refine h n ?_;simp only[DataW.weights,ht,List.mem_cons,ez];exact .inr (.inl (anA hd n hn))
theorem Fits.head{H:Type}{P:Program}{t e:TypeId}{GY spare:List (DataW H)}(ht:P.underlying t=some (.slice e))(h:Fits P t (.slice GY spare)):(GY.length+spare.length) *P.bytesOf e≤reachBytes:=by
 refine h _ ?_;simp only[DataW.weights,ht,List.mem_cons,true_or]
theorem Fits.field{H:Type}{P:Program}{t:TypeId}{fs:Array Field}{parts:List (DataW H)}(ht:P.underlying t=some (.struct fs))(h:Fits P t (.agg parts)){f:Field}{d:DataW H}(hf:fs[j]? =some f)(hd:parts[j]? =some d):Fits P f.type d:=by
 intro n hn;refine h n ?_;simp only[DataW.weights,ht];exact DataW.weights_mem_each (j:=j) (by simp[hf]) hd n hn
theorem anB{H:Type}{P:Program}{ts:List TypeId}{ds:List (DataW H)}(h:(DataW.weightsEach P ts ds).all (· ≤reachBytes)=true){t:TypeId}{d:DataW H}(ht:ts[j]? =some t)(hd:ds[j]? =some d):Fits P t d:=by
 intro n hn;exact of_decide_eq_true (List.all_eq_true.1 h n (DataW.weights_mem_each ht hd n hn))
theorem Ge{H:Type}{enc:TypeId×Value→H}{P:Program}{spare:Nat→Bool}{t e:TypeId}{d:DataW H}{p:List MemPlace}(ht:P.underlying t=some (.slice e))(he:P.underlying e=some (.int .u8))(J:P.cellsOf e=1)(Hf:P.bytesOf e=1)
 (hf:DataW.trod enc P aw4 base spare held CU t [v]=some (d,p)) (fW:∀b,spare b=true) (hw:Fits P t d):∃b:List UInt8,Bs aw4 v b∧b.length≤140737488351232:=by
 obtain⟨b,U,_⟩:=Xu ht he J hf fW;refine⟨b,U,?_⟩;rcases open_ints ht he J hf with⟨dQ,F⟩|⟨a,len,cap,zs,dQ,_,hl,hm,hz,F,bg,CV⟩
 ·simp only[List.cons.injEq,and_true] at dQ;subst dQ;obtain⟨Y,c,e,_⟩:=U;simp only[Value.slice.injEq] at e
  omega
 simp only[List.cons.injEq,and_true] at dQ;subst dQ;simp only[Prod.mk.injEq] at F;rw[F.1] at hw;have h1:=hw.head ht;rw[Hf,Nat.mul_one] at h1;obtain⟨Y,c,e,_⟩:=U;simp only[Value.slice.injEq] at e;rw[fW] at hz;simp only[if_true] at hz;simp only[lits,j0,bS,dw,reachBytes] at h1
 omega
theorem l_{H:Type}{enc:TypeId×Value→H}{P:Program}{spare:Nat→Bool}{fs:Array Field}{xs:List (DataW H×List MemPlace)}
 (A:∀(i:Nat)(f:Field),fs[i]? =some f→DataW.trod enc P aw4 base spare held n f.type ((cs.drop f.offset).take (P.cellsOf f.type))=xs[i]?)
 (i t off:Nat) (v:Value) (hf:fs[i]?.map (fun f=>(f.type,f.offset))=some (t,off)) (J:P.cellsOf t=1) (hv:cs[off]? =some v):DataW.trod enc P aw4 base spare held n t [v]=xs[i]?:=by
 cases h:fs[i]? with
 |none=>rw[h] at hf;simp at hf
 |some f=>
  rw[h] at hf;simp only[Option.map_some,Option.some.injEq,Prod.mk.injEq] at hf;obtain⟨rfl,rfl⟩:=hf;have h1:=A i f h;obtain⟨au,rfl⟩:=qe.1 hv;rw[J,drop_eq_getElem_cons au,List.take_succ_cons,List.take_zero] at h1;exact h1
theorem anC{H:Type}{enc:TypeId×Value→H}{P:Program}{spare:Nat→Bool}{d:DataW H}{p:List MemPlace}{α:Type}[Inhabited α](el:List Value→α→Prop)(ht:P.underlying t=some (.slice e))(hC:P.cellsOf e=C)(anD:0<C)
 (anE:∀n cs d p,DataW.trod enc P aw4 base spare held n e cs=some (d,p)→Fits P e d→cs.length=C→∃x:α,el cs x)
 (hf:DataW.trod enc P aw4 base spare held CU t [v]=some (d,p)) (fW:∀b,spare b=true) (hw:Fits P t d):
 ∃(l:List α)(Y:av)(c:Nat),v= .slice Y l.length c∧l.length≤c∧c≤9223372036854775807∧(Y=none→c=0)∧c*P.bytesOf e≤140737488351232∧
  (0<l.length→∃b o,Y=some ⟨b,o,none⟩∧∀(i:Nat)(h:i<l.length),∃cs,cs.length=C∧(∀j,j<C→aw4.cell? ⟨b,o+i*C+j,none⟩=cs[j]?)∧el cs l[i]):=by
 rcases Go.Deep.open_slice ht hf with⟨dQ,F⟩|⟨a,len,cap,m,n,aw2,Pl,dQ,_,hl,hm,vk,F,bg⟩
 ·simp only[List.cons.injEq,and_true] at dQ;exact⟨[],none,0,by simpa using dQ,Nat.le_refl _,by omega,fun _=>rfl,by omega,fun h=>by simp at h⟩
 simp only[List.cons.injEq,and_true] at dQ;rw[fW] at vk;simp only[if_true] at vk;unfold maxLen at hm;simp only[Prod.mk.injEq] at F;rw[F.1] at hw;have Ur:=hw.head ht;rw[hC] at bg;have hex:∀i,i<len→∃x:α,∃cs,cs.length=C∧(∀j,j<C→aw4.cell? ((a.add (i*C)).add j)=cs[j]?)∧el cs x:=by
  intro i hi;obtain⟨cs,h1,h2⟩:=bg i (by omega);obtain⟨_,h3,h4⟩:=World.cells?_some h1;obtain⟨x,F⟩:=anE _ _ _ _ h2 (hw.elem ht (List.mem_map.2 ⟨i,List.mem_range.2 hi,rfl⟩)) h3;exact⟨x,cs,h3,h4,F⟩
 obtain⟨f,acq⟩:=Go.Deep.choose_lt (n:=len) (p:=fun i x=>∃cs,cs.length=C∧(∀j,j<C→aw4.cell? ((a.add (i*C)).add j)=cs[j]?)∧el cs x) hex;have ox:((List.range len).map f).length=len:=by simp
 refine⟨(List.range len).map f,some a,cap,by rw[ox];exact dQ,by rw[ox];exact hl,by omega,(fun h=>by cases h),?_,fun h0=> ?_⟩
 ·simp only[j0,List.length_range,reachBytes] at Ur;rw[show len+(m - len)=cap by omega] at Ur;exact Ur
 rw[ox] at h0;obtain⟨avD,z1,z2,_⟩:=acq 0 h0;have hz:=z2 0 anD;rw[dW (by omega),Nat.zero_mul,show(a.add 0).add 0=a.add 0 from rfl] at hz;have CW:=RA hz;refine⟨a.block,a.off,by rw[←CW],fun i hi=> ?_⟩;rw[ox] at hi;obtain⟨cs,h1,h2,h3⟩:=acq i hi;refine⟨cs,h1,fun j hj=> ?_,by simpa using h3⟩;have h4:=h2 j hj;have e1:(a.add (i*C)).add j=⟨a.block,a.off+i*C+j,none⟩:=by
  conv=>lhs;rw[CW]
  rw[Addr.add_lit,Addr.add_lit]
 rw[e1] at h4;exact h4
variable{fr:Nat×Nat}
theorem aoE{P:Program}{ty b:Nat}{cs:Array Value}{aw0:Sem Nat}(hY:Go.sizeOf ty=aw0)(h:w.heap[b]? =some (.cells cs t fr))(hi:(P.info? ty).map (·.size)=some cs.size):
 ((Sem.run P aw0 w).andThen fun a w'=>(Sem.run P (loadCellsFrom ⟨b,0,none⟩ 0 a #[]) w').andThen fun a w'=>Result.ok (Value.agg a) w')=Result.ok (Value.agg cs) w:=by
 have hl:(loadCells ⟨b,0,none⟩ cs.toList.length).run P w= .ok cs.toList.toArray w:=
  run_loadCells_list (P:=P) w ⟨b,0,none⟩ cs.toList (fun j v hv=>by
   have Py:(⟨b,0,none⟩:Addr).add j=⟨b,j,none⟩:=by unfold Addr.add;split<;>simp_all
   rw[Py,oP w b j cs t fr h]
   simpa using hv)
 simp only[loadCells,Array.length_toList,Array.toArray_toList] at hl;subst hY;cases hq:P.info? ty with
 |none=>simp[hq] at hi
 |some i=>
  have W:i.size=cs.size:=by simpa [hq] using hi
  simp[Go.sizeOf,typeInfo,hq,W,hl]
