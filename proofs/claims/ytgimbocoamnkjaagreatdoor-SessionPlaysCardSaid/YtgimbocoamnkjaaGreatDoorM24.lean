/- A part of the proof of SessionPlays, printed small; no conditions of its own. -/
import Derived.Test.YtgimbocoamnkjaaGreatDoorM06
set_option maxRecDepth 100000
set_option maxHeartbeats 16000000
namespace Go.Proofs.YtgimbocoamnkjaaGreatDoor
open _root_.Go.Proofs.Tryz
open List (contains_cons contains_nil)
open Go.RowKit
theorem Sl(x:Int)(ps:List Int)(z:Bool)(hz:ps.contains x=z)(ad:Option Addr)(n c:Nat)(hn:n=ps.length)(hm:ps.length≤1000)(w:World)(cs:List Value)(hr:Rd w 1 ad n cs)(dm:cs=ps.map (Value.int .i64))(R:Ending→World→Prop)
 (hR:R (.returned (.bool z)) w):
 Calls prog 205 #[.int .i64 x,.slice ad n c] w R:=by
 subst hn;subst dm;have HZ:=ab hz;clear hz;go_enter func205,ntmps205;go_wp2;go_loop [5] (fun i=>∃k:Nat,k≤ps.length∧i= .int .i64 k∧Hid ((ps.take k).contains x=false)) (fun i=>ps.length - (intOf i).toNat)
 case atStart=>exact ⟨0,Nat.zero_le _,rfl,ab (by simp)⟩
 case round=>
  obtain ⟨k,hk,rfl,sA⟩:=hrel;by_cases ao:k<ps.length
  ·have bd:(k:Int)<(ps.length:Int):=by omega
   obtain ⟨b,o,rfl,aW⟩:=hr.2 (by omega);have rB:=aW k (by omega);rw [List.getElem?_map,List.getElem?_eq_getElem ao,Option.map_some] at rB;have HS:Hid (ps.take (k+1)=ps.take k++ [ps[k]]):=ab (List.take_succ_eq_append_getElem ao);have HM:Hid (ps[k]∈ps):=ab (List.getElem_mem ao);obtain ⟨p,EG⟩:=ai (ps[k]);rw [EG] at HS HM rB;clear aW hr EG;by_cases he:p=x
   ·subst he;obtain rfl:z=true:=by rw [←HZ.o_];simpa using HM.o_
    go_wp2;exact hR
   ·have hp:Hid ((ps.take (k+1)).contains x=false):=by
     refine ab ?_;rw [HS.o_];have:=sA.o_;simp only [List.contains_eq_mem,List.mem_append,List.mem_singleton,decide_eq_false_iff_not] at this⊢;rintro (h|h)
     ·exact this h
     ·exact he h.symm
    clear HS HM sA;go_wp2;go_round
    case rel=>exact ⟨k+1,by omega,by go_num,hp⟩
    case measure=>simp [intOf];omega
  ·have bd:¬(k:Int)<(ps.length:Int):=by omega
   obtain rfl:z=false:=by
    rw [←HZ.o_];have:=sA.o_
    rwa [List.take_of_length_le (by omega)] at this
   go_wp2;exact hR
theorem ti(ps:List Int)(n:Nat)(hn:n=ps.length)(hm:ps.length≤1000)(vs:Array Value)(hs:vs.toList=ps.map (Value.int .i64))(t:Nat)(x:Int)(z:Bool)(hz:ps.contains x=z)(K:Nat)(w:World)(hK:K=w.heap.size)(R:Ending→World→Prop)
 (hR:R (.returned (.bool z)) (w.alloc (.cells vs t))):
 Calls prog 205 #[.int .i64 x,.slice (some ⟨K,0,none⟩) n n] (w.alloc (.cells vs t)) R:=by
 subst hK;refine Sl x ps z hz _ n n hn hm _ vs.toList (cO w vs t 1 n ?_) hs R hR;have:=congrArg List.length hs;simp only [List.length_map] at this;rw [Nat.mul_one,hn,←this];simp
theorem al3(id:Int)(w:World)(R:Ending→World→Prop)(hR:R (.returned (.int .i64 (aO id))) w):
 Calls prog 206 #[.int .i64 id] w R:=by
 by_cases h1:id=1
 ·subst h1;have e:aO 1=1:=by decide
  rw [e] at hR
  skip
  go_enter func206,ntmps206;go_wp2;exact hR
 by_cases h2:id=2
 ·subst h2;have e:aO 2=3:=by decide
  rw [e] at hR;clear h1;go_enter func206,ntmps206;go_wp2;exact hR
 by_cases h3:id=3
 ·subst h3;have e:aO 3=5:=by decide
  rw [e] at hR;clear h1 h2;go_enter func206,ntmps206;go_wp2;exact hR
 by_cases h8:id=8
 ·subst h8;have e:aO 8=5:=by decide
  rw [e] at hR;clear h1 h2 h3;go_enter func206,ntmps206;go_wp2;exact hR
 by_cases h9:id=9
 ·subst h9;have e:aO 9=6:=by decide
  rw [e] at hR;clear h1 h2 h3 h8;go_enter func206,ntmps206;go_wp2;exact hR
 by_cases h11:id=11
 ·subst h11;have e:aO 11=4:=by decide
  rw [e] at hR;clear h1 h2 h3 h8 h9;go_enter func206,ntmps206;go_wp2;exact hR
 by_cases h17:id=17
 ·subst h17;have e:aO 17=3:=by decide
  rw [e] at hR;clear h1 h2 h3 h8 h9 h11;go_enter func206,ntmps206;go_wp2;exact hR
 by_cases h18:id=18
 ·subst h18;have e:aO 18=5:=by decide
  rw [e] at hR;clear h1 h2 h3 h8 h9 h11 h17;go_enter func206,ntmps206;go_wp2;exact hR
 by_cases h19:id=19
 ·subst h19;have e:aO 19=2:=by decide
  rw [e] at hR;clear h1 h2 h3 h8 h9 h11 h17 h18;go_enter func206,ntmps206;go_wp2;exact hR
 by_cases h21:id=21
 ·subst h21;have e:aO 21=5:=by decide
  rw [e] at hR;clear h1 h2 h3 h8 h9 h11 h17 h18 h19;go_enter func206,ntmps206;go_wp2;exact hR
 by_cases h22:id=22
 ·subst h22;have e:aO 22=6:=by decide
  rw [e] at hR;clear h1 h2 h3 h8 h9 h11 h17 h18 h19 h21;go_enter func206,ntmps206;go_wp2;exact hR
 by_cases h23:id=23
 ·subst h23;have e:aO 23=1:=by decide
  rw [e] at hR;clear h1 h2 h3 h8 h9 h11 h17 h18 h19 h21 h22;go_enter func206,ntmps206;go_wp2;exact hR
 by_cases h24:id=24
 ·subst h24;have e:aO 24=3:=by decide
  rw [e] at hR;clear h1 h2 h3 h8 h9 h11 h17 h18 h19 h21 h22 h23;go_enter func206,ntmps206;go_wp2;exact hR
 by_cases h25:id=25
 ·subst h25;have e:aO 25=1:=by decide
  rw [e] at hR;clear h1 h2 h3 h8 h9 h11 h17 h18 h19 h21 h22 h23 h24;go_enter func206,ntmps206;go_wp2;exact hR
 by_cases h26:id=26
 ·subst h26;have e:aO 26=5:=by decide
  rw [e] at hR;clear h1 h2 h3 h8 h9 h11 h17 h18 h19 h21 h22 h23 h24 h25;go_enter func206,ntmps206;go_wp2;exact hR
 by_cases h28:id=28
 ·subst h28;have e:aO 28=5:=by decide
  rw [e] at hR;clear h1 h2 h3 h8 h9 h11 h17 h18 h19 h21 h22 h23 h24 h25 h26;go_enter func206,ntmps206;go_wp2;exact hR
 by_cases h31:id=31
 ·subst h31;have e:aO 31=5:=by decide
  rw [e] at hR;clear h1 h2 h3 h8 h9 h11 h17 h18 h19 h21 h22 h23 h24 h25 h26 h28;go_enter func206,ntmps206;go_wp2;exact hR
 by_cases h33:id=33
 ·subst h33;have e:aO 33=2:=by decide
  rw [e] at hR;clear h1 h2 h3 h8 h9 h11 h17 h18 h19 h21 h22 h23 h24 h25 h26 h28 h31;go_enter func206,ntmps206;go_wp2;exact hR
 by_cases h34:id=34
 ·subst h34;have e:aO 34=2:=by decide
  rw [e] at hR;clear h1 h2 h3 h8 h9 h11 h17 h18 h19 h21 h22 h23 h24 h25 h26 h28 h31 h33;go_enter func206,ntmps206;go_wp2;exact hR
 by_cases h35:id=35
 ·subst h35;have e:aO 35=2:=by decide
  rw [e] at hR;clear h1 h2 h3 h8 h9 h11 h17 h18 h19 h21 h22 h23 h24 h25 h26 h28 h31 h33 h34;go_enter func206,ntmps206;go_wp2;exact hR
 by_cases h36:id=36
 ·subst h36;have e:aO 36=1:=by decide
  rw [e] at hR;clear h1 h2 h3 h8 h9 h11 h17 h18 h19 h21 h22 h23 h24 h25 h26 h28 h31 h33 h34 h35;go_enter func206,ntmps206;go_wp2;exact hR
 by_cases h37:id=37
 ·subst h37;have e:aO 37=1:=by decide
  rw [e] at hR;clear h1 h2 h3 h8 h9 h11 h17 h18 h19 h21 h22 h23 h24 h25 h26 h28 h31 h33 h34 h35 h36;go_enter func206,ntmps206;go_wp2;exact hR
 by_cases h38:id=38
 ·subst h38;have e:aO 38=7:=by decide
  rw [e] at hR;clear h1 h2 h3 h8 h9 h11 h17 h18 h19 h21 h22 h23 h24 h25 h26 h28 h31 h33 h34 h35 h36 h37;go_enter func206,ntmps206;go_wp2;exact hR
 by_cases h39:id=39
 ·subst h39;have e:aO 39=3:=by decide
  rw [e] at hR;clear h1 h2 h3 h8 h9 h11 h17 h18 h19 h21 h22 h23 h24 h25 h26 h28 h31 h33 h34 h35 h36 h37 h38;go_enter func206,ntmps206;go_wp2;exact hR
 by_cases h40:id=40
 ·subst h40;have e:aO 40=1:=by decide
  rw [e] at hR;clear h1 h2 h3 h8 h9 h11 h17 h18 h19 h21 h22 h23 h24 h25 h26 h28 h31 h33 h34 h35 h36 h37 h38 h39;go_enter func206,ntmps206;go_wp2;exact hR
 by_cases h41:id=41
 ·subst h41;have e:aO 41=1:=by decide
  rw [e] at hR;clear h1 h2 h3 h8 h9 h11 h17 h18 h19 h21 h22 h23 h24 h25 h26 h28 h31 h33 h34 h35 h36 h37 h38 h39 h40;go_enter func206,ntmps206;go_wp2;exact hR
 by_cases h42:id=42
 ·subst h42;have e:aO 42=1:=by decide
  rw [e] at hR;clear h1 h2 h3 h8 h9 h11 h17 h18 h19 h21 h22 h23 h24 h25 h26 h28 h31 h33 h34 h35 h36 h37 h38 h39 h40 h41;go_enter func206,ntmps206;go_wp2;exact hR
 have e1:aO id=0:=by unfold aO;simp only [h1,h2,h3,h8,h9,h11,h17,h18,h19,h21,h22,h23,h24,h25,h26,h28,h31,h33,h34,h35,h36,h37,h38,h39,h40,h41,h42,or_self,if_false]
 rw [e1] at hR;go_enter func206,ntmps206;go_wp2;exact hR
theorem tj{P:Prop}(h:P:=by
 have HR:=ab hR;clear hR;go_enter func180,ntmps180;go_wp2_with (go_at_call 205;refine dH _ z HZ.o_ _ _ ?_ _ ?_;· simp);exact HR.o_ _ ((Below.refl _ _).alloc (Nat.le_refl _) _)):P:=h
theorem al4(wh:Int)(w:World)(R:Ending→World→Prop)(hR:∀w',Below w w w'→R (.returned (.bool (bR 1 wh))) w'):
 Calls prog 180 #[.int .i64 1,.int .i64 wh] w R:=by
 obtain ⟨z,hz⟩:=ai (bR 1 wh);rw [hz] at hR;have HZ:Hid ([(3:Int),(16:Int)].contains wh=z):=ab hz;clear hz;have dH:=ti [(3:Int),(16:Int)] 2 rfl (by decide) #[Value.int .i64 3,Value.int .i64 16] rfl 3;exact tj
theorem al5(wh:Int)(w:World)(R:Ending→World→Prop)(hR:∀w',Below w w w'→R (.returned (.bool (bR 2 wh))) w'):
 Calls prog 180 #[.int .i64 2,.int .i64 wh] w R:=by
 obtain ⟨z,hz⟩:=ai (bR 2 wh);rw [hz] at hR;have HZ:Hid ([(3:Int),(16:Int)].contains wh=z):=ab hz;clear hz;have dH:=ti [(3:Int),(16:Int)] 2 rfl (by decide) #[Value.int .i64 3,Value.int .i64 16] rfl 3;exact tj
theorem al6(wh:Int)(w:World)(R:Ending→World→Prop)(hR:∀w',Below w w w'→R (.returned (.bool (bR 3 wh))) w'):
 Calls prog 180 #[.int .i64 3,.int .i64 wh] w R:=by
 obtain ⟨z,hz⟩:=ai (bR 3 wh);rw [hz] at hR;have HZ:Hid ([(3:Int),(16:Int)].contains wh=z):=ab hz;clear hz;have dH:=ti [(3:Int),(16:Int)] 2 rfl (by decide) #[Value.int .i64 3,Value.int .i64 16] rfl 3;exact tj
theorem al7(wh:Int)(w:World)(R:Ending→World→Prop)(hR:∀w',Below w w w'→R (.returned (.bool (bR 8 wh))) w'):
 Calls prog 180 #[.int .i64 8,.int .i64 wh] w R:=by
 obtain ⟨z,hz⟩:=ai (bR 8 wh);rw [hz] at hR;have HZ:Hid ([(3:Int),(16:Int)].contains wh=z):=ab hz;clear hz;have dH:=ti [(3:Int),(16:Int)] 2 rfl (by decide) #[Value.int .i64 3,Value.int .i64 16] rfl 3;exact tj
theorem al8(wh:Int)(w:World)(R:Ending→World→Prop)(hR:∀w',Below w w w'→R (.returned (.bool (bR 9 wh))) w'):
 Calls prog 180 #[.int .i64 9,.int .i64 wh] w R:=by
 obtain ⟨z,hz⟩:=ai (bR 9 wh);rw [hz] at hR;have HZ:Hid ([(3:Int),(16:Int)].contains wh=z):=ab hz;clear hz;have dH:=ti [(3:Int),(16:Int)] 2 rfl (by decide) #[Value.int .i64 3,Value.int .i64 16] rfl 3;exact tj
theorem al9(wh:Int)(w:World)(R:Ending→World→Prop)(hR:∀w',Below w w w'→R (.returned (.bool (bR 11 wh))) w'):
 Calls prog 180 #[.int .i64 11,.int .i64 wh] w R:=by
 obtain ⟨z,hz⟩:=ai (bR 11 wh);rw [hz] at hR;have HZ:Hid ([(3:Int),(8:Int)].contains wh=z):=ab hz;clear hz;have dH:=ti [(3:Int),(8:Int)] 2 rfl (by decide) #[Value.int .i64 3,Value.int .i64 8] rfl 3;exact tj
theorem ama(wh:Int)(w:World)(R:Ending→World→Prop)(hR:∀w',Below w w w'→R (.returned (.bool (bR 17 wh))) w'):
 Calls prog 180 #[.int .i64 17,.int .i64 wh] w R:=by
 obtain ⟨z,hz⟩:=ai (bR 17 wh);rw [hz] at hR;have HZ:Hid ([(1:Int),(2:Int),(14:Int)].contains wh=z):=ab hz;clear hz;have dH:=ti [(1:Int),(2:Int),(14:Int)] 3 rfl (by decide) #[Value.int .i64 1,Value.int .i64 2,Value.int .i64 14] rfl 3;exact tj
theorem qD{P:Prop}(h:P:=by
 have HR:=ab hR;clear hR;go_enter func180,ntmps180;go_wp2;exact HR.o_ _ (Below.refl _ _)):P:=h
theorem amb(wh:Int)(w:World)(R:Ending→World→Prop)(hR:∀w',Below w w w'→R (.returned (.bool (bR 18 wh))) w'):
 Calls prog 180 #[.int .i64 18,.int .i64 wh] w R:=by
 have e:bR 18 wh=(wh==2):=by
  show [(2:Int)].contains wh=_;rw [contains_cons,contains_nil,Bool.or_false]
 rw [e] at hR;exact qD
theorem amc(wh:Int)(w:World)(R:Ending→World→Prop)(hR:∀w',Below w w w'→R (.returned (.bool (bR 19 wh))) w'):
 Calls prog 180 #[.int .i64 19,.int .i64 wh] w R:=by
 have e:bR 19 wh=(wh==2):=by
  show [(2:Int)].contains wh=_;rw [contains_cons,contains_nil,Bool.or_false]
 rw [e] at hR;exact qD
theorem amd(wh:Int)(w:World)(R:Ending→World→Prop)(hR:∀w',Below w w w'→R (.returned (.bool (bR 21 wh))) w'):
 Calls prog 180 #[.int .i64 21,.int .i64 wh] w R:=by
 obtain ⟨z,hz⟩:=ai (bR 21 wh);rw [hz] at hR;have HZ:Hid ([(1:Int),(2:Int),(15:Int)].contains wh=z):=ab hz;clear hz;have dH:=ti [(1:Int),(2:Int),(15:Int)] 3 rfl (by decide) #[Value.int .i64 1,Value.int .i64 2,Value.int .i64 15] rfl 3;exact tj
theorem ame(wh:Int)(w:World)(R:Ending→World→Prop)(hR:∀w',Below w w w'→R (.returned (.bool (bR 22 wh))) w'):
 Calls prog 180 #[.int .i64 22,.int .i64 wh] w R:=by
 obtain ⟨z,hz⟩:=ai (bR 22 wh);rw [hz] at hR;have HZ:Hid ([(1:Int),(2:Int),(15:Int)].contains wh=z):=ab hz;clear hz;have dH:=ti [(1:Int),(2:Int),(15:Int)] 3 rfl (by decide) #[Value.int .i64 1,Value.int .i64 2,Value.int .i64 15] rfl 3;exact tj
theorem amf(wh:Int)(w:World)(R:Ending→World→Prop)(hR:∀w',Below w w w'→R (.returned (.bool (bR 23 wh))) w'):
 Calls prog 180 #[.int .i64 23,.int .i64 wh] w R:=by
 have e:bR 23 wh=(wh==1):=by
  show [(1:Int)].contains wh=_;rw [contains_cons,contains_nil,Bool.or_false]
 rw [e] at hR;exact qD
theorem amg(wh:Int)(w:World)(R:Ending→World→Prop)(hR:∀w',Below w w w'→R (.returned (.bool (bR 24 wh))) w'):
 Calls prog 180 #[.int .i64 24,.int .i64 wh] w R:=by
 have e:bR 24 wh=(wh==16):=by
  show [(16:Int)].contains wh=_;rw [contains_cons,contains_nil,Bool.or_false]
 rw [e] at hR;exact qD
theorem amh(wh:Int)(w:World)(R:Ending→World→Prop)(hR:∀w',Below w w w'→R (.returned (.bool (bR 25 wh))) w'):
 Calls prog 180 #[.int .i64 25,.int .i64 wh] w R:=by
 have e:bR 25 wh=(wh==1):=by
  show [(1:Int)].contains wh=_;rw [contains_cons,contains_nil,Bool.or_false]
 rw [e] at hR;exact qD
theorem ami(wh:Int)(w:World)(R:Ending→World→Prop)(hR:∀w',Below w w w'→R (.returned (.bool (bR 26 wh))) w'):
 Calls prog 180 #[.int .i64 26,.int .i64 wh] w R:=by
 have e:bR 26 wh=(wh==2):=by
  show [(2:Int)].contains wh=_;rw [contains_cons,contains_nil,Bool.or_false]
 rw [e] at hR;exact qD
theorem amj(wh:Int)(w:World)(R:Ending→World→Prop)(hR:∀w',Below w w w'→R (.returned (.bool (bR 28 wh))) w'):
 Calls prog 180 #[.int .i64 28,.int .i64 wh] w R:=by
 obtain ⟨z,hz⟩:=ai (bR 28 wh);rw [hz] at hR;have HZ:Hid ([(2:Int),(14:Int)].contains wh=z):=ab hz;clear hz;have dH:=ti [(2:Int),(14:Int)] 2 rfl (by decide) #[Value.int .i64 2,Value.int .i64 14] rfl 3;exact tj
theorem amk(wh:Int)(w:World)(R:Ending→World→Prop)(hR:∀w',Below w w w'→R (.returned (.bool (bR 31 wh))) w'):
 Calls prog 180 #[.int .i64 31,.int .i64 wh] w R:=by
 obtain ⟨z,hz⟩:=ai (bR 31 wh);rw [hz] at hR;have HZ:Hid ([(2:Int),(4:Int),(5:Int),(6:Int),(7:Int),(9:Int),(11:Int),(14:Int),(15:Int)].contains wh=z):=ab hz;clear hz;have dH:=ti [(2:Int),(4:Int),(5:Int),(6:Int),(7:Int),(9:Int),(11:Int),(14:Int),(15:Int)] 9 rfl (by decide) #[Value.int .i64 2,Value.int .i64 4,Value.int .i64 5,Value.int .i64 6,Value.int .i64 7,Value.int .i64 9,Value.int .i64 11,Value.int .i64 14,Value.int .i64 15] rfl 3;exact tj
theorem aml(wh:Int)(w:World)(R:Ending→World→Prop)(hR:∀w',Below w w w'→R (.returned (.bool (bR 33 wh))) w'):
 Calls prog 180 #[.int .i64 33,.int .i64 wh] w R:=by
 obtain ⟨z,hz⟩:=ai (bR 33 wh);rw [hz] at hR;have HZ:Hid ([(1:Int),(2:Int)].contains wh=z):=ab hz;clear hz;have dH:=ti [(1:Int),(2:Int)] 2 rfl (by decide) #[Value.int .i64 1,Value.int .i64 2] rfl 3;exact tj
theorem amm(wh:Int)(w:World)(R:Ending→World→Prop)(hR:∀w',Below w w w'→R (.returned (.bool (bR 34 wh))) w'):
 Calls prog 180 #[.int .i64 34,.int .i64 wh] w R:=by
 obtain ⟨z,hz⟩:=ai (bR 34 wh);rw [hz] at hR;have HZ:Hid ([(1:Int),(2:Int)].contains wh=z):=ab hz;clear hz;have dH:=ti [(1:Int),(2:Int)] 2 rfl (by decide) #[Value.int .i64 1,Value.int .i64 2] rfl 3;exact tj
theorem amn(wh:Int)(w:World)(R:Ending→World→Prop)(hR:∀w',Below w w w'→R (.returned (.bool (bR 35 wh))) w'):
 Calls prog 180 #[.int .i64 35,.int .i64 wh] w R:=by
 have e:bR 35 wh=(wh==3):=by
  show [(3:Int)].contains wh=_;rw [contains_cons,contains_nil,Bool.or_false]
 rw [e] at hR;exact qD
theorem amo(wh:Int)(w:World)(R:Ending→World→Prop)(hR:∀w',Below w w w'→R (.returned (.bool (bR 36 wh))) w'):
 Calls prog 180 #[.int .i64 36,.int .i64 wh] w R:=by
 have e:bR 36 wh=(wh==2):=by
  show [(2:Int)].contains wh=_;rw [contains_cons,contains_nil,Bool.or_false]
 rw [e] at hR;exact qD
theorem amp(wh:Int)(w:World)(R:Ending→World→Prop)(hR:∀w',Below w w w'→R (.returned (.bool (bR 37 wh))) w'):
 Calls prog 180 #[.int .i64 37,.int .i64 wh] w R:=by
 have e:bR 37 wh=(wh==2):=by
  show [(2:Int)].contains wh=_;rw [contains_cons,contains_nil,Bool.or_false]
 rw [e] at hR;exact qD
theorem amq(wh:Int)(w:World)(R:Ending→World→Prop)(hR:∀w',Below w w w'→R (.returned (.bool (bR 38 wh))) w'):
 Calls prog 180 #[.int .i64 38,.int .i64 wh] w R:=by
 have e:bR 38 wh=decide (1≤wh∧wh≤16∧wh≠12∧wh≠13):=by
  have:bR 38 wh=true↔(1≤wh∧wh≤16∧wh≠12∧wh≠13):=by
   show [(1:Int),2,3,4,5,6,7,8,9,10,11,14,15,16].contains wh=true↔_;simp only [contains_cons,contains_nil,Bool.or_false,Bool.or_eq_true,beq_iff_eq]
   omega
  cases h:bR 38 wh with
  |true=>exact (decide_eq_true (this.1 h)).symm
  |false=>exact (decide_eq_false fun hc=>by rw [this.2 hc] at h;cases h).symm
 rw [e] at hR;clear e;by_cases h1:1≤wh
 ·by_cases h2:wh≤16
  ·by_cases h3:wh=12
   ·subst h3;exact qD
   ·by_cases h4:wh=13
    ·subst h4;clear h3;exact qD
    ·have e:decide (1≤wh∧wh≤16∧wh≠12∧wh≠13)=true:=decide_eq_true ⟨h1,h2,h3,h4⟩;rw [e] at hR;have b4:=ab (show (wh != 13)=true by simp [h4]);have b3:=ab (show (wh != 12)=true by simp [h3]);clear e;have HR:=ab hR;clear hR;go_enter func180,ntmps180;go_wp2;have h9:=HR.o_ _ (Below.refl _ _);rw [show true=(wh != 12&&wh != 13) by simp [h3,h4]] at h9;exact h9
  ·have e:decide (1≤wh∧wh≤16∧wh≠12∧wh≠13)=false:=decide_eq_false fun hc=>h2 hc.2.1;rw [e] at hR;clear e;exact qD
 ·have e:decide (1≤wh∧wh≤16∧wh≠12∧wh≠13)=false:=decide_eq_false fun hc=>h1 hc.1;rw [e] at hR;clear e;exact qD
theorem amr(wh:Int)(w:World)(R:Ending→World→Prop)(hR:∀w',Below w w w'→R (.returned (.bool (bR 39 wh))) w'):
 Calls prog 180 #[.int .i64 39,.int .i64 wh] w R:=by
 obtain ⟨z,hz⟩:=ai (bR 39 wh);rw [hz] at hR;have HZ:Hid ([(1:Int),(2:Int)].contains wh=z):=ab hz;clear hz;have dH:=ti [(1:Int),(2:Int)] 2 rfl (by decide) #[Value.int .i64 1,Value.int .i64 2] rfl 3;exact tj
theorem ams(wh:Int)(w:World)(R:Ending→World→Prop)(hR:∀w',Below w w w'→R (.returned (.bool (bR 40 wh))) w'):
 Calls prog 180 #[.int .i64 40,.int .i64 wh] w R:=by
 have e:bR 40 wh=(wh==2):=by
  show [(2:Int)].contains wh=_;rw [contains_cons,contains_nil,Bool.or_false]
 rw [e] at hR;exact qD
theorem amt(wh:Int)(w:World)(R:Ending→World→Prop)(hR:∀w',Below w w w'→R (.returned (.bool (bR 41 wh))) w'):
 Calls prog 180 #[.int .i64 41,.int .i64 wh] w R:=by
 have e:bR 41 wh=(wh==2):=by
  show [(2:Int)].contains wh=_;rw [contains_cons,contains_nil,Bool.or_false]
 rw [e] at hR;exact qD
theorem amu(wh:Int)(w:World)(R:Ending→World→Prop)(hR:∀w',Below w w w'→R (.returned (.bool (bR 42 wh))) w'):
 Calls prog 180 #[.int .i64 42,.int .i64 wh] w R:=by
 have e:bR 42 wh=(wh==2):=by
  show [(2:Int)].contains wh=_;rw [contains_cons,contains_nil,Bool.or_false]
 rw [e] at hR;exact qD
theorem amv(id wh:Int)(w:World)(R:Ending→World→Prop)(hR:∀w',Below w w w'→R (.returned (.bool (bR id wh))) w'):
 Calls prog 180 #[.int .i64 id,.int .i64 wh] w R:=by
 by_cases h1:id=1
 ·subst h1;exact al4 wh w R hR
 by_cases h2:id=2
 ·subst h2;exact al5 wh w R hR
 by_cases h3:id=3
 ·subst h3;exact al6 wh w R hR
 by_cases h8:id=8
 ·subst h8;exact al7 wh w R hR
 by_cases h9:id=9
 ·subst h9;exact al8 wh w R hR
 by_cases h11:id=11
 ·subst h11;exact al9 wh w R hR
 by_cases h17:id=17
 ·subst h17;exact ama wh w R hR
 by_cases h18:id=18
 ·subst h18;exact amb wh w R hR
 by_cases h19:id=19
 ·subst h19;exact amc wh w R hR
 by_cases h21:id=21
 ·subst h21;exact amd wh w R hR
 by_cases h22:id=22
 ·subst h22;exact ame wh w R hR
 by_cases h23:id=23
 ·subst h23;exact amf wh w R hR
 by_cases h24:id=24
 ·subst h24;exact amg wh w R hR
 by_cases h25:id=25
 ·subst h25;exact amh wh w R hR
 by_cases h26:id=26
 ·subst h26;exact ami wh w R hR
 by_cases h28:id=28
 ·subst h28;exact amj wh w R hR
 by_cases h31:id=31
 ·subst h31;exact amk wh w R hR
 by_cases h33:id=33
 ·subst h33;exact aml wh w R hR
 by_cases h34:id=34
 ·subst h34;exact amm wh w R hR
 by_cases h35:id=35
 ·subst h35;exact amn wh w R hR
 by_cases h36:id=36
 ·subst h36;exact amo wh w R hR
 by_cases h37:id=37
 ·subst h37;exact amp wh w R hR
 by_cases h38:id=38
 ·subst h38;exact amq wh w R hR
 by_cases h39:id=39
 ·subst h39;exact amr wh w R hR
 by_cases h40:id=40
 ·subst h40;exact ams wh w R hR
 by_cases h41:id=41
 ·subst h41;exact amt wh w R hR
 by_cases h42:id=42
 ·subst h42;exact amu wh w R hR
 have e1:tF id=0:=by unfold tF;simp only [h1,h2,h3,h8,h9,h11,h17,h18,h19,h21,h22,h23,h24,h25,h26,h28,h31,h33,h34,h35,h36,h37,h38,h39,h40,h41,h42,or_self,if_false]
 have e:bR id wh=false:=by unfold bR;rw [e1];rfl
 rw [e] at hR;clear e e1;exact qD
theorem FG(id wh:Int)(m:Bool)(hm:bR id wh=m)(w:World)(R:Ending→World→Prop)(hR:∀w',Below w w w'→R (.returned (.bool m)) w'):
 Calls prog 180 #[.int .i64 id,.int .i64 wh] w R:=by
 subst hm;exact amv id wh w R hR
theorem kx(id:Int)(k:Nat)(hk:aO id=k)(w:World)(R:Ending→World→Prop)(hR:R (.returned (.int .i64 k)) w):
 Calls prog 206 #[.int .i64 id] w R:=by
 subst hk;exact al3 id w R hR
theorem amw(n b0 b1 b2 b3:Nat)(h:192≤b0∧b0<224)(hn:n≤1):Lib.decodeN n b0 b1 b2 b3=(65533,1):=by
 unfold Lib.decodeN
 repeat' split
 all_goals first|rfl|(exfalso;omega)
theorem amx(n b0 b1 b2 b3:Nat)(h:224≤b0∧b0<240)(hn:n≤2):Lib.decodeN n b0 b1 b2 b3=(65533,1):=by
 unfold Lib.decodeN
 repeat' split
 all_goals first|rfl|(exfalso;omega)
theorem amy(n b0 b1 b2 b3:Nat)(h:240≤b0∧b0<248)(hn:n≤3):Lib.decodeN n b0 b1 b2 b3=(65533,1):=by
 unfold Lib.decodeN
 repeat' split
 all_goals first|rfl|(exfalso;omega)
theorem aak(n b0 b1 b2 b3:Nat)(h:192≤b0∧b0<224)(hn:b1<128∨192≤b1):Lib.decodeN n b0 b1 b2 b3=(65533,1):=by
 unfold Lib.decodeN
 repeat' split
 all_goals first|rfl|(exfalso;omega)
theorem aal(n b0 b1 b2 b3:Nat)(h:224≤b0∧b0<240)(hn:(b1<128∨192≤b1)∨(b2<128∨192≤b2)):Lib.decodeN n b0 b1 b2 b3=(65533,1):=by
 unfold Lib.decodeN
 repeat' split
 all_goals first|rfl|(exfalso;omega)
theorem aam(n b0 b1 b2 b3:Nat)(h:240≤b0∧b0<248)(hn:(b1<128∨192≤b1)∨(b2<128∨192≤b2)∨(b3<128∨192≤b3)):Lib.decodeN n b0 b1 b2 b3=(65533,1):=by
 unfold Lib.decodeN
 repeat' split
 all_goals first|rfl|(exfalso;omega)
theorem dD(n b0 b1 b2 b3:Nat)(h:128≤b0)(h2:b0<192∨248≤b0)(h3:b0<256):Lib.decodeN n b0 b1 b2 b3=(65533,1):=by
 unfold Lib.decodeN
 repeat' split
 all_goals first|rfl|(exfalso;omega)
def ux(least c:Nat):Prop:=c<least∨1114111<c∨(55296≤c∧c<57344)
theorem Sm{P:Prop}(h:P:=by
 unfold ux Lib.decodeN;refine ⟨fun hb=> ?_,fun hb=> ?_⟩<;>
 ·repeat' split
  all_goals first|rfl|(exfalso;omega)|(congr 1;omega)):P:=h
theorem amz(n b0 b1 b2 b3 c:Nat)(h:192≤b0∧b0<224)(hn:1<n)(h1:128≤b1∧b1<192)(hc:c=(b0 - 192) *64+b1 - 128):
 (ux 128 c→Lib.decodeN n b0 b1 b2 b3=(65533,1))∧(¬ux 128 c→Lib.decodeN n b0 b1 b2 b3=(c,2)):=by
 exact Sm
theorem amA(n b0 b1 b2 b3 c:Nat)(h:224≤b0∧b0<240)(hn:2<n)(h1:128≤b1∧b1<192)(h2:128≤b2∧b2<192)(hc:c=((b0 - 224) *64+b1 - 128) *64+b2 - 128):
 (ux 2048 c→Lib.decodeN n b0 b1 b2 b3=(65533,1))∧(¬ux 2048 c→Lib.decodeN n b0 b1 b2 b3=(c,3)):=by
 exact Sm
theorem amB(n b0 b1 b2 b3 c:Nat)(h:240≤b0∧b0<248)(hn:3<n)(h1:128≤b1∧b1<192)(h2:128≤b2∧b2<192)(h3:128≤b3∧b3<192)(hc:c=(((b0 - 240) *64+b1 - 128) *64+b2 - 128) *64+b3 - 128):
 (ux 65536 c→Lib.decodeN n b0 b1 b2 b3=(65533,1))∧(¬ux 65536 c→Lib.decodeN n b0 b1 b2 b3=(c,4)):=by
 exact Sm
theorem MM(l:List UInt8)(i:Nat)(h:i<l.length):((str l)[i]'(by rw [Ez];exact h)).toNat=(l.getD i 0).toNat:=by
 have e:(str l)[i]'(by rw [Ez];exact h)=l[i]:=rfl;rw [e,List.getD_eq_getElem?_getD,List.getElem?_eq_getElem h]
 rfl
def aan(l:List UInt8)(c k:Nat):Prop:=(k=0∧c=0∧Lib.decodeL l=(65533,1))∨(0<k∧Lib.decodeL l=(c,k)∧¬(c=65533∧k=1))
theorem aao{P:Prop}(h:P:=by
 go_wp2;go_round
 case rel=>exact ⟨c*64+b1 - 128,2,congrArg (Value.int .i64) (by omega),rfl,by omega,.inr (.inl ⟨rfl,by omega,yW,yX⟩)⟩
 case measure=>simp [intOf]):P:=h
theorem aap{P:Prop}(h:P:=by
 rcases ok with ok|ok
 ·go_wp2;exact HR.o_ 0 0 (.inl ⟨rfl,rfl,aal _ _ _ _ _ (by omega) (by omega)⟩)
 ·go_wp2;exact HR.o_ 0 0 (.inl ⟨rfl,rfl,aal _ _ _ _ _ (by omega) (by omega)⟩)):P:=h
theorem Sn{P:Prop}(h:P:=by
 rcases ok with ok|ok
 ·go_wp2;exact HR.o_ 0 0 (.inl ⟨rfl,rfl,aam _ _ _ _ _ (by omega) (by omega)⟩)
 ·go_wp2;exact HR.o_ 0 0 (.inl ⟨rfl,rfl,aam _ _ _ _ _ (by omega) (by omega)⟩)):P:=h
theorem amC(l:List UInt8)(m7:0<l.length)(hl:l.length≤9223372036854775807)(w:World)(R:Ending→World→Prop)
 (hR:∀c k:Nat,aan l c k→R (.returned (.tuple #[.int .i64 c,.int .i64 k])) w):
 Calls prog 158 #[.string (str l)] w R:=by
 have bm:=Ez l;have zq:=Lib.decodeL_N l;have g0:=MM l 0 m7;have g1:=MM l 1;have g2:=MM l 2;have g3:=MM l 3;obtain ⟨b0,aL,k0⟩:∃b,(l.getD 0 0).toNat=b∧b<256:=⟨_,rfl,(l.getD 0 0).toNat_lt⟩
 obtain ⟨b1,aw,k1⟩:∃b,(l.getD 1 0).toNat=b∧b<256:=⟨_,rfl,(l.getD 1 0).toNat_lt⟩
 obtain ⟨b2,ah,k2⟩:∃b,(l.getD 2 0).toNat=b∧b<256:=⟨_,rfl,(l.getD 2 0).toNat_lt⟩
 obtain ⟨b3,an,k3⟩:∃b,(l.getD 3 0).toNat=b∧b<256:=⟨_,rfl,(l.getD 3 0).toNat_lt⟩
 rw [aL] at g0;rw [aw] at g1;rw [ah] at g2;rw [an] at g3;rw [aL,aw,ah,an] at zq;obtain ⟨n,hn⟩:=ai l.length;rw [hn] at bm zq hl;clear aL aw ah an;have HR:Hid (∀c k:Nat,(k=0∧c=0∧Lib.decodeN n b0 b1 b2 b3=(65533,1))∨(0<k∧Lib.decodeN n b0 b1 b2 b3=(c,k)∧¬(c=65533∧k=1))→R (.returned (.tuple #[.int .i64 c,.int .i64 k])) w):=by
  intro c k h;rw [←zq] at h;exact hR c k h
 clear hR zq;by_cases q1:b0<128
 ·clear g1 g2 g3;go_enter func158,ntmps158;go_wp2;exact HR.o_ b0 1 (.inr ⟨by decide,Lib.decodeN_ascii _ _ _ _ _ q1,by omega⟩)
 by_cases q2:b0<192∨248≤b0
 ·clear g1 g2 g3;rcases q2 with q2|q2
  ·go_enter func158,ntmps158;go_wp2;exact HR.o_ 0 0 (.inl ⟨rfl,rfl,dD _ _ _ _ _ (by omega) (.inl q2) k0⟩)
  ·go_enter func158,ntmps158;go_wp2;exact HR.o_ 0 0 (.inl ⟨rfl,rfl,dD _ _ _ _ _ (by omega) (.inr q2) k0⟩)
 by_cases q3:b0<224
 ·by_cases hs:n≤1
  ·clear g1 g2 g3;have pX:(n:Int)≤1:=by omega
   go_enter func158,ntmps158;go_wp2;exact HR.o_ 0 0 (.inl ⟨rfl,rfl,amw _ _ _ _ _ (by omega) hs⟩)
  have g1:=g1 (by omega);clear g2;clear g3;have pX:¬((n:Int)≤1):=by omega
  go_enter func158,ntmps158;go_wp2;go_loop [4,7] (fun x i=>∃c j:Nat,x= .int .i64 c∧i= .int .i64 j∧c<100000000∧((j=1∧c=(b0 - 192))∨(j=2∧c=((b0 - 192) *64+b1 - 128)∧(128≤b1∧b1<192)))) (fun _ i=>2 - (intOf i).toNat)
  case atStart=>exact ⟨b0 - 192,1,congrArg (Value.int .i64) (by omega),rfl,by omega,.inl ⟨rfl,rfl⟩⟩
  case round=>
   obtain ⟨c,j,rfl,rfl,j6,hj⟩:=hrel;rcases hj with ⟨rfl,hc⟩|⟨rfl,hc,m1⟩
   ·by_cases ok:128≤b1∧b1<192
    ·obtain ⟨yW,yX⟩:=ok;go_wp2;go_round
     case rel=>exact ⟨c*64+b1 - 128,2,congrArg (Value.int .i64) (by omega),rfl,by omega,.inr (⟨rfl,by omega,yW,yX⟩)⟩
     case measure=>simp [intOf]
    ·replace ok:b1<128∨192≤b1:=by omega
     rcases ok with ok|ok
     ·go_wp2;exact HR.o_ 0 0 (.inl ⟨rfl,rfl,aak _ _ _ _ _ (by omega) (by omega)⟩)
     ·go_wp2;exact HR.o_ 0 0 (.inl ⟨rfl,rfl,aak _ _ _ _ _ (by omega) (by omega)⟩)
   ·have BW:=amz n b0 b1 b2 b3 c (by omega) (by omega) m1 hc;have HE:=ab BW;clear BW hc;by_cases z1:c<128
    ·go_wp2;exact HR.o_ 0 0 (.inl ⟨rfl,rfl,HE.o_.1 (.inl z1)⟩)
    by_cases z2:1114111<c
    ·go_wp2;exact HR.o_ 0 0 (.inl ⟨rfl,rfl,HE.o_.1 (.inr (.inl z2))⟩)
    by_cases z3:55296≤c
    ·by_cases z4:c<57344
     ·go_wp2;exact HR.o_ 0 0 (.inl ⟨rfl,rfl,HE.o_.1 (.inr (.inr ⟨z3,z4⟩))⟩)
     ·go_wp2;exact HR.o_ c 2 (.inr ⟨by decide,HE.o_.2 (by unfold ux;omega),by omega⟩)
    ·go_wp2;exact HR.o_ c 2 (.inr ⟨by decide,HE.o_.2 (by unfold ux;omega),by omega⟩)
 by_cases q4:b0<240
 ·by_cases hs:n≤2
  ·clear g1 g2 g3;have pX:(n:Int)≤2:=by omega
   go_enter func158,ntmps158;go_wp2;exact HR.o_ 0 0 (.inl ⟨rfl,rfl,amx _ _ _ _ _ (by omega) hs⟩)
  have g1:=g1 (by omega);have g2:=g2 (by omega);clear g3;have pX:¬((n:Int)≤2):=by omega
  go_enter func158,ntmps158;go_wp2;go_loop [4,7] (fun x i=>∃c j:Nat,x= .int .i64 c∧i= .int .i64 j∧c<100000000∧((j=1∧c=(b0 - 224))∨(j=2∧c=((b0 - 224) *64+b1 - 128)∧(128≤b1∧b1<192))∨(j=3∧c=(((b0 - 224) *64+b1 - 128) *64+b2 - 128)∧(128≤b1∧b1<192)∧(128≤b2∧b2<192)))) (fun _ i=>3 - (intOf i).toNat)
  case atStart=>exact ⟨b0 - 224,1,congrArg (Value.int .i64) (by omega),rfl,by omega,.inl ⟨rfl,rfl⟩⟩
  case round=>
   obtain ⟨c,j,rfl,rfl,j6,hj⟩:=hrel;rcases hj with ⟨rfl,hc⟩|⟨rfl,hc,m1⟩|⟨rfl,hc,m1,m2⟩
   ·by_cases ok:128≤b1∧b1<192
    ·obtain ⟨yW,yX⟩:=ok;exact aao
    ·replace ok:b1<128∨192≤b1:=by omega
     exact aap
   ·by_cases ok:128≤b2∧b2<192
    ·obtain ⟨yW,yX⟩:=ok;go_wp2;go_round
     case rel=>exact ⟨c*64+b2 - 128,3,congrArg (Value.int .i64) (by omega),rfl,by omega,.inr (.inr (⟨rfl,by omega,m1,yW,yX⟩))⟩
     case measure=>simp [intOf]
    ·replace ok:b2<128∨192≤b2:=by omega
     exact aap
   ·have BW:=amA n b0 b1 b2 b3 c (by omega) (by omega) m1 m2 hc;have HE:=ab BW;clear BW hc;by_cases z1:c<2048
    ·go_wp2;exact HR.o_ 0 0 (.inl ⟨rfl,rfl,HE.o_.1 (.inl z1)⟩)
    by_cases z2:1114111<c
    ·go_wp2;exact HR.o_ 0 0 (.inl ⟨rfl,rfl,HE.o_.1 (.inr (.inl z2))⟩)
    by_cases z3:55296≤c
    ·by_cases z4:c<57344
     ·go_wp2;exact HR.o_ 0 0 (.inl ⟨rfl,rfl,HE.o_.1 (.inr (.inr ⟨z3,z4⟩))⟩)
     ·go_wp2;exact HR.o_ c 3 (.inr ⟨by decide,HE.o_.2 (by unfold ux;omega),by omega⟩)
    ·go_wp2;exact HR.o_ c 3 (.inr ⟨by decide,HE.o_.2 (by unfold ux;omega),by omega⟩)
 by_cases hs:n≤3
 ·clear g1 g2 g3;have pX:(n:Int)≤3:=by omega
  go_enter func158,ntmps158;go_wp2;exact HR.o_ 0 0 (.inl ⟨rfl,rfl,amy _ _ _ _ _ (by omega) hs⟩)
 have g1:=g1 (by omega);have g2:=g2 (by omega);have g3:=g3 (by omega);have pX:¬((n:Int)≤3):=by omega
 go_enter func158,ntmps158;go_wp2;go_loop [4,7] (fun x i=>∃c j:Nat,x= .int .i64 c∧i= .int .i64 j∧c<100000000∧((j=1∧c=(b0 - 240))∨(j=2∧c=((b0 - 240) *64+b1 - 128)∧(128≤b1∧b1<192))∨(j=3∧c=(((b0 - 240) *64+b1 - 128) *64+b2 - 128)∧(128≤b1∧b1<192)∧(128≤b2∧b2<192))∨(j=4∧c=((((b0 - 240) *64+b1 - 128) *64+b2 - 128) *64+b3 - 128)∧(128≤b1∧b1<192)∧(128≤b2∧b2<192)∧(128≤b3∧b3<192)))) (fun _ i=>4 - (intOf i).toNat)
 case atStart=>exact ⟨b0 - 240,1,congrArg (Value.int .i64) (by omega),rfl,by omega,.inl ⟨rfl,rfl⟩⟩
 case round=>
  obtain ⟨c,j,rfl,rfl,j6,hj⟩:=hrel;rcases hj with ⟨rfl,hc⟩|⟨rfl,hc,m1⟩|⟨rfl,hc,m1,m2⟩|⟨rfl,hc,m1,m2,m3⟩
  ·by_cases ok:128≤b1∧b1<192
   ·obtain ⟨yW,yX⟩:=ok;exact aao
   ·replace ok:b1<128∨192≤b1:=by omega
    exact Sn
  ·by_cases ok:128≤b2∧b2<192
   ·obtain ⟨yW,yX⟩:=ok;go_wp2;go_round
    case rel=>exact ⟨c*64+b2 - 128,3,congrArg (Value.int .i64) (by omega),rfl,by omega,.inr (.inr (.inl ⟨rfl,by omega,m1,yW,yX⟩))⟩
    case measure=>simp [intOf]
   ·replace ok:b2<128∨192≤b2:=by omega
    exact Sn
  ·by_cases ok:128≤b3∧b3<192
   ·obtain ⟨yW,yX⟩:=ok;go_wp2;go_round
    case rel=>exact ⟨c*64+b3 - 128,4,congrArg (Value.int .i64) (by omega),rfl,by omega,.inr (.inr (.inr (⟨rfl,by omega,m1,m2,yW,yX⟩)))⟩
    case measure=>simp [intOf]
   ·replace ok:b3<128∨192≤b3:=by omega
    exact Sn
  ·have BW:=amB n b0 b1 b2 b3 c (by omega) (by omega) m1 m2 m3 hc;have HE:=ab BW;clear BW hc;by_cases z1:c<65536
   ·go_wp2;exact HR.o_ 0 0 (.inl ⟨rfl,rfl,HE.o_.1 (.inl z1)⟩)
   by_cases z2:1114111<c
   ·go_wp2;exact HR.o_ 0 0 (.inl ⟨rfl,rfl,HE.o_.1 (.inr (.inl z2))⟩)
   by_cases z3:55296≤c
   ·by_cases z4:c<57344
    ·go_wp2
     all_goals exact HR.o_ 0 0 (.inl ⟨rfl,rfl,HE.o_.1 (.inr (.inr ⟨z3,z4⟩))⟩)
    ·go_wp2;exact HR.o_ c 4 (.inr ⟨by decide,HE.o_.2 (by unfold ux;omega),by omega⟩)
   ·go_wp2
    all_goals exact HR.o_ c 4 (.inr ⟨by decide,HE.o_.2 (by unfold ux;omega),by omega⟩)
theorem amD(l:List UInt8)(bh:l≠ [])(c k:Nat)(h:aan l c k):dV l=if k=0∨c=0 then false else dV (l.drop k):=by
 unfold dV;rw [Oc l bh,Lib.validD_step l bh];rcases h with ⟨rfl,rfl,hd⟩|⟨h0,hd,hb⟩
 ·rw [hd];simp
 ·rw [hd];simp only;rw [if_neg hb];by_cases hc:c=0
  ·simp [hc]
  ·simp [hc,show k≠0 by omega]
theorem amE(l:List UInt8)(k:Nat):(str l).extract k l.length=str (l.drop k):=by
 apply ByteArray.ext;simp only [ByteArray.data_extract];apply Array.ext';simp only [Array.toList_extract,List.extract_eq_take_drop];exact List.take_of_length_le (by rw [List.length_drop];simp)
theorem Sp(l:List UInt8)(w:World)(hl:l.length≤9223372036854775807)(R:Ending→World→Prop)
 (hR:R (.returned (.bool (dV l))) w):Calls prog 122 #[.string (str l)] w R:=by
 have HR:=ab hR;clear hR;go_enter func122,ntmps122;go_wp2;go_loop [0,3,4] (fun s _ _=>∃m:List UInt8,s= .string (str m)∧m.length≤l.length∧Hid (dV m=dV l)) (fun s _ _=>match s with| .string b=>b.size|_=>0)
 case atStart=>exact ⟨l,rfl,Nat.le_refl _,ab rfl⟩
 case round=>
  obtain ⟨m,rfl,hm,ht⟩:=hrel;by_cases bh:m= []
  ·subst bh;have hT:dV l=true:=by rw [←ht.o_];rfl
   rw [hT] at HR;go_wp2;exact HR.o_
  ·have Sq:m.isEmpty=false:=by cases m with|nil=>exact absurd rfl bh|cons _ _=>rfl
   have bm:=Ez m;have sq:0<m.length:=List.length_pos_iff.2 bh;go_wp2_with (go_at_call 158;go_must (refine amC m sq (by omega) _ _ ?_));intro c k gX;have b7:=amD m bh c k gX;rw [ht.o_] at b7;have f_:k≤m.length:=by
    rcases gX with ⟨rfl,_,_⟩|⟨_,hd,_⟩
    ·omega
    ·have:=Lib.decodeL_le m bh;rw [hd] at this;exact this
   have Mo:k=0→c=0:=by
    rcases gX with ⟨_,h,_⟩|⟨h,_,_⟩
    ·exact fun _=>h
    ·omega
   clear gX;by_cases ef:c=0
   ·rw [if_pos (.inr ef)] at b7;rw [b7] at HR;subst ef;clear b7 ht Mo;by_cases gA:k=0
    ·subst gA;go_wp2;exact HR.o_
    ·have iC:((k:Int)==0)=false:=by rw [beq_eq_false_iff_ne];omega
     go_wp2;exact HR.o_
   ·have gA:k≠0:=fun h=>ef (Mo h);rw [if_neg (by omega)] at b7;have HS:=ab b7.symm;have iC:((k:Int)==0)=false:=by rw [beq_eq_false_iff_ne];omega
    have Yy:((c:Int)==0)=false:=by rw [beq_eq_false_iff_ne];omega
    have hex:=amE m k;clear b7 ht Mo ef;go_wp2;go_round
    case rel=>exact ⟨m.drop k,rfl,by rw [List.length_drop];omega,HS⟩
    case measure=>simp [Ez];omega
theorem FH(v:Value)(l D:List UInt8)(er:Int)(hD:cS l=(D,er))(w:World)(hv:Bs w v l)(R:Ending→World→Prop)
 (hR:∀ad c w',w'.ownsRow w 5 1 (.slice ad D.length c) D.length (bv D)→Below w w w'→R (.returned (.tuple #[.slice ad D.length c,.int .i64 er])) w'):
 Calls prog 67 #[v] w R:=by
 have dO:=hv;obtain ⟨ad,c,rfl,hr,hc,hm,gG⟩:=dO;by_cases wm:65535<l.length
 ·have e:cS l=([],10):=by unfold cS;rw [if_pos wm]
  rw [hD] at e;obtain ⟨rfl,rfl⟩:=Prod.mk.inj e;clear e hD;go_enter func67,ntmps67;go_wp2;exact hR _ _ _ (World.ownsRow_nil _ _ _ _) (Below.refl _ _)
 ·have e:cS l=(aR l.length 2++l,0):=by unfold cS;rw [if_neg wm]
  rw [hD] at e;obtain ⟨e1,rfl⟩:=Prod.mk.inj e;clear e hD;obtain ⟨p,hp⟩:∃p,p=aR l.length 2:=⟨_,rfl⟩
  have oM:p.length=2:=by rw [hp];exact eU _ _
  have nh:Hid (dE l.length 2=p):=by rw [hp];exact ab rfl
  have HF:Hid (p++l=D):=by rw [e1,hp];exact ab rfl
  have EA:D.length=2+l.length:=by rw [e1,List.length_append,eU]
  rw [EA] at hR;clear e1 hp;go_enter func67,ntmps67;go_wp2_with (go_at_call 64;go_must (refine wj l.length (by omega) 2 p nh.o_ _ _ ?_));intro uP c1 w1 bQ aw;have gu:=hr.below aw;clear nh hr;go_wp2_with (at_builtin;go_must (refine j9 (by rfl) (.tmp 10) (.tmp 11) 22 (by rfl) w 5 (.int .u8 0) 1 1 underlying22 Tryz.cJ rfl (by decide) _ _ _ _ rfl bQ _ _ _ _ rfl gu (eX _) gG (by unfold maxLen;omega) (by omega) aw.size ?_));intro fY c3 w3 iH cB;have an:=bC aw cB aw.size bQ;rw [←oK,HF.o_] at iH;clear gu bQ cB aw;go_wp2;exact hR _ _ _ iH an
theorem yY(l D:List UInt8)(er:Int)(hD:b5 l=(D,er))(w:World)(hl:l.length≤140737488355328)(R:Ending→World→Prop)
 (hR:∀ad c w',w'.ownsRow w 5 1 (.slice ad D.length c) D.length (bv D)→Below w w w'→R (.returned (.tuple #[.slice ad D.length c,.int .i64 er])) w'):
 Calls prog 63 #[.string (str l)] w R:=by
 obtain ⟨t,ht⟩:=ai (dV l);have hcv:=fun w=>Lib.run_convert_string_bytes (P:=prog) w 9 22 5 (str l) underlying9 underlying22 underlying5;have bm:(str l).size=l.length:=rfl;cases t with
 |false=>
  have e:b5 l=([],13):=by unfold b5;rw [ht];rfl
  rw [hD] at e;obtain ⟨rfl,rfl⟩:=Prod.mk.inj e;clear e hD hcv;clear bm;go_enter func63,ntmps63;go_wp2_with (go_at_call 122;go_must (refine Sp l _ (by omega) _ ?_));exact hR _ _ _ (World.ownsRow_nil _ _ _ _) (Below.refl _ _)
 |true=>
  have e:cS l=(D,er):=by rw [←hD];unfold b5;rw [ht];rfl
  have HE:=ab e;have HC:=ab hcv;have ah:=TD w 5 (str l);have bX:=TE w 5 l (by omega);have dF:=hcv w;rw [show (str l).size=l.length from rfl] at dF;clear hD e hcv bm;go_enter func63,ntmps63;go_wp2_with (first|(go_at_call 122;go_must (refine Sp l _ (by omega) _ ?_))|(go_at_call 67;go_must (refine FH _ l D er HE.o_ _ bX _ ?_)));intro gL c4 w4 bZ ak;have aC:=aD ah ak ah.size;have ed:=bN (gF:=w.heap.size) bZ ah.size;clear ak bZ bX ah dF;go_wp2;exact hR _ _ _ ed aC
theorem Sr(v:Value)(l D:List UInt8)(u er:Int)(hD:eO l=(D,u,er))(w:World)(hv:Bs w v l)(R:Ending→World→Prop)
 (hR:∀ad c,Bs w (.slice ad D.length c) D→R (.returned (.tuple #[.slice ad D.length c,.int .i64 u,.int .i64 er])) w):
 Calls prog 208 #[v] w R:=by
 have dO:=hv;obtain ⟨ad,c,rfl,hr,hc,hm,gG⟩:=dO;rcases J5 l with ⟨h,e⟩|⟨n,hn,tE,nU,⟨h,e⟩|⟨h,e⟩⟩
 ·rw [hD] at e;simp only [Prod.mk.injEq] at e;obtain ⟨rfl,rfl,rfl⟩:=e;clear hD;go_enter func208,ntmps208;go_wp2;go_ret3;exact hR _ _ ⟨none,0,rfl,Rd.nil _ _ _,by simp,by omega,fun _=>rfl⟩
 ·rw [hD] at e;simp only [Prod.mk.injEq] at e;obtain ⟨rfl,rfl,rfl⟩:=e;clear hD;have hb:=hv.cut (k:=2) nU;have hx:((l.length:Int) - 2<(n:Int)):=by omega
  go_enter func208,ntmps208;go_wp2_with (go_at_call 136;go_must (refine EB _ _ n hn.o_ _ hb _ ?_));go_ret3;exact hR _ _ ⟨none,0,rfl,Rd.nil _ _ _,by simp,by omega,fun _=>rfl⟩
 ·rw [hD] at e;simp only [Prod.mk.injEq] at e;obtain ⟨e1,rfl,rfl⟩:=e;have EA:D.length=n:=by rw [e1,List.length_drop,List.length_take];omega
  have hb:=hv.cut (k:=2) nU;obtain ⟨b,o,rfl,aW⟩:=hr.AA (by omega);clear aW hr;have ah:=hv.UJ (i:=2) (j:=2+n) (by omega) h;rw [show 2+n - 2=n by omega] at ah;rw [←e1] at ah;simp only [Option.map_some,Addr.add,show¬(2=0) by decide,if_false] at ah;clear hD e1;have hx:¬((l.length:Int) - 2<(n:Int)):=by omega
  rw [EA] at hR;by_cases b_:c=2
  ·subst b_;obtain rfl:n=0:=by omega
   have an:Bs w (.slice (some ⟨b,o,none⟩) 0 0) D:=by
    exact UE
   clear ah;go_enter func208,ntmps208;go_wp2_with (go_at_call 136;go_must (refine EB _ _ _ hn.o_ _ hb _ ?_));go_ret3;exact hR _ _ an
  ·go_enter func208,ntmps208;go_wp2_with (go_at_call 136;go_must (refine EB _ _ n hn.o_ _ hb _ ?_));go_ret3;show R (.returned (.tuple #[.slice (some ⟨b,o+2,none⟩) (2+n - 2) (c - 2),.int .i64 (2+(n:Int)),.int .i64 0])) w;rw [show 2+n - 2=n by omega];exact hR _ _ ah
theorem aaq{P:Prop}(h:P:=by
 obtain ⟨rfl,rfl,rfl⟩:=hD;go_enter func207,ntmps207;go_wp2_with (go_at_call 208;go_must (refine Sr _ l d u1 0 HG.o_ _ hv _ ?_));intro uP c1 bX;have hcv:=ru (P:=prog) underlying22 underlying5 underlying9 bX;clear hv bX;go_wp2_with (go_at_call 122;go_must (refine Sp d _ (by omega) _ ?_));go_ret3;exact fZ.o_):P:=h
theorem MN(v:Value)(l S:List UInt8)(u er:Int)(hD:dq l=(S,u,er))(w:World)(hv:Bs w v l)(R:Ending→World→Prop)
 (hR:R (.returned (.tuple #[.string (str S),.int .i64 u,.int .i64 er])) w):
 Calls prog 207 #[v] w R:=by
 have dO:=hv;obtain ⟨ad,c,rfl,hr,hc,hm,gG⟩:=dO;clear hr;obtain ⟨⟨d,u1,e1⟩,hg⟩:∃g,eO l=g:=⟨_,rfl⟩
 have jT:=Od _ _ _ _ hg;have HG:=ab hg;unfold dq at hD;rw [hg] at hD;simp only at hD;clear hg;have fZ:=ab hR;clear hR;by_cases he:e1=0
 ·subst he;rw [if_neg (by simp)] at hD;obtain ⟨t,ht⟩:=ai (dV d);rw [ht] at hD;cases t with
  |false=>
   simp only [Bool.false_eq_true,if_false,Prod.mk.injEq] at hD;exact aaq
  |true=>
   simp only [if_true,Prod.mk.injEq] at hD;exact aaq
 ·rw [if_pos he] at hD;simp only [Prod.mk.injEq] at hD;obtain ⟨rfl,rfl,rfl⟩:=hD;have bh:((e1:Int)==0)=false:=by simpa using he
  go_enter func207,ntmps207;go_wp2_with (go_at_call 208;go_must (refine Sr _ l d u1 e1 HG.o_ _ hv _ ?_));intro uP c1 bX;clear hv bX;go_wp2;go_ret3;exact fZ.o_
open Int (toNat_natCast)
open Nat (zero_add)
variable{B K e:Nat}
theorem Ss{P:Prop}(h:P:=by
 refine bodyPost_ret (np rfl _ _ w 147 (eY id) (0,0) _ _ _ rfl rfl rfl (gq (heap_alloc_new w _)) underlying147 rfl (by kernel_rfl)) rfl ?_;exact HF.o_ _ _ _ _ _ _ _ _ _ (by first|rfl|trivial) rfl (((Below.refl _ _).alloc (Nat.le_refl _) _).alloc (by simp) _)):P:=h
theorem Su{P:Prop}(h:P:=by
 refine bodyPost_ret (np rfl _ _ w 147 (su id (wrap64 (x:Int))) (0,0) _ _ _ rfl rfl rfl (gq (heap_alloc_new w _)) underlying147 rfl (by kernel_rfl)) rfl ?_;exact kH.o_ _ (World.ownsRow_nil _ _ _ _) (((Below.refl _ _).alloc (Nat.le_refl _) _).alloc (by simp) _)):P:=h
theorem amF(id:Int)(hk:aO id=1)(v:Value)(b:List UInt8)(r:Option (Pr×Int))(hr:dL id b=r)(w:World)(hv:Bs w v b)(R:Ending→World→Prop)
 (hR:∀p u d w',r=some (p,u)→w'.ownsRow w 5 1 d p.data.length (bv p.data)→Below w w w'→R (.returned (.tuple #[.agg (bz p d),.int .i64 u,.bool true])) w')
 (hF:∀n s t a m c u q w',r=none→q=false→Below w w w'→R (.returned (.tuple #[.agg #[.int .i64 id,.int .i64 n,.string s,.string t,.slice a m c],.int .i64 u,.bool q])) w'):
 Calls prog 181 #[.int .i64 id,v] w R:=by
 rw [Vb id hk] at hr;have HR:=ab hR;have HF:=ab hF;have HK:=ab hk;have HV:=ab hv;obtain ⟨ba,bc,rfl,_,eV,tG,_⟩:=_root_.id hv;have cb:Hid (∀c1 c2:Array Value,Below w w ((w.alloc (Obj.cells c1 147)).alloc (Obj.cells c2 147))):=ab fun c1 c2=>((Below.refl _ _).alloc (Nat.le_refl _) _).alloc (by simp) _;clear hR hF hk hv;by_cases hs:b.length<1
 ·have pX:(b.length:Int)<1:=by omega
  obtain rfl:r=none:=by rw [←hr,if_pos hs]
  clear hr;go_enter func181,ntmps181;go_wp2_with (go_at_call 206;go_must (refine kx id 1 HK.o_ _ _ ?_));exact Ss
 ·have pX:¬(b.length:Int)<1:=by omega
  have rF:(1:Int)≤(bc:Int):=by omega
  have fg:=(zv b 1 ⟨by omega,by omega⟩ (by omega)).1;obtain ⟨x,hx⟩:=ai (cz (b.take 1));rw [if_neg hs,hx] at hr;rw [hx] at fg;have ew:wrap64 (x:Int)=(x:Int):=by unfold wrap64;omega
  have cw:∀w',w'.ownsRow w 5 1 (.slice none 0 0) 0 (bv [])→Below w w w'→R (.returned (.tuple #[.agg (su id (wrap64 (x:Int))),.int .i64 1,.bool true])) w':=fun w' h1 h2=>by
   rw [ew];exact HR.o_ ⟨id,x,[],[],[]⟩ 1 _ w' hr.symm h1 h2
  have kH:=ab cw;have HX:=ab hx;have hcut:=HV.o_.cut (k:=1) (by omega);have HC:=ab hcut;clear hx hcut hr fg ew cw HR HF;go_enter func181,ntmps181;go_wp2_with (first
   |(go_at_call 206;go_must (refine kx id 1 HK.o_ _ _ ?_))
   |(go_at_call 136;go_must (refine EB _ _ x HX.o_ _ (HC.o_.below (cb.o_ _ _)) _ ?_)))
  exact Su
theorem amG(id:Int)(hk:aO id=2)(v:Value)(b:List UInt8)(r:Option (Pr×Int))(hr:dL id b=r)(w:World)(hv:Bs w v b)(R:Ending→World→Prop)
 (hR:∀p u d w',r=some (p,u)→w'.ownsRow w 5 1 d p.data.length (bv p.data)→Below w w w'→R (.returned (.tuple #[.agg (bz p d),.int .i64 u,.bool true])) w')
 (hF:∀n s t a m c u q w',r=none→q=false→Below w w w'→R (.returned (.tuple #[.agg #[.int .i64 id,.int .i64 n,.string s,.string t,.slice a m c],.int .i64 u,.bool q])) w'):
 Calls prog 181 #[.int .i64 id,v] w R:=by
 rw [Vc id hk] at hr;have HR:=ab hR;have HF:=ab hF;have HK:=ab hk;have HV:=ab hv;obtain ⟨ba,bc,rfl,_,eV,tG,_⟩:=_root_.id hv;have cb:Hid (∀c1 c2:Array Value,Below w w ((w.alloc (Obj.cells c1 147)).alloc (Obj.cells c2 147))):=ab fun c1 c2=>((Below.refl _ _).alloc (Nat.le_refl _) _).alloc (by simp) _;clear hR hF hk hv;by_cases hs:b.length<2
 ·have pX:(b.length:Int)<2:=by omega
  obtain rfl:r=none:=by rw [←hr,if_pos hs]
  clear hr;go_enter func181,ntmps181;go_wp2_with (go_at_call 206;go_must (refine kx id 2 HK.o_ _ _ ?_));exact Ss
 ·have pX:¬(b.length:Int)<2:=by omega
  have rF:(2:Int)≤(bc:Int):=by omega
  have fg:=(zv b 2 ⟨by omega,by omega⟩ (by omega)).1;obtain ⟨x,hx⟩:=ai (cz (b.take 2));rw [if_neg hs,hx] at hr;rw [hx] at fg;have ew:wrap64 (x:Int)=(x:Int):=by unfold wrap64;omega
  have cw:∀w',w'.ownsRow w 5 1 (.slice none 0 0) 0 (bv [])→Below w w w'→R (.returned (.tuple #[.agg (su id (wrap64 (x:Int))),.int .i64 2,.bool true])) w':=fun w' h1 h2=>by
   rw [ew];exact HR.o_ ⟨id,x,[],[],[]⟩ 2 _ w' hr.symm h1 h2
  have kH:=ab cw;have HX:=ab hx;have hcut:=HV.o_.cut (k:=2) (by omega);have HC:=ab hcut;clear hx hcut hr fg ew cw HR HF;go_enter func181,ntmps181;go_wp2_with (first
   |(go_at_call 206;go_must (refine kx id 2 HK.o_ _ _ ?_))
   |(go_at_call 136;go_must (refine EB _ _ x HX.o_ _ (HC.o_.below (cb.o_ _ _)) _ ?_)))
  exact Su
theorem amH(id:Int)(hk:aO id=3)(v:Value)(b:List UInt8)(r:Option (Pr×Int))(hr:dL id b=r)(w:World)(hv:Bs w v b)(R:Ending→World→Prop)
 (hR:∀p u d w',r=some (p,u)→w'.ownsRow w 5 1 d p.data.length (bv p.data)→Below w w w'→R (.returned (.tuple #[.agg (bz p d),.int .i64 u,.bool true])) w')
 (hF:∀n s t a m c u q w',r=none→q=false→Below w w w'→R (.returned (.tuple #[.agg #[.int .i64 id,.int .i64 n,.string s,.string t,.slice a m c],.int .i64 u,.bool q])) w'):
 Calls prog 181 #[.int .i64 id,v] w R:=by
 rw [Vd id hk] at hr;have HR:=ab hR;have HF:=ab hF;have HK:=ab hk;have HV:=ab hv;obtain ⟨ba,bc,rfl,_,eV,tG,_⟩:=_root_.id hv;have cb:Hid (∀c1 c2:Array Value,Below w w ((w.alloc (Obj.cells c1 147)).alloc (Obj.cells c2 147))):=ab fun c1 c2=>((Below.refl _ _).alloc (Nat.le_refl _) _).alloc (by simp) _;clear hR hF hk hv;by_cases hs:b.length<4
 ·have pX:(b.length:Int)<4:=by omega
  obtain rfl:r=none:=by rw [←hr,if_pos hs]
  clear hr;go_enter func181,ntmps181;go_wp2_with (go_at_call 206;go_must (refine kx id 3 HK.o_ _ _ ?_));exact Ss
 ·have pX:¬(b.length:Int)<4:=by omega
  have rF:(4:Int)≤(bc:Int):=by omega
  have fg:=(zv b 4 ⟨by omega,by omega⟩ (by omega)).1;obtain ⟨x,hx⟩:=ai (cz (b.take 4));rw [if_neg hs,hx] at hr;rw [hx] at fg;have ew:wrap64 (x:Int)=(x:Int):=by unfold wrap64;omega
  have cw:∀w',w'.ownsRow w 5 1 (.slice none 0 0) 0 (bv [])→Below w w w'→R (.returned (.tuple #[.agg (su id (wrap64 (x:Int))),.int .i64 4,.bool true])) w':=fun w' h1 h2=>by
   rw [ew];exact HR.o_ ⟨id,x,[],[],[]⟩ 4 _ w' hr.symm h1 h2
  have kH:=ab cw;have HX:=ab hx;have hcut:=HV.o_.cut (k:=4) (by omega);have HC:=ab hcut;clear hx hcut hr fg ew cw HR HF;go_enter func181,ntmps181;go_wp2_with (first
   |(go_at_call 206;go_must (refine kx id 3 HK.o_ _ _ ?_))
   |(go_at_call 136;go_must (refine EB _ _ x HX.o_ _ (HC.o_.below (cb.o_ _ _)) _ ?_)))
  exact Su
theorem amI(id:Int)(hk:aO id=4)(v:Value)(b:List UInt8)(r:Option (Pr×Int))(hr:dL id b=r)(w:World)(hv:Bs w v b)(R:Ending→World→Prop)
 (hR:∀p u d w',r=some (p,u)→w'.ownsRow w 5 1 d p.data.length (bv p.data)→Below w w w'→R (.returned (.tuple #[.agg (bz p d),.int .i64 u,.bool true])) w')
 (hF:∀n s t a m c u q w',r=none→q=false→Below w w w'→R (.returned (.tuple #[.agg #[.int .i64 id,.int .i64 n,.string s,.string t,.slice a m c],.int .i64 u,.bool q])) w'):
 Calls prog 181 #[.int .i64 id,v] w R:=by
 rw [Ve id hk] at hr;have HR:=ab hR;have HF:=ab hF;have HK:=ab hk;have HV:=ab hv;obtain ⟨ba,bc,rfl,_,eV,tG,_⟩:=_root_.id hv;have cb:Hid (∀c1 c2:Array Value,Below w w ((w.alloc (Obj.cells c1 147)).alloc (Obj.cells c2 147))):=ab fun c1 c2=>((Below.refl _ _).alloc (Nat.le_refl _) _).alloc (by simp) _;clear hR hF hk hv;obtain ⟨⟨x,y,z⟩,hg⟩:∃g,dg b=g:=⟨_,rfl⟩
 rw [hg] at hr;simp only at hr;have HG:=ab hg;have fZ:=ab hr;clear hg hr;go_enter func181,ntmps181;go_wp2_with (first
  |(go_at_call 206;go_must (refine kx id 4 HK.o_ _ _ ?_))
  |(go_at_call 179;go_must (refine wB _ b x y z HG.o_ _ (HV.o_.below (cb.o_ _ _)) _ ?_)))
 refine bodyPost_ret (np rfl _ _ w 147 (su id (x:Int)) (0,0) _ _ _ rfl rfl rfl (gq (heap_alloc_new w _)) underlying147 rfl (by kernel_rfl)) rfl ?_;by_cases hz:z=0
 ·subst hz;exact HR.o_ ⟨id,x,[],[],[]⟩ y (.slice none 0 0) _ (by have:=fZ.o_;rw [if_pos rfl] at this;exact this.symm) (World.ownsRow_nil _ _ _ _) (((Below.refl _ _).alloc (Nat.le_refl _) _).alloc (by simp) _)
 ·exact HF.o_ _ _ _ _ _ _ _ _ _ (by have:=fZ.o_;rw [if_neg hz] at this;exact this.symm) (by simp [hz]) (((Below.refl _ _).alloc (Nat.le_refl _) _).alloc (by simp) _)
theorem amJ(id:Int)(hk:aO id=5)(v:Value)(b:List UInt8)(r:Option (Pr×Int))(hr:dL id b=r)(w:World)(hv:Bs w v b)(R:Ending→World→Prop)
 (hR:∀p u d w',r=some (p,u)→w'.ownsRow w 5 1 d p.data.length (bv p.data)→Below w w w'→R (.returned (.tuple #[.agg (bz p d),.int .i64 u,.bool true])) w')
 (hF:∀n s t a m c u q w',r=none→q=false→Below w w w'→R (.returned (.tuple #[.agg #[.int .i64 id,.int .i64 n,.string s,.string t,.slice a m c],.int .i64 u,.bool q])) w'):
 Calls prog 181 #[.int .i64 id,v] w R:=by
 rw [Vf id hk] at hr;have HR:=ab hR;have HF:=ab hF;have HK:=ab hk;have HV:=ab hv;obtain ⟨ba,bc,rfl,_,eV,tG,_⟩:=_root_.id hv;have cb:Hid (∀c1 c2:Array Value,Below w w ((w.alloc (Obj.cells c1 147)).alloc (Obj.cells c2 147))):=ab fun c1 c2=>((Below.refl _ _).alloc (Nat.le_refl _) _).alloc (by simp) _;clear hR hF hk hv;obtain ⟨⟨S,u,z⟩,hg⟩:∃g,dq b=g:=⟨_,rfl⟩
 rw [hg] at hr;simp only at hr;have HG:=ab hg;have fZ:=ab hr;clear hg hr;go_enter func181,ntmps181;go_wp2_with (first
  |(go_at_call 206;go_must (refine kx id 5 HK.o_ _ _ ?_))
  |(go_at_call 207;go_must (refine MN _ b S u z HG.o_ _ (HV.o_.below (cb.o_ _ _)) _ ?_)))
 refine bodyPost_ret (np rfl _ _ w 147 (B7 id S) (0,0) _ _ _ rfl rfl rfl (gq (heap_alloc_new w _)) underlying147 rfl (by kernel_rfl)) rfl ?_;by_cases hz:z=0
 ·subst hz;exact HR.o_ ⟨id,0,S,[],[]⟩ u (.slice none 0 0) _ (by have:=fZ.o_;rw [if_pos rfl] at this;exact this.symm) (World.ownsRow_nil _ _ _ _) (((Below.refl _ _).alloc (Nat.le_refl _) _).alloc (by simp) _)
 ·exact HF.o_ _ _ _ _ _ _ _ _ _ (by have:=fZ.o_;rw [if_neg hz] at this;exact this.symm) (by simp [hz]) (((Below.refl _ _).alloc (Nat.le_refl _) _).alloc (by simp) _)
theorem amK(id:Int)(hk:aO id=7)(v:Value)(b:List UInt8)(r:Option (Pr×Int))(hr:dL id b=r)(w:World)(hv:Bs w v b)(R:Ending→World→Prop)
 (hR:∀p u d w',r=some (p,u)→w'.ownsRow w 5 1 d p.data.length (bv p.data)→Below w w w'→R (.returned (.tuple #[.agg (bz p d),.int .i64 u,.bool true])) w')
 (hF:∀n s t a m c u q w',r=none→q=false→Below w w w'→R (.returned (.tuple #[.agg #[.int .i64 id,.int .i64 n,.string s,.string t,.slice a m c],.int .i64 u,.bool q])) w'):
 Calls prog 181 #[.int .i64 id,v] w R:=by
 rw [Vh id hk] at hr;have HR:=ab hR;have HF:=ab hF;have HK:=ab hk;have HV:=ab hv;obtain ⟨ba,bc,rfl,_,eV,tG,_⟩:=_root_.id hv;have cb:Hid (∀c1 c2:Array Value,Below w w ((w.alloc (Obj.cells c1 147)).alloc (Obj.cells c2 147))):=ab fun c1 c2=>((Below.refl _ _).alloc (Nat.le_refl _) _).alloc (by simp) _;clear hR hF hk hv;obtain ⟨⟨S,u,z⟩,hg⟩:∃g,dq b=g:=⟨_,rfl⟩
 rw [hg] at hr;simp only at hr;have HG:=ab hg;by_cases hz:z=0
 ·subst hz;obtain ⟨t1,t2,t3,_,_⟩:=Cv b S u hg;obtain ⟨j,rfl⟩:∃j:Nat,u=(j:Int):=⟨S.length+2,by omega⟩
  rw [if_pos rfl,toNat_natCast] at hr;obtain ⟨⟨S',u',z'⟩,jL⟩:∃g,dq (b.drop j)=g:=⟨_,rfl⟩
  rw [jL] at hr;simp only at hr;have Oy:=ab jL;have fZ:=ab hr;have hj:j≤b.length:=by omega
  have eE:(j:Int)≤70000:=by omega
  obtain ⟨La,df,bX⟩:=EH HV.o_ hj;have eZ:=ab bX;have hu:z'=0→0≤u'∧u'≤70000:=fun h=>by
   subst h;obtain ⟨q1,q2,_⟩:=Cv _ S' u' jL
   omega
  have HU:=ab hu;clear hg hr jL t1 t2 t3 bX hu;go_enter func181,ntmps181;go_wp2_with (first
   |(go_at_call 206;go_must (refine kx id 7 HK.o_ _ _ ?_))
   |(go_at_call_of 207 (Value.slice ba b.length bc);go_must (refine MN _ b S j 0 HG.o_ _ (HV.o_.below (cb.o_ _ _)) _ ?_))
   |(go_at_call 207;go_must (refine MN _ (b.drop j) S' u' z' Oy.o_ _ (eZ.o_.below (cb.o_ _ _)) _ ?_)))
  refine bodyPost_ret (np rfl _ _ w 147 (Eh id S S') (0,0) _ _ _ rfl rfl rfl (gq (heap_alloc_new w _)) underlying147 rfl (by kernel_rfl)) rfl ?_;by_cases hz:z'=0
  ·subst hz;have uF:=HU.o_ rfl;have ew:wrap64 ((j:Int)+u')=(j:Int)+u':=by unfold wrap64;omega
   rw [ew];exact HR.o_ ⟨id,0,S,S',[]⟩ (j+u') (.slice none 0 0) _ (by have:=fZ.o_;rw [if_pos rfl] at this;exact this.symm) (World.ownsRow_nil _ _ _ _) (((Below.refl _ _).alloc (Nat.le_refl _) _).alloc (by simp) _)
  ·exact HF.o_ _ _ _ _ _ _ _ _ _ (by have:=fZ.o_;rw [if_neg hz] at this;exact this.symm) (by simp [hz]) (((Below.refl _ _).alloc (Nat.le_refl _) _).alloc (by simp) _)
 ·obtain rfl:r=none:=by rw [←hr,if_neg hz]
  have DK:(z != 0)=true:=by simp [hz]
  clear hg hr;go_enter func181,ntmps181;go_wp2_with (first
   |(go_at_call 206;go_must (refine kx id 7 HK.o_ _ _ ?_))
   |(go_at_call_of 207 (Value.slice ba b.length bc);go_must (refine MN _ b S u z HG.o_ _ (HV.o_.below (cb.o_ _ _)) _ ?_)))
  refine bodyPost_ret (np rfl _ _ w 147 (eY id) (0,0) _ _ _ rfl rfl rfl (gq (heap_alloc_new w _)) underlying147 rfl (by kernel_rfl)) rfl ?_;exact HF.o_ _ _ _ _ _ _ _ _ _ (by first|rfl|trivial) (by first|rfl|simp [hz]) (((Below.refl _ _).alloc (Nat.le_refl _) _).alloc (by simp) _)
theorem amL(X:World)(hK:K=X.heap.size)(hB:B≤K):(X.alloc (.cells #[] e)).ownsRow B e 1 (.slice (some ⟨K,0,none⟩) 0 0) 0 (bv []):=by
 subst hK;exact World.ownsRow_made X #[] 0 hB (by unfold maxLen;omega) (by simp)
theorem amM(id:Int)(hk:aO id=6)(v:Value)(b:List UInt8)(r:Option (Pr×Int))(hr:dL id b=r)(w:World)(hv:Bs w v b)(R:Ending→World→Prop)
 (hR:∀p u d w',r=some (p,u)→w'.ownsRow w 5 1 d p.data.length (bv p.data)→Below w w w'→R (.returned (.tuple #[.agg (bz p d),.int .i64 u,.bool true])) w')
 (hF:∀n s t a m c u q w',r=none→q=false→Below w w w'→R (.returned (.tuple #[.agg #[.int .i64 id,.int .i64 n,.string s,.string t,.slice a m c],.int .i64 u,.bool q])) w'):
 Calls prog 181 #[.int .i64 id,v] w R:=by
 rw [Vg id hk] at hr;have HR:=ab hR;have HF:=ab hF;have HK:=ab hk;have HV:=ab hv;obtain ⟨ba,bc,rfl,_,eV,tG,_⟩:=_root_.id hv;have cb:Hid (∀c1 c2:Array Value,Below w w ((w.alloc (Obj.cells c1 147)).alloc (Obj.cells c2 147))):=ab fun c1 c2=>((Below.refl _ _).alloc (Nat.le_refl _) _).alloc (by simp) _;clear hR hF hk hv;obtain ⟨⟨S,u,z⟩,hg⟩:∃g,eO b=g:=⟨_,rfl⟩
 have arw:=Od b S u z hg;rw [hg] at hr;simp only at hr;have HG:=ab hg;have fZ:=ab hr;obtain ⟨X2,I2⟩:=ai ((w.alloc (Obj.cells hZ 147)).alloc (Obj.cells (eY id) 147));have si:Below w w X2:=by rw [←I2];exact cb.o_ _ _
 have n0:X2.heap[w.heap.size]? =some (Obj.cells hZ 147):=by rw [←I2];exact gq (heap_alloc_new w _)
 have n1:X2.heap[w.heap.size+1]? =some (Obj.cells (eY id) 147):=by
  rw [←I2];have:=heap_alloc_new (w.alloc (Obj.cells hZ 147)) (Obj.cells (eY id) 147);rw [show (w.alloc (Obj.cells hZ 147)).heap.size=w.heap.size+1 by simp] at this;exact this
 have N0:=ab n0;have N1:=ab n1;have g_:=ab I2;clear hg hr n0 n1 I2;go_enter func181,ntmps181;go_wp2_with fail;rw [g_.o_];clear g_;go_wp2_with (first
  |(go_at_call 206;go_must (refine kx id 6 HK.o_ _ _ ?_))
  |(go_at_call 208;go_must (refine Sr _ b S u z HG.o_ _ (HV.o_.below si) _ ?_);intro ga gc JF;have rD:=amL (B:=X2.heap.size) (e:=5) X2 rfl (Nat.le_refl _);have sJ:Below X2 X2 (X2.alloc (Obj.cells #[] 5)):=(Below.refl X2 X2).alloc (Nat.le_refl _) _;obtain ⟨s1,s2,se,ly,_,_,Am⟩:=JF.below sJ;simp only [Value.slice.injEq] at se;obtain ⟨rfl,-,rfl⟩:=se;clear JF)
  |(at_builtin;go_must (refine j9 (by rfl) (.tmp 69) (.tmp 70) 22 (by rfl) X2 5 (.int .u8 0) 1 1 underlying22 Tryz.cJ rfl (by decide) _ _ _ _ rfl rD _ _ _ _ rfl ly (eX _) Am (by unfold maxLen;omega) (by omega) (by simp) ?_);intro An c7 w7 oI iu;rw [zero_add] at oI;have Ao:=bC sJ iu (by simp) rD;have m0:=bT N0.o_ Ao;have m1:=bT N1.o_ Ao;obtain ⟨fC,fD,fE,fF,fG,fH,fI,fJ,fK,fL⟩:=c5 m0;obtain ⟨oV,oW,oX,oY,oZ,pd,pf,pg,ph,pj⟩:=c5 m1;have M0:=ab m0;have M1:=ab m1;have fN:=aD si Ao si.size;have mx:=ab (bN (gF:=w.heap.size) oI si.size);clear rD ly Am iu sJ oI Ao m0 m1 N0 N1))
 have p1:=heap_setCell_same _ _ 4 _ _ (.slice An S.length c7) M1.o_;have p0:(w7.setCell ⟨w.heap.size+1,4,none⟩ (.slice An S.length c7)).heap[w.heap.size]? =some (Obj.cells hZ 147):=by
  rw [heap_setCell_other _ _ _ _ (by simp)];exact M0.o_
 refine bodyPost_ret (np rfl _ _ w 147 (Eg id An S c7) (0,0) _ _ _ rfl rfl rfl (k_ p0 rfl _ _ _ _ _) underlying147 rfl (by kernel_rfl)) rfl ?_;by_cases hz:z=0
 ·subst hz;refine HR.o_ ⟨id,0,[],[],S⟩ u (.slice An S.length c7) _ (by have:=fZ.o_;rw [if_pos rfl] at this;exact this.symm) (Cx p0 (by decide) _ _ _ _ _ _ _ _ _ (eF.tq M1.o_ (by decide) _ _ _ _ ?_)) (gB (fN.setCell (by show w.heap.size≤w.heap.size+1;omega) _) (Nat.le_refl _) _ _ _ _ _);have:=mx.o_
  simpa [bv] using this
 ·exact HF.o_ _ _ _ _ _ _ _ _ _ (by have:=fZ.o_;rw [if_neg hz] at this;exact this.symm) (by simp [hz]) (gB (fN.setCell (by show w.heap.size≤w.heap.size+1;omega) _) (Nat.le_refl _) _ _ _ _ _)
theorem aar(id:Int)(hk:aO id≠0)(v:Value)(b:List UInt8)(r:Option (Pr×Int))(hr:dL id b=r)(w:World)(hv:Bs w v b)(R:Ending→World→Prop)
 (hR:∀p u d w',r=some (p,u)→w'.ownsRow w 5 1 d p.data.length (bv p.data)→Below w w w'→R (.returned (.tuple #[.agg (bz p d),.int .i64 u,.bool true])) w')
 (hF:∀n s t a m c u q w',r=none→q=false→Below w w w'→R (.returned (.tuple #[.agg #[.int .i64 id,.int .i64 n,.string s,.string t,.slice a m c],.int .i64 u,.bool q])) w'):
 Calls prog 181 #[.int .i64 id,v] w R:=by
 rcases Gd id with h|h|h|h|h|h|h|h
 ·exact absurd h hk
 ·exact amF id h v b r hr w hv R hR hF
 ·exact amG id h v b r hr w hv R hR hF
 ·exact amH id h v b r hr w hv R hR hF
 ·exact amI id h v b r hr w hv R hR hF
 ·exact amJ id h v b r hr w hv R hR hF
 ·exact amM id h v b r hr w hv R hR hF
 ·exact amK id h v b r hr w hv R hR hF
end Go.Proofs.YtgimbocoamnkjaaGreatDoor
