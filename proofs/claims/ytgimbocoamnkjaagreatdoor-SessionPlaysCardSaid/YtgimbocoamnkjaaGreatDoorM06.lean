/- A part of the proof of SessionPlays, printed small; no conditions of its own. -/
import Derived.Test.YtgimbocoamnkjaaGreatDoorM05
set_option maxRecDepth 100000
set_option maxHeartbeats 16000000
namespace Go.Proofs.YtgimbocoamnkjaaGreatDoor
open _root_.Go.Proofs.Tryz
open Go.RowKit
theorem n_(w:World)(o:Obj)(t:Nat)(k pl:Value):((w.alloc (.cells #[k,pl] t)).alloc o).heap[w.heap.size]? =some (.cells #[k,pl] t (0,0))∧Below w w ((w.alloc (.cells #[k,pl] t)).alloc o):=
 ⟨gq (heap_alloc_new w _),((Below.refl _ _).alloc (Nat.le_refl _) _).alloc (by simp) _⟩
theorem adN(w:World)(t:Nat)(k pl:Value):(w.alloc (.cells #[k,pl] t)).heap[w.heap.size]? =some (.cells #[k,pl] t (0,0))∧Below w w (w.alloc (.cells #[k,pl] t)):=
 ⟨heap_alloc_new w _,(Below.refl _ _).alloc (Nat.le_refl _) _⟩
theorem adO(w:World)(R:Ending→World→Prop)(hR:∀w',Below w w w'→R (.returned (.agg #[.int .i64 1,.int .i64 (65544)])) w'):
 Calls prog 210 #[.int .i64 1] w R:=by
 have HR:=ab hR;clear hR;go_enter func210,ntmps210;have dH:=nZ [3,16] 65544 (by decide+kernel) (by decide) 2 rfl (by decide) #[Value.int .i64 3,Value.int .i64 16] rfl 3;go_wp2_with (go_at_call 223;refine dH _ _ ?_ _ ?_;· simp);have he:=n_ w (Obj.cells #[Value.int .i64 3,Value.int .i64 16] 3) 252 (Value.int .i64 1) (Value.int .i64 (65544));refine bodyPost_ret (results_cell_row rfl _ _ w 252 #[Value.int .i64 1,Value.int .i64 (65544)] (0,0) _ rfl he.1 underlying252 rfl (by kernel_rfl)) rfl ?_;exact HR.o_ _ he.2
theorem adP(w:World)(R:Ending→World→Prop)(hR:∀w',Below w w w'→R (.returned (.agg #[.int .i64 3,.int .i64 (65544)])) w'):
 Calls prog 210 #[.int .i64 2] w R:=by
 have HR:=ab hR;clear hR;go_enter func210,ntmps210;have dH:=nZ [3,16] 65544 (by decide+kernel) (by decide) 2 rfl (by decide) #[Value.int .i64 3,Value.int .i64 16] rfl 3;go_wp2_with (go_at_call 223;refine dH _ _ ?_ _ ?_;· simp);have he:=n_ w (Obj.cells #[Value.int .i64 3,Value.int .i64 16] 3) 252 (Value.int .i64 3) (Value.int .i64 (65544));refine bodyPost_ret (results_cell_row rfl _ _ w 252 #[Value.int .i64 3,Value.int .i64 (65544)] (0,0) _ rfl he.1 underlying252 rfl (by kernel_rfl)) rfl ?_;exact HR.o_ _ he.2
theorem U4{P:Prop}(h:P:=by
 have HR:=ab hR;clear hR;go_enter func210,ntmps210;have dH:=nZ [3,16] 65544 (by decide+kernel) (by decide) 2 rfl (by decide) #[Value.int .i64 3,Value.int .i64 16] rfl 3;go_wp2_with (go_at_call 223;refine dH _ _ ?_ _ ?_;· simp);have he:=n_ w (Obj.cells #[Value.int .i64 3,Value.int .i64 16] 3) 252 (Value.int .i64 5) (Value.int .i64 (65544));refine bodyPost_ret (results_cell_row rfl _ _ w 252 #[Value.int .i64 5,Value.int .i64 (65544)] (0,0) _ rfl he.1 underlying252 rfl (by kernel_rfl)) rfl ?_;exact HR.o_ _ he.2):P:=h
theorem adQ(w:World)(R:Ending→World→Prop)(hR:∀w',Below w w w'→R (.returned (.agg #[.int .i64 5,.int .i64 (65544)])) w'):
 Calls prog 210 #[.int .i64 3] w R:=by
 exact U4
theorem adR(w:World)(R:Ending→World→Prop)(hR:∀w',Below w w w'→R (.returned (.agg #[.int .i64 5,.int .i64 (65544)])) w'):
 Calls prog 210 #[.int .i64 8] w R:=by
 exact U4
theorem adS(w:World)(R:Ending→World→Prop)(hR:∀w',Below w w w'→R (.returned (.agg #[.int .i64 6,.int .i64 (65544)])) w'):
 Calls prog 210 #[.int .i64 9] w R:=by
 have HR:=ab hR;clear hR;go_enter func210,ntmps210;have dH:=nZ [3,16] 65544 (by decide+kernel) (by decide) 2 rfl (by decide) #[Value.int .i64 3,Value.int .i64 16] rfl 3;go_wp2_with (go_at_call 223;refine dH _ _ ?_ _ ?_;· simp);have he:=n_ w (Obj.cells #[Value.int .i64 3,Value.int .i64 16] 3) 252 (Value.int .i64 6) (Value.int .i64 (65544));refine bodyPost_ret (results_cell_row rfl _ _ w 252 #[Value.int .i64 6,Value.int .i64 (65544)] (0,0) _ rfl he.1 underlying252 rfl (by kernel_rfl)) rfl ?_;exact HR.o_ _ he.2
theorem adT(w:World)(R:Ending→World→Prop)(hR:∀w',Below w w w'→R (.returned (.agg #[.int .i64 4,.int .i64 (264)])) w'):
 Calls prog 210 #[.int .i64 11] w R:=by
 have HR:=ab hR;clear hR;go_enter func210,ntmps210;have dH:=nZ [3,8] 264 (by decide+kernel) (by decide) 2 rfl (by decide) #[Value.int .i64 3,Value.int .i64 8] rfl 3;go_wp2_with (go_at_call 223;refine dH _ _ ?_ _ ?_;· simp);have he:=n_ w (Obj.cells #[Value.int .i64 3,Value.int .i64 8] 3) 252 (Value.int .i64 4) (Value.int .i64 (264));refine bodyPost_ret (results_cell_row rfl _ _ w 252 #[Value.int .i64 4,Value.int .i64 (264)] (0,0) _ rfl he.1 underlying252 rfl (by kernel_rfl)) rfl ?_;exact HR.o_ _ he.2
theorem adU(w:World)(R:Ending→World→Prop)(hR:∀w',Below w w w'→R (.returned (.agg #[.int .i64 3,.int .i64 (16390)])) w'):
 Calls prog 210 #[.int .i64 17] w R:=by
 have HR:=ab hR;clear hR;go_enter func210,ntmps210;have dH:=nZ [1,2,14] 16390 (by decide+kernel) (by decide) 3 rfl (by decide) #[Value.int .i64 1,Value.int .i64 2,Value.int .i64 14] rfl 3;go_wp2_with (go_at_call 223;refine dH _ _ ?_ _ ?_;· simp);have he:=n_ w (Obj.cells #[Value.int .i64 1,Value.int .i64 2,Value.int .i64 14] 3) 252 (Value.int .i64 3) (Value.int .i64 (16390));refine bodyPost_ret (results_cell_row rfl _ _ w 252 #[Value.int .i64 3,Value.int .i64 (16390)] (0,0) _ rfl he.1 underlying252 rfl (by kernel_rfl)) rfl ?_;exact HR.o_ _ he.2
theorem U5{P:Prop}(h:P:=by
 have HR:=ab hR;clear hR;go_enter func210,ntmps210;have dH:=nZ [2] 4 (by decide+kernel) (by decide) 1 rfl (by decide) #[Value.int .i64 2] rfl 3;go_wp2_with (go_at_call 223;refine dH _ _ ?_ _ ?_;· simp);have he:=n_ w (Obj.cells #[Value.int .i64 2] 3) 252 (Value.int .i64 5) (Value.int .i64 (4));refine bodyPost_ret (results_cell_row rfl _ _ w 252 #[Value.int .i64 5,Value.int .i64 (4)] (0,0) _ rfl he.1 underlying252 rfl (by kernel_rfl)) rfl ?_;exact HR.o_ _ he.2):P:=h
theorem adV(w:World)(R:Ending→World→Prop)(hR:∀w',Below w w w'→R (.returned (.agg #[.int .i64 5,.int .i64 (4)])) w'):
 Calls prog 210 #[.int .i64 18] w R:=by
 exact U5
theorem adW(w:World)(R:Ending→World→Prop)(hR:∀w',Below w w w'→R (.returned (.agg #[.int .i64 5,.int .i64 (4)])) w'):
 Calls prog 210 #[.int .i64 26] w R:=by
 exact U5
theorem adX(w:World)(R:Ending→World→Prop)(hR:∀w',Below w w w'→R (.returned (.agg #[.int .i64 2,.int .i64 (4)])) w'):
 Calls prog 210 #[.int .i64 19] w R:=by
 have HR:=ab hR;clear hR;go_enter func210,ntmps210;have dH:=nZ [2] 4 (by decide+kernel) (by decide) 1 rfl (by decide) #[Value.int .i64 2] rfl 3;go_wp2_with (go_at_call 223;refine dH _ _ ?_ _ ?_;· simp);have he:=n_ w (Obj.cells #[Value.int .i64 2] 3) 252 (Value.int .i64 2) (Value.int .i64 (4));refine bodyPost_ret (results_cell_row rfl _ _ w 252 #[Value.int .i64 2,Value.int .i64 (4)] (0,0) _ rfl he.1 underlying252 rfl (by kernel_rfl)) rfl ?_;exact HR.o_ _ he.2
theorem adY(w:World)(R:Ending→World→Prop)(hR:∀w',Below w w w'→R (.returned (.agg #[.int .i64 5,.int .i64 (32774)])) w'):
 Calls prog 210 #[.int .i64 21] w R:=by
 have HR:=ab hR;clear hR;go_enter func210,ntmps210;have dH:=nZ [1,2,15] 32774 (by decide+kernel) (by decide) 3 rfl (by decide) #[Value.int .i64 1,Value.int .i64 2,Value.int .i64 15] rfl 3;go_wp2_with (go_at_call 223;refine dH _ _ ?_ _ ?_;· simp);have he:=n_ w (Obj.cells #[Value.int .i64 1,Value.int .i64 2,Value.int .i64 15] 3) 252 (Value.int .i64 5) (Value.int .i64 (32774));refine bodyPost_ret (results_cell_row rfl _ _ w 252 #[Value.int .i64 5,Value.int .i64 (32774)] (0,0) _ rfl he.1 underlying252 rfl (by kernel_rfl)) rfl ?_;exact HR.o_ _ he.2
theorem adZ(w:World)(R:Ending→World→Prop)(hR:∀w',Below w w w'→R (.returned (.agg #[.int .i64 6,.int .i64 (32774)])) w'):
 Calls prog 210 #[.int .i64 22] w R:=by
 have HR:=ab hR;clear hR;go_enter func210,ntmps210;have dH:=nZ [1,2,15] 32774 (by decide+kernel) (by decide) 3 rfl (by decide) #[Value.int .i64 1,Value.int .i64 2,Value.int .i64 15] rfl 3;go_wp2_with (go_at_call 223;refine dH _ _ ?_ _ ?_;· simp);have he:=n_ w (Obj.cells #[Value.int .i64 1,Value.int .i64 2,Value.int .i64 15] 3) 252 (Value.int .i64 6) (Value.int .i64 (32774));refine bodyPost_ret (results_cell_row rfl _ _ w 252 #[Value.int .i64 6,Value.int .i64 (32774)] (0,0) _ rfl he.1 underlying252 rfl (by kernel_rfl)) rfl ?_;exact HR.o_ _ he.2
theorem U6{P:Prop}(h:P:=by
 have HR:=ab hR;clear hR;go_enter func210,ntmps210;have dH:=nZ [1] 2 (by decide+kernel) (by decide) 1 rfl (by decide) #[Value.int .i64 1] rfl 3;go_wp2_with (go_at_call 223;refine dH _ _ ?_ _ ?_;· simp);have he:=n_ w (Obj.cells #[Value.int .i64 1] 3) 252 (Value.int .i64 1) (Value.int .i64 (2));refine bodyPost_ret (results_cell_row rfl _ _ w 252 #[Value.int .i64 1,Value.int .i64 (2)] (0,0) _ rfl he.1 underlying252 rfl (by kernel_rfl)) rfl ?_;exact HR.o_ _ he.2):P:=h
theorem ad0(w:World)(R:Ending→World→Prop)(hR:∀w',Below w w w'→R (.returned (.agg #[.int .i64 1,.int .i64 (2)])) w'):
 Calls prog 210 #[.int .i64 23] w R:=by
 exact U6
theorem ad1(w:World)(R:Ending→World→Prop)(hR:∀w',Below w w w'→R (.returned (.agg #[.int .i64 1,.int .i64 (2)])) w'):
 Calls prog 210 #[.int .i64 25] w R:=by
 exact U6
theorem ad2(w:World)(R:Ending→World→Prop)(hR:∀w',Below w w w'→R (.returned (.agg #[.int .i64 3,.int .i64 (65536)])) w'):
 Calls prog 210 #[.int .i64 24] w R:=by
 have HR:=ab hR;clear hR;go_enter func210,ntmps210;have dH:=nZ [16] 65536 (by decide+kernel) (by decide) 1 rfl (by decide) #[Value.int .i64 16] rfl 3;go_wp2_with (go_at_call 223;refine dH _ _ ?_ _ ?_;· simp);have he:=n_ w (Obj.cells #[Value.int .i64 16] 3) 252 (Value.int .i64 3) (Value.int .i64 (65536));refine bodyPost_ret (results_cell_row rfl _ _ w 252 #[Value.int .i64 3,Value.int .i64 (65536)] (0,0) _ rfl he.1 underlying252 rfl (by kernel_rfl)) rfl ?_;exact HR.o_ _ he.2
theorem ad3(w:World)(R:Ending→World→Prop)(hR:∀w',Below w w w'→R (.returned (.agg #[.int .i64 5,.int .i64 (16388)])) w'):
 Calls prog 210 #[.int .i64 28] w R:=by
 have HR:=ab hR;clear hR;go_enter func210,ntmps210;have dH:=nZ [2,14] 16388 (by decide+kernel) (by decide) 2 rfl (by decide) #[Value.int .i64 2,Value.int .i64 14] rfl 3;go_wp2_with (go_at_call 223;refine dH _ _ ?_ _ ?_;· simp);have he:=n_ w (Obj.cells #[Value.int .i64 2,Value.int .i64 14] 3) 252 (Value.int .i64 5) (Value.int .i64 (16388));refine bodyPost_ret (results_cell_row rfl _ _ w 252 #[Value.int .i64 5,Value.int .i64 (16388)] (0,0) _ rfl he.1 underlying252 rfl (by kernel_rfl)) rfl ?_;exact HR.o_ _ he.2
theorem ad4(w:World)(R:Ending→World→Prop)(hR:∀w',Below w w w'→R (.returned (.agg #[.int .i64 5,.int .i64 (51956)])) w'):
 Calls prog 210 #[.int .i64 31] w R:=by
 have HR:=ab hR;clear hR;go_enter func210,ntmps210;have dH:=nZ [2,4,5,6,7,9,11,14,15] 51956 (by decide+kernel) (by decide) 9 rfl (by decide) #[Value.int .i64 2,Value.int .i64 4,Value.int .i64 5,Value.int .i64 6,Value.int .i64 7,Value.int .i64 9,Value.int .i64 11,Value.int .i64 14,Value.int .i64 15] rfl 3;go_wp2_with (go_at_call 223;refine dH _ _ ?_ _ ?_;· simp);have he:=n_ w (Obj.cells #[Value.int .i64 2,Value.int .i64 4,Value.int .i64 5,Value.int .i64 6,Value.int .i64 7,Value.int .i64 9,Value.int .i64 11,Value.int .i64 14,Value.int .i64 15] 3) 252 (Value.int .i64 5) (Value.int .i64 (51956));refine bodyPost_ret (results_cell_row rfl _ _ w 252 #[Value.int .i64 5,Value.int .i64 (51956)] (0,0) _ rfl he.1 underlying252 rfl (by kernel_rfl)) rfl ?_;exact HR.o_ _ he.2
theorem U7{P:Prop}(h:P:=by
 have HR:=ab hR;clear hR;go_enter func210,ntmps210;have dH:=nZ [1,2] 6 (by decide+kernel) (by decide) 2 rfl (by decide) #[Value.int .i64 1,Value.int .i64 2] rfl 3;go_wp2_with (go_at_call 223;refine dH _ _ ?_ _ ?_;· simp);have he:=n_ w (Obj.cells #[Value.int .i64 1,Value.int .i64 2] 3) 252 (Value.int .i64 2) (Value.int .i64 (6));refine bodyPost_ret (results_cell_row rfl _ _ w 252 #[Value.int .i64 2,Value.int .i64 (6)] (0,0) _ rfl he.1 underlying252 rfl (by kernel_rfl)) rfl ?_;exact HR.o_ _ he.2):P:=h
theorem ad5(w:World)(R:Ending→World→Prop)(hR:∀w',Below w w w'→R (.returned (.agg #[.int .i64 2,.int .i64 (6)])) w'):
 Calls prog 210 #[.int .i64 33] w R:=by
 exact U7
theorem ad6(w:World)(R:Ending→World→Prop)(hR:∀w',Below w w w'→R (.returned (.agg #[.int .i64 2,.int .i64 (6)])) w'):
 Calls prog 210 #[.int .i64 34] w R:=by
 exact U7
theorem ad7(w:World)(R:Ending→World→Prop)(hR:∀w',Below w w w'→R (.returned (.agg #[.int .i64 2,.int .i64 (8)])) w'):
 Calls prog 210 #[.int .i64 35] w R:=by
 have HR:=ab hR;clear hR;go_enter func210,ntmps210;have dH:=nZ [3] 8 (by decide+kernel) (by decide) 1 rfl (by decide) #[Value.int .i64 3] rfl 3;go_wp2_with (go_at_call 223;refine dH _ _ ?_ _ ?_;· simp);have he:=n_ w (Obj.cells #[Value.int .i64 3] 3) 252 (Value.int .i64 2) (Value.int .i64 (8));refine bodyPost_ret (results_cell_row rfl _ _ w 252 #[Value.int .i64 2,Value.int .i64 (8)] (0,0) _ rfl he.1 underlying252 rfl (by kernel_rfl)) rfl ?_;exact HR.o_ _ he.2
theorem ad8(w:World)(R:Ending→World→Prop)(hR:∀w',Below w w w'→R (.returned (.agg #[.int .i64 3,.int .i64 (6)])) w'):
 Calls prog 210 #[.int .i64 39] w R:=by
 have HR:=ab hR;clear hR;go_enter func210,ntmps210;have dH:=nZ [1,2] 6 (by decide+kernel) (by decide) 2 rfl (by decide) #[Value.int .i64 1,Value.int .i64 2] rfl 3;go_wp2_with (go_at_call 223;refine dH _ _ ?_ _ ?_;· simp);have he:=n_ w (Obj.cells #[Value.int .i64 1,Value.int .i64 2] 3) 252 (Value.int .i64 3) (Value.int .i64 (6));refine bodyPost_ret (results_cell_row rfl _ _ w 252 #[Value.int .i64 3,Value.int .i64 (6)] (0,0) _ rfl he.1 underlying252 rfl (by kernel_rfl)) rfl ?_;exact HR.o_ _ he.2
theorem Gc{P:Prop}(h:P:=by
 have HR:=ab hR;clear hR;go_enter func210,ntmps210;have dH:=nZ [2] 4 (by decide+kernel) (by decide) 1 rfl (by decide) #[Value.int .i64 2] rfl 3;go_wp2_with (go_at_call 223;refine dH _ _ ?_ _ ?_;· simp);have he:=n_ w (Obj.cells #[Value.int .i64 2] 3) 252 (Value.int .i64 1) (Value.int .i64 (4));refine bodyPost_ret (results_cell_row rfl _ _ w 252 #[Value.int .i64 1,Value.int .i64 (4)] (0,0) _ rfl he.1 underlying252 rfl (by kernel_rfl)) rfl ?_;exact HR.o_ _ he.2):P:=h
theorem ad9(w:World)(R:Ending→World→Prop)(hR:∀w',Below w w w'→R (.returned (.agg #[.int .i64 1,.int .i64 (4)])) w'):
 Calls prog 210 #[.int .i64 36] w R:=by
 exact Gc
theorem aea(w:World)(R:Ending→World→Prop)(hR:∀w',Below w w w'→R (.returned (.agg #[.int .i64 1,.int .i64 (4)])) w'):
 Calls prog 210 #[.int .i64 37] w R:=by
 exact Gc
theorem aeb(w:World)(R:Ending→World→Prop)(hR:∀w',Below w w w'→R (.returned (.agg #[.int .i64 1,.int .i64 (4)])) w'):
 Calls prog 210 #[.int .i64 40] w R:=by
 exact Gc
theorem aec(w:World)(R:Ending→World→Prop)(hR:∀w',Below w w w'→R (.returned (.agg #[.int .i64 1,.int .i64 (4)])) w'):
 Calls prog 210 #[.int .i64 41] w R:=by
 exact Gc
theorem aed(w:World)(R:Ending→World→Prop)(hR:∀w',Below w w w'→R (.returned (.agg #[.int .i64 1,.int .i64 (4)])) w'):
 Calls prog 210 #[.int .i64 42] w R:=by
 exact Gc
theorem aee(w:World)(R:Ending→World→Prop)(hR:∀w',Below w w w'→R (.returned (.agg #[.int .i64 7,.int .i64 (-12290)])) w'):
 Calls prog 210 #[.int .i64 38] w R:=by
 have HR:=ab hR;clear hR;go_enter func210,ntmps210;have dH:=nZ [0,12,13] 12289 (by decide+kernel) (by decide) 3 rfl (by decide) #[Value.int .i64 0,Value.int .i64 12,Value.int .i64 13] rfl 3;go_wp2_with (go_at_call 223;refine dH _ _ ?_ _ ?_;· simp);have he:=n_ w (Obj.cells #[Value.int .i64 0,Value.int .i64 12,Value.int .i64 13] 3) 252 (Value.int .i64 7) (Value.int .i64 (-12290));refine bodyPost_ret (results_cell_row rfl _ _ w 252 #[Value.int .i64 7,Value.int .i64 (-12290)] (0,0) _ rfl he.1 underlying252 rfl (by kernel_rfl)) rfl ?_;exact HR.o_ _ he.2
theorem aef(id:Int)(h1:¬id=1)(h2:¬id=2)(h3:¬id=3)(h8:¬id=8)(h9:¬id=9)(h11:¬id=11)(h17:¬id=17)(h18:¬id=18)(h19:¬id=19)(h21:¬id=21)(h22:¬id=22)(h23:¬id=23)(h24:¬id=24)(h25:¬id=25)(h26:¬id=26)(h28:¬id=28)(h31:¬id=31)(h33:¬id=33)(h34:¬id=34)(h35:¬id=35)(h36:¬id=36)(h37:¬id=37)(h38:¬id=38)(h39:¬id=39)(h40:¬id=40)(h41:¬id=41)(h42:¬id=42)(w:World)(R:Ending→World→Prop)(hR:∀w',Below w w w'→R (.returned (.agg #[.int .i64 0,.int .i64 0])) w'):
 Calls prog 210 #[.int .i64 id] w R:=by
 have HR:=ab hR;clear hR;go_enter func210,ntmps210;go_wp2;have he:=adN w 252 (Value.int .i64 0) (Value.int .i64 0);refine bodyPost_ret (results_cell_row rfl _ _ w 252 #[Value.int .i64 0,Value.int .i64 0] (0,0) _ rfl he.1 underlying252 rfl (by kernel_rfl)) rfl ?_;exact HR.o_ _ he.2
theorem U8(id:Int)(w:World)(R:Ending→World→Prop)(hR:∀w',Below w w w'→R (.returned (.agg #[.int .i64 (aO id),.int .i64 (EF id)])) w'):
 Calls prog 210 #[.int .i64 id] w R:=by
 by_cases h1:id=1
 ·subst h1;exact adO w R hR
 by_cases h2:id=2
 ·subst h2;exact adP w R hR
 by_cases h3:id=3
 ·subst h3;exact adQ w R hR
 by_cases h8:id=8
 ·subst h8;exact adR w R hR
 by_cases h9:id=9
 ·subst h9;exact adS w R hR
 by_cases h11:id=11
 ·subst h11;exact adT w R hR
 by_cases h17:id=17
 ·subst h17;exact adU w R hR
 by_cases h18:id=18
 ·subst h18;exact adV w R hR
 by_cases h19:id=19
 ·subst h19;exact adX w R hR
 by_cases h21:id=21
 ·subst h21;exact adY w R hR
 by_cases h22:id=22
 ·subst h22;exact adZ w R hR
 by_cases h23:id=23
 ·subst h23;exact ad0 w R hR
 by_cases h24:id=24
 ·subst h24;exact ad2 w R hR
 by_cases h25:id=25
 ·subst h25;exact ad1 w R hR
 by_cases h26:id=26
 ·subst h26;exact adW w R hR
 by_cases h28:id=28
 ·subst h28;exact ad3 w R hR
 by_cases h31:id=31
 ·subst h31;exact ad4 w R hR
 by_cases h33:id=33
 ·subst h33;exact ad5 w R hR
 by_cases h34:id=34
 ·subst h34;exact ad6 w R hR
 by_cases h35:id=35
 ·subst h35;exact ad7 w R hR
 by_cases h36:id=36
 ·subst h36;exact ad9 w R hR
 by_cases h37:id=37
 ·subst h37;exact aea w R hR
 by_cases h38:id=38
 ·subst h38;exact aee w R hR
 by_cases h39:id=39
 ·subst h39;exact ad8 w R hR
 by_cases h40:id=40
 ·subst h40;exact aeb w R hR
 by_cases h41:id=41
 ·subst h41;exact aec w R hR
 by_cases h42:id=42
 ·subst h42;exact aed w R hR
 have e1:aO id=0:=by unfold aO;simp only [h1,h2,h3,h8,h9,h11,h17,h18,h19,h21,h22,h23,h24,h25,h26,h28,h31,h33,h34,h35,h36,h37,h38,h39,h40,h41,h42,or_self,if_false]
 have e2:EF id=0:=by unfold EF tF;simp only [h1,h2,h3,h8,h9,h11,h17,h18,h19,h21,h22,h23,h24,h25,h26,h28,h31,h33,h34,h35,h36,h37,h38,h39,h40,h41,h42,or_self,if_false];rfl
 rw [e1,e2] at hR;exact aef id h1 h2 h3 h8 h9 h11 h17 h18 h19 h21 h22 h23 h24 h25 h26 h28 h31 h33 h34 h35 h36 h37 h38 h39 h40 h41 h42 w R hR
theorem i_(id:Int)(k:Nat)(hk:aO id=k)(w:World)(R:Ending→World→Prop)(hR:∀w',Below w w w'→R (.returned (.int .i64 k)) w'):
 Calls prog 189 #[.int .i64 id] w R:=by
 obtain ⟨pl,eA⟩:=ai (EF id);have HR:=ab hR;clear hR;have HK:=ab hk;have HP:=ab eA;clear hk eA;have aeg:∀w:World,(Instr.field 252 (.agg #[.int .i64 (k:Int),.int .i64 pl]) 0).run prog w= .ok (.int .i64 (k:Int)) w:=fun _=>by kernel_rfl
 go_enter func189,ntmps189;go_wp2_with (go_at_call 210;refine U8 id _ _ ?_;rw [HK.o_,HP.o_];intro w1 aw);exact HR.o_ _ aw
theorem Ov(id wh:Int)(w:World)(R:Ending→World→Prop)(hR:R (.returned (.bool (nj id wh))) w):
 Calls prog 214 #[.int .i64 id,.int .i64 wh] w R:=by
 by_cases h1:id=38
 ·have e:nj id wh=true:=by unfold nj;simp [h1]
  rw [e] at hR;subst h1;go_enter func214,ntmps214;go_wp2;exact hR
 ·by_cases h2:id=11
  ·have e:nj id wh=decide (wh=3):=by unfold nj;simp [h2]
   rw [e] at hR;subst h2;clear h1;by_cases h3:wh=3
   ·subst h3;go_enter func214,ntmps214;go_wp2;exact hR
   ·have e3:decide (wh=3)=false:=decide_eq_false h3;rw [e3] at hR;have b3:(wh==3)=false:=by simp [h3]
    have aeh:=ab b3;clear b3;go_enter func214,ntmps214;go_wp2
    simpa [aeh.o_] using hR
  ·have e:nj id wh=false:=by unfold nj;simp [h1,h2]
   rw [e] at hR;have b1:=ab (show (id==38)=false by simp [h1]);have b2:=ab (show (id==11)=false by simp [h2]);go_enter func214,ntmps214;go_wp2
   simpa [b1.o_] using hR
theorem zw(id wh:Int)(m:Bool)(hm:bR id wh=m)(w:World)(R:Ending→World→Prop)(hR:∀w',Below w w w'→R (.returned (.bool m)) w'):
 Calls prog 211 #[.int .i64 id,.int .i64 wh] w R:=by
 have HR:=ab hR;clear hR;by_cases h1:wh<1∨16<wh
 ·obtain rfl:m=false:=by rw [←hm];exact adI id wh h1
  have HM:=ab hm;clear hm;rcases h1 with h1|h1
  ·have h2:¬1≤wh:=by omega
   go_enter func211,ntmps211;go_wp2;exact HR.o_ _ (Below.refl _ _)
  ·have h2:¬wh≤16:=by omega
   have h3:1≤wh:=by omega
   go_enter func211,ntmps211;go_wp2;exact HR.o_ _ (Below.refl _ _)
 ·have h2:1≤wh:=by omega
  have h3:wh≤16:=by omega
  have hb:=adG id wh h2 h3;rw [hm] at hb;obtain ⟨pl,eA⟩:=ai (EF id);obtain ⟨k,hk⟩:=ai (aO id);rw [eA] at hb;have HB:=ab hb;have HP:=ab eA;have HK:=ab hk;have HM:=ab hm;clear hb hm h1 eA hk;have aeg:∀w:World,(Instr.field 252 (.agg #[.int .i64 (k:Int),.int .i64 pl]) 1).run prog w= .ok (.int .i64 pl) w:=fun _=>by kernel_rfl
  go_enter func211,ntmps211;go_wp2_with (go_at_call 210;refine U8 id _ _ ?_;rw [HK.o_,HP.o_];intro w1 aw);have e:=HB.o_;unfold Oj at e;exact (e▸HR.o_ _ aw)
theorem U9{P:Prop}(h:P:=by
 have aei:=Nat.mul_le_mul_right size hm;have Er:(n - m) *size=n*size - m*size:=Nat.sub_mul _ _ _;refine ⟨by have:=h.1;rw [List.length_drop];omega,fun h0=> ?_⟩;obtain ⟨b,o,rfl,hc⟩:=h.2 (by omega);refine ⟨b,o+m*size,by rw [Option.map_some,Addr.add_lit],fun j hj=> ?_⟩;rw [Nat.add_assoc,hc (m*size+j) (by omega),List.getElem?_drop]):P:=h
open List (drop_of_length_le)
variable{cs:List Value}{B N g j m n size t te:Nat}{o:Obj}{La ad:Option Addr}{w w':World}
theorem bT(h:w.heap[g]? =some o)(hb:Below w w w'):w'.heap[g]? =some o:=by
 rw [hb.block g (Array.getElem?_eq_some_iff.1 h).1];exact h
theorem Cw(w:World):Bs w (.slice none 0 0) []:=⟨none,0,rfl,Rd.nil _ _ _,Nat.le_refl _,by omega,fun _=>rfl⟩
theorem np{P:Program}{fn:Func}{p q u:Tmp}{ty:TypeId}(h:fn.results=#[.cell p ty,.tmp q,.tmp u])(tmps:Array Value)(w:World)(g:Nat)(t:TypeId)(cs:Array Value)(fr:Nat×Nat)(d:TypeDesc)(r s:Value)
 (hp:tmps.getD p undef= .pointer (some ⟨g,0,none⟩)) (hq:tmps.getD q undef=r) (uF:tmps.getD u undef=s) (hg:w.heap[g]? =some (.cells cs t fr))
 (hu:P.underlying ty=some d) (hd:(match d with| .struct _| .array _ _=>true|_=>false)=true) (hi:(P.info? ty).map (·.size)=some cs.size):
 (results fn tmps).run P w= .ok (.tuple #[.agg cs,r,s]) w:=by
 exact TL
theorem Ka{P:Program}{fn:Func}{p q:Tmp}{ty:TypeId}(h:fn.results=#[.cell p ty,.tmp q])(tmps:Array Value)(w:World)(g:Nat)(t:TypeId)(cs:Array Value)(fr:Nat×Nat)(d:TypeDesc)(r:Value)
 (hp:tmps.getD p undef= .pointer (some ⟨g,0,none⟩)) (hq:tmps.getD q undef=r) (hg:w.heap[g]? =some (.cells cs t fr))
 (hu:P.underlying ty=some d) (hd:(match d with| .struct _| .array _ _=>true|_=>false)=true) (hi:(P.info? ty).map (·.size)=some cs.size):
 (results fn tmps).run P w= .ok (.tuple #[.agg cs,r]) w:=by
 exact TK
def Kb(x:World)(N:Nat)(a b c d e:Value):World:=((((x.setCell ⟨N,0,none⟩ a).setCell ⟨N,1,none⟩ b).setCell ⟨N,2,none⟩ c).setCell ⟨N,3,none⟩ d).setCell ⟨N,4,none⟩ e
theorem k_{x:World}{out:Array Value}(h3:x.heap[N]? =some (.cells out t (0,0)))(hs:out.size=5)(a b c d e:Value):(Kb x N a b c d e).heap[N]? =some (.cells #[a,b,c,d,e] t (0,0)):=by
 unfold Kb;rw [heap_setCell_same _ _ 4 _ _ _ (heap_setCell_same _ _ 3 _ _ _ (heap_setCell_same _ _ 2 _ _ _ (heap_setCell_same _ _ 1 _ _ _ (heap_setCell_same _ _ 0 _ _ _ h3))))]
 match out,hs with
 |⟨[_,_,_,_,_]⟩,_=>rfl
theorem Cx{x:World}{out:Array Value}(h3:x.heap[N]? =some (.cells out t (0,0)))(ht:t≠te)(a b c d e:Value):eF te x (Kb x N a b c d e):=by
 have k1:=heap_setCell_same _ _ 0 _ _ a h3;have k2:=heap_setCell_same _ _ 1 _ _ b k1;have k3:=heap_setCell_same _ _ 2 _ _ c k2;have k4:=heap_setCell_same _ _ 3 _ _ d k3;exact (((eF.tq h3 ht).trans (eF.tq k1 ht)).trans ((eF.tq k2 ht).trans (eF.tq k3 ht))).trans (eF.tq k4 ht)
theorem gB{x:World}(h:Below B w x)(hN:B≤N)(a b c d e:Value):Below B w (Kb x N a b c d e):=
 ((((h.setCell hN a).setCell hN b).setCell hN c).setCell hN d).setCell hN e
theorem aej(h:Rd w size ad n cs)(hm:m≤n):Rd w size ad m (cs.take (m*size)):=by
 have aei:=Nat.mul_le_mul_right size hm;exact TA
theorem U_(h:Rd w size ad n cs)(hm:m≤n):Rd w size (ad.map (·.add (m*size))) (n - m) (cs.drop (m*size)):=by
 exact U9
theorem aek(l:List UInt8)(k:Nat):bv (l.take k)=(bv l).take k:=by simp [bv,List.map_take]
theorem U'(l:List UInt8)(k:Nat):bv (l.drop k)=(bv l).drop k:=by simp [bv,List.map_drop]
theorem EH{c:Nat}{l:List UInt8}(h:Bs w (.slice La n c) l)(hj:j≤l.length):
 ∃Lx,(∀w',(Instr.slice 22 (.slice La n c) (some (.int .i64 (j:Int))) none none).run prog w'= .ok (.slice Lx (n - j) (c - j)) w')∧Bs w (.slice Lx (n - j) (c - j)) (l.drop j):=by
 obtain ⟨ad,c',e,q1,q2,q3,q4⟩:=h;simp only [Value.slice.injEq] at e;obtain ⟨rfl,rfl,rfl⟩:=e;have he:prog.elem 22=5:=by simp [Program.elem,underlying22]
 obtain ⟨i,bS,hz,cQ,gU⟩:=info_parts Tryz.cJ;have aX:(l.drop j).length=l.length - j:=List.length_drop;refine ⟨if c=j then La else La.map (·.add (j*1)),fun w=> ?_,_,_,by rw [aX],?_,by omega,by omega,fun hx=> ?_⟩
 ·rw [run_slice_l (P:=prog) w _ La l.length c (by rw [he];exact underlying22) .i64 j (by omega) (by omega),he];simp [sizeOf,typeInfo,bS,cQ,sliced]
 ·rw [aX];by_cases sI:c=j
  ·have h0:l.length - j=0:=by omega
   have h1:l.drop j= []:=drop_of_length_le (by omega);rw [h0,h1];exact Rd.nil _ _ _
  ·rw [if_neg sI];have:=U_ (m:=j) q1 hj;rw [Nat.mul_one,←U'] at this;rw [Nat.mul_one];exact this
 ·by_cases sI:c=j
  ·omega
  ·rw [if_neg sI] at hx;have:=q4 (by simpa using hx)
   omega
theorem Va{c lo hi:Nat}{l:List UInt8}(h:Bs w (.slice La n c) l)(h1:lo≤hi)(h2:hi≤l.length):
 ∃Lx,(∀w',(Instr.slice 22 (.slice La n c) (some (.int .i64 (lo:Int))) (some (.int .i64 (hi:Int))) none).run prog w'= .ok (.slice Lx (hi - lo) (c - lo)) w')∧Bs w (.slice Lx (hi - lo) (c - lo)) ((l.take hi).drop lo):=by
 obtain ⟨ad,c',e,q1,q2,q3,q4⟩:=h;simp only [Value.slice.injEq] at e;obtain ⟨rfl,rfl,rfl⟩:=e;have he:prog.elem 22=5:=by simp [Program.elem,underlying22]
 obtain ⟨i,bS,hz,cQ,gU⟩:=info_parts Tryz.cJ;have aX:((l.take hi).drop lo).length=hi - lo:=by rw [List.length_drop,List.length_take];omega
 refine ⟨if c=lo then La else La.map (·.add (lo*1)),fun w=> ?_,_,_,by rw [aX],?_,by omega,by omega,fun hx=> ?_⟩
 ·rw [run_slice_lh (P:=prog) w _ La l.length c (by rw [he];exact underlying22) .i64 .i64 lo hi (by omega) (by omega) (by omega),he];simp [sizeOf,typeInfo,bS,cQ,sliced]
 ·rw [aX];by_cases sI:c=lo
  ·have h0:hi - lo=0:=by omega
   have h1:(l.take hi).drop lo= []:=drop_of_length_le (by rw [List.length_take];omega);rw [h0,h1];exact Rd.nil _ _ _
  ·rw [if_neg sI];have h3:=aej (m:=hi) q1 h2;have:=U_ (m:=lo) h3 h1;rw [Nat.mul_one,Nat.mul_one,←aek,←U'] at this;rw [Nat.mul_one];exact this
 ·by_cases sI:c=lo
  ·omega
  ·rw [if_neg sI] at hx;have:=q4 (by simpa using hx)
   omega
theorem ael(v:Value)(l:List UInt8)(w:World)(hv:Bs w v l)(hl:l.length≤140737488355328)(R:Ending→World→Prop)
 (hR:∀ad c w',w'.ownsRow w 5 1 (.slice ad l.length c) l.length (bv l)→Below w w w'→R (.returned (.slice ad l.length c)) w'):
 Calls prog 139 #[v] w R:=by
 exact TN
theorem EI(d:Value)(p:Pr)(r:Bool)(hr:decide (cW p=0)=r)(w:World)(R:Ending→World→Prop)
 (hR:∀w',Below w w w'→R (.returned (.bool r)) w'):
 Calls prog 215 #[.agg (bz p d)] w R:=by
 obtain ⟨id,n,t,q,dd⟩:=p;have HR:=ab hR;clear hR;have cF:=(Below.refl w w).alloc (Nat.le_refl _) (Obj.cells #[.int .i64 id,.int .i64 n,.string (str t),.string (str q),d] 147);simp only at*;by_cases hid:id=11∨id=33∨id=35∨id=39
 ·have e:r=(n != 0):=by
   rw [←hr];have hk:aO id≠1:=by rcases hid with h|h|h|h<;>subst h<;>decide
   unfold cW;simp only [hk,false_and,if_false];by_cases h0:n=0
   ·subst h0;rcases hid with h|h|h|h<;>subst h<;>rfl
   ·simp [h0]
  clear hr;subst e;rcases hid with h|h|h|h<;>subst h
  all_goals
   go_enter func215,ntmps215;go_wp2;exact HR.o_ _ cF
 ·have h1:¬id=11:=fun h=>hid (.inl h);have h2:¬id=33:=fun h=>hid (.inr (.inl h));have h3:¬id=35:=fun h=>hid (.inr (.inr (.inl h)));have h4:¬id=39:=fun h=>hid (.inr (.inr (.inr h)));clear hid;obtain ⟨k,hk⟩:=ai (aO id);have e:decide (¬(k=1∧1<n))=r:=by
   rw [←hr,←hk];unfold cW;simp only [h1,h2,h3,h4,or_self,false_and,if_false];by_cases hc:aO id=1∧1<n
   ·rw [if_pos hc];simp [hc]
   ·rw [if_neg hc];simp only [hc,not_false_eq_true,decide_true]
  have HK:=ab hk;have HE:=ab e;clear e hr hk;by_cases ib:k=1
  ·subst ib;by_cases hn:n≤1
   ·obtain rfl:r=true:=by rw [←HE.o_];exact decide_eq_true fun h=>by omega
    go_enter func215,ntmps215;go_wp2_with (go_at_call 189;go_must (refine i_ id 1 HK.o_ _ _ ?_);intro w1 aw;have aI:=br cF aw;have c0:=cell_later aw (af _ w 1 _ _ _ (heap_alloc_new w (Obj.cells #[.int .i64 id,.int .i64 n,.string (str t),.string (str q),d] 147))));exact HR.o_ _ aI
   ·obtain rfl:r=false:=by rw [←HE.o_];exact decide_eq_false fun h=>h ⟨rfl,by omega⟩
    go_enter func215,ntmps215;go_wp2_with (go_at_call 189;go_must (refine i_ id 1 HK.o_ _ _ ?_);intro w1 aw;have aI:=br cF aw;have c0:=cell_later aw (af _ w 1 _ _ _ (heap_alloc_new w (Obj.cells #[.int .i64 id,.int .i64 n,.string (str t),.string (str q),d] 147))));have h9:=HR.o_ _ aI;rw [show false=decide (n≤1) from (decide_eq_false (by omega)).symm] at h9;exact h9
  ·obtain rfl:r=true:=by rw [←HE.o_];exact decide_eq_true fun h=>ib h.1
   have fA:¬(k:Int)=1:=by omega
   clear HE;go_enter func215,ntmps215;go_wp2_with (go_at_call 189;go_must (refine i_ id k HK.o_ _ _ ?_);intro w1 aw;have aI:=br cF aw);exact HR.o_ _ aI
open Int (toNat_natCast)
variable{id wh:Int}
theorem Vb(id:Int)(hk:aO id=1)(b:List UInt8):dL id b=if b.length<1 then none else some (⟨id,cz (b.take 1),[],[],[]⟩,1):=by unfold dL;rw [hk];rfl
theorem Ow{P:Prop}(h:P:=by
 refine bodyPost_ret (np rfl _ _ w 147 (eY id) (0,0) _ _ _ rfl rfl rfl (k_ N2.o_ rfl _ _ _ _ _) underlying147 rfl (by kernel_rfl)) rfl ?_;exact HF.o_ _ _ _ _ _ _ _ _ _ (by first|rfl|trivial) rfl (gB bn (Nat.le_refl _) _ _ _ _ _)):P:=h
theorem Ox{P:Prop}(h:P:=by
 refine bodyPost_ret (np rfl _ _ w 147 (su id (wrap64 (x:Int))) (0,0) _ _ _ rfl rfl rfl (k_ (heap_setCell_same _ _ 1 _ _ (.int .i64 (wrap64 (x:Int))) N2.o_) rfl _ _ _ _ _) underlying147 rfl (by kernel_rfl)) rfl ?_;exact kH.o_ _ (World.ownsRow_nil _ _ _ _) (gB (bn.setCell (Nat.le_refl _) _) (Nat.le_refl _) _ _ _ _ _)):P:=h
theorem aem(id:Int)(hk:aO id=1)(v:Value)(b:List UInt8)(r:Option (Pr×Int))(hr:dL id b=r)(w:World)(hv:Bs w v b)(hT:di w)(R:Ending→World→Prop)
 (hR:∀p u d w',r=some (p,u)→w'.ownsRow w 5 1 d p.data.length (bv p.data)→Below w w w'→R (.returned (.tuple #[.agg (bz p d),.int .i64 u,.bool true])) w')
 (hF:∀n s t a m c u q w',r=none→q=false→Below w w w'→R (.returned (.tuple #[.agg #[.int .i64 id,.int .i64 n,.string s,.string t,.slice a m c],.int .i64 u,.bool q])) w'):
 Calls prog 212 #[.int .i64 id,v] w R:=by
 rw [Vb id hk] at hr;have HR:=ab hR;have HF:=ab hF;have HK:=ab hk;have HT:=ab hT;have HV:=ab hv;obtain ⟨ba,bc,rfl,_,eV,tG,_⟩:=_root_.id hv;clear hR hF hk hT hv;by_cases hs:b.length<1
 ·have pX:(b.length:Int)<1:=by omega
  obtain rfl:r=none:=by rw [←hr,if_pos hs]
  clear hr;have N0:Hid ((w.alloc (Obj.cells (eY id) 147)).heap[w.heap.size]? =some (Obj.cells (eY id) 147)):=ab (heap_alloc_new w _);have cF:=(Below.refl w w).alloc (Nat.le_refl _) (Obj.cells (eY id) 147);go_enter func212,ntmps212;go_wp2_with (first
   |(go_at_call 189;go_must (refine i_ id 1 HK.o_ _ _ ?_);intro w1 aw;have nr:=bT N0.o_ aw;have e0:=af _ w 0 _ _ _ nr;have e1:=af _ w 1 _ _ _ nr;have e2:=af _ w 2 _ _ _ nr;have e3:=af _ w 3 _ _ _ nr;have e4:=af _ w 4 _ _ _ nr;have f0:=aB nr 0;have f1:=aB nr 1;have f2:=aB nr 2;have f3:=aB nr 3;have f4:=aB nr 4;have N1:=ab nr;clear nr;have aI:=br cF aw;have bP:=ab aw;clear N0 aw)
   |(go_at_call 189;go_must (refine i_ id 1 HK.o_ _ _ ?_);intro w2 ah;clear e0 e1 e2 e3 e4 f0 f1 f2 f3 f4;have nr:=bT N1.o_ ah;have e0:=af _ w 0 _ _ _ nr;have e1:=af _ w 1 _ _ _ nr;have e2:=af _ w 2 _ _ _ nr;have e3:=af _ w 3 _ _ _ nr;have e4:=af _ w 4 _ _ _ nr;have f0:=aB nr 0;have f1:=aB nr 1;have f2:=aB nr 2;have f3:=aB nr 3;have f4:=aB nr 4;have N2:=ab nr;clear nr;have bn:=br aI ah;clear N1 ah))
  exact Ow
 ·have pX:¬(b.length:Int)<1:=by omega
  have rF:(1:Int)≤(bc:Int):=by omega
  have fg:=(zv b 1 ⟨by omega,by omega⟩ (by omega)).1;obtain ⟨x,hx⟩:=ai (cz (b.take 1));rw [if_neg hs,hx] at hr;rw [hx] at fg;have ew:wrap64 (x:Int)=(x:Int):=by unfold wrap64;omega
  have cw:∀w',w'.ownsRow w 5 1 (.slice none 0 0) 0 (bv [])→Below w w w'→R (.returned (.tuple #[.agg (su id (wrap64 (x:Int))),.int .i64 1,.bool true])) w':=fun w' h1 h2=>by
   rw [ew];exact HR.o_ ⟨id,x,[],[],[]⟩ 1 _ w' hr.symm h1 h2
  have kH:=ab cw;have HX:=ab hx;have hcut:=HV.o_.cut (k:=1) (by omega);have HC:=ab hcut;clear hx hcut hr fg ew cw HR HF;have N0:Hid ((w.alloc (Obj.cells (eY id) 147)).heap[w.heap.size]? =some (Obj.cells (eY id) 147)):=ab (heap_alloc_new w _);have cF:=(Below.refl w w).alloc (Nat.le_refl _) (Obj.cells (eY id) 147);go_enter func212,ntmps212;go_wp2_with (first
   |(go_at_call 189;go_must (refine i_ id 1 HK.o_ _ _ ?_);intro w1 aw;have nr:=bT N0.o_ aw;have e0:=af _ w 0 _ _ _ nr;have e1:=af _ w 1 _ _ _ nr;have e2:=af _ w 2 _ _ _ nr;have e3:=af _ w 3 _ _ _ nr;have e4:=af _ w 4 _ _ _ nr;have f0:=aB nr 0;have f1:=aB nr 1;have f2:=aB nr 2;have f3:=aB nr 3;have f4:=aB nr 4;have N1:=ab nr;clear nr;have aI:=br cF aw;have bP:=ab aw;clear N0 aw)
   |(go_at_call 189;go_must (refine i_ id 1 HK.o_ _ _ ?_);intro w2 ah;clear e0 e1 e2 e3 e4 f0 f1 f2 f3 f4;have nr:=bT N1.o_ ah;have e0:=af _ w 0 _ _ _ nr;have e1:=af _ w 1 _ _ _ nr;have e2:=af _ w 2 _ _ _ nr;have e3:=af _ w 3 _ _ _ nr;have e4:=af _ w 4 _ _ _ nr;have f0:=aB nr 0;have f1:=aB nr 1;have f2:=aB nr 2;have f3:=aB nr 3;have f4:=aB nr 4;have N2:=ab nr;clear nr;have bn:=br aI ah;clear N1 ah)
   |(go_at_call 109;go_must (refine get_at _ _ x HX.o_ _ (HC.o_.below bn) _ ?_)))
  exact Ox
theorem Vc(id:Int)(hk:aO id=2)(b:List UInt8):dL id b=if b.length<2 then none else some (⟨id,cz (b.take 2),[],[],[]⟩,2):=by unfold dL;rw [hk];rfl
theorem aen(id:Int)(hk:aO id=2)(v:Value)(b:List UInt8)(r:Option (Pr×Int))(hr:dL id b=r)(w:World)(hv:Bs w v b)(hT:di w)(R:Ending→World→Prop)
 (hR:∀p u d w',r=some (p,u)→w'.ownsRow w 5 1 d p.data.length (bv p.data)→Below w w w'→R (.returned (.tuple #[.agg (bz p d),.int .i64 u,.bool true])) w')
 (hF:∀n s t a m c u q w',r=none→q=false→Below w w w'→R (.returned (.tuple #[.agg #[.int .i64 id,.int .i64 n,.string s,.string t,.slice a m c],.int .i64 u,.bool q])) w'):
 Calls prog 212 #[.int .i64 id,v] w R:=by
 rw [Vc id hk] at hr;have HR:=ab hR;have HF:=ab hF;have HK:=ab hk;have HT:=ab hT;have HV:=ab hv;obtain ⟨ba,bc,rfl,_,eV,tG,_⟩:=_root_.id hv;clear hR hF hk hT hv;by_cases hs:b.length<2
 ·have pX:(b.length:Int)<2:=by omega
  obtain rfl:r=none:=by rw [←hr,if_pos hs]
  clear hr;have N0:Hid ((w.alloc (Obj.cells (eY id) 147)).heap[w.heap.size]? =some (Obj.cells (eY id) 147)):=ab (heap_alloc_new w _);have cF:=(Below.refl w w).alloc (Nat.le_refl _) (Obj.cells (eY id) 147);go_enter func212,ntmps212;go_wp2_with (first
   |(go_at_call 189;go_must (refine i_ id 2 HK.o_ _ _ ?_);intro w1 aw;have nr:=bT N0.o_ aw;have e0:=af _ w 0 _ _ _ nr;have e1:=af _ w 1 _ _ _ nr;have e2:=af _ w 2 _ _ _ nr;have e3:=af _ w 3 _ _ _ nr;have e4:=af _ w 4 _ _ _ nr;have f0:=aB nr 0;have f1:=aB nr 1;have f2:=aB nr 2;have f3:=aB nr 3;have f4:=aB nr 4;have N1:=ab nr;clear nr;have aI:=br cF aw;have bP:=ab aw;clear N0 aw)
   |(go_at_call 189;go_must (refine i_ id 2 HK.o_ _ _ ?_);intro w2 ah;clear e0 e1 e2 e3 e4 f0 f1 f2 f3 f4;have nr:=bT N1.o_ ah;have e0:=af _ w 0 _ _ _ nr;have e1:=af _ w 1 _ _ _ nr;have e2:=af _ w 2 _ _ _ nr;have e3:=af _ w 3 _ _ _ nr;have e4:=af _ w 4 _ _ _ nr;have f0:=aB nr 0;have f1:=aB nr 1;have f2:=aB nr 2;have f3:=aB nr 3;have f4:=aB nr 4;have N2:=ab nr;clear nr;have bn:=br aI ah;clear N1 ah))
  exact Ow
 ·have pX:¬(b.length:Int)<2:=by omega
  have rF:(2:Int)≤(bc:Int):=by omega
  have fg:=(zv b 2 ⟨by omega,by omega⟩ (by omega)).1;obtain ⟨x,hx⟩:=ai (cz (b.take 2));rw [if_neg hs,hx] at hr;rw [hx] at fg;have ew:wrap64 (x:Int)=(x:Int):=by unfold wrap64;omega
  have cw:∀w',w'.ownsRow w 5 1 (.slice none 0 0) 0 (bv [])→Below w w w'→R (.returned (.tuple #[.agg (su id (wrap64 (x:Int))),.int .i64 2,.bool true])) w':=fun w' h1 h2=>by
   rw [ew];exact HR.o_ ⟨id,x,[],[],[]⟩ 2 _ w' hr.symm h1 h2
  have kH:=ab cw;have HX:=ab hx;have hcut:=HV.o_.cut (k:=2) (by omega);have HC:=ab hcut;clear hx hcut hr fg ew cw HR HF;have N0:Hid ((w.alloc (Obj.cells (eY id) 147)).heap[w.heap.size]? =some (Obj.cells (eY id) 147)):=ab (heap_alloc_new w _);have cF:=(Below.refl w w).alloc (Nat.le_refl _) (Obj.cells (eY id) 147);go_enter func212,ntmps212;go_wp2_with (first
   |(go_at_call 189;go_must (refine i_ id 2 HK.o_ _ _ ?_);intro w1 aw;have nr:=bT N0.o_ aw;have e0:=af _ w 0 _ _ _ nr;have e1:=af _ w 1 _ _ _ nr;have e2:=af _ w 2 _ _ _ nr;have e3:=af _ w 3 _ _ _ nr;have e4:=af _ w 4 _ _ _ nr;have f0:=aB nr 0;have f1:=aB nr 1;have f2:=aB nr 2;have f3:=aB nr 3;have f4:=aB nr 4;have N1:=ab nr;clear nr;have aI:=br cF aw;have bP:=ab aw;clear N0 aw)
   |(go_at_call 189;go_must (refine i_ id 2 HK.o_ _ _ ?_);intro w2 ah;clear e0 e1 e2 e3 e4 f0 f1 f2 f3 f4;have nr:=bT N1.o_ ah;have e0:=af _ w 0 _ _ _ nr;have e1:=af _ w 1 _ _ _ nr;have e2:=af _ w 2 _ _ _ nr;have e3:=af _ w 3 _ _ _ nr;have e4:=af _ w 4 _ _ _ nr;have f0:=aB nr 0;have f1:=aB nr 1;have f2:=aB nr 2;have f3:=aB nr 3;have f4:=aB nr 4;have N2:=ab nr;clear nr;have bn:=br aI ah;clear N1 ah)
   |(go_at_call 109;go_must (refine get_at _ _ x HX.o_ _ (HC.o_.below bn) _ ?_)))
  exact Ox
theorem Vd(id:Int)(hk:aO id=3)(b:List UInt8):dL id b=if b.length<4 then none else some (⟨id,cz (b.take 4),[],[],[]⟩,4):=by unfold dL;rw [hk];rfl
theorem aeo(id:Int)(hk:aO id=3)(v:Value)(b:List UInt8)(r:Option (Pr×Int))(hr:dL id b=r)(w:World)(hv:Bs w v b)(hT:di w)(R:Ending→World→Prop)
 (hR:∀p u d w',r=some (p,u)→w'.ownsRow w 5 1 d p.data.length (bv p.data)→Below w w w'→R (.returned (.tuple #[.agg (bz p d),.int .i64 u,.bool true])) w')
 (hF:∀n s t a m c u q w',r=none→q=false→Below w w w'→R (.returned (.tuple #[.agg #[.int .i64 id,.int .i64 n,.string s,.string t,.slice a m c],.int .i64 u,.bool q])) w'):
 Calls prog 212 #[.int .i64 id,v] w R:=by
 rw [Vd id hk] at hr;have HR:=ab hR;have HF:=ab hF;have HK:=ab hk;have HT:=ab hT;have HV:=ab hv;obtain ⟨ba,bc,rfl,_,eV,tG,_⟩:=_root_.id hv;clear hR hF hk hT hv;by_cases hs:b.length<4
 ·have pX:(b.length:Int)<4:=by omega
  obtain rfl:r=none:=by rw [←hr,if_pos hs]
  clear hr;have N0:Hid ((w.alloc (Obj.cells (eY id) 147)).heap[w.heap.size]? =some (Obj.cells (eY id) 147)):=ab (heap_alloc_new w _);have cF:=(Below.refl w w).alloc (Nat.le_refl _) (Obj.cells (eY id) 147);go_enter func212,ntmps212;go_wp2_with (first
   |(go_at_call 189;go_must (refine i_ id 3 HK.o_ _ _ ?_);intro w1 aw;have nr:=bT N0.o_ aw;have e0:=af _ w 0 _ _ _ nr;have e1:=af _ w 1 _ _ _ nr;have e2:=af _ w 2 _ _ _ nr;have e3:=af _ w 3 _ _ _ nr;have e4:=af _ w 4 _ _ _ nr;have f0:=aB nr 0;have f1:=aB nr 1;have f2:=aB nr 2;have f3:=aB nr 3;have f4:=aB nr 4;have N1:=ab nr;clear nr;have aI:=br cF aw;have bP:=ab aw;clear N0 aw)
   |(go_at_call 189;go_must (refine i_ id 3 HK.o_ _ _ ?_);intro w2 ah;clear e0 e1 e2 e3 e4 f0 f1 f2 f3 f4;have nr:=bT N1.o_ ah;have e0:=af _ w 0 _ _ _ nr;have e1:=af _ w 1 _ _ _ nr;have e2:=af _ w 2 _ _ _ nr;have e3:=af _ w 3 _ _ _ nr;have e4:=af _ w 4 _ _ _ nr;have f0:=aB nr 0;have f1:=aB nr 1;have f2:=aB nr 2;have f3:=aB nr 3;have f4:=aB nr 4;have N2:=ab nr;clear nr;have bn:=br aI ah;clear N1 ah))
  exact Ow
 ·have pX:¬(b.length:Int)<4:=by omega
  have rF:(4:Int)≤(bc:Int):=by omega
  have fg:=(zv b 4 ⟨by omega,by omega⟩ (by omega)).1;obtain ⟨x,hx⟩:=ai (cz (b.take 4));rw [if_neg hs,hx] at hr;rw [hx] at fg;have ew:wrap64 (x:Int)=(x:Int):=by unfold wrap64;omega
  have cw:∀w',w'.ownsRow w 5 1 (.slice none 0 0) 0 (bv [])→Below w w w'→R (.returned (.tuple #[.agg (su id (wrap64 (x:Int))),.int .i64 4,.bool true])) w':=fun w' h1 h2=>by
   rw [ew];exact HR.o_ ⟨id,x,[],[],[]⟩ 4 _ w' hr.symm h1 h2
  have kH:=ab cw;have HX:=ab hx;have hcut:=HV.o_.cut (k:=4) (by omega);have HC:=ab hcut;clear hx hcut hr fg ew cw HR HF;have N0:Hid ((w.alloc (Obj.cells (eY id) 147)).heap[w.heap.size]? =some (Obj.cells (eY id) 147)):=ab (heap_alloc_new w _);have cF:=(Below.refl w w).alloc (Nat.le_refl _) (Obj.cells (eY id) 147);go_enter func212,ntmps212;go_wp2_with (first
   |(go_at_call 189;go_must (refine i_ id 3 HK.o_ _ _ ?_);intro w1 aw;have nr:=bT N0.o_ aw;have e0:=af _ w 0 _ _ _ nr;have e1:=af _ w 1 _ _ _ nr;have e2:=af _ w 2 _ _ _ nr;have e3:=af _ w 3 _ _ _ nr;have e4:=af _ w 4 _ _ _ nr;have f0:=aB nr 0;have f1:=aB nr 1;have f2:=aB nr 2;have f3:=aB nr 3;have f4:=aB nr 4;have N1:=ab nr;clear nr;have aI:=br cF aw;have bP:=ab aw;clear N0 aw)
   |(go_at_call 189;go_must (refine i_ id 3 HK.o_ _ _ ?_);intro w2 ah;clear e0 e1 e2 e3 e4 f0 f1 f2 f3 f4;have nr:=bT N1.o_ ah;have e0:=af _ w 0 _ _ _ nr;have e1:=af _ w 1 _ _ _ nr;have e2:=af _ w 2 _ _ _ nr;have e3:=af _ w 3 _ _ _ nr;have e4:=af _ w 4 _ _ _ nr;have f0:=aB nr 0;have f1:=aB nr 1;have f2:=aB nr 2;have f3:=aB nr 3;have f4:=aB nr 4;have N2:=ab nr;clear nr;have bn:=br aI ah;clear N1 ah)
   |(go_at_call 109;go_must (refine get_at _ _ x HX.o_ _ (HC.o_.below bn) _ ?_)))
  exact Ox
theorem Ve(id:Int)(hk:aO id=4)(b:List UInt8):dL id b=if (dg b).2.2=0 then some ((⟨id,(dg b).1,[],[],[]⟩:Pr),((dg b).2.1:Int)) else none:=by unfold dL;rw [hk];rfl
theorem aep(id:Int)(hk:aO id=4)(v:Value)(b:List UInt8)(r:Option (Pr×Int))(hr:dL id b=r)(w:World)(hv:Bs w v b)(hT:di w)(R:Ending→World→Prop)
 (hR:∀p u d w',r=some (p,u)→w'.ownsRow w 5 1 d p.data.length (bv p.data)→Below w w w'→R (.returned (.tuple #[.agg (bz p d),.int .i64 u,.bool true])) w')
 (hF:∀n s t a m c u q w',r=none→q=false→Below w w w'→R (.returned (.tuple #[.agg #[.int .i64 id,.int .i64 n,.string s,.string t,.slice a m c],.int .i64 u,.bool q])) w'):
 Calls prog 212 #[.int .i64 id,v] w R:=by
 rw [Ve id hk] at hr;have HR:=ab hR;have HF:=ab hF;have HK:=ab hk;have HT:=ab hT;have HV:=ab hv;obtain ⟨ba,bc,rfl,_,eV,tG,_⟩:=_root_.id hv;clear hR hF hk hT hv;obtain ⟨⟨x,y,z⟩,hg⟩:∃g,dg b=g:=⟨_,rfl⟩
 rw [hg] at hr;simp only at hr;have HG:=ab hg;have fZ:=ab hr;clear hg hr;have N0:Hid ((w.alloc (Obj.cells (eY id) 147)).heap[w.heap.size]? =some (Obj.cells (eY id) 147)):=ab (heap_alloc_new w _);have cF:=(Below.refl w w).alloc (Nat.le_refl _) (Obj.cells (eY id) 147);go_enter func212,ntmps212;go_wp2_with (first
  |(go_at_call 189;go_must (refine i_ id 4 HK.o_ _ _ ?_);intro w1 aw;have nr:=bT N0.o_ aw;have e0:=af _ w 0 _ _ _ nr;have e1:=af _ w 1 _ _ _ nr;have e2:=af _ w 2 _ _ _ nr;have e3:=af _ w 3 _ _ _ nr;have e4:=af _ w 4 _ _ _ nr;have f0:=aB nr 0;have f1:=aB nr 1;have f2:=aB nr 2;have f3:=aB nr 3;have f4:=aB nr 4;have N1:=ab nr;clear nr;have aI:=br cF aw;have bP:=ab aw;clear N0 aw)
  |(go_at_call 190;go_must (refine sH _ b x y z HG.o_ _ (HV.o_.below aI) _ ?_)))
 refine bodyPost_ret (np rfl _ _ w 147 (su id (x:Int)) (0,0) _ _ _ rfl rfl rfl (k_ (heap_setCell_same _ _ 1 _ _ (.int .i64 (x:Int)) N1.o_) rfl _ _ _ _ _) underlying147 rfl (by kernel_rfl)) rfl ?_;by_cases hz:z=0
 ·subst hz;exact HR.o_ ⟨id,x,[],[],[]⟩ y (.slice none 0 0) _ (by have:=fZ.o_;rw [if_pos rfl] at this;exact this.symm) (World.ownsRow_nil _ _ _ _) (gB (aI.setCell (Nat.le_refl _) _) (Nat.le_refl _) _ _ _ _ _)
 ·exact HF.o_ _ _ _ _ _ _ _ _ _ (by have:=fZ.o_;rw [if_neg hz] at this;exact this.symm) (by simp [hz]) (gB (aI.setCell (Nat.le_refl _) _) (Nat.le_refl _) _ _ _ _ _)
theorem Vf(id:Int)(hk:aO id=5)(b:List UInt8):dL id b=if (dq b).2.2=0 then some (⟨id,0,(dq b).1,[],[]⟩,(dq b).2.1) else none:=by unfold dL;rw [hk];rfl
theorem aeq(id:Int)(hk:aO id=5)(v:Value)(b:List UInt8)(r:Option (Pr×Int))(hr:dL id b=r)(w:World)(hv:Bs w v b)(hT:di w)(R:Ending→World→Prop)
 (hR:∀p u d w',r=some (p,u)→w'.ownsRow w 5 1 d p.data.length (bv p.data)→Below w w w'→R (.returned (.tuple #[.agg (bz p d),.int .i64 u,.bool true])) w')
 (hF:∀n s t a m c u q w',r=none→q=false→Below w w w'→R (.returned (.tuple #[.agg #[.int .i64 id,.int .i64 n,.string s,.string t,.slice a m c],.int .i64 u,.bool q])) w'):
 Calls prog 212 #[.int .i64 id,v] w R:=by
 rw [Vf id hk] at hr;have HR:=ab hR;have HF:=ab hF;have HK:=ab hk;have HT:=ab hT;have HV:=ab hv;obtain ⟨ba,bc,rfl,_,eV,tG,_⟩:=_root_.id hv;clear hR hF hk hT hv;obtain ⟨⟨S,u,z⟩,hg⟩:∃g,dq b=g:=⟨_,rfl⟩
 rw [hg] at hr;simp only at hr;have HG:=ab hg;have fZ:=ab hr;clear hg hr;have N0:Hid ((w.alloc (Obj.cells (eY id) 147)).heap[w.heap.size]? =some (Obj.cells (eY id) 147)):=ab (heap_alloc_new w _);have cF:=(Below.refl w w).alloc (Nat.le_refl _) (Obj.cells (eY id) 147);go_enter func212,ntmps212;go_wp2_with (first
  |(go_at_call 189;go_must (refine i_ id 5 HK.o_ _ _ ?_);intro w1 aw;have nr:=bT N0.o_ aw;have e0:=af _ w 0 _ _ _ nr;have e1:=af _ w 1 _ _ _ nr;have e2:=af _ w 2 _ _ _ nr;have e3:=af _ w 3 _ _ _ nr;have e4:=af _ w 4 _ _ _ nr;have f0:=aB nr 0;have f1:=aB nr 1;have f2:=aB nr 2;have f3:=aB nr 3;have f4:=aB nr 4;have N1:=ab nr;clear nr;have aI:=br cF aw;have bP:=ab aw;clear N0 aw)
  |(go_at_call 108;go_must (refine Co _ b S u z HG.o_ _ (HV.o_.below aI) (HT.o_.below aI) _ ?_);intro w2 ah;clear e0 e1 e2 e3 e4 f0 f1 f2 f3 f4;have nr:=bT N1.o_ ah;have e0:=af _ w 0 _ _ _ nr;have e1:=af _ w 1 _ _ _ nr;have e2:=af _ w 2 _ _ _ nr;have e3:=af _ w 3 _ _ _ nr;have e4:=af _ w 4 _ _ _ nr;have f0:=aB nr 0;have f1:=aB nr 1;have f2:=aB nr 2;have f3:=aB nr 3;have f4:=aB nr 4;have N2:=ab nr;clear nr;have bn:=br aI ah;clear N1 ah))
 refine bodyPost_ret (np rfl _ _ w 147 (B7 id S) (0,0) _ _ _ rfl rfl rfl (k_ (heap_setCell_same _ _ 2 _ _ (.string (str S)) N2.o_) rfl _ _ _ _ _) underlying147 rfl (by kernel_rfl)) rfl ?_;by_cases hz:z=0
 ·subst hz;exact HR.o_ ⟨id,0,S,[],[]⟩ u (.slice none 0 0) _ (by have:=fZ.o_;rw [if_pos rfl] at this;exact this.symm) (World.ownsRow_nil _ _ _ _) (gB (bn.setCell (Nat.le_refl _) _) (Nat.le_refl _) _ _ _ _ _)
 ·exact HF.o_ _ _ _ _ _ _ _ _ _ (by have:=fZ.o_;rw [if_neg hz] at this;exact this.symm) (by simp [hz]) (gB (bn.setCell (Nat.le_refl _) _) (Nat.le_refl _) _ _ _ _ _)
theorem Vg(id:Int)(hk:aO id=6)(b:List UInt8):dL id b=if (eO b).2.2=0 then some (⟨id,0,[],[],(eO b).1⟩,(eO b).2.1) else none:=by unfold dL;rw [hk];rfl
theorem aer(id:Int)(hk:aO id=6)(v:Value)(b:List UInt8)(r:Option (Pr×Int))(hr:dL id b=r)(w:World)(hv:Bs w v b)(hT:di w)(R:Ending→World→Prop)
 (hR:∀p u d w',r=some (p,u)→w'.ownsRow w 5 1 d p.data.length (bv p.data)→Below w w w'→R (.returned (.tuple #[.agg (bz p d),.int .i64 u,.bool true])) w')
 (hF:∀n s t a m c u q w',r=none→q=false→Below w w w'→R (.returned (.tuple #[.agg #[.int .i64 id,.int .i64 n,.string s,.string t,.slice a m c],.int .i64 u,.bool q])) w'):
 Calls prog 212 #[.int .i64 id,v] w R:=by
 rw [Vg id hk] at hr;have HR:=ab hR;have HF:=ab hF;have HK:=ab hk;have HT:=ab hT;have HV:=ab hv;obtain ⟨ba,bc,rfl,_,eV,tG,_⟩:=_root_.id hv;clear hR hF hk hT hv;obtain ⟨⟨S,u,z⟩,hg⟩:∃g,eO b=g:=⟨_,rfl⟩
 rw [hg] at hr;simp only at hr;have HG:=ab hg;have fZ:=ab hr;clear hg hr;have N0:Hid ((w.alloc (Obj.cells (eY id) 147)).heap[w.heap.size]? =some (Obj.cells (eY id) 147)):=ab (heap_alloc_new w _);have cF:=(Below.refl w w).alloc (Nat.le_refl _) (Obj.cells (eY id) 147);go_enter func212,ntmps212;go_wp2_with (first
  |(go_at_call 189;go_must (refine i_ id 6 HK.o_ _ _ ?_);intro w1 aw;have nr:=bT N0.o_ aw;have e0:=af _ w 0 _ _ _ nr;have e1:=af _ w 1 _ _ _ nr;have e2:=af _ w 2 _ _ _ nr;have e3:=af _ w 3 _ _ _ nr;have e4:=af _ w 4 _ _ _ nr;have f0:=aB nr 0;have f1:=aB nr 1;have f2:=aB nr 2;have f3:=aB nr 3;have f4:=aB nr 4;have N1:=ab nr;clear nr;have aI:=br cF aw;have bP:=ab aw;clear N0 aw)
  |(go_at_call 112;go_must (refine Cn _ b S u z HG.o_ _ (HV.o_.below aI) _ ?_);intro da dc w2 ct ah;clear e0 e1 e2 e3 e4 f0 f1 f2 f3 f4;have nr:=bT N1.o_ ah;have e0:=af _ w 0 _ _ _ nr;have e1:=af _ w 1 _ _ _ nr;have e2:=af _ w 2 _ _ _ nr;have e3:=af _ w 3 _ _ _ nr;have e4:=af _ w 4 _ _ _ nr;have f0:=aB nr 0;have f1:=aB nr 1;have f2:=aB nr 2;have f3:=aB nr 3;have f4:=aB nr 4;have N2:=ab nr;clear nr;have bn:=br aI ah;have iH:=bN (gF:=w.heap.size) ct aI.size;clear N1 ah ct))
 refine bodyPost_ret (np rfl _ _ w 147 (Eg id da S dc) (0,0) _ _ _ rfl rfl rfl (k_ (heap_setCell_same _ _ 4 _ _ (.slice da S.length dc) N2.o_) rfl _ _ _ _ _) underlying147 rfl (by kernel_rfl)) rfl ?_;by_cases hz:z=0
 ·subst hz;exact HR.o_ ⟨id,0,[],[],S⟩ u (.slice da S.length dc) _ (by have:=fZ.o_;rw [if_pos rfl] at this;exact this.symm) (Cx (heap_setCell_same _ _ 4 _ _ _ N2.o_) (by decide) _ _ _ _ _ _ _ _ _ (eF.tq N2.o_ (by decide) _ _ _ _ iH)) (gB (bn.setCell (Nat.le_refl _) _) (Nat.le_refl _) _ _ _ _ _)
 ·exact HF.o_ _ _ _ _ _ _ _ _ _ (by have:=fZ.o_;rw [if_neg hz] at this;exact this.symm) (by simp [hz]) (gB (bn.setCell (Nat.le_refl _) _) (Nat.le_refl _) _ _ _ _ _)
theorem Vh(id:Int)(hk:aO id=7)(b:List UInt8):dL id b=if (dq b).2.2=0 then (if (dq (b.drop (dq b).2.1.toNat)).2.2=0 then some (⟨id,0,(dq b).1,(dq (b.drop (dq b).2.1.toNat)).1,[]⟩,(dq b).2.1+(dq (b.drop (dq b).2.1.toNat)).2.1) else none) else none:=by unfold dL;rw [hk];rfl
theorem aes(id:Int)(hk:aO id=7)(v:Value)(b:List UInt8)(r:Option (Pr×Int))(hr:dL id b=r)(w:World)(hv:Bs w v b)(hT:di w)(R:Ending→World→Prop)
 (hR:∀p u d w',r=some (p,u)→w'.ownsRow w 5 1 d p.data.length (bv p.data)→Below w w w'→R (.returned (.tuple #[.agg (bz p d),.int .i64 u,.bool true])) w')
 (hF:∀n s t a m c u q w',r=none→q=false→Below w w w'→R (.returned (.tuple #[.agg #[.int .i64 id,.int .i64 n,.string s,.string t,.slice a m c],.int .i64 u,.bool q])) w'):
 Calls prog 212 #[.int .i64 id,v] w R:=by
 rw [Vh id hk] at hr;have HR:=ab hR;have HF:=ab hF;have HK:=ab hk;have HT:=ab hT;have HV:=ab hv;obtain ⟨ba,bc,rfl,_,eV,tG,_⟩:=_root_.id hv;clear hR hF hk hT hv;obtain ⟨⟨S,u,z⟩,hg⟩:∃g,dq b=g:=⟨_,rfl⟩
 rw [hg] at hr;simp only at hr;have HG:=ab hg;by_cases hz:z=0
 ·subst hz;obtain ⟨t1,t2,t3,_,_⟩:=Cv b S u hg;obtain ⟨j,rfl⟩:∃j:Nat,u=(j:Int):=⟨S.length+2,by omega⟩
  rw [if_pos rfl,toNat_natCast] at hr;obtain ⟨⟨S',u',z'⟩,jL⟩:∃g,dq (b.drop j)=g:=⟨_,rfl⟩
  rw [jL] at hr;simp only at hr;have Oy:=ab jL;have fZ:=ab hr;have hj:j≤b.length:=by omega
  have eE:(j:Int)≤70000:=by omega
  obtain ⟨La,df,bX⟩:=EH HV.o_ hj;have eZ:=ab bX;have hu:z'=0→0≤u'∧u'≤70000:=fun h=>by
   subst h;obtain ⟨q1,q2,_⟩:=Cv _ S' u' jL
   omega
  have HU:=ab hu;clear hg hr jL t1 t2 t3 bX hu;have N0:Hid ((w.alloc (Obj.cells (eY id) 147)).heap[w.heap.size]? =some (Obj.cells (eY id) 147)):=ab (heap_alloc_new w _);have cF:=(Below.refl w w).alloc (Nat.le_refl _) (Obj.cells (eY id) 147);go_enter func212,ntmps212;go_wp2_with (first
   |(go_at_call 189;go_must (refine i_ id 7 HK.o_ _ _ ?_);intro w1 aw;have nr:=bT N0.o_ aw;have e0:=af _ w 0 _ _ _ nr;have e1:=af _ w 1 _ _ _ nr;have e2:=af _ w 2 _ _ _ nr;have e3:=af _ w 3 _ _ _ nr;have e4:=af _ w 4 _ _ _ nr;have f0:=aB nr 0;have f1:=aB nr 1;have f2:=aB nr 2;have f3:=aB nr 3;have f4:=aB nr 4;have N1:=ab nr;clear nr;have aI:=br cF aw;have bP:=ab aw;clear N0 aw)
   |(go_at_call_of 108 (Value.slice ba b.length bc);go_must (refine Co _ b S j 0 HG.o_ _ (HV.o_.below aI) (HT.o_.below aI) _ ?_);intro w2 ah;clear e0 e1 e2 e3 e4 f0 f1 f2 f3 f4;have nr:=bT N1.o_ ah;have e0:=af _ w 0 _ _ _ nr;have e1:=af _ w 1 _ _ _ nr;have e2:=af _ w 2 _ _ _ nr;have e3:=af _ w 3 _ _ _ nr;have e4:=af _ w 4 _ _ _ nr;have f0:=aB nr 0;have f1:=aB nr 1;have f2:=aB nr 2;have f3:=aB nr 3;have f4:=aB nr 4;have N2:=ab nr;clear nr;have bn:=br aI ah;clear N1 ah)
   |(go_at_call 108;have cG:=bn.setCell (p:=⟨w,2,none⟩) (Nat.le_refl _) (.string (str S));go_must (refine Co _ (b.drop j) S' u' z' Oy.o_ _ (eZ.o_.below cG) (HT.o_.below cG) _ ?_);intro w4 ak;clear e0 e1 e2 e3 e4 f0 f1 f2 f3 f4;have nr:=bT (heap_setCell_same _ _ 2 _ _ (.string (str S)) N2.o_) ak;have e0:=af _ w 0 _ _ _ nr;have e1:=af _ w 1 _ _ _ nr;have e2:=af _ w 2 _ _ _ nr;have e3:=af _ w 3 _ _ _ nr;have e4:=af _ w 4 _ _ _ nr;have f0:=aB nr 0;have f1:=aB nr 1;have f2:=aB nr 2;have f3:=aB nr 3;have f4:=aB nr 4;have N4:=ab nr;clear nr;have eT:=br cG ak;clear N2 ak))
  refine bodyPost_ret (np rfl _ _ w 147 (Eh id S S') (0,0) _ _ _ rfl rfl rfl (k_ (heap_setCell_same _ _ 3 _ _ (.string (str S')) N4.o_) rfl _ _ _ _ _) underlying147 rfl (by kernel_rfl)) rfl ?_;by_cases hz:z'=0
  ·subst hz;have uF:=HU.o_ rfl;have ew:wrap64 ((j:Int)+u')=(j:Int)+u':=by unfold wrap64;omega
   rw [ew];exact HR.o_ ⟨id,0,S,S',[]⟩ (j+u') (.slice none 0 0) _ (by have:=fZ.o_;rw [if_pos rfl] at this;exact this.symm) (World.ownsRow_nil _ _ _ _) (gB (eT.setCell (Nat.le_refl _) _) (Nat.le_refl _) _ _ _ _ _)
  ·exact HF.o_ _ _ _ _ _ _ _ _ _ (by have:=fZ.o_;rw [if_neg hz] at this;exact this.symm) (by simp [hz]) (gB (eT.setCell (Nat.le_refl _) _) (Nat.le_refl _) _ _ _ _ _)
 ·obtain rfl:r=none:=by rw [←hr,if_neg hz]
  clear hg hr;have N0:Hid ((w.alloc (Obj.cells (eY id) 147)).heap[w.heap.size]? =some (Obj.cells (eY id) 147)):=ab (heap_alloc_new w _);have cF:=(Below.refl w w).alloc (Nat.le_refl _) (Obj.cells (eY id) 147);go_enter func212,ntmps212;go_wp2_with (first
   |(go_at_call 189;go_must (refine i_ id 7 HK.o_ _ _ ?_);intro w1 aw;have nr:=bT N0.o_ aw;have e0:=af _ w 0 _ _ _ nr;have e1:=af _ w 1 _ _ _ nr;have e2:=af _ w 2 _ _ _ nr;have e3:=af _ w 3 _ _ _ nr;have e4:=af _ w 4 _ _ _ nr;have f0:=aB nr 0;have f1:=aB nr 1;have f2:=aB nr 2;have f3:=aB nr 3;have f4:=aB nr 4;have N1:=ab nr;clear nr;have aI:=br cF aw;have bP:=ab aw;clear N0 aw)
   |(go_at_call_of 108 (Value.slice ba b.length bc);go_must (refine Co _ b S u z HG.o_ _ (HV.o_.below aI) (HT.o_.below aI) _ ?_);intro w2 ah;clear e0 e1 e2 e3 e4 f0 f1 f2 f3 f4;have nr:=bT N1.o_ ah;have e0:=af _ w 0 _ _ _ nr;have e1:=af _ w 1 _ _ _ nr;have e2:=af _ w 2 _ _ _ nr;have e3:=af _ w 3 _ _ _ nr;have e4:=af _ w 4 _ _ _ nr;have f0:=aB nr 0;have f1:=aB nr 1;have f2:=aB nr 2;have f3:=aB nr 3;have f4:=aB nr 4;have N2:=ab nr;clear nr;have bn:=br aI ah;clear N1 ah))
  refine bodyPost_ret (np rfl _ _ w 147 (B7 id S) (0,0) _ _ _ rfl rfl rfl (k_ (heap_setCell_same _ _ 2 _ _ (.string (str S)) N2.o_) rfl _ _ _ _ _) underlying147 rfl (by kernel_rfl)) rfl ?_;exact HF.o_ _ _ _ _ _ _ _ _ _ (by first|rfl|trivial) (by first|rfl|simp [hz]) (gB (bn.setCell (Nat.le_refl _) _) (Nat.le_refl _) _ _ _ _ _)
theorem Gd(id:Int):aO id=0∨aO id=1∨aO id=2∨aO id=3∨aO id=4∨aO id=5∨aO id=6∨aO id=7:=by
 unfold aO
 repeat' split
 all_goals omega
theorem aet(id:Int)(h:aO id=0):tF id=0:=by
 unfold aO at h;unfold tF
 repeat' split at h
 all_goals first|omega|skip
 repeat' split
 all_goals omega
theorem Oz(h:bR id wh=true):aO id≠0:=by
 intro h0;have:=aet id h0;unfold bR at h;rw [this] at h;cases h
theorem Vi(id:Int)(hk:aO id≠0)(v:Value)(b:List UInt8)(r:Option (Pr×Int))(hr:dL id b=r)(w:World)(hv:Bs w v b)(hT:di w)(R:Ending→World→Prop)
 (hR:∀p u d w',r=some (p,u)→w'.ownsRow w 5 1 d p.data.length (bv p.data)→Below w w w'→R (.returned (.tuple #[.agg (bz p d),.int .i64 u,.bool true])) w')
 (hF:∀n s t a m c u q w',r=none→q=false→Below w w w'→R (.returned (.tuple #[.agg #[.int .i64 id,.int .i64 n,.string s,.string t,.slice a m c],.int .i64 u,.bool q])) w'):
 Calls prog 212 #[.int .i64 id,v] w R:=by
 rcases Gd id with h|h|h|h|h|h|h|h
 ·exact absurd h hk
 ·exact aem id h v b r hr w hv hT R hR hF
 ·exact aen id h v b r hr w hv hT R hR hF
 ·exact aeo id h v b r hr w hv hT R hR hF
 ·exact aep id h v b r hr w hv hT R hR hF
 ·exact aeq id h v b r hr w hv hT R hR hF
 ·exact aer id h v b r hr w hv hT R hR hF
 ·exact aes id h v b r hr w hv hT R hR hF
end Go.Proofs.YtgimbocoamnkjaaGreatDoor
