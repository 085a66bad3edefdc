/- The statement SessionReads holds for the program, as the card says it; no conditions beyond the statement's own. -/
import Derived.Test.YtgimbocoamnkjaaGreatDoorM28
set_option maxRecDepth 100000
set_option maxHeartbeats 16000000
namespace Go.Proofs.YtgimbocoamnkjaaGreatDoor
open _root_.Go.Proofs.Tryz
open Go.Shelf Go.ChangeShapes Go.WideShapes Go.ChangeAt Go.RowKit Go.Lib
theorem at3(H:Type)(enc:TypeId×Value→H)(aw4:World)(base:Nat)(args:Array Value)(ds gs:List (DataW H))(before:List MemPlace)
 (ki:∀(j:Nat) t v,Tryz.f5.params[j]? =some t→args[j]? =some v→Value.okWide prog aw4 .any base t v)
 (hW:DataW.Whole enc prog Tryz.f5.params.toList Rows.sessionReadsSpec.vars false aw4 args.toList ds gs before) (hL:laidMetH prog Ni aw4) (bt:(DataW.weightsEach prog (Tryz.f5.params.toList++(OpenSpec.ofChange Rows.sessionReadsSpec).bare.plain.varTypes prog) (ds++gs)).all (· ≤reachBytes)=true):
 Calls prog 5 args aw4 fun e W'=>∃v,e= .returned v∧Rows.sessionReadsSpec.post enc prog Tryz.f5 false true false false aw4 args v W':=by
 have agL:=hW;obtain⟨p,q,hA0,hV,rfl,qW,XZ⟩:=hW;have hA:DataW.TrodAll enc prog aw4 0 (fun _=>true) true Tryz.f5.params.toList args.toList ds p:=hA0;have au:∀x∈p,x.block<aw4.heap.size:=fun x F=>by have:=agL.lt x;simp at this;exact this (.inl F)
 have hT:dy aw4:=ag0 hL;obtain⟨rfl,rfl⟩:=trodVars_none hV;have at4:=fun (W':World)(U:Below aw4 aw4 W')=>Xs (P:=prog) (by kernel_rfl) U _ _ _ _ (by
  have j4:(Tryz.f5.params.toList.all fun t=>prog.readableRec t&&decide (t<prog.types.size))=true:=by kernel_rfl
  intro t ht;have:=List.all_eq_true.1 j4 t ht
  simpa using this) hA au
 rw[Tryz.params5] at hA ki;obtain⟨v0,v1,v2,v3,d0,d1,d2,d3,p0,p1,p2,p3,rfl,rfl,rfl,h0,h1,h2,h3⟩:=trodAll_four hA;obtain⟨va,vl,vc,rfl⟩:∃a n c,v0= .slice a n c:=okWide_slice underlying55 (ki 0 55 v0 rfl rfl);obtain⟨fu,I1⟩:=h0;obtain⟨l,hl⟩:=anW (fun _=>rfl) I1 (anB bt (j:=0) (by kernel_rfl) rfl);obtain⟨b,U,_⟩:=agU underlying22 underlying5 (by kernel_rfl) h1 (okWide_slice underlying22 (ki 1 22 v1 rfl rfl)) (fun _=>rfl);obtain⟨at_,rfl,rfl,rfl,_⟩:=open_int underlying3 (ki 2 3 v2 rfl rfl) h2;obtain⟨Bn,rfl,rfl,rfl,wb⟩:=open_int underlying5 (ki 3 5 v3 rfl rfl) h3;obtain⟨agv,qt⟩:0≤Bn∧Bn≤255:=by
  simp[Lit.wf,IntKind.min,IntKind.max,IntKind.signed,IntKind.bits] at wb
  omega
 clear hA0;have fin:∀W',Below aw4 aw4 W'→∃v,Ending.returned (Value.bool true)= .returned v∧Rows.sessionReadsSpec.post enc prog Tryz.f5 false true false false aw4 _ v W':=fun W' U=>
  ⟨_,rfl,_,_,_,[],_,[],agL,trodAll_mk1 (shut_bool underlying4 _),at4 W' U,rfl,U.frame _,fun h=>by cases h⟩
 exact atM l _ _ b at_ Bn agv qt aw4 hT hl U _ fin
theorem reads(os:Os){H:Type}(enc:TypeId×Value→H):∃places,DataW.whole enc prog ((laidWorld os).forCall (fun _ _=>0) ⟨#[],#[.slice none 0 0,.slice none 0 0,E 0,.int .u8 0],[]⟩).memory Tryz.f5.params.toList Rows.sessionReadsSpec.vars false (#[.slice none 0 0,.slice none 0 0,E 0,.int .u8 0]:Array Value).toList 8=some ([.nil,.nil,.lit (E 0),.lit (.int .u8 0)],[],places):=
 ⟨[],by kernel_rfl⟩
theorem lifted(os:Os)(started:os.Started)(H:Type)(enc:TypeId×Value→H)(awX:Stop.Interp):
 ReturnsInHanded {} Tryz.checked os 5 .any ((OpenSpec.ofChange Rows.sessionReadsSpec).preRow enc prog Tryz.f5 Rows.sessionReadsRow.domain false Rows.sessionReadsRow.laid) (((OpenSpec.ofChange Rows.sessionReadsSpec).at awX).post enc prog Tryz.f5 false true false false):=by
 obtain⟨places,F⟩:=reads os enc;refine returnsInHanded_of_row (C:=Tryz.checked) (s:=OpenSpec.ofChange Rows.sessionReadsSpec) own started (by kernel_rfl) func5
  (witness_row_atRef (enc:=enc) (C:=Tryz.checked) false (laidWorld os) #[.slice none 0 0,.slice none 0 0,E 0,.int .u8 0] rfl (by kernel_rfl) (by kernel_rfl) (by kernel_rfl)
    (OpenSpec.preRow_of_cond 8 F (by kernel_rfl) (fun k G=>by cases G) (by kernel_rfl) (agX os _))) ?_
 intro aw4 base args ds gs before ki hW _ _ bt hL _ _;exact at3 H enc aw4 base args ds gs before ki hW hL bt
theorem said:Rows.SessionReadsSaid:=
 OpenClaim.holds_of_cond 5 Tryz.f5 rfl rfl rfl rfl rfl rfl rfl ⟨rfl,rfl,rfl,rfl,rfl⟩ rfl rfl rfl rfl rfl (by kernel_rfl) func5 (by kernel_rfl)
  (of_decide_eq_true (by kernel_rfl)) (by unfold Func.isWrapper;rw[if_neg (of_decide_eq_false (by kernel_rfl))];exact⟨rfl,rfl⟩)
  (fun os started H enc _ awX=>by rw[OpenClaim.pre_eq_preRow];exact lifted os started H enc awX)
theorem plain(f:FuncId)(fn:Func)(hf:Tryz.pinned.checked.prog.funcNamed "tidings/tidingslaw20.SessionReads" =some f)(afs:Tryz.pinned.checked.prog.funcs[f]? =some fn):
 false=Tryz.pinned.checked.prog.looks []∧∀(j:Nat) t,fn.params[j]? =some t→Tryz.pinned.checked.prog.wantsStandIn t=false:=by
 obtain rfl:f=5:=Option.some.inj ((show prog.funcNamed "tidings/tidingslaw20.SessionReads" =some 5 by kernel_rfl).symm.trans hf) |>.symm
 obtain rfl:fn=Tryz.f5:=(Option.some.inj (func5.symm.trans afs)).symm;refine⟨by kernel_rfl,fun j t ht=> ?_⟩;have j4:(Tryz.f5.params.toList.all fun t=> !(prog.wantsStandIn t))=true:=by kernel_rfl
 have:=List.all_eq_true.1 j4 t (by rw[←Array.mem_def];exact Array.mem_of_getElem? ht);exact(by simpa using this:prog.wantsStandIn t=false)
namespace sessionReadsClaim
theorem card:Rows.SessionReadsCardSaid:=
 Claim7.holds_tied_plain_at .later [] _ _ _ _ said (fun _ h=>by cases h) (by kernel_rfl) (fun _ h=>by cases h) sessionReads_row_tie rfl ⟨rfl,rfl⟩ (by kernel_rfl) rfl plain (by kernel_rfl)
