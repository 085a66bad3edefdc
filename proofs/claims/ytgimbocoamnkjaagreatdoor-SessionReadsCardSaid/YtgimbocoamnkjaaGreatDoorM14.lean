/- A part of the proof of SessionReads; no conditions. -/
import Derived.Test.YtgimbocoamnkjaaGreatDoorM05
set_option maxRecDepth 100000
set_option maxHeartbeats 16000000
namespace Go.Proofs.YtgimbocoamnkjaaGreatDoor
open _root_.Go.Proofs.Tryz
open Go.RowKit
theorem al0(fm:Int)(h1:0≤fm)(_: -9223372036854775808≤fm)(_:fm≤9223372036854775807)(cv rv uv:Value)(co cr us:List UInt8)(L:List Pr)(hL:mJ fm co cr us=L)(aw4 w:World)(A2:Below aw4 aw4 w)(A3:Bs aw4 cv co)(fL:Bs aw4 rv cr)(rH:Bs aw4 uv us)(R:ak)
 (I:∀Y c ds w',OP aw4 w.heap.size w' Y L.length c ds L→Below w w w'→R (.returned (.slice Y L.length c)) w'):
 Calls prog 39 #[.agg #[E fm,cv,rv,uv]] w R:=by
 have HR:=Z I;obtain⟨ca,cc,rfl,_⟩:=id A3;obtain⟨ra,rc,rfl,_⟩:=id fL;obtain⟨ua,uc,rfl,_⟩:=id rH;have aM:Below w w (w.alloc (.cells #[E fm,.slice ca co.length cc,.slice ra cr.length rc,.slice ua us.length uc] 24)):=aD _ _;have tO:=Z (aH w (.cells #[E fm,.slice ca co.length cc,.slice ra cr.length rc,.slice ua us.length uc] 24));have pG:Hid (OL aw4 w (w.alloc (.cells #[E fm,.slice ca co.length cc,.slice ra cr.length rc,.slice ua us.length uc] 24)) none 0 0 [] []):=OL.nil aw4 w _ A2 aM;obtain⟨aby,oW,TZ,oI,kN⟩:=jq A3 fL rH hL A2;clear I A3 fL rH hL A2;obtain⟨l0,pz⟩:∃l0,(if 0≤fm then [(⟨1,bits .and .i64 fm 1,[],[],[]⟩:Pr)] else [])++(if 0<co.length then [⟨3,0,e_ co,[],[]⟩] else [])++(if 0<cr.length then [⟨9,0,[],[],cr.take 30⟩] else [])=l0:=⟨_,rfl⟩
 have abA:Hid (L=l0++(us.take 4).map fun u=>⟨38,0,e_ [u],e_ us,[]⟩):=by show _=_;rw[←oI.O,←pz];rfl
 have Pm:=Z pz;clear pz oI;obtain⟨C,hC⟩:=ai (cr.take (30:Int).toNat);have mz:C.length≤140737488351232:=by rw[←hC,bS];have:=Nat.min_le_left (30:Int).toNat cr.length;omega
 rw[show List.take 30 cr=C from hC] at Pm;have HC:=Z hC;have mB:=Z mz;clear hC mz;obtain⟨c0,c1,c2,c3⟩:=Ck tO.O;by_cases h2:(0:Int)<(co.length:Int)
 ·have Pn:0<co.length:=by omega
  by_cases h3:(0:Int)<(cr.length:Int)
  ·have DS:0<cr.length:=by omega
   exact DR
  have DS:¬0<cr.length:=by omega
  exact DR
 have Pn:¬0<co.length:=by omega
 by_cases h3:(0:Int)<(cr.length:Int)
 ·have DS:0<cr.length:=by omega
  exact DR
 have DS:¬0<cr.length:=by omega
 exact DR
