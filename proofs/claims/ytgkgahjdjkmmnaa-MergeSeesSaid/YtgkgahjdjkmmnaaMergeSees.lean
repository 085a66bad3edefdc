/- The law MergeSees, walked. -/
import Derived.Test.YtgkgahjdjkmmnaaSeesA
import Derived.Test.YtgkgahjdjkmmnaaSeesB
namespace Go.Proofs.Ytgkgahjdjkmmnaa
open Go.ChangeShapes Go.WideShapes Go.ChangeAt Go.RowKit

theorem sees_law (v u x : Value) (l : List Ent) (bt : Bool) (ss : List Int) (ks : List (List UInt8)) (w : World) (hv : Es w v l) (hu : Is w u ss) (hk : Ks w x ks) (R : Ending → World → Prop)
    (hR : ∀ w', Below w.heap.size w w' → R (.returned (.bool true)) w') :
    Calls Try.prog 6 #[v, .bool bt, u, x] w R := by
  by_cases hs : 10 < ss.length
  · exact sees_big v u x l bt ss ks w hv hu hk hs R hR
  · exact sees_small v u x l bt ss ks w hv hu hk hs R hR
end Go.Proofs.Ytgkgahjdjkmmnaa
