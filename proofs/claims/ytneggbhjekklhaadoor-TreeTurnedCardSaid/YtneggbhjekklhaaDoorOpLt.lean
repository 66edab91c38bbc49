/- Operations by stamp: plain. -/
import Derived.Test.YtneggbhjekklhaaDoorSortW
import Derived.Test.YtneggbhjekklhaaDoorOpE
namespace Go.Proofs.YtneggbhjekklhaaDoor
open Go Go.RowKit Go.Shelf Go.Lib Go.Sort Stb
set_option linter.unusedVariables false
set_option linter.unusedSimpArgs false
set_option maxHeartbeats 4000000
set_option maxRecDepth 1000000

def opLt (x y : OpT) : Bool := decide (x.t < y.t ∨ x.t = y.t ∧ x.b < y.b)
def opCmp (x y : OpT) : Int := if opLt x y then -1 else if opLt y x then 1 else 0
theorem swo_opLt : SWO opLt where
  irrefl x := by unfold opLt; simp
  trans x y z h1 h2 := by unfold opLt at *; simp at *; omega
  ntrans x y z h1 h2 := by unfold opLt at *; simp at *; omega
/-- .. with marks -/
def cmpTag (x y : OpT × Nat) : Int := opCmp x.1 y.1
theorem ltOf_cmpTag : ltOf cmpTag = fun x y : OpT × Nat => opLt x.1 y.1 := by
  funext x y
  unfold ltOf cmpTag opCmp
  cases e1 : opLt x.1 y.1 <;> cases e2 : opLt y.1 x.1 <;> simp
abbrev sortOps (L : List OpT) : List OpT := sortL opLt L

end Go.Proofs.YtneggbhjekklhaaDoor
