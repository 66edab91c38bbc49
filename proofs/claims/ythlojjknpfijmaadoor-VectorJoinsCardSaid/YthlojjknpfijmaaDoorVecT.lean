/- Vectors: their faults, told by the document and by the program. -/
import Derived.Test.YthlojjknpfijmaaDoorVecs
import Derived.Test.YthlojjknpfijmaaDoorGd
namespace Go.Proofs.YthlojjknpfijmaaDoor
open Go Go.RowKit
set_option linter.unusedVariables false
set_option linter.unusedSimpArgs false
set_option maxHeartbeats 4000000
set_option maxRecDepth 100000

/-- the place of a vector's fault (-1: none) -/
def vfAt (a b c d : Int) : Int := if a < 0 ∨ 400 < a then 0 else if b < 0 ∨ 400 < b then 1 else if c < 0 ∨ 400 < c then 2 else if d < 0 ∨ 400 < d then 3 else -1
def vfK (a b c d : Int) : Nat := if vfAt a b c d < 0 then 0 else 2
def vfCode (a b c d : Int) : Int := if vfAt a b c d < 0 then 0 else 2
abbrev faultS (c p : Int) : Value := .agg #[.int .i64 c, .int .i64 p]
theorem ret_fault {a b c d : Int} (h1 : a = c) (h2 : b = d) : Ending.returned (faultS a b) = .returned (faultS c d) := by rw [h1, h2]

theorem vfAt_0 {a b c d : Int} (h : a < 0 ∨ 400 < a) : vfAt a b c d = 0 := by unfold vfAt; rw [if_pos h]
theorem vfAt_1 {a b c d : Int} (h0 : ¬ (a < 0 ∨ 400 < a)) (h : b < 0 ∨ 400 < b) : vfAt a b c d = 1 := by unfold vfAt; rw [if_neg h0, if_pos h]
theorem vfAt_2 {a b c d : Int} (h0 : ¬ (a < 0 ∨ 400 < a)) (h1 : ¬ (b < 0 ∨ 400 < b)) (h : c < 0 ∨ 400 < c) : vfAt a b c d = 2 := by unfold vfAt; rw [if_neg h0, if_neg h1, if_pos h]
theorem vfAt_3 {a b c d : Int} (h0 : ¬ (a < 0 ∨ 400 < a)) (h1 : ¬ (b < 0 ∨ 400 < b)) (h2 : ¬ (c < 0 ∨ 400 < c)) (h : d < 0 ∨ 400 < d) : vfAt a b c d = 3 := by unfold vfAt; rw [if_neg h0, if_neg h1, if_neg h2, if_pos h]
theorem vfAt_n {a b c d : Int} (h0 : ¬ (a < 0 ∨ 400 < a)) (h1 : ¬ (b < 0 ∨ 400 < b)) (h2 : ¬ (c < 0 ∨ 400 < c)) (h3 : ¬ (d < 0 ∨ 400 < d)) : vfAt a b c d = -1 := by unfold vfAt; rw [if_neg h0, if_neg h1, if_neg h2, if_neg h3]
theorem fault_is {a b c d j : Int} (h : vfAt a b c d = j) (h0 : 0 ≤ j) : Ending.returned (faultS 2 j) = .returned (faultS (vfCode a b c d) (vfAt a b c d)) := by
  unfold vfCode
  rw [h, if_neg (by omega)]

theorem fault_none {a b c d : Int} (h : vfAt a b c d = -1) : Ending.returned (faultS 0 (-1)) = .returned (faultS (vfCode a b c d) (vfAt a b c d)) := by
  unfold vfCode
  rw [h, if_pos (by omega)]




end Go.Proofs.YthlojjknpfijmaaDoor
