/- Vectors: tame, Order, Lacks. -/
import Derived.Test.YthlojjknpfijmaaDoorCovers
import Derived.Test.YthlojjknpfijmaaDoorStr
import Derived.LoopN
namespace Go.Proofs.YthlojjknpfijmaaDoor
open Go Go.RowKit
set_option linter.unusedVariables false
set_option linter.unusedSimpArgs false
set_option maxHeartbeats 4000000
set_option maxRecDepth 100000

def tameB (a b c d : Int) : Bool := decide ((-1099511627776 ≤ a ∧ a ≤ 1099511627776) ∧ (-1099511627776 ≤ b ∧ b ≤ 1099511627776) ∧ (-1099511627776 ≤ c ∧ c ≤ 1099511627776) ∧ (-1099511627776 ≤ d ∧ d ≤ 1099511627776))



def ordV (a b c d e f g h : Int) : Int := if a = e ∧ b = f ∧ c = g ∧ d = h then 0 else if e ≤ a ∧ f ≤ b ∧ g ≤ c ∧ h ≤ d then 1 else if a ≤ e ∧ b ≤ f ∧ c ≤ g ∧ d ≤ h then -1 else 2
def coversB (a b c d e f g h : Int) : Bool := decide (e ≤ a ∧ f ≤ b ∧ g ≤ c ∧ h ≤ d)
theorem covers_b (x : Bool) (a b c d e f g h : Int) (w : World) (hx : coversB a b c d e f g h = x) :
    Calls Tryd.prog 22 #[vecV a b c d, vecV e f g h] w fun r w' => r = .returned (.bool x) ∧ Below w.heap.size w w' := by
  subst hx
  exact covers_any a b c d e f g h w


/-- the numbers of a vector by their places -/
def nth (a b c d : Int) : Nat → Int | 0 => a | 1 => b | 2 => c | _ => d
def lk (x y : Nat → Int) : Nat → Int | 0 => 0 | j + 1 => lk x y j + max 0 (y j - x j)
theorem lk_bd (x y : Nat → Int) (h : ∀ j, max 0 (y j - x j) ≤ 2199023255552) : ∀ j : Nat, 0 ≤ lk x y j ∧ lk x y j ≤ 2199023255552 * j
  | 0 => by simp [lk]
  | j + 1 => by
    have := lk_bd x y h j
    have := h j
    simp only [lk]
    omega

structure LSt (w0 : World) (B : Nat) (x y : Nat → Int) (w : World) : Prop where
  c0 : ∀ j, j < 4 → w.cell? ⟨B, j, none⟩ = some (.int .i64 (x j))
  c1 : ∀ j, j < 4 → w.cell? ⟨B + 1, j, none⟩ = some (.int .i64 (y j))
  bel : Below w0.heap.size w0 w
theorem LSt.drew {w0 : World} {B : Nat} {x y : Nat → Int} {w : World} (h : LSt w0 B x y w) : LSt w0 B x y w.drew := ⟨h.c0, h.c1, h.bel.drew⟩


