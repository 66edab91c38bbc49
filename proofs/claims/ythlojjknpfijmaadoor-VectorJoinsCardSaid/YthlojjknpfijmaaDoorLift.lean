/- How arguments open, and what a row's listed variables give of the ground. -/
import Derived.Test.YthlojjknpfijmaaDoorGd
import Derived.Test.YthlojjknpfijmaaDoorLaid
import Derived.Lib.LaidTab
import Derived.Laws.IdiomArrays
namespace Go.Proofs.YthlojjknpfijmaaDoor
open Go Go.ChangeShapes Go.WideShapes Go.ChangeAt Go.RowKit
set_option linter.unusedVariables false
set_option linter.unusedSimpArgs false

theorem tab_of_laid {W : World} {l : List (String × DataW Unit)} (h : laidMetH Tryd.prog l W)
    (hl : (l.filter fun x => x.1 == "internal/strconv.uint64pow10") = [("internal/strconv.uint64pow10", Lib.tabData .u64 Lib.pow10Tab)]) : Lib.TabIs Tryd.prog W "internal/strconv.uint64pow10" .u64 Lib.pow10Tab := by
  have h1 := laidMetH.filter (fun x => x.1 == "internal/strconv.uint64pow10") h
  rw [hl] at h1
  have h2 : laidMet Tryd.prog [("internal/strconv.uint64pow10", Lib.tabData .u64 Lib.pow10Tab)] W := (laidMetH_iff.1 h1).1
  exact Lib.tabIs_of_head (g := 16) (t := 286) (e := 226) (n := 20) (by kernel_rfl) (by kernel_rfl) Tryd.underlying286 Tryd.underlying226 (by kernel_rfl) (by kernel_rfl) h2

set_option maxRecDepth 100000 in
theorem open_vec {H : Type} {enc : TypeId × Value → H} {W : World} {r : Reach} {b0 base : Nat} {sp : Nat → Bool} {held : Bool} {v : Value} {d : DataW H} {p : List MemPlace}
    (o : Value.okWide Tryd.prog W r b0 38 v) (h : DataW.Trod enc Tryd.prog W base sp held 38 v d p) :
    ∃ a b c d : Int, v = .agg #[.int .i64 a, .int .i64 b, .int .i64 c, .int .i64 d] ∧ (Lit.int .i64 a).wf = true ∧ (Lit.int .i64 b).wf = true ∧ (Lit.int .i64 c).wf = true ∧ (Lit.int .i64 d).wf = true := by
  obtain ⟨cs, rfl, hsz, _⟩ : ∃ cs, v = .agg cs ∧ cs.size = Tryd.prog.cellsOf 38 ∧ Row.okWide Tryd.prog W r b0 38 cs := by
    simpa [Value.okWide, Tryd.underlying38] using o
  have h4 : Tryd.prog.cellsOf 38 = 4 := by kernel_rfl
  obtain ⟨c0, c1, c2, c3, rfl⟩ := Joins.array4 (hsz.trans h4)
  obtain ⟨fuel, hf⟩ := h
  obtain ⟨y0, y1, y2, y3, m, hx, hy0, hy1, hy2, hy3⟩ := trod_array4 Tryd.underlying38 (by kernel_rfl) hf
  obtain ⟨x0, e0, _, w0⟩ := DataW.trod_int Tryd.underlying3 hy0
  obtain ⟨x1, e1, _, w1⟩ := DataW.trod_int Tryd.underlying3 hy1
  obtain ⟨x2, e2, _, w2⟩ := DataW.trod_int Tryd.underlying3 hy2
  obtain ⟨x3, e3, _, w3⟩ := DataW.trod_int Tryd.underlying3 hy3
  simp at e0 e1 e2 e3
  subst e0 e1 e2 e3
  exact ⟨x0, x1, x2, x3, rfl, w0, w1, w2, w3⟩

/-- the flags of a list -/
def flagsOf (l : List Nat) : Nat → Bool := fun k => l.contains k
theorem gd_errs {a : Nat → Addr} {l : List Nat} {W : World} (hE : Errs a l W) (k : Nat) (hf : flagsOf l k = true) : ErrAt W (errG k) (errT k) (a k) := hE k (by simpa [flagsOf] using hf)

end Go.Proofs.YthlojjknpfijmaaDoor
