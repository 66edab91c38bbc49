/- How arguments open, and what a row's listed variables give of the ground. -/
import Derived.Lib.LaidTab
import Derived.Laws.IdiomArrays
import Derived.Test.YtjekalilfhnpmaaGreatDoorM02
import Derived.Test.YtjekalilfhnpmaaGreatDoorM32
namespace Go.Proofs.YtjekalilfhnpmaaGreatDoor
open Go Go.ChangeShapes Go.WideShapes Go.ChangeAt Go.RowKit
set_option linter.unusedVariables false
set_option linter.unusedSimpArgs false
theorem tab_of_laid {W : World} {l : List (String × DataW Unit)} (h : laidMetH Tryz.prog l W)
    (hl : (l.filter fun x => x.1 == "internal/strconv.uint64pow10") = [("internal/strconv.uint64pow10", Lib.tabData .u64 Lib.pow10Tab)]) : Lib.TabIs Tryz.prog W "internal/strconv.uint64pow10" .u64 Lib.pow10Tab := by
  have h1 := laidMetH.filter (fun x => x.1 == "internal/strconv.uint64pow10") h
  rw [hl] at h1
  have h2 : laidMet Tryz.prog [("internal/strconv.uint64pow10", Lib.tabData .u64 Lib.pow10Tab)] W := (laidMetH_iff.1 h1).1
  exact Lib.tabIs_of_head (g := 13) (t := 345) (e := 277) (n := 20) (by kernel_rfl) (by kernel_rfl) Tryz.underlying345 Tryz.underlying277 (by kernel_rfl) (by kernel_rfl) h2
theorem db_of_laid {W : World} {l : List (String × DataW Unit)} (h : laidMetH Tryz.prog l W)
    (hl : (l.filter fun x => x.1 == "math/bits.deBruijn64tab") = [("math/bits.deBruijn64tab", Lib.tabData .u8 dbTab)]) : Lib.TabIs Tryz.prog W "math/bits.deBruijn64tab" .u8 dbTab := by
  have h1 := laidMetH.filter (fun x => x.1 == "math/bits.deBruijn64tab") h
  rw [hl] at h1
  have h2 : laidMet Tryz.prog [("math/bits.deBruijn64tab", Lib.tabData .u8 dbTab)] W := (laidMetH_iff.1 h1).1
  exact Lib.tabIs_of_head (g := 18) (t := 363) (e := 5) (n := 64) (by kernel_rfl) (by kernel_rfl) Tryz.underlying363 Tryz.underlying5 (by kernel_rfl) (by kernel_rfl) h2
set_option maxRecDepth 100000 in
theorem open_vec {H : Type} {enc : TypeId × Value → H} {W : World} {r : Reach} {b0 base : Nat} {sp : Nat → Bool} {held : Bool} {v : Value} {d : DataW H} {p : List MemPlace}
    (o : Value.okWide Tryz.prog W r b0 47 v) (h : DataW.Trod enc Tryz.prog W base sp held 47 v d p) :
    ∃ a b c d : Int, v = .agg #[.int .i64 a, .int .i64 b, .int .i64 c, .int .i64 d] ∧ (Lit.int .i64 a).wf = true ∧ (Lit.int .i64 b).wf = true ∧ (Lit.int .i64 c).wf = true ∧ (Lit.int .i64 d).wf = true := by
  obtain ⟨cs, rfl, hsz, _⟩ : ∃ cs, v = .agg cs ∧ cs.size = Tryz.prog.cellsOf 47 ∧ Row.okWide Tryz.prog W r b0 47 cs := by
    simpa [Value.okWide, Tryz.underlying47] using o
  have h4 : Tryz.prog.cellsOf 47 = 4 := by kernel_rfl
  obtain ⟨c0, c1, c2, c3, rfl⟩ := Joins.array4 (hsz.trans h4)
  obtain ⟨fuel, hf⟩ := h
  obtain ⟨y0, y1, y2, y3, m, hx, hy0, hy1, hy2, hy3⟩ := trod_array4 Tryz.underlying47 (by kernel_rfl) hf
  obtain ⟨x0, e0, _, w0⟩ := DataW.trod_int Tryz.underlying3 hy0
  obtain ⟨x1, e1, _, w1⟩ := DataW.trod_int Tryz.underlying3 hy1
  obtain ⟨x2, e2, _, w2⟩ := DataW.trod_int Tryz.underlying3 hy2
  obtain ⟨x3, e3, _, w3⟩ := DataW.trod_int Tryz.underlying3 hy3
  simp at e0 e1 e2 e3
  subst e0 e1 e2 e3
  exact ⟨x0, x1, x2, x3, rfl, w0, w1, w2, w3⟩
/-- the flags of a list -/
def flagsOf (l : List Nat) : Nat → Bool := fun k => l.contains k
theorem gd_errs {a : Nat → Addr} {l : List Nat} {W : World} (hE : Errs a l W) (k : Nat) (hf : flagsOf l k = true) : ErrAt W (errG k) (errT k) (a k) := hE k (by simpa [flagsOf] using hf)
set_option maxRecDepth 100000 in
theorem len_of_shaped {W : World} (h : W.ShapedOpen Tryz.prog) : ∃ m, W.cell? ⟨14, 0, none⟩ = some (.int .i64 m) := by
  first | exact Tryz.laysM146.s1_3 W h | exact Tryz.laysM143.s1_3 W h
/-- a law's row from its walk: what is listed, and the world's shape, go to the walk -/
theorem returns_shaped {H : Type} {enc : TypeId × Value → H} {os : Os} {f : FuncId} {fn : Func} {s : ChangeSpec} {C : Checked} {l : List (String × DataW Unit)} (own : ownKnob C.prog.godebug = none) (started : os.Started) (noInit : C.prog.inits.idxOf? f = none) (hfn : C.prog.funcs[f]? = some fn)
    (wit : ∃ (w : World) (tape : Tape) (i : Input), w.os = os ∧ (w.forCall tape i).Shaped C.prog ∧ i.vars = [] ∧ Input.okWide C.prog (w.forCall tape i) .any w.heap.size f i ∧
      ((s.pre enc C.prog fn [] false (w.forCall tape i).memory i.args ∧ laidMetH C.prog l (w.forCall tape i).memory) ∧ sizedMet enc C.prog fn (OpenSpec.ofChange s) false (w.forCall tape i).memory i.args) ∧ ({} : Assume).holds C.prog (lone (Frame.enter C.prog f i.args .normal) [] (w.forCall tape i)))
    (go : ∀ (W : World) (base : Nat) (args : Array Value) (ds gs : List (DataW H)) (before : List MemPlace), (∀ (j : Nat) t v, fn.params[j]? = some t → args[j]? = some v → Value.okWide C.prog W .any base t v) →
      DataW.Whole enc C.prog fn.params.toList s.vars false W args.toList ds gs before → laidMetH C.prog l W → W.ShapedOpen C.prog →
      Calls C.prog f args W fun e W' => ∃ v, e = .returned v ∧ s.post enc C.prog fn false true false false W args v W') :
    ReturnsInHanded {} C os f .any (fun w args => (s.pre enc C.prog fn [] false w args ∧ laidMetH C.prog l w) ∧ sizedMet enc C.prog fn (OpenSpec.ofChange s) false w args) (s.post enc C.prog fn false true false false) := by
  refine returnsInHanded_of_calls own started noInit wit fun w tape i _ hsh _ hok hpre _ => ?_
  obtain ⟨_, _, _, fn2, hfn2, _, _, _, _, hval⟩ := hok
  cases Option.some.inj (hfn2.symm.trans hfn)
  obtain ⟨⟨⟨ds, gs, before, hw, _⟩, hl⟩, _⟩ := hpre
  have hw2 := DataW.Whole.of_heap (w' := w.forCall tape i) (by rfl) hw
  exact (go (w.forCall tape i) w.heap.size i.args ds gs before hval hw2 (hl.of_heap (by rfl)) hsh).mono fun _ _ ⟨v, he, hp⟩ => by
    cases he
    exact ChangeSpec.post_blind hp
end Go.Proofs.YtjekalilfhnpmaaGreatDoor
