/- How arguments open, and what a row's listed variables give of the ground. -/
import Derived.Test.YtneggbhjekklhaaDoorGd
import Derived.Test.YtneggbhjekklhaaDoorLaid
import Derived.Lib.LaidTab
import Derived.Laws.IdiomArrays
namespace Go.Proofs.YtneggbhjekklhaaDoor
open Go Go.ChangeShapes Go.WideShapes Go.ChangeAt Go.RowKit
set_option linter.unusedVariables false
set_option linter.unusedSimpArgs false

theorem tab_of_laid {W : World} {l : List (String × DataW Unit)} (h : laidMetH Tryd.prog l W)
    (hl : (l.filter fun x => x.1 == "internal/strconv.uint64pow10") = [("internal/strconv.uint64pow10", Lib.tabData .u64 Lib.pow10Tab)]) : Lib.TabIs Tryd.prog W "internal/strconv.uint64pow10" .u64 Lib.pow10Tab := by
  have h1 := laidMetH.filter (fun x => x.1 == "internal/strconv.uint64pow10") h
  rw [hl] at h1
  have h2 : laidMet Tryd.prog [("internal/strconv.uint64pow10", Lib.tabData .u64 Lib.pow10Tab)] W := (laidMetH_iff.1 h1).1
  exact Lib.tabIs_of_head (g := 16) (t := 249) (e := 174) (n := 20) (by kernel_rfl) (by kernel_rfl) Tryd.underlying249 Tryd.underlying174 (by kernel_rfl) (by kernel_rfl) h2

theorem db_of_laid {W : World} {l : List (String × DataW Unit)} (h : laidMetH Tryd.prog l W)
    (hl : (l.filter fun x => x.1 == "math/bits.deBruijn64tab") = [("math/bits.deBruijn64tab", Lib.tabData .u8 dbTab)]) : Lib.TabIs Tryd.prog W "math/bits.deBruijn64tab" .u8 dbTab := by
  have h1 := laidMetH.filter (fun x => x.1 == "math/bits.deBruijn64tab") h
  rw [hl] at h1
  have h2 : laidMet Tryd.prog [("math/bits.deBruijn64tab", Lib.tabData .u8 dbTab)] W := (laidMetH_iff.1 h1).1
  exact Lib.tabIs_of_head (g := 20) (t := 263) (e := 5) (n := 64) (by kernel_rfl) (by kernel_rfl) Tryd.underlying263 Tryd.underlying5 (by kernel_rfl) (by kernel_rfl) h2


/-- the flags of a list -/
def flagsOf (l : List Nat) : Nat → Bool := fun k => l.contains k
theorem gd_errs {a : Nat → Addr} {l : List Nat} {W : World} (hE : Errs a l W) (k : Nat) (hf : flagsOf l k = true) : ErrAt W (errG k) (errT k) (a k) := hE k (by simpa [flagsOf] using hf)

theorem syn_of_laid {W : World} {l : List (String × DataW Unit)} (h : laidMetH Tryd.prog l W)
    (hl : (l.filter fun x => x.1 == "strconv.ErrSyntax") = [("strconv.ErrSyntax", .iface "*errors.errorString" (.ptr (.agg [.lit (.string [105, 110, 118, 97, 108, 105, 100, 32, 115, 121, 110, 116, 97, 120])])))]) : ∃ tp p, W.var? Tryd.prog "strconv.ErrSyntax" = some #[.iface tp p] := by
  have h1 := laidMetH.filter (fun x => x.1 == "strconv.ErrSyntax") h
  rw [hl] at h1
  have h2 := (laidMetH_iff.1 h1).1
  obtain ⟨a, s, hv, _⟩ := laid_sentinel' (g := 13) (ti := 32) (tp := 252) (te := 254) (ts := 9) h2 (by kernel_rfl) (by kernel_rfl) Tryd.underlying32 errType Tryd.underlying252 Tryd.underlying254 rfl rfl Tryd.underlying9 (by kernel_rfl) (by kernel_rfl)
  exact ⟨_, _, hv⟩
theorem rng_of_laid {W : World} {l : List (String × DataW Unit)} (h : laidMetH Tryd.prog l W)
    (hl : (l.filter fun x => x.1 == "strconv.ErrRange") = [("strconv.ErrRange", .iface "*errors.errorString" (.ptr (.agg [.lit (.string [118, 97, 108, 117, 101, 32, 111, 117, 116, 32, 111, 102, 32, 114, 97, 110, 103, 101])])))]) : ∃ tp p, W.var? Tryd.prog "strconv.ErrRange" = some #[.iface tp p] := by
  have h1 := laidMetH.filter (fun x => x.1 == "strconv.ErrRange") h
  rw [hl] at h1
  have h2 := (laidMetH_iff.1 h1).1
  obtain ⟨a, s, hv, _⟩ := laid_sentinel' (g := 14) (ti := 32) (tp := 252) (te := 254) (ts := 9) h2 (by kernel_rfl) (by kernel_rfl) Tryd.underlying32 errType Tryd.underlying252 Tryd.underlying254 rfl rfl Tryd.underlying9 (by kernel_rfl) (by kernel_rfl)
  exact ⟨_, _, hv⟩
set_option maxRecDepth 100000 in
theorem len_of_shaped {W : World} (h : W.ShapedOpen Tryd.prog) : ∃ m, W.cell? ⟨15, 0, none⟩ = some (.int .i64 m) := by
  have := Tryd.laysM146.s1_3 W h
  exact this

/-- a law's row from its walk: what is listed, and the world's shape, go to the walk -/
theorem returns_shaped {H : Type} {enc : TypeId × Value → H} {os : Os} {f : FuncId} {fn : Func} {s : ChangeSpec} {C : Checked} {l : List (String × DataW Unit)} (own : ownKnob C.prog.godebug = none) (started : os.Started) (noInit : C.prog.inits.idxOf? f = none) (hfn : C.prog.funcs[f]? = some fn)
    (wit : ∃ (w : World) (tape : Tape) (i : Input), w.os = os ∧ (w.forCall tape i).Shaped C.prog ∧ i.vars = [] ∧ Input.okWide C.prog (w.forCall tape i) .any w.heap.size f i ∧
      ((s.pre enc C.prog fn [] false (w.forCall tape i).memory i.args ∧ laidMetH C.prog l (w.forCall tape i).memory) ∧ sizedMet enc C.prog fn (OpenSpec.ofChange s) false (w.forCall tape i).memory i.args) ∧ ({} : Assume).holds C.prog (lone (Frame.enter C.prog f i.args .normal) [] (w.forCall tape i)))
    (go : ∀ (W : World) (base : Nat) (args : Array Value) (ds gs : List (DataW H)) (before : List MemPlace), (∀ (j : Nat) t v, fn.params[j]? = some t → args[j]? = some v → Value.okWide C.prog W .any base t v) →
      DataW.Whole enc C.prog fn.params.toList s.vars false W args.toList ds gs before → laidMetH C.prog l W → W.ShapedOpen C.prog →
      Calls C.prog f args W fun e W' => ∃ v, e = .returned v ∧ s.post enc C.prog fn false true false false W args v W') :
    ReturnsInHanded {} C os f .any (fun w args => (s.pre enc C.prog fn [] false w args ∧ laidMetH C.prog l w) ∧ sizedMet enc C.prog fn (OpenSpec.ofChange s) false w args) (s.post enc C.prog fn false true false false) := by
  refine returnsInHanded_of_calls own started noInit wit fun w tape i _ hsh _ hok hpre _ => ?_
  obtain ⟨_, _, _, fn2, hfn2, _, _, _, _, hval⟩ := hok
  cases Option.some.inj (hfn2.symm.trans hfn)
  obtain ⟨⟨⟨ds, gs, before, hw, _⟩, hl⟩, _⟩ := hpre
  have hw2 := DataW.Whole.of_heap (w' := w.forCall tape i) (by rfl) hw
  exact (go (w.forCall tape i) w.heap.size i.args ds gs before hval hw2 (hl.of_heap (by rfl)) hsh).mono fun _ _ ⟨v, he, hp⟩ => by
    cases he
    exact ChangeSpec.post_blind hp

end Go.Proofs.YtneggbhjekklhaaDoor
