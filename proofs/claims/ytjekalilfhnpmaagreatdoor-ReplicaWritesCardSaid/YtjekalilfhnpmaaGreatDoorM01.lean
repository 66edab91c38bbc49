/- Common ground of this seat: the program's closed facts, what the listed error variables give, small words on worlds. errors.Is, errors.As at *api.Fault, plain.Code: what they say of nil, of an error of package api, of a Fault round one. errors.As at *api.Fault: Go's own text is walked, reflectlite by the model's entries. Texts of bytes; the document's Byte. Package stamp and what the references say of stamps: each function walked once. A tree of moves: what all moves make, one behind the other; no node lies in itself. The plain law. What stays of a world: all blocks but some. Of no program. A  -/
import Derived.Test.YtjekalilfhnpmaaGreatDoorProg
import Derived.KernelRfl
import Derived.JoinedTies
import Derived.LaidByTextLater
import Derived.LaidOnce
import GoSem.PinnedTables
import GoSem.Claim
import GoSem.ClaimJoined
import GoSem.ClaimMapViews
import GoSem.ClaimSeven
import Derived.WalkKit
import Derived.WalkSpells
import Derived.WalkLawsBesides
import Derived.ProofKit
import Derived.OpenShut
import Derived.ChangeOld
import Derived.Below
import Derived.LaidMore
import Derived.LaidSub
import Derived.Stop.Joined
import Derived.Stop.LaidErr
import Derived.SevenTiedAt
import Derived.Lib.SmallJoins
import Derived.Lib.Hide
import Derived.Deep.RegionWith
import Derived.Deep.RegionHeld3
import Derived.Deep.QuietTactic
import Derived.BigQuiet
import Derived.Deep.DeepMust
import Derived.Deep.DeepFit
import Derived.Deep.LoopGhost
import Derived.Deep.DeepCutAuto
import Derived.Handy
import Derived.LaidEql
import Derived.Stop.Asserts
import Derived.RowKitTokens
import Derived.RegionTactic
import Derived.ChangeAlike
import Derived.BigRegion
import Derived.Laws.AppendOwn
import Derived.Lib.AtoiAll
import Derived.Lib.ItoaNum
import Derived.Lib.Split
import Derived.Maps.OwnSet
import Derived.Maps.Ext
namespace Go.Proofs.YtjekalilfhnpmaaGreatDoor
open Go Go.ChangeShapes Go.WideShapes Go.ChangeAt Go.RowKit
set_option linter.unusedVariables false
set_option linter.unusedSimpArgs false
theorem own : ownKnob Tryz.prog.godebug = none := by kernel_rfl
theorem laidOut : laidOutB Tryz.prog = true := by kernel_rfl
theorem errType : ∀ u, Tryz.prog.typeName? 3 u = some "*errors.errorString" → u = 364 :=
  typeName_ptr_named (nm := "errors.errorString") (by kernel_rfl) (by kernel_rfl) (by decide)
/-- the error that a package-level variable holds: a pointer to its text -/
abbrev errV (a : Addr) : Value := .iface 364 (.pointer (some a))
/-- the variable g holds an error at a, of this text -/
structure ErrAt (w : World) (g : Nat) (txt : List UInt8) (a : Addr) : Prop where
  var : w.cell? ⟨g, 0, none⟩ = some (.iface 364 (.pointer (some a)))
  cell : ∃ s : ByteArray, w.cell? a = some (.string s) ∧ s.data.toList = txt
  blk : ∃ c t, w.heap[a.block]? = some (.cells c t (0, 0))
theorem ErrAt.lt {w : World} {g : Nat} {txt : List UInt8} {a : Addr} (h : ErrAt w g txt a) : g < w.heap.size := World.block_lt_of_cell? w _ h.var
theorem ErrAt.lta {w : World} {g : Nat} {txt : List UInt8} {a : Addr} (h : ErrAt w g txt a) : a.block < w.heap.size := by
  obtain ⟨s, hs, _⟩ := h.cell
  exact World.block_lt_of_cell? w _ hs
theorem ErrAt.frame {w w' : World} {g : Nat} {txt : List UInt8} {a : Addr} (h : ErrAt w g txt a) (hb : ∀ k, k < w.heap.size → (k = g ∨ k = a.block) → w'.heap[k]? = w.heap[k]?) : ErrAt w' g txt a :=
  ⟨(World.cell?_of_block (w := w) (hb g h.lt (.inl rfl))).trans h.var,
   by obtain ⟨s, hs, e⟩ := h.cell; exact ⟨s, (World.cell?_of_block (w := w) (hb _ h.lta (.inr rfl))).trans hs, e⟩,
   by obtain ⟨c, t, hc⟩ := h.blk; exact ⟨c, t, (hb _ h.lta (.inr rfl)).trans hc⟩⟩
theorem ErrAt.below {w w' : World} {g : Nat} {txt : List UInt8} {a : Addr} (h : ErrAt w g txt a) (hb : Below w.heap.size w w') : ErrAt w' g txt a :=
  h.frame fun k hk _ => hb.block k hk
theorem ErrAt.alloc {w : World} {g : Nat} {txt : List UInt8} {a : Addr} (h : ErrAt w g txt a) (o : Obj) : ErrAt (w.alloc o) g txt a :=
  h.below ((Below.refl _ _).alloc (Nat.le_refl _) _)
theorem ErrAt.ne {w : World} {g g' : Nat} {txt txt' : List UInt8} {a a' : Addr} (h : ErrAt w g txt a) (h' : ErrAt w g' txt' a') (hne : txt ≠ txt') : a ≠ a' := by
  rintro rfl
  obtain ⟨s, hs, rfl⟩ := h.cell
  obtain ⟨s', hs', rfl⟩ := h'.cell
  rw [hs] at hs'
  cases hs'
  exact hne rfl
/-- the package-level variable of an error's number, and its text -/
def errG : Nat → Nat
  | 1 => 4
  | 2 => 1
  | 3 => 5
  | 4 => 6
  | 5 => 7
  | 6 => 2
  | 7 => 3
  | 8 => 0
  | 9 => 8
  | 10 => 9
  | 11 => 10
  | 12 => 11
  | _ => 0
def errT : Nat → List UInt8
  | 1 => [99, 111, 110, 99, 111, 114, 100, 97, 116, 58, 32, 116, 101, 120, 116]
  | 2 => [99, 111, 110, 99, 111, 114, 100, 97, 116, 58, 32, 98, 111, 117, 110, 100]
  | 3 => [99, 111, 110, 99, 111, 114, 100, 97, 116, 58, 32, 115, 104, 97, 112, 101]
  | 4 => [99, 111, 110, 99, 111, 114, 100, 97, 116, 58, 32, 110, 97, 109, 101]
  | 5 => [99, 111, 110, 99, 111, 114, 100, 97, 116, 58, 32, 107, 105, 110, 100]
  | 6 => [99, 111, 110, 99, 111, 114, 100, 97, 116, 58, 32, 110, 111, 110, 101]
  | 7 => [99, 111, 110, 99, 111, 114, 100, 97, 116, 58, 32, 101, 120, 105, 115, 116]
  | 8 => [99, 111, 110, 99, 111, 114, 100, 97, 116, 58, 32, 102, 117, 108, 108]
  | 9 => [99, 111, 110, 99, 111, 114, 100, 97, 116, 58, 32, 103, 97, 112]
  | 10 => [99, 111, 110, 99, 111, 114, 100, 97, 116, 58, 32, 99, 121, 99, 108, 101]
  | 11 => [99, 111, 110, 99, 111, 114, 100, 97, 116, 58, 32, 111, 102, 102]
  | 12 => [99, 111, 110, 99, 111, 114, 100, 97, 116, 58, 32, 115, 117, 109]
  | _ => []
/-- the errors of these numbers lie where their variables say -/
def Errs (a : Nat → Addr) (S : List Nat) (w : World) : Prop := ∀ k ∈ S, ErrAt w (errG k) (errT k) (a k)
theorem Errs.sub {a : Nat → Addr} {S S' : List Nat} {w : World} (h : Errs a S w) (hs : ∀ k ∈ S', k ∈ S) : Errs a S' w := fun k hk => h k (hs k hk)
theorem Errs.below {a : Nat → Addr} {S : List Nat} {w w' : World} (h : Errs a S w) (hb : Below w.heap.size w w') : Errs a S w' := fun k hk => (h k hk).below hb
theorem Errs.alloc {a : Nat → Addr} {S : List Nat} {w : World} (h : Errs a S w) (o : Obj) : Errs a S (w.alloc o) := fun k hk => (h k hk).alloc o
theorem errs_of {S : List Nat} {w : World} (h : ∀ k ∈ S, ∃ a, ErrAt w (errG k) (errT k) a) : ∃ a, Errs a S w := by
  classical
  refine ⟨fun k => if hk : k ∈ S then (h k hk).choose else ⟨0, 0, none⟩, fun k hk => ?_⟩
  simp only [hk, dif_pos]
  exact (h k hk).choose_spec
theorem laid_sentinel' {P : Program} {n nm : String} {text : List UInt8} {r : List (String × DataW Unit)} {W : World} {g : Nat} {ti tp te ts : TypeId} {ms : Array (String × TypeId)} {f : Field}
    (h : laidMet P ((n, .iface nm (.ptr (.agg [.lit (.string text)]))) :: r) W)
    (hg : P.globalNamed n = some g) (ht : (P.globals[g]?).map (·.type) = some ti) (hi : P.underlying ti = some (.interface ms)) (hrow : ∀ u, P.typeName? 3 u = some nm → u = tp)
    (hp : P.underlying tp = some (.pointer te)) (he : P.underlying te = some (.struct #[f])) (hft : f.type = ts) (hfo : f.offset = 0) (hs : P.underlying ts = some .string) (hc : P.cellsOf te = 1) (hcs : P.cellsOf ts = 1) :
    ∃ (a : Addr) (s : ByteArray), W.var? P n = some #[.iface tp (.pointer (some a))] ∧ W.cell? a = some (.string s) ∧ s.data.toList = text ∧ ∃ c t, W.heap[a.block]? = some (.cells c t (0, 0)) := by
  obtain ⟨ps, ⟨g0, t0, cs0, f0, p0, q0, hg0, ht0, hv0, hd0, _, e0⟩, _, hrows⟩ := h
  obtain rfl := Option.some.inj (hg.symm.trans hg0)
  obtain rfl := Option.some.inj (ht.symm.trans ht0)
  subst e0
  obtain ⟨l0⟩ := cs0
  have ok0 : ∀ u v, l0 = [.iface u v] → Value.okWide P W .any 0 u v := fun u v e => by
    subst e
    exact (hrows g 0 (by simp [MemPlace.row])).2 u v (by simpa using World.var?_cell hg0 hv0 0)
  obtain ⟨a0, s0, rfl, hc0, hs0, hz0, hp0⟩ := errorString_of_trod hi hrow hp he hft hfo hs hc hcs hd0 ok0
  refine ⟨a0, s0, hv0, hc0, hs0, (hrows a0.block a0.off ?_).1⟩
  subst hp0
  simp [MemPlace.row]
theorem errAt_of_laid {W : World} {n : String} {text : List UInt8} {g : Nat} {l : List (String × DataW Unit)} (h : laidMetH Tryz.prog l W)
    (hl : (l.filter fun x => x.1 == n) = [(n, .iface "*errors.errorString" (.ptr (.agg [.lit (.string text)])))])
    (hg : Tryz.prog.globalNamed n = some g) (ht : (Tryz.prog.globals[g]?).map (·.type) = some 25) : ∃ a, ErrAt W g text a := by
  have h1 := laidMetH.filter (fun x => x.1 == n) h
  rw [hl] at h1
  have h2 : laidMet Tryz.prog [(n, .iface "*errors.errorString" (.ptr (.agg [.lit (.string text)])))] W := (laidMetH_iff.1 h1).1
  obtain ⟨a, s, hv, hc, hs, hb⟩ := laid_sentinel' (g := g) (tp := 364) (te := 382) (ts := 9) h2 hg ht Tryz.underlying25 errType Tryz.underlying364 Tryz.underlying382 rfl rfl Tryz.underlying9 (by kernel_rfl) (by kernel_rfl)
  refine ⟨a, ⟨?_, ⟨s, hc, hs⟩, hb⟩⟩
  simpa using World.var?_cell hg hv 0
end Go.Proofs.YtjekalilfhnpmaaGreatDoor
namespace Go.Proofs.YtjekalilfhnpmaaGreatDoor
open Go Go.RowKit Go.Extern.Stop Go.Stop Go.Extern
set_option linter.unusedVariables false
set_option linter.unusedSimpArgs false
set_option maxHeartbeats 1000000
theorem isTypeOf (v : Value) (w : World) : (callFunc 189 #[.iface 364 v]).run Tryz.prog w = .ok (.value (.iface 329 (.agg #[.pointer (some ⟨19, 364, none⟩)]))) w := by kernel_rfl
theorem isComparable (w : World) : (callFunc 288 #[.agg #[.pointer (some ⟨19, 364, none⟩)]]).run Tryz.prog w = .ok (.value (.bool true)) w := by kernel_rfl
theorem isMethodComparable (n : Nat) (v : Value) (w : World) : (Go.method (n + 1) 329 v "Comparable").run Tryz.prog w = .ok (288, v) w := by kernel_rfl
theorem isComp : (Tryz.prog.info? 364).map (·.comparable) = some true := by kernel_rfl
theorem isSize : (Tryz.prog.info? 382).map (·.size) = some 1 := by kernel_rfl
theorem noIsE (v : Value) (xT : TypeId) (w : World) : (Instr.typeAssert (.iface 364 v) xT 340 true).run Tryz.prog w = .ok (.tuple #[.nilIface, .bool false]) w := run_typeAssert_lacksB Tryz.underlying340 (by kernel_rfl) (by kernel_rfl) v xT w
theorem noUnwrapE (v : Value) (xT : TypeId) (w : World) : (Instr.typeAssert (.iface 364 v) xT 336 true).run Tryz.prog w = .ok (.tuple #[.nilIface, .bool false]) w := run_typeAssert_lacksB Tryz.underlying336 (by kernel_rfl) (by kernel_rfl) v xT w
theorem noUnwrapsE (v : Value) (xT : TypeId) (w : World) : (Instr.typeAssert (.iface 364 v) xT 338 true).run Tryz.prog w = .ok (.tuple #[.nilIface, .bool false]) w := run_typeAssert_lacksB Tryz.underlying338 (by kernel_rfl) (by kernel_rfl) v xT w
theorem noAsE (v : Value) (xT : TypeId) (w : World) : (Instr.typeAssert (.iface 364 v) xT 333 true).run Tryz.prog w = .ok (.tuple #[.nilIface, .bool false]) w := run_typeAssert_lacksB Tryz.underlying333 (by kernel_rfl) (by kernel_rfl) v xT w
theorem noIsF (v : Value) (xT : TypeId) (w : World) : (Instr.typeAssert (.iface 191 v) xT 340 true).run Tryz.prog w = .ok (.tuple #[.nilIface, .bool false]) w := run_typeAssert_lacksB Tryz.underlying340 (by kernel_rfl) (by kernel_rfl) v xT w
theorem hasUnwrapF (v : Value) (xT : TypeId) (w : World) : (Instr.typeAssert (.iface 191 v) xT 336 true).run Tryz.prog w = .ok (.tuple #[.iface 191 v, .bool true]) w := run_typeAssert_hasB Tryz.underlying336 (by kernel_rfl) v xT w
theorem methodUnwrap (n : Nat) (v : Value) (w : World) : (Go.method (n + 1) 191 v "Unwrap").run Tryz.prog w = .ok (281, v) w := by kernel_rfl
theorem is_same (a : Addr) (w : World) :
    Calls Tryz.prog 141 #[errV a, errV a] w fun e w' => e = .returned (.bool true) ∧ w' = w := by
  unfold errV
  obtain ⟨i, hi, hcmp⟩ := Option.map_eq_some_iff.1 isComp
  obtain ⟨j, hj, hjs⟩ := Option.map_eq_some_iff.1 isSize
  have tT := isTypeOf
  have cT := isComparable
  have mR := isMethodComparable
  have heq := run_eql_iface_ptr_same (P := Tryz.prog) w a Tryz.underlying25 Tryz.underlying364 hi hcmp hj
  go_enter Tryz.func141, Tryz.ntmps141
  go_wp2
  refine wp_loop_rounds 1 ?_
  rw [rounds_succ]
  go_wp2
  go_ret
  exact ⟨rfl, rfl⟩
theorem is_other (a b : Addr) (w : World) (hne : a ≠ b) (ha : ∃ c t, w.heap[a.block]? = some (.cells c t (0, 0))) (hb : ∃ c t, w.heap[b.block]? = some (.cells c t (0, 0))) :
    Calls Tryz.prog 141 #[errV a, errV b] w fun e w' => e = .returned (.bool false) ∧ w' = w := by
  unfold errV
  obtain ⟨ca, ta, ha⟩ := ha
  obtain ⟨cb, tb, hb⟩ := hb
  obtain ⟨i, hi, hcmp⟩ := Option.map_eq_some_iff.1 isComp
  obtain ⟨j, hj, hjs⟩ := Option.map_eq_some_iff.1 isSize
  have tT := isTypeOf
  have cT := isComparable
  have mR := isMethodComparable
  have nE := noIsE
  have uE := noUnwrapE
  have vE := noUnwrapsE
  have heq := run_eql_iface_ptr_other (P := Tryz.prog) w Tryz.underlying25 Tryz.underlying364 hi hcmp hj (by rw [hjs]; decide) hne ha hb
  go_enter Tryz.func141, Tryz.ntmps141
  go_wp2
  refine wp_loop_rounds 1 ?_
  rw [rounds_succ]
  go_wp2
  go_ret
  exact ⟨rfl, rfl⟩
/-- a fault: an error with its place, at two cells -/
abbrev faultV (p : Addr) : Value := .iface 191 (.pointer (some p))
theorem is_fault_same (pb po : Nat) (b : Addr) (w : World) (h1 : w.cell? ⟨pb, po + 1, none⟩ = some (errV b)) :
    Calls Tryz.prog 141 #[faultV ⟨pb, po, none⟩, errV b] w fun e w' => e = .returned (.bool true) ∧ w' = w := by
  unfold errV at h1 ⊢
  obtain ⟨i, hi, hcmp⟩ := Option.map_eq_some_iff.1 isComp
  obtain ⟨j, hj, hjs⟩ := Option.map_eq_some_iff.1 isSize
  have tT := isTypeOf
  have cT := isComparable
  have mR := isMethodComparable
  have nW := noIsF
  have uW := hasUnwrapF
  have mU := methodUnwrap
  have heq := run_eql_iface_ptr_same (P := Tryz.prog) w b Tryz.underlying25 Tryz.underlying364 hi hcmp hj
  have hty := run_eql_iface_types (P := Tryz.prog) 191 364 (.pointer (some ⟨pb, po, none⟩)) (.pointer (some b)) Tryz.underlying25 (by decide) w
  go_enter Tryz.func141, Tryz.ntmps141
  go_wp2
  refine wp_loop_rounds 2 ?_
  rw [rounds_succ]
  go_wp2
  rw [rounds_succ]
  go_wp2
  go_ret
  exact ⟨rfl, rfl⟩
theorem is_fault_other (pb po : Nat) (b a : Addr) (w : World) (h1 : w.cell? ⟨pb, po + 1, none⟩ = some (errV a)) (hne : a ≠ b) (ha : ∃ c t, w.heap[a.block]? = some (.cells c t (0, 0))) (hb : ∃ c t, w.heap[b.block]? = some (.cells c t (0, 0))) :
    Calls Tryz.prog 141 #[faultV ⟨pb, po, none⟩, errV b] w fun e w' => e = .returned (.bool false) ∧ w' = w := by
  unfold errV at h1 ⊢
  obtain ⟨ca, ta, ha⟩ := ha
  obtain ⟨cb, tb, hb⟩ := hb
  obtain ⟨i, hi, hcmp⟩ := Option.map_eq_some_iff.1 isComp
  obtain ⟨j, hj, hjs⟩ := Option.map_eq_some_iff.1 isSize
  have tT := isTypeOf
  have cT := isComparable
  have mR := isMethodComparable
  have nE := noIsE
  have uE := noUnwrapE
  have vE := noUnwrapsE
  have nW := noIsF
  have uW := hasUnwrapF
  have mU := methodUnwrap
  have heq := run_eql_iface_ptr_other (P := Tryz.prog) w Tryz.underlying25 Tryz.underlying364 hi hcmp hj (by rw [hjs]; decide) hne ha hb
  have hty := run_eql_iface_types (P := Tryz.prog) 191 364 (.pointer (some ⟨pb, po, none⟩)) (.pointer (some b)) Tryz.underlying25 (by decide) w
  go_enter Tryz.func141, Tryz.ntmps141
  go_wp2
  refine wp_loop_rounds 2 ?_
  rw [rounds_succ]
  go_wp2
  rw [rounds_succ]
  go_wp2
  go_ret
  exact ⟨rfl, rfl⟩
end Go.Proofs.YtjekalilfhnpmaaGreatDoor
namespace Go.Proofs.YtjekalilfhnpmaaGreatDoor
open Go Go.RowKit Go.Extern.Stop Go.Stop Go.Extern
set_option linter.unusedVariables false
set_option linter.unusedSimpArgs false
set_option maxHeartbeats 4000000
theorem asValueOf (t : Addr) (w : World) : (callFunc 185 #[.iface 237 (.pointer (some t))]).run Tryz.prog w
    = .ok (.value (.agg #[.pointer (some ⟨19, 237, none⟩), .pointer (some ⟨w.heap.size, 0, none⟩), .int .u64 150])) (w.alloc (.cells #[.pointer (some t)] 237)) := by kernel_rfl
theorem asType (a : Addr) (w : World) : (callFunc 186 #[.agg #[.pointer (some ⟨19, 237, none⟩), .pointer (some a), .int .u64 150]]).run Tryz.prog w
    = .ok (.value (.iface 329 (.agg #[.pointer (some ⟨19, 237, none⟩)]))) w := by kernel_rfl
theorem asMethodKind (n : Nat) (h : Value) (w : World) : (Go.method (n + 2) 329 (.agg #[h]) "Kind").run Tryz.prog w = .ok (275, h) w := by kernel_rfl
theorem asKindFF (w : World) : (callFunc 275 #[.pointer (some ⟨19, 237, none⟩)]).run Tryz.prog w = .ok (.value (.int .u8 22)) w := by kernel_rfl
theorem asKindF (w : World) : (callFunc 275 #[.pointer (some ⟨19, 191, none⟩)]).run Tryz.prog w = .ok (.value (.int .u8 22)) w := by kernel_rfl
theorem asRlm (z : Sem Value) (f : TypeId → Addr → Nat → Nat → Sem Value) (v : Value) :
    ReflectliteValue.method z f #[v] = (do match ← ReflectliteValue.parts v with | none => z | some (t, a, fl) => f t a fl (fl % 32)) := rfl
theorem asPartsFF (a : Addr) (w : World) : (ReflectliteValue.parts (.agg #[.pointer (some ⟨19, 237, none⟩), .pointer (some a), .int .u64 150])).run Tryz.prog w = .ok (some (237, a, 150)) w := by kernel_rfl
theorem asIsNil (a p : Addr) (W : World) (ha : W.cell? a = some (.pointer (some p))) :
    (ReflectliteValue.method (ReflectliteValue.valueError "reflectlite.Value.IsNil" 0) ReflectliteValue.isNil #[.agg #[.pointer (some ⟨19, 237, none⟩), .pointer (some a), .int .u64 150]]).run Tryz.prog W = .ok (.bool false) W := by
  rw [asRlm]
  simp only [Sem.run_bind, asPartsFF, Result.andThen]
  simp [ReflectliteValue.isNil, loadVar, isAgg, underlying, Tryz.underlying237, ha, Result.andThen]
theorem asMethodElem (n : Nat) (h : Value) (w : World) : (Go.method (n + 2) 329 (.agg #[h]) "Elem").run Tryz.prog w = .ok (289, .agg #[h]) w := by kernel_rfl
theorem asMethodImplements (n : Nat) (h : Value) (w : World) : (Go.method (n + 2) 329 (.agg #[h]) "Implements").run Tryz.prog w = .ok (290, .agg #[h]) w := by kernel_rfl
theorem asMethodAssignableTo (n : Nat) (h : Value) (w : World) : (Go.method (n + 2) 329 (.agg #[h]) "AssignableTo").run Tryz.prog w = .ok (287, .agg #[h]) w := by kernel_rfl
theorem asElem (w : World) : (callFunc 289 #[.agg #[.pointer (some ⟨19, 237, none⟩)]]).run Tryz.prog w = .ok (.value (.iface 329 (.agg #[.pointer (some ⟨19, 191, none⟩)]))) w := by kernel_rfl
theorem asImplements (w : World) : (callFunc 290 #[.agg #[.pointer (some ⟨19, 191, none⟩)], .iface 329 (.agg #[.pointer (some ⟨19, 25, none⟩)])]).run Tryz.prog w = .ok (.value (.bool true)) w := by kernel_rfl
theorem asTypeOfF (v : Value) (w : World) : (callFunc 189 #[.iface 191 v]).run Tryz.prog w = .ok (.value (.iface 329 (.agg #[.pointer (some ⟨19, 191, none⟩)]))) w := by kernel_rfl
theorem asAssignableF (w : World) : (callFunc 287 #[.agg #[.pointer (some ⟨19, 191, none⟩)], .iface 329 (.agg #[.pointer (some ⟨19, 191, none⟩)])]).run Tryz.prog w = .ok (.value (.bool true)) w := by kernel_rfl
theorem asAssignableE (w : World) : (callFunc 287 #[.agg #[.pointer (some ⟨19, 364, none⟩)], .iface 329 (.agg #[.pointer (some ⟨19, 191, none⟩)])]).run Tryz.prog w = .ok (.value (.bool false)) w := by kernel_rfl
theorem asValueOfF (e : Addr) (w : World) : (callFunc 185 #[.iface 191 (.pointer (some e))]).run Tryz.prog w
    = .ok (.value (.agg #[.pointer (some ⟨19, 191, none⟩), .pointer (some ⟨w.heap.size, 0, none⟩), .int .u64 150])) (w.alloc (.cells #[.pointer (some e)] 191)) := by kernel_rfl
theorem asElemOf (w : World) : (Rtype.elem? 237).run Tryz.prog w = .ok (some 191) w := by kernel_rfl
theorem asMk (p : Addr) (w : World) : (ReflectliteValue.mk 191 p ReflectliteValue.flagAddr).run Tryz.prog w = .ok (.agg #[.pointer (some ⟨19, 191, none⟩), .pointer (some p), .int .u64 406]) w := by kernel_rfl
theorem asElemV (a p : Addr) (W : World) (ha : W.cell? a = some (.pointer (some p))) :
    (ReflectliteValue.method (ReflectliteValue.valueError "reflectlite.Value.Elem" 0) ReflectliteValue.elem #[.agg #[.pointer (some ⟨19, 237, none⟩), .pointer (some a), .int .u64 150]]).run Tryz.prog W
      = .ok (.agg #[.pointer (some ⟨19, 191, none⟩), .pointer (some p), .int .u64 406]) W := by
  rw [asRlm]
  simp only [Sem.run_bind, asPartsFF, Result.andThen]
  simp [ReflectliteValue.elem, loadVar, isAgg, underlying, Tryz.underlying237, ha, Result.andThen, asElemOf, asMk]
theorem asRls (v x : Value) : ReflectliteValue.set #[v, x] = (do
    let (some (dst, a, fl), some (src, b, _)) := (← ReflectliteValue.parts v, ← ReflectliteValue.parts x)
      | unsupported (.noEntry "extern/(internal/reflectlite.Value).Set.zeroValue")
    if fl / ReflectliteValue.flagAddr % 2 == 0 then unsupported (.noEntry "extern/(internal/reflectlite.Value).Set.unaddressable")
    let val ← loadVar src b
    if ← Rtype.directlyAssignable dst src then storeVar dst a val
    else if ← Rtype.implements dst src then
      if (← Rtype.kind src) == 20 then
        match val with
        | .nilIface => unsupported (.noEntry "extern/reflectlite: a nil value of one interface type handed on as a value of another")
        | _ => storeVar dst a val
      else storeVar dst a (.iface src val)
    else panicString ("reflectlite.Set: value of type " ++ (← Rtype.spelt src) ++ " is not assignable to type " ++ (← Rtype.spelt dst))
    pure (.tuple #[])) := rfl
theorem asPartsFa (a : Addr) (w : World) : (ReflectliteValue.parts (.agg #[.pointer (some ⟨19, 191, none⟩), .pointer (some a), .int .u64 406])).run Tryz.prog w = .ok (some (191, a, 406)) w := by kernel_rfl
theorem asPartsF (a : Addr) (w : World) : (ReflectliteValue.parts (.agg #[.pointer (some ⟨19, 191, none⟩), .pointer (some a), .int .u64 150])).run Tryz.prog w = .ok (some (191, a, 150)) w := by kernel_rfl
theorem asDirect (w : World) : (Rtype.directlyAssignable 191 191).run Tryz.prog w = .ok true w := by kernel_rfl
theorem asSet (ta b e : Addr) (old : Value) (W : World) (hb : W.cell? b = some (.pointer (some e))) (ht : W.cell? ta = some old) (hf : W.frozen? ta = false) :
    (ReflectliteValue.set #[.agg #[.pointer (some ⟨19, 191, none⟩), .pointer (some ta), .int .u64 406], .agg #[.pointer (some ⟨19, 191, none⟩), .pointer (some b), .int .u64 150]]).run Tryz.prog W
      = .ok (.tuple #[]) (W.setCell ta (.pointer (some e))) := by
  rw [asRls]
  simp only [Sem.run_bind, asPartsFa, asPartsF, Result.andThen]
  simp [ReflectliteValue.flagAddr, loadVar, isAgg, underlying, Tryz.underlying191, hb, Result.andThen, asDirect, storeVar, Value.cells, storeCells, Addr.add]
  rw [run_store Tryz.prog W ta _ _ (by rfl)]
  simp [ht, hf]
/-- the variable errors.errorType -/
def TypeVar (w : World) : Prop := w.cell? ⟨12, 0, none⟩ = some (.iface 329 (.agg #[.pointer (some ⟨19, 25, none⟩)]))
theorem as_miss (a t : Addr) (old : Value) (w : World) (hg : TypeVar w) (ht0 : w.cell? t = some old) :
    Calls Tryz.prog 140 #[errV a, .iface 237 (.pointer (some t))] w fun ev w' => ev = .returned (.bool false) ∧ Below w.heap.size w w' := by
  unfold errV
  unfold TypeVar at hg
  have h8 := @run_callFunc_extern Tryz.prog 187 _ (ReflectliteValue.method (ReflectliteValue.valueError "reflectlite.Value.IsNil" 0) ReflectliteValue.isNil) Tryz.func187 (by kernel_rfl) (by kernel_rfl) (by kernel_rfl) (by kernel_rfl)
  have tO := isTypeOf
  have mA := asMethodAssignableTo
  have aE := asAssignableE
  have f6 := asValueOf
  have f7 := asType
  have mK := asMethodKind
  have mE := asMethodElem
  have mI := asMethodImplements
  have kFF := asKindFF
  have kF := asKindF
  have eFF := asElem
  have iF := asImplements
  have nE := noAsE
  have uE := noUnwrapE
  have vE := noUnwrapsE
  have n8 := asIsNil
  have hlt : 12 < w.heap.size := World.block_lt_of_cell? w _ hg
  have hlt1 : 12 < w.heap.size + 1 := by omega
  have hlt2 : 12 < w.heap.size + 1 + 1 := by omega
  go_enter Tryz.func140, Tryz.ntmps140
  go_wp2
  refine wp_loop_rounds 1 ?_
  rw [rounds_succ]
  go_wp2
  go_ret
  exact ⟨rfl, by go_grown⟩
set_option maxRecDepth 100000 in
theorem as_hit (e t : Addr) (old : Value) (w : World) (hg : TypeVar w) (ht0 : w.cell? t = some old) (hf0 : w.frozen? t = false) :
    Calls Tryz.prog 140 #[faultV e, .iface 237 (.pointer (some t))] w fun ev w' => ev = .returned (.bool true) ∧ ∃ w1, Below w.heap.size w w1 ∧ w' = w1.setCell t (.pointer (some e)) := by
  unfold TypeVar at hg
  have h8 := @run_callFunc_extern Tryz.prog 187 _ (ReflectliteValue.method (ReflectliteValue.valueError "reflectlite.Value.IsNil" 0) ReflectliteValue.isNil) Tryz.func187 (by kernel_rfl) (by kernel_rfl) (by kernel_rfl) (by kernel_rfl)
  have h11 := @run_callFunc_extern Tryz.prog 233 _ (ReflectliteValue.method (ReflectliteValue.valueError "reflectlite.Value.Elem" 0) ReflectliteValue.elem) Tryz.func233 (by kernel_rfl) (by kernel_rfl) (by kernel_rfl) (by kernel_rfl)
  have h12 := @run_callFunc_extern Tryz.prog 234 _ ReflectliteValue.set Tryz.func234 (by kernel_rfl) (by kernel_rfl) (by kernel_rfl) (by kernel_rfl)
  have tO := asTypeOfF
  have mA := asMethodAssignableTo
  have aF := asAssignableF
  have vF := asValueOfF
  have f6 := asValueOf
  have f7 := asType
  have mK := asMethodKind
  have mE := asMethodElem
  have mI := asMethodImplements
  have kFF := asKindFF
  have kF := asKindF
  have eFF := asElem
  have iF := asImplements
  have n8 := asIsNil
  have hlt : 12 < w.heap.size := World.block_lt_of_cell? w _ hg
  have hlt1 : 12 < w.heap.size + 1 := by omega
  have hlt2 : 12 < w.heap.size + 1 + 1 := by omega
  have htl : t.block < w.heap.size := World.block_lt_of_cell? w _ ht0
  obtain ⟨o1, ho1⟩ : ∃ o, o = Obj.cells #[.pointer (some t)] 237 := ⟨_, rfl⟩
  obtain ⟨o2, ho2⟩ : ∃ o, o = Obj.cells #[.pointer (some ⟨19, 237, none⟩), .pointer (some ⟨w.heap.size, 0, none⟩), .int .u64 150] 283 := ⟨_, rfl⟩
  obtain ⟨o3, ho3⟩ : ∃ o, o = Obj.cells #[.pointer (some e)] 191 := ⟨_, rfl⟩
  have el := asElemV ⟨w.heap.size, 0, none⟩ t ((((w.alloc o1).alloc o2).alloc o2)) (by subst ho1; rw [World.cell?_alloc_lt _ _ _ (by simp <;> omega), World.cell?_alloc_lt _ _ _ (by simp <;> omega)]; simp)
  have st := asSet t ⟨w.heap.size + 1 + 1 + 1, 0, none⟩ e old ((((w.alloc o1).alloc o2).alloc o2).alloc o3)
    (by subst ho3; rw [World.cell?_alloc_at _ _ _ _ (by simp)]; rfl)
    (by rw [World.cell?_alloc_lt _ _ t (by simp <;> omega), World.cell?_alloc_lt _ _ t (by simp <;> omega), World.cell?_alloc_lt _ _ t (by simp <;> omega), World.cell?_alloc_lt _ _ t htl]; exact ht0)
    (by rw [World.frozen?_alloc_old _ _ t (by simp <;> omega), World.frozen?_alloc_old _ _ t (by simp <;> omega), World.frozen?_alloc_old _ _ t (by simp <;> omega), World.frozen?_alloc_old _ _ t (Nat.ne_of_lt htl)]; exact hf0)
  subst ho1 ho2 ho3
  clear ht0 hf0
  go_enter Tryz.func140, Tryz.ntmps140
  go_wp2
  refine wp_loop_rounds 1 ?_
  rw [rounds_succ]
  go_wp2
  go_ret
  exact ⟨rfl, _, by go_grown, rfl⟩
end Go.Proofs.YtjekalilfhnpmaaGreatDoor
namespace Go.Proofs.YtjekalilfhnpmaaGreatDoor
open Go Go.RowKit
set_option linter.unusedVariables false
set_option linter.unusedSimpArgs false
set_option maxHeartbeats 1000000
set_option maxRecDepth 100000
/-- a text of these bytes -/
def S (l : List UInt8) : ByteArray := ⟨l.toArray⟩
theorem S_of (s : ByteArray) : S s.data.toList = s := by
  apply ByteArray.ext
  simp [S]
theorem S_size (l : List UInt8) : (S l).size = l.length := by simp [S, ByteArray.size]
theorem ret_bool {a b : Bool} (h : a = b) : Ending.returned (.bool a) = .returned (.bool b) := by rw [h]
theorem dec_len (n : Nat) : ∀ (u : Nat), 1 ≤ n → u < 10 ^ n → (Lib.decDigits u).length ≤ n := by
  induction n with
  | zero => intro u h; omega
  | succ n ih =>
    intro u _ h
    by_cases hu : u < 10
    · rw [Lib.decDigits_one hu]; simp
    · rw [Lib.decDigits, dif_neg hu]
      have h1 : 1 ≤ n := by
        rcases Nat.eq_zero_or_pos n with rfl | h0
        · simp at h; omega
        · exact h0
      have := ih (u / 10) h1 (by rw [Nat.pow_succ] at h; omega)
      simp
      omega
theorem itoa_len20 (n : Int) (h1 : -9223372036854775808 ≤ n) (h2 : n ≤ 9223372036854775807) : (S (Lib.itoa n)).size ≤ 21 := by
  rw [S_size]
  unfold Lib.itoa
  split
  · have := dec_len 20 n.natAbs (by omega) (by omega)
    simp; omega
  · have := dec_len 20 n.toNat (by omega) (by omega)
    omega
end Go.Proofs.YtjekalilfhnpmaaGreatDoor
namespace Go.Proofs.YtjekalilfhnpmaaGreatDoor
open Go Go.RowKit
set_option linter.unusedVariables false
set_option linter.unusedSimpArgs false
set_option maxHeartbeats 1000000
/-- a right stamp -/
def StampOk (t b : Int) : Prop := 1 ≤ t ∧ t ≤ 1073741824 ∧ 0 ≤ b ∧ b < 4
theorem stampOk_not {t b : Int} (h : ¬ StampOk t b) : t < 1 ∨ (1 ≤ t ∧ 1073741824 < t) ∨ (1 ≤ t ∧ t ≤ 1073741824 ∧ b < 0) ∨ (1 ≤ t ∧ t ≤ 1073741824 ∧ 0 ≤ b ∧ 4 ≤ b) := by
  unfold StampOk at h; omega
abbrev stampV (t b : Int) : Value := .agg #[.int .i64 t, .int .i64 b]
theorem less_any (t b t' b' : Int) (w : World) :
    Calls Tryz.prog 119 #[stampV t b, stampV t' b'] w fun e w' => e = .returned (.bool (decide (t < t' ∨ t = t' ∧ b < b'))) ∧ Below w.heap.size w w' := by
  by_cases h1 : t = t'
  · subst h1
    go_enter Tryz.func119, Tryz.ntmps119
    go_wp2
    go_ret
    exact ⟨by simp, by go_grown⟩
  · go_enter Tryz.func119, Tryz.ntmps119
    go_wp2
    go_ret
    exact ⟨by simp [h1], by go_grown⟩
theorem id_ok (t b : Int) (w : World) (h : StampOk t b) :
    Calls Tryz.prog 151 #[stampV t b] w fun e w' => e = .returned (.tuple #[.int .i64 (t * 4 + b), .nilIface]) ∧ Below w.heap.size w w' := by
  obtain ⟨h1, h2, h3, h4⟩ := h
  go_enter Tryz.func151, Tryz.ntmps151
  go_wp2
  go_ret2
  exact ⟨rfl, by go_grown⟩
theorem id_bad (t b : Int) (w : World) (a : Addr) (txt : List UInt8) (hE : ErrAt w 1 txt a) (h : ¬ StampOk t b) :
    Calls Tryz.prog 151 #[stampV t b] w fun e w' => e = .returned (.tuple #[.int .i64 0, errV a]) ∧ Below w.heap.size w w' := by
  have hlt := hE.lt
  have hlt1 : 1 < w.heap.size + 1 := by omega
  have hc := hE.var
  clear hE
  unfold errV
  rcases stampOk_not h with h1 | ⟨h1, h2⟩ | ⟨h1, h2, h3⟩ | ⟨h1, h2, h3, h4⟩
  all_goals
    clear h
    go_enter Tryz.func151, Tryz.ntmps151
    go_wp2
    go_ret2
    exact ⟨rfl, by go_grown⟩
end Go.Proofs.YtjekalilfhnpmaaGreatDoor
namespace Go.Proofs.YtjekalilfhnpmaaGreatDoor
namespace Tree
variable {M : Type}
/-- where nodes lie: in which, by what name -/
abbrev Pl (M : Type) := Int → Option (Int × M)
/-- x lies, at whatever depth, in o -/
inductive Ins (p : Pl M) : Int → Int → Prop
  | here {x : Int} {v : Int × M} : p x = some v → Ins p x v.1
  | up {x o : Int} {v : Int × M} : p x = some v → Ins p v.1 o → Ins p x o
/-- a move: its node, where it goes, by what name -/
structure Mv (M : Type) where
  node : Int
  into : Int
  name : M
def put (p : Pl M) (x : Int) (v : Option (Int × M)) : Pl M := fun y => if y = x then v else p y
open Classical in
/-- does the move do anything -/
noncomputable def goes (p : Pl M) (m : Mv M) : Bool := decide (m.node ≠ m.into ∧ ¬ Ins p m.into m.node)
noncomputable def move (p : Pl M) (m : Mv M) : Pl M := if goes p m then put p m.node (some (m.into, m.name)) else p
/-- nothing lies in itself: each node has a depth -/
def Deep (p : Pl M) (d : Int → Nat) : Prop := ∀ x v, p x = some v → d v.1 < d x
def Acyc (p : Pl M) : Prop := ∃ d, Deep p d
theorem Ins.deep {p : Pl M} {d : Int → Nat} (hd : Deep p d) {x o : Int} (h : Ins p x o) : d o < d x := by
  induction h with
  | here h => exact hd _ _ h
  | up h _ ih => exact Nat.lt_trans ih (hd _ _ h)
theorem Acyc.irr {p : Pl M} (h : Acyc p) (x : Int) : ¬ Ins p x x := fun hi => by
  obtain ⟨d, hd⟩ := h
  exact Nat.lt_irrefl _ (hi.deep hd)
theorem Ins.none {p : Pl M} {x o : Int} (h : p x = none) : ¬ Ins p x o := by
  intro hi
  cases hi with
  | here h' => rw [h] at h'; cases h'
  | up h' _ => rw [h] at h'; cases h'
theorem Ins.some {p : Pl M} {x o : Int} {v : Int × M} (h : p x = some v) : Ins p x o ↔ v.1 = o ∨ Ins p v.1 o := by
  constructor
  · intro hi
    cases hi with
    | here h' => rw [h] at h'; cases h'; exact .inl rfl
    | up h' hi => rw [h] at h'; cases h'; exact .inr hi
  · rintro (rfl | hi)
    · exact .here h
    · exact .up h hi
theorem Acyc.empty : Acyc (fun _ => none : Pl M) := ⟨fun _ => 0, fun _ _ h => by cases h⟩
open Classical in
theorem Acyc.move {p : Pl M} (h : Acyc p) (m : Mv M) : Acyc (move p m) := by
  unfold Tree.move
  by_cases hg : goes p m = true
  · rw [if_pos hg]
    unfold goes at hg
    simp only [decide_eq_true_eq] at hg
    obtain ⟨d, hd⟩ := h
    refine ⟨fun x => if x = m.node ∨ Ins p x m.node then d x + d m.into + 1 else d x, ?_⟩
    intro x v hv
    unfold put at hv
    by_cases hx : x = m.node
    · rw [if_pos hx] at hv
      cases hv
      simp only
      rw [if_neg (by
        rintro (h1 | h1)
        · exact hg.1 h1.symm
        · exact hg.2 h1), if_pos (.inl hx)]
      omega
    · rw [if_neg hx] at hv
      have hlt := hd x v hv
      simp only
      by_cases h1 : v.1 = m.node ∨ Ins p v.1 m.node
      · rw [if_pos h1, if_pos (.inr ((Ins.some hv).2 h1))]
        omega
      · rw [if_neg h1]
        split <;> omega
  · rw [if_neg hg]
    exact h
/-- all moves of a list, one behind the other -/
noncomputable def replay : Pl M → List (Mv M) → Pl M
  | p, [] => p
  | p, m :: l => replay (move p m) l
theorem replay_append (p : Pl M) (a b : List (Mv M)) : replay p (a ++ b) = replay (replay p a) b := by
  induction a generalizing p with
  | nil => rfl
  | cons m a ih => exact ih _
theorem Acyc.replay {p : Pl M} (h : Acyc p) (l : List (Mv M)) : Acyc (replay p l) := by
  induction l generalizing p with
  | nil => exact h
  | cons m l ih => exact ih (h.move m)
end Tree
end Go.Proofs.YtjekalilfhnpmaaGreatDoor
namespace Go.Proofs.YtjekalilfhnpmaaGreatDoor
open Go Go.RowKit
set_option linter.unusedVariables false
set_option linter.unusedSimpArgs false
/-- what stays: all blocks but these -/
structure Fr (X : Nat → Prop) (w w' : World) : Prop where
  os : w'.os = w.os
  tape : w'.tape = w.tape
  output : w'.output = w.output
  size : w.heap.size ≤ w'.heap.size
  block : ∀ k, k < w.heap.size → ¬ X k → w'.heap[k]? = w.heap[k]?
theorem Fr.of_below {X : Nat → Prop} {w w' : World} (h : Below w.heap.size w w') : Fr X w w' := ⟨h.os, h.tape, h.output, h.size, fun k hk _ => h.block k hk⟩
theorem Fr.trans {X : Nat → Prop} {w w' w'' : World} (h : Fr X w w') (h' : Fr X w' w'') : Fr X w w'' :=
  ⟨h'.os.trans h.os, h'.tape.trans h.tape, h'.output.trans h.output, Nat.le_trans h.size h'.size, fun k hk hx => (h'.block k (Nat.lt_of_lt_of_le hk h.size) hx).trans (h.block k hk hx)⟩
theorem Fr.mono {X Y : Nat → Prop} {w w' : World} (h : Fr X w w') (hs : ∀ k, X k → Y k) : Fr Y w w' := ⟨h.os, h.tape, h.output, h.size, fun k hk hx => h.block k hk (fun hx' => hx (hs k hx'))⟩
theorem Fr.below {X : Nat → Prop} {base : Nat} {w w' : World} (h : Fr X w w') (hb : base ≤ w.heap.size) (hx : ∀ k, X k → base ≤ k) : Below base w w' :=
  ⟨h.os, h.tape, h.output, h.size, fun k hk => h.block k (by omega) (fun hk' => by have := hx k hk'; omega)⟩
theorem Fr.cell {X : Nat → Prop} {w w' : World} (h : Fr X w w') {p : Addr} (hp : p.block < w.heap.size) (hx : ¬ X p.block) : w'.cell? p = w.cell? p := World.cell?_of_block (h.block _ hp hx)
theorem Fr.frozen {X : Nat → Prop} {w w' : World} (h : Fr X w w') {p : Addr} (hp : p.block < w.heap.size) (hx : ¬ X p.block) : w'.frozen? p = w.frozen? p := World.frozen?_of_block (h.block _ hp hx)
/-- a block and its row -/
def Own (LB : Nat) (v : Value) (k : Nat) : Prop := k = LB ∨ v.ownBlock = some k
end Go.Proofs.YtjekalilfhnpmaaGreatDoor
namespace Go.Proofs.YtjekalilfhnpmaaGreatDoor
open Go Go.RowKit Go.Maps
set_option linter.unusedVariables false
set_option linter.unusedSimpArgs false
set_option maxRecDepth 100000
/-- an element reads as itself -/
def heldR : Value → Option (DataW Value × List MemPlace) := fun v => some (.held v, [])
/-- what a map holds at a key -/
def mlook (D : DataW Value) (l : Lit) : Option Value := if Maps.has D l = true then (match D.atKey l .nil with | .held v => some v | _ => none) else none
theorem atKey_has {D : DataW Value} {l : Lit} (h : Maps.has D l = true) (z z' : DataW Value) : D.atKey l z = D.atKey l z' := by
  cases D with
  | map es =>
    simp only [Maps.has, List.any_eq_true] at h
    simp only [DataW.atKey]
    cases hf : es.find? (fun p => p.1.sameKey l) with
    | some p => rfl
    | none =>
      obtain ⟨p, hp, hs⟩ := h
      have := List.find?_eq_none.1 hf p hp
      rw [hs] at this
      exact absurd rfl this
  | _ => cases h
open Classical in
/-- turned at one key -/
noncomputable def upd (f : Lit → Option Value) (kl : Lit) (v : Option Value) : Lit → Option Value := fun l => if l = kl then v else f l
theorem upd_same (f : Lit → Option Value) (kl : Lit) (v : Option Value) : upd f kl v kl = v := by unfold upd; rw [if_pos rfl]
theorem upd_other (f : Lit → Option Value) {kl l : Lit} (v : Option Value) (h : l ≠ kl) : upd f kl v l = f l := by unfold upd; rw [if_neg h]
/-- a map of the call's own -/
def MapV (P : Program) (kt : TypeId) (b n : Nat) (f : Lit → Option Value) (w : World) : Prop := ∃ D : DataW Value, w.ownsMap P kt heldR b n D ∧ ∀ l, f l = mlook D l
section
variable {P : Program} {kt : TypeId} {b n : Nat} {f : Lit → Option Value} {w : World}
theorem MapV.made (w : World) (P : Program) (kt : TypeId) : MapV P kt w.heap.size 0 (fun _ => none) (w.alloc (.map #[] 0)) :=
  ⟨_, World.ownsMap_made w P kt heldR, fun l => by simp [mlook, Maps.has]⟩
theorem MapV.lt (h : MapV P kt b n f w) : b < w.heap.size := by obtain ⟨D, h, _⟩ := h; exact h.lt
theorem MapV.mono (h : MapV P kt b n f w) {n' : Nat} (hn : n ≤ n') : MapV P kt b n' f w := by obtain ⟨D, h, e⟩ := h; exact ⟨D, h.mono hn, e⟩
theorem MapV.block {w' : World} (h : MapV P kt b n f w) (hb : w'.heap[b]? = w.heap[b]?) : MapV P kt b n f w' := by
  obtain ⟨D, ⟨es, clock, h1, h2⟩, e⟩ := h
  exact ⟨D, ⟨es, clock, hb.trans h1, h2⟩, e⟩
theorem MapV.below {w' : World} (h : MapV P kt b n f w) (hb : Below w.heap.size w w') : MapV P kt b n f w' := h.block (hb.block b h.lt)
theorem MapV.fr {X : Nat → Prop} {w' : World} (h : MapV P kt b n f w) (hF : Fr X w w') (hx : ¬ X b) : MapV P kt b n f w' := h.block (hF.block b h.lt hx)
theorem MapV.ext {g : Lit → Option Value} (h : MapV P kt b n f w) (e : ∀ l, g l = f l) : MapV P kt b n g w := by obtain ⟨D, h, e'⟩ := h; exact ⟨D, h, fun l => (e l).trans (e' l)⟩
/-- a look-up, with 'ok' or without -/
theorem MapV.look (h : MapV P kt b n f w) (K : Keyed P kt) {t e : TypeId} (ht : P.underlying t = some (.map kt e)) {z : Value} (hz : (zeroValue e).run P w = .ok z w) {key : Value} {kl : Lit} (hkey : keyOf P kt key = some kl) :
    (Instr.lookup t (.map (some b)) key true).run P w = .ok (.tuple #[(f kl).getD z, .bool (f kl).isSome]) w ∧ (Instr.lookup t (.map (some b)) key false).run P w = .ok ((f kl).getD z) w := by
  obtain ⟨D, h, ef⟩ := h
  obtain ⟨v, ps, hr, hv⟩ := h.look_ok K ht hz (zd := .held z) (zp := []) rfl hkey
  obtain ⟨v2, ps2, hr2, hv2⟩ := h.lookup K ht hz (zd := .held z) (zp := []) rfl hkey
  have e1 : DataW.held v = D.atKey kl (.held z) := congrArg Prod.fst (Option.some.inj hv)
  have e2 : DataW.held v2 = D.atKey kl (.held z) := congrArg Prod.fst (Option.some.inj hv2)
  have e3 : v2 = v := by have := e2.trans e1.symm; cases this; rfl
  subst e3
  rw [hr, hr2, ef kl, mlook]
  cases hh : Maps.has D kl with
  | true => rw [if_pos rfl, atKey_has hh .nil (.held z), ← e1]; exact ⟨rfl, rfl⟩
  | false =>
    rw [Maps.atKey_of_not_has hh] at e1
    cases e1
    exact ⟨rfl, rfl⟩
/-- a store -/
theorem MapV.store (h : MapV P kt b n f w) (K : Keyed P kt) {t e : TypeId} (ht : P.underlying t = some (.map kt e)) (hn : n < maxLen) {key val : Value} {kl : Lit} (hkey : keyOf P kt key = some kl) :
    ∃ w', (Instr.mapUpdate t (.map (some b)) key val).run P w = .ok () w' ∧ MapV P kt b (n + 1) (upd f kl (some val)) w' ∧ w.grownBy w' (some b) := by
  obtain ⟨D, h, ef⟩ := h
  have hm := h.isMap
  have hk := K.key hkey
  obtain ⟨w', hr, h', hg⟩ := h.update K ht hn (val := val) (d := .held val) (ps := []) hkey rfl
  refine ⟨w', hr, ⟨_, h', fun l => ?_⟩, hg⟩
  by_cases hl : l = kl
  · subst hl
    rw [upd_same, mlook, Maps.has_put_same hm hk, if_pos rfl, Maps.atKey_put_same hm hk]
  · rw [upd_other f _ hl, ef l, mlook, mlook, Maps.has_put_other hl, Maps.atKey_put_other hl]
/-- 'delete' -/
theorem MapV.drop (h : MapV P kt b n f w) (K : Keyed P kt) {t e : TypeId} (ht : P.underlying t = some (.map kt e)) {key : Value} {kl : Lit} (hkey : keyOf P kt key = some kl) (ty : TypeId) :
    ∃ w', (Builtin.delete_ #[t, kt] ty #[.map (some b), key]).run P w = .ok (.tuple #[]) w' ∧ MapV P kt b n (upd f kl none) w' ∧ w.grownBy w' (some b) := by
  obtain ⟨D, h, ef⟩ := h
  obtain ⟨w', hr, h', hg⟩ := h.drop K ht hkey ty
  refine ⟨w', hr, ⟨_, h', fun l => ?_⟩, hg.grown⟩
  by_cases hl : l = kl
  · subst hl
    rw [upd_same, mlook, Maps.has_del_same]
    rfl
  · rw [upd_other f _ hl, ef l, mlook, mlook, Maps.has_del_other hl, Maps.atKey_del_other hl]
end
/-- a look-up, at the operation -/
theorem wpList_look_ok {P : Program} (w : World) {ops : Array Oper} {rest : List Oper} {o : Oper} {a : Act} {Q : Exit → Act → World → Prop}
    (hg : o.guard = none) (m x : Operand) (t : TypeId) (hop : o.op = Op.lookup t m x true)
    (k e : TypeId) (K : Keyed P k) (ht : P.underlying t = some (.map k e)) (z : Value) (hz : (zeroValue e).run P w = .ok z w) (b n : Nat) (f : Lit → Option Value)
    (hm : a.eval m = .map (some b)) (hown : MapV P k b n f w) (key : Value) (kl : Lit) (hx : a.eval x = key) (hkey : keyOf P k key = some kl) (r : Option Value) (hr : f kl = r)
    (hK : wpList P ops Q rest (a.put o.dst (.tuple #[r.getD z, .bool r.isSome])) w) :
    wpList P ops Q (o :: rest) a w := by
  refine wpList_plain hg fun K' hK' => ?_
  have hrun := (hown.look K ht hz hkey).1
  rw [hr] at hrun
  unfold Oper.wp
  simp [execOp, hop, hm, hx, hrun, Result.andThen]
  exact hK' _ _ hK
theorem wpList_look {P : Program} (w : World) {ops : Array Oper} {rest : List Oper} {o : Oper} {a : Act} {Q : Exit → Act → World → Prop}
    (hg : o.guard = none) (m x : Operand) (t : TypeId) (hop : o.op = Op.lookup t m x false)
    (k e : TypeId) (K : Keyed P k) (ht : P.underlying t = some (.map k e)) (z : Value) (hz : (zeroValue e).run P w = .ok z w) (b n : Nat) (f : Lit → Option Value)
    (hm : a.eval m = .map (some b)) (hown : MapV P k b n f w) (key : Value) (kl : Lit) (hx : a.eval x = key) (hkey : keyOf P k key = some kl) (r : Option Value) (hr : f kl = r)
    (hK : wpList P ops Q rest (a.put o.dst (r.getD z)) w) :
    wpList P ops Q (o :: rest) a w := by
  refine wpList_plain hg fun K' hK' => ?_
  have hrun := (hown.look K ht hz hkey).2
  rw [hr] at hrun
  unfold Oper.wp
  simp [execOp, hop, hm, hx, hrun, Result.andThen]
  exact hK' _ _ hK
/-- a store, at the operation -/
theorem wpList_put {P : Program} (w : World) {ops : Array Oper} {rest : List Oper} {o : Oper} {a : Act} {Q : Exit → Act → World → Prop}
    (hg : o.guard = none) (m x v : Operand) (t : TypeId) (hop : o.op = Op.mapUpdate t m x v)
    (k e : TypeId) (K : Keyed P k) (ht : P.underlying t = some (.map k e)) (b n : Nat) (f : Lit → Option Value)
    (hm : a.eval m = .map (some b)) (hown : MapV P k b n f w) (hn : n < maxLen) (key val : Value) (kl : Lit) (hx : a.eval x = key) (hv : a.eval v = val) (hkey : keyOf P k key = some kl)
    (hK : ∀ w', MapV P k b (n + 1) (upd f kl (some val)) w' → w.grownBy w' (some b) → wpList P ops Q rest (a.put o.dst undef) w') :
    wpList P ops Q (o :: rest) a w := by
  refine wpList_plain hg fun K' hK' => ?_
  obtain ⟨w', hrun, r1, r2⟩ := hown.store K ht hn (val := val) hkey
  unfold Oper.wp
  simp [execOp, hop, hm, hx, hv, hrun, Result.andThen]
  exact hK' _ _ (hK w' r1 r2)
/-- 'delete', at the operation -/
theorem wpList_del {P : Program} (w : World) {ops : Array Oper} {rest : List Oper} {o : Oper} {a : Act} {Q : Exit → Act → World → Prop}
    (hg : o.guard = none) (m x : Operand) (t k : TypeId) (hop : o.op = Op.call { callee := Callee.builtin Builtin.delete, args := #[m, x], argTypes := #[t, k] })
    (e : TypeId) (K : Keyed P k) (ht : P.underlying t = some (.map k e)) (b n : Nat) (f : Lit → Option Value)
    (hm : a.eval m = .map (some b)) (hown : MapV P k b n f w) (key : Value) (kl : Lit) (hx : a.eval x = key) (hkey : keyOf P k key = some kl)
    (hK : ∀ w', MapV P k b n (upd f kl none) w' → w.grownBy w' (some b) → wpList P ops Q rest (a.put o.dst (.tuple #[])) w') :
    wpList P ops Q (o :: rest) a w := by
  refine wpList_plain hg fun K' hK' => ?_
  obtain ⟨w', hrun, r1, r2⟩ := hown.drop K ht hkey o.type
  unfold Oper.wp
  simp [execOp, hop, resolve, invoke, builtin, hm, hx, hrun, Result.andThen]
  exact hK' _ _ (hK w' r1 r2)
/-- what a store or a 'delete' leaves -/
theorem fr_of_grown {w w' : World} {b : Nat} {X : Nat → Prop} (h : w.grownBy w' (some b)) (hx : X b) : Fr X w w' :=
  ⟨h.os, h.tape, h.output, h.size, fun k hk hn => h.block k hk (fun e => hn (by cases e; exact hx))⟩
end Go.Proofs.YtjekalilfhnpmaaGreatDoor
namespace Go.Proofs.YtjekalilfhnpmaaGreatDoor
open Go Go.RowKit
set_option linter.unusedVariables false
set_option linter.unusedSimpArgs false
set_option maxHeartbeats 1000000
set_option maxRecDepth 100000
def intsV (xs : List Int) : List Value := xs.map fun x => Value.int .i64 x
/-- numbers of the call's own, in the making -/
structure ISt (w0 : World) (v : Value) (xs : List Int) (w : World) : Prop where
  own : w.ownsRow w0.heap.size 3 1 v xs.length (intsV xs)
  bel : Below w0.heap.size w0 w
theorem ISt.below {w0 w w' : World} {v : Value} {xs : List Int} (h : ISt w0 v xs w) (hb : Below w.heap.size w w') : ISt w0 v xs w' :=
  ⟨h.own.kept (row := none) ⟨hb.os, hb.tape, hb.output, hb.size, fun k hk _ => hb.block k hk⟩ (by cases hv : v.ownBlock <;> simp), h.bel.trans (hb.mono h.bel.size)⟩
theorem ISt.app {w0 w w' : World} {v v' : Value} {xs : List Int} {x : Int} {o : Obj} (h : ISt w0 v xs w)
    (hown : w'.ownsRow w0.heap.size 3 1 v' (xs.length + 1) (intsV xs ++ [.int .i64 x])) (hg : (w.alloc o).grownBy w' v.ownBlock) : ISt w0 v' (xs ++ [x]) w' := by
  have hb : Below w0.heap.size w0 w' := (h.bel.alloc h.bel.size o).grown hg (by have := h.bel.size; simp; omega) (fun k hk => (h.own.lt k hk).1)
  exact ⟨by simpa [intsV] using hown, hb⟩
theorem ISt.start (w : World) : ISt w (.slice none 0 0) [] w := ⟨World.ownsRow_nil _ _ _ _, Below.refl _ _⟩
theorem ISt.at {w0 w : World} {v : Value} {xs : List Int} (h : ISt w0 v xs w) (h0 : 0 < xs.length) : ∃ g cap, v = .slice (some ⟨g, 0, none⟩) xs.length cap ∧ w0.heap.size ≤ g ∧ g < w.heap.size ∧ xs.length ≤ cap ∧ ∀ j x, xs[j]? = some x → w.cell? ⟨g, j, none⟩ = some (.int .i64 x) := by
  have hown := h.own
  rcases h.own.2 with ⟨_, hn⟩ | ⟨g, cap, cur, hv, hg, hh, hcap, hm, hsz, hcs⟩
  · omega
  · have ht : ∀ j x, xs[j]? = some x → w.cell? ⟨g, j, none⟩ = some (.int .i64 x) := by
      intro j x hx
      have := hown.cells (g := g) (by rw [hv]; rfl) j (.int .i64 x) (by rw [intsV, List.getElem?_map, hx]; rfl)
      rw [Addr.add_lit] at this
      simpa using this
    exact ⟨g, cap, hv, hg, World.block_lt_of_cell? _ _ (ht 0 _ (List.getElem?_eq_getElem h0)), hcap, ht⟩
end Go.Proofs.YtjekalilfhnpmaaGreatDoor
namespace Go.Proofs.YtjekalilfhnpmaaGreatDoor
open Go Go.RowKit
set_option linter.unusedVariables false
set_option linter.unusedSimpArgs false
set_option maxHeartbeats 1000000
theorem clockNew_ok (by' : Int) (w : World) (h1 : 0 ≤ by') (h2 : by' < 4) :
    Calls Tryz.prog 50 #[.int .i64 by'] w fun e w' => e = .returned (.tuple #[.pointer (some ⟨w.heap.size, 0, none⟩), .nilIface]) ∧ w' = w.alloc (.cells #[.int .i64 0, .int .i64 by'] 182) := by
  go_enter Tryz.func50, Tryz.ntmps50
  go_wp2
  go_ret2
  exact ⟨rfl, rfl⟩
theorem clockNew_bad (by' : Int) (w : World) (a : Addr) (hE : ErrAt w 1 (errT 2) a) (h : by' < 0 ∨ 4 ≤ by') :
    Calls Tryz.prog 50 #[.int .i64 by'] w fun e w' => e = .returned (.tuple #[.pointer none, errV a]) ∧ Below w.heap.size w w' := by
  have hc := hE.var
  clear hE
  by_cases h1 : by' < 0
  · clear h
    go_enter Tryz.func50, Tryz.ntmps50
    go_wp2
    go_quiet (fail)
    go_wp2
    go_ret2
    exact ⟨rfl, ⟨rfl, rfl, rfl, Nat.le_refl _, fun _ _ => rfl⟩⟩
  · have h2 : 4 ≤ by' := by omega
    clear h
    go_enter Tryz.func50, Tryz.ntmps50
    go_wp2
    go_quiet (fail)
    go_wp2
    go_ret2
    exact ⟨rfl, ⟨rfl, rfl, rfl, Nat.le_refl _, fun _ _ => rfl⟩⟩
theorem clockTime_any (B : Nat) (t : Int) (w : World) (h0 : w.cell? ⟨B, 0, none⟩ = some (.int .i64 t)) :
    Calls Tryz.prog 44 #[.pointer (some ⟨B, 0, none⟩)] w fun e w' => e = .returned (.int .i64 t) ∧ w' = w := by
  go_enter Tryz.func44, Tryz.ntmps44
  go_wp2
  go_ret
  exact ⟨rfl, rfl⟩
theorem clockHear_ok (B : Nat) (T t b : Int) (w : World) (h0 : w.cell? ⟨B, 0, none⟩ = some (.int .i64 T)) (hf : w.frozen? ⟨B, 0, none⟩ = false) (h : StampOk t b) :
    Calls Tryz.prog 116 #[.pointer (some ⟨B, 0, none⟩), stampV t b] w fun e w' => e = .returned .nilIface ∧ Below w.heap.size (w.setCell ⟨B, 0, none⟩ (.int .i64 (max T t))) w' := by
  have hB := World.block_lt_of_cell? w _ h0
  simp only at hB
  obtain ⟨h1, h2, h3, h4⟩ := h
  by_cases hm0 : t ≤ T
  · have hm : max T t = T := by omega
    rw [hm]
    clear hm
    go_enter Tryz.func116, Tryz.ntmps116
    go_wp2
    go_region
    go_wp2
    go_ret
    exact ⟨rfl, by go_grown⟩
  · have hm : max T t = t := by omega
    rw [hm]
    clear hm
    go_enter Tryz.func116, Tryz.ntmps116
    go_wp2
    go_region
    go_wp2
    go_ret
    exact ⟨rfl, by go_grown⟩
end Go.Proofs.YtjekalilfhnpmaaGreatDoor
