/- errors.Is, errors.As at *api.Fault, plain.Code: what they say of nil, of an error of package api, of a Fault round one. -/
import Derived.Test.YthlojjknpfijmaaDoorBase
import Derived.LaidEql
import Derived.Stop.Asserts
import Derived.RowKitTokens
namespace Go.Proofs.YthlojjknpfijmaaDoor
open Go Go.RowKit Go.Extern.Stop Go.Stop Go.Extern
set_option linter.unusedVariables false
set_option linter.unusedSimpArgs false
set_option maxHeartbeats 1000000

/-! ### closed facts -/
theorem isTypeOf (v : Value) (w : World) : (callFunc 127 #[.iface 289 v]).run Tryd.prog w = .ok (.value (.iface 242 (.agg #[.pointer (some ⟨21, 289, none⟩)]))) w := by kernel_rfl
theorem isComparable (w : World) : (callFunc 240 #[.agg #[.pointer (some ⟨21, 289, none⟩)]]).run Tryd.prog w = .ok (.value (.bool true)) w := by kernel_rfl
theorem isMethodComparable (n : Nat) (v : Value) (w : World) : (Go.method (n + 1) 242 v "Comparable").run Tryd.prog w = .ok (240, v) w := by kernel_rfl
theorem isComp : (Tryd.prog.info? 289).map (·.comparable) = some true := by kernel_rfl
theorem isSize : (Tryd.prog.info? 291).map (·.size) = some 1 := by kernel_rfl
theorem noIsE (v : Value) (xT : TypeId) (w : World) : (Instr.typeAssert (.iface 289 v) xT 252 true).run Tryd.prog w = .ok (.tuple #[.nilIface, .bool false]) w := run_typeAssert_lacksB Tryd.underlying252 (by kernel_rfl) (by kernel_rfl) v xT w
theorem noUnwrapE (v : Value) (xT : TypeId) (w : World) : (Instr.typeAssert (.iface 289 v) xT 249 true).run Tryd.prog w = .ok (.tuple #[.nilIface, .bool false]) w := run_typeAssert_lacksB Tryd.underlying249 (by kernel_rfl) (by kernel_rfl) v xT w
theorem noUnwrapsE (v : Value) (xT : TypeId) (w : World) : (Instr.typeAssert (.iface 289 v) xT 250 true).run Tryd.prog w = .ok (.tuple #[.nilIface, .bool false]) w := run_typeAssert_lacksB Tryd.underlying250 (by kernel_rfl) (by kernel_rfl) v xT w
theorem noAsE (v : Value) (xT : TypeId) (w : World) : (Instr.typeAssert (.iface 289 v) xT 246 true).run Tryd.prog w = .ok (.tuple #[.nilIface, .bool false]) w := run_typeAssert_lacksB Tryd.underlying246 (by kernel_rfl) (by kernel_rfl) v xT w
theorem noIsF (v : Value) (xT : TypeId) (w : World) : (Instr.typeAssert (.iface 174 v) xT 252 true).run Tryd.prog w = .ok (.tuple #[.nilIface, .bool false]) w := run_typeAssert_lacksB Tryd.underlying252 (by kernel_rfl) (by kernel_rfl) v xT w
theorem hasUnwrapF (v : Value) (xT : TypeId) (w : World) : (Instr.typeAssert (.iface 174 v) xT 249 true).run Tryd.prog w = .ok (.tuple #[.iface 174 v, .bool true]) w := run_typeAssert_hasB Tryd.underlying249 (by kernel_rfl) v xT w
theorem methodUnwrap (n : Nat) (v : Value) (w : World) : (Go.method (n + 1) 174 v "Unwrap").run Tryd.prog w = .ok (230, v) w := by kernel_rfl

/-- two pointers to errors: what '==' of their interface values needs -/
theorem heap_of {w : World} {a : Addr} (h : ∃ c t, w.heap[a.block]? = some (.cells c t (0, 0))) : ∃ c t, w.heap[a.block]? = some (.cells c t (0, 0)) := h

/-! ### errors.Is -/
theorem is_same (a : Addr) (w : World) :
    Calls Tryd.prog 100 #[errV a, errV a] w fun e w' => e = .returned (.bool true) ∧ w' = w := by
  unfold errV
  obtain ⟨i, hi, hcmp⟩ := Option.map_eq_some_iff.1 isComp
  obtain ⟨j, hj, hjs⟩ := Option.map_eq_some_iff.1 isSize
  have tT := isTypeOf
  have cT := isComparable
  have mR := isMethodComparable
  have heq := run_eql_iface_ptr_same (P := Tryd.prog) w a Tryd.underlying28 Tryd.underlying289 hi hcmp hj
  go_enter Tryd.func100, Tryd.ntmps100
  go_wp2
  refine wp_loop_rounds 1 ?_
  rw [rounds_succ]
  go_wp2
  go_ret
  exact ⟨rfl, rfl⟩

theorem is_nil (b : Addr) (w : World) :
    Calls Tryd.prog 100 #[.nilIface, errV b] w fun e w' => e = .returned (.bool false) ∧ w' = w := by
  unfold errV
  have hn := run_eql_iface_nil_left (P := Tryd.prog) w 289 (.pointer (some b)) Tryd.underlying28
  go_enter Tryd.func100, Tryd.ntmps100
  go_wp2
  go_ret
  exact ⟨rfl, rfl⟩

theorem is_other (a b : Addr) (w : World) (hne : a ≠ b) (ha : ∃ c t, w.heap[a.block]? = some (.cells c t (0, 0))) (hb : ∃ c t, w.heap[b.block]? = some (.cells c t (0, 0))) :
    Calls Tryd.prog 100 #[errV a, errV b] w fun e w' => e = .returned (.bool false) ∧ w' = w := by
  unfold errV
  obtain ⟨ca, ta, ha⟩ := ha
  obtain ⟨cb, tb, hb⟩ := hb
  obtain ⟨i, hi, hcmp⟩ := Option.map_eq_some_iff.1 isComp
  obtain ⟨j, hj, hjs⟩ := Option.map_eq_some_iff.1 isSize
  have tT := isTypeOf
  have cT := isComparable
  have mR := isMethodComparable
  have nE := noIsE
  have uE := noUnwrapE
  have vE := noUnwrapsE
  have heq := run_eql_iface_ptr_other (P := Tryd.prog) w Tryd.underlying28 Tryd.underlying289 hi hcmp hj (by rw [hjs]; decide) hne ha hb
  go_enter Tryd.func100, Tryd.ntmps100
  go_wp2
  refine wp_loop_rounds 1 ?_
  rw [rounds_succ]
  go_wp2
  go_ret
  exact ⟨rfl, rfl⟩

/-- a fault: an error with its place, at two cells -/
abbrev faultV (p : Addr) : Value := .iface 174 (.pointer (some p))

theorem is_fault_same (pb po : Nat) (b : Addr) (w : World) (h1 : w.cell? ⟨pb, po + 1, none⟩ = some (errV b)) :
    Calls Tryd.prog 100 #[faultV ⟨pb, po, none⟩, errV b] w fun e w' => e = .returned (.bool true) ∧ w' = w := by
  unfold errV at h1 ⊢
  obtain ⟨i, hi, hcmp⟩ := Option.map_eq_some_iff.1 isComp
  obtain ⟨j, hj, hjs⟩ := Option.map_eq_some_iff.1 isSize
  have tT := isTypeOf
  have cT := isComparable
  have mR := isMethodComparable
  have nW := noIsF
  have uW := hasUnwrapF
  have mU := methodUnwrap
  have heq := run_eql_iface_ptr_same (P := Tryd.prog) w b Tryd.underlying28 Tryd.underlying289 hi hcmp hj
  have hty := run_eql_iface_types (P := Tryd.prog) 174 289 (.pointer (some ⟨pb, po, none⟩)) (.pointer (some b)) Tryd.underlying28 (by decide) w
  go_enter Tryd.func100, Tryd.ntmps100
  go_wp2
  refine wp_loop_rounds 2 ?_
  rw [rounds_succ]
  go_wp2
  rw [rounds_succ]
  go_wp2
  go_ret
  exact ⟨rfl, rfl⟩

theorem is_fault_other (pb po : Nat) (b a : Addr) (w : World) (h1 : w.cell? ⟨pb, po + 1, none⟩ = some (errV a)) (hne : a ≠ b) (ha : ∃ c t, w.heap[a.block]? = some (.cells c t (0, 0))) (hb : ∃ c t, w.heap[b.block]? = some (.cells c t (0, 0))) :
    Calls Tryd.prog 100 #[faultV ⟨pb, po, none⟩, errV b] w fun e w' => e = .returned (.bool false) ∧ w' = w := by
  unfold errV at h1 ⊢
  obtain ⟨ca, ta, ha⟩ := ha
  obtain ⟨cb, tb, hb⟩ := hb
  obtain ⟨i, hi, hcmp⟩ := Option.map_eq_some_iff.1 isComp
  obtain ⟨j, hj, hjs⟩ := Option.map_eq_some_iff.1 isSize
  have tT := isTypeOf
  have cT := isComparable
  have mR := isMethodComparable
  have nE := noIsE
  have uE := noUnwrapE
  have vE := noUnwrapsE
  have nW := noIsF
  have uW := hasUnwrapF
  have mU := methodUnwrap
  have heq := run_eql_iface_ptr_other (P := Tryd.prog) w Tryd.underlying28 Tryd.underlying289 hi hcmp hj (by rw [hjs]; decide) hne ha hb
  have hty := run_eql_iface_types (P := Tryd.prog) 174 289 (.pointer (some ⟨pb, po, none⟩)) (.pointer (some b)) Tryd.underlying28 (by decide) w
  go_enter Tryd.func100, Tryd.ntmps100
  go_wp2
  refine wp_loop_rounds 2 ?_
  rw [rounds_succ]
  go_wp2
  rw [rounds_succ]
  go_wp2
  go_ret
  exact ⟨rfl, rfl⟩

/-! ### errors.As -/
theorem as_nil (t : Value) (w : World) :
    Calls Tryd.prog 99 #[.nilIface, t] w fun e w' => e = .returned (.bool false) ∧ w' = w := by
  go_enter Tryd.func99, Tryd.ntmps99
  go_wp2
  go_ret
  exact ⟨rfl, rfl⟩

end Go.Proofs.YthlojjknpfijmaaDoor
