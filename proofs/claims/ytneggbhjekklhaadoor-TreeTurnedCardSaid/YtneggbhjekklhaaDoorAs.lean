/- errors.As at *api.Fault: Go's own text is walked, reflectlite by the model's entries. -/
import Derived.Test.YtneggbhjekklhaaDoorErrs
namespace Go.Proofs.YtneggbhjekklhaaDoor
open Go Go.RowKit Go.Extern.Stop Go.Stop Go.Extern
set_option linter.unusedVariables false
set_option linter.unusedSimpArgs false
set_option maxHeartbeats 4000000


theorem asValueOf (t : Addr) (w : World) : (callFunc 111 #[.iface 146 (.pointer (some t))]).run Tryd.prog w
    = .ok (.value (.agg #[.pointer (some ⟨21, 146, none⟩), .pointer (some ⟨w.heap.size, 0, none⟩), .int .u64 150])) (w.alloc (.cells #[.pointer (some t)] 146)) := by kernel_rfl
theorem asType (a : Addr) (w : World) : (callFunc 112 #[.agg #[.pointer (some ⟨21, 146, none⟩), .pointer (some a), .int .u64 150]]).run Tryd.prog w
    = .ok (.value (.iface 215 (.agg #[.pointer (some ⟨21, 146, none⟩)]))) w := by kernel_rfl
theorem asMethodKind (n : Nat) (h : Value) (w : World) : (Go.method (n + 2) 215 (.agg #[h]) "Kind").run Tryd.prog w = .ok (194, h) w := by kernel_rfl
theorem asKindFF (w : World) : (callFunc 194 #[.pointer (some ⟨21, 146, none⟩)]).run Tryd.prog w = .ok (.value (.int .u8 22)) w := by kernel_rfl
theorem asKindF (w : World) : (callFunc 194 #[.pointer (some ⟨21, 144, none⟩)]).run Tryd.prog w = .ok (.value (.int .u8 22)) w := by kernel_rfl
theorem asRlm (z : Sem Value) (f : TypeId → Addr → Nat → Nat → Sem Value) (v : Value) :
    ReflectliteValue.method z f #[v] = (do match ← ReflectliteValue.parts v with | none => z | some (t, a, fl) => f t a fl (fl % 32)) := rfl
theorem asPartsFF (a : Addr) (w : World) : (ReflectliteValue.parts (.agg #[.pointer (some ⟨21, 146, none⟩), .pointer (some a), .int .u64 150])).run Tryd.prog w = .ok (some (146, a, 150)) w := by kernel_rfl
theorem asIsNil (a p : Addr) (W : World) (ha : W.cell? a = some (.pointer (some p))) :
    (ReflectliteValue.method (ReflectliteValue.valueError "reflectlite.Value.IsNil" 0) ReflectliteValue.isNil #[.agg #[.pointer (some ⟨21, 146, none⟩), .pointer (some a), .int .u64 150]]).run Tryd.prog W = .ok (.bool false) W := by
  rw [asRlm]
  simp only [Sem.run_bind, asPartsFF, Result.andThen]
  simp [ReflectliteValue.isNil, loadVar, isAgg, underlying, Tryd.underlying146, ha, Result.andThen]
theorem asMethodElem (n : Nat) (h : Value) (w : World) : (Go.method (n + 2) 215 (.agg #[h]) "Elem").run Tryd.prog w = .ok (209, .agg #[h]) w := by kernel_rfl
theorem asMethodImplements (n : Nat) (h : Value) (w : World) : (Go.method (n + 2) 215 (.agg #[h]) "Implements").run Tryd.prog w = .ok (210, .agg #[h]) w := by kernel_rfl
theorem asMethodAssignableTo (n : Nat) (h : Value) (w : World) : (Go.method (n + 2) 215 (.agg #[h]) "AssignableTo").run Tryd.prog w = .ok (207, .agg #[h]) w := by kernel_rfl
theorem asElem (w : World) : (callFunc 209 #[.agg #[.pointer (some ⟨21, 146, none⟩)]]).run Tryd.prog w = .ok (.value (.iface 215 (.agg #[.pointer (some ⟨21, 144, none⟩)]))) w := by kernel_rfl
theorem asImplements (w : World) : (callFunc 210 #[.agg #[.pointer (some ⟨21, 144, none⟩)], .iface 215 (.agg #[.pointer (some ⟨21, 32, none⟩)])]).run Tryd.prog w = .ok (.value (.bool true)) w := by kernel_rfl
theorem asTypeOfF (v : Value) (w : World) : (callFunc 115 #[.iface 144 v]).run Tryd.prog w = .ok (.value (.iface 215 (.agg #[.pointer (some ⟨21, 144, none⟩)]))) w := by kernel_rfl
theorem asAssignableF (w : World) : (callFunc 207 #[.agg #[.pointer (some ⟨21, 144, none⟩)], .iface 215 (.agg #[.pointer (some ⟨21, 144, none⟩)])]).run Tryd.prog w = .ok (.value (.bool true)) w := by kernel_rfl
theorem asAssignableE (w : World) : (callFunc 207 #[.agg #[.pointer (some ⟨21, 252, none⟩)], .iface 215 (.agg #[.pointer (some ⟨21, 144, none⟩)])]).run Tryd.prog w = .ok (.value (.bool false)) w := by kernel_rfl
theorem asValueOfF (e : Addr) (w : World) : (callFunc 111 #[.iface 144 (.pointer (some e))]).run Tryd.prog w
    = .ok (.value (.agg #[.pointer (some ⟨21, 144, none⟩), .pointer (some ⟨w.heap.size, 0, none⟩), .int .u64 150])) (w.alloc (.cells #[.pointer (some e)] 144)) := by kernel_rfl
theorem asElemOf (w : World) : (Rtype.elem? 146).run Tryd.prog w = .ok (some 144) w := by kernel_rfl
theorem asMk (p : Addr) (w : World) : (ReflectliteValue.mk 144 p ReflectliteValue.flagAddr).run Tryd.prog w = .ok (.agg #[.pointer (some ⟨21, 144, none⟩), .pointer (some p), .int .u64 406]) w := by kernel_rfl
theorem asElemV (a p : Addr) (W : World) (ha : W.cell? a = some (.pointer (some p))) :
    (ReflectliteValue.method (ReflectliteValue.valueError "reflectlite.Value.Elem" 0) ReflectliteValue.elem #[.agg #[.pointer (some ⟨21, 146, none⟩), .pointer (some a), .int .u64 150]]).run Tryd.prog W
      = .ok (.agg #[.pointer (some ⟨21, 144, none⟩), .pointer (some p), .int .u64 406]) W := by
  rw [asRlm]
  simp only [Sem.run_bind, asPartsFF, Result.andThen]
  simp [ReflectliteValue.elem, loadVar, isAgg, underlying, Tryd.underlying146, ha, Result.andThen, asElemOf, asMk]
theorem asRls (v x : Value) : ReflectliteValue.set #[v, x] = (do
    let (some (dst, a, fl), some (src, b, _)) := (← ReflectliteValue.parts v, ← ReflectliteValue.parts x)
      | unsupported (.noEntry "extern/(internal/reflectlite.Value).Set.zeroValue")
    if fl / ReflectliteValue.flagAddr % 2 == 0 then unsupported (.noEntry "extern/(internal/reflectlite.Value).Set.unaddressable")
    let val ← loadVar src b
    if ← Rtype.directlyAssignable dst src then storeVar dst a val
    else if ← Rtype.implements dst src then
      if (← Rtype.kind src) == 20 then
        match val with
        | .nilIface => unsupported (.noEntry "extern/reflectlite: a nil value of one interface type handed on as a value of another")
        | _ => storeVar dst a val
      else storeVar dst a (.iface src val)
    else panicString ("reflectlite.Set: value of type " ++ (← Rtype.spelt src) ++ " is not assignable to type " ++ (← Rtype.spelt dst))
    pure (.tuple #[])) := rfl
theorem asPartsFa (a : Addr) (w : World) : (ReflectliteValue.parts (.agg #[.pointer (some ⟨21, 144, none⟩), .pointer (some a), .int .u64 406])).run Tryd.prog w = .ok (some (144, a, 406)) w := by kernel_rfl
theorem asPartsF (a : Addr) (w : World) : (ReflectliteValue.parts (.agg #[.pointer (some ⟨21, 144, none⟩), .pointer (some a), .int .u64 150])).run Tryd.prog w = .ok (some (144, a, 150)) w := by kernel_rfl
theorem asDirect (w : World) : (Rtype.directlyAssignable 144 144).run Tryd.prog w = .ok true w := by kernel_rfl
theorem asSet (ta b e : Addr) (old : Value) (W : World) (hb : W.cell? b = some (.pointer (some e))) (ht : W.cell? ta = some old) (hf : W.frozen? ta = false) :
    (ReflectliteValue.set #[.agg #[.pointer (some ⟨21, 144, none⟩), .pointer (some ta), .int .u64 406], .agg #[.pointer (some ⟨21, 144, none⟩), .pointer (some b), .int .u64 150]]).run Tryd.prog W
      = .ok (.tuple #[]) (W.setCell ta (.pointer (some e))) := by
  rw [asRls]
  simp only [Sem.run_bind, asPartsFa, asPartsF, Result.andThen]
  simp [ReflectliteValue.flagAddr, loadVar, isAgg, underlying, Tryd.underlying144, hb, Result.andThen, asDirect, storeVar, Value.cells, storeCells, Addr.add]
  rw [run_store Tryd.prog W ta _ _ (by rfl)]
  simp [ht, hf]

/-- the variable errors.errorType -/
def TypeVar (w : World) : Prop := w.cell? ⟨12, 0, none⟩ = some (.iface 215 (.agg #[.pointer (some ⟨21, 32, none⟩)]))

theorem as_miss (a t : Addr) (old : Value) (w : World) (hg : TypeVar w) (ht0 : w.cell? t = some old) :
    Calls Tryd.prog 83 #[errV a, .iface 146 (.pointer (some t))] w fun ev w' => ev = .returned (.bool false) ∧ Below w.heap.size w w' := by
  unfold errV
  unfold TypeVar at hg
  have h8 := @run_callFunc_extern Tryd.prog 113 _ (ReflectliteValue.method (ReflectliteValue.valueError "reflectlite.Value.IsNil" 0) ReflectliteValue.isNil) Tryd.func113 (by kernel_rfl) (by kernel_rfl) (by kernel_rfl) (by kernel_rfl)
  have tO := isTypeOf
  have mA := asMethodAssignableTo
  have aE := asAssignableE
  have f6 := asValueOf
  have f7 := asType
  have mK := asMethodKind
  have mE := asMethodElem
  have mI := asMethodImplements
  have kFF := asKindFF
  have kF := asKindF
  have eFF := asElem
  have iF := asImplements
  have nE := noAsE
  have uE := noUnwrapE
  have vE := noUnwrapsE
  have n8 := asIsNil
  have hlt : 12 < w.heap.size := World.block_lt_of_cell? w _ hg
  have hlt1 : 12 < w.heap.size + 1 := by omega
  have hlt2 : 12 < w.heap.size + 1 + 1 := by omega
  go_enter Tryd.func83, Tryd.ntmps83
  go_wp2
  refine wp_loop_rounds 1 ?_
  rw [rounds_succ]
  go_wp2
  go_ret
  exact ⟨rfl, by go_grown⟩

set_option maxRecDepth 100000 in
theorem as_hit (e t : Addr) (old : Value) (w : World) (hg : TypeVar w) (ht0 : w.cell? t = some old) (hf0 : w.frozen? t = false) :
    Calls Tryd.prog 83 #[faultV e, .iface 146 (.pointer (some t))] w fun ev w' => ev = .returned (.bool true) ∧ ∃ w1, Below w.heap.size w w1 ∧ w' = w1.setCell t (.pointer (some e)) := by
  unfold TypeVar at hg
  have h8 := @run_callFunc_extern Tryd.prog 113 _ (ReflectliteValue.method (ReflectliteValue.valueError "reflectlite.Value.IsNil" 0) ReflectliteValue.isNil) Tryd.func113 (by kernel_rfl) (by kernel_rfl) (by kernel_rfl) (by kernel_rfl)
  have h11 := @run_callFunc_extern Tryd.prog 146 _ (ReflectliteValue.method (ReflectliteValue.valueError "reflectlite.Value.Elem" 0) ReflectliteValue.elem) Tryd.func146 (by kernel_rfl) (by kernel_rfl) (by kernel_rfl) (by kernel_rfl)
  have h12 := @run_callFunc_extern Tryd.prog 147 _ ReflectliteValue.set Tryd.func147 (by kernel_rfl) (by kernel_rfl) (by kernel_rfl) (by kernel_rfl)
  have tO := asTypeOfF
  have mA := asMethodAssignableTo
  have aF := asAssignableF
  have vF := asValueOfF
  have f6 := asValueOf
  have f7 := asType
  have mK := asMethodKind
  have mE := asMethodElem
  have mI := asMethodImplements
  have kFF := asKindFF
  have kF := asKindF
  have eFF := asElem
  have iF := asImplements
  have n8 := asIsNil
  have hlt : 12 < w.heap.size := World.block_lt_of_cell? w _ hg
  have hlt1 : 12 < w.heap.size + 1 := by omega
  have hlt2 : 12 < w.heap.size + 1 + 1 := by omega
  have htl : t.block < w.heap.size := World.block_lt_of_cell? w _ ht0
  obtain ⟨o1, ho1⟩ : ∃ o, o = Obj.cells #[.pointer (some t)] 146 := ⟨_, rfl⟩
  obtain ⟨o2, ho2⟩ : ∃ o, o = Obj.cells #[.pointer (some ⟨21, 146, none⟩), .pointer (some ⟨w.heap.size, 0, none⟩), .int .u64 150] 182 := ⟨_, rfl⟩
  obtain ⟨o3, ho3⟩ : ∃ o, o = Obj.cells #[.pointer (some e)] 144 := ⟨_, rfl⟩
  have el := asElemV ⟨w.heap.size, 0, none⟩ t ((((w.alloc o1).alloc o2).alloc o2)) (by subst ho1; rw [World.cell?_alloc_lt _ _ _ (by simp <;> omega), World.cell?_alloc_lt _ _ _ (by simp <;> omega)]; simp)
  have st := asSet t ⟨w.heap.size + 1 + 1 + 1, 0, none⟩ e old ((((w.alloc o1).alloc o2).alloc o2).alloc o3)
    (by subst ho3; rw [World.cell?_alloc_at _ _ _ _ (by simp)]; rfl)
    (by rw [World.cell?_alloc_lt _ _ t (by simp <;> omega), World.cell?_alloc_lt _ _ t (by simp <;> omega), World.cell?_alloc_lt _ _ t (by simp <;> omega), World.cell?_alloc_lt _ _ t htl]; exact ht0)
    (by rw [World.frozen?_alloc_old _ _ t (by simp <;> omega), World.frozen?_alloc_old _ _ t (by simp <;> omega), World.frozen?_alloc_old _ _ t (by simp <;> omega), World.frozen?_alloc_old _ _ t (Nat.ne_of_lt htl)]; exact hf0)
  subst ho1 ho2 ho3
  clear ht0 hf0
  go_enter Tryd.func83, Tryd.ntmps83
  go_wp2
  refine wp_loop_rounds 1 ?_
  rw [rounds_succ]
  go_wp2
  go_ret
  exact ⟨rfl, _, by go_grown, rfl⟩
end Go.Proofs.YtneggbhjekklhaaDoor
