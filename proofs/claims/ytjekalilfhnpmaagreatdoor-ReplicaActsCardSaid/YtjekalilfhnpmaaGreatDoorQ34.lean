/- What is wanted besides: coded2_any. -/
import Derived.LaidEql
import Derived.Stop.Asserts
import Derived.RowKitTokens
import Derived.Test.YtjekalilfhnpmaaGreatDoorQ01
import Derived.Test.YtjekalilfhnpmaaGreatDoorQ02
import Derived.Test.YtjekalilfhnpmaaGreatDoorQ07
import Derived.Test.YtjekalilfhnpmaaGreatDoorQ11
import Derived.Test.YtjekalilfhnpmaaGreatDoorQ15
import Derived.Test.YtjekalilfhnpmaaGreatDoorQ23
import Derived.Test.YtjekalilfhnpmaaGreatDoorQ31
namespace Go.Proofs.YtjekalilfhnpmaaGreatDoor
open Go Go.RowKit Go.Extern.Stop Go.Stop Go.Extern
set_option linter.unusedVariables false
set_option linter.unusedSimpArgs false
set_option maxHeartbeats 1000000
theorem isTypeOf (v:Value) (w:World):(callFunc 189 #[.iface 364 v]).run Tryz.prog w=.ok (.value (.iface 329 (.agg #[.pointer (some ⟨19,364,none⟩)]))) w:=by kernel_rfl
theorem isComparable (w:World):(callFunc 288 #[.agg #[.pointer (some ⟨19,364,none⟩)]]).run Tryz.prog w=.ok (.value (.bool true)) w:=by kernel_rfl
theorem isMethodComparable (n:Nat) (v:Value) (w:World):(Go.method (n+1) 329 v "Comparable").run Tryz.prog w=.ok (288,v) w:=by kernel_rfl
theorem isComp:(Tryz.prog.info? 364).map (·.comparable)=some true:=by kernel_rfl
theorem isSize:(Tryz.prog.info? 382).map (·.size)=some 1:=by kernel_rfl
theorem noIsE (v:Value) (xT:TypeId) (w:World):(Instr.typeAssert (.iface 364 v) xT 340 true).run Tryz.prog w=.ok (.tuple #[.nilIface,.bool false]) w:=run_typeAssert_lacksB Tryz.underlying340 (by kernel_rfl) (by kernel_rfl) v xT w
theorem noUnwrapE (v:Value) (xT:TypeId) (w:World):(Instr.typeAssert (.iface 364 v) xT 336 true).run Tryz.prog w=.ok (.tuple #[.nilIface,.bool false]) w:=run_typeAssert_lacksB Tryz.underlying336 (by kernel_rfl) (by kernel_rfl) v xT w
theorem noUnwrapsE (v:Value) (xT:TypeId) (w:World):(Instr.typeAssert (.iface 364 v) xT 338 true).run Tryz.prog w=.ok (.tuple #[.nilIface,.bool false]) w:=run_typeAssert_lacksB Tryz.underlying338 (by kernel_rfl) (by kernel_rfl) v xT w
theorem noAsE (v:Value) (xT:TypeId) (w:World):(Instr.typeAssert (.iface 364 v) xT 333 true).run Tryz.prog w=.ok (.tuple #[.nilIface,.bool false]) w:=run_typeAssert_lacksB Tryz.underlying333 (by kernel_rfl) (by kernel_rfl) v xT w
theorem noIsF (v:Value) (xT:TypeId) (w:World):(Instr.typeAssert (.iface 191 v) xT 340 true).run Tryz.prog w=.ok (.tuple #[.nilIface,.bool false]) w:=run_typeAssert_lacksB Tryz.underlying340 (by kernel_rfl) (by kernel_rfl) v xT w
theorem hasUnwrapF (v:Value) (xT:TypeId) (w:World):(Instr.typeAssert (.iface 191 v) xT 336 true).run Tryz.prog w=.ok (.tuple #[.iface 191 v,.bool true]) w:=run_typeAssert_hasB Tryz.underlying336 (by kernel_rfl) v xT w
theorem methodUnwrap (n:Nat) (v:Value) (w:World):(Go.method (n+1) 191 v "Unwrap").run Tryz.prog w=.ok (281,v) w:=by kernel_rfl
theorem is_same (a:Addr) (w:World) :
  Calls Tryz.prog 141 #[errV a,errV a] w fun e w'=>e=.returned (.bool true)∧w'=w:=by
 unfold errV
 obtain ⟨i,hi,hcmp⟩:=Option.map_eq_some_iff.1 isComp
 obtain ⟨j,hj,hjs⟩:=Option.map_eq_some_iff.1 isSize
 have tT:=isTypeOf
 have cT:=isComparable
 have mR:=isMethodComparable
 have heq:=run_eql_iface_ptr_same (P:=Tryz.prog) w a Tryz.underlying25 Tryz.underlying364 hi hcmp hj
 go_enter Tryz.func141,Tryz.ntmps141
 go_wp2
 refine wp_loop_rounds 1 ?_
 rw [rounds_succ]
 go_wp2
 go_ret
 exact ⟨rfl,rfl⟩
theorem is_other (a b:Addr) (w:World) (hne:a≠b) (ha:∃ c t,w.heap[a.block]?=some (.cells c t (0,0))) (hb:∃ c t,w.heap[b.block]?=some (.cells c t (0,0))) :
  Calls Tryz.prog 141 #[errV a,errV b] w fun e w'=>e=.returned (.bool false)∧w'=w:=by
 unfold errV
 obtain ⟨ca,ta,ha⟩:=ha
 obtain ⟨cb,tb,hb⟩:=hb
 obtain ⟨i,hi,hcmp⟩:=Option.map_eq_some_iff.1 isComp
 obtain ⟨j,hj,hjs⟩:=Option.map_eq_some_iff.1 isSize
 have tT:=isTypeOf
 have cT:=isComparable
 have mR:=isMethodComparable
 have nE:=noIsE
 have uE:=noUnwrapE
 have vE:=noUnwrapsE
 have heq:=run_eql_iface_ptr_other (P:=Tryz.prog) w Tryz.underlying25 Tryz.underlying364 hi hcmp hj (by rw [hjs];decide) hne ha hb
 go_enter Tryz.func141,Tryz.ntmps141
 go_wp2
 refine wp_loop_rounds 1 ?_
 rw [rounds_succ]
 go_wp2
 go_ret
 exact ⟨rfl,rfl⟩
theorem is_fault_same (pb po:Nat) (b:Addr) (w:World) (h1:w.cell? ⟨pb,po+1,none⟩=some (errV b)) :
  Calls Tryz.prog 141 #[faultV ⟨pb,po,none⟩,errV b] w fun e w'=>e=.returned (.bool true)∧w'=w:=by
 unfold errV at h1 ⊢
 obtain ⟨i,hi,hcmp⟩:=Option.map_eq_some_iff.1 isComp
 obtain ⟨j,hj,hjs⟩:=Option.map_eq_some_iff.1 isSize
 have tT:=isTypeOf
 have cT:=isComparable
 have mR:=isMethodComparable
 have nW:=noIsF
 have uW:=hasUnwrapF
 have mU:=methodUnwrap
 have heq:=run_eql_iface_ptr_same (P:=Tryz.prog) w b Tryz.underlying25 Tryz.underlying364 hi hcmp hj
 have hty:=run_eql_iface_types (P:=Tryz.prog) 191 364 (.pointer (some ⟨pb,po,none⟩)) (.pointer (some b)) Tryz.underlying25 (by decide) w
 go_enter Tryz.func141,Tryz.ntmps141
 go_wp2
 refine wp_loop_rounds 2 ?_
 rw [rounds_succ]
 go_wp2
 rw [rounds_succ]
 go_wp2
 go_ret
 exact ⟨rfl,rfl⟩
theorem is_fault_other (pb po:Nat) (b a:Addr) (w:World) (h1:w.cell? ⟨pb,po+1,none⟩=some (errV a)) (hne:a≠b) (ha:∃ c t,w.heap[a.block]?=some (.cells c t (0,0))) (hb:∃ c t,w.heap[b.block]?=some (.cells c t (0,0))) :
  Calls Tryz.prog 141 #[faultV ⟨pb,po,none⟩,errV b] w fun e w'=>e=.returned (.bool false)∧w'=w:=by
 unfold errV at h1 ⊢
 obtain ⟨ca,ta,ha⟩:=ha
 obtain ⟨cb,tb,hb⟩:=hb
 obtain ⟨i,hi,hcmp⟩:=Option.map_eq_some_iff.1 isComp
 obtain ⟨j,hj,hjs⟩:=Option.map_eq_some_iff.1 isSize
 have tT:=isTypeOf
 have cT:=isComparable
 have mR:=isMethodComparable
 have nE:=noIsE
 have uE:=noUnwrapE
 have vE:=noUnwrapsE
 have nW:=noIsF
 have uW:=hasUnwrapF
 have mU:=methodUnwrap
 have heq:=run_eql_iface_ptr_other (P:=Tryz.prog) w Tryz.underlying25 Tryz.underlying364 hi hcmp hj (by rw [hjs];decide) hne ha hb
 have hty:=run_eql_iface_types (P:=Tryz.prog) 191 364 (.pointer (some ⟨pb,po,none⟩)) (.pointer (some b)) Tryz.underlying25 (by decide) w
 go_enter Tryz.func141,Tryz.ntmps141
 go_wp2
 refine wp_loop_rounds 2 ?_
 rw [rounds_succ]
 go_wp2
 rw [rounds_succ]
 go_wp2
 go_ret
 exact ⟨rfl,rfl⟩
set_option maxHeartbeats 4000000
theorem asValueOf (t:Addr) (w:World):(callFunc 185 #[.iface 237 (.pointer (some t))]).run Tryz.prog w
  = .ok (.value (.agg #[.pointer (some ⟨19,237,none⟩),.pointer (some ⟨w.heap.size,0,none⟩),.int .u64 150])) (w.alloc (.cells #[.pointer (some t)] 237)):=by kernel_rfl
theorem asType (a:Addr) (w:World):(callFunc 186 #[.agg #[.pointer (some ⟨19,237,none⟩),.pointer (some a),.int .u64 150]]).run Tryz.prog w
  = .ok (.value (.iface 329 (.agg #[.pointer (some ⟨19,237,none⟩)]))) w:=by kernel_rfl
theorem asMethodKind (n:Nat) (h:Value) (w:World):(Go.method (n+2) 329 (.agg #[h]) "Kind").run Tryz.prog w=.ok (275,h) w:=by kernel_rfl
theorem asKindFF (w:World):(callFunc 275 #[.pointer (some ⟨19,237,none⟩)]).run Tryz.prog w=.ok (.value (.int .u8 22)) w:=by kernel_rfl
theorem asKindF (w:World):(callFunc 275 #[.pointer (some ⟨19,191,none⟩)]).run Tryz.prog w=.ok (.value (.int .u8 22)) w:=by kernel_rfl
theorem asRlm (z:Sem Value) (f:TypeId→Addr→Nat→Nat→Sem Value) (v:Value) :
  ReflectliteValue.method z f #[v]=(do match ←ReflectliteValue.parts v with | none=>z | some (t,a,fl)=>f t a fl (fl % 32)):=rfl
theorem asPartsFF (a:Addr) (w:World):(ReflectliteValue.parts (.agg #[.pointer (some ⟨19,237,none⟩),.pointer (some a),.int .u64 150])).run Tryz.prog w=.ok (some (237,a,150)) w:=by kernel_rfl
theorem asIsNil (a p:Addr) (W:World) (ha:W.cell? a=some (.pointer (some p))) :
  (ReflectliteValue.method (ReflectliteValue.valueError "reflectlite.Value.IsNil" 0) ReflectliteValue.isNil #[.agg #[.pointer (some ⟨19,237,none⟩),.pointer (some a),.int .u64 150]]).run Tryz.prog W=.ok (.bool false) W:=by
 rw [asRlm]
 simp only [Sem.run_bind,asPartsFF,Result.andThen]
 simp [ReflectliteValue.isNil,loadVar,isAgg,underlying,Tryz.underlying237,ha,Result.andThen]
theorem asMethodElem (n:Nat) (h:Value) (w:World):(Go.method (n+2) 329 (.agg #[h]) "Elem").run Tryz.prog w=.ok (289,.agg #[h]) w:=by kernel_rfl
theorem asMethodImplements (n:Nat) (h:Value) (w:World):(Go.method (n+2) 329 (.agg #[h]) "Implements").run Tryz.prog w=.ok (290,.agg #[h]) w:=by kernel_rfl
theorem asMethodAssignableTo (n:Nat) (h:Value) (w:World):(Go.method (n+2) 329 (.agg #[h]) "AssignableTo").run Tryz.prog w=.ok (287,.agg #[h]) w:=by kernel_rfl
theorem asElem (w:World):(callFunc 289 #[.agg #[.pointer (some ⟨19,237,none⟩)]]).run Tryz.prog w=.ok (.value (.iface 329 (.agg #[.pointer (some ⟨19,191,none⟩)]))) w:=by kernel_rfl
theorem asImplements (w:World):(callFunc 290 #[.agg #[.pointer (some ⟨19,191,none⟩)],.iface 329 (.agg #[.pointer (some ⟨19,25,none⟩)])]).run Tryz.prog w=.ok (.value (.bool true)) w:=by kernel_rfl
theorem asTypeOfF (v:Value) (w:World):(callFunc 189 #[.iface 191 v]).run Tryz.prog w=.ok (.value (.iface 329 (.agg #[.pointer (some ⟨19,191,none⟩)]))) w:=by kernel_rfl
theorem asAssignableF (w:World):(callFunc 287 #[.agg #[.pointer (some ⟨19,191,none⟩)],.iface 329 (.agg #[.pointer (some ⟨19,191,none⟩)])]).run Tryz.prog w=.ok (.value (.bool true)) w:=by kernel_rfl
theorem asAssignableE (w:World):(callFunc 287 #[.agg #[.pointer (some ⟨19,364,none⟩)],.iface 329 (.agg #[.pointer (some ⟨19,191,none⟩)])]).run Tryz.prog w=.ok (.value (.bool false)) w:=by kernel_rfl
theorem asValueOfF (e:Addr) (w:World):(callFunc 185 #[.iface 191 (.pointer (some e))]).run Tryz.prog w
  = .ok (.value (.agg #[.pointer (some ⟨19,191,none⟩),.pointer (some ⟨w.heap.size,0,none⟩),.int .u64 150])) (w.alloc (.cells #[.pointer (some e)] 191)):=by kernel_rfl
theorem asElemOf (w:World):(Rtype.elem? 237).run Tryz.prog w=.ok (some 191) w:=by kernel_rfl
theorem asMk (p:Addr) (w:World):(ReflectliteValue.mk 191 p ReflectliteValue.flagAddr).run Tryz.prog w=.ok (.agg #[.pointer (some ⟨19,191,none⟩),.pointer (some p),.int .u64 406]) w:=by kernel_rfl
theorem asElemV (a p:Addr) (W:World) (ha:W.cell? a=some (.pointer (some p))) :
  (ReflectliteValue.method (ReflectliteValue.valueError "reflectlite.Value.Elem" 0) ReflectliteValue.elem #[.agg #[.pointer (some ⟨19,237,none⟩),.pointer (some a),.int .u64 150]]).run Tryz.prog W
   = .ok (.agg #[.pointer (some ⟨19,191,none⟩),.pointer (some p),.int .u64 406]) W:=by
 rw [asRlm]
 simp only [Sem.run_bind,asPartsFF,Result.andThen]
 simp [ReflectliteValue.elem,loadVar,isAgg,underlying,Tryz.underlying237,ha,Result.andThen,asElemOf,asMk]
theorem asRls (v x:Value):ReflectliteValue.set #[v,x]=(do
  let (some (dst,a,fl),some (src,b,_)):=(←ReflectliteValue.parts v,←ReflectliteValue.parts x)
   | unsupported (.noEntry "extern/(internal/reflectlite.Value).Set.zeroValue")
  if fl / ReflectliteValue.flagAddr % 2 == 0 then unsupported (.noEntry "extern/(internal/reflectlite.Value).Set.unaddressable")
  let val ←loadVar src b
  if ←Rtype.directlyAssignable dst src then storeVar dst a val
  else if ←Rtype.implements dst src then
   if (←Rtype.kind src) == 20 then
    match val with
    | .nilIface=>unsupported (.noEntry "extern/reflectlite: a nil value of one interface type handed on as a value of another")
    | _=>storeVar dst a val
   else storeVar dst a (.iface src val)
  else panicString ("reflectlite.Set: value of type "++(←Rtype.spelt src)++ " is not assignable to type "++(←Rtype.spelt dst))
  pure (.tuple #[])):=rfl
theorem asPartsFa (a:Addr) (w:World):(ReflectliteValue.parts (.agg #[.pointer (some ⟨19,191,none⟩),.pointer (some a),.int .u64 406])).run Tryz.prog w=.ok (some (191,a,406)) w:=by kernel_rfl
theorem asPartsF (a:Addr) (w:World):(ReflectliteValue.parts (.agg #[.pointer (some ⟨19,191,none⟩),.pointer (some a),.int .u64 150])).run Tryz.prog w=.ok (some (191,a,150)) w:=by kernel_rfl
theorem asDirect (w:World):(Rtype.directlyAssignable 191 191).run Tryz.prog w=.ok true w:=by kernel_rfl
theorem asSet (ta b e:Addr) (old:Value) (W:World) (hb:W.cell? b=some (.pointer (some e))) (ht:W.cell? ta=some old) (hf:W.frozen? ta=false) :
  (ReflectliteValue.set #[.agg #[.pointer (some ⟨19,191,none⟩),.pointer (some ta),.int .u64 406],.agg #[.pointer (some ⟨19,191,none⟩),.pointer (some b),.int .u64 150]]).run Tryz.prog W
   = .ok (.tuple #[]) (W.setCell ta (.pointer (some e))):=by
 rw [asRls]
 simp only [Sem.run_bind,asPartsFa,asPartsF,Result.andThen]
 simp [ReflectliteValue.flagAddr,loadVar,isAgg,underlying,Tryz.underlying191,hb,Result.andThen,asDirect,storeVar,Value.cells,storeCells,Addr.add]
 rw [run_store Tryz.prog W ta _ _ (by rfl)]
 simp [ht,hf]
theorem as_miss (a t:Addr) (old:Value) (w:World) (hg:TypeVar w) (ht0:w.cell? t=some old) :
  Calls Tryz.prog 140 #[errV a,.iface 237 (.pointer (some t))] w fun ev w'=>ev=.returned (.bool false)∧Below w.heap.size w w':=by
 unfold errV
 unfold TypeVar at hg
 have h8:=@run_callFunc_extern Tryz.prog 187 _ (ReflectliteValue.method (ReflectliteValue.valueError "reflectlite.Value.IsNil" 0) ReflectliteValue.isNil) Tryz.func187 (by kernel_rfl) (by kernel_rfl) (by kernel_rfl) (by kernel_rfl)
 have tO:=isTypeOf
 have mA:=asMethodAssignableTo
 have aE:=asAssignableE
 have f6:=asValueOf
 have f7:=asType
 have mK:=asMethodKind
 have mE:=asMethodElem
 have mI:=asMethodImplements
 have kFF:=asKindFF
 have kF:=asKindF
 have eFF:=asElem
 have iF:=asImplements
 have nE:=noAsE
 have uE:=noUnwrapE
 have vE:=noUnwrapsE
 have n8:=asIsNil
 have hlt:12 < w.heap.size:=World.block_lt_of_cell? w _ hg
 have hlt1:12 < w.heap.size+1:=by omega
 have hlt2:12 < w.heap.size+1+1:=by omega
 go_enter Tryz.func140,Tryz.ntmps140
 go_wp2
 refine wp_loop_rounds 1 ?_
 rw [rounds_succ]
 go_wp2
 go_ret
 exact ⟨rfl,by go_grown⟩
set_option maxRecDepth 100000 in
theorem as_hit (e t:Addr) (old:Value) (w:World) (hg:TypeVar w) (ht0:w.cell? t=some old) (hf0:w.frozen? t=false) :
  Calls Tryz.prog 140 #[faultV e,.iface 237 (.pointer (some t))] w fun ev w'=>ev=.returned (.bool true)∧∃ w1,Below w.heap.size w w1∧w'=w1.setCell t (.pointer (some e)):=by
 unfold TypeVar at hg
 have h8:=@run_callFunc_extern Tryz.prog 187 _ (ReflectliteValue.method (ReflectliteValue.valueError "reflectlite.Value.IsNil" 0) ReflectliteValue.isNil) Tryz.func187 (by kernel_rfl) (by kernel_rfl) (by kernel_rfl) (by kernel_rfl)
 have h11:=@run_callFunc_extern Tryz.prog 233 _ (ReflectliteValue.method (ReflectliteValue.valueError "reflectlite.Value.Elem" 0) ReflectliteValue.elem) Tryz.func233 (by kernel_rfl) (by kernel_rfl) (by kernel_rfl) (by kernel_rfl)
 have h12:=@run_callFunc_extern Tryz.prog 234 _ ReflectliteValue.set Tryz.func234 (by kernel_rfl) (by kernel_rfl) (by kernel_rfl) (by kernel_rfl)
 have tO:=asTypeOfF
 have mA:=asMethodAssignableTo
 have aF:=asAssignableF
 have vF:=asValueOfF
 have f6:=asValueOf
 have f7:=asType
 have mK:=asMethodKind
 have mE:=asMethodElem
 have mI:=asMethodImplements
 have kFF:=asKindFF
 have kF:=asKindF
 have eFF:=asElem
 have iF:=asImplements
 have n8:=asIsNil
 have hlt:12 < w.heap.size:=World.block_lt_of_cell? w _ hg
 have hlt1:12 < w.heap.size+1:=by omega
 have hlt2:12 < w.heap.size+1+1:=by omega
 have htl:t.block < w.heap.size:=World.block_lt_of_cell? w _ ht0
 obtain ⟨o1,ho1⟩:∃ o,o=Obj.cells #[.pointer (some t)] 237:=⟨_,rfl⟩
 obtain ⟨o2,ho2⟩:∃ o,o=Obj.cells #[.pointer (some ⟨19,237,none⟩),.pointer (some ⟨w.heap.size,0,none⟩),.int .u64 150] 283:=⟨_,rfl⟩
 obtain ⟨o3,ho3⟩:∃ o,o=Obj.cells #[.pointer (some e)] 191:=⟨_,rfl⟩
 have el:=asElemV ⟨w.heap.size,0,none⟩ t ((((w.alloc o1).alloc o2).alloc o2)) (by subst ho1;rw [World.cell?_alloc_lt _ _ _ (by simp <;> omega),World.cell?_alloc_lt _ _ _ (by simp <;> omega)];simp)
 have st:=asSet t ⟨w.heap.size+1+1+1,0,none⟩ e old ((((w.alloc o1).alloc o2).alloc o2).alloc o3)
  (by subst ho3;rw [World.cell?_alloc_at _ _ _ _ (by simp)];rfl)
  (by rw [World.cell?_alloc_lt _ _ t (by simp <;> omega),World.cell?_alloc_lt _ _ t (by simp <;> omega),World.cell?_alloc_lt _ _ t (by simp <;> omega),World.cell?_alloc_lt _ _ t htl];exact ht0)
  (by rw [World.frozen?_alloc_old _ _ t (by simp <;> omega),World.frozen?_alloc_old _ _ t (by simp <;> omega),World.frozen?_alloc_old _ _ t (by simp <;> omega),World.frozen?_alloc_old _ _ t (Nat.ne_of_lt htl)];exact hf0)
 subst ho1 ho2 ho3
 clear ht0 hf0
 go_enter Tryz.func140,Tryz.ntmps140
 go_wp2
 refine wp_loop_rounds 1 ?_
 rw [rounds_succ]
 go_wp2
 go_ret
 exact ⟨rfl,_,by go_grown,rfl⟩
theorem code_nil (w:World) :
  Calls Tryz.prog 86 #[.nilIface] w fun e w'=>e=.returned (.tuple #[.int .i64 0,.int .i64 (-1)])∧Below w.heap.size w w':=by
 go_enter Tryz.func86,Tryz.ntmps86
 go_wp2
 go_ret2
 exact ⟨rfl,by go_grown⟩
set_option maxRecDepth 100000 in
theorem code_err (a:Nat→Addr) (k:Nat) (w:World) (hk:1≤k) (hk2:k≤12) (hE:Errs a allErrs w) (hT:TypeVar w) :
  Calls Tryz.prog 86 #[errV (a k)] w fun e w'=>e=.returned (.tuple #[.int .i64 k,.int .i64 (-1)])∧Below w.heap.size w w':=by
 go_enter Tryz.func86,Tryz.ntmps86
 go_wp2_with fail
 have hT':=Lib.hid hT
 clear hT
 refine (as_miss (a k) _ (.pointer none) _ (TypeVar.alloc hT'.out _) (by simp [go_sem])).mono ?_
 rintro e w1 ⟨rfl,hb1⟩
 have hz1:w.heap.size < w1.heap.size:=by have:=hb1.size;simp at this;omega
 have E1:Errs a allErrs w1:=(hE.alloc _).below hb1
 have b1:Below w.heap.size w w1:=((Below.refl _ _).alloc (Nat.le_refl _) _).trans (hb1.mono (by simp))
 clear hb1
 have g1:=(E1 1 (by simp)).var
 have g2:=(E1 2 (by simp)).var
 have g3:=(E1 3 (by simp)).var
 have g4:=(E1 4 (by simp)).var
 have g5:=(E1 5 (by simp)).var
 have g6:=(E1 6 (by simp)).var
 have g7:=(E1 7 (by simp)).var
 have g8:=(E1 8 (by simp)).var
 have g9:=(E1 9 (by simp)).var
 have g10:=(E1 10 (by simp)).var
 have g11:=(E1 11 (by simp)).var
 have g12:=(E1 12 (by simp)).var
 have HE:=Lib.hid hE
 have HE1:=Lib.hid E1
 clear hE E1
 simp only [errG] at g1 g2 g3 g4 g5 g6 g7 g8 g9 g10 g11 g12
 go_wp2_with fail
 obtain ⟨W,hW⟩:∃ W,W=w1.alloc (.cells #[errV (a 1),errV (a 2),errV (a 3),errV (a 4),errV (a 5),errV (a 6),errV (a 7),errV (a 8),errV (a 9),errV (a 10),errV (a 11),errV (a 12)] 25):=⟨_,rfl⟩
 have hcell:∀ j,j < 12→W.cell? ⟨w1.heap.size,j,none⟩=some (errV (a (j+1))):=by
  intro j hj
  rw [hW,World.cell?_alloc_at _ _ _ _ rfl]
  have:j=0∨j=1∨j=2∨j=3∨j=4∨j=5∨j=6∨j=7∨j=8∨j=9∨j=10∨j=11:=by omega
  rcases this with rfl | rfl | rfl | rfl | rfl | rfl | rfl | rfl | rfl | rfl | rfl | rfl <;> rfl
 have HEW:Hid (Errs a allErrs W):=by rw [hW];exact Lib.hid (HE1.out.alloc _)
 have HbW:Hid (Below w.heap.size w W):=by rw [hW];exact Lib.hid (b1.alloc (by omega) _)
 clear g1 g2 g3 g4 g5 g6 g7 g8 g9 g10 g11 g12 HE HE1 b1
 rw [←hW]
 clear hW
 go_loop [3,30] (fun v3 v30=>∃ j:Nat,j < k∧v3=.int .i64 (-1)∧v30=.int .i64 j) (fun _ v30=>k - (intOf v30).toNat)
 case atStart=>exact ⟨0,by omega,rfl,rfl⟩
 case round=>
  obtain ⟨j,hj,rfl,rfl⟩:=hrel
  have hcj:=hcell j (by omega)
  clear hcell
  by_cases hjk:j+1=k
  ·subst hjk
   go_wp2_with (go_at_call 141;refine (is_same (a (j+1)) _).mono ?_;rintro e w2 ⟨rfl,rfl⟩)
   go_ret2
   exact ⟨by simp,HbW.out⟩
  ·have n1:a k≠a (j+1):=(HEW.out k (by simp;omega)).ne (HEW.out (j+1) (by simp;omega)) (by
    have h1:∀ x,x < 13→∀ y,y < 13→1≤x→1≤y→errT x=errT y→x=y:=by decide
    intro h2
    exact hjk (h1 k (by omega) (j+1) (by omega) (by omega) (by omega) h2).symm)
   have o1:=(HEW.out k (by simp;omega)).blk
   have o2:=(HEW.out (j+1) (by simp;omega)).blk
   go_wp2_with (go_at_call 141;refine (is_other (a k) (a (j+1)) _ n1 o1 o2).mono ?_;rintro e w2 ⟨rfl,rfl⟩)
   go_round
   case rel=>exact ⟨j+1,by omega,rfl,by go_num⟩
   case measure=>simp [intOf];omega
set_option maxRecDepth 100000 in
theorem code_fault (a:Nat→Addr) (k:Nat) (pb po:Nat) (pl:Int) (w:World) (p0:w.cell? ⟨pb,po,none⟩=some (.int .i64 pl)) (p1:w.cell? ⟨pb,po+1,none⟩=some (errV (a k))) (hk:1≤k) (hk2:k≤12) (hE:Errs a allErrs w) (hT:TypeVar w) :
  Calls Tryz.prog 86 #[faultV ⟨pb,po,none⟩] w fun e w'=>e=.returned (.tuple #[.int .i64 k,.int .i64 pl])∧Below w.heap.size w w':=by
 go_enter Tryz.func86,Tryz.ntmps86
 go_wp2_with fail
 have hT':=Lib.hid hT
 clear hT
 have hpb:pb < w.heap.size:=World.block_lt_of_cell? w _ p0
 refine (as_hit ⟨pb,po,none⟩ _ (.pointer none) _ (TypeVar.alloc hT'.out _) (by simp [go_sem]) (by simp [go_sem])).mono ?_
 rintro e w2 ⟨rfl,w1,hb1,rfl⟩
 have hz1:w.heap.size < w1.heap.size:=by have:=hb1.size;simp at this;omega
 have hc1:w1.cell? ⟨w.heap.size,0,none⟩=some (.pointer none):=(hb1.cell (by simp)).trans (by simp [go_sem])
 have q0:w1.cell? ⟨pb,po,none⟩=some (.int .i64 pl):=(hb1.cell (by simp <;> omega)).trans ((World.cell?_alloc_lt _ _ ⟨pb,po,none⟩ hpb).trans p0)
 have q1:w1.cell? ⟨pb,po+1,none⟩=some (errV (a k)):=(hb1.cell (by simp <;> omega)).trans ((World.cell?_alloc_lt _ _ ⟨pb,po+1,none⟩ hpb).trans p1)
 have b2:Below w.heap.size w (w1.setCell ⟨w.heap.size,0,none⟩ (.pointer (some ⟨pb,po,none⟩))):=(((Below.refl _ _).alloc (Nat.le_refl _) _).trans (hb1.mono (by simp))).setCell (Nat.le_refl _) _
 have hz2:(w1.setCell ⟨w.heap.size,0,none⟩ (.pointer (some ⟨pb,po,none⟩))).heap.size=w1.heap.size:=by simp
 have E2:Errs a allErrs (w1.setCell ⟨w.heap.size,0,none⟩ (.pointer (some ⟨pb,po,none⟩))):=hE.below b2
 have r0:(w1.setCell ⟨w.heap.size,0,none⟩ (.pointer (some ⟨pb,po,none⟩))).cell? ⟨w.heap.size,0,none⟩=some (.pointer (some ⟨pb,po,none⟩)):=World.cell?_setCell_same _ _ _ hc1
 have r1:(w1.setCell ⟨w.heap.size,0,none⟩ (.pointer (some ⟨pb,po,none⟩))).cell? ⟨pb,po,none⟩=some (.int .i64 pl):=(World.cell?_setCell_other _ _ _ _ (by simp <;> omega)).trans q0
 have r2:(w1.setCell ⟨w.heap.size,0,none⟩ (.pointer (some ⟨pb,po,none⟩))).cell? ⟨pb,po+1,none⟩=some (errV (a k)):=(World.cell?_setCell_other _ _ _ _ (by simp <;> omega)).trans q1
 obtain ⟨w2,hw2⟩:∃ w2,w2=w1.setCell ⟨w.heap.size,0,none⟩ (.pointer (some ⟨pb,po,none⟩)):=⟨_,rfl⟩
 rw [←hw2] at b2 hz2 E2 r0 r1 r2 ⊢
 have hz3:w.heap.size < w2.heap.size:=by omega
 have hpb3:pb < w2.heap.size:=by omega
 clear hw2 hz2 q0 q1 hc1 hb1 hz1 p0 p1
 have g1:=(E2 1 (by simp)).var
 have g2:=(E2 2 (by simp)).var
 have g3:=(E2 3 (by simp)).var
 have g4:=(E2 4 (by simp)).var
 have g5:=(E2 5 (by simp)).var
 have g6:=(E2 6 (by simp)).var
 have g7:=(E2 7 (by simp)).var
 have g8:=(E2 8 (by simp)).var
 have g9:=(E2 9 (by simp)).var
 have g10:=(E2 10 (by simp)).var
 have g11:=(E2 11 (by simp)).var
 have g12:=(E2 12 (by simp)).var
 have HE:=Lib.hid hE
 have HE2:=Lib.hid E2
 clear hE E2
 simp only [errG] at g1 g2 g3 g4 g5 g6 g7 g8 g9 g10 g11 g12
 go_wp2_with fail
 obtain ⟨W,hW⟩:∃ W,W=w2.alloc (.cells #[errV (a 1),errV (a 2),errV (a 3),errV (a 4),errV (a 5),errV (a 6),errV (a 7),errV (a 8),errV (a 9),errV (a 10),errV (a 11),errV (a 12)] 25):=⟨_,rfl⟩
 have hcell:∀ j,j < 12→W.cell? ⟨w2.heap.size,j,none⟩=some (errV (a (j+1))):=by
  intro j hj
  rw [hW,World.cell?_alloc_at _ _ _ _ rfl]
  have:j=0∨j=1∨j=2∨j=3∨j=4∨j=5∨j=6∨j=7∨j=8∨j=9∨j=10∨j=11:=by omega
  rcases this with rfl | rfl | rfl | rfl | rfl | rfl | rfl | rfl | rfl | rfl | rfl | rfl <;> rfl
 have rW:W.cell? ⟨pb,po+1,none⟩=some (errV (a k)):=by rw [hW];exact (World.cell?_alloc_lt _ _ ⟨pb,po+1,none⟩ hpb3).trans r2
 have HEW:Hid (Errs a allErrs W):=by rw [hW];exact Lib.hid (HE2.out.alloc _)
 have HbW:Hid (Below w.heap.size w W):=by rw [hW];exact Lib.hid (b2.alloc (by omega) _)
 clear g1 g2 g3 g4 g5 g6 g7 g8 g9 g10 g11 g12 HE HE2 b2 r0 r1 r2
 rw [←hW]
 clear hW
 go_loop [3,30] (fun v3 v30=>∃ j:Nat,j < k∧v3=.int .i64 pl∧v30=.int .i64 j) (fun _ v30=>k - (intOf v30).toNat)
 case atStart=>exact ⟨0,by omega,rfl,rfl⟩
 case round=>
  obtain ⟨j,hj,rfl,rfl⟩:=hrel
  have hcj:=hcell j (by omega)
  clear hcell
  have r3:=rW
  by_cases hjk:j+1=k
  ·subst hjk
   go_wp2_with (go_at_call 141;refine (is_fault_same pb po (a (j+1)) _ rW).mono ?_;rintro e w2 ⟨rfl,rfl⟩)
   go_ret2
   exact ⟨by simp,HbW.out⟩
  ·have n1:a k≠a (j+1):=(HEW.out k (by simp;omega)).ne (HEW.out (j+1) (by simp;omega)) (by
    have h1:∀ x,x < 13→∀ y,y < 13→1≤x→1≤y→errT x=errT y→x=y:=by decide
    intro h2
    exact hjk (h1 k (by omega) (j+1) (by omega) (by omega) (by omega) h2).symm)
   have o1:=(HEW.out k (by simp;omega)).blk
   have o2:=(HEW.out (j+1) (by simp;omega)).blk
   go_wp2_with (go_at_call 141;refine (is_fault_other pb po (a (j+1)) (a k) _ rW n1 o1 o2).mono ?_;rintro e w2 ⟨rfl,rfl⟩)
   go_round
   case rel=>exact ⟨j+1,by omega,rfl,by go_num⟩
   case measure=>simp [intOf];omega
theorem code_any (a:Nat→Addr) (v:Value) (k:Nat) (pl:Int) (w:World) (hv:ErrVal a w v k pl) (hE:Errs a allErrs w) (hT:TypeVar w) :
  Calls Tryz.prog 86 #[v] w fun e w'=>e=.returned (.tuple #[.int .i64 k,.int .i64 pl])∧Below w.heap.size w w':=by
 rcases hv with ⟨rfl,rfl,rfl⟩ | ⟨h1,h2,rfl,rfl⟩ | ⟨h1,h2,pb,po,rfl,p0,p1⟩
 ·exact code_nil w
 ·exact code_err a k w h1 h2 hE hT
 ·exact code_fault a k pb po pl w p0 p1 h1 h2 hE hT
theorem coded2_any (a:Nat→Addr) (v:Value) (k:Nat) (pl c:Int) (w:World) (hv:ErrVal a w v k pl) (hE:Errs a allErrs w) (hT:TypeVar w) :
  Calls Tryz.prog 36 #[v,.int .i64 c] w fun e w'=>e=.returned (.bool (decide ((k:Int)=c) && decide (pl = -1)))∧Below w.heap.size w w':=by
 by_cases h1:(k:Int)=c
 ·have h1':((k:Int) == c)=true:=by simp [h1]
  clear h1
  go_enter Tryz.func36,Tryz.ntmps36
  go_wp2_with (go_at_call 86;refine (code_any a v k pl _ hv hE hT).mono ?_;rintro e w1 ⟨rfl,hb1⟩)
  all_goals
   go_ret
   refine ⟨?_,by assumption⟩
   simp at h1'
   first | (simp [h1'];done) | (simp [h1'];rfl)
 ·have h1':((k:Int) == c)=false:=by simp [h1]
  clear h1
  go_enter Tryz.func36,Tryz.ntmps36
  go_wp2_with (go_at_call 86;refine (code_any a v k pl _ hv hE hT).mono ?_;rintro e w1 ⟨rfl,hb1⟩)
  all_goals
   go_ret
   refine ⟨?_,by assumption⟩
   simp at h1'
   first | (simp [h1'];done) | (simp [h1'];rfl)
end Go.Proofs.YtjekalilfhnpmaaGreatDoor
