/- The library's stable sort, over any elements that are structs: what its walks lean on. -/
import Derived.Test.YthlojjknpfijmaaDoorSortP
import Derived.Test.YthlojjknpfijmaaDoorSortL
import Derived.Shelf.SlSortCmp.KitK
import Derived.Shelf.RegionOpen
import Derived.Test.YthlojjknpfijmaaDoorBase
namespace Go.Proofs.YthlojjknpfijmaaDoor
open Go Go.RowKit Go.Shelf Go.Lib Go.Sort Stb
set_option linter.unusedVariables false
set_option linter.unusedSimpArgs false

/-- a program that has the bodies of the stable sort, at elements of k cells -/
structure StbL (P : Program) (k : Nat) : Prop where
  mixed : P.follows Departure.mixedOrders = true
  t0 : P.underlying 0 = some (TypeDesc.tuple #[])
  a0 : ∀ w, (isAgg 0).run P w = .ok false w
  z0 : ∀ w, (Go.sizeOf 0).run P w = .ok 1 w
  v0 : ∀ w, (zeroValue 0).run P w = .ok (.tuple #[]) w
  t3 : P.underlying 3 = some (TypeDesc.int IntKind.i64)
  a3 : ∀ w, (isAgg 3).run P w = .ok false w
  z3 : ∀ w, (Go.sizeOf 3).run P w = .ok 1 w
  v3 : ∀ w, (zeroValue 3).run P w = .ok (.int .i64 0) w
  t4 : P.underlying 4 = some TypeDesc.bool
  a4 : ∀ w, (isAgg 4).run P w = .ok false w
  z4 : ∀ w, (Go.sizeOf 4).run P w = .ok 1 w
  v4 : ∀ w, (zeroValue 4).run P w = .ok (.bool false) w
  ts : P.underlying 56 = some (TypeDesc.slice 61)
  asl : ∀ w, (isAgg 56).run P w = .ok false w
  zs : ∀ w, (Go.sizeOf 56).run P w = .ok 1 w
  vs : ∀ w, (zeroValue 56).run P w = .ok (.slice none 0 0) w
  tc : P.underlying 139 = some (TypeDesc.func #[61, 61] #[3] false)
  ac : ∀ w, (isAgg 139).run P w = .ok false w
  zc : ∀ w, (Go.sizeOf 139).run P w = .ok 1 w
  vc : ∀ w, (zeroValue 139).run P w = .ok .nilFunc w
  tu : P.underlying 187 = some (TypeDesc.int IntKind.u64)
  au : ∀ w, (isAgg 187).run P w = .ok false w
  zu : ∀ w, (Go.sizeOf 187).run P w = .ok 1 w
  vu : ∀ w, (zeroValue 187).run P w = .ok (.int .u64 0) w
  aE : ∀ w, (isAgg 61).run P w = .ok true w
  zE : ∀ w, (Go.sizeOf 61).run P w = .ok k w
  ins : Go.Proofs.SlLaysF0.n20 P Tryd.insOp_ren
  fsr : P.funcs[194]? = some Tryd.f194
  fro : P.funcs[170]? = some Tryd.f170
  fsm : P.funcs[145]? = some Tryd.f145
  fst : P.funcs[110]? = some Tryd.f110
theorem stbL : StbL Tryd.prog 8 where
  mixed := by kernel_rfl
  t0 := Tryd.underlying0
  a0 := Tryd.isAgg0
  z0 := Tryd.sizeOf0
  v0 := Tryd.zeroValue0
  t3 := Tryd.underlying3
  a3 := Tryd.isAgg3
  z3 := Tryd.sizeOf3
  v3 := Tryd.zeroValue3
  t4 := Tryd.underlying4
  a4 := Tryd.isAgg4
  z4 := Tryd.sizeOf4
  v4 := Tryd.zeroValue4
  ts := Tryd.underlying56
  asl := Tryd.isAgg56
  zs := Tryd.sizeOf56
  vs := Tryd.zeroValue56
  tc := Tryd.underlying139
  ac := Tryd.isAgg139
  zc := Tryd.sizeOf139
  vc := Tryd.zeroValue139
  tu := Tryd.underlying187
  au := Tryd.isAgg187
  zu := Tryd.sizeOf187
  vu := Tryd.zeroValue187
  aE := Tryd.isAgg61
  zE := Tryd.sizeOf61
  ins := Tryd.insOp
  fsr := Tryd.func194
  fro := Tryd.func170
  fsm := Tryd.func145
  fst := Tryd.func110
end Go.Proofs.YthlojjknpfijmaaDoor
