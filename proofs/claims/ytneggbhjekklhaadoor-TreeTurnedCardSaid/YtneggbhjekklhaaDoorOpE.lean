/- Operations in rows. -/
import Derived.Test.YtneggbhjekklhaaDoorRow
import Derived.Test.YtneggbhjekklhaaDoorOps
namespace Go.Proofs.YtneggbhjekklhaaDoor
open Go Go.RowKit
set_option linter.unusedVariables false
set_option linter.unusedSimpArgs false

instance : Inhabited OpT := ⟨⟨0, 0, 0, 0, 0, 0, ⟨#[]⟩, ⟨#[]⟩⟩⟩
/-- operations in rows -/
def opE : Enc OpT := ⟨fun o => o.cells.toList, 8, fun _ => rfl, fun x v hv => by
  simp at hv
  rcases hv with rfl | rfl | rfl | rfl | rfl | rfl | rfl | rfl <;> rfl⟩
theorem infoOp : (Tryd.prog.info? 28).map (fun i => (i.zero, i.size, i.bytes)) = some (some (opV ⟨0, 0, 0, 0, 0, 0, ⟨#[]⟩, ⟨#[]⟩⟩), 8, 80) := by kernel_rfl
end Go.Proofs.YtneggbhjekklhaaDoor
