/- What a row's listed variables give: the errors of package api where their variables say, and errors.errorType. -/
import Derived.Test.YtjekalilfhnpmaaGreatDoorCards
import Derived.Test.YtjekalilfhnpmaaGreatDoorTie
import Derived.LaidHandle
import Derived.Test.YtjekalilfhnpmaaGreatDoorM01
namespace Go.Proofs.YtjekalilfhnpmaaGreatDoor
open Go Go.ChangeShapes Go.WideShapes Go.ChangeAt Go.RowKit
set_option linter.unusedVariables false
set_option linter.unusedSimpArgs false
theorem etNamed : Tryz.prog.globalNamed "errors.errorType" = some 12 := by kernel_rfl
theorem rtNamed : (Tryz.prog.cutTypes.find? (·.1 == "internal/reflectlite.rtype")).map (·.2) = some 329 := by kernel_rfl
theorem oneRow : ((List.range 394).filter fun t => Tryz.prog.rowNamed t [101, 114, 114, 111, 114]) = [25] := by kernel_rfl
theorem typesSize : Tryz.prog.types.size = 394 := by kernel_rfl
theorem typeVar_of_laid {W : World} {l : List (String × DataW Unit)} (h : laidMetH Tryz.prog l W)
    (hl : ("errors.errorType", Rows.laid_errors_errorType) ∈ l) : TypeVar W := by
  have h' := (laidMetH_iff.1 h).2
  obtain ⟨name, u, ty, e1, e2, e3, e4, e5⟩ := h' _ (List.mem_filter.2 ⟨hl, by rfl⟩)
  have en : name = [101, 114, 114, 111, 114] := (Option.some.inj e1).symm
  subst en
  obtain rfl := Option.some.inj (rtNamed.symm.trans e2)
  have hm : ty ∈ (List.range 394).filter fun t => Tryz.prog.rowNamed t [101, 114, 114, 111, 114] := List.mem_filter.2 ⟨List.mem_range.2 (by rw [← typesSize]; exact e3), e4⟩
  rw [oneRow] at hm
  obtain rfl := List.mem_singleton.1 hm
  have hh : typeHandle Tryz.prog 25 = .pointer (some ⟨19, 25, none⟩) := by kernel_rfl
  rw [hh] at e5
  simpa [TypeVar] using World.var?_cell etNamed e5 0
/-- the names of the variables of errors -/
def errN : Nat → String
  | 1 => "concordat/api.ErrText"
  | 2 => "concordat/api.ErrBound"
  | 3 => "concordat/api.ErrShape"
  | 4 => "concordat/api.ErrName"
  | 5 => "concordat/api.ErrKind"
  | 6 => "concordat/api.ErrNone"
  | 7 => "concordat/api.ErrExist"
  | 8 => "concordat/api.ErrFull"
  | 9 => "concordat/api.ErrGap"
  | 10 => "concordat/api.ErrCycle"
  | 11 => "concordat/api.ErrOff"
  | 12 => "concordat/api.ErrSum"
  | _ => ""
def ErrVarOk (k : Nat) : Prop := Tryz.prog.globalNamed (errN k) = some (errG k) ∧ (Tryz.prog.globals[errG k]?).map (·.type) = some 25
theorem errVar1 : ErrVarOk 1 := ⟨by kernel_rfl, by kernel_rfl⟩
theorem errVar2 : ErrVarOk 2 := ⟨by kernel_rfl, by kernel_rfl⟩
theorem errVar3 : ErrVarOk 3 := ⟨by kernel_rfl, by kernel_rfl⟩
theorem errVar4 : ErrVarOk 4 := ⟨by kernel_rfl, by kernel_rfl⟩
theorem errVar5 : ErrVarOk 5 := ⟨by kernel_rfl, by kernel_rfl⟩
theorem errVar6 : ErrVarOk 6 := ⟨by kernel_rfl, by kernel_rfl⟩
theorem errVar7 : ErrVarOk 7 := ⟨by kernel_rfl, by kernel_rfl⟩
theorem errVar8 : ErrVarOk 8 := ⟨by kernel_rfl, by kernel_rfl⟩
theorem errVar9 : ErrVarOk 9 := ⟨by kernel_rfl, by kernel_rfl⟩
theorem errVar10 : ErrVarOk 10 := ⟨by kernel_rfl, by kernel_rfl⟩
theorem errVar11 : ErrVarOk 11 := ⟨by kernel_rfl, by kernel_rfl⟩
theorem errVar12 : ErrVarOk 12 := ⟨by kernel_rfl, by kernel_rfl⟩
/-- the datum of an error's variable -/
def ErrLaid (l : List (String × DataW Unit)) (k : Nat) : Prop :=
  (l.filter fun x => x.1 == errN k) = [(errN k, .iface "*errors.errorString" (.ptr (.agg [.lit (.string (errT k))])))]
theorem errs_of_laid {W : World} {l : List (String × DataW Unit)} {S : List Nat} (h : laidMetH Tryz.prog l W) (hv : ∀ k ∈ S, ErrVarOk k ∧ ErrLaid l k) : ∃ a, Errs a S W :=
  errs_of fun k hk => errAt_of_laid (n := errN k) h (hv k hk).2 (hv k hk).1.1 (hv k hk).1.2
end Go.Proofs.YtjekalilfhnpmaaGreatDoor
