/- Package stamp and what the references say of stamps: each function walked once. -/
import Derived.Test.YtbncfpljiihmnaaGreatDoorBase
namespace Go.Proofs.YtbncfpljiihmnaaGreatDoor
open Go Go.RowKit
set_option linter.unusedVariables false
set_option linter.unusedSimpArgs false
set_option maxHeartbeats 1000000

/-- a right stamp -/
def StampOk (t b : Int) : Prop := 1 ≤ t ∧ t ≤ 1073741824 ∧ 0 ≤ b ∧ b < 4
theorem stampOk_not {t b : Int} (h : ¬ StampOk t b) : t < 1 ∨ (1 ≤ t ∧ 1073741824 < t) ∨ (1 ≤ t ∧ t ≤ 1073741824 ∧ b < 0) ∨ (1 ≤ t ∧ t ≤ 1073741824 ∧ 0 ≤ b ∧ 4 ≤ b) := by
  unfold StampOk at h; omega

abbrev stampV (t b : Int) : Value := .agg #[.int .i64 t, .int .i64 b]

theorem check_ok (t b : Int) (w : World) (h : StampOk t b) :
    Calls Tryz.prog 76 #[stampV t b] w fun e w' => e = .returned .nilIface ∧ Below w.heap.size w w' := by
  obtain ⟨h1, h2, h3, h4⟩ := h
  go_enter Tryz.func76, Tryz.ntmps76
  go_wp2
  go_ret
  exact ⟨rfl, by go_grown⟩

theorem check_bad (t b : Int) (w : World) (a : Addr) (txt : List UInt8) (hE : ErrAt w 0 txt a) (h : ¬ StampOk t b) :
    Calls Tryz.prog 76 #[stampV t b] w fun e w' => e = .returned (errV a) ∧ Below w.heap.size w w' := by
  have hlt := hE.lt
  have hc := hE.var
  clear hE
  unfold errV
  rcases stampOk_not h with h1 | ⟨h1, h2⟩ | ⟨h1, h2, h3⟩ | ⟨h1, h2, h3, h4⟩
  all_goals
    clear h
    go_enter Tryz.func76, Tryz.ntmps76
    go_wp2
    go_ret
    exact ⟨rfl, by go_grown⟩


theorem id_ok (t b : Int) (w : World) (h : StampOk t b) :
    Calls Tryz.prog 55 #[stampV t b] w fun e w' => e = .returned (.tuple #[.int .i64 (t * 4 + b), .nilIface]) ∧ Below w.heap.size w w' := by
  obtain ⟨h1, h2, h3, h4⟩ := h
  go_enter Tryz.func55, Tryz.ntmps55
  go_wp2
  go_ret2
  exact ⟨rfl, by go_grown⟩

theorem id_bad (t b : Int) (w : World) (a : Addr) (txt : List UInt8) (hE : ErrAt w 0 txt a) (h : ¬ StampOk t b) :
    Calls Tryz.prog 55 #[stampV t b] w fun e w' => e = .returned (.tuple #[.int .i64 0, errV a]) ∧ Below w.heap.size w w' := by
  have hlt := hE.lt
  have hlt1 : 0 < w.heap.size + 1 := by omega
  have hc := hE.var
  clear hE
  unfold errV
  rcases stampOk_not h with h1 | ⟨h1, h2⟩ | ⟨h1, h2, h3⟩ | ⟨h1, h2, h3, h4⟩
  all_goals
    clear h
    go_enter Tryz.func55, Tryz.ntmps55
    go_wp2
    go_ret2
    exact ⟨rfl, by go_grown⟩



end Go.Proofs.YtbncfpljiihmnaaGreatDoor
