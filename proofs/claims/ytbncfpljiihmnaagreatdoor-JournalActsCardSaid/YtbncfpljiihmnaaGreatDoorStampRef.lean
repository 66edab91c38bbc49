/- What the references say of stamps, and the ids that are none. -/
import Derived.Test.YtbncfpljiihmnaaGreatDoorStamp
namespace Go.Proofs.YtbncfpljiihmnaaGreatDoor
open Go Go.RowKit
set_option linter.unusedVariables false
set_option linter.unusedSimpArgs false
set_option maxHeartbeats 1000000




theorem stampError_ok (t b : Int) (w : World) (h : StampOk t b) :
    Calls Tryz.prog 48 #[stampV t b] w fun e w' => e = .returned (.int .i64 0) ∧ Below w.heap.size w w' := by
  obtain ⟨h1, h2, h3, h4⟩ := h
  go_enter Tryz.func48, Tryz.ntmps48
  go_wp2
  go_ret
  exact ⟨rfl, by go_grown⟩

theorem stampError_bad (t b : Int) (w : World) (h : ¬ StampOk t b) :
    Calls Tryz.prog 48 #[stampV t b] w fun e w' => e = .returned (.int .i64 2) ∧ Below w.heap.size w w' := by
  rcases stampOk_not h with h1 | ⟨h1, h2⟩ | ⟨h1, h2, h3⟩ | ⟨h1, h2, h3, h4⟩
  all_goals
    clear h
    go_enter Tryz.func48, Tryz.ntmps48
    go_wp2
    go_ret
    exact ⟨rfl, by go_grown⟩

theorem idOf_ok (t b : Int) (w : World) (h : StampOk t b) :
    Calls Tryz.prog 49 #[stampV t b] w fun e w' => e = .returned (.int .i64 (t * 4 + b)) ∧ Below w.heap.size w w' := by
  obtain ⟨h1, h2, h3, h4⟩ := h
  have e1 : 4 * t + b = t * 4 + b := by omega
  go_enter Tryz.func49, Tryz.ntmps49
  go_wp2
  go_ret
  exact ⟨by simp [e1], by go_grown⟩

theorem idOf_bad (t b : Int) (w : World) (h : ¬ StampOk t b) :
    Calls Tryz.prog 49 #[stampV t b] w fun e w' => e = .returned (.int .i64 0) ∧ Below w.heap.size w w' := by
  rcases stampOk_not h with h1 | ⟨h1, h2⟩ | ⟨h1, h2, h3⟩ | ⟨h1, h2, h3, h4⟩
  all_goals
    clear h
    go_enter Tryz.func49, Tryz.ntmps49
    go_wp2
    go_ret
    exact ⟨rfl, by go_grown⟩

end Go.Proofs.YtbncfpljiihmnaaGreatDoor
