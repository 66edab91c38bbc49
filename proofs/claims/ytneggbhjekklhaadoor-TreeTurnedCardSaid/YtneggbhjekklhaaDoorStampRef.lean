/- What the references say of stamps, and the ids that are none. -/
import Derived.Test.YtneggbhjekklhaaDoorStamp
namespace Go.Proofs.YtneggbhjekklhaaDoor
open Go Go.RowKit
set_option linter.unusedVariables false
set_option linter.unusedSimpArgs false
set_option maxHeartbeats 1000000



theorem isLess_any (t b t' b' : Int) (w : World) :
    Calls Tryd.prog 49 #[stampV t b, stampV t' b'] w fun e w' => e = .returned (.bool (decide (t < t' ∨ t = t' ∧ b < b'))) ∧ Below w.heap.size w w' := by
  rcases Int.lt_trichotomy t t' with h1 | rfl | h1
  · go_enter Tryd.func49, Tryd.ntmps49
    go_wp2
    go_ret
    exact ⟨by simp [h1], by go_grown⟩
  · go_enter Tryd.func49, Tryd.ntmps49
    go_wp2
    go_ret
    exact ⟨by simp, by go_grown⟩
  · have h2 : ¬ t < t' := by omega
    have h3 : (t == t') = false := by simp; omega
    go_enter Tryd.func49, Tryd.ntmps49
    go_wp2
    go_ret
    exact ⟨by simp [h2]; omega, by go_grown⟩

theorem stampError_ok (t b : Int) (w : World) (h : StampOk t b) :
    Calls Tryd.prog 50 #[stampV t b] w fun e w' => e = .returned (.int .i64 0) ∧ Below w.heap.size w w' := by
  obtain ⟨h1, h2, h3, h4⟩ := h
  go_enter Tryd.func50, Tryd.ntmps50
  go_wp2
  go_ret
  exact ⟨rfl, by go_grown⟩

theorem stampError_bad (t b : Int) (w : World) (h : ¬ StampOk t b) :
    Calls Tryd.prog 50 #[stampV t b] w fun e w' => e = .returned (.int .i64 2) ∧ Below w.heap.size w w' := by
  rcases stampOk_not h with h1 | ⟨h1, h2⟩ | ⟨h1, h2, h3⟩ | ⟨h1, h2, h3, h4⟩
  all_goals
    clear h
    go_enter Tryd.func50, Tryd.ntmps50
    go_wp2
    go_ret
    exact ⟨rfl, by go_grown⟩

theorem idOf_ok (t b : Int) (w : World) (h : StampOk t b) :
    Calls Tryd.prog 51 #[stampV t b] w fun e w' => e = .returned (.int .i64 (t * 4 + b)) ∧ Below w.heap.size w w' := by
  obtain ⟨h1, h2, h3, h4⟩ := h
  have e1 : 4 * t + b = t * 4 + b := by omega
  go_enter Tryd.func51, Tryd.ntmps51
  go_wp2
  go_ret
  exact ⟨by simp [e1], by go_grown⟩

theorem idOf_bad (t b : Int) (w : World) (h : ¬ StampOk t b) :
    Calls Tryd.prog 51 #[stampV t b] w fun e w' => e = .returned (.int .i64 0) ∧ Below w.heap.size w w' := by
  rcases stampOk_not h with h1 | ⟨h1, h2⟩ | ⟨h1, h2, h3⟩ | ⟨h1, h2, h3, h4⟩
  all_goals
    clear h
    go_enter Tryd.func51, Tryd.ntmps51
    go_wp2
    go_ret
    exact ⟨rfl, by go_grown⟩

end Go.Proofs.YtneggbhjekklhaaDoor
