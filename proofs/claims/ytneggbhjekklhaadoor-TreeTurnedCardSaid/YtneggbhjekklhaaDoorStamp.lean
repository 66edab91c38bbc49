/- Package stamp and what the references say of stamps: each function walked once. -/
import Derived.Test.YtneggbhjekklhaaDoorBase
namespace Go.Proofs.YtneggbhjekklhaaDoor
open Go Go.RowKit
set_option linter.unusedVariables false
set_option linter.unusedSimpArgs false
set_option maxHeartbeats 1000000

/-- a right stamp -/
def StampOk (t b : Int) : Prop := 1 ≤ t ∧ t ≤ 1073741824 ∧ 0 ≤ b ∧ b < 4
theorem stampOk_not {t b : Int} (h : ¬ StampOk t b) : t < 1 ∨ (1 ≤ t ∧ 1073741824 < t) ∨ (1 ≤ t ∧ t ≤ 1073741824 ∧ b < 0) ∨ (1 ≤ t ∧ t ≤ 1073741824 ∧ 0 ≤ b ∧ 4 ≤ b) := by
  unfold StampOk at h; omega

abbrev stampV (t b : Int) : Value := .agg #[.int .i64 t, .int .i64 b]

theorem check_ok (t b : Int) (w : World) (h : StampOk t b) :
    Calls Tryd.prog 92 #[stampV t b] w fun e w' => e = .returned .nilIface ∧ Below w.heap.size w w' := by
  obtain ⟨h1, h2, h3, h4⟩ := h
  go_enter Tryd.func92, Tryd.ntmps92
  go_wp2
  go_ret
  exact ⟨rfl, by go_grown⟩

theorem check_bad (t b : Int) (w : World) (a : Addr) (txt : List UInt8) (hE : ErrAt w 3 txt a) (h : ¬ StampOk t b) :
    Calls Tryd.prog 92 #[stampV t b] w fun e w' => e = .returned (errV a) ∧ Below w.heap.size w w' := by
  have hlt := hE.lt
  have hc := hE.var
  clear hE
  unfold errV
  rcases stampOk_not h with h1 | ⟨h1, h2⟩ | ⟨h1, h2, h3⟩ | ⟨h1, h2, h3, h4⟩
  all_goals
    clear h
    go_enter Tryd.func92, Tryd.ntmps92
    go_wp2
    go_ret
    exact ⟨rfl, by go_grown⟩

theorem less_any (t b t' b' : Int) (w : World) :
    Calls Tryd.prog 48 #[stampV t b, stampV t' b'] w fun e w' => e = .returned (.bool (decide (t < t' ∨ t = t' ∧ b < b'))) ∧ Below w.heap.size w w' := by
  by_cases h1 : t = t'
  · subst h1
    go_enter Tryd.func48, Tryd.ntmps48
    go_wp2
    go_ret
    exact ⟨by simp, by go_grown⟩
  · go_enter Tryd.func48, Tryd.ntmps48
    go_wp2
    go_ret
    exact ⟨by simp [h1], by go_grown⟩

theorem id_ok (t b : Int) (w : World) (h : StampOk t b) :
    Calls Tryd.prog 69 #[stampV t b] w fun e w' => e = .returned (.tuple #[.int .i64 (t * 4 + b), .nilIface]) ∧ Below w.heap.size w w' := by
  obtain ⟨h1, h2, h3, h4⟩ := h
  go_enter Tryd.func69, Tryd.ntmps69
  go_wp2
  go_ret2
  exact ⟨rfl, by go_grown⟩

theorem id_bad (t b : Int) (w : World) (a : Addr) (txt : List UInt8) (hE : ErrAt w 3 txt a) (h : ¬ StampOk t b) :
    Calls Tryd.prog 69 #[stampV t b] w fun e w' => e = .returned (.tuple #[.int .i64 0, errV a]) ∧ Below w.heap.size w w' := by
  have hlt := hE.lt
  have hlt1 : 3 < w.heap.size + 1 := by omega
  have hc := hE.var
  clear hE
  unfold errV
  rcases stampOk_not h with h1 | ⟨h1, h2⟩ | ⟨h1, h2, h3⟩ | ⟨h1, h2, h3, h4⟩
  all_goals
    clear h
    go_enter Tryd.func69, Tryd.ntmps69
    go_wp2
    go_ret2
    exact ⟨rfl, by go_grown⟩



end Go.Proofs.YtneggbhjekklhaaDoor
