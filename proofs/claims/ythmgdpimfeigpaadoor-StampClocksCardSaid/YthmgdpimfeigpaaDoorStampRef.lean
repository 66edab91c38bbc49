/- What the references say of stamps, and the ids that are none. -/
import Derived.Test.YthmgdpimfeigpaaDoorStamp
namespace Go.Proofs.YthmgdpimfeigpaaDoor
open Go Go.RowKit
set_option linter.unusedVariables false
set_option linter.unusedSimpArgs false
set_option maxHeartbeats 1000000

theorem of_low (id : Int) (w : World) (a : Addr) (hE : ErrAt w 1 (errT 2) a) (h1 : id < 4) (h0 : -9223372036854775808 ≤ id) :
    Calls Tryd.prog 16 #[.int .i64 id] w fun e w' => e = .returned (.tuple #[stampV 0 0, errV a]) ∧ Below w.heap.size w w' := by
  have hlt := hE.lt
  have hlt1 : 1 < w.heap.size + 1 := by omega
  have hc := hE.var
  clear hE
  by_cases hn : 0 ≤ id
  · have g1 : id / 4 < 1 := by omega
    go_enter Tryd.func16, Tryd.ntmps16
    go_wp2
    go_returns
    exact ⟨rfl, by go_grown⟩
  · have g1 : id.tdiv 4 < 1 := by
      obtain ⟨n, hn'⟩ : ∃ n : Int, id = -n ∧ 0 ≤ n := ⟨-id, by omega, by omega⟩
      rw [hn'.1, Int.neg_tdiv, Int.tdiv_eq_ediv_of_nonneg hn'.2]
      omega
    go_enter Tryd.func16, Tryd.ntmps16
    go_wp2
    go_returns
    exact ⟨rfl, by go_grown⟩

theorem of_high (id : Int) (w : World) (a : Addr) (hE : ErrAt w 1 (errT 2) a) (h1 : 4294967300 ≤ id) (h0 : id ≤ 9223372036854775807) :
    Calls Tryd.prog 16 #[.int .i64 id] w fun e w' => e = .returned (.tuple #[stampV 0 0, errV a]) ∧ Below w.heap.size w w' := by
  have hlt := hE.lt
  have hlt1 : 1 < w.heap.size + 1 := by omega
  have hc := hE.var
  clear hE
  have g1 : 1 ≤ id / 4 := by omega
  have g2 : 1073741824 < id / 4 := by omega
  go_enter Tryd.func16, Tryd.ntmps16
  go_wp2
  go_returns
  exact ⟨rfl, by go_grown⟩

theorem isLess_any (t b t' b' : Int) (w : World) :
    Calls Tryd.prog 28 #[stampV t b, stampV t' b'] w fun e w' => e = .returned (.bool (decide (t < t' ∨ t = t' ∧ b < b'))) ∧ Below w.heap.size w w' := by
  rcases Int.lt_trichotomy t t' with h1 | rfl | h1
  · go_enter Tryd.func28, Tryd.ntmps28
    go_wp2
    go_ret
    exact ⟨by simp [h1], by go_grown⟩
  · go_enter Tryd.func28, Tryd.ntmps28
    go_wp2
    go_ret
    exact ⟨by simp, by go_grown⟩
  · have h2 : ¬ t < t' := by omega
    have h3 : (t == t') = false := by simp; omega
    go_enter Tryd.func28, Tryd.ntmps28
    go_wp2
    go_ret
    exact ⟨by simp [h2]; omega, by go_grown⟩

theorem stampError_ok (t b : Int) (w : World) (h : StampOk t b) :
    Calls Tryd.prog 30 #[stampV t b] w fun e w' => e = .returned (.int .i64 0) ∧ Below w.heap.size w w' := by
  obtain ⟨h1, h2, h3, h4⟩ := h
  go_enter Tryd.func30, Tryd.ntmps30
  go_wp2
  go_ret
  exact ⟨rfl, by go_grown⟩

theorem stampError_bad (t b : Int) (w : World) (h : ¬ StampOk t b) :
    Calls Tryd.prog 30 #[stampV t b] w fun e w' => e = .returned (.int .i64 2) ∧ Below w.heap.size w w' := by
  rcases stampOk_not h with h1 | ⟨h1, h2⟩ | ⟨h1, h2, h3⟩ | ⟨h1, h2, h3, h4⟩
  all_goals
    clear h
    go_enter Tryd.func30, Tryd.ntmps30
    go_wp2
    go_ret
    exact ⟨rfl, by go_grown⟩

theorem idOf_ok (t b : Int) (w : World) (h : StampOk t b) :
    Calls Tryd.prog 31 #[stampV t b] w fun e w' => e = .returned (.int .i64 (t * 4 + b)) ∧ Below w.heap.size w w' := by
  obtain ⟨h1, h2, h3, h4⟩ := h
  have e1 : 4 * t + b = t * 4 + b := by omega
  go_enter Tryd.func31, Tryd.ntmps31
  go_wp2
  go_ret
  exact ⟨by simp [e1], by go_grown⟩

theorem idOf_bad (t b : Int) (w : World) (h : ¬ StampOk t b) :
    Calls Tryd.prog 31 #[stampV t b] w fun e w' => e = .returned (.int .i64 0) ∧ Below w.heap.size w w' := by
  rcases stampOk_not h with h1 | ⟨h1, h2⟩ | ⟨h1, h2, h3⟩ | ⟨h1, h2, h3, h4⟩
  all_goals
    clear h
    go_enter Tryd.func31, Tryd.ntmps31
    go_wp2
    go_ret
    exact ⟨rfl, by go_grown⟩

end Go.Proofs.YthmgdpimfeigpaaDoor
