/- Vectors: their faults, told by the document and by the program. -/
import Derived.Test.YthlojjknpfijmaaGreatDoorVecs
import Derived.Test.YthlojjknpfijmaaGreatDoorGd
namespace Go.Proofs.YthlojjknpfijmaaGreatDoor
open Go Go.RowKit
set_option linter.unusedVariables false
set_option linter.unusedSimpArgs false
set_option maxHeartbeats 4000000
set_option maxRecDepth 100000

/-- the place of a vector's fault (-1: none) -/
def vfAt (a b c d : Int) : Int := if a < 0 ∨ 400 < a then 0 else if b < 0 ∨ 400 < b then 1 else if c < 0 ∨ 400 < c then 2 else if d < 0 ∨ 400 < d then 3 else -1
def vfK (a b c d : Int) : Nat := if vfAt a b c d < 0 then 0 else 2
def vfCode (a b c d : Int) : Int := if vfAt a b c d < 0 then 0 else 2
abbrev faultS (c p : Int) : Value := .agg #[.int .i64 c, .int .i64 p]
theorem ret_fault {a b c d : Int} (h1 : a = c) (h2 : b = d) : Ending.returned (faultS a b) = .returned (faultS c d) := by rw [h1, h2]

theorem vfAt_0 {a b c d : Int} (h : a < 0 ∨ 400 < a) : vfAt a b c d = 0 := by unfold vfAt; rw [if_pos h]
theorem vfAt_1 {a b c d : Int} (h0 : ¬ (a < 0 ∨ 400 < a)) (h : b < 0 ∨ 400 < b) : vfAt a b c d = 1 := by unfold vfAt; rw [if_neg h0, if_pos h]
theorem vfAt_2 {a b c d : Int} (h0 : ¬ (a < 0 ∨ 400 < a)) (h1 : ¬ (b < 0 ∨ 400 < b)) (h : c < 0 ∨ 400 < c) : vfAt a b c d = 2 := by unfold vfAt; rw [if_neg h0, if_neg h1, if_pos h]
theorem vfAt_3 {a b c d : Int} (h0 : ¬ (a < 0 ∨ 400 < a)) (h1 : ¬ (b < 0 ∨ 400 < b)) (h2 : ¬ (c < 0 ∨ 400 < c)) (h : d < 0 ∨ 400 < d) : vfAt a b c d = 3 := by unfold vfAt; rw [if_neg h0, if_neg h1, if_neg h2, if_pos h]
theorem vfAt_n {a b c d : Int} (h0 : ¬ (a < 0 ∨ 400 < a)) (h1 : ¬ (b < 0 ∨ 400 < b)) (h2 : ¬ (c < 0 ∨ 400 < c)) (h3 : ¬ (d < 0 ∨ 400 < d)) : vfAt a b c d = -1 := by unfold vfAt; rw [if_neg h0, if_neg h1, if_neg h2, if_neg h3]
theorem fault_is {a b c d j : Int} (h : vfAt a b c d = j) (h0 : 0 ≤ j) : Ending.returned (faultS 2 j) = .returned (faultS (vfCode a b c d) (vfAt a b c d)) := by
  unfold vfCode
  rw [h, if_neg (by omega)]

theorem fault_none {a b c d : Int} (h : vfAt a b c d = -1) : Ending.returned (faultS 0 (-1)) = .returned (faultS (vfCode a b c d) (vfAt a b c d)) := by
  unfold vfCode
  rw [h, if_pos (by omega)]

theorem fine_any (w : World) :
    Calls Tryz.prog 28 #[] w fun r w' => r = .returned (faultS 0 (-1)) ∧ Below w.heap.size w w' := by
  go_enter Tryz.func28, Tryz.ntmps28
  go_wp2_with fail
  exact bodyPost_ret (v := faultS 0 (-1)) (by simp [results, Tryz.results28, go_sem]) rfl ⟨rfl, (Below.refl _ _).alloc (Nat.le_refl _) _⟩

theorem bare_any (c : Int) (w : World) :
    Calls Tryz.prog 36 #[.int .i64 c] w fun r w' => r = .returned (faultS c (-1)) ∧ Below w.heap.size w w' := by
  go_enter Tryz.func36, Tryz.ntmps36
  go_wp2_with fail
  exact bodyPost_ret (v := faultS c (-1)) (by simp [results, Tryz.results36, go_sem]) rfl ⟨rfl, (Below.refl _ _).alloc (Nat.le_refl _) _⟩

theorem vectorFault_any (a b c d : Int) (w : World) :
    Calls Tryz.prog 11 #[vecV a b c d] w fun r w' => r = .returned (faultS (vfCode a b c d) (vfAt a b c d)) ∧ Below w.heap.size w w' := by
  go_enter Tryz.func11, Tryz.ntmps11
  go_wp2_with fail
  refine wp_loop_rounds 5 ?_
  rw [rounds_succ]
  go_wp2_with fail
  any_goals (rw [rounds_succ]; go_wp2_with fail)
  any_goals (rw [rounds_succ]; go_wp2_with fail)
  any_goals (rw [rounds_succ]; go_wp2_with fail)
  any_goals (rw [rounds_succ]; go_wp2_with fail)
  iterate 8
    any_goals
      first
      | exact bodyPost_ret (v := faultS 2 0) (by simp [results, Tryz.results11, go_sem]) rfl ⟨fault_is (vfAt_0 (by omega)) (by omega), ((Below.refl _ _).alloc (Nat.le_refl _) _).alloc (by simp) _⟩
      | exact bodyPost_ret (v := faultS 2 1) (by simp [results, Tryz.results11, go_sem]) rfl ⟨fault_is (vfAt_1 (by omega) (by omega)) (by omega), ((Below.refl _ _).alloc (Nat.le_refl _) _).alloc (by simp) _⟩
      | exact bodyPost_ret (v := faultS 2 2) (by simp [results, Tryz.results11, go_sem]) rfl ⟨fault_is (vfAt_2 (by omega) (by omega) (by omega)) (by omega), ((Below.refl _ _).alloc (Nat.le_refl _) _).alloc (by simp) _⟩
      | exact bodyPost_ret (v := faultS 2 3) (by simp [results, Tryz.results11, go_sem]) rfl ⟨fault_is (vfAt_3 (by omega) (by omega) (by omega) (by omega)) (by omega), ((Below.refl _ _).alloc (Nat.le_refl _) _).alloc (by simp) _⟩
      | skip
  refine (fine_any _).mono ?_
  rintro r w1 ⟨rfl, hb⟩
  obtain ⟨hc, hf⟩ := bcell hb
  have hz : w.heap.size + 1 < w1.heap.size := by have := hb.size; simp at this; omega
  have hb0 := (((Below.refl _ w).alloc (Nat.le_refl _) (.cells #[.int .i64 a, .int .i64 b, .int .i64 c, .int .i64 d] 22)).alloc (by simp) (.cells #[.int .i64 0, .int .i64 0] 30)).trans (hb.mono (by simp; omega))
  have H : Hid (vfAt a b c d = -1) := vfAt_n (by omega) (by omega) (by omega) (by omega)
  clear hb
  go_wp2_with fail
  exact bodyPost_ret (v := faultS 0 (-1)) (by simp [results, Tryz.results11, go_sem, hc, hz]) rfl ⟨fault_none H.out, by first | exact (hb0.setCell (by simp) _).setCell (by simp) _ | exact hb0.setCell (by simp) _⟩

end Go.Proofs.YthlojjknpfijmaaGreatDoor
