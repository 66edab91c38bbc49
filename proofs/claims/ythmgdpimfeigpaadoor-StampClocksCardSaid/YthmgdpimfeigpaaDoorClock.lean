/- A clock of package stamp: made, ticked, told the time, told a stamp. -/
import Derived.Test.YthmgdpimfeigpaaDoorStampRef
import Derived.RegionTactic
import Derived.ChangeAlike
import Derived.BigRegion
namespace Go.Proofs.YthmgdpimfeigpaaDoor
open Go Go.RowKit
set_option linter.unusedVariables false
set_option linter.unusedSimpArgs false
set_option maxHeartbeats 1000000

theorem clockNew_ok (by' : Int) (w : World) (h1 : 0 ≤ by') (h2 : by' < 4) :
    Calls Tryd.prog 32 #[.int .i64 by'] w fun e w' => e = .returned (.tuple #[.pointer (some ⟨w.heap.size, 0, none⟩), .nilIface]) ∧ w' = w.alloc (.cells #[.int .i64 0, .int .i64 by'] 121) := by
  go_enter Tryd.func32, Tryd.ntmps32
  go_wp2
  go_ret2
  exact ⟨rfl, rfl⟩

theorem clockNew_bad (by' : Int) (w : World) (a : Addr) (hE : ErrAt w 1 (errT 2) a) (h : by' < 0 ∨ 4 ≤ by') :
    Calls Tryd.prog 32 #[.int .i64 by'] w fun e w' => e = .returned (.tuple #[.pointer none, errV a]) ∧ Below w.heap.size w w' := by
  have hc := hE.var
  clear hE
  by_cases h1 : by' < 0
  · clear h
    go_enter Tryd.func32, Tryd.ntmps32
    go_wp2
    go_quiet (fail)
    go_wp2
    go_ret2
    exact ⟨rfl, ⟨rfl, rfl, rfl, Nat.le_refl _, fun _ _ => rfl⟩⟩
  · have h2 : 4 ≤ by' := by omega
    clear h
    go_enter Tryd.func32, Tryd.ntmps32
    go_wp2
    go_quiet (fail)
    go_wp2
    go_ret2
    exact ⟨rfl, ⟨rfl, rfl, rfl, Nat.le_refl _, fun _ _ => rfl⟩⟩

theorem clockTime_any (B : Nat) (t : Int) (w : World) (h0 : w.cell? ⟨B, 0, none⟩ = some (.int .i64 t)) :
    Calls Tryd.prog 35 #[.pointer (some ⟨B, 0, none⟩)] w fun e w' => e = .returned (.int .i64 t) ∧ w' = w := by
  go_enter Tryd.func35, Tryd.ntmps35
  go_wp2
  go_ret
  exact ⟨rfl, rfl⟩

theorem clockTick_ok (B : Nat) (t by' : Int) (w : World) (h0 : w.cell? ⟨B, 0, none⟩ = some (.int .i64 t)) (h1 : w.cell? ⟨B, 1, none⟩ = some (.int .i64 by')) (hf : w.frozen? ⟨B, 0, none⟩ = false) (hB : B < w.heap.size) (ht0 : 0 ≤ t) (ht : t < 1073741824) :
    Calls Tryd.prog 34 #[.pointer (some ⟨B, 0, none⟩)] w fun e w' => e = .returned (.tuple #[stampV (t + 1) by', .nilIface]) ∧ Below w.heap.size (w.setCell ⟨B, 0, none⟩ (.int .i64 (t + 1))) w' := by
  go_enter Tryd.func34, Tryd.ntmps34
  go_wp2
  go_returns
  exact ⟨rfl, by go_grown⟩

theorem clockTick_full (B : Nat) (t : Int) (w : World) (a : Addr) (hE : ErrAt w 7 (errT 8) a) (h0 : w.cell? ⟨B, 0, none⟩ = some (.int .i64 t)) (ht : 1073741824 ≤ t) :
    Calls Tryd.prog 34 #[.pointer (some ⟨B, 0, none⟩)] w fun e w' => e = .returned (.tuple #[stampV 0 0, errV a]) ∧ Below w.heap.size w w' := by
  have hlt := hE.lt
  have hc := hE.var
  have hB := World.block_lt_of_cell? w _ h0
  simp only at hB
  clear hE
  go_enter Tryd.func34, Tryd.ntmps34
  go_wp2
  go_region
  all_goals
    go_wp2
    go_returns
    exact ⟨rfl, by go_grown⟩

theorem clockHear_bad (B : Nat) (t b : Int) (w : World) (a : Addr) (hE : ErrAt w 1 (errT 2) a) (h : ¬ StampOk t b) :
    Calls Tryd.prog 33 #[.pointer (some ⟨B, 0, none⟩), stampV t b] w fun e w' => e = .returned (errV a) ∧ Below w.heap.size w w' := by
  have hE1 := hE.alloc (.cells #[.int .i64 t, .int .i64 b] 23)
  clear hE
  go_enter Tryd.func33, Tryd.ntmps33
  go_wp2_with (go_at_call 29; refine (check_bad t b _ a _ hE1 h).mono ?_; rintro e w1 ⟨rfl, hb1⟩)
  go_ret
  exact ⟨rfl, ((Below.refl _ _).alloc (Nat.le_refl _) _).trans (hb1.mono (by simp))⟩

theorem clockHear_ok (B : Nat) (T t b : Int) (w : World) (h0 : w.cell? ⟨B, 0, none⟩ = some (.int .i64 T)) (hf : w.frozen? ⟨B, 0, none⟩ = false) (h : StampOk t b) :
    Calls Tryd.prog 33 #[.pointer (some ⟨B, 0, none⟩), stampV t b] w fun e w' => e = .returned .nilIface ∧ Below w.heap.size (w.setCell ⟨B, 0, none⟩ (.int .i64 (max T t))) w' := by
  have hB := World.block_lt_of_cell? w _ h0
  simp only at hB
  obtain ⟨h1, h2, h3, h4⟩ := h
  by_cases hm0 : t ≤ T
  · have hm : max T t = T := by omega
    rw [hm]
    clear hm
    go_enter Tryd.func33, Tryd.ntmps33
    go_wp2
    go_region
    go_wp2
    go_ret
    exact ⟨rfl, by go_grown⟩
  · have hm : max T t = t := by omega
    rw [hm]
    clear hm
    go_enter Tryd.func33, Tryd.ntmps33
    go_wp2
    go_region
    go_wp2
    go_ret
    exact ⟨rfl, by go_grown⟩

end Go.Proofs.YthmgdpimfeigpaaDoor
