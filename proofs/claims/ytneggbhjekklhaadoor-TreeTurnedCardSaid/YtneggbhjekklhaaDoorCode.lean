/- plain.Code: an error's number and place; what a law's 'coded' and 'faulted' say. -/
import Derived.Test.YtneggbhjekklhaaDoorAs
namespace Go.Proofs.YtneggbhjekklhaaDoor
open Go Go.RowKit Go.Extern.Stop Go.Stop Go.Extern
set_option linter.unusedVariables false
set_option linter.unusedSimpArgs false
set_option maxHeartbeats 4000000
/-- the numbers of all errors -/
abbrev allErrs : List Nat := [1,2,3,4,5,6,7,8,9,10,11,12]

theorem TypeVar.below {w w' : World} (h : TypeVar w) (hb : Below w.heap.size w w') : TypeVar w' := (hb.cell (World.block_lt_of_cell? w _ h)).trans h
theorem TypeVar.alloc {w : World} (h : TypeVar w) (o : Obj) : TypeVar (w.alloc o) := TypeVar.below h ((Below.refl _ _).alloc (Nat.le_refl _) _)

theorem code_nil (w : World) :
    Calls Tryd.prog 61 #[.nilIface] w fun e w' => e = .returned (.tuple #[.int .i64 0, .int .i64 (-1)]) ∧ Below w.heap.size w w' := by
  go_enter Tryd.func61, Tryd.ntmps61
  go_wp2
  go_ret2
  exact ⟨rfl, by go_grown⟩

set_option maxRecDepth 100000 in
theorem code_err (a : Nat → Addr) (k : Nat) (w : World) (hk : 1 ≤ k) (hk2 : k ≤ 12) (hE : Errs a allErrs w) (hT : TypeVar w) :
    Calls Tryd.prog 61 #[errV (a k)] w fun e w' => e = .returned (.tuple #[.int .i64 k, .int .i64 (-1)]) ∧ Below w.heap.size w w' := by
  go_enter Tryd.func61, Tryd.ntmps61
  go_wp2_with fail
  have hT' := Lib.hid hT
  clear hT
  refine (as_miss (a k) _ (.pointer none) _ (TypeVar.alloc hT'.out _) (by simp [go_sem])).mono ?_
  rintro e w1 ⟨rfl, hb1⟩
  have hz1 : w.heap.size < w1.heap.size := by have := hb1.size; simp at this; omega
  have E1 : Errs a allErrs w1 := (hE.alloc _).below hb1
  have b1 : Below w.heap.size w w1 := ((Below.refl _ _).alloc (Nat.le_refl _) _).trans (hb1.mono (by simp))
  clear hb1
  have g1 := (E1 1 (by simp)).var
  have g2 := (E1 2 (by simp)).var
  have g3 := (E1 3 (by simp)).var
  have g4 := (E1 4 (by simp)).var
  have g5 := (E1 5 (by simp)).var
  have g6 := (E1 6 (by simp)).var
  have g7 := (E1 7 (by simp)).var
  have g8 := (E1 8 (by simp)).var
  have g9 := (E1 9 (by simp)).var
  have g10 := (E1 10 (by simp)).var
  have g11 := (E1 11 (by simp)).var
  have g12 := (E1 12 (by simp)).var
  have HE := Lib.hid hE
  have HE1 := Lib.hid E1
  clear hE E1
  simp only [errG] at g1 g2 g3 g4 g5 g6 g7 g8 g9 g10 g11 g12
  go_wp2_with fail
  obtain ⟨W, hW⟩ : ∃ W, W = w1.alloc (.cells #[errV (a 1), errV (a 2), errV (a 3), errV (a 4), errV (a 5), errV (a 6), errV (a 7), errV (a 8), errV (a 9), errV (a 10), errV (a 11), errV (a 12)] 32) := ⟨_, rfl⟩
  have hcell : ∀ j, j < 12 → W.cell? ⟨w1.heap.size, j, none⟩ = some (errV (a (j + 1))) := by
    intro j hj
    rw [hW, World.cell?_alloc_at _ _ _ _ rfl]
    have : j = 0 ∨ j = 1 ∨ j = 2 ∨ j = 3 ∨ j = 4 ∨ j = 5 ∨ j = 6 ∨ j = 7 ∨ j = 8 ∨ j = 9 ∨ j = 10 ∨ j = 11 := by omega
    rcases this with rfl | rfl | rfl | rfl | rfl | rfl | rfl | rfl | rfl | rfl | rfl | rfl <;> rfl
  have HEW : Hid (Errs a allErrs W) := by rw [hW]; exact Lib.hid (HE1.out.alloc _)
  have HbW : Hid (Below w.heap.size w W) := by rw [hW]; exact Lib.hid (b1.alloc (by omega) _)
  clear g1 g2 g3 g4 g5 g6 g7 g8 g9 g10 g11 g12 HE HE1 b1
  rw [← hW]
  clear hW
  go_loop [3, 30] (fun v3 v30 => ∃ j : Nat, j < k ∧ v3 = .int .i64 (-1) ∧ v30 = .int .i64 j) (fun _ v30 => k - (intOf v30).toNat)
  case atStart => exact ⟨0, by omega, rfl, rfl⟩
  case round =>
    obtain ⟨j, hj, rfl, rfl⟩ := hrel
    have hcj := hcell j (by omega)
    clear hcell
    by_cases hjk : j + 1 = k
    · subst hjk
      go_wp2_with (go_at_call 84; refine (is_same (a (j + 1)) _).mono ?_; rintro e w2 ⟨rfl, rfl⟩)
      go_ret2
      exact ⟨by simp, HbW.out⟩
    · have n1 : a k ≠ a (j + 1) := (HEW.out k (by simp; omega)).ne (HEW.out (j + 1) (by simp; omega)) (by
        have h1 : ∀ x, x < 13 → ∀ y, y < 13 → 1 ≤ x → 1 ≤ y → errT x = errT y → x = y := by decide
        intro h2
        exact hjk (h1 k (by omega) (j + 1) (by omega) (by omega) (by omega) h2).symm)
      have o1 := (HEW.out k (by simp; omega)).blk
      have o2 := (HEW.out (j + 1) (by simp; omega)).blk
      go_wp2_with (go_at_call 84; refine (is_other (a k) (a (j + 1)) _ n1 o1 o2).mono ?_; rintro e w2 ⟨rfl, rfl⟩)
      go_round
      case rel => exact ⟨j + 1, by omega, rfl, by go_num⟩
      case measure => simp [intOf]; omega
set_option maxRecDepth 100000 in
theorem code_fault (a : Nat → Addr) (k : Nat) (pb po : Nat) (pl : Int) (w : World) (p0 : w.cell? ⟨pb, po, none⟩ = some (.int .i64 pl)) (p1 : w.cell? ⟨pb, po + 1, none⟩ = some (errV (a k))) (hk : 1 ≤ k) (hk2 : k ≤ 12) (hE : Errs a allErrs w) (hT : TypeVar w) :
    Calls Tryd.prog 61 #[faultV ⟨pb, po, none⟩] w fun e w' => e = .returned (.tuple #[.int .i64 k, .int .i64 pl]) ∧ Below w.heap.size w w' := by
  go_enter Tryd.func61, Tryd.ntmps61
  go_wp2_with fail
  have hT' := Lib.hid hT
  clear hT
  have hpb : pb < w.heap.size := World.block_lt_of_cell? w _ p0
  refine (as_hit ⟨pb, po, none⟩ _ (.pointer none) _ (TypeVar.alloc hT'.out _) (by simp [go_sem]) (by simp [go_sem])).mono ?_
  rintro e w2 ⟨rfl, w1, hb1, rfl⟩
  have hz1 : w.heap.size < w1.heap.size := by have := hb1.size; simp at this; omega
  have hc1 : w1.cell? ⟨w.heap.size, 0, none⟩ = some (.pointer none) := (hb1.cell (by simp)).trans (by simp [go_sem])
  have q0 : w1.cell? ⟨pb, po, none⟩ = some (.int .i64 pl) := (hb1.cell (by simp <;> omega)).trans ((World.cell?_alloc_lt _ _ ⟨pb, po, none⟩ hpb).trans p0)
  have q1 : w1.cell? ⟨pb, po + 1, none⟩ = some (errV (a k)) := (hb1.cell (by simp <;> omega)).trans ((World.cell?_alloc_lt _ _ ⟨pb, po + 1, none⟩ hpb).trans p1)
  have b2 : Below w.heap.size w (w1.setCell ⟨w.heap.size, 0, none⟩ (.pointer (some ⟨pb, po, none⟩))) := (((Below.refl _ _).alloc (Nat.le_refl _) _).trans (hb1.mono (by simp))).setCell (Nat.le_refl _) _
  have hz2 : (w1.setCell ⟨w.heap.size, 0, none⟩ (.pointer (some ⟨pb, po, none⟩))).heap.size = w1.heap.size := by simp
  have E2 : Errs a allErrs (w1.setCell ⟨w.heap.size, 0, none⟩ (.pointer (some ⟨pb, po, none⟩))) := hE.below b2
  have r0 : (w1.setCell ⟨w.heap.size, 0, none⟩ (.pointer (some ⟨pb, po, none⟩))).cell? ⟨w.heap.size, 0, none⟩ = some (.pointer (some ⟨pb, po, none⟩)) := World.cell?_setCell_same _ _ _ hc1
  have r1 : (w1.setCell ⟨w.heap.size, 0, none⟩ (.pointer (some ⟨pb, po, none⟩))).cell? ⟨pb, po, none⟩ = some (.int .i64 pl) := (World.cell?_setCell_other _ _ _ _ (by simp <;> omega)).trans q0
  have r2 : (w1.setCell ⟨w.heap.size, 0, none⟩ (.pointer (some ⟨pb, po, none⟩))).cell? ⟨pb, po + 1, none⟩ = some (errV (a k)) := (World.cell?_setCell_other _ _ _ _ (by simp <;> omega)).trans q1
  obtain ⟨w2, hw2⟩ : ∃ w2, w2 = w1.setCell ⟨w.heap.size, 0, none⟩ (.pointer (some ⟨pb, po, none⟩)) := ⟨_, rfl⟩
  rw [← hw2] at b2 hz2 E2 r0 r1 r2 ⊢
  have hz3 : w.heap.size < w2.heap.size := by omega
  have hpb3 : pb < w2.heap.size := by omega
  clear hw2 hz2 q0 q1 hc1 hb1 hz1 p0 p1
  have g1 := (E2 1 (by simp)).var
  have g2 := (E2 2 (by simp)).var
  have g3 := (E2 3 (by simp)).var
  have g4 := (E2 4 (by simp)).var
  have g5 := (E2 5 (by simp)).var
  have g6 := (E2 6 (by simp)).var
  have g7 := (E2 7 (by simp)).var
  have g8 := (E2 8 (by simp)).var
  have g9 := (E2 9 (by simp)).var
  have g10 := (E2 10 (by simp)).var
  have g11 := (E2 11 (by simp)).var
  have g12 := (E2 12 (by simp)).var
  have HE := Lib.hid hE
  have HE2 := Lib.hid E2
  clear hE E2
  simp only [errG] at g1 g2 g3 g4 g5 g6 g7 g8 g9 g10 g11 g12
  go_wp2_with fail
  obtain ⟨W, hW⟩ : ∃ W, W = w2.alloc (.cells #[errV (a 1), errV (a 2), errV (a 3), errV (a 4), errV (a 5), errV (a 6), errV (a 7), errV (a 8), errV (a 9), errV (a 10), errV (a 11), errV (a 12)] 32) := ⟨_, rfl⟩
  have hcell : ∀ j, j < 12 → W.cell? ⟨w2.heap.size, j, none⟩ = some (errV (a (j + 1))) := by
    intro j hj
    rw [hW, World.cell?_alloc_at _ _ _ _ rfl]
    have : j = 0 ∨ j = 1 ∨ j = 2 ∨ j = 3 ∨ j = 4 ∨ j = 5 ∨ j = 6 ∨ j = 7 ∨ j = 8 ∨ j = 9 ∨ j = 10 ∨ j = 11 := by omega
    rcases this with rfl | rfl | rfl | rfl | rfl | rfl | rfl | rfl | rfl | rfl | rfl | rfl <;> rfl
  have rW : W.cell? ⟨pb, po + 1, none⟩ = some (errV (a k)) := by rw [hW]; exact (World.cell?_alloc_lt _ _ ⟨pb, po + 1, none⟩ hpb3).trans r2
  have HEW : Hid (Errs a allErrs W) := by rw [hW]; exact Lib.hid (HE2.out.alloc _)
  have HbW : Hid (Below w.heap.size w W) := by rw [hW]; exact Lib.hid (b2.alloc (by omega) _)
  clear g1 g2 g3 g4 g5 g6 g7 g8 g9 g10 g11 g12 HE HE2 b2 r0 r1 r2
  rw [← hW]
  clear hW
  go_loop [3, 30] (fun v3 v30 => ∃ j : Nat, j < k ∧ v3 = .int .i64 pl ∧ v30 = .int .i64 j) (fun _ v30 => k - (intOf v30).toNat)
  case atStart => exact ⟨0, by omega, rfl, rfl⟩
  case round =>
    obtain ⟨j, hj, rfl, rfl⟩ := hrel
    have hcj := hcell j (by omega)
    clear hcell
    have r3 := rW
    by_cases hjk : j + 1 = k
    · subst hjk
      go_wp2_with (go_at_call 84; refine (is_fault_same pb po (a (j + 1)) _ rW).mono ?_; rintro e w2 ⟨rfl, rfl⟩)
      go_ret2
      exact ⟨by simp, HbW.out⟩
    · have n1 : a k ≠ a (j + 1) := (HEW.out k (by simp; omega)).ne (HEW.out (j + 1) (by simp; omega)) (by
        have h1 : ∀ x, x < 13 → ∀ y, y < 13 → 1 ≤ x → 1 ≤ y → errT x = errT y → x = y := by decide
        intro h2
        exact hjk (h1 k (by omega) (j + 1) (by omega) (by omega) (by omega) h2).symm)
      have o1 := (HEW.out k (by simp; omega)).blk
      have o2 := (HEW.out (j + 1) (by simp; omega)).blk
      go_wp2_with (go_at_call 84; refine (is_fault_other pb po (a (j + 1)) (a k) _ rW n1 o1 o2).mono ?_; rintro e w2 ⟨rfl, rfl⟩)
      go_round
      case rel => exact ⟨j + 1, by omega, rfl, by go_num⟩
      case measure => simp [intOf]; omega
set_option maxRecDepth 100000 in
theorem code_other (a : Nat → Addr) (b : Addr) (w : World) (hne : ∀ k, 1 ≤ k → k ≤ 12 → b ≠ a k) (hbl : ∃ c t, w.heap[b.block]? = some (.cells c t (0, 0))) (hE : Errs a allErrs w) (hT : TypeVar w) :
    Calls Tryd.prog 61 #[errV b] w fun e w' => e = .returned (.tuple #[.int .i64 (-1), .int .i64 (-1)]) ∧ Below w.heap.size w w' := by
  go_enter Tryd.func61, Tryd.ntmps61
  go_wp2_with fail
  have hT' := Lib.hid hT
  clear hT
  refine (as_miss b _ (.pointer none) _ (TypeVar.alloc hT'.out _) (by simp [go_sem])).mono ?_
  rintro e w1 ⟨rfl, hb1⟩
  have hz1 : w.heap.size < w1.heap.size := by have := hb1.size; simp at this; omega
  have E1 : Errs a allErrs w1 := (hE.alloc _).below hb1
  have b1 : Below w.heap.size w w1 := ((Below.refl _ _).alloc (Nat.le_refl _) _).trans (hb1.mono (by simp))
  clear hb1
  have g1 := (E1 1 (by simp)).var
  have g2 := (E1 2 (by simp)).var
  have g3 := (E1 3 (by simp)).var
  have g4 := (E1 4 (by simp)).var
  have g5 := (E1 5 (by simp)).var
  have g6 := (E1 6 (by simp)).var
  have g7 := (E1 7 (by simp)).var
  have g8 := (E1 8 (by simp)).var
  have g9 := (E1 9 (by simp)).var
  have g10 := (E1 10 (by simp)).var
  have g11 := (E1 11 (by simp)).var
  have g12 := (E1 12 (by simp)).var
  have HE := Lib.hid hE
  have HE1 := Lib.hid E1
  clear hE E1
  simp only [errG] at g1 g2 g3 g4 g5 g6 g7 g8 g9 g10 g11 g12
  go_wp2_with fail
  obtain ⟨W, hW⟩ : ∃ W, W = w1.alloc (.cells #[errV (a 1), errV (a 2), errV (a 3), errV (a 4), errV (a 5), errV (a 6), errV (a 7), errV (a 8), errV (a 9), errV (a 10), errV (a 11), errV (a 12)] 32) := ⟨_, rfl⟩
  have hcell : ∀ j, j < 12 → W.cell? ⟨w1.heap.size, j, none⟩ = some (errV (a (j + 1))) := by
    intro j hj
    rw [hW, World.cell?_alloc_at _ _ _ _ rfl]
    have : j = 0 ∨ j = 1 ∨ j = 2 ∨ j = 3 ∨ j = 4 ∨ j = 5 ∨ j = 6 ∨ j = 7 ∨ j = 8 ∨ j = 9 ∨ j = 10 ∨ j = 11 := by omega
    rcases this with rfl | rfl | rfl | rfl | rfl | rfl | rfl | rfl | rfl | rfl | rfl | rfl <;> rfl
  have HEW : Hid (Errs a allErrs W) := by rw [hW]; exact Lib.hid (HE1.out.alloc _)
  have HbW : Hid (Below w.heap.size w W) := by rw [hW]; exact Lib.hid (b1.alloc (by omega) _)
  have HbB : Hid (∃ c t, W.heap[b.block]? = some (.cells c t (0, 0))) := by
    obtain ⟨c, t, hc⟩ := hbl
    have hlt : b.block < w.heap.size := (Array.getElem?_eq_some_iff.1 hc).1
    exact Lib.hid ⟨c, t, (HbW.out.block b.block hlt).trans hc⟩
  clear hbl
  clear g1 g2 g3 g4 g5 g6 g7 g8 g9 g10 g11 g12 HE HE1 b1
  rw [← hW]
  clear hW
  go_loop [3, 30] (fun v3 v30 => ∃ j : Nat, j ≤ 12 ∧ v3 = .int .i64 (-1) ∧ v30 = .int .i64 j) (fun _ v30 => 12 - (intOf v30).toNat)
  case atStart => exact ⟨0, by omega, rfl, rfl⟩
  case round =>
    obtain ⟨j, hj, rfl, rfl⟩ := hrel
    by_cases hjk : j = 12
    · subst hjk
      clear hcell
      go_wp2
      go_ret2
      exact ⟨rfl, HbW.out⟩
    · have hcj := hcell j (by omega)
      have hjl : j < 12 := by omega
      clear hcell
      have n1 := hne (j + 1) (by omega) (by omega)
      have o2 := (HEW.out (j + 1) (by simp; omega)).blk
      go_wp2_with (go_at_call 84; refine (is_other b (a (j + 1)) _ n1 HbB.out o2).mono ?_; rintro e w2 ⟨rfl, rfl⟩)
      go_round
      case rel => exact ⟨j + 1, by omega, rfl, by go_num⟩
      case measure => simp [intOf]; omega

/-- v is an error of this number and place: none; one of package api; a Fault round one -/
def ErrVal (a : Nat → Addr) (w : World) (v : Value) (k : Nat) (pl : Int) : Prop :=
  (v = .nilIface ∧ k = 0 ∧ pl = -1) ∨ (1 ≤ k ∧ k ≤ 12 ∧ v = errV (a k) ∧ pl = -1) ∨
  (1 ≤ k ∧ k ≤ 12 ∧ ∃ pb po, v = faultV ⟨pb, po, none⟩ ∧ w.cell? ⟨pb, po, none⟩ = some (.int .i64 pl) ∧ w.cell? ⟨pb, po + 1, none⟩ = some (errV (a k)))

theorem ErrVal.nil {a : Nat → Addr} {w : World} : ErrVal a w .nilIface 0 (-1) := .inl ⟨rfl, rfl, rfl⟩
theorem ErrVal.bare {a : Nat → Addr} {w : World} (k : Nat) (h1 : 1 ≤ k) (h2 : k ≤ 12) : ErrVal a w (errV (a k)) k (-1) := .inr (.inl ⟨h1, h2, rfl, rfl⟩)
theorem ErrVal.below {a : Nat → Addr} {w w' : World} {v : Value} {k : Nat} {pl : Int} (h : ErrVal a w v k pl) (hb : Below w.heap.size w w') : ErrVal a w' v k pl := by
  rcases h with h | h | ⟨h1, h2, pb, po, rfl, p0, p1⟩
  · exact .inl h
  · exact .inr (.inl h)
  · have hl : pb < w.heap.size := World.block_lt_of_cell? w _ p0
    exact .inr (.inr ⟨h1, h2, pb, po, rfl, (hb.cell hl).trans p0, (hb.cell hl).trans p1⟩)

theorem code_any (a : Nat → Addr) (v : Value) (k : Nat) (pl : Int) (w : World) (hv : ErrVal a w v k pl) (hE : Errs a allErrs w) (hT : TypeVar w) :
    Calls Tryd.prog 61 #[v] w fun e w' => e = .returned (.tuple #[.int .i64 k, .int .i64 pl]) ∧ Below w.heap.size w w' := by
  rcases hv with ⟨rfl, rfl, rfl⟩ | ⟨h1, h2, rfl, rfl⟩ | ⟨h1, h2, pb, po, rfl, p0, p1⟩
  · exact code_nil w
  · exact code_err a k w h1 h2 hE hT
  · exact code_fault a k pb po pl w p0 p1 h1 h2 hE hT

theorem coded1_any (a : Nat → Addr) (v : Value) (k : Nat) (pl c : Int) (w : World) (hv : ErrVal a w v k pl) (hE : Errs a allErrs w) (hT : TypeVar w) :
    Calls Tryd.prog 27 #[v, .int .i64 c] w fun e w' => e = .returned (.bool (decide ((k : Int) = c) && decide (pl = -1))) ∧ Below w.heap.size w w' := by
  by_cases h1 : (k : Int) = c
  · have h1' : ((k : Int) == c) = true := by simp [h1]
    clear h1
    go_enter Tryd.func27, Tryd.ntmps27
    go_wp2_with (go_at_call 61; refine (code_any a v k pl _ hv hE hT).mono ?_; rintro e w1 ⟨rfl, hb1⟩)
    all_goals
      go_ret
      refine ⟨?_, by assumption⟩
      simp at h1'
      first | (simp [h1']; done) | (simp [h1']; rfl)
  · have h1' : ((k : Int) == c) = false := by simp [h1]
    clear h1
    go_enter Tryd.func27, Tryd.ntmps27
    go_wp2_with (go_at_call 61; refine (code_any a v k pl _ hv hE hT).mono ?_; rintro e w1 ⟨rfl, hb1⟩)
    all_goals
      go_ret
      refine ⟨?_, by assumption⟩
      simp at h1'
      first | (simp [h1']; done) | (simp [h1']; rfl)



end Go.Proofs.YtneggbhjekklhaaDoor
