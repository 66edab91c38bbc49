/- plain.Code: an error's number and place; what a law's 'coded' and 'faulted' say. What the program's own and the library's variables hold: the ground of all walks. Numerals and cuts by the library. Names and what is seen: by the document, by the program. Bytes as hex digits, and back. -/
import Derived.Test.YtjekalilfhnpmaaGreatDoorShelf
import Derived.Sort.Grow
import Derived.ShapedOpen
import Derived.Lib.BufferRead
import Derived.Deep.AppendLies
import Derived.Deep.RegionHeldLaw
import Derived.Test.YtjekalilfhnpmaaGreatDoorM01
namespace Go.Proofs.YtjekalilfhnpmaaGreatDoor
open Go Go.RowKit Go.Extern.Stop Go.Stop Go.Extern
set_option linter.unusedVariables false
set_option linter.unusedSimpArgs false
set_option maxHeartbeats 4000000
/-- the numbers of all errors -/
abbrev allErrs : List Nat := [1,2,3,4,5,6,7,8,9,10,11,12]
theorem TypeVar.below {w w' : World} (h : TypeVar w) (hb : Below w.heap.size w w') : TypeVar w' := (hb.cell (World.block_lt_of_cell? w _ h)).trans h
theorem TypeVar.alloc {w : World} (h : TypeVar w) (o : Obj) : TypeVar (w.alloc o) := TypeVar.below h ((Below.refl _ _).alloc (Nat.le_refl _) _)
theorem code_nil (w : World) :
    Calls Tryz.prog 86 #[.nilIface] w fun e w' => e = .returned (.tuple #[.int .i64 0, .int .i64 (-1)]) ∧ Below w.heap.size w w' := by
  go_enter Tryz.func86, Tryz.ntmps86
  go_wp2
  go_ret2
  exact ⟨rfl, by go_grown⟩
set_option maxRecDepth 100000 in
theorem code_err (a : Nat → Addr) (k : Nat) (w : World) (hk : 1 ≤ k) (hk2 : k ≤ 12) (hE : Errs a allErrs w) (hT : TypeVar w) :
    Calls Tryz.prog 86 #[errV (a k)] w fun e w' => e = .returned (.tuple #[.int .i64 k, .int .i64 (-1)]) ∧ Below w.heap.size w w' := by
  go_enter Tryz.func86, Tryz.ntmps86
  go_wp2_with fail
  have hT' := Lib.hid hT
  clear hT
  refine (as_miss (a k) _ (.pointer none) _ (TypeVar.alloc hT'.out _) (by simp [go_sem])).mono ?_
  rintro e w1 ⟨rfl, hb1⟩
  have hz1 : w.heap.size < w1.heap.size := by have := hb1.size; simp at this; omega
  have E1 : Errs a allErrs w1 := (hE.alloc _).below hb1
  have b1 : Below w.heap.size w w1 := ((Below.refl _ _).alloc (Nat.le_refl _) _).trans (hb1.mono (by simp))
  clear hb1
  have g1 := (E1 1 (by simp)).var
  have g2 := (E1 2 (by simp)).var
  have g3 := (E1 3 (by simp)).var
  have g4 := (E1 4 (by simp)).var
  have g5 := (E1 5 (by simp)).var
  have g6 := (E1 6 (by simp)).var
  have g7 := (E1 7 (by simp)).var
  have g8 := (E1 8 (by simp)).var
  have g9 := (E1 9 (by simp)).var
  have g10 := (E1 10 (by simp)).var
  have g11 := (E1 11 (by simp)).var
  have g12 := (E1 12 (by simp)).var
  have HE := Lib.hid hE
  have HE1 := Lib.hid E1
  clear hE E1
  simp only [errG] at g1 g2 g3 g4 g5 g6 g7 g8 g9 g10 g11 g12
  go_wp2_with fail
  obtain ⟨W, hW⟩ : ∃ W, W = w1.alloc (.cells #[errV (a 1), errV (a 2), errV (a 3), errV (a 4), errV (a 5), errV (a 6), errV (a 7), errV (a 8), errV (a 9), errV (a 10), errV (a 11), errV (a 12)] 25) := ⟨_, rfl⟩
  have hcell : ∀ j, j < 12 → W.cell? ⟨w1.heap.size, j, none⟩ = some (errV (a (j + 1))) := by
    intro j hj
    rw [hW, World.cell?_alloc_at _ _ _ _ rfl]
    have : j = 0 ∨ j = 1 ∨ j = 2 ∨ j = 3 ∨ j = 4 ∨ j = 5 ∨ j = 6 ∨ j = 7 ∨ j = 8 ∨ j = 9 ∨ j = 10 ∨ j = 11 := by omega
    rcases this with rfl | rfl | rfl | rfl | rfl | rfl | rfl | rfl | rfl | rfl | rfl | rfl <;> rfl
  have HEW : Hid (Errs a allErrs W) := by rw [hW]; exact Lib.hid (HE1.out.alloc _)
  have HbW : Hid (Below w.heap.size w W) := by rw [hW]; exact Lib.hid (b1.alloc (by omega) _)
  clear g1 g2 g3 g4 g5 g6 g7 g8 g9 g10 g11 g12 HE HE1 b1
  rw [← hW]
  clear hW
  go_loop [3, 30] (fun v3 v30 => ∃ j : Nat, j < k ∧ v3 = .int .i64 (-1) ∧ v30 = .int .i64 j) (fun _ v30 => k - (intOf v30).toNat)
  case atStart => exact ⟨0, by omega, rfl, rfl⟩
  case round =>
    obtain ⟨j, hj, rfl, rfl⟩ := hrel
    have hcj := hcell j (by omega)
    clear hcell
    by_cases hjk : j + 1 = k
    · subst hjk
      go_wp2_with (go_at_call 141; refine (is_same (a (j + 1)) _).mono ?_; rintro e w2 ⟨rfl, rfl⟩)
      go_ret2
      exact ⟨by simp, HbW.out⟩
    · have n1 : a k ≠ a (j + 1) := (HEW.out k (by simp; omega)).ne (HEW.out (j + 1) (by simp; omega)) (by
        have h1 : ∀ x, x < 13 → ∀ y, y < 13 → 1 ≤ x → 1 ≤ y → errT x = errT y → x = y := by decide
        intro h2
        exact hjk (h1 k (by omega) (j + 1) (by omega) (by omega) (by omega) h2).symm)
      have o1 := (HEW.out k (by simp; omega)).blk
      have o2 := (HEW.out (j + 1) (by simp; omega)).blk
      go_wp2_with (go_at_call 141; refine (is_other (a k) (a (j + 1)) _ n1 o1 o2).mono ?_; rintro e w2 ⟨rfl, rfl⟩)
      go_round
      case rel => exact ⟨j + 1, by omega, rfl, by go_num⟩
      case measure => simp [intOf]; omega
set_option maxRecDepth 100000 in
theorem code_fault (a : Nat → Addr) (k : Nat) (pb po : Nat) (pl : Int) (w : World) (p0 : w.cell? ⟨pb, po, none⟩ = some (.int .i64 pl)) (p1 : w.cell? ⟨pb, po + 1, none⟩ = some (errV (a k))) (hk : 1 ≤ k) (hk2 : k ≤ 12) (hE : Errs a allErrs w) (hT : TypeVar w) :
    Calls Tryz.prog 86 #[faultV ⟨pb, po, none⟩] w fun e w' => e = .returned (.tuple #[.int .i64 k, .int .i64 pl]) ∧ Below w.heap.size w w' := by
  go_enter Tryz.func86, Tryz.ntmps86
  go_wp2_with fail
  have hT' := Lib.hid hT
  clear hT
  have hpb : pb < w.heap.size := World.block_lt_of_cell? w _ p0
  refine (as_hit ⟨pb, po, none⟩ _ (.pointer none) _ (TypeVar.alloc hT'.out _) (by simp [go_sem]) (by simp [go_sem])).mono ?_
  rintro e w2 ⟨rfl, w1, hb1, rfl⟩
  have hz1 : w.heap.size < w1.heap.size := by have := hb1.size; simp at this; omega
  have hc1 : w1.cell? ⟨w.heap.size, 0, none⟩ = some (.pointer none) := (hb1.cell (by simp)).trans (by simp [go_sem])
  have q0 : w1.cell? ⟨pb, po, none⟩ = some (.int .i64 pl) := (hb1.cell (by simp <;> omega)).trans ((World.cell?_alloc_lt _ _ ⟨pb, po, none⟩ hpb).trans p0)
  have q1 : w1.cell? ⟨pb, po + 1, none⟩ = some (errV (a k)) := (hb1.cell (by simp <;> omega)).trans ((World.cell?_alloc_lt _ _ ⟨pb, po + 1, none⟩ hpb).trans p1)
  have b2 : Below w.heap.size w (w1.setCell ⟨w.heap.size, 0, none⟩ (.pointer (some ⟨pb, po, none⟩))) := (((Below.refl _ _).alloc (Nat.le_refl _) _).trans (hb1.mono (by simp))).setCell (Nat.le_refl _) _
  have hz2 : (w1.setCell ⟨w.heap.size, 0, none⟩ (.pointer (some ⟨pb, po, none⟩))).heap.size = w1.heap.size := by simp
  have E2 : Errs a allErrs (w1.setCell ⟨w.heap.size, 0, none⟩ (.pointer (some ⟨pb, po, none⟩))) := hE.below b2
  have r0 : (w1.setCell ⟨w.heap.size, 0, none⟩ (.pointer (some ⟨pb, po, none⟩))).cell? ⟨w.heap.size, 0, none⟩ = some (.pointer (some ⟨pb, po, none⟩)) := World.cell?_setCell_same _ _ _ hc1
  have r1 : (w1.setCell ⟨w.heap.size, 0, none⟩ (.pointer (some ⟨pb, po, none⟩))).cell? ⟨pb, po, none⟩ = some (.int .i64 pl) := (World.cell?_setCell_other _ _ _ _ (by simp <;> omega)).trans q0
  have r2 : (w1.setCell ⟨w.heap.size, 0, none⟩ (.pointer (some ⟨pb, po, none⟩))).cell? ⟨pb, po + 1, none⟩ = some (errV (a k)) := (World.cell?_setCell_other _ _ _ _ (by simp <;> omega)).trans q1
  obtain ⟨w2, hw2⟩ : ∃ w2, w2 = w1.setCell ⟨w.heap.size, 0, none⟩ (.pointer (some ⟨pb, po, none⟩)) := ⟨_, rfl⟩
  rw [← hw2] at b2 hz2 E2 r0 r1 r2 ⊢
  have hz3 : w.heap.size < w2.heap.size := by omega
  have hpb3 : pb < w2.heap.size := by omega
  clear hw2 hz2 q0 q1 hc1 hb1 hz1 p0 p1
  have g1 := (E2 1 (by simp)).var
  have g2 := (E2 2 (by simp)).var
  have g3 := (E2 3 (by simp)).var
  have g4 := (E2 4 (by simp)).var
  have g5 := (E2 5 (by simp)).var
  have g6 := (E2 6 (by simp)).var
  have g7 := (E2 7 (by simp)).var
  have g8 := (E2 8 (by simp)).var
  have g9 := (E2 9 (by simp)).var
  have g10 := (E2 10 (by simp)).var
  have g11 := (E2 11 (by simp)).var
  have g12 := (E2 12 (by simp)).var
  have HE := Lib.hid hE
  have HE2 := Lib.hid E2
  clear hE E2
  simp only [errG] at g1 g2 g3 g4 g5 g6 g7 g8 g9 g10 g11 g12
  go_wp2_with fail
  obtain ⟨W, hW⟩ : ∃ W, W = w2.alloc (.cells #[errV (a 1), errV (a 2), errV (a 3), errV (a 4), errV (a 5), errV (a 6), errV (a 7), errV (a 8), errV (a 9), errV (a 10), errV (a 11), errV (a 12)] 25) := ⟨_, rfl⟩
  have hcell : ∀ j, j < 12 → W.cell? ⟨w2.heap.size, j, none⟩ = some (errV (a (j + 1))) := by
    intro j hj
    rw [hW, World.cell?_alloc_at _ _ _ _ rfl]
    have : j = 0 ∨ j = 1 ∨ j = 2 ∨ j = 3 ∨ j = 4 ∨ j = 5 ∨ j = 6 ∨ j = 7 ∨ j = 8 ∨ j = 9 ∨ j = 10 ∨ j = 11 := by omega
    rcases this with rfl | rfl | rfl | rfl | rfl | rfl | rfl | rfl | rfl | rfl | rfl | rfl <;> rfl
  have rW : W.cell? ⟨pb, po + 1, none⟩ = some (errV (a k)) := by rw [hW]; exact (World.cell?_alloc_lt _ _ ⟨pb, po + 1, none⟩ hpb3).trans r2
  have HEW : Hid (Errs a allErrs W) := by rw [hW]; exact Lib.hid (HE2.out.alloc _)
  have HbW : Hid (Below w.heap.size w W) := by rw [hW]; exact Lib.hid (b2.alloc (by omega) _)
  clear g1 g2 g3 g4 g5 g6 g7 g8 g9 g10 g11 g12 HE HE2 b2 r0 r1 r2
  rw [← hW]
  clear hW
  go_loop [3, 30] (fun v3 v30 => ∃ j : Nat, j < k ∧ v3 = .int .i64 pl ∧ v30 = .int .i64 j) (fun _ v30 => k - (intOf v30).toNat)
  case atStart => exact ⟨0, by omega, rfl, rfl⟩
  case round =>
    obtain ⟨j, hj, rfl, rfl⟩ := hrel
    have hcj := hcell j (by omega)
    clear hcell
    have r3 := rW
    by_cases hjk : j + 1 = k
    · subst hjk
      go_wp2_with (go_at_call 141; refine (is_fault_same pb po (a (j + 1)) _ rW).mono ?_; rintro e w2 ⟨rfl, rfl⟩)
      go_ret2
      exact ⟨by simp, HbW.out⟩
    · have n1 : a k ≠ a (j + 1) := (HEW.out k (by simp; omega)).ne (HEW.out (j + 1) (by simp; omega)) (by
        have h1 : ∀ x, x < 13 → ∀ y, y < 13 → 1 ≤ x → 1 ≤ y → errT x = errT y → x = y := by decide
        intro h2
        exact hjk (h1 k (by omega) (j + 1) (by omega) (by omega) (by omega) h2).symm)
      have o1 := (HEW.out k (by simp; omega)).blk
      have o2 := (HEW.out (j + 1) (by simp; omega)).blk
      go_wp2_with (go_at_call 141; refine (is_fault_other pb po (a (j + 1)) (a k) _ rW n1 o1 o2).mono ?_; rintro e w2 ⟨rfl, rfl⟩)
      go_round
      case rel => exact ⟨j + 1, by omega, rfl, by go_num⟩
      case measure => simp [intOf]; omega
/-- v is an error of this number and place: none; one of package api; a Fault round one -/
def ErrVal (a : Nat → Addr) (w : World) (v : Value) (k : Nat) (pl : Int) : Prop :=
  (v = .nilIface ∧ k = 0 ∧ pl = -1) ∨ (1 ≤ k ∧ k ≤ 12 ∧ v = errV (a k) ∧ pl = -1) ∨
  (1 ≤ k ∧ k ≤ 12 ∧ ∃ pb po, v = faultV ⟨pb, po, none⟩ ∧ w.cell? ⟨pb, po, none⟩ = some (.int .i64 pl) ∧ w.cell? ⟨pb, po + 1, none⟩ = some (errV (a k)))
theorem ErrVal.nil {a : Nat → Addr} {w : World} : ErrVal a w .nilIface 0 (-1) := .inl ⟨rfl, rfl, rfl⟩
theorem ErrVal.bare {a : Nat → Addr} {w : World} (k : Nat) (h1 : 1 ≤ k) (h2 : k ≤ 12) : ErrVal a w (errV (a k)) k (-1) := .inr (.inl ⟨h1, h2, rfl, rfl⟩)
theorem ErrVal.below {a : Nat → Addr} {w w' : World} {v : Value} {k : Nat} {pl : Int} (h : ErrVal a w v k pl) (hb : Below w.heap.size w w') : ErrVal a w' v k pl := by
  rcases h with h | h | ⟨h1, h2, pb, po, rfl, p0, p1⟩
  · exact .inl h
  · exact .inr (.inl h)
  · have hl : pb < w.heap.size := World.block_lt_of_cell? w _ p0
    exact .inr (.inr ⟨h1, h2, pb, po, rfl, (hb.cell hl).trans p0, (hb.cell hl).trans p1⟩)
theorem code_any (a : Nat → Addr) (v : Value) (k : Nat) (pl : Int) (w : World) (hv : ErrVal a w v k pl) (hE : Errs a allErrs w) (hT : TypeVar w) :
    Calls Tryz.prog 86 #[v] w fun e w' => e = .returned (.tuple #[.int .i64 k, .int .i64 pl]) ∧ Below w.heap.size w w' := by
  rcases hv with ⟨rfl, rfl, rfl⟩ | ⟨h1, h2, rfl, rfl⟩ | ⟨h1, h2, pb, po, rfl, p0, p1⟩
  · exact code_nil w
  · exact code_err a k w h1 h2 hE hT
  · exact code_fault a k pb po pl w p0 p1 h1 h2 hE hT
theorem coded2_any (a : Nat → Addr) (v : Value) (k : Nat) (pl c : Int) (w : World) (hv : ErrVal a w v k pl) (hE : Errs a allErrs w) (hT : TypeVar w) :
    Calls Tryz.prog 36 #[v, .int .i64 c] w fun e w' => e = .returned (.bool (decide ((k : Int) = c) && decide (pl = -1))) ∧ Below w.heap.size w w' := by
  by_cases h1 : (k : Int) = c
  · have h1' : ((k : Int) == c) = true := by simp [h1]
    clear h1
    go_enter Tryz.func36, Tryz.ntmps36
    go_wp2_with (go_at_call 86; refine (code_any a v k pl _ hv hE hT).mono ?_; rintro e w1 ⟨rfl, hb1⟩)
    all_goals
      go_ret
      refine ⟨?_, by assumption⟩
      simp at h1'
      first | (simp [h1']; done) | (simp [h1']; rfl)
  · have h1' : ((k : Int) == c) = false := by simp [h1]
    clear h1
    go_enter Tryz.func36, Tryz.ntmps36
    go_wp2_with (go_at_call 86; refine (code_any a v k pl _ hv hE hT).mono ?_; rintro e w1 ⟨rfl, hb1⟩)
    all_goals
      go_ret
      refine ⟨?_, by assumption⟩
      simp at h1'
      first | (simp [h1']; done) | (simp [h1']; rfl)
end Go.Proofs.YtjekalilfhnpmaaGreatDoor
namespace Go.Proofs.YtjekalilfhnpmaaGreatDoor
open Go Go.RowKit Go.Shelf
set_option linter.unusedVariables false
set_option linter.unusedSimpArgs false
set_option maxHeartbeats 1000000
set_option maxRecDepth 100000
theorem var_below {P : Program} {w w' : World} {n : String} {cs : Array Value} (h : w.var? P n = some cs) (hb : Below w.heap.size w w') : w'.var? P n = some cs := by
  unfold World.var? at h ⊢
  cases hg : P.globalNamed n with
  | none => rw [hg] at h; cases h
  | some g =>
    rw [hg] at h
    simp only [Option.bind_some] at h ⊢
    have hlt : g < w.heap.size := by
      rcases Nat.lt_or_ge g w.heap.size with h1 | h1
      · exact h1
      · rw [Array.getElem?_eq_none (by omega)] at h
        cases h
    rw [hb.block g hlt]
    exact h
def dbTab : List Int := [0, 1, 56, 2, 57, 49, 28, 3, 61, 58, 42, 50, 38, 29, 17, 4, 62, 47, 59, 36, 45, 43, 51, 22, 53, 39, 33, 30, 24, 18, 12, 5, 63, 55, 48, 27, 60, 41, 37, 16, 46, 35, 44, 21, 52, 32, 23, 11, 54, 26, 40, 15, 34, 20, 31, 10, 25, 14, 19, 9, 13, 8, 7, 6]
/-- the ground: what the variables hold, of those that F names (1 to 12: errors; 20: errors.errorType; 21: the powers of ten; 22: what Atoi and Split read; 23: the table of math/bits.TrailingZeros64) -/
structure Gd (F : Nat → Bool) (a : Nat → Addr) (w : World) : Prop where
  errs : ∀ k, 1 ≤ k → k ≤ 12 → F k = true → ErrAt w (errG k) (errT k) (a k)
  tv : F 20 = true → TypeVar w
  tab : F 21 = true → Lib.TabIs Tryz.prog w "internal/strconv.uint64pow10" .u64 Lib.pow10Tab
  len : F 22 = true → ∃ m, w.cell? ⟨14, 0, none⟩ = some (.int .i64 m)
  db : F 23 = true → Lib.TabIs Tryz.prog w "math/bits.deBruijn64tab" .u8 dbTab
theorem Gd.below {F : Nat → Bool} {a : Nat → Addr} {w w' : World} (h : Gd F a w) (hb : Below w.heap.size w w') : Gd F a w' where
  errs := fun k h1 h2 hf => (h.errs k h1 h2 hf).below hb
  tv := fun hf => (h.tv hf).below hb
  tab := fun hf => var_below (h.tab hf) hb
  len := fun hf => let ⟨m, e⟩ := h.len hf; ⟨m, (hb.cell (World.block_lt_of_cell? _ _ e)).trans e⟩
  db := fun hf => var_below (h.db hf) hb
theorem Gd.alloc {F : Nat → Bool} {a : Nat → Addr} {w : World} (h : Gd F a w) (o : Obj) : Gd F a (w.alloc o) := h.below ((Below.refl _ _).alloc (Nat.le_refl _) _)
theorem Gd.drew {F : Nat → Bool} {a : Nat → Addr} {w : World} (h : Gd F a w) : Gd F a w.drew := h.below (Below.refl _ _).drew
theorem Gd.all {F : Nat → Bool} {a : Nat → Addr} {w : World} (h : Gd F a w) (hF : ∀ k, 1 ≤ k → k ≤ 12 → F k = true) : Errs a allErrs w := by
  intro k hk
  have : 1 ≤ k ∧ k ≤ 12 := by
    simp only [allErrs, List.mem_cons, List.not_mem_nil, or_false] at hk
    omega
  exact h.errs k this.1 this.2 (hF k this.1 this.2)
theorem below_drewN (B : Nat) (w : World) (k : Nat) : Below B w (w.drewN k) := by
  induction k with
  | zero => exact Below.refl _ _
  | succ k ih => exact ⟨ih.os, ih.tape, ih.output, ih.size, ih.block⟩
theorem below_grow (w : World) (os : Array Obj) : Below w.heap.size w (Go.Sort.grow w os) :=
  ⟨rfl, rfl, rfl, by simp [Go.Sort.grow], fun k hk => by show (w.heap ++ os)[k]? = _; rw [Array.getElem?_append, if_pos hk]⟩
theorem size_drewN (w : World) (k : Nat) : (w.drewN k).heap.size = w.heap.size := by
  induction k with
  | zero => rfl
  | succ k ih => exact ih
theorem itoa_any {F : Nat → Bool} (a : Nat → Addr) (n : Int) (w : World) (hG : Gd F a w) (f21 : F 21 = true) (h0 : -9223372036854775808 ≤ n) (h1 : n ≤ 9223372036854775807) :
    Calls Tryz.prog 63 #[.int .i64 n] w fun e w' => e = .returned (.string (S (Lib.itoa n))) ∧ Below w.heap.size w w' :=
  (Tryz.strconv_Itoa n h0 h1 w (hG.tab f21)).mono fun _ _ ⟨he, k, os, hw⟩ => ⟨he, by
    subst hw
    have h1 := below_drewN w.heap.size w k
    have h2 := below_grow (w.drewN k) os
    have h3 : (w.drewN k).heap.size = w.heap.size := size_drewN w k
    rw [h3] at h2
    exact h1.trans h2⟩
theorem below_bytesWorld (w : World) (e : TypeId) (t : ByteArray) : Below w.heap.size w (Lib.bytesWorld w e t) := by
  refine ⟨rfl, rfl, rfl, ?_, fun k hk => ?_⟩
  · simp [Lib.bytesWorld, World.freeze]
  · simp only [Lib.bytesWorld, World.freeze]
    rw [if_neg (by omega)]
    show (Array.modify _ _ _)[k]? = _
    rw [Array.getElem?_modify, if_neg (by omega)]
    exact Below.heap_alloc _ _ k hk
/-- how Atoi ends: a number and no error, or some error -/
def AtoiEnds (s : List UInt8) (w : World) (e : Ending) (w' : World) : Prop :=
  Below w.heap.size w w' ∧ ((∃ v, Lib.atoiAll s = .ok v ∧ e = .returned (.tuple #[.int .i64 v, .nilIface])) ∨ ((∀ v, Lib.atoiAll s ≠ .ok v) ∧ ∃ v t p, e = .returned (.tuple #[.int .i64 v, .iface t p])))
end Go.Proofs.YtjekalilfhnpmaaGreatDoor
namespace Go.Proofs.YtjekalilfhnpmaaGreatDoor
open Go Go.RowKit
set_option linter.unusedVariables false
set_option linter.unusedSimpArgs false
set_option maxHeartbeats 4000000
set_option maxRecDepth 100000
def nameB (c : UInt8) : Bool := decide ((97 ≤ (c.toNat : Int) ∧ (c.toNat : Int) ≤ 122) ∨ (48 ≤ (c.toNat : Int) ∧ (c.toNat : Int) ≤ 57) ∨ (c.toNat : Int) = 45 ∨ (c.toNat : Int) = 46)
def seenB (c : UInt8) : Bool := decide (32 ≤ (c.toNat : Int) ∧ (c.toNat : Int) ≤ 126)
theorem name1_any (c : UInt8) (w : World) :
    Calls Tryz.prog 194 #[.int .u8 c.toNat] w fun e w' => e = .returned (.bool (!nameB c)) ∧ w' = w := by
  have H : Hid (nameB c = decide ((97 ≤ (c.toNat : Int) ∧ (c.toNat : Int) ≤ 122) ∨ (48 ≤ (c.toNat : Int) ∧ (c.toNat : Int) ≤ 57) ∨ (c.toNat : Int) = 45 ∨ (c.toNat : Int) = 46)) := rfl
  generalize nameB c = nb at H ⊢
  obtain ⟨x, hx⟩ : ∃ x : Int, x = (c.toNat : Int) := ⟨_, rfl⟩
  have hb : 0 ≤ x ∧ x < 256 := by have := c.toNat_lt; omega
  rw [← hx] at H ⊢
  have hb1 := hb.1
  have hb2 := hb.2
  clear hx hb
  go_enter Tryz.func194, Tryz.ntmps194
  go_wp2_with fail
  all_goals
    go_ret
    refine ⟨ret_bool ?_, rfl⟩
    rw [H.out, Bool.eq_iff_iff]
    (try simp)
    (try omega)
theorem seen1_any (c : UInt8) (w : World) :
    Calls Tryz.prog 237 #[.int .u8 c.toNat] w fun e w' => e = .returned (.bool (!seenB c)) ∧ w' = w := by
  have H : Hid (seenB c = decide (32 ≤ (c.toNat : Int) ∧ (c.toNat : Int) ≤ 126)) := rfl
  generalize seenB c = nb at H ⊢
  obtain ⟨x, hx⟩ : ∃ x : Int, x = (c.toNat : Int) := ⟨_, rfl⟩
  have hb : 0 ≤ x ∧ x < 256 := by have := c.toNat_lt; omega
  rw [← hx] at H ⊢
  have hb1 := hb.1
  have hb2 := hb.2
  clear hx hb
  go_enter Tryz.func237, Tryz.ntmps237
  go_wp2_with fail
  all_goals
    go_ret
    refine ⟨ret_bool ?_, rfl⟩
    rw [H.out, Bool.eq_iff_iff]
    (try simp)
    (try omega)
abbrev FV (k : FuncId) : Value := .func (Fn.func k) #[] #[]
/-- what IndexFunc answers, as far as ContainsFunc asks -/
def IdxEnds (b : Bool) (w : World) (e : Ending) (w' : World) : Prop := ∃ r : Int, e = .returned (.int .i64 r) ∧ decide (0 ≤ r) = b ∧ w' = w
/-- none of the first so many -/
def NoneOf (p : UInt8 → Bool) (l : List UInt8) (j : Nat) : Prop := ∀ i c, i < j → l[i]? = some c → p c = false
theorem indexFunc_b (k : FuncId) (he : ∀ (args : Array Value) (w : World), Sem.run Tryz.prog (callFunc k args) w = .ok (.enter k args) w) (p : UInt8 → Bool) (hp : ∀ c w, Calls Tryz.prog k #[.int .u8 c.toNat] w fun e w' => e = .returned (.bool (p c)) ∧ w' = w) (g n cap : Nat) (l : List UInt8) (hl : l.length = n) (hn : n ≤ 1000) (w : World)
    (hc : ∀ j c, l[j]? = some c → w.cell? ⟨g, j, none⟩ = some (.int .u8 c.toNat)) :
    Calls Tryz.prog 236 #[.slice (some ⟨g, 0, none⟩) n cap, FV k] w (IdxEnds (l.any p) w) := by
  have HP := Lib.hid hp
  have HC := Lib.hid hc
  have HL := Lib.hid hl
  clear hp hc hl
  go_enter Tryz.func236, Tryz.ntmps236
  go_wp2_with fail
  go_loop [8] (fun v8 => ∃ j : Nat, j ≤ n ∧ v8 = .int .i64 j ∧ NoneOf p l j) (fun v8 => n - (intOf v8).toNat)
  case atStart => exact ⟨0, by omega, rfl, fun i c hi => by omega⟩
  case round =>
    obtain ⟨j, hj, rfl, hno⟩ := hrel
    have HN := Lib.hid hno
    clear hno
    by_cases hlt : j < n
    · have hjl : j < l.length := by have := HL.out; omega
      obtain ⟨c, hx⟩ : ∃ c, l[j]? = some c := ⟨_, List.getElem?_eq_getElem hjl⟩
      have HX := Lib.hid hx
      have q0 := HC.out j c hx
      have i0 : (0 : Int) ≤ (j : Int) := by omega
      have i1 : (j : Int) < (n : Int) := by omega
      clear hx hjl
      cases hpc : p c with
      | true =>
        have HPC : Hid (∀ w, Calls Tryz.prog k #[.int .u8 c.toNat] w fun e w' => e = .returned (.bool true) ∧ w' = w) := fun w => by have := HP.out c w; rwa [hpc] at this
        have HQ := Lib.hid hpc
        clear hpc
        go_wp2_with fail
        refine (HPC.out _).mono ?_
        rintro e w' ⟨rfl, rfl⟩
        go_wp2_with fail
        go_ret
        exact ⟨j, rfl, by
          rw [show decide ((0 : Int) ≤ (j : Int)) = true by simp]
          symm
          rw [List.any_eq_true]
          exact ⟨c, List.mem_of_getElem? HX.out, HQ.out⟩, rfl⟩
      | false =>
        have HPC : Hid (∀ w, Calls Tryz.prog k #[.int .u8 c.toNat] w fun e w' => e = .returned (.bool false) ∧ w' = w) := fun w => by have := HP.out c w; rwa [hpc] at this
        have HQ := Lib.hid hpc
        clear hpc
        go_wp2_with fail
        refine (HPC.out _).mono ?_
        rintro e w' ⟨rfl, rfl⟩
        go_wp2_with fail
        go_round
        case rel => exact ⟨j + 1, by omega, by go_num, fun i d hi hd => by
          by_cases e : i = j
          · subst e
            rw [HX.out] at hd
            cases hd
            exact HQ.out
          · exact HN.out i d (by omega) hd⟩
        case measure => simp [intOf]; omega
    · have hge : ¬ (j : Int) < (n : Int) := by omega
      have hjn : n ≤ j := by omega
      clear hlt
      go_wp2_with fail
      go_ret
      exact ⟨-1, rfl, by
        rw [show decide ((0 : Int) ≤ -1) = false by decide]
        symm
        rw [List.any_eq_false]
        intro c hc
        obtain ⟨i, hi⟩ := List.mem_iff_getElem?.1 hc
        have hlt : i < l.length := (List.getElem?_eq_some_iff.1 hi).1
        have := HN.out i c (by have := HL.out; omega) hi
        simp [this], rfl⟩
theorem containsFunc_b (x : Bool) (k : FuncId) (he : ∀ (args : Array Value) (w : World), Sem.run Tryz.prog (callFunc k args) w = .ok (.enter k args) w) (p : UInt8 → Bool) (hp : ∀ c w, Calls Tryz.prog k #[.int .u8 c.toNat] w fun e w' => e = .returned (.bool (p c)) ∧ w' = w) (g n cap : Nat) (l : List UInt8) (hl : l.length = n) (hn : n ≤ 1000) (w : World)
    (hc : ∀ j c, l[j]? = some c → w.cell? ⟨g, j, none⟩ = some (.int .u8 c.toNat)) (hx : l.any p = x) :
    Calls Tryz.prog 193 #[.slice (some ⟨g, 0, none⟩) n cap, FV k] w fun e w' => e = .returned (.bool x) ∧ w' = w := by
  have H := Lib.hid (indexFunc_b k he p hp g n cap l hl hn w hc)
  rw [hx] at H
  clear hp hc hx
  go_enter Tryz.func193, Tryz.ntmps193
  go_wp2_with fail
  refine H.out.mono ?_
  rintro e w' ⟨r, rfl, hr, rfl⟩
  have HR := Lib.hid hr
  clear hr
  go_wp2_with fail
  go_ret
  exact ⟨ret_bool HR.out, rfl⟩
theorem ent1 : ∀ (args : Array Value) (w : World), Sem.run Tryz.prog (callFunc 194 args) w = .ok (.enter 194 args) w := fun args w => enters_of Tryz.func194 (by kernel_rfl) rfl args w
theorem ent2 : ∀ (args : Array Value) (w : World), Sem.run Tryz.prog (callFunc 237 args) w = .ok (.enter 237 args) w := fun args w => enters_of Tryz.func237 (by kernel_rfl) rfl args w
theorem bytes_cells (s : ByteArray) (w : World) (e : TypeId) : ∀ j c, s.data.toList[j]? = some c → (Lib.bytesWorld w e s).cell? ⟨w.heap.size, j, none⟩ = some (.int .u8 c.toNat) := by
  intro j c hc
  have hj : j < s.size := (List.getElem?_eq_some_iff.1 hc).1
  rw [Lib.bytesWorld_cell w e s j hj]
  simp [List.getD, hc]
def isNmB (l : List UInt8) : Bool := decide (1 ≤ l.length ∧ l.length ≤ 12) && l.all nameB
def isSnB (l : List UInt8) : Bool := l.all seenB
theorem any_not (p : UInt8 → Bool) (l : List UInt8) : l.any (fun c => !p c) = !l.all p := by
  induction l with
  | nil => rfl
  | cons c r ih => simp [ih]
theorem opName_any (x : Bool) (s : ByteArray) (w : World) (hs : s.size ≤ 100000) (hx : isNmB s.data.toList = x) :
    Calls Tryz.prog 154 #[.string s] w fun e w' => e = .returned (.bool x) ∧ Below w.heap.size w w' := by
  have hsz : s.data.toList.length = s.size := rfl
  by_cases h0 : s.size = 0
  · have h3 : s.toList.isEmpty = true := by
      rw [ByteArray.toList_eq, List.isEmpty_iff]
      exact List.eq_nil_of_length_eq_zero (by omega)
    have hxf : x = false := by rw [← hx]; unfold isNmB; rw [decide_eq_false (by omega)]; rfl
    subst hxf
    clear hx hsz h0
    go_enter Tryz.func154, Tryz.ntmps154
    go_wp2_with fail
    go_ret
    exact ⟨rfl, Below.refl _ _⟩
  · have h3 : s.toList.isEmpty = false := by
      rw [ByteArray.toList_eq]
      cases hl : s.data.toList with
      | nil => rw [hl] at hsz; simp at hsz; omega
      | cons _ _ => rfl
    by_cases h12 : 12 < s.size
    · have hxf : x = false := by rw [← hx]; unfold isNmB; rw [decide_eq_false (by omega)]; rfl
      subst hxf
      clear hx hsz h0
      go_enter Tryz.func154, Tryz.ntmps154
      go_wp2_with fail
      go_ret
      exact ⟨by simp, Below.refl _ _⟩
    · have HC : Hid (∀ w cap, Calls Tryz.prog 193 #[.slice (some ⟨w.heap.size, 0, none⟩) s.size cap, FV 194] (Lib.bytesWorld w 5 s) fun e w' => e = .returned (.bool (!x)) ∧ w' = Lib.bytesWorld w 5 s) := fun w cap =>
        containsFunc_b (!x) _ ent1 (fun c => !nameB c) name1_any _ _ cap s.data.toList hsz (by omega) _ (bytes_cells s w _) (by
          rw [any_not, ← hx]
          unfold isNmB
          rw [decide_eq_true (by omega)]
          simp)
      have kc := fun w => Lib.run_convert_string_bytes (P := Tryz.prog) w 9 212 5 s Tryz.underlying9 Tryz.underlying212 Tryz.underlying5
      have h12' : s.size ≤ 12 := by omega
      clear hx hsz h0 h12
      go_enter Tryz.func154, Tryz.ntmps154
      go_wp2_with fail
      refine (HC.out _ _).mono ?_
      rintro e w' ⟨rfl, rfl⟩
      go_wp2_with fail
      go_ret
      exact ⟨rfl, below_bytesWorld w _ s⟩
theorem opSeen_any (x : Bool) (s : ByteArray) (m : Nat) (w : World) (hs : s.size ≤ 100000) (hm : m ≤ 1000) (hx : (decide (s.size ≤ m) && isSnB s.data.toList) = x) :
    Calls Tryz.prog 195 #[.string s, .int .i64 m] w fun e w' => e = .returned (.bool x) ∧ Below w.heap.size w w' := by
  have hsz : s.data.toList.length = s.size := rfl
  by_cases h12 : m < s.size
  · have hxf : x = false := by rw [← hx, decide_eq_false (by omega)]; rfl
    subst hxf
    clear hx hsz
    go_enter Tryz.func195, Tryz.ntmps195
    go_wp2_with fail
    go_ret
    exact ⟨by simp, Below.refl _ _⟩
  · have HC : Hid (∀ w cap, Calls Tryz.prog 193 #[.slice (some ⟨w.heap.size, 0, none⟩) s.size cap, FV 237] (Lib.bytesWorld w 5 s) fun e w' => e = .returned (.bool (!x)) ∧ w' = Lib.bytesWorld w 5 s) := fun w cap =>
      containsFunc_b (!x) _ ent2 (fun c => !seenB c) seen1_any _ _ cap s.data.toList hsz (by omega) _ (bytes_cells s w _) (by
        rw [any_not, ← hx]
        rw [decide_eq_true (by omega)]
        simp [isSnB])
    have kc := fun w => Lib.run_convert_string_bytes (P := Tryz.prog) w 9 212 5 s Tryz.underlying9 Tryz.underlying212 Tryz.underlying5
    have h12' : s.size ≤ m := by omega
    clear hx hsz h12
    go_enter Tryz.func195, Tryz.ntmps195
    go_wp2_with fail
    refine (HC.out _ _).mono ?_
    rintro e w' ⟨rfl, rfl⟩
    go_wp2_with fail
    go_ret
    exact ⟨by simp, below_bytesWorld w _ s⟩
end Go.Proofs.YtjekalilfhnpmaaGreatDoor
namespace Go.Proofs.YtjekalilfhnpmaaGreatDoor
open Go Go.RowKit
set_option linter.unusedVariables false
set_option linter.unusedSimpArgs false
set_option maxHeartbeats 4000000
set_option maxRecDepth 100000
theorem infoByte : (Tryz.prog.info? 5).map (fun i => (i.zero, i.size, i.bytes)) = some (some (.int .u8 0), 1, 1) := by kernel_rfl
def bytesV (xs : List UInt8) : List Value := xs.map fun x => Value.int .u8 x.toNat
/-- bytes of the call's own, in the making -/
structure BSt (w0 : World) (v : Value) (xs : List UInt8) (w : World) : Prop where
  own : w.ownsRow w0.heap.size 5 1 v xs.length (bytesV xs)
  bel : Below w0.heap.size w0 w
theorem BSt.below {w0 w w' : World} {v : Value} {xs : List UInt8} (h : BSt w0 v xs w) (hb : Below w.heap.size w w') : BSt w0 v xs w' :=
  ⟨h.own.kept (row := none) ⟨hb.os, hb.tape, hb.output, hb.size, fun k hk _ => hb.block k hk⟩ (by cases hv : v.ownBlock <;> simp), h.bel.trans (hb.mono h.bel.size)⟩
theorem BSt.app {w0 w w' : World} {v v' : Value} {xs ys : List UInt8} {o : Obj} (h : BSt w0 v xs w)
    (hown : w'.ownsRow w0.heap.size 5 1 v' (xs.length + ys.length) (bytesV xs ++ bytesV ys)) (hg : (w.alloc o).grownBy w' v.ownBlock) : BSt w0 v' (xs ++ ys) w' := by
  have hb : Below w0.heap.size w0 w' := (h.bel.alloc h.bel.size o).grown hg (by have := h.bel.size; simp; omega) (fun k hk => (h.own.lt k hk).1)
  exact ⟨by simpa [bytesV] using hown, hb⟩
theorem BSt.start (w : World) : BSt w (.slice none 0 0) [] w := ⟨World.ownsRow_nil _ _ _ _, Below.refl _ _⟩
theorem BSt.text {w0 w : World} {v : Value} {xs : List UInt8} (h : BSt w0 v xs w) : (convert 212 9 v).run Tryz.prog w = .ok (.string (S xs)) w := by
  have hown := h.own
  rcases h.own.2 with ⟨hv, hn⟩ | ⟨g, cap, cur, hv, hg, hh, hcap, hm, hsz, hcs⟩
  · have : xs = [] := List.eq_nil_of_length_eq_zero hn
    subst this
    rw [hv]
    exact Lib.run_convert_nil_bytes (P := Tryz.prog) w 212 9 5 0 Tryz.underlying212 Tryz.underlying5 Tryz.underlying9
  · rw [hv]
    refine run_convert_bytes_back (P := Tryz.prog) _ 212 9 5 ⟨g, 0, none⟩ cap xs Tryz.underlying212 Tryz.underlying5 Tryz.underlying9 ?_
    intro j hj
    have := hown.cells (g := g) (by rw [hv]; rfl) j (.int .u8 (xs[j].toNat : Int)) (by rw [bytesV, List.getElem?_map, List.getElem?_eq_getElem hj]; rfl)
    rw [Addr.add_lit] at this
    rw [Addr.add_lit]
    simpa using this
end Go.Proofs.YtjekalilfhnpmaaGreatDoor
