/- Names: the walk of the law. -/
import Derived.Test.YthmgdpimfeigpaaDoorInts
import Derived.Test.YthmgdpimfeigpaaDoorCode
namespace Go.Proofs.YthmgdpimfeigpaaDoor
open Go Go.RowKit
namespace names
set_option linter.unusedVariables false
set_option linter.unusedSimpArgs false
set_option maxHeartbeats 4000000
set_option maxRecDepth 100000

structure St (a : Nat → Addr) (w0 : World) (be : Nat) (w : World) : Prop where
  cells : ∀ j, j < 12 → w.cell? ⟨be, j, none⟩ = some (errV (a (j + 1)))
  errs : Errs a allErrs w
  tv : TypeVar w
  bel : Below w0.heap.size w0 w
  lt : be < w.heap.size
theorem St.below {a : Nat → Addr} {w0 w w' : World} {be : Nat} (h : St a w0 be w) (hb : Below w.heap.size w w') : St a w0 be w' :=
  ⟨fun j hj => (hb.cell h.lt).trans (h.cells j hj), h.errs.below hb, h.tv.below hb, h.bel.trans (hb.mono h.bel.size), Nat.lt_of_lt_of_le h.lt hb.size⟩

def nums : List Int := [4, 1073741824, 400, 12, 65536, 30, 3000, 100, 16, 0, 1, 109, 105, 100, 115]
def numCells : Array Value := #[.int .i64 4, .int .i64 1073741824, .int .i64 400, .int .i64 12, .int .i64 65536, .int .i64 30, .int .i64 3000, .int .i64 100, .int .i64 16, .int .i64 0, .int .i64 1, .int .i64 109, .int .i64 105, .int .i64 100, .int .i64 115]
theorem num_at (w : World) (t : TypeId) (j : Nat) (x : Int) (hx : nums[j]? = some x) : numCells[0 + j]? = some (.int .i64 x) := by
  rw [Nat.zero_add]
  have hj : j < 15 := (List.getElem?_eq_some_iff.1 hx).1
  have : j = 0 ∨ j = 1 ∨ j = 2 ∨ j = 3 ∨ j = 4 ∨ j = 5 ∨ j = 6 ∨ j = 7 ∨ j = 8 ∨ j = 9 ∨ j = 10 ∨ j = 11 ∨ j = 12 ∨ j = 13 ∨ j = 14 := by omega
  rcases this with rfl | rfl | rfl | rfl | rfl | rfl | rfl | rfl | rfl | rfl | rfl | rfl | rfl | rfl | rfl <;> (simp [nums] at hx; subst hx; rfl)

theorem new_any (s : ByteArray) (w : World) :
    Calls Tryd.prog 27 #[.string s] w fun e w' => e = .returned (errV ⟨w.heap.size, 0, none⟩) ∧ w' = w.alloc (.cells #[.string s] 119) := by
  go_enter Tryd.func27, Tryd.ntmps27
  go_wp2
  go_ret
  exact ⟨rfl, rfl⟩

theorem walk (a : Nat → Addr) (w : World) (hE : Errs a allErrs w) (hT : TypeVar w) :
    Calls Tryd.prog 6 #[] w fun e w' => e = .returned (.bool true) ∧ Below w.heap.size w w' := by
  have HE := Lib.hid hE
  have HT := Lib.hid hT
  clear hE hT
  go_enter Tryd.func6, Tryd.ntmps6
  go_wp2_with fail
  refine (sameInts_any _ _ _ _ _ _ nums nums _ rfl rfl (.inr ⟨w.heap.size, 0, rfl, by simp <;> omega, fun j x hx => ?_⟩) (.inr ⟨w.heap.size + 1, 0, rfl, by simp <;> omega, fun j x hx => ?_⟩) (by decide) (by decide)).mono ?_
  · rw [World.cell?_alloc_lt _ _ _ (by simp), World.cell?_alloc_at _ _ _ _ rfl]
    exact num_at w 0 j x hx
  · rw [World.cell?_alloc_at _ _ _ _ (by simp)]
    exact num_at w 0 j x hx
  rintro e w1 ⟨rfl, hb1⟩
  have hB1 : Below w.heap.size w w1 := (((Below.refl _ _).alloc (Nat.le_refl _) _).alloc (by simp) _).trans (hb1.mono (by simp <;> omega))
  clear hb1
  have E1 := HE.out.below hB1
  have T1 := HT.out.below hB1
  have hBH := Lib.hid hB1
  clear HE HT hB1
  have g1 := (E1 1 (by simp)).var
  have g2 := (E1 2 (by simp)).var
  have g3 := (E1 3 (by simp)).var
  have g4 := (E1 4 (by simp)).var
  have g5 := (E1 5 (by simp)).var
  have g6 := (E1 6 (by simp)).var
  have g7 := (E1 7 (by simp)).var
  have g8 := (E1 8 (by simp)).var
  have g9 := (E1 9 (by simp)).var
  have g10 := (E1 10 (by simp)).var
  have g11 := (E1 11 (by simp)).var
  have g12 := (E1 12 (by simp)).var
  simp only [errG] at g1 g2 g3 g4 g5 g6 g7 g8 g9 g10 g11 g12
  go_wp2_with fail
  obtain ⟨W, hW⟩ : ∃ W, W = w1.alloc (.cells #[errV (a 1), errV (a 2), errV (a 3), errV (a 4), errV (a 5), errV (a 6), errV (a 7), errV (a 8), errV (a 9), errV (a 10), errV (a 11), errV (a 12)] 26) := ⟨_, rfl⟩
  have hS : St a w w1.heap.size W := by
    rw [hW]
    refine ⟨fun j hj => ?_, E1.alloc _, T1.alloc _, hBH.out.alloc hBH.out.size _, by simp⟩
    rw [World.cell?_alloc_at _ _ _ _ rfl]
    have : j = 0 ∨ j = 1 ∨ j = 2 ∨ j = 3 ∨ j = 4 ∨ j = 5 ∨ j = 6 ∨ j = 7 ∨ j = 8 ∨ j = 9 ∨ j = 10 ∨ j = 11 := by omega
    rcases this with rfl | rfl | rfl | rfl | rfl | rfl | rfl | rfl | rfl | rfl | rfl | rfl <;> rfl
  clear g1 g2 g3 g4 g5 g6 g7 g8 g9 g10 g11 g12 E1 T1 hBH
  rw [← hW]
  clear hW
  go_loopw [4] (fun v6 wr => ∃ j : Nat, j ≤ 12 ∧ v6 = .int .i64 j ∧ St a w w1.heap.size wr) (fun v6 _ => 12 - (intOf v6).toNat)
  case atStart => exact ⟨0, by omega, rfl, hS⟩
  case round =>
    clear hS
    obtain ⟨j, hj, rfl, hS⟩ := hrel
    by_cases hlt : j < 12
    · have c1 := hS.cells j hlt
      have hz := hS.lt
      have hj1 : 1 ≤ j + 1 := by omega
      have hj2 : j + 1 ≤ 12 := by omega
      go_wp2_with fail
      have hS1 := hS.below ((Below.refl _ _).alloc (Nat.le_refl _) (.cells #[.int .i64 7, errV (a (j + 1))] 50))
      refine (code_fault a (j + 1) wr.heap.size 0 7 _ (by simp [go_sem]) (by simp [go_sem]) hj1 hj2 hS1.errs hS1.tv).mono ?_
      rintro e w2 ⟨rfl, hb⟩
      have hS2 := hS1.below hb
      clear hS hS1 hb c1
      have c1 := hS2.cells j hlt
      go_wp2_with fail
      refine (coded1_any a (errV (a (j + 1))) (j + 1) (-1) _ _ (.bare (j + 1) hj1 hj2) hS2.errs hS2.tv).mono ?_
      rintro e w3 ⟨rfl, hb⟩
      have hS3 := hS2.below hb
      clear hS2 hb c1
      go_wp2
      go_roundw
      case rel => exact ⟨j + 1, by omega, by go_num, hS3⟩
      case measure => simp [intOf]; omega
    · obtain rfl : j = 12 := by omega
      go_wp2_with fail
      refine (new_any _ _).mono ?_
      rintro e w2 ⟨rfl, rfl⟩
      obtain ⟨o, ho⟩ : ∃ o, o = Obj.cells #[.string ⟨#[97, 110, 111, 116, 104, 101, 114, 32, 111, 110, 101]⟩] 119 := ⟨_, rfl⟩
      have hS1 := hS.below ((Below.refl _ _).alloc (Nat.le_refl _) o)
      have hne : ∀ k, 1 ≤ k → k ≤ 12 → (⟨wr.heap.size, 0, none⟩ : Addr) ≠ a k := by
        intro k h1 h2 he
        have := (hS.errs k (by simp; omega)).lta
        rw [← he] at this
        exact absurd this (by simp)
      have hbl : ∃ c t, (wr.alloc o).heap[(⟨wr.heap.size, 0, none⟩ : Addr).block]? = some (.cells c t (0, 0)) := ⟨_, _, by rw [ho]; exact heap_alloc_new wr _⟩
      clear hS
      rw [← ho]
      clear ho
      go_wp2_with fail
      refine (code_other a ⟨wr.heap.size, 0, none⟩ _ hne hbl hS1.errs hS1.tv).mono ?_
      rintro e w3 ⟨rfl, hb⟩
      have hS2 := hS1.below hb
      clear hS1 hb hne hbl
      go_wp2_with fail
      refine (coded1_any a .nilIface 0 (-1) 0 _ .nil hS2.errs hS2.tv).mono ?_
      rintro e w4 ⟨rfl, hb⟩
      have hB := hS2.bel.trans (hb.mono hS2.bel.size)
      clear hS2 hb
      go_wp2
      go_ret
      exact ⟨by simp, hB⟩
end names
end Go.Proofs.YthmgdpimfeigpaaDoor
