/- The closed fact on a vector's text. -/
import Derived.Test.YthlojjknpfijmaaGreatDoorVecX
namespace Go.Proofs.YthlojjknpfijmaaGreatDoor
open Go Go.RowKit
set_option linter.unusedVariables false
set_option linter.unusedSimpArgs false
set_option maxHeartbeats 4000000
set_option maxRecDepth 100000

theorem vecT_counted : vecT 1 0 12 3 = [49, 46, 48, 46, 49, 50, 46, 51] := by
  unfold vecT
  rw [itoa_nonneg 1 (by omega), itoa_nonneg 0 (by omega), itoa_nonneg 12 (by omega), itoa_nonneg 3 (by omega)]
  rw [show (1 : Int).toNat = 1 from rfl, show (0 : Int).toNat = 0 from rfl, show (12 : Int).toNat = 12 from rfl, show (3 : Int).toNat = 3 from rfl]
  rw [Lib.decDigits_one (by omega : 1 < 10), Lib.decDigits_one (by omega : 0 < 10), Lib.decDigits_two (by omega : ¬ 12 < 10) (by omega), Lib.decDigits_one (by omega : 3 < 10)]
  rfl

theorem check_none {F : Nat → Bool} (ea : Nat → Addr) (a b c d : Int) (w : World) (hG : Gd F ea w) (f2 : F 2 = true) (h : vfAt a b c d = -1) :
    Calls Tryz.prog 13 #[vecV a b c d] w fun r w' => r = .returned .nilIface ∧ Below w.heap.size w w' :=
  (check_any ea a b c d w hG f2).mono fun e w' ⟨v, he, hv, hb, _⟩ => ⟨by
    rw [he]
    rw [show vfK a b c d = 0 by unfold vfK; rw [if_pos (by omega)]] at hv
    rcases hv with ⟨h, _⟩ | ⟨h, _⟩ | ⟨h, _⟩
    · rw [h]
    · omega
    · omega, hb⟩

theorem counted_any {F : Nat → Bool} (ea : Nat → Addr) (w : World) (hG : Gd F ea w) (f2 : F 2 = true) (f21 : F 21 = true) :
    Calls Tryz.prog 5 #[] w fun r w' => r = .returned (.bool true) ∧ Below w.heap.size w w' := by
  have HG := Lib.hid hG
  clear hG
  go_enter Tryz.func5, Tryz.ntmps5
  go_wp2_with fail
  refine (text_any ea 1 0 12 3 _ (HG.out.alloc _) f21 (by omega) (by omega) (by omega) (by omega)).mono ?_
  rintro r w1 ⟨rfl, hb1⟩
  rw [vecT_counted]
  have v0 : VecAt w1 w.heap.size 1 0 12 3 := VecAt.below ⟨by simp [go_sem], by simp [go_sem], by simp [go_sem], by simp [go_sem]⟩ (by simp) hb1
  obtain ⟨q0, q1, q2, q3⟩ := v0
  have hG1 := (HG.out.alloc _).below hb1
  have HG1 := Lib.hid hG1
  have hbel := ((Below.refl _ w).alloc (Nat.le_refl _) _).trans (hb1.mono (by simp))
  clear hb1 hG1
  have heq : (S [49, 46, 48, 46, 49, 50, 46, 51]).toList = (ByteArray.mk #[49, 46, 48, 46, 49, 50, 46, 51]).toList := rfl
  go_wp2_with fail
  refine (check_none ea 1 0 12 3 _ HG1.out f2 (by decide)).mono ?_
  rintro r w2 ⟨rfl, hb2⟩
  have hb := hbel.trans (hb2.mono hbel.size)
  clear hb2 hbel
  go_wp2_with fail
  go_ret
  exact ⟨by simp, hb⟩
end Go.Proofs.YthlojjknpfijmaaGreatDoor
