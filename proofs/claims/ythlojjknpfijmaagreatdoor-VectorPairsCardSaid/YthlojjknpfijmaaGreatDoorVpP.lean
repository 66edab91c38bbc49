/- A vector's text is read back: plain lemmas. -/
import Derived.Test.YthlojjknpfijmaaGreatDoorVpA
namespace Go.Proofs.YthlojjknpfijmaaGreatDoor
open Go Go.RowKit
set_option linter.unusedVariables false
set_option linter.unusedSimpArgs false

open Num Lib in
theorem dig_ne (n : Int) (h : 0 ≤ n) : ∀ c ∈ itoa n, c ≠ 46 := by
  intro c hc
  rw [itoa_nonneg n h] at hc
  obtain ⟨_, _, _, ha, _⟩ := dec_head n.toNat
  have := List.all_eq_true.1 ha c hc
  intro e
  subst e
  revert this
  decide
open Num Lib in
theorem digVal_dec (u : Nat) : digVal 0 (decDigits u) = u := by
  induction u using Nat.strongRecOn with
  | _ u ih =>
    by_cases h : u < 10
    · rw [decDigits_one h, digVal_cons, digVal_nil, UInt8.toNat_ofNat']
      omega
    · rw [decDigits, dif_neg h, digVal_snoc, ih (u / 10) (by omega), UInt8.toNat_ofNat']
      omega
open Num Lib in
theorem numOf_itoa (n : Int) (h : 0 ≤ n) (h4 : n ≤ 400) : numOf (itoa n) 4 = n := by
  rw [itoa_nonneg n h]
  obtain ⟨c, r, e, ha, hp⟩ := dec_head n.toNat
  have hl := dec_len 3 n.toNat (by omega) (by omega)
  rw [numOf_good (by rw [e]; simp) (by omega) ?_ ha, digVal_dec]
  · omega
  · rintro ⟨h1, h2⟩
    rw [e] at h2
    simp at h2
    by_cases hz : 0 < n.toNat
    · exact hp hz h2
    · have : n.toNat = 0 := by omega
      rw [this, decDigits_one (by omega)] at h1
      simp at h1
open Num Lib in
theorem cut_vecT (a b c d : Int) (ha : 0 ≤ a) (hb : 0 ≤ b) (hc : 0 ≤ c) (hd : 0 ≤ d) : cutL 46 (vecT a b c d) = [itoa a, itoa b, itoa c, itoa d] := by
  have e : vecT a b c d = itoa a ++ 46 :: (itoa b ++ 46 :: (itoa c ++ 46 :: itoa d)) := by
    simp [vecT, join, List.intercalate]
  rw [e, cutL_hit 46 _ _ (dig_ne a ha), cutL_hit 46 _ _ (dig_ne b hb), cutL_hit 46 _ _ (dig_ne c hc), cutL_none 46 _ (dig_ne d hd)]
theorem vecRd_self (a b c d : Int) (h : vfAt a b c d < 0) : vecRdOf (Num.cutL 46 (vecT a b c d)) = ((a, b, c, d), 0, -1) := by
  have hx : ¬ (a < 0 ∨ 400 < a) ∧ ¬ (b < 0 ∨ 400 < b) ∧ ¬ (c < 0 ∨ 400 < c) ∧ ¬ (d < 0 ∨ 400 < d) := by
    unfold vfAt at h
    split at h
    · omega
    · split at h
      · omega
      · split at h
        · omega
        · split at h
          · omega
          · omega
  rw [cut_vecT a b c d (by omega) (by omega) (by omega) (by omega)]
  have ea := numOf_itoa a (by omega) (by omega)
  have eb := numOf_itoa b (by omega) (by omega)
  have ec := numOf_itoa c (by omega) (by omega)
  have ed := numOf_itoa d (by omega) (by omega)
  rw [vecRd_ok (w0 := Lib.itoa a) (w1 := Lib.itoa b) (w2 := Lib.itoa c) (w3 := Lib.itoa d) (by rw [ea, eb, ec, ed]; omega) (by rw [ea, eb, ec, ed]; exact h), ea, eb, ec, ed]
end Go.Proofs.YthlojjknpfijmaaGreatDoor
