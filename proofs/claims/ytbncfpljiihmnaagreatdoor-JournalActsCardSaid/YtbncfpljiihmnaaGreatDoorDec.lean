/- Numbers as texts: the document's below and Decimal. -/
import Derived.Test.YtbncfpljiihmnaaGreatDoorStr
namespace Go.Proofs.YtbncfpljiihmnaaGreatDoor
open Go Go.RowKit
set_option linter.unusedVariables false
set_option linter.unusedSimpArgs false
set_option maxHeartbeats 1000000
set_option maxRecDepth 100000

theorem below_small (k : Nat) (w : World) (h : k < 10) :
    Calls Tryz.prog 36 #[.int .i64 (-(k : Int))] w fun e w' => e = .returned (.string (S (Lib.decDigits k))) ∧ Below w.heap.size w w' := by
  have t1 : -(10 : Int) < -(k : Int) := by omega
  go_enter Tryz.func36, Tryz.ntmps36
  go_wp2_with fail
  refine (byte_any _ _ (by omega)).mono ?_
  rintro e w1 ⟨rfl, hb⟩
  go_wp2_with fail
  go_ret
  refine ⟨ret_str ?_, hb⟩
  rw [Lib.decDigits_one h]
  rw [show (48 + (k : Int)).toNat = 48 + k by omega]

theorem below_any (m : Nat) : ∀ (k : Nat) (w : World), k ≤ m → k ≤ 9223372036854775808 →
    Calls Tryz.prog 36 #[.int .i64 (-(k : Int))] w fun e w' => e = .returned (.string (S (Lib.decDigits k))) ∧ Below w.heap.size w w' := by
  induction m with
  | zero =>
    intro k w hk _
    exact below_small k w (by omega)
  | succ m ih =>
    intro k w hk hb
    by_cases h10 : k < 10
    · exact below_small k w h10
    · have IH := Lib.hid ih
      clear ih
      have t1 : ¬ -(10 : Int) < -(k : Int) := by omega
      go_enter Tryz.func36, Tryz.ntmps36
      go_wp2_with fail
      rw [show (-((k : Int) / 10)) = -((k / 10 : Nat) : Int) by omega]
      refine (IH.out _ _ (by omega) (by omega)).mono ?_
      rintro e w1 ⟨rfl, hb1⟩
      go_wp2_with fail
      have hm : k % 10 < 10 := Nat.mod_lt _ (by omega)
      refine (byte_any _ _ (by omega)).mono ?_
      rintro e w2 ⟨rfl, hb2⟩
      have l1 := dec_len20 (k / 10) (by omega)
      have l2 : (S [UInt8.ofNat (48 + (k : Int) % 10).toNat]).size = 1 := rfl
      go_wp2_with fail
      go_ret
      refine ⟨ret_str ?_, hb1.trans (hb2.mono hb1.size)⟩
      rw [S_app]
      congr 1
      rw [Lib.decDigits.eq_1 k, dif_neg h10]

theorem decimal_any (n : Int) (w : World) (h1 : -9223372036854775808 ≤ n) (h2 : n ≤ 9223372036854775807) :
    Calls Tryz.prog 26 #[.int .i64 n] w fun e w' => e = .returned (.string (S (Lib.itoa n))) ∧ Below w.heap.size w w' := by
  by_cases hn : n < 0
  · obtain ⟨k, hk⟩ : ∃ k : Nat, n = -(k : Int) := ⟨n.natAbs, by omega⟩
    subst hk
    have hk2 : k ≤ 9223372036854775808 := by omega
    go_enter Tryz.func26, Tryz.ntmps26
    go_wp2_with fail
    refine (below_any k k _ (Nat.le_refl _) hk2).mono ?_
    rintro e w1 ⟨rfl, hb1⟩
    have l1 := dec_len20 k hk2
    have l2 : (ByteArray.mk #[45]).size = 1 := rfl
    go_wp2_with fail
    go_ret
    refine ⟨ret_str ?_, hb1⟩
    rw [itoa_neg _ hn]
    rw [show (-(k : Int)).natAbs = k by omega]
    exact S_app [45] _
  · obtain ⟨k, hk⟩ : ∃ k : Nat, n = (k : Int) := ⟨n.toNat, by omega⟩
    subst hk
    have hk2 : k ≤ 9223372036854775808 := by omega
    go_enter Tryz.func26, Tryz.ntmps26
    go_wp2_with fail
    refine (below_any k k _ (Nat.le_refl _) hk2).mono ?_
    rintro e w1 ⟨rfl, hb1⟩
    go_wp2_with fail
    go_ret
    refine ⟨ret_str ?_, hb1⟩
    rw [itoa_nonneg _ (by omega)]
    simp

end Go.Proofs.YtbncfpljiihmnaaGreatDoor
