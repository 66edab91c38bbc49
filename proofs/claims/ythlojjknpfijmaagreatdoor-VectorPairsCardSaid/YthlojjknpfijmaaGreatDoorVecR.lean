/- The document's text of a vector; an error held against a fault. -/
import Derived.Test.YthlojjknpfijmaaGreatDoorVecX
import Derived.Test.YthlojjknpfijmaaGreatDoorDec
namespace Go.Proofs.YthlojjknpfijmaaGreatDoor
open Go Go.RowKit
set_option linter.unusedVariables false
set_option linter.unusedSimpArgs false
set_option maxHeartbeats 4000000
set_option maxRecDepth 100000

def preT (a b c d : Int) : Nat → List UInt8
  | 0 => []
  | 1 => Lib.itoa a
  | 2 => Lib.itoa a ++ [46] ++ Lib.itoa b
  | 3 => Lib.itoa a ++ [46] ++ Lib.itoa b ++ [46] ++ Lib.itoa c
  | _ => Lib.itoa a ++ [46] ++ Lib.itoa b ++ [46] ++ Lib.itoa c ++ [46] ++ Lib.itoa d

structure VtSt (w0 : World) (B : Nat) (a b c d : Int) (w : World) : Prop where
  v : VecAt w B a b c d
  lt : B < w.heap.size
  bel : Below w0.heap.size w0 w
theorem VtSt.below {w0 : World} {B : Nat} {a b c d : Int} {w w' : World} (h : VtSt w0 B a b c d w) (hb : Below w.heap.size w w') : VtSt w0 B a b c d w' :=
  ⟨h.v.below h.lt hb, Nat.lt_of_lt_of_le h.lt hb.size, h.bel.trans (hb.mono h.bel.size)⟩

theorem vectorText_any (a b c d : Int) (w : World) (ha : -9223372036854775808 ≤ a ∧ a ≤ 9223372036854775807) (hb : -9223372036854775808 ≤ b ∧ b ≤ 9223372036854775807) (hc : -9223372036854775808 ≤ c ∧ c ≤ 9223372036854775807) (hd : -9223372036854775808 ≤ d ∧ d ≤ 9223372036854775807) :
    Calls Tryz.prog 15 #[vecV a b c d] w fun r w' => r = .returned (.string (S (vecT a b c d))) ∧ Below w.heap.size w w' := by
  have HA := Lib.hid ha
  have HB := Lib.hid hb
  have HC := Lib.hid hc
  have HD := Lib.hid hd
  have la := itoa_len20 a ha.1 ha.2
  have lb := itoa_len20 b hb.1 hb.2
  have lc := itoa_len20 c hc.1 hc.2
  have ld := itoa_len20 d hd.1 hd.2
  clear ha hb hc hd
  go_enter Tryz.func15, Tryz.ntmps15
  go_wp2_with fail
  obtain ⟨W, hW⟩ : ∃ W, W = w.alloc (.cells #[.int .i64 a, .int .i64 b, .int .i64 c, .int .i64 d] 22) := ⟨_, rfl⟩
  have hS : VtSt w w.heap.size a b c d W := by
    subst hW
    exact ⟨⟨by simp [go_sem], by simp [go_sem], by simp [go_sem], by simp [go_sem]⟩, by simp, (Below.refl _ _).alloc (Nat.le_refl _) _⟩
  rw [← hW]
  clear hW
  have HS := Lib.hid hS
  clear hS
  go_loopw [3, 4] (fun v3 v4 wr => ∃ j : Nat, j ≤ 4 ∧ v4 = .int .i64 j ∧ v3 = .string (S (preT a b c d j)) ∧ VtSt w w.heap.size a b c d wr) (fun _ v4 _ => 4 - (intOf v4).toNat)
  case atStart => exact ⟨0, by omega, rfl, rfl, HS.out⟩
  case round =>
    clear HS
    obtain ⟨j, hj, rfl, rfl, hS⟩ := hrel
    have hcases : j = 0 ∨ j = 1 ∨ j = 2 ∨ j = 3 ∨ j = 4 := by omega
    have l2 : (ByteArray.mk #[46]).size = 1 := rfl
    rcases hcases with rfl | rfl | rfl | rfl | rfl
    · have l1 : (S (preT a b c d 0)).size ≤ 90 := by
        rw [S_size] at la lb lc ld ⊢
        simp only [preT, List.length_append, List.length_cons, List.length_nil]
        omega
      have l3 : (S (preT a b c d 0) ++ ⟨#[46]⟩).size ≤ 91 := by
        rw [ByteArray.size_append]
        omega
      have q0 := hS.v.1
      go_wp2_with fail
      refine (decimal_any a _ HA.out.1 HA.out.2).mono ?_
      rintro r w1 ⟨rfl, hb1⟩
      have hS1 := hS.below hb1
      have HS := Lib.hid hS1
      clear hS1 hS hb1 q0
      go_wp2_with fail
      go_roundw
      case rel => exact ⟨1, by omega, by go_num, by first | rfl | (refine congrArg Value.string ?_; rw [show (⟨#[46]⟩ : ByteArray) = S [46] from rfl, S_app, S_app]; simp [preT]) | (refine congrArg Value.string ?_; simp [preT, S]), HS.out⟩
      case measure => simp [intOf]
    · have l1 : (S (preT a b c d 1)).size ≤ 90 := by
        rw [S_size] at la lb lc ld ⊢
        simp only [preT, List.length_append, List.length_cons, List.length_nil]
        omega
      have l3 : (S (preT a b c d 1) ++ ⟨#[46]⟩).size ≤ 91 := by
        rw [ByteArray.size_append]
        omega
      have q0 := hS.v.2.1
      go_wp2_with fail
      refine (decimal_any b _ HB.out.1 HB.out.2).mono ?_
      rintro r w1 ⟨rfl, hb1⟩
      have hS1 := hS.below hb1
      have HS := Lib.hid hS1
      clear hS1 hS hb1 q0
      go_wp2_with fail
      go_roundw
      case rel => exact ⟨2, by omega, by go_num, by first | rfl | (refine congrArg Value.string ?_; rw [show (⟨#[46]⟩ : ByteArray) = S [46] from rfl, S_app, S_app]; simp [preT]) | (refine congrArg Value.string ?_; simp [preT, S]), HS.out⟩
      case measure => simp [intOf]
    · have l1 : (S (preT a b c d 2)).size ≤ 90 := by
        rw [S_size] at la lb lc ld ⊢
        simp only [preT, List.length_append, List.length_cons, List.length_nil]
        omega
      have l3 : (S (preT a b c d 2) ++ ⟨#[46]⟩).size ≤ 91 := by
        rw [ByteArray.size_append]
        omega
      have q0 := hS.v.2.2.1
      go_wp2_with fail
      refine (decimal_any c _ HC.out.1 HC.out.2).mono ?_
      rintro r w1 ⟨rfl, hb1⟩
      have hS1 := hS.below hb1
      have HS := Lib.hid hS1
      clear hS1 hS hb1 q0
      go_wp2_with fail
      go_roundw
      case rel => exact ⟨3, by omega, by go_num, by first | rfl | (refine congrArg Value.string ?_; rw [show (⟨#[46]⟩ : ByteArray) = S [46] from rfl, S_app, S_app]; simp [preT]) | (refine congrArg Value.string ?_; simp [preT, S]), HS.out⟩
      case measure => simp [intOf]
    · have l1 : (S (preT a b c d 3)).size ≤ 90 := by
        rw [S_size] at la lb lc ld ⊢
        simp only [preT, List.length_append, List.length_cons, List.length_nil]
        omega
      have l3 : (S (preT a b c d 3) ++ ⟨#[46]⟩).size ≤ 91 := by
        rw [ByteArray.size_append]
        omega
      have q0 := hS.v.2.2.2
      go_wp2_with fail
      refine (decimal_any d _ HD.out.1 HD.out.2).mono ?_
      rintro r w1 ⟨rfl, hb1⟩
      have hS1 := hS.below hb1
      have HS := Lib.hid hS1
      clear hS1 hS hb1 q0
      go_wp2_with fail
      go_roundw
      case rel => exact ⟨4, by omega, by go_num, by first | rfl | (refine congrArg Value.string ?_; rw [show (⟨#[46]⟩ : ByteArray) = S [46] from rfl, S_app, S_app]; simp [preT]) | (refine congrArg Value.string ?_; simp [preT, S]), HS.out⟩
      case measure => simp [intOf]
    · have hbel := hS.bel
      clear hS
      go_wp2_with fail
      go_ret
      refine ⟨ret_str ?_, hbel⟩
      congr 1
      simp [preT, vecT, Lib.join, List.intercalate]

theorem faulted_any (a : Nat → Addr) (v : Value) (k : Nat) (pl c p : Int) (w : World) (hv : ErrVal a w v k pl) (hE : Errs a allErrs w) (hT : TypeVar w) :
    Calls Tryz.prog 12 #[v, faultS c p] w fun e w' => e = .returned (.bool (decide ((k : Int) = c ∧ (k = 0 ∨ pl = p)))) ∧ Below w.heap.size w w' := by
  have HV := Lib.hid hv
  have HE := Lib.hid hE
  have HT := Lib.hid hT
  clear hv hE hT
  go_enter Tryz.func12, Tryz.ntmps12
  go_wp2_with fail
  refine (code_any a v k pl _ (HV.out.below ((Below.refl _ _).alloc (Nat.le_refl _) _)) (HE.out.alloc _) (HT.out.alloc _)).mono ?_
  rintro e w1 ⟨rfl, hb1⟩
  obtain ⟨hc, hf⟩ := bcell hb1
  have hbel := ((Below.refl _ w).alloc (Nat.le_refl _) _).trans (hb1.mono (by simp))
  clear hb1
  go_wp2_with fail
  all_goals
    go_ret
    refine ⟨ret_bool ?_, hbel⟩
    rw [Bool.eq_iff_iff]
    (try simp)
    (try omega)
end Go.Proofs.YthlojjknpfijmaaGreatDoor
