/- Texts of bytes; the document's Byte. -/
import Derived.Test.YtneggbhjekklhaaDoorBase
import Derived.Test.YtneggbhjekklhaaDoorNum
namespace Go.Proofs.YtneggbhjekklhaaDoor
open Go Go.RowKit
set_option linter.unusedVariables false
set_option linter.unusedSimpArgs false
set_option maxHeartbeats 1000000
set_option maxRecDepth 100000

/-- a text of these bytes -/
def S (l : List UInt8) : ByteArray := ⟨l.toArray⟩
theorem S_list (l : List UInt8) : (S l).data.toList = l := rfl
theorem S_app (a b : List UInt8) : S a ++ S b = S (a ++ b) := by
  apply ByteArray.ext
  simp [S]
theorem S_of (s : ByteArray) : S s.data.toList = s := by
  apply ByteArray.ext
  simp [S]
theorem S_inj {a b : List UInt8} (h : S a = S b) : a = b := by rw [← S_list a, h, S_list]
theorem S_size (l : List UInt8) : (S l).size = l.length := by simp [S, ByteArray.size]
theorem ret_str {a b : ByteArray} (h : a = b) : Ending.returned (.string a) = .returned (.string b) := by rw [h]

theorem bytesBack (n : Int) (h : 0 ≤ n ∧ n < 256) (w : World) : (convert 152 9 (.slice (some ⟨w.heap.size, 0, none⟩) 1 1)).run Tryd.prog (w.alloc (.cells #[.int .u8 n] 5)) = .ok (.string (S [UInt8.ofNat n.toNat])) (w.alloc (.cells #[.int .u8 n] 5)) :=
  run_convert_bytes_back (P := Tryd.prog) _ 152 9 5 ⟨w.heap.size, 0, none⟩ 1 [UInt8.ofNat n.toNat] Tryd.underlying152 Tryd.underlying5 Tryd.underlying9 (by
    intro j hj
    match j, hj with
    | 0, _ => simp [go_sem, Addr.add]; omega)

theorem ret_bool {a b : Bool} (h : a = b) : Ending.returned (.bool a) = .returned (.bool b) := by rw [h]
theorem ret_int {k : IntKind} {a b : Int} (h : a = b) : Ending.returned (.int k a) = .returned (.int k b) := by rw [h]


theorem dec_len (n : Nat) : ∀ (u : Nat), 1 ≤ n → u < 10 ^ n → (Lib.decDigits u).length ≤ n := by
  induction n with
  | zero => intro u h; omega
  | succ n ih =>
    intro u _ h
    by_cases hu : u < 10
    · rw [Lib.decDigits_one hu]; simp
    · rw [Lib.decDigits, dif_neg hu]
      have h1 : 1 ≤ n := by
        rcases Nat.eq_zero_or_pos n with rfl | h0
        · simp at h; omega
        · exact h0
      have := ih (u / 10) h1 (by rw [Nat.pow_succ] at h; omega)
      simp
      omega
theorem dec_len20 (u : Nat) (h : u ≤ 9223372036854775808) : (S (Lib.decDigits u)).size ≤ 20 := by
  rw [S_size]
  exact dec_len 20 u (by omega) (by omega)
theorem itoa_len20 (n : Int) (h1 : -9223372036854775808 ≤ n) (h2 : n ≤ 9223372036854775807) : (S (Lib.itoa n)).size ≤ 21 := by
  rw [S_size]
  unfold Lib.itoa
  split
  · have := dec_len 20 n.natAbs (by omega) (by omega)
    simp; omega
  · have := dec_len 20 n.toNat (by omega) (by omega)
    omega

theorem itoa_nonneg (n : Int) (h : 0 ≤ n) : Lib.itoa n = Lib.decDigits n.toNat := by unfold Lib.itoa; rw [if_neg (by omega)]
theorem itoa_neg (n : Int) (h : n < 0) : Lib.itoa n = 45 :: Lib.decDigits n.natAbs := by unfold Lib.itoa; rw [if_pos h]

end Go.Proofs.YtneggbhjekklhaaDoor
