/- The sum of a text, as the program reckons it and as the document does. Plain lemmas, no program. -/
import Derived.Test.YtbncfpljiihmnaaGreatDoorNum
namespace Go.Proofs.YtbncfpljiihmnaaGreatDoor.Crc
set_option linter.unusedVariables false
set_option linter.unusedSimpArgs false
def P : Nat := 3988292384
/-- one step of the program: c>>1 ^ P*(c&1) -/
def step (c : Nat) : Nat := (c / 2) ^^^ (P * (c % 2))
def steps : Nat → Nat → Nat | 0, c => c | k + 1, c => step (steps k c)
/-- one step of the document at the bit k of a byte -/
def dstep (b k c : Nat) : Nat := if (c ^^^ (b >>> k)) % 2 = 1 then (c / 2) ^^^ P else c / 2
def dsteps (b : Nat) : Nat → Nat → Nat | 0, c => c | k + 1, c => dstep b k (dsteps b k c)
theorem step_alt (c : Nat) : step c = if c % 2 = 1 then (c / 2) ^^^ P else c / 2 := by
  unfold step
  rcases Nat.mod_two_eq_zero_or_one c with h | h <;> simp [h]
theorem half_xor (a b : Nat) : (a ^^^ b) / 2 = (a / 2) ^^^ (b / 2) := by
  have := Nat.shiftRight_xor_distrib (a := a) (b := b) (i := 1)
  simpa [Nat.shiftRight_eq_div_pow] using this
theorem steps_eq (b : Nat) : ∀ k c, steps k (c ^^^ b) = dsteps b k c ^^^ (b >>> k)
  | 0, c => by simp [steps, dsteps]
  | k + 1, c => by
    rw [steps, steps_eq b k c, step_alt, dsteps, dstep, half_xor]
    have e : b >>> (k + 1) = b >>> k / 2 := by rw [Nat.shiftRight_succ]
    rw [e]
    split
    · simp only [Nat.xor_assoc]; congr 1; exact Nat.xor_comm _ _
    · rfl
theorem steps_byte (b : Nat) (hb : b < 256) (c : Nat) : steps 8 (c ^^^ b) = dsteps b 8 c := by
  rw [steps_eq, Nat.shiftRight_eq_div_pow, Nat.div_eq_of_lt (by omega), Nat.xor_zero]
theorem P_lt : P < 4294967296 := by decide
theorem step_lt (c : Nat) (h : c < 4294967296) : step c < 4294967296 := by
  rw [step_alt]
  split
  · exact Nat.xor_lt_two_pow (n := 32) (by omega) P_lt
  · omega
theorem steps_lt (k : Nat) (c : Nat) (h : c < 4294967296) : steps k c < 4294967296 := by
  induction k with
  | zero => exact h
  | succ k ih => exact step_lt _ ih
theorem dstep_lt (b k c : Nat) (h : c < 4294967296) : dstep b k c < 4294967296 := by
  unfold dstep
  split
  · exact Nat.xor_lt_two_pow (n := 32) (by omega) P_lt
  · omega
theorem dsteps_lt (b k c : Nat) (h : c < 4294967296) : dsteps b k c < 4294967296 := by
  induction k with
  | zero => exact h
  | succ k ih => exact dstep_lt _ _ _ ih
/-- the register behind a text -/
def reg (l : List UInt8) : Nat := l.foldl (fun c b => steps 8 (c ^^^ b.toNat)) 4294967295
theorem reg_lt (l : List UInt8) : reg l < 4294967296 := by
  unfold reg
  have : ∀ (l : List UInt8) (c : Nat), c < 4294967296 → l.foldl (fun c b => steps 8 (c ^^^ b.toNat)) c < 4294967296 := by
    intro l
    induction l with
    | nil => intro c h; exact h
    | cons b l ih =>
      intro c h
      refine ih _ (steps_lt 8 _ (Nat.xor_lt_two_pow (n := 32) h ?_))
      have := b.toNat_lt
      omega
  exact this l _ (by decide)
theorem reg_snoc (l : List UInt8) (b : UInt8) : reg (l ++ [b]) = steps 8 (reg l ^^^ b.toNat) := by simp [reg]
theorem reg_snoc' (l : List UInt8) (b : UInt8) : reg (l ++ [b]) = dsteps b.toNat 8 (reg l) := by rw [reg_snoc, steps_byte _ (by have := b.toNat_lt; omega)]
/-- a lower-case hexadecimal digit -/
def hexD (n : Nat) : UInt8 := if n < 10 then UInt8.ofNat (48 + n) else UInt8.ofNat (87 + n)
/-- eight digits -/
def hex8 (n : Nat) : List UInt8 := [hexD (n / 268435456 % 16), hexD (n / 16777216 % 16), hexD (n / 1048576 % 16), hexD (n / 65536 % 16), hexD (n / 4096 % 16), hexD (n / 256 % 16), hexD (n / 16 % 16), hexD (n % 16)]
/-- digits of a number, by the fuel; no leading zeros -/
def hexN : Nat → Nat → List UInt8 | 0, _ => [] | f + 1, n => if n < 16 then [hexD n] else hexN f (n / 16) ++ [hexD (n % 16)]
theorem hex8_pad (n : Nat) (h : n < 4294967296) : (hexN 8 n).length ≤ 8 ∧ List.replicate (8 - (hexN 8 n).length) 48 ++ hexN 8 n = hex8 n := by
  have z : hexD 0 = 48 := by decide
  simp only [hexN, hex8]
  repeat' split
  all_goals first
    | (exfalso; omega)
    | skip
  all_goals
    refine ⟨by simp, ?_⟩
    simp only [List.length_append, List.length_cons, List.length_nil, List.nil_append, List.cons_append, List.replicate, Nat.div_div_eq_div_mul, List.append_assoc, Nat.reduceAdd, Nat.reduceSub, Nat.reduceMul, List.cons.injEq, ← z, and_true]
    repeat' apply And.intro
    all_goals first | trivial | rfl | (congr 1; omega)
/-- k + 1 digits, the greatest ahead -/
def digs : Nat → Nat → List UInt8 | 0, n => [hexD (n % 16)] | k + 1, n => digs k (n / 16) ++ [hexD (n % 16)]
theorem digs_len : ∀ k n, (digs k n).length = k + 1
  | 0, n => rfl
  | k + 1, n => by rw [digs, List.length_append, digs_len k]; rfl
theorem digs_at : ∀ k n i, i ≤ k → (digs k n)[i]? = some (hexD (n / 16 ^ (k - i) % 16))
  | 0, n, i, h => by
    obtain rfl : i = 0 := by omega
    simp [digs]
  | k + 1, n, i, h => by
    rw [digs]
    by_cases hi : i ≤ k
    · rw [List.getElem?_append_left (by rw [digs_len]; omega), digs_at k _ i hi, Nat.div_div_eq_div_mul, show k + 1 - i = (k - i) + 1 by omega, Nat.pow_succ, Nat.mul_comm]
    · obtain rfl : i = k + 1 := by omega
      rw [List.getElem?_append_right (by rw [digs_len]; omega), digs_len]
      simp
theorem hexN_digs : ∀ k j n, n / 16 ^ k < 16 → (k = 0 ∨ 1 ≤ n / 16 ^ k) → hexN (k + 1 + j) n = digs k n
  | 0, j, n, h, _ => by
    simp only [Nat.pow_zero, Nat.div_one] at h
    rw [show 0 + 1 + j = j + 1 by omega, hexN, if_pos h, digs, Nat.mod_eq_of_lt h]
  | k + 1, j, n, h, h2 => by
    have e : n / 16 ^ (k + 1) = n / 16 / 16 ^ k := by rw [Nat.div_div_eq_div_mul, Nat.pow_succ, Nat.mul_comm]
    have h3 : 1 ≤ n / 16 ^ (k + 1) := by omega
    have h4 : 1 ≤ n / 16 := by
      rw [e] at h3
      exact Nat.le_trans h3 (Nat.div_le_self _ _)
    rw [show k + 1 + 1 + j = (k + 1 + j) + 1 by omega, hexN, if_neg (by omega), digs, hexN_digs k j (n / 16) (by rw [← e]; exact h) (.inr (by rw [← e]; exact h3))]
end Go.Proofs.YtbncfpljiihmnaaGreatDoor.Crc
