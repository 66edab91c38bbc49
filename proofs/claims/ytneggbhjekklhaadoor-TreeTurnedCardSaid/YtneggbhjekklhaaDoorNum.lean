/- Numerals and texts cut by one byte: what Atoi, Itoa and Split say is what the document's words say. Plain lemmas, no program. -/
import Derived.Lib.AtoiAll
import Derived.Lib.ItoaNum
import Derived.Lib.Split
namespace Go.Proofs.YtneggbhjekklhaaDoor.Num
open Go.Lib
set_option linter.unusedVariables false
set_option linter.unusedSimpArgs false


def isDig (c : UInt8) : Bool := decide (48 ≤ c.toNat ∧ c.toNat ≤ 57)
def dstep (a : Nat) (c : UInt8) : Nat := 10 * a + (c.toNat - 48)
def digVal (acc : Nat) (l : List UInt8) : Nat := l.foldl dstep acc
theorem digVal_nil (acc : Nat) : digVal acc [] = acc := rfl
theorem digVal_cons (acc : Nat) (c : UInt8) (r : List UInt8) : digVal acc (c :: r) = digVal (10 * acc + (c.toNat - 48)) r := by unfold digVal; rw [List.foldl_cons, dstep]

/-- the document's NumberOf: -1 where it is no numeral -/
def numOf (l : List UInt8) (most : Nat) : Int :=
  if l.length < 1 ∨ most < l.length ∨ (1 < l.length ∧ l.head? = some 48) then -1
  else if l.all isDig then (digVal 0 l : Int) else -1

theorem digVal_append (a b : List UInt8) (acc : Nat) : digVal acc (a ++ b) = digVal (digVal acc a) b := by
  induction a generalizing acc with
  | nil => rfl
  | cons c r ih => simp only [List.cons_append, digVal_cons, ih]

theorem digVal_lt : ∀ (l : List UInt8) (acc : Nat), l.all isDig = true → digVal acc l < (acc + 1) * 10 ^ l.length
  | [], acc, _ => by simp [digVal_nil]
  | c :: r, acc, h => by
    simp only [List.all_cons, Bool.and_eq_true] at h
    have hc : 48 ≤ c.toNat ∧ c.toNat ≤ 57 := by simpa [isDig] using h.1
    have := digVal_lt r (10 * acc + (c.toNat - 48)) h.2
    refine Nat.lt_of_lt_of_le this ?_
    rw [List.length_cons, Nat.pow_succ]
    have h2 : 10 * acc + (c.toNat - 48) + 1 ≤ (acc + 1) * 10 := by omega
    have h3 : (10 * acc + (c.toNat - 48) + 1) * 10 ^ r.length ≤ ((acc + 1) * 10) * 10 ^ r.length := Nat.mul_le_mul_right _ h2
    rw [Nat.mul_assoc, Nat.mul_comm 10 (10 ^ r.length)] at h3; exact h3

theorem parse_digits : ∀ (l : List UInt8) (acc : Nat), l.all isDig = true → digVal acc l < 18446744073709551616 → parseUint10 acc l = .ok (digVal acc l)
  | [], acc, _, _ => rfl
  | c :: r, acc, h, hb => by
    simp only [List.all_cons, Bool.and_eq_true] at h
    have hc : 48 ≤ c.toNat ∧ c.toNat ≤ 57 := by simpa [isDig] using h.1
    have hge : ∀ (r : List UInt8) (a : Nat), a ≤ digVal a r := by
      intro r
      induction r with
      | nil => intro a; exact Nat.le_refl _
      | cons d r ih => intro a; simp only [digVal_cons]; have := ih (10 * a + (d.toNat - 48)); omega
    have h3 := hge r (10 * acc + (c.toNat - 48))
    simp only [digVal_cons] at hb ⊢
    simp only [parseUint10]
    rw [if_pos hc, if_neg (by omega), if_neg (by omega), show acc * 10 + (c.toNat - 48) = 10 * acc + (c.toNat - 48) by omega]
    exact parse_digits r _ h.2 hb

theorem parse_ok : ∀ (l : List UInt8) (acc u : Nat), parseUint10 acc l = .ok u → l.all isDig = true ∧ u = digVal acc l
  | [], acc, u, h => by simp only [parseUint10] at h; injection h with h; exact ⟨rfl, h.symm⟩
  | c :: r, acc, u, h => by
    simp only [parseUint10] at h
    split at h
    · next hc =>
      split at h
      · cases h
      · split at h
        · cases h
        · have := parse_ok r _ u h
          refine ⟨by simp [isDig, hc, this.1], ?_⟩
          rw [this.2]
          simp only [digVal_cons]
          congr 1
          omega
    · cases h

theorem atoi_digits (l : List UInt8) (hl : 1 ≤ l.length) (h : l.all isDig = true) (hb : digVal 0 l < 9223372036854775808) : atoiAll l = .ok (digVal 0 l) := by
  cases l with
  | nil => simp at hl
  | cons c r =>
    have hc : 48 ≤ c.toNat ∧ c.toNat ≤ 57 := by simp [isDig] at h; exact h.1
    simp only [atoiAll]
    rw [if_neg (by omega)]
    unfold parseMag
    rw [if_neg (by simp), parse_digits _ _ h (by omega)]
    simp only
    rw [if_neg (by omega), if_neg (by omega), if_neg (by omega)]

theorem dec_snoc (u d : Nat) (hu : 0 < u) (hd : d < 10) : decDigits (10 * u + d) = decDigits u ++ [UInt8.ofNat (48 + d)] := by
  rw [decDigits, dif_neg (by omega), show (10 * u + d) / 10 = u by omega, show (10 * u + d) % 10 = d by omega]

theorem digVal_pos (l : List UInt8) (acc : Nat) (h : 0 < acc) : 0 < digVal acc l := by
  induction l generalizing acc with
  | nil => exact h
  | cons c r ih => rw [digVal_cons]; exact ih _ (by omega)

theorem ofNat_dig (c : UInt8) (h : 48 ≤ c.toNat ∧ c.toNat ≤ 57) : UInt8.ofNat (48 + (c.toNat - 48)) = c := by
  rw [show 48 + (c.toNat - 48) = c.toNat by omega]
  exact UInt8.ofNat_toNat

theorem dec_val_go (r : List UInt8) : ∀ (acc : Nat), 0 < acc → r.all isDig = true → decDigits (digVal acc r) = decDigits acc ++ r := by
  induction r with
  | nil => intro acc _ _; simp [digVal_nil]
  | cons c r ih =>
    intro acc ha h
    simp only [List.all_cons, Bool.and_eq_true] at h
    have hc : 48 ≤ c.toNat ∧ c.toNat ≤ 57 := by simpa [isDig] using h.1
    simp only [digVal_cons]
    rw [ih _ (by omega) h.2, dec_snoc _ _ ha (by omega), ofNat_dig c hc]
    simp

/-- a numeral without a leading nought is the digits of its value -/
theorem dec_val (l : List UInt8) (h : l.all isDig = true) (hl : 1 ≤ l.length) (h0 : ¬ (1 < l.length ∧ l.head? = some 48)) : decDigits (digVal 0 l) = l := by
  cases l with
  | nil => simp at hl
  | cons c r =>
    simp only [List.all_cons, Bool.and_eq_true] at h
    have hc : 48 ≤ c.toNat ∧ c.toNat ≤ 57 := by simpa [isDig] using h.1
    have h1 : decDigits (c.toNat - 48) = [c] := by rw [decDigits_one (by omega), ofNat_dig c hc]
    simp only [digVal_cons, Nat.mul_zero, Nat.zero_add]
    cases r with
    | nil => exact h1
    | cons d r =>
      have hne : c.toNat ≠ 48 := by
        intro e
        apply h0
        refine ⟨by simp, ?_⟩
        have : c = 48 := UInt8.toNat_inj.1 (by simpa using e)
        simp [this]
      rw [dec_val_go _ _ (by omega) h.2, h1]
      rfl

theorem dec_head (u : Nat) : ∃ c r, decDigits u = c :: r ∧ (decDigits u).all isDig = true ∧ (0 < u → c ≠ 48) := by
  induction u using Nat.strongRecOn with
  | _ u ih =>
    have hdig : ∀ d, d < 10 → isDig (UInt8.ofNat (48 + d)) = true := by
      intro d hd
      unfold isDig
      rw [UInt8.toNat_ofNat']
      simp
      omega
    by_cases h : u < 10
    · refine ⟨_, _, decDigits_one h, ?_, ?_⟩
      · rw [decDigits_one h, List.all_cons, hdig u h]; rfl
      · intro hu e
        have := congrArg UInt8.toNat e
        simp at this
        omega
    · obtain ⟨c, r, e, ha, hp⟩ := ih (u / 10) (by omega)
      have e2 : decDigits u = decDigits (u / 10) ++ [UInt8.ofNat (48 + u % 10)] := by rw [decDigits, dif_neg h]
      refine ⟨c, r ++ [UInt8.ofNat (48 + u % 10)], by rw [e2, e]; rfl, ?_, fun _ => hp (by omega)⟩
      rw [e2, List.all_append, ha, List.all_cons, hdig _ (Nat.mod_lt u (by omega))]
      rfl

/-- what Go's program asks of a word is what the document's NumberOf says -/
theorem numOf_spec (l : List UInt8) (most : Nat) (hm : most ≤ 18) (n : Int) : (atoiAll l = .ok n ∧ 0 ≤ n ∧ l.length ≤ most ∧ itoa n = l) ↔ (numOf l most = n ∧ 0 ≤ n) := by
  constructor
  · rintro ⟨h, hn, hl, hi⟩
    refine ⟨?_, hn⟩
    have hid : itoa n = decDigits n.toNat := by unfold itoa; rw [if_neg (by omega)]
    obtain ⟨c, r, e, ha, hp⟩ := dec_head n.toNat
    rw [hid] at hi
    have h1 : 1 ≤ l.length := by rw [← hi, e]; simp
    rw [hi] at ha
    have h0 : ¬ (1 < l.length ∧ l.head? = some 48) := by
      rintro ⟨h2, h3⟩
      rw [← hi, e] at h3
      simp at h3
      by_cases hz : 0 < n.toNat
      · exact hp hz h3
      · have : n.toNat = 0 := by omega
        rw [← hi, this, decDigits_one (by omega)] at h2
        simp at h2
    have hb : digVal 0 l < 9223372036854775808 := by
      have := digVal_lt l 0 ha
      have h3 : 10 ^ l.length ≤ 10 ^ 18 := Nat.pow_le_pow_right (by omega) (by omega)
      omega
    have := atoi_digits l h1 ha hb
    rw [h] at this
    injection this with this
    unfold numOf
    rw [if_neg (by rintro (h | h | h) <;> first | omega | exact h0 h), if_pos ha, this]
  · rintro ⟨h, hn⟩
    unfold numOf at h
    split at h
    · omega
    · next h0 =>
      split at h
      · next ha =>
        have h1 : 1 ≤ l.length := by omega
        have hb : digVal 0 l < 9223372036854775808 := by
          have := digVal_lt l 0 ha
          have h3 : 10 ^ l.length ≤ 10 ^ 18 := Nat.pow_le_pow_right (by omega) (by omega)
          omega
        refine ⟨by rw [atoi_digits l h1 ha hb, h], hn, by omega, ?_⟩
        rw [← h]
        have hid : itoa ((digVal 0 l : Nat) : Int) = decDigits (digVal 0 l) := by unfold itoa; rw [if_neg (by omega)]; simp
        rw [hid, dec_val l ha h1 (fun h => h0 (.inr (.inr h)))]
      · omega


def cutL (b : UInt8) : List UInt8 → List (List UInt8)
  | [] => [[]]
  | c :: r => if c = b then [] :: cutL b r else (c :: (cutL b r).headD []) :: (cutL b r).tail

theorem cutL_ne (b : UInt8) (l : List UInt8) : cutL b l ≠ [] := by
  cases l with
  | nil => simp [cutL]
  | cons c r => unfold cutL; split <;> simp

theorem cutL_none (b : UInt8) : ∀ (l : List UInt8), (∀ c ∈ l, c ≠ b) → cutL b l = [l]
  | [], _ => rfl
  | c :: r, h => by
    unfold cutL
    rw [if_neg (h c (by simp)), cutL_none b r (fun d hd => h d (by simp [hd]))]
    rfl

theorem cutL_hit (b : UInt8) : ∀ (p r : List UInt8), (∀ c ∈ p, c ≠ b) → cutL b (p ++ b :: r) = p :: cutL b r
  | [], r, _ => by simp [cutL]
  | c :: p, r, h => by
    rw [List.cons_append, cutL, if_neg (h c (by simp)), cutL_hit b p r (fun d hd => h d (by simp [hd]))]
    rfl

theorem occ_one (s : List UInt8) (b : UInt8) (i : Nat) : occAt s [b] i = true ↔ s[i]? = some b := by
  unfold occAt
  rw [← List.head?_drop]
  cases s.drop i with
  | nil => simp
  | cons c r => simp [List.isPrefixOf]; exact ⟨fun h => h.symm, fun h => h.symm⟩

theorem split_one (b : UInt8) : ∀ (n : Nat) (s : List UInt8), s.length ≤ n → split s [b] = cutL b s := by
  intro n
  induction n with
  | zero =>
    intro s h
    have : s = [] := List.eq_nil_of_length_eq_zero (by omega)
    subst this
    have e : index [] [b] = -1 := index_none (fun j _ => by simp [occAt])
    unfold split
    rw [count_miss e]
    rfl
  | succ n ih =>
    intro s h
    rcases index_spec s [b] with ⟨e, hn⟩ | ⟨i, e, hi, ho, hno⟩
    · unfold split
      rw [count_miss e, cutL_none]
      · rfl
      · intro c hc hcb
        subst hcb
        obtain ⟨j, hj, hjc⟩ := List.mem_iff_getElem.1 hc
        have := hn j (by omega)
        have h2 : occAt s [c] j = true := (occ_one s c j).2 (by rw [List.getElem?_eq_getElem hj, hjc])
        rw [this] at h2
        cases h2
    · have hib := (occ_one s b i).1 ho
      have hlt : i < s.length := (List.getElem?_eq_some_iff.1 hib).1
      have hs : s = s.take i ++ b :: s.drop (i + 1) := by
        have h1 : s.drop i = b :: s.drop (i + 1) := by
          rw [List.drop_eq_getElem_cons hlt]
          congr 1
          exact (List.getElem?_eq_some_iff.1 hib).2
        rw [← h1, List.take_append_drop]
      have hp : ∀ c ∈ s.take i, c ≠ b := by
        intro c hc hcb
        subst hcb
        obtain ⟨j, hj, hjc⟩ := List.mem_iff_getElem.1 hc
        rw [List.length_take] at hj
        rw [List.getElem_take] at hjc
        have h2 : occAt s [c] j = true := (occ_one s c j).2 (by rw [List.getElem?_eq_getElem (by omega), hjc])
        rw [hno j (by omega)] at h2
        cases h2
      have hcut : cutL b s = s.take i :: cutL b (s.drop (i + 1)) := by
        have := cutL_hit b (s.take i) (s.drop (i + 1)) hp
        rwa [← hs] at this
      rw [hcut, ← ih (s.drop (i + 1)) (by simp; omega)]
      unfold split
      rw [count_hit (by simp) e]
      simp only [List.length_singleton]
      rw [show 1 + count (s.drop (i + 1)) [b] = count (s.drop (i + 1)) [b] + 1 by omega, splitK, if_neg (by rw [e]; simp), e]
      simp

theorem split_eq (b : UInt8) (s : List UInt8) : split s [b] = cutL b s := split_one b s.length s (Nat.le_refl _)

end Go.Proofs.YtneggbhjekklhaaDoor.Num
