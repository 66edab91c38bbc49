/- The journal's sum of a text. -/
import Derived.Test.YtbncfpljiihmnaaGreatDoorFmt
namespace Go.Proofs.YtbncfpljiihmnaaGreatDoor
open Go Go.RowKit
set_option linter.unusedVariables false
set_option linter.unusedSimpArgs false
set_option maxHeartbeats 4000000
set_option maxRecDepth 100000

theorem repeat_zeros (c : Nat) (w : World) : c ≤ 8 →
    Calls Tryz.prog 65 #[.string ⟨#[48]⟩, .int .i64 c] w fun e w' => e = .returned (.string (S (List.replicate c 48))) ∧ Below w.heap.size w w' := by
  intro hc
  have hr : ∀ c, Lib.repeatL [48] c = List.replicate c (48 : UInt8) := by
    intro c
    induction c with
    | zero => rfl
    | succ c ih => simp [Lib.repeatL, List.replicate_succ]; exact ih
  match c with
  | 0 => exact (Tryz.strings_Repeat_zero ⟨#[48]⟩ w).mono fun e w' ⟨h1, h2⟩ => ⟨h1, h2 ▸ Below.refl _ _⟩
  | 1 => exact (Tryz.strings_Repeat_one ⟨#[48]⟩ w).mono fun e w' ⟨h1, h2⟩ => ⟨h1, h2 ▸ Below.refl _ _⟩
  | c + 2 =>
    have h := Tryz.strings_Repeat_main ⟨#[48]⟩ (c + 2) w (by omega) (by omega) (by show 1 * (c + 2) ≤ _; omega) (by decide)
    exact h.mono fun e w' ⟨h1, h2⟩ => ⟨by rw [h1]; show Ending.returned (.string ⟨(Lib.repeatL [48] (c + 2)).toArray⟩) = _; rw [hr]; rfl, h2⟩

theorem sum_any (s : ByteArray) (w : World) (hs : s.size ≤ 1000000) (hdb : w.cell? ⟨20, 15, none⟩ = some (.int .u8 4)) :
    Calls Tryz.prog 41 #[.string s] w fun e w' => e = .returned (.string (S (Crc.hex8 (Crc.reg s.data.toList ^^^ 4294967295)))) ∧ Below w.heap.size w w' := by
  obtain ⟨n, hn⟩ : ∃ n, s.size = n := ⟨_, rfl⟩
  have hl : s.data.toList.length = n := by rw [← hn]; rfl
  have HN := Lib.hid hn
  have HL := Lib.hid hl
  have hs' : n ≤ 1000000 := by omega
  have HF : Hid (∀ u : Nat, u < 4294967296 → Calls Tryz.prog 64 #[.int .u64 u, .int .i64 16] w fun e w' => e = .returned (.string (S (Crc.hexN 8 u))) ∧ Below w.heap.size w w') := Lib.hid fun u hu => fmt_16 u w hu hdb
  clear hn hl hs hdb
  go_enter Tryz.func41, Tryz.ntmps41
  go_wp2_with fail
  go_loopw [3, 8] (fun v3 v8 wr => ∃ i : Nat, v8 = .int .i64 i ∧ i ≤ n ∧ v3 = .int .u32 (Crc.reg (s.data.toList.take i)) ∧ wr = w) (fun _ v8 _ => n - (intOf v8).toNat)
  case atStart => exact ⟨0, rfl, by omega, rfl, rfl⟩
  case round =>
    obtain ⟨i, rfl, hi, rfl, rfl⟩ := hrel
    by_cases hlt : i < n
    · have hlt2 : i < s.size := by have := HN.out; omega
      have i1 : (0 : Int) ≤ (i : Int) := by omega
      have i2 : (i : Int) < (s.size : Int) := by omega
      have HT : Hid (Crc.reg (s.data.toList.take (i + 1)) = Crc.steps 8 (Crc.reg (s.data.toList.take i) ^^^ s[i].toNat)) := Lib.hid (by
        rw [List.take_add_one, byte_at s i hlt2]
        exact Crc.reg_snoc _ _)
      have hc := Crc.reg_lt (s.data.toList.take i)
      have hb : s[i].toNat < 256 := s[i].toNat_lt
      generalize Crc.reg (s.data.toList.take i) = c at HT hc
      obtain ⟨b, hb0⟩ : ∃ b : Nat, s[i].toNat = b := ⟨_, rfl⟩
      rw [hb0] at HT hb
      have hx := u32_xor_nat c b hc (by omega)
      have hC : c ^^^ b < 4294967296 := Nat.xor_lt_two_pow (n := 32) hc (by omega)
      have hb3 : IntKind.u32.wrap (b : Int) = (b : Int) := by simp [IntKind.wrap, IntKind.bits, IntKind.signed]; omega
      generalize c ^^^ b = C at HT hx hC
      go_wp2_with fail
      go_loopw [3, 17] (fun v3 v17 wz => ∃ k : Nat, v17 = .int .i64 k ∧ k ≤ 8 ∧ v3 = .int .u32 (Crc.steps k C) ∧ wz = wr) (fun _ v17 _ => 8 - (intOf v17).toNat)
      case atStart => exact ⟨0, rfl, by omega, rfl, rfl⟩
      case round =>
        obtain ⟨k, rfl, hk, rfl, rfl⟩ := hrel
        by_cases hk8 : k < 8
        · have hd := Crc.steps_lt k C hC
          have HD : Hid (Crc.steps (k + 1) C = Crc.step (Crc.steps k C)) := Lib.hid rfl
          have k1 : (k : Int) < 8 := by omega
          generalize Crc.steps k C = d at hd HD
          obtain ⟨d2, hd2⟩ : ∃ d2 : Nat, d2 = d / 2 := ⟨_, rfl⟩
          have e1 : (d : Int) / 2 = (d2 : Int) := by omega
          have e0 : (d : Int).fdiv (2 ^ min (Int.toNat 1) IntKind.u32.bits) = (d2 : Int) := by
            show (d : Int).fdiv 2 = _
            rw [Int.fdiv_eq_ediv_of_nonneg _ (by omega)]; exact e1
          have e2 : bits .and .u32 (d : Int) 1 = ((d % 2 : Nat) : Int) := by
            have := u32_and_nat d 1 hd (by omega)
            rw [Nat.and_one_is_mod] at this
            exact this
          have e3 : IntKind.u32.wrap (3988292384 * ((d % 2 : Nat) : Int)) = ((3988292384 * (d % 2) : Nat) : Int) := by
            rcases Nat.mod_two_eq_zero_or_one d with h | h <;> rw [h] <;> decide
          have e4 := u32_xor_nat d2 (3988292384 * (d % 2)) (by omega) (by omega)
          have e5 : d2 ^^^ 3988292384 * (d % 2) = Crc.step d := by rw [hd2]; rfl
          rw [e5] at e4
          clear hd2 e5 e0
          generalize d % 2 = q at e2 e3 e4
          generalize 3988292384 * q = m at e3 e4
          go_wp2_with fail
          go_roundw
          case rel => exact ⟨k + 1, by go_num, by omega, by rw [HD.out], trivial⟩
          case measure => simp [intOf] <;> omega
        · have k1 : ¬ (k : Int) < 8 := by omega
          obtain rfl : k = 8 := by omega
          go_wp2_with fail
          go_roundw
          case rel => exact ⟨i + 1, by go_num, by omega, by rw [HT.out], trivial⟩
          case measure => simp [intOf] <;> omega
    · have i2 : ¬ (i : Int) < (s.size : Int) := by have := HN.out; omega
      have HE : Hid (s.data.toList.take i = s.data.toList) := List.take_of_length_le (by have := HL.out; omega)
      have hc := Crc.reg_lt s.data.toList
      rw [HE.out]
      obtain ⟨c, hce⟩ : ∃ c, Crc.reg s.data.toList = c := ⟨_, rfl⟩
      rw [hce] at hc
      have HCE := Lib.hid hce
      rw [hce]
      clear hce
      have hx := u32_xor_nat 4294967295 c (by omega) hc
      rw [Nat.xor_comm] at hx
      have hX : c ^^^ 4294967295 < 4294967296 := Nat.xor_lt_two_pow (n := 32) hc (by omega)
      obtain ⟨X, hXe⟩ : ∃ X, c ^^^ 4294967295 = X := ⟨_, rfl⟩
      rw [hXe] at hx hX
      have HXE := Lib.hid hXe
      clear hXe
      have hx' : bits .xor .u32 IntKind.u32.max (c : Int) = (X : Int) := hx
      have hsg : IntKind.u32.signed = false := rfl
      clear hx
      have hw : IntKind.u64.wrap (X : Int) = (X : Int) := by simp [IntKind.wrap, IntKind.bits, IntKind.signed]; omega
      have hpad := Crc.hex8_pad X hX
      have HF2 := Lib.hid (HF.out X hX)
      have HP := Lib.hid hpad.2
      have hlen : (S (Crc.hexN 8 X)).size ≤ 8 := by rw [S_size]; exact hpad.1
      obtain ⟨m, hm⟩ : ∃ m : Nat, (S (Crc.hexN 8 X)).size = m := ⟨_, rfl⟩
      rw [hm] at hlen
      have HM : Hid ((Crc.hexN 8 X).length = m) := Lib.hid (by rw [← hm, S_size])
      have h8 : (8 : Int) - (m : Int) = ((8 - m : Nat) : Int) := by omega
      have hrz : (S (List.replicate (8 - m) 48)).size = 8 - m := by rw [S_size, List.length_replicate]
      have HR : Hid (∀ w, Calls Tryz.prog 65 #[.string ⟨#[48]⟩, .int .i64 ((8 - m : Nat) : Int)] w fun e w' => e = .returned (.string (S (List.replicate (8 - m) 48))) ∧ Below w.heap.size w w') := Lib.hid fun w => repeat_zeros (8 - m) w (by omega)
      clear hpad HF hlt hc hX HE hs'
      obtain ⟨z, hz⟩ : ∃ z, 8 - m = z := ⟨_, rfl⟩
      rw [hz] at h8 hrz HR
      have HZ := Lib.hid hz
      clear hz
      go_wp2_with (first | (go_at_call 64; refine HF2.out.mono ?_; rintro e w1 ⟨rfl, hb1⟩; have HB1 := Lib.hid hb1; clear hb1 HF2) | (go_at_call 65; refine (HR.out _).mono ?_; rintro e w2 ⟨rfl, hb2⟩; have HB2 := Lib.hid hb2; clear hb2 HR))
      go_ret
      refine ⟨?_, HB1.out.trans (HB2.out.mono HB1.out.size)⟩
      rw [HCE.out, HXE.out, ← HP.out, HM.out, HZ.out, ← S_app]
      rfl
end Go.Proofs.YtbncfpljiihmnaaGreatDoor
