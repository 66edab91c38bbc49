/- The document's sum of a text, its record. -/
import Derived.Test.YtbncfpljiihmnaaGreatDoorJText
import Derived.Test.YtbncfpljiihmnaaGreatDoorOpTx2
import Derived.Laws.BitsAllLaws
namespace Go.Proofs.YtbncfpljiihmnaaGreatDoor
open Go Go.RowKit
set_option linter.unusedVariables false
set_option linter.unusedSimpArgs false
set_option maxHeartbeats 4000000
set_option maxRecDepth 100000

theorem xor_i64 (a b : Nat) (ha : a < 4294967296) (hb : b < 4294967296) : bits .xor .i64 (a : Int) (b : Int) = ((a ^^^ b : Nat) : Int) := by
  have hx : a ^^^ b < 2 ^ 32 := Nat.xor_lt_two_pow (by omega) (by omega)
  show IntKind.i64.wrap ((BitVec.ofInt 64 (a : Int) ^^^ BitVec.ofInt 64 (b : Int)).toNat : Int) = _
  rw [BitVec.toNat_xor, ofInt_u64 a (by omega), ofInt_u64 b (by omega), IntKind.wrap_i64]
  omega
theorem hex8_bytes (X : Nat) (h : X < 4294967296) : hexL ([UInt8.ofNat (X / 16777216)] ++ [UInt8.ofNat (X / 65536 % 256)] ++ [UInt8.ofNat (X / 256 % 256)] ++ [UInt8.ofNat (X % 256)]) = Crc.hex8 X := by
  have e : ∀ n, hexD n = Crc.hexD n := fun _ => rfl
  have t : ∀ n, n < 256 → (UInt8.ofNat n).toNat = n := fun n hn => by rw [UInt8.toNat_ofNat']; omega
  simp only [hexL, List.cons_append, List.nil_append, List.flatMap_cons, List.flatMap_nil, List.append_nil, e, t _ (show X / 16777216 < 256 by omega), t _ (show X / 65536 % 256 < 256 by omega), t _ (show X / 256 % 256 < 256 by omega), t _ (show X % 256 < 256 by omega), Crc.hex8, List.cons.injEq, and_true]
  repeat' apply And.intro
  all_goals first | trivial | (refine congrArg Crc.hexD ?_; omega)
theorem mcrc_any (s : ByteArray) (w : World) (hs : s.size ≤ 1000000) :
    Calls Tryz.prog 24 #[.string s] w fun e w' => e = .returned (.string (S (sumL s.data.toList))) ∧ Below w.heap.size w w' := by
  obtain ⟨n, hn⟩ : ∃ n, s.size = n := ⟨_, rfl⟩
  have hl : s.data.toList.length = n := by rw [← hn]; rfl
  have HN := Lib.hid hn
  have HL := Lib.hid hl
  have hs' : n ≤ 1000000 := by omega
  clear hn hl hs
  go_enter Tryz.func24, Tryz.ntmps24
  go_wp2_with fail
  go_loopw [3, 4] (fun v3 v4 wr => ∃ i : Nat, v4 = .int .i64 i ∧ i ≤ n ∧ v3 = .int .i64 (Crc.reg (s.data.toList.take i)) ∧ wr = w) (fun _ v4 _ => n - (intOf v4).toNat)
  case atStart => exact ⟨0, rfl, by omega, rfl, rfl⟩
  case round =>
    obtain ⟨i, rfl, hi, rfl, rfl⟩ := hrel
    by_cases hlt : i < n
    · have hlt2 : i < s.size := by have := HN.out; omega
      have i1 : (0 : Int) ≤ (i : Int) := by omega
      have i2 : (i : Int) < (s.size : Int) := by omega
      have HT : Hid (Crc.reg (s.data.toList.take (i + 1)) = Crc.dsteps s[i].toNat 8 (Crc.reg (s.data.toList.take i))) := Lib.hid (by
        rw [List.take_add_one, byte_at s i hlt2]
        exact Crc.reg_snoc' _ _)
      have hc := Crc.reg_lt (s.data.toList.take i)
      have hb : s[i].toNat < 256 := s[i].toNat_lt
      generalize Crc.reg (s.data.toList.take i) = c at HT hc
      obtain ⟨b, hb0⟩ : ∃ b : Nat, s[i].toNat = b := ⟨_, rfl⟩
      rw [hb0] at HT hb
      have hb3 : IntKind.i64.wrap (b : Int) = (b : Int) := by simp [IntKind.wrap, IntKind.bits, IntKind.signed]; omega
      go_wp2_with fail
      go_loopw [3, 5] (fun v3 v5 wz => ∃ k : Nat, v5 = .int .i64 k ∧ k ≤ 8 ∧ v3 = .int .i64 (Crc.dsteps b k c) ∧ wz = wr) (fun _ v5 _ => 8 - (intOf v5).toNat)
      case atStart => exact ⟨0, rfl, by omega, rfl, rfl⟩
      case round =>
        obtain ⟨k, rfl, hk, rfl, rfl⟩ := hrel
        by_cases hk8 : k < 8
        · have hd := Crc.dsteps_lt b k c hc
          have HD : Hid (Crc.dsteps b (k + 1) c = Crc.dstep b k (Crc.dsteps b k c)) := Lib.hid rfl
          have k1 : (k : Int) < 8 := by omega
          generalize Crc.dsteps b k c = d at hd HD
          have hkw : IntKind.u64.wrap (k : Int) = (k : Int) := by simp [IntKind.wrap, IntKind.bits, IntKind.signed]; omega
          have hsv : b >>> k < 4294967296 := by
            have : b >>> k ≤ b := by rw [Nat.shiftRight_eq_div_pow]; exact Nat.div_le_self _ _
            omega
          have hsh : (b : Int) / 2 ^ k = ((b >>> k : Nat) : Int) := by
            rw [Nat.shiftRight_eq_div_pow]; push_cast; rfl
          have hxy := xor_i64 d (b >>> k) hd hsv
          have HStp : Hid (Crc.dstep b k d = if (d ^^^ (b >>> k)) % 2 = 1 then (d / 2) ^^^ Crc.P else d / 2) := Lib.hid rfl
          obtain ⟨sv, hsvE⟩ : ∃ sv, b >>> k = sv := ⟨_, rfl⟩
          rw [hsvE] at hsh hxy HStp
          clear hsvE hsv
          generalize d ^^^ sv = y at hxy HStp
          obtain ⟨d2, hd2⟩ : ∃ d2 : Nat, d2 = d / 2 := ⟨_, rfl⟩
          have e1 : (d : Int) / 2 = (d2 : Int) := by omega
          have e4 : bits .xor .i64 (d2 : Int) 3988292384 = ((d2 ^^^ 3988292384 : Nat) : Int) := xor_i64 d2 3988292384 (by omega) (by omega)
          rw [← hd2] at HStp
          clear hd2
          by_cases hy : y % 2 = 1
          · have ht : (y : Int).tmod 2 = 1 := by rw [Int.tmod_eq_emod_of_nonneg (by omega)]; omega
            have HE : Hid (Crc.dsteps b (k + 1) c = d2 ^^^ 3988292384) := Lib.hid (by rw [HD.out, HStp.out, if_pos hy]; rfl)
            clear hy
            generalize d2 ^^^ 3988292384 = d3 at e4 HE
            go_wp2_with fail
            go_roundw
            case rel => exact ⟨k + 1, by go_num, by omega, by rw [HE.out], trivial⟩
            case measure => simp [intOf] <;> omega
          · have ht : (y : Int).tmod 2 = 0 := by rw [Int.tmod_eq_emod_of_nonneg (by omega)]; omega
            have HE : Hid (Crc.dsteps b (k + 1) c = d2) := Lib.hid (by rw [HD.out, HStp.out, if_neg hy])
            clear hy e4
            go_wp2_with fail
            go_roundw
            case rel => exact ⟨k + 1, by go_num, by omega, by rw [HE.out], trivial⟩
            case measure => simp [intOf] <;> omega
        · have k1 : ¬ (k : Int) < 8 := by omega
          obtain rfl : k = 8 := by omega
          go_wp2_with fail
          go_roundw
          case rel => exact ⟨i + 1, by go_num, by omega, by rw [HT.out], trivial⟩
          case measure => simp [intOf] <;> omega
    · have i2 : ¬ (i : Int) < (s.size : Int) := by have := HN.out; omega
      have HE : Hid (s.data.toList.take i = s.data.toList) := List.take_of_length_le (by have := HL.out; omega)
      have hc := Crc.reg_lt s.data.toList
      rw [HE.out]
      have HSum : Hid (sumL s.data.toList = Crc.hex8 (Crc.reg s.data.toList ^^^ 4294967295)) := Lib.hid rfl
      generalize Crc.reg s.data.toList = c at hc HSum ⊢
      have hx : bits .xor .i64 (c : Int) 4294967295 = ((c ^^^ 4294967295 : Nat) : Int) := xor_i64 c 4294967295 hc (by omega)
      have hX : c ^^^ 4294967295 < 4294967296 := Nat.xor_lt_two_pow (n := 32) hc (by omega)
      generalize c ^^^ 4294967295 = X at hx hX HSum
      have HH := Lib.hid (hex8_bytes X hX)
      obtain ⟨q1, hq1⟩ : ∃ q, q = X / 16777216 := ⟨_, rfl⟩
      obtain ⟨q2, hq2⟩ : ∃ q, q = X / 65536 % 256 := ⟨_, rfl⟩
      obtain ⟨q3, hq3⟩ : ∃ q, q = X / 256 % 256 := ⟨_, rfl⟩
      obtain ⟨q4, hq4⟩ : ∃ q, q = X % 256 := ⟨_, rfl⟩
      rw [← hq1, ← hq2, ← hq3, ← hq4] at HH
      have b1 : q1 < 256 := by omega
      have b2 : q2 < 256 := by omega
      have b3 : q3 < 256 := by omega
      have b4 : q4 < 256 := by omega
      have e1 : (X : Int) / 16777216 = (q1 : Int) := by omega
      have e2 : (X : Int) / 65536 % 256 = (q2 : Int) := by omega
      have e3 : (X : Int) / 256 % 256 = (q3 : Int) := by omega
      have e4 : (X : Int) % 256 = (q4 : Int) := by omega
      have HB1 : Hid (∀ w, Calls Tryz.prog 25 #[.int .i64 (q1 : Int)] w fun e w' => e = .returned (.string (S [UInt8.ofNat q1])) ∧ Below w.heap.size w w') := Lib.hid fun w => by have := byte_any (q1 : Int) w (by omega); simpa using this
      have HB2 : Hid (∀ w, Calls Tryz.prog 25 #[.int .i64 (q2 : Int)] w fun e w' => e = .returned (.string (S [UInt8.ofNat q2])) ∧ Below w.heap.size w w') := Lib.hid fun w => by have := byte_any (q2 : Int) w (by omega); simpa using this
      have HB3 : Hid (∀ w, Calls Tryz.prog 25 #[.int .i64 (q3 : Int)] w fun e w' => e = .returned (.string (S [UInt8.ofNat q3])) ∧ Below w.heap.size w w') := Lib.hid fun w => by have := byte_any (q3 : Int) w (by omega); simpa using this
      have HB4 : Hid (∀ w, Calls Tryz.prog 25 #[.int .i64 (q4 : Int)] w fun e w' => e = .returned (.string (S [UInt8.ofNat q4])) ∧ Below w.heap.size w w') := Lib.hid fun w => by have := byte_any (q4 : Int) w (by omega); simpa using this
      have HX : Hid (∀ w, Calls Tryz.prog 27 #[.string (S [UInt8.ofNat q1] ++ S [UInt8.ofNat q2] ++ S [UInt8.ofNat q3] ++ S [UInt8.ofNat q4])] w fun e w' => e = .returned (.string (S (Crc.hex8 X))) ∧ Below w.heap.size w w') := Lib.hid fun w => by
        have h := refHex_any (S [UInt8.ofNat q1] ++ S [UInt8.ofNat q2] ++ S [UInt8.ofNat q3] ++ S [UInt8.ofNat q4]) w (by simp only [S_app, S_size]; simp)
        simp only [S_app, S_list] at h ⊢
        rwa [HH.out] at h
      have z1 : (S [UInt8.ofNat q1]).size = 1 := rfl
      have z2 : (S [UInt8.ofNat q2]).size = 1 := rfl
      have z3 : (S [UInt8.ofNat q3]).size = 1 := rfl
      have z4 : (S [UInt8.ofNat q4]).size = 1 := rfl
      have z5 : (S [UInt8.ofNat q1] ++ S [UInt8.ofNat q2]).size = 2 := by rw [ByteArray.size_append]; omega
      have z6 : (S [UInt8.ofNat q1] ++ S [UInt8.ofNat q2] ++ S [UInt8.ofNat q3]).size = 3 := by rw [ByteArray.size_append]; omega
      clear HH hq1 hq2 hq3 hq4 hX hlt hc HE
      go_wp2_with (first | (go_at_call 25; refine (HB1.out _).mono ?_; rintro e w1 ⟨rfl, hb1⟩; have HW1 := Lib.hid hb1; clear hb1 HB1) | (go_at_call 25; refine (HB2.out _).mono ?_; rintro e w2 ⟨rfl, hb2⟩; have HW2 := Lib.hid (HW1.out.trans (hb2.mono HW1.out.size)); clear hb2 HB2) | (go_at_call 25; refine (HB3.out _).mono ?_; rintro e w3 ⟨rfl, hb3⟩; have HW3 := Lib.hid (HW2.out.trans (hb3.mono HW2.out.size)); clear hb3 HB3) | (go_at_call 25; refine (HB4.out _).mono ?_; rintro e w4 ⟨rfl, hb4⟩; have HW4 := Lib.hid (HW3.out.trans (hb4.mono HW3.out.size)); clear hb4 HB4) | (go_at_call 27; refine (HX.out _).mono ?_; rintro e w5 ⟨rfl, hb5⟩; have HW5 := Lib.hid (HW4.out.trans (hb5.mono HW4.out.size)); clear hb5 HX))
      go_ret
      exact ⟨by rw [HSum.out]; rfl, HW5.out⟩
theorem mrecord_any (s : ByteArray) (w : World) (hs : s.size ≤ 1000000) :
    Calls Tryz.prog 11 #[.string s] w fun e w' => e = .returned (.string (S (recL s.data.toList))) ∧ Below w.heap.size w w' := by
  have H : Hid (Calls Tryz.prog 24 #[.string s] w fun e w' => e = .returned (.string (S (sumL s.data.toList))) ∧ Below w.heap.size w w') := Lib.hid (mcrc_any s w hs)
  have h8 : (S (sumL s.data.toList)).size = 8 := rfl
  have hs1 : (⟨#[35]⟩ : ByteArray).size = 1 := rfl
  have hs2 : (⟨#[10]⟩ : ByteArray).size = 1 := rfl
  have z1 : (s ++ (⟨#[35]⟩ : ByteArray)).size ≤ 1000001 := by rw [ByteArray.size_append]; omega
  have z2 : (s ++ (⟨#[35]⟩ : ByteArray) ++ S (sumL s.data.toList)).size ≤ 1000009 := by rw [ByteArray.size_append]; omega
  have HR : Hid (s ++ (⟨#[35]⟩ : ByteArray) ++ S (sumL s.data.toList) ++ (⟨#[10]⟩ : ByteArray) = S (recL s.data.toList)) := Lib.hid (by
    have e1 : s = S s.data.toList := rfl
    conv => lhs; rw [e1]
    show S _ ++ S [35] ++ S _ ++ S [10] = _
    rw [S_app, S_app, S_app]
    simp [recL, S_list])
  generalize sumL s.data.toList = sl at H h8 z2 HR
  go_enter Tryz.func11, Tryz.ntmps11
  go_wp2_with (go_at_call 24; refine H.out.mono ?_; rintro e w' ⟨rfl, hb⟩; have HB := Lib.hid hb; clear hb)
  go_ret
  refine ⟨?_, HB.out⟩
  rw [← HR.out]
  rfl
end Go.Proofs.YtbncfpljiihmnaaGreatDoor
