/- The document's NumberOf. -/
import Derived.Test.YtbncfpljiihmnaaGreatDoorCut
namespace Go.Proofs.YtbncfpljiihmnaaGreatDoor
open Go Go.RowKit
set_option linter.unusedVariables false
set_option linter.unusedSimpArgs false
set_option maxHeartbeats 4000000
set_option maxRecDepth 100000

open Num in
theorem numOf_short {l : List UInt8} {most : Nat} (h : l.length < 1) : numOf l most = -1 := by unfold numOf; rw [if_pos (.inl h)]
open Num in
theorem numOf_long {l : List UInt8} {most : Nat} (h : most < l.length) : numOf l most = -1 := by unfold numOf; rw [if_pos (.inr (.inl h))]
open Num in
theorem numOf_zero {l : List UInt8} {most : Nat} (h : 1 < l.length) (h0 : l[0]? = some 48) : numOf l most = -1 := by unfold numOf; rw [if_pos (.inr (.inr ⟨h, by rw [List.head?_eq_getElem?]; exact h0⟩))]
open Num in
theorem numOf_bad {l : List UInt8} {most : Nat} {i : Nat} {c : UInt8} (hc : l[i]? = some c) (hd : isDig c = false) : numOf l most = -1 := by
  unfold numOf
  split
  · rfl
  · rw [if_neg]
    intro h
    have := List.all_eq_true.1 h c (List.mem_of_getElem? hc)
    rw [hd] at this
    cases this
open Num in
theorem numOf_good {l : List UInt8} {most : Nat} (h1 : 1 ≤ l.length) (h2 : l.length ≤ most) (h3 : ¬ (1 < l.length ∧ l[0]? = some 48)) (h : l.all isDig = true) : numOf l most = digVal 0 l := by
  unfold numOf
  rw [if_neg (by rw [List.head?_eq_getElem?]; rintro (h | h | h) <;> first | omega | exact h3 h), if_pos h]
open Num in
theorem digVal_snoc (l : List UInt8) (c : UInt8) (a : Nat) : digVal a (l ++ [c]) = 10 * digVal a l + (c.toNat - 48) := by
  rw [digVal_append, digVal_cons, digVal_nil]

open Num in
/-- what has been read of a numeral -/
structure NSt (l : List UInt8) (i : Nat) (v : Value) : Prop where
  all : (l.take i).all isDig = true
  eq : v = .int .i64 (digVal 0 (l.take i))

open Num in
theorem numberOf_any (s : ByteArray) (most : Nat) (w : World) (hs : s.size ≤ 100000) (hm : most ≤ 18) :
    Calls Tryz.prog 53 #[.string s, .int .i64 most] w fun e w' => e = .returned (.int .i64 (numOf s.data.toList most)) ∧ w' = w := by
  have hl : s.data.toList.length = s.size := rfl
  by_cases h1 : s.size < 1
  · have H := Lib.hid (numOf_short (most := most) (by rw [hl]; exact h1) : numOf s.data.toList most = -1)
    clear hl
    go_enter Tryz.func53, Tryz.ntmps53
    go_wp2_with fail
    go_ret
    exact ⟨ret_int H.out.symm, rfl⟩
  by_cases h2 : most < s.size
  · have H := Lib.hid (numOf_long (most := most) (by rw [hl]; exact h2) : numOf s.data.toList most = -1)
    clear hl
    go_enter Tryz.func53, Tryz.ntmps53
    go_wp2_with fail
    go_ret
    exact ⟨ret_int H.out.symm, rfl⟩
  have h30 : 0 < s.size := by omega
  by_cases h3 : 1 < s.size ∧ s.data.toList[0]? = some 48
  · have H := Lib.hid (numOf_zero (most := most) (by rw [hl]; exact h3.1) h3.2 : numOf s.data.toList most = -1)
    have h31 : 1 < s.size := h3.1
    have h32 : (((s[0]'h30).toNat : Int) == 48) = true := by
      have := byte_at s 0 h30
      rw [h3.2] at this
      rw [← Option.some.inj this]
      rfl
    clear hl h3
    go_enter Tryz.func53, Tryz.ntmps53
    go_wp2_with fail
    go_ret
    exact ⟨ret_int H.out.symm, rfl⟩
  have h0 : ¬ 1 < s.size ∨ (1 < s.size ∧ (((s[0]'h30).toNat : Int) == 48) = false) := by
    by_cases e : s.size = 1
    · exact .inl (by omega)
    · refine .inr ⟨by omega, ?_⟩
      rw [beq_eq_false_iff_ne]
      intro e2
      refine h3 ⟨by omega, ?_⟩
      rw [byte_at s 0 h30]
      exact congrArg some (UInt8.toNat_inj.1 (by show _ = 48; omega))
  have H3 := Lib.hid h3
  have HL := Lib.hid hl
  clear h3 hl
  have hn1 : 1 ≤ s.size := by omega
  have hn2 : s.size ≤ most := by omega
  clear h1 h2
  have d1 : decide ((s.size : Int) < 1) = false := by simp; omega
  have d2 : decide (most < s.size) = false := by simp; omega
  rcases h0 with hx | ⟨hx, hx2⟩
  all_goals
    go_enter Tryz.func53, Tryz.ntmps53
    go_wp2_with fail
    go_loop [5, 6] (fun v5 v6 => ∃ i : Nat, i ≤ s.size ∧ v6 = .int .i64 i ∧ NSt s.data.toList i v5) (fun _ v6 => s.size - (intOf v6).toNat)
    case atStart => exact ⟨0, by omega, rfl, rfl, rfl⟩
    case round =>
      obtain ⟨i, hi, rfl, hall, rfl⟩ := hrel
      have HA := Lib.hid hall
      by_cases hlt : i < s.size
      · have hb : digVal 0 (s.data.toList.take i) < 100000000000000000 := by
          have := digVal_lt (s.data.toList.take i) 0 hall
          have h3 : 10 ^ (s.data.toList.take i).length ≤ 10 ^ 17 := Nat.pow_le_pow_right (by omega) (by rw [List.length_take]; omega)
          omega
        clear hall
        have hat := byte_at s i hlt
        have hts : s.data.toList.take (i + 1) = s.data.toList.take i ++ [s[i]] := by rw [List.take_add_one, hat]; rfl
        by_cases hd : isDig s[i] = true
        · have hd1 : 48 ≤ (s[i].toNat : Int) ∧ (s[i].toNat : Int) ≤ 57 := by
            have := of_decide_eq_true hd
            omega
          have hd2 := hd1.1
          have hd3 := hd1.2
          have HS : Hid ((s.data.toList.take (i + 1)).all isDig = true ∧ digVal 0 (s.data.toList.take (i + 1)) = 10 * digVal 0 (s.data.toList.take i) + (s[i].toNat - 48)) := by
            rw [hts, digVal_snoc, List.all_append, HA.out]
            exact ⟨by simp [hd], rfl⟩
          clear hts hat hd hd1
          go_wp2_with fail
          go_round
          case rel => exact ⟨i + 1, by omega, by go_num, HS.out.1, by rw [HS.out.2]; refine congrArg (Value.int .i64) ?_; omega⟩
          case measure => simp [intOf]; omega
        · have hd0 : isDig s[i] = false := by simpa using hd
          have H := Lib.hid (numOf_bad (most := most) hat hd0)
          have hd1 : (s[i].toNat : Int) < 48 ∨ (¬ (s[i].toNat : Int) < 48 ∧ 57 < (s[i].toNat : Int)) := by
            have := of_decide_eq_false hd0
            omega
          clear hts hat hd hd0
          rcases hd1 with hd1 | ⟨hd1, hd2⟩
          all_goals
            go_wp2_with fail
            go_ret
            exact ⟨ret_int H.out.symm, rfl⟩
      · have hie : i = s.size := by omega
        have hge : ¬ i < s.size := hlt
        have H : Hid (numOf s.data.toList most = digVal 0 (s.data.toList.take i)) := by
          have h4 := HA.out
          rw [hie, ← HL.out, List.take_length] at h4 ⊢
          exact numOf_good (by rw [HL.out]; exact hn1) (by rw [HL.out]; exact hn2) (by rw [HL.out]; exact H3.out) h4
        clear hie hlt hall
        go_wp2_with fail
        go_ret
        exact ⟨ret_int H.out.symm, rfl⟩
end Go.Proofs.YtbncfpljiihmnaaGreatDoor
