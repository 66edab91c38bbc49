/- Keys of marks: a number and a name; their order; package cmp's functions. -/
import Derived.Test.YtneggbhjekklhaaDoorBase
import Derived.Sort.Statements
namespace Go.Proofs.YtneggbhjekklhaaDoor
open Go Go.RowKit Go.Sort
set_option linter.unusedVariables false
set_option linter.unusedSimpArgs false
set_option maxHeartbeats 1000000
set_option maxRecDepth 100000

theorem u8_tri (a b : UInt8) : a < b ∨ a = b ∨ b < a := by
  have h := UInt8.toNat_inj (a := a) (b := b)
  rw [UInt8.lt_iff_toNat_lt, UInt8.lt_iff_toNat_lt, ← h]
  omega
theorem bl_cons (a b : UInt8) (x y : List UInt8) : Op.bytesLess (a :: x) (b :: y) = true ↔ a < b ∨ a = b ∧ Op.bytesLess x y = true := by
  rw [Op.bytesLess]
  by_cases h : a < b <;> by_cases h2 : a = b <;> simp [h, h2]
theorem bl_irrefl : ∀ x : List UInt8, Op.bytesLess x x = false
  | [] => by simp [Op.bytesLess]
  | a :: x => by
    have h := bl_irrefl x
    cases hh : Op.bytesLess (a :: x) (a :: x) with
    | false => rfl
    | true =>
      rcases (bl_cons a a x x).1 hh with h1 | ⟨_, h1⟩
      · rw [UInt8.lt_iff_toNat_lt] at h1; omega
      · rw [h] at h1; cases h1
theorem bl_trans : ∀ x y z : List UInt8, Op.bytesLess x y = true → Op.bytesLess y z = true → Op.bytesLess x z = true
  | _, _, [], _, h => by rename_i y _; cases y <;> simp [Op.bytesLess] at h
  | [], _, _ :: _, _, _ => by simp [Op.bytesLess]
  | _ :: _, [], _ :: _, h, _ => by simp [Op.bytesLess] at h
  | a :: x, b :: y, c :: z, h1, h2 => by
    rw [bl_cons] at h1 h2 ⊢
    rw [UInt8.lt_iff_toNat_lt, ← UInt8.toNat_inj] at h1 h2 ⊢
    rcases h1 with h1 | ⟨e1, h1⟩
    · rcases h2 with h2 | ⟨e2, h2⟩
      · exact .inl (by omega)
      · exact .inl (by omega)
    · rcases h2 with h2 | ⟨e2, h2⟩
      · exact .inl (by omega)
      · exact .inr ⟨by omega, bl_trans x y z h1 h2⟩
theorem bl_tri : ∀ x y : List UInt8, Op.bytesLess x y = false → Op.bytesLess y x = false → x = y
  | [], [], _, _ => rfl
  | [], _ :: _, h, _ => by simp [Op.bytesLess] at h
  | _ :: _, [], _, h => by simp [Op.bytesLess] at h
  | a :: x, b :: y, h1, h2 => by
    have n1 : ¬ (a < b ∨ a = b ∧ Op.bytesLess x y = true) := fun h => by rw [(bl_cons a b x y).2 h] at h1; cases h1
    have n2 : ¬ (b < a ∨ b = a ∧ Op.bytesLess y x = true) := fun h => by rw [(bl_cons b a y x).2 h] at h2; cases h2
    rcases u8_tri a b with h | h | h
    · exact absurd (.inl h) n1
    · subst h
      rw [bl_tri x y (by cases hh : Op.bytesLess x y with | false => rfl | true => exact absurd (.inr ⟨rfl, hh⟩) n1) (by cases hh : Op.bytesLess y x with | false => rfl | true => exact absurd (.inr ⟨rfl, hh⟩) n2)]
    · exact absurd (.inl h) n2
/-- a text ahead of another one -/
def sLt (s t : ByteArray) : Bool := Op.bytesLess s.toList t.toList
theorem sLt_irrefl (s : ByteArray) : sLt s s = false := bl_irrefl _
theorem sLt_trans {s t u : ByteArray} (h : sLt s t = true) (h' : sLt t u = true) : sLt s u = true := bl_trans _ _ _ h h'
theorem toList_inj {s t : ByteArray} (h : s.toList = t.toList) : s = t := by
  rw [ByteArray.toList_eq, ByteArray.toList_eq] at h
  exact ByteArray.ext (Array.toList_inj.1 h)
theorem sLt_tri {s t : ByteArray} (h : sLt s t = false) (h' : sLt t s = false) : s = t := toList_inj (bl_tri _ _ h h')
theorem sLt_asymm {s t : ByteArray} (h : sLt s t = true) : sLt t s = false := by
  cases h' : sLt t s with
  | false => rfl
  | true => have := sLt_trans h h'; rw [sLt_irrefl] at this; cases this

abbrev KeyT := Int × ByteArray
def keyV (x : KeyT) : Value := .agg #[.int .i64 x.1, .string x.2]
theorem keyV_inj (x y : KeyT) (h : keyV x = keyV y) : x = y := by
  simp [keyV] at h
  exact Prod.ext h.1 h.2
def kLt (x y : KeyT) : Bool := decide (x.1 < y.1) || (decide (x.1 = y.1) && sLt x.2 y.2)
theorem kLt_iff (x y : KeyT) : kLt x y = true ↔ x.1 < y.1 ∨ x.1 = y.1 ∧ sLt x.2 y.2 = true := by simp [kLt]
theorem kLt_irrefl (x : KeyT) : kLt x x = false := by
  cases h : kLt x x with
  | false => rfl
  | true =>
    rcases (kLt_iff x x).1 h with h | ⟨_, h⟩
    · omega
    · rw [sLt_irrefl] at h; cases h
theorem kLt_trans {x y z : KeyT} (h : kLt x y = true) (h' : kLt y z = true) : kLt x z = true := by
  rw [kLt_iff] at h h' ⊢
  rcases h with h | ⟨e, h⟩ <;> rcases h' with h' | ⟨e', h'⟩
  · exact .inl (by omega)
  · exact .inl (by omega)
  · exact .inl (by omega)
  · exact .inr ⟨by omega, sLt_trans h h'⟩
theorem kLt_tri {x y : KeyT} (h : kLt x y = false) (h' : kLt y x = false) : x = y := by
  have n1 : ¬ (x.1 < y.1 ∨ x.1 = y.1 ∧ sLt x.2 y.2 = true) := fun e => by rw [(kLt_iff x y).2 e] at h; cases h
  have n2 : ¬ (y.1 < x.1 ∨ y.1 = x.1 ∧ sLt y.2 x.2 = true) := fun e => by rw [(kLt_iff y x).2 e] at h'; cases h'
  have e1 : x.1 = y.1 := by omega
  refine Prod.ext e1 (sLt_tri ?_ ?_)
  · cases hh : sLt x.2 y.2 with
    | false => rfl
    | true => exact absurd (.inr ⟨e1, hh⟩) n1
  · cases hh : sLt y.2 x.2 with
    | false => rfl
    | true => exact absurd (.inr ⟨e1.symm, hh⟩) n2
theorem kLt_asymm {x y : KeyT} (h : kLt x y = true) : kLt y x = false := by
  cases h' : kLt y x with
  | false => rfl
  | true => have := kLt_trans h h'; rw [kLt_irrefl] at this; cases this
theorem swo_kLt : SWO kLt where
  irrefl := kLt_irrefl
  trans x y z h1 h2 := kLt_trans h1 h2
  ntrans x y z h1 h2 := by
    cases h : kLt x z with
    | false => rfl
    | true =>
      cases h3 : kLt y x with
      | true => have := kLt_trans h3 h; rw [h2] at this; cases this
      | false =>
        have := kLt_tri h1 h3
        subst this
        rw [h2] at h; cases h
/-- compared -/
def kCmp (x y : KeyT) : Int := if kLt x y = true then -1 else if kLt y x = true then 1 else 0
def iCmp (x y : Int) : Int := if x < y then -1 else if y < x then 1 else 0
def sCmp (x y : ByteArray) : Int := if sLt x y = true then -1 else if sLt y x = true then 1 else 0
theorem kCmp_eq (x y : KeyT) : kCmp x y = if iCmp x.1 y.1 = 0 then sCmp x.2 y.2 else iCmp x.1 y.1 := by
  unfold kCmp iCmp sCmp
  rcases Int.lt_trichotomy x.1 y.1 with h | h | h
  · rw [if_pos ((kLt_iff x y).2 (.inl h)), if_pos h, if_neg (by omega)]
  · have e1 : kLt x y = sLt x.2 y.2 := by unfold kLt; simp [h]
    have e2 : kLt y x = sLt y.2 x.2 := by unfold kLt; simp [h]
    rw [e1, e2, if_neg (show ¬ x.1 < y.1 by omega), if_neg (show ¬ y.1 < x.1 by omega), if_pos rfl]
  · rw [if_neg (by rw [kLt_iff]; omega), if_pos ((kLt_iff y x).2 (.inl h)), if_neg (show ¬ x.1 < y.1 by omega), if_pos h, if_neg (by omega)]

theorem nanI_any (x : Int) (w : World) : Calls Tryd.prog 76 #[.int .i64 x] w fun e w' => e = .returned (.bool false) ∧ w' = w := by
  go_enter Tryd.func76, Tryd.ntmps76
  go_wp2
  go_ret
  exact ⟨by simp, rfl⟩
theorem nanS_any (s : ByteArray) (w : World) : Calls Tryd.prog 77 #[.string s] w fun e w' => e = .returned (.bool false) ∧ w' = w := by
  go_enter Tryd.func77, Tryd.ntmps77
  go_wp2
  go_ret
  exact ⟨by simp, rfl⟩
theorem cmpI_any (x y : Int) (w : World) : Calls Tryd.prog 43 #[.int .i64 x, .int .i64 y] w fun e w' => e = .returned (.int .i64 (iCmp x y)) ∧ w' = w := by
  have HN := Lib.hid nanI_any
  rcases Int.lt_trichotomy x y with h | h | h
  · have e : iCmp x y = -1 := by rw [iCmp, if_pos h]
    rw [e]
    go_enter Tryd.func43, Tryd.ntmps43
    go_wp2_with (go_at_call 76; refine (HN.out _ _).mono ?_; rintro e w1 ⟨rfl, rfl⟩)
    go_ret
    exact ⟨rfl, rfl⟩
  · have e : iCmp x y = 0 := by rw [iCmp, if_neg (by omega), if_neg (by omega)]
    have n1 : ¬ x < y := by omega
    have n2 : ¬ y < x := by omega
    rw [e]
    go_enter Tryd.func43, Tryd.ntmps43
    go_wp2_with (go_at_call 76; refine (HN.out _ _).mono ?_; rintro e w1 ⟨rfl, rfl⟩)
    go_ret
    exact ⟨rfl, rfl⟩
  · have e : iCmp x y = 1 := by rw [iCmp, if_neg (by omega), if_pos h]
    have n1 : ¬ x < y := by omega
    rw [e]
    go_enter Tryd.func43, Tryd.ntmps43
    go_wp2_with (go_at_call 76; refine (HN.out _ _).mono ?_; rintro e w1 ⟨rfl, rfl⟩)
    go_ret
    exact ⟨rfl, rfl⟩
theorem cmpS_any (x y : ByteArray) (w : World) : Calls Tryd.prog 44 #[.string x, .string y] w fun e w' => e = .returned (.int .i64 (sCmp x y)) ∧ w' = w := by
  have HN := Lib.hid nanS_any
  cases h1 : sLt x y with
  | true =>
    have e : sCmp x y = -1 := by rw [sCmp, if_pos h1]
    have h2 : Op.bytesLess x.toList y.toList = true := h1
    rw [e]
    clear h1
    go_enter Tryd.func44, Tryd.ntmps44
    go_wp2_with (go_at_call 77; refine (HN.out _ _).mono ?_; rintro e w1 ⟨rfl, rfl⟩)
    go_ret
    exact ⟨rfl, rfl⟩
  | false =>
    have h2 : Op.bytesLess x.toList y.toList = false := h1
    cases h3 : sLt y x with
    | true =>
      have e : sCmp x y = 1 := by rw [sCmp, if_neg (by rw [h1]; simp), if_pos h3]
      have h4 : (x.toList == y.toList) = false := by
        rw [beq_eq_false_iff_ne]
        intro e
        rw [toList_inj e, sLt_irrefl] at h3
        cases h3
      rw [e]
      clear h1 h3
      go_enter Tryd.func44, Tryd.ntmps44
      go_wp2_with (go_at_call 77; refine (HN.out _ _).mono ?_; rintro e w1 ⟨rfl, rfl⟩)
      go_ret
      exact ⟨rfl, rfl⟩
    | false =>
      have e : sCmp x y = 0 := by rw [sCmp, if_neg (by rw [h1]; simp), if_neg (by rw [h3]; simp)]
      have h4 : (x.toList == y.toList) = true := by
        rw [beq_iff_eq, sLt_tri h1 h3]
      rw [e]
      clear h1 h3
      go_enter Tryd.func44, Tryd.ntmps44
      go_wp2_with (go_at_call 77; refine (HN.out _ _).mono ?_; rintro e w1 ⟨rfl, rfl⟩)
      go_ret
      exact ⟨rfl, rfl⟩
theorem orI_any (g : Nat) (x y : Int) (w : World) (h0 : w.cell? ⟨g, 0, none⟩ = some (.int .i64 x)) (h1 : w.cell? ⟨g, 1, none⟩ = some (.int .i64 y)) (cap : Nat) :
    Calls Tryd.prog 42 #[.slice (some ⟨g, 0, none⟩) 2 cap] w fun e w' => e = .returned (.int .i64 (if x = 0 then y else x)) ∧ w' = w := by
  by_cases hx : x = 0
  · subst hx
    rw [if_pos rfl]
    by_cases hy : y = 0
    · subst hy
      go_enter Tryd.func42, Tryd.ntmps42
      go_wp2_with fail
      refine wp_loop_rounds 3 ?_
      rw [rounds_succ]
      go_wp2_with fail
      rw [rounds_succ]
      go_wp2_with fail
      rw [rounds_succ]
      go_wp2_with fail
      go_ret
      exact ⟨rfl, rfl⟩
    · have hy2 : (y != 0) = true := by simpa using hy
      go_enter Tryd.func42, Tryd.ntmps42
      go_wp2_with fail
      refine wp_loop_rounds 3 ?_
      rw [rounds_succ]
      go_wp2_with fail
      rw [rounds_succ]
      go_wp2_with fail
      go_ret
      exact ⟨rfl, rfl⟩
  · have hx2 : (x != 0) = true := by simpa using hx
    rw [if_neg hx]
    go_enter Tryd.func42, Tryd.ntmps42
    go_wp2_with fail
    refine wp_loop_rounds 3 ?_
    rw [rounds_succ]
    go_wp2_with fail
    go_ret
    exact ⟨rfl, rfl⟩
end Go.Proofs.YtneggbhjekklhaaDoor
