/- Vectors: tame, Order, Lacks. -/
import Derived.Test.YthlojjknpfijmaaGreatDoorCovers
import Derived.Test.YthlojjknpfijmaaGreatDoorStr
import Derived.LoopN
namespace Go.Proofs.YthlojjknpfijmaaGreatDoor
open Go Go.RowKit
set_option linter.unusedVariables false
set_option linter.unusedSimpArgs false
set_option maxHeartbeats 4000000
set_option maxRecDepth 100000

def tameB (a b c d : Int) : Bool := decide ((-1099511627776 ≤ a ∧ a ≤ 1099511627776) ∧ (-1099511627776 ≤ b ∧ b ≤ 1099511627776) ∧ (-1099511627776 ≤ c ∧ c ≤ 1099511627776) ∧ (-1099511627776 ≤ d ∧ d ≤ 1099511627776))


theorem tame_any (a b c d : Int) (w : World) :
    Calls Tryz.prog 6 #[vecV a b c d] w fun r w' => r = .returned (.bool (tameB a b c d)) ∧ Below w.heap.size w w' := by
  go_enter Tryz.func6, Tryz.ntmps6
  go_wp2_with fail
  refine wp_loop_rounds 5 ?_
  rw [rounds_succ]
  go_wp2_with fail
  any_goals (rw [rounds_succ]; go_wp2_with fail)
  any_goals (rw [rounds_succ]; go_wp2_with fail)
  any_goals (rw [rounds_succ]; go_wp2_with fail)
  any_goals (rw [rounds_succ]; go_wp2_with fail)
  all_goals
    go_ret
    refine ⟨ret_bool ?_, (Below.refl _ _).alloc (Nat.le_refl _) _⟩
    unfold tameB
    first | (symm; rw [decide_eq_false_iff_not]; omega) | (symm; rw [decide_eq_true_iff]; omega)

def ordV (a b c d e f g h : Int) : Int := if a = e ∧ b = f ∧ c = g ∧ d = h then 0 else if e ≤ a ∧ f ≤ b ∧ g ≤ c ∧ h ≤ d then 1 else if a ≤ e ∧ b ≤ f ∧ c ≤ g ∧ d ≤ h then -1 else 2
def coversB (a b c d e f g h : Int) : Bool := decide (e ≤ a ∧ f ≤ b ∧ g ≤ c ∧ h ≤ d)
theorem covers_b (x : Bool) (a b c d e f g h : Int) (w : World) (hx : coversB a b c d e f g h = x) :
    Calls Tryz.prog 8 #[vecV a b c d, vecV e f g h] w fun r w' => r = .returned (.bool x) ∧ Below w.heap.size w w' := by
  subst hx
  exact covers_any a b c d e f g h w

theorem order_any (a b c d e f g h : Int) (w : World) :
    Calls Tryz.prog 9 #[vecV a b c d, vecV e f g h] w fun r w' => r = .returned (.int .i64 (ordV a b c d e f g h)) ∧ Below w.heap.size w w' := by
  by_cases h0 : a = e ∧ b = f ∧ c = g ∧ d = h
  · have H : Hid (ordV a b c d e f g h = 0) := Lib.hid (by unfold ordV; rw [if_pos h0])
    obtain ⟨rfl, rfl, rfl, rfl⟩ := h0
    go_enter Tryz.func9, Tryz.ntmps9
    go_wp2_with fail
    go_ret
    exact ⟨ret_int H.out.symm, ((Below.refl _ _).alloc (Nat.le_refl _) _).alloc (by simp) _⟩
  · have K0 : (((a == e) = false ∨ (b == f) = false) ∨ (c == g) = false) ∨ (d == h) = false := by simp; omega
    have K1 := Lib.hid h0
    clear h0
    by_cases h1 : coversB a b c d e f g h = true
    · have H : Hid (ordV a b c d e f g h = 1) := Lib.hid (by unfold ordV; rw [if_neg K1.out, if_pos (of_decide_eq_true h1)])
      have H1 := Lib.hid h1
      clear h1
      go_enter Tryz.func9, Tryz.ntmps9
      go_wp2_with fail
      · exact absurd (by simp_all) K1.out
      refine (covers_b true a b c d e f g h _ H1.out).mono ?_
      rintro r w1 ⟨rfl, hb⟩
      go_wp2_with fail
      go_ret
      exact ⟨ret_int H.out.symm, ((Below.refl _ w).alloc (Nat.le_refl _) _).alloc (by simp) _ |>.trans (hb.mono (by simp; omega))⟩
    · have h1' : coversB a b c d e f g h = false := by simpa using h1
      by_cases h2 : coversB e f g h a b c d = true
      · have H : Hid (ordV a b c d e f g h = -1) := Lib.hid (by unfold ordV; rw [if_neg K1.out, if_neg (of_decide_eq_false h1'), if_pos (of_decide_eq_true h2)])
        have H1 := Lib.hid h1'
        have H2 := Lib.hid h2
        clear h1 h1' h2
        go_enter Tryz.func9, Tryz.ntmps9
        go_wp2_with fail
        · exact absurd (by simp_all) K1.out
        refine (covers_b false a b c d e f g h _ H1.out).mono ?_
        rintro r w1 ⟨rfl, hb⟩
        obtain ⟨hc, hf⟩ := bcell hb
        have hb0 := (((Below.refl _ w).alloc (Nat.le_refl _) (.cells #[.int .i64 a, .int .i64 b, .int .i64 c, .int .i64 d] 25)).alloc (by simp) (.cells #[.int .i64 e, .int .i64 f, .int .i64 g, .int .i64 h] 25)).trans (hb.mono (by simp; omega))
        clear hb
        go_wp2_with fail
        refine (covers_b true e f g h a b c d _ H2.out).mono ?_
        rintro r w2 ⟨rfl, hb2⟩
        go_wp2_with fail
        go_ret
        exact ⟨ret_int H.out.symm, hb0.trans (hb2.mono hb0.size)⟩
      · have h2' : coversB e f g h a b c d = false := by simpa using h2
        have H : Hid (ordV a b c d e f g h = 2) := Lib.hid (by unfold ordV; rw [if_neg K1.out, if_neg (of_decide_eq_false h1'), if_neg (of_decide_eq_false h2')])
        have H1 := Lib.hid h1'
        have H2 := Lib.hid h2'
        clear h1 h1' h2 h2'
        go_enter Tryz.func9, Tryz.ntmps9
        go_wp2_with fail
        · exact absurd (by simp_all) K1.out
        refine (covers_b false a b c d e f g h _ H1.out).mono ?_
        rintro r w1 ⟨rfl, hb⟩
        obtain ⟨hc, hf⟩ := bcell hb
        have hb0 := (((Below.refl _ w).alloc (Nat.le_refl _) (.cells #[.int .i64 a, .int .i64 b, .int .i64 c, .int .i64 d] 25)).alloc (by simp) (.cells #[.int .i64 e, .int .i64 f, .int .i64 g, .int .i64 h] 25)).trans (hb.mono (by simp; omega))
        clear hb
        go_wp2_with fail
        refine (covers_b false e f g h a b c d _ H2.out).mono ?_
        rintro r w2 ⟨rfl, hb2⟩
        go_wp2_with fail
        go_ret
        exact ⟨ret_int H.out.symm, hb0.trans (hb2.mono hb0.size)⟩

/-- the numbers of a vector by their places -/
def nth (a b c d : Int) : Nat → Int | 0 => a | 1 => b | 2 => c | _ => d
def lk (x y : Nat → Int) : Nat → Int | 0 => 0 | j + 1 => lk x y j + max 0 (y j - x j)
theorem lk_bd (x y : Nat → Int) (h : ∀ j, max 0 (y j - x j) ≤ 2199023255552) : ∀ j : Nat, 0 ≤ lk x y j ∧ lk x y j ≤ 2199023255552 * j
  | 0 => by simp [lk]
  | j + 1 => by
    have := lk_bd x y h j
    have := h j
    simp only [lk]
    omega

structure LSt (w0 : World) (B : Nat) (x y : Nat → Int) (w : World) : Prop where
  c0 : ∀ j, j < 4 → w.cell? ⟨B, j, none⟩ = some (.int .i64 (x j))
  c1 : ∀ j, j < 4 → w.cell? ⟨B + 1, j, none⟩ = some (.int .i64 (y j))
  bel : Below w0.heap.size w0 w
theorem LSt.drew {w0 : World} {B : Nat} {x y : Nat → Int} {w : World} (h : LSt w0 B x y w) : LSt w0 B x y w.drew := ⟨h.c0, h.c1, h.bel.drew⟩

theorem lacks_go (x y : Nat → Int) (w0 w : World) (hx : ∀ j, -1099511627776 ≤ x j ∧ x j ≤ 1099511627776) (hy : ∀ j, -1099511627776 ≤ y j ∧ y j ≤ 1099511627776) :
    Calls Tryz.prog 10 #[vecV (x 0) (x 1) (x 2) (x 3), vecV (y 0) (y 1) (y 2) (y 3)] w fun r w' => r = .returned (.int .i64 (lk x y 4)) ∧ Below w.heap.size w w' := by
  have HX := Lib.hid hx
  have HY := Lib.hid hy
  clear hx hy
  go_enter Tryz.func10, Tryz.ntmps10
  go_wp2_with fail
  obtain ⟨W, hW⟩ : ∃ W, W = ((w.alloc (.cells #[.int .i64 (x 0), .int .i64 (x 1), .int .i64 (x 2), .int .i64 (x 3)] 25)).alloc (.cells #[.int .i64 (y 0), .int .i64 (y 1), .int .i64 (y 2), .int .i64 (y 3)] 25)) := ⟨_, rfl⟩
  have hS : LSt w w.heap.size x y W := by
    subst hW
    refine ⟨?_, ?_, ((Below.refl _ w).alloc (Nat.le_refl _) _).alloc (by simp) _⟩
    · intro j hj
      match j, hj with
      | 0, _ => simp [go_sem]
      | 1, _ => simp [go_sem]
      | 2, _ => simp [go_sem]
      | 3, _ => simp [go_sem]
    · intro j hj
      match j, hj with
      | 0, _ => simp [go_sem]
      | 1, _ => simp [go_sem]
      | 2, _ => simp [go_sem]
      | 3, _ => simp [go_sem]
  rw [← hW]
  clear hW
  have HS := Lib.hid hS
  clear hS
  go_loopw [5, 7] (fun v5 v7 wr => ∃ j : Nat, j ≤ 4 ∧ v7 = .int .i64 j ∧ v5 = .int .i64 (lk x y j) ∧ LSt w w.heap.size x y wr) (fun _ v7 _ => 4 - (intOf v7).toNat)
  case atStart => exact ⟨0, by omega, rfl, rfl, HS.out⟩
  case round =>
    clear HS
    obtain ⟨j, hj, rfl, rfl, hS⟩ := hrel
    by_cases hlt : j < 4
    · have i0 : (0 : Int) ≤ (j : Int) := by omega
      have i1 : (j : Int) < 4 := by omega
      have c0 := hS.c0 j hlt
      have c1 := hS.c1 j hlt
      have x1 := (HX.out j).1
      have x2 := (HX.out j).2
      have y1 := (HY.out j).1
      have y2 := (HY.out j).2
      have b1 := (lk_bd x y (fun j => by have := HX.out j; have := HY.out j; omega) j).1
      have b2 := (lk_bd x y (fun j => by have := HX.out j; have := HY.out j; omega) j).2
      by_cases hg : x j < y j
      · go_wp2_with fail
        go_region
        go_wp2_with fail
        go_region
        go_wp2_with fail
        go_roundw
        case rel => exact ⟨j + 1, by omega, by go_num, by simp only [lk]; rw [show max 0 (y j - x j) = y j - x j by omega], hS.drew.drew⟩
        case measure => simp [intOf]; omega
      · go_wp2_with fail
        go_region
        go_wp2_with fail
        go_roundw
        case rel => exact ⟨j + 1, by omega, by go_num, by simp only [lk]; rw [show max 0 (y j - x j) = 0 by omega]; simp, hS.drew⟩
        case measure => simp [intOf]; omega
    · have hj4 : j = 4 := by omega
      have HJ := Lib.hid hj4
      have i1 : ¬ (j : Int) < 4 := by omega
      have hb := hS.bel
      clear hS hj4
      go_wp2_with fail
      go_ret
      exact ⟨ret_int (by rw [HJ.out]), hb⟩

theorem lacks_any (a b c d e f g h : Int) (w : World) (h1 : tameB a b c d = true) (h2 : tameB e f g h = true) :
    Calls Tryz.prog 10 #[vecV a b c d, vecV e f g h] w fun r w' => r = .returned (.int .i64 (max 0 (e - a) + max 0 (f - b) + max 0 (g - c) + max 0 (h - d))) ∧ Below w.heap.size w w' := by
  unfold tameB at h1 h2
  obtain ⟨⟨p1, p2⟩, ⟨p3, p4⟩, ⟨p5, p6⟩, ⟨p7, p8⟩⟩ := of_decide_eq_true h1
  obtain ⟨⟨q1, q2⟩, ⟨q3, q4⟩, ⟨q5, q6⟩, ⟨q7, q8⟩⟩ := of_decide_eq_true h2
  refine (lacks_go (nth a b c d) (nth e f g h) w w ?_ ?_).mono ?_
  · intro j
    match j with
    | 0 => exact ⟨p1, p2⟩
    | 1 => exact ⟨p3, p4⟩
    | 2 => exact ⟨p5, p6⟩
    | _ + 3 => exact ⟨p7, p8⟩
  · intro j
    match j with
    | 0 => exact ⟨q1, q2⟩
    | 1 => exact ⟨q3, q4⟩
    | 2 => exact ⟨q5, q6⟩
    | _ + 3 => exact ⟨q7, q8⟩
  · rintro r w' ⟨rfl, hb⟩
    refine ⟨ret_int ?_, hb⟩
    simp only [lk, nth]
    omega
end Go.Proofs.YthlojjknpfijmaaGreatDoor
