/- Letters of a line: how they lie; finding one. -/
import Derived.Lib.SmallJoins
import Derived.Shelf.Abstract
import Derived.Test.YtjekalilfhnpmaaGreatDoorM00
import Derived.Test.YtjekalilfhnpmaaGreatDoorM01
namespace Go.Proofs.YtjekalilfhnpmaaGreatDoor
open Go Go.RowKit Go.Shelf
set_option linter.unusedVariables false
set_option linter.unusedSimpArgs false
set_option maxHeartbeats 4000000
set_option maxRecDepth 100000
abbrev Lt.cells (x : Lt) : List Value := [.int .i64 x.id, .int .u8 x.c.toNat, .bool x.gone]
abbrev ltV (x : Lt) : Value := .agg #[.int .i64 x.id, .int .u8 x.c.toNat, .bool x.gone]
def lts (L : List Lt) : List Value := L.flatMap Lt.cells
theorem lts_len (L : List Lt) : (lts L).length = L.length * 3 := by
  induction L with
  | nil => rfl
  | cons x r ih => unfold lts at ih ⊢; simp only [List.flatMap_cons, List.length_append, ih, List.length_cons, List.length_nil]; omega
theorem lts_app (A B : List Lt) : lts (A ++ B) = lts A ++ lts B := by unfold lts; exact List.flatMap_append
theorem lts_at : ∀ (L : List Lt) (j : Nat) (x : Lt), L[j]? = some x → (lts L)[j * 3]? = some (.int .i64 x.id) ∧ (lts L)[j * 3 + 1]? = some (.int .u8 x.c.toNat) ∧ (lts L)[j * 3 + 2]? = some (.bool x.gone)
  | [], j, x, h => by simp at h
  | y :: r, 0, x, h => by simp at h; subst h; exact ⟨rfl, rfl, rfl⟩
  | y :: r, j + 1, x, h => by
    have := lts_at r j x (by simpa using h)
    have e : lts (y :: r) = y.cells ++ lts r := rfl
    rw [e]
    have hl : y.cells.length = 3 := rfl
    rw [List.getElem?_append_right (by rw [hl]; omega), List.getElem?_append_right (by rw [hl]; omega), List.getElem?_append_right (by rw [hl]; omega), hl]
    rw [show (j + 1) * 3 - 3 = j * 3 by omega, show (j + 1) * 3 + 1 - 3 = j * 3 + 1 by omega, show (j + 1) * 3 + 2 - 3 = j * 3 + 2 by omega]
    exact this
/-- letters that lie one behind the other -/
def LtsAt (w : World) (g : Nat) (L : List Lt) : Prop := ∀ j x, L[j]? = some x → w.cell? ⟨g, j * 3, none⟩ = some (.int .i64 x.id) ∧ w.cell? ⟨g, j * 3 + 1, none⟩ = some (.int .u8 x.c.toNat) ∧ w.cell? ⟨g, j * 3 + 2, none⟩ = some (.bool x.gone)
theorem LtsAt.below {w w' : World} {g : Nat} {L : List Lt} (h : LtsAt w g L) (hl : g < w.heap.size) (hb : Below w.heap.size w w') : LtsAt w' g L :=
  fun j x hx => ⟨(hb.cell hl).trans (h j x hx).1, (hb.cell hl).trans (h j x hx).2.1, (hb.cell hl).trans (h j x hx).2.2⟩
/-- a slice of letters: nil, or a row -/
def LtSl (w : World) (v : Value) (L : List Lt) : Prop := (v = .slice none 0 0 ∧ L = []) ∨ ∃ g cap, v = .slice (some ⟨g, 0, none⟩) L.length cap ∧ L.length ≤ cap ∧ g < w.heap.size ∧ LtsAt w g L
theorem LtSl.below {w w' : World} {v : Value} {L : List Lt} (h : LtSl w v L) (hb : Below w.heap.size w w') : LtSl w' v L := by
  rcases h with h | ⟨g, cap, hv, hc, hg, hl⟩
  · exact .inl h
  · exact .inr ⟨g, cap, hv, hc, Nat.lt_of_lt_of_le hg hb.size, hl.below hg hb⟩
abbrev fndV (B : Nat) : Value := .func (Fn.func 198) #[] #[.pointer (some ⟨B, 0, none⟩)]
theorem find1_any (x : Lt) (id : Int) (B : Nat) (w : World) (hB : w.cell? ⟨B, 0, none⟩ = some (.int .i64 id)) (b : Bool) (hb : (x.id == id) = b) :
    Calls Tryz.prog 198 #[ltV x, .pointer (some ⟨B, 0, none⟩)] w fun e w' => e = .returned (.bool b) ∧ Below w.heap.size w w' := by
  have hl := World.block_lt_of_cell? w _ hB
  have hl2 : B < w.heap.size := hl
  clear hl
  go_enter Tryz.func198, Tryz.ntmps198
  go_wp2_with fail
  go_ret
  exact ⟨by simp [hb], (Below.refl _ _).alloc (Nat.le_refl _) _⟩
theorem indexFunc_nil (id : Int) (B : Nat) (w : World) :
    Calls Tryz.prog 197 #[.slice none 0 0, fndV B] w fun e w' => e = .returned (.int .i64 (-1)) ∧ Below w.heap.size w w' := by
  go_enter Tryz.func197, Tryz.ntmps197
  go_wp2_with fail
  go_loop [8] (fun v8 => v8 = .int .i64 0) (fun v8 => 0)
  case atStart => rfl
  case round =>
    obtain rfl := hrel
    go_wp2_with fail
    go_ret
    exact ⟨rfl, Below.refl _ _⟩
theorem indexFunc_row (id : Int) (B g n cap : Nat) (L : List Lt) (w : World) (hn : L.length = n) (hn2 : n ≤ 1000) (hg : g < w.heap.size) (hL : LtsAt w g L) (hB : w.cell? ⟨B, 0, none⟩ = some (.int .i64 id)) :
    Calls Tryz.prog 197 #[.slice (some ⟨g, 0, none⟩) n cap, fndV B] w fun e w' => e = .returned (.int .i64 (ixOf id L)) ∧ Below w.heap.size w w' := by
  have HL := Lib.hid hL
  have HB := Lib.hid hB
  have HN := Lib.hid hn
  have hBl := World.block_lt_of_cell? w _ hB
  have HBl := Lib.hid hBl
  clear hL hB hn hBl
  go_enter Tryz.func197, Tryz.ntmps197
  go_wp2_with fail
  go_loopw [8] (fun v8 wr => ∃ j : Nat, j ≤ n ∧ v8 = .int .i64 j ∧ (∀ i y, i < j → L[i]? = some y → y.id ≠ id) ∧ Below w.heap.size w wr) (fun v8 _ => n - (intOf v8).toNat)
  case atStart => exact ⟨0, by omega, rfl, fun i y hi => by omega, Below.refl _ _⟩
  case round =>
    obtain ⟨j, hj, rfl, hno, hb⟩ := hrel
    have HNo := Lib.hid hno
    have HBe := Lib.hid hb
    clear hno hb
    by_cases hlt : j < n
    · have hjl : j < L.length := by have := HN.out; omega
      obtain ⟨x, hx⟩ : ∃ x, L[j]? = some x := ⟨_, List.getElem?_eq_getElem hjl⟩
      obtain ⟨q0, q1, q2⟩ := HL.out.below hg HBe.out j x hx
      have hc := (HBe.out.cell (p := ⟨B, 0, none⟩) HBl.out).trans HB.out
      have HX := Lib.hid hx
      have i0 : (0 : Int) ≤ (j : Int) := by omega
      have i1 : (j : Int) < (n : Int) := by omega
      clear hx hjl
      by_cases he : x.id = id
      · have HF := Lib.hid (fun w hB => find1_any x id B w hB true (by simp [he]))
        have HE := Lib.hid he
        clear he
        go_wp2_with fail
        refine (HF.out _ hc).mono ?_
        rintro e w2 ⟨rfl, hb2⟩
        have HBe2 := Lib.hid (HBe.out.trans (hb2.mono HBe.out.size))
        clear hb2
        go_wp2_with fail
        go_ret
        exact ⟨by rw [ixOf_some HX.out HE.out HNo.out]; rfl, HBe2.out⟩
      · have HF := Lib.hid (fun w hB => find1_any x id B w hB false (by simp [he]))
        have HE := Lib.hid he
        clear he
        go_wp2_with fail
        refine (HF.out _ hc).mono ?_
        rintro e w2 ⟨rfl, hb2⟩
        have HBe2 := Lib.hid (HBe.out.trans (hb2.mono HBe.out.size))
        clear hb2
        go_wp2_with fail
        go_roundw
        case rel => exact ⟨j + 1, by omega, by go_num, fun i y hi hy => by
          by_cases e : i = j
          · subst e; rw [HX.out] at hy; cases hy; exact HE.out
          · exact HNo.out i y (by omega) hy, HBe2.out⟩
        case measure => simp [intOf]; omega
    · have hge : ¬ (j : Int) < (n : Int) := by omega
      have hjn : n ≤ j := by omega
      clear hlt
      go_wp2_with fail
      go_ret
      exact ⟨by rw [ixOf_none (fun y hy => by
        obtain ⟨i, hi⟩ := List.mem_iff_getElem?.1 hy
        have hlt : i < L.length := (List.getElem?_eq_some_iff.1 hi).1
        exact HNo.out i y (by have := HN.out; omega) hi)]; rfl, HBe.out⟩
/-- a line: its block, its letters -/
structure LineAt (w : World) (LB : Nat) (L : List Lt) : Prop where
  sl : ∃ v, w.cell? ⟨LB, 0, none⟩ = some v ∧ LtSl w v L
theorem LineAt.lt {w : World} {LB : Nat} {L : List Lt} (h : LineAt w LB L) : LB < w.heap.size := by
  obtain ⟨v, hv, _⟩ := h.sl
  exact World.block_lt_of_cell? w _ hv
theorem LineAt.below {w w' : World} {LB : Nat} {L : List Lt} (h : LineAt w LB L) (hb : Below w.heap.size w w') : LineAt w' LB L := by
  have hl := h.lt
  obtain ⟨v, hv, hs⟩ := h.sl
  exact ⟨v, (hb.cell hl).trans hv, hs.below hb⟩
theorem find_any (id : Int) (LB : Nat) (L : List Lt) (w : World) (hn : L.length ≤ 1000) (h : LineAt w LB L) :
    Calls Tryz.prog 160 #[.pointer (some ⟨LB, 0, none⟩), .int .i64 id] w fun e w' => e = .returned (.int .i64 (ixOf id L)) ∧ Below w.heap.size w w' := by
  have hlt := h.lt
  obtain ⟨v, hv, hs⟩ := h.sl
  have hb1 : Below w.heap.size w (w.alloc (.cells #[.int .i64 id] 3)) := (Below.refl _ _).alloc (Nat.le_refl _) _
  have hc : (w.alloc (.cells #[.int .i64 id] 3)).cell? ⟨w.heap.size, 0, none⟩ = some (.int .i64 id) := by simp [go_sem]
  rcases hs with ⟨rfl, rfl⟩ | ⟨g, cap, rfl, hcap, hg, hL⟩
  · have HI := Lib.hid (indexFunc_nil id w.heap.size (w.alloc (.cells #[.int .i64 id] 3)))
    have HB := Lib.hid hb1
    clear hb1 hc h
    go_enter Tryz.func160, Tryz.ntmps160
    go_wp2_with fail
    refine HI.out.mono ?_
    rintro e w2 ⟨rfl, hb2⟩
    have HB2 := Lib.hid (HB.out.trans (hb2.mono HB.out.size))
    clear hb2
    go_wp2_with fail
    go_ret
    exact ⟨rfl, HB2.out⟩
  · have HI := Lib.hid (indexFunc_row id w.heap.size g L.length cap L _ rfl hn (by simp; omega) (hL.below hg hb1) hc)
    have HB := Lib.hid hb1
    clear hb1 hc h hL
    go_enter Tryz.func160, Tryz.ntmps160
    go_wp2_with fail
    refine HI.out.mono ?_
    rintro e w2 ⟨rfl, hb2⟩
    have HB2 := Lib.hid (HB.out.trans (hb2.mono HB.out.size))
    clear hb2
    go_wp2_with fail
    go_ret
    exact ⟨rfl, HB2.out⟩
end Go.Proofs.YtjekalilfhnpmaaGreatDoor
