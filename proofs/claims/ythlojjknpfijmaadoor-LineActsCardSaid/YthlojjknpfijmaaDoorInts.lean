/- Slices of ints that are only read: what lies where; the references' SameInts. -/
import Derived.Test.YthlojjknpfijmaaDoorBase
namespace Go.Proofs.YthlojjknpfijmaaDoor
open Go Go.RowKit
set_option linter.unusedVariables false
set_option linter.unusedSimpArgs false
set_option maxHeartbeats 1000000

/-- the numbers lie there, one behind the other -/
def IntsAt (w : World) (A : Option Addr) (xs : List Int) : Prop :=
  xs = [] ∨ ∃ b off, A = some ⟨b, off, none⟩ ∧ b < w.heap.size ∧ ∀ j x, xs[j]? = some x → w.cell? ⟨b, off + j, none⟩ = some (.int .i64 x)

theorem IntsAt.nil {w : World} {A : Option Addr} : IntsAt w A [] := .inl rfl
theorem IntsAt.below {w w' : World} {A : Option Addr} {xs : List Int} (h : IntsAt w A xs) (hb : Below w.heap.size w w') : IntsAt w' A xs := by
  rcases h with h | ⟨b, off, hA, hl, hc⟩
  · exact .inl h
  · exact .inr ⟨b, off, hA, Nat.lt_of_lt_of_le hl hb.size, fun j x hx => (hb.cell hl).trans (hc j x hx)⟩

theorem IntsAt.at' {w : World} {A : Option Addr} {xs : List Int} (h : IntsAt w A xs) {j : Nat} {x : Int} (hx : xs[j]? = some x) : ∃ b off, A = some ⟨b, off, none⟩ ∧ b < w.heap.size ∧ w.cell? ⟨b, off + j, none⟩ = some (.int .i64 x) := by
  rcases h with rfl | ⟨b, off, hA, hl, hc⟩
  · simp at hx
  · exact ⟨b, off, hA, hl, hc j x hx⟩

set_option maxRecDepth 100000 in
theorem sameInts_any (A B : Option Addr) (n c m d : Nat) (xs ys : List Int) (w : World) (hn : n = xs.length) (hm : m = ys.length) (hA : IntsAt w A xs) (hB : IntsAt w B ys) (h1 : n ≤ 9223372036854775807) (h2 : m ≤ 9223372036854775807) :
    Calls Tryd.prog 18 #[.slice A n c, .slice B m d] w fun e w' => e = .returned (.bool (decide (xs = ys))) ∧ Below w.heap.size w w' := by
  subst hn hm
  by_cases hl : xs.length = ys.length
  · have hl' : (xs.length != ys.length) = false := by simp [hl]
    rcases hA with rfl | ⟨b, off, rfl, hbl, hc⟩
    · have hy : ys = [] := by simpa using hl.symm
      subst hy
      clear hl hl'
      go_enter Tryd.func18, Tryd.ntmps18
      go_wp2
      refine wp_loop_rounds 1 ?_
      rw [rounds_succ]
      go_wp2
      go_ret
      exact ⟨by simp, by go_grown⟩
    · rcases hB with rfl | ⟨b', off', rfl, hbl', hc'⟩
      · have hx : xs = [] := by simpa using hl
        subst hx
        clear hl hl' hc
        go_enter Tryd.func18, Tryd.ntmps18
        go_wp2
        refine wp_loop_rounds 1 ?_
        rw [rounds_succ]
        go_wp2
        go_ret
        exact ⟨by simp, by go_grown⟩
      · have hl2 : ((xs.length : Int) == (ys.length : Int)) = true := by simp [hl]
        have hl3 : ((xs.length : Int) != (ys.length : Int)) = false := by simp [hl]
        have HL := Lib.hid hl
        have HC := Lib.hid hc
        have HC' := Lib.hid hc'
        clear hl hl' hc hc'
        go_enter Tryd.func18, Tryd.ntmps18
        go_wp2
        go_loopw [5] (fun v5 wr => ∃ j q : Nat, j ≤ xs.length ∧ v5 = .int .i64 j ∧ Hid (xs.take j = ys.take j) ∧ wr = w.drewN q) (fun v5 _ => xs.length - (intOf v5).toNat)
        case atStart => exact ⟨0, 0, by omega, rfl, Lib.hid (by simp), rfl⟩
        case round =>
          obtain ⟨j, q, hj, rfl, ht, rfl⟩ := hrel
          by_cases hlt : j < xs.length
          · have hlt' : j < ys.length := by have := HL.out; omega
            obtain ⟨x, hx⟩ : ∃ x, xs[j]? = some x := ⟨_, List.getElem?_eq_getElem hlt⟩
            obtain ⟨y, hy⟩ : ∃ y, ys[j]? = some y := ⟨_, List.getElem?_eq_getElem hlt'⟩
            have c1 := HC.out j x hx
            have c2 := HC'.out j y hy
            have HX := Lib.hid hx
            have HY := Lib.hid hy
            clear hx hy
            have b1 : (0 : Int) ≤ (j : Int) := by omega
            have b2 : (j : Int) < (xs.length : Int) := by omega
            have b3 : (j : Int) < (ys.length : Int) := by omega
            by_cases hxy : x = y
            · subst hxy
              go_wp2
              go_quiet (fail)
              go_wp2
              go_roundw
              case rel => exact ⟨j + 1, _, by omega, by go_num, Lib.hid (by rw [List.take_add_one, List.take_add_one, ht.out, HX.out, HY.out]), rfl⟩
              case measure => simp [intOf]; omega
            · have hne : (x != y) = true := by simp [hxy]
              go_wp2
              go_quiet (fail)
              go_wp2
              go_ret
              refine ⟨?_, ?_⟩
              · have : xs ≠ ys := fun h => hxy (by have h1 := HX.out; have h2 := HY.out; rw [h] at h1; rw [h1] at h2; exact Option.some.inj h2)
                simp [this]
              · exact ⟨rfl, rfl, rfl, Nat.le_refl _, fun _ _ => rfl⟩
          · obtain rfl : j = xs.length := by omega
            go_wp2
            go_ret
            refine ⟨?_, ⟨rfl, rfl, rfl, Nat.le_refl _, fun _ _ => rfl⟩⟩
            have h1 := ht.out
            rw [List.take_length, HL.out, List.take_length] at h1
            simp [h1]
  · have hl' : ((xs.length : Int) != (ys.length : Int)) = true := by simp; omega
    clear hA hB
    go_enter Tryd.func18, Tryd.ntmps18
    go_wp2
    go_ret
    refine ⟨?_, by go_grown⟩
    have : xs ≠ ys := fun h => hl (by rw [h])
    simp [this]
end Go.Proofs.YthlojjknpfijmaaDoor
