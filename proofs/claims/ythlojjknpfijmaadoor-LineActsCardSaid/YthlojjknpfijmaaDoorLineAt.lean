/- The program's letter by its number. -/
import Derived.Test.YthlojjknpfijmaaDoorMLineR
namespace Go.Proofs.YthlojjknpfijmaaDoor
open Go Go.RowKit Go.Shelf
set_option linter.unusedVariables false
set_option linter.unusedSimpArgs false
set_option maxHeartbeats 4000000
set_option maxRecDepth 100000

/-- how At ends: a letter's id, or none -/
def AtEnds (k : Int) (L : List Lt) (w : World) (e : Ending) (w' : World) : Prop :=
  Below w.heap.size w w' ∧ ((0 ≤ k ∧ ∃ x, (seenL L)[k.toNat]? = some x ∧ e = .returned (.tuple #[.int .i64 x.id, .bool true])) ∨ ((k < 0 ∨ (seenL L).length ≤ k) ∧ e = .returned (.tuple #[.int .i64 0, .bool false])))
theorem seenL_app (A B : List Lt) : seenL (A ++ B) = seenL A ++ seenL B := by unfold seenL; exact List.filter_append _ _

theorem split_at {L : List Lt} {j : Nat} {x : Lt} (hx : L[j]? = some x) : L = L.take j ++ x :: L.drop (j + 1) := by
  obtain ⟨hl, rfl⟩ := List.getElem?_eq_some_iff.1 hx
  rw [← List.drop_eq_getElem_cons hl, List.take_append_drop]

theorem lineAt_pos (k : Nat) (LB : Nat) (L : List Lt) (w : World) (h : LineAt w LB L) (hn : L.length ≤ 1000) (hk : (k : Int) ≤ 9223372036854775807) :
    Calls Tryd.prog 28 #[.pointer (some ⟨LB, 0, none⟩), .int .i64 k] w (AtEnds k L w) := by
  have hlt := h.lt
  obtain ⟨v, hv, hs⟩ := h.sl
  rcases hs with ⟨rfl, rfl⟩ | ⟨g, cap, rfl, hcap, hg, hL⟩
  · clear h
    go_enter Tryd.func28, Tryd.ntmps28
    go_wp2_with fail
    go_loop [13] (fun v13 => v13 = .int .i64 0) (fun _ => 0)
    case atStart => rfl
    case round =>
      obtain rfl := hrel
      go_wp2_with fail
      go_ret2
      exact ⟨Below.refl _ _, .inr ⟨.inr (by simp [seenL]), rfl⟩⟩
  · obtain ⟨n, hn1⟩ : ∃ n, n = L.length := ⟨_, rfl⟩
    rw [← hn1] at hv hcap
    have HL := Lib.hid hL
    have HN := Lib.hid hn1
    have hn2 : n ≤ 1000 := by omega
    clear h hL hn hn1
    go_enter Tryd.func28, Tryd.ntmps28
    go_wp2_with fail
    go_loopw [1, 13] (fun v1 v13 wr => ∃ j q : Nat, v13 = .int .i64 j ∧ j ≤ n ∧ v1 = .int .i64 q ∧ Hid (k = q + (seenL (L.take j)).length) ∧ Below w.heap.size w wr) (fun _ v13 _ => n - (intOf v13).toNat)
    case atStart => exact ⟨0, k, rfl, by omega, rfl, Lib.hid (by simp [seenL]), Below.refl _ _⟩
    case round =>
      obtain ⟨j, q, rfl, hj, rfl, HQ, hB⟩ := hrel
      have HB := Lib.hid hB
      clear hB
      by_cases hlt2 : j < n
      · obtain ⟨x, hx⟩ : ∃ x, L[j]? = some x := ⟨_, List.getElem?_eq_getElem (by have := HN.out; omega)⟩
        obtain ⟨q0, q1, q2⟩ := HL.out.below hg HB.out j x hx
        have HX := Lib.hid (seenL_take L j x hx)
        have HD := Lib.hid (split_at hx)
        have i0 : (0 : Int) ≤ (j : Int) := by omega
        have i1 : (j : Int) < (n : Int) := by omega
        have q00 : (0 : Int) ≤ (q : Int) := by omega
        have HB1 := Lib.hid (HB.out.alloc HB.out.size (.cells #[.int .i64 x.id, .int .u8 x.c.toNat, .bool x.gone] 115))
        clear hx
        cases hgn : x.gone with
        | true =>
          rw [hgn] at q2 HX HB1
          have HX2 : Hid (seenL (L.take (j + 1)) = seenL (L.take j)) := Lib.hid (by rw [HX.out]; simp)
          clear HX hgn
          go_wp2_with fail
          go_roundw
          case rel => exact ⟨j + 1, q, by go_num, by omega, rfl, Lib.hid (by rw [HX2.out]; exact HQ.out), HB1.out⟩
          case measure => simp [intOf]; omega
        | false =>
          rw [hgn] at q2 HX HB1
          have HX2 : Hid (seenL (L.take (j + 1)) = seenL (L.take j) ++ [x]) := Lib.hid (by rw [HX.out]; simp)
          have HGN := Lib.hid hgn
          clear HX hgn
          rcases Nat.eq_zero_or_pos q with hq | hq
          · subst hq
            go_wp2_with fail
            go_ret2
            refine ⟨HB1.out, .inl ⟨by omega, x, ?_, rfl⟩⟩
            rw [HD.out, seenL_app]
            have e : (k : Int).toNat = (seenL (L.take j)).length := by have := HQ.out; omega
            rw [e, List.getElem?_append_right (by omega)]
            simp [seenL, HGN.out]
          · obtain ⟨r, rfl⟩ : ∃ r, q = r + 1 := ⟨q - 1, by omega⟩
            have qz : ((r : Int) + 1 == 0) = false := by simp; omega
            have qz1 : (r : Int) + 1 - 1 = (r : Int) := by omega
            have qz3 : (r : Int) + 1 ≤ 9223372036854775807 := by have := HQ.out; omega
            rw [show (((r + 1 : Nat) : Int)) = (r : Int) + 1 by omega]
            go_wp2_with fail
            go_roundw
            case rel => exact ⟨j + 1, r, by go_num, by omega, rfl, Lib.hid (by rw [HX2.out, List.length_append, List.length_singleton]; have := HQ.out; omega), HB1.out⟩
            case measure => simp [intOf]; omega
      · have hge : ¬ (j : Int) < (n : Int) := by omega
        have HE : Hid (L.take j = L) := Lib.hid (List.take_of_length_le (by have := HN.out; omega))
        clear hlt2
        go_wp2_with fail
        go_ret2
        exact ⟨HB.out, .inr ⟨.inr (by have := HQ.out; rw [HE.out] at this; omega), rfl⟩⟩

theorem lineAt_neg (k : Int) (LB : Nat) (L : List Lt) (w : World) (h : LineAt w LB L) (hn : L.length ≤ 1000) (hk : k < 0) (hk2 : -9223372036854775808 ≤ k) :
    Calls Tryd.prog 28 #[.pointer (some ⟨LB, 0, none⟩), .int .i64 k] w (AtEnds k L w) := by
  have hlt := h.lt
  obtain ⟨v, hv, hs⟩ := h.sl
  rcases hs with ⟨rfl, rfl⟩ | ⟨g, cap, rfl, hcap, hg, hL⟩
  · clear h
    go_enter Tryd.func28, Tryd.ntmps28
    go_wp2_with fail
    go_loop [13] (fun v13 => v13 = .int .i64 0) (fun _ => 0)
    case atStart => rfl
    case round =>
      obtain rfl := hrel
      go_wp2_with fail
      go_ret2
      exact ⟨Below.refl _ _, .inr ⟨.inl hk, rfl⟩⟩
  · obtain ⟨n, hn1⟩ : ∃ n, n = L.length := ⟨_, rfl⟩
    rw [← hn1] at hv hcap
    have HL := Lib.hid hL
    have HN := Lib.hid hn1
    have hn2 : n ≤ 1000 := by omega
    clear h hL hn hn1
    go_enter Tryd.func28, Tryd.ntmps28
    go_wp2_with fail
    go_loopw [1, 13] (fun v1 v13 wr => ∃ (j : Nat) (z : Int), v13 = .int .i64 j ∧ j ≤ n ∧ v1 = .int .i64 z ∧ -9223372036854775808 ≤ z ∧ (z < 0 ∨ (9223372036854775807 - j ≤ z ∧ z ≤ 9223372036854775807)) ∧ Below w.heap.size w wr) (fun _ v13 _ => n - (intOf v13).toNat)
    case atStart => exact ⟨0, k, rfl, by omega, rfl, hk2, .inl hk, Below.refl _ _⟩
    case round =>
      obtain ⟨j, z, rfl, hj, rfl, hz1, hz2, hB⟩ := hrel
      have HB := Lib.hid hB
      clear hB
      by_cases hlt2 : j < n
      · obtain ⟨x, hx⟩ : ∃ x, L[j]? = some x := ⟨_, List.getElem?_eq_getElem (by have := HN.out; omega)⟩
        obtain ⟨q0, q1, q2⟩ := HL.out.below hg HB.out j x hx
        have i0 : (0 : Int) ≤ (j : Int) := by omega
        have i1 : (j : Int) < (n : Int) := by omega
        have HB1 := Lib.hid (HB.out.alloc HB.out.size (.cells #[.int .i64 x.id, .int .u8 x.c.toNat, .bool x.gone] 115))
        clear hx
        cases hgn : x.gone with
        | true =>
          rw [hgn] at q2 HB1
          clear hgn
          have HZ1 := Lib.hid hz1
          have HZ2 := Lib.hid hz2
          clear hz1 hz2
          go_wp2_with fail
          go_roundw
          case rel => exact ⟨j + 1, z, by go_num, by omega, rfl, HZ1.out, by have := HZ2.out; omega, HB1.out⟩
          case measure => simp [intOf]; omega
        | false =>
          rw [hgn] at q2 HB1
          clear hgn
          have zz : (z == 0) = false := by simp; omega
          by_cases hm : z = -9223372036854775808
          · subst hm
            go_wp2_with fail
            go_roundw
            case rel => exact ⟨j + 1, 9223372036854775807, by go_num, by omega, by rw [show wrap64 (-9223372036854775809) = 9223372036854775807 by decide +kernel], by omega, .inr (by omega), HB1.out⟩
            case measure => simp [intOf]; omega
          · have h1 : -9223372036854775807 ≤ z := by omega
            have h2 : z ≤ 9223372036854775807 := by omega
            have HZ2 := Lib.hid hz2
            clear hz2 hm
            go_wp2_with fail
            go_roundw
            case rel => exact ⟨j + 1, z - 1, by go_num, by omega, rfl, by omega, by have := HZ2.out; omega, HB1.out⟩
            case measure => simp [intOf]; omega
      · have hge : ¬ (j : Int) < (n : Int) := by omega
        clear hlt2
        go_wp2_with fail
        go_ret2
        exact ⟨HB.out, .inr ⟨.inl hk, rfl⟩⟩

theorem lineAt_any (k : Int) (LB : Nat) (L : List Lt) (w : World) (h : LineAt w LB L) (hn : L.length ≤ 1000) (hk1 : -9223372036854775808 ≤ k) (hk2 : k ≤ 9223372036854775807) :
    Calls Tryd.prog 28 #[.pointer (some ⟨LB, 0, none⟩), .int .i64 k] w (AtEnds k L w) := by
  by_cases hk : k < 0
  · exact lineAt_neg k LB L w h hn hk hk1
  · obtain ⟨m, rfl⟩ : ∃ m : Nat, k = m := ⟨k.toNat, by omega⟩
    exact lineAt_pos m LB L w h hn hk2
end Go.Proofs.YthlojjknpfijmaaDoor
