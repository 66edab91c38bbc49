/- A line's text, its ids; a letter deleted. -/
import Derived.Test.YthlojjknpfijmaaDoorLine2
import Derived.Test.YthlojjknpfijmaaDoorHex
import Derived.Test.YthlojjknpfijmaaDoorISt
import Derived.Test.YthlojjknpfijmaaDoorInts
namespace Go.Proofs.YthlojjknpfijmaaDoor
open Go Go.RowKit Go.Shelf
set_option linter.unusedVariables false
set_option linter.unusedSimpArgs false
set_option maxHeartbeats 4000000
set_option maxRecDepth 100000

theorem txtL_take (L : List Lt) (j : Nat) (x : Lt) (h : L[j]? = some x) : txtL (L.take (j + 1)) = txtL (L.take j) ++ if x.gone then [] else [x.c] := by
  unfold txtL
  rw [List.take_add_one, h]
  cases hg : x.gone <;> simp [hg]
theorem idsL_take (L : List Lt) (j : Nat) (x : Lt) (h : L[j]? = some x) : idsL (L.take (j + 1)) = idsL (L.take j) ++ [x.id] := by
  unfold idsL
  rw [List.take_add_one, h]
  simp

theorem line_text (LB : Nat) (L : List Lt) (w : World) (h : LineAt w LB L) (hn : L.length ≤ 1000) :
    Calls Tryd.prog 16 #[.pointer (some ⟨LB, 0, none⟩)] w fun e w' => e = .returned (.string (S (txtL L))) ∧ Below w.heap.size w w' := by
  have hlt := h.lt
  obtain ⟨v, hv, hs⟩ := h.sl
  rcases hs with ⟨rfl, rfl⟩ | ⟨g, cap, rfl, hcap, hg, hL⟩
  · have kc := (BSt.start w).text
    clear h
    go_enter Tryd.func16, Tryd.ntmps16
    go_wp2_with fail
    go_loop [3, 11] (fun v3 v11 => v3 = .slice none 0 0 ∧ v11 = .int .i64 0) (fun _ _ => 0)
    case atStart => exact ⟨rfl, rfl⟩
    case round =>
      obtain ⟨rfl, rfl⟩ := hrel
      go_wp2_with fail
      go_ret
      exact ⟨rfl, Below.refl _ _⟩
  · obtain ⟨n, hn1⟩ : ∃ n, n = L.length := ⟨_, rfl⟩
    rw [← hn1] at hv hcap
    have HL := Lib.hid hL
    have HN := Lib.hid hn1
    have hn2 : n ≤ 1000 := by omega
    clear h hL hn hn1
    go_enter Tryd.func16, Tryd.ntmps16
    go_wp2_with fail
    go_loopw [3, 11] (fun v3 v11 wr => ∃ j : Nat, v11 = .int .i64 j ∧ j ≤ n ∧ BSt w v3 (txtL (L.take j)) wr) (fun _ v11 _ => n - (intOf v11).toNat)
    case atStart => exact ⟨0, rfl, by omega, BSt.start _⟩
    case round =>
      obtain ⟨j, rfl, hj, hB⟩ := hrel
      have HB := Lib.hid hB
      clear hB
      by_cases hlt2 : j < n
      · obtain ⟨x, hx⟩ : ∃ x, L[j]? = some x := ⟨_, List.getElem?_eq_getElem (by have := HN.out; omega)⟩
        obtain ⟨q0, q1, q2⟩ := HL.out.below hg HB.out.bel j x hx
        have HX := Lib.hid (txtL_take L j x hx)
        have i0 : (0 : Int) ≤ (j : Int) := by omega
        have i1 : (j : Int) < (n : Int) := by omega
        have hsz := HB.out.bel.size
        have hln := txtL_len (L.take j)
        rw [List.length_take] at hln
        have HB1 := Lib.hid (HB.out.below ((Below.refl _ _).alloc (Nat.le_refl _) (.cells #[.int .i64 x.id, .int .u8 x.c.toNat, .bool x.gone] 115)))
        clear hx
        cases hgn : x.gone with
        | true =>
          rw [hgn] at q2 HX HB1
          have HX2 : Hid (txtL (L.take (j + 1)) = txtL (L.take j)) := Lib.hid (by rw [HX.out]; simp)
          clear HX
          go_wp2_with fail
          go_roundw
          case rel => exact ⟨j + 1, by go_num, by omega, by rw [HX2.out]; exact HB1.out⟩
          case measure => simp [intOf]; omega
        | false =>
          rw [hgn] at q2 HX HB1
          have HX2 : Hid (txtL (L.take (j + 1)) = txtL (L.take j) ++ [x.c]) := Lib.hid (by rw [HX.out]; simp)
          clear HX
          obtain ⟨i0', hi0, hz0, hz1, hz2⟩ := info_parts infoByte
          go_wp2_with (at_builtin; refine wpList_append_own _ rfl _ _ 117 rfl w.heap.size 5 i0' (.int .u8 0) 1 1 Tryd.underlying117 hi0 hz0 hz1 hz2 rfl (by decide) _ _ _ rfl (HB1.out.own.alloc _) ⟨wr.heap.size + 1, 0, none⟩ 1 1 (bytesV [x.c]) rfl rfl ?a1 ?a2 ?a3 ?a4 ?a5 ?_)
          case a1 => intro jj u hjj; match jj, hjj with | 0, hjj => simp [bytesV] at hjj; subst hjj; simp [Addr.add]
          case a2 => intro u hu; simp [bytesV] at hu; subst hu; rfl
          case a3 => unfold maxLen; omega
          case a4 => omega
          case a5 => first | omega | (simp; omega)
          intro v' wF hown' hgrow _
          have hb2 := HB1.out.app (ys := [x.c]) hown' hgrow
          have HB2 := Lib.hid hb2
          clear hown' hgrow hb2 hi0 hz0 hz1 hz2
          go_wp2_with fail
          go_roundw
          case rel => exact ⟨j + 1, by go_num, by omega, by rw [HX2.out]; exact HB2.out⟩
          case measure => simp [intOf]; omega
      · have hge : ¬ (j : Int) < (n : Int) := by omega
        have kc := HB.out.text
        have HE : Hid (L.take j = L) := Lib.hid (List.take_of_length_le (by have := HN.out; omega))
        rw [HE.out] at kc
        clear hlt2
        go_wp2_with fail
        go_ret
        exact ⟨rfl, HB.out.bel⟩

/-- numbers in a row of their own, not below this block -/
def IntsIn (lo : Nat) (w : World) (A : Option Addr) (xs : List Int) : Prop :=
  xs = [] ∨ ∃ b, A = some ⟨b, 0, none⟩ ∧ lo ≤ b ∧ b < w.heap.size ∧ ∀ j x, xs[j]? = some x → w.cell? ⟨b, j, none⟩ = some (.int .i64 x)
theorem IntsIn.at' {lo : Nat} {w : World} {A : Option Addr} {xs : List Int} (h : IntsIn lo w A xs) : IntsAt w A xs := by
  rcases h with h | ⟨b, hA, _, hb, hc⟩
  · exact .inl h
  · exact .inr ⟨b, 0, hA, hb, fun j x hx => by rw [Nat.zero_add]; exact hc j x hx⟩
theorem IntsIn.fr {lo : Nat} {X : Nat → Prop} {w w' : World} {A : Option Addr} {xs : List Int} (h : IntsIn lo w A xs) (hf : Fr X w w') (hx : ∀ k, X k → k < lo) : IntsIn lo w' A xs := by
  rcases h with h | ⟨b, hA, hl, hb, hc⟩
  · exact .inl h
  · exact .inr ⟨b, hA, hl, Nat.lt_of_lt_of_le hb hf.size, fun j x hj => (hf.cell (p := ⟨b, j, none⟩) hb (fun e => by have := hx _ e; simp at this; omega)).trans (hc j x hj)⟩
theorem IntsIn.below {lo : Nat} {w w' : World} {A : Option Addr} {xs : List Int} (h : IntsIn lo w A xs) (hb : Below w.heap.size w w') : IntsIn lo w' A xs :=
  h.fr (X := fun _ => False) (Fr.of_below hb) (fun _ h => h.elim)
/-- numbers that a call hands back -/
def GivesInts (xs : List Int) (w : World) (e : Ending) (w' : World) : Prop := ∃ A c, e = .returned (.slice A xs.length c) ∧ IntsIn w.heap.size w' A xs ∧ Below w.heap.size w w'
theorem ISt.gives {w0 w : World} {v : Value} {xs : List Int} (h : ISt w0 v xs w) : GivesInts xs w0 (.returned v) w := by
  rcases h.own.2 with ⟨hv, hn⟩ | ⟨g, cap, cur, hv, hg, hh, hcap, hm, hsz, hcs⟩
  · have hx : xs = [] := List.eq_nil_of_length_eq_zero hn
    subst hx
    subst hv
    exact ⟨none, 0, rfl, .inl rfl, h.bel⟩
  · refine ⟨some ⟨g, 0, none⟩, cap, by rw [hv], .inr ⟨g, rfl, hg, (Array.getElem?_eq_some_iff.1 hh).1, fun j x hx => ?_⟩, h.bel⟩
    have hl : 0 < xs.length := by have := (List.getElem?_eq_some_iff.1 hx).1; omega
    obtain ⟨g', cap', hv', _, _, _, hc⟩ := h.at hl
    rw [hv] at hv'
    cases hv'
    exact hc j x hx

theorem line_ids (LB : Nat) (L : List Lt) (w : World) (h : LineAt w LB L) (hn : L.length ≤ 1000) :
    Calls Tryd.prog 17 #[.pointer (some ⟨LB, 0, none⟩)] w (GivesInts (idsL L) w) := by
  have hlt := h.lt
  obtain ⟨v, hv, hs⟩ := h.sl
  rcases hs with ⟨rfl, rfl⟩ | ⟨g, cap, rfl, hcap, hg, hL⟩
  · clear h
    go_enter Tryd.func17, Tryd.ntmps17
    go_wp2_with fail
    go_loop [3, 11] (fun v3 v11 => v3 = .slice none 0 0 ∧ v11 = .int .i64 0) (fun _ _ => 0)
    case atStart => exact ⟨rfl, rfl⟩
    case round =>
      obtain ⟨rfl, rfl⟩ := hrel
      go_wp2_with fail
      go_ret
      exact (ISt.start w).gives
  · obtain ⟨n, hn1⟩ : ∃ n, n = L.length := ⟨_, rfl⟩
    rw [← hn1] at hv hcap
    have HL := Lib.hid hL
    have HN := Lib.hid hn1
    have hn2 : n ≤ 1000 := by omega
    clear h hL hn hn1
    go_enter Tryd.func17, Tryd.ntmps17
    go_wp2_with fail
    go_loopw [3, 11] (fun v3 v11 wr => ∃ j : Nat, v11 = .int .i64 j ∧ j ≤ n ∧ ISt w v3 (idsL (L.take j)) wr) (fun _ v11 _ => n - (intOf v11).toNat)
    case atStart => exact ⟨0, rfl, by omega, ISt.start _⟩
    case round =>
      obtain ⟨j, rfl, hj, hB⟩ := hrel
      have HB := Lib.hid hB
      clear hB
      by_cases hlt2 : j < n
      · obtain ⟨x, hx⟩ : ∃ x, L[j]? = some x := ⟨_, List.getElem?_eq_getElem (by have := HN.out; omega)⟩
        obtain ⟨q0, q1, q2⟩ := HL.out.below hg HB.out.bel j x hx
        have HX := Lib.hid (idsL_take L j x hx)
        have i0 : (0 : Int) ≤ (j : Int) := by omega
        have i1 : (j : Int) < (n : Int) := by omega
        have hsz := HB.out.bel.size
        have hln : (idsL (L.take j)).length ≤ j := by unfold idsL; rw [List.length_map, List.length_take]; omega
        have HB1 := Lib.hid (HB.out.below ((Below.refl _ _).alloc (Nat.le_refl _) (.cells #[.int .i64 x.id, .int .u8 x.c.toNat, .bool x.gone] 115)))
        clear hx
        obtain ⟨i0', hi0, hz0, hz1, hz2⟩ := info_parts infoInt
        go_wp2_with (at_builtin; refine wpList_append_own _ rfl _ _ 22 rfl w.heap.size 3 i0' (.int .i64 0) 1 8 Tryd.underlying22 hi0 hz0 hz1 hz2 rfl (by decide) _ _ _ rfl (HB1.out.own.alloc _) ⟨wr.heap.size + 1, 0, none⟩ 1 1 [.int .i64 x.id] rfl rfl ?a1 ?a2 ?a3 ?a4 ?a5 ?_)
        case a1 => intro jj u hjj; match jj, hjj with | 0, hjj => simp at hjj; subst hjj; simp [Addr.add]
        case a2 => intro u hu; simp at hu; subst hu; rfl
        case a3 => unfold maxLen; omega
        case a4 => omega
        case a5 => first | omega | (simp; omega)
        intro v' wF hown' hgrow _
        have hb2 := HB1.out.app hown' hgrow
        have HB2 := Lib.hid hb2
        clear hown' hgrow hb2 hi0 hz0 hz1 hz2
        go_wp2_with fail
        go_roundw
        case rel => exact ⟨j + 1, by go_num, by omega, by rw [HX.out]; exact HB2.out⟩
        case measure => simp [intOf]; omega
      · have hge : ¬ (j : Int) < (n : Int) := by omega
        have HE : Hid (L.take j = L) := Lib.hid (List.take_of_length_le (by have := HN.out; omega))
        clear hlt2
        go_wp2_with fail
        go_ret
        have := HB.out.gives
        rw [HE.out] at this
        exact this
end Go.Proofs.YthlojjknpfijmaaDoor
