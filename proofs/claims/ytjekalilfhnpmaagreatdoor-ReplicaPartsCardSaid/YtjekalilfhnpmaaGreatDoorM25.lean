/- A line's text, its ids; a letter deleted. A letter deleted; a letter by its number. The document's line: what is seen, its text, a letter deleted. The program's letter by its number. -/
import Derived.Laws.OwnMore
import Derived.StillTailTactics
import Derived.Test.YtjekalilfhnpmaaGreatDoorM01
import Derived.Test.YtjekalilfhnpmaaGreatDoorM02
import Derived.Test.YtjekalilfhnpmaaGreatDoorM04
import Derived.Test.YtjekalilfhnpmaaGreatDoorM24
namespace Go.Proofs.YtjekalilfhnpmaaGreatDoor
open Go Go.RowKit Go.Shelf
set_option linter.unusedVariables false
set_option linter.unusedSimpArgs false
set_option maxHeartbeats 4000000
set_option maxRecDepth 100000
theorem txtL_take (L : List Lt) (j : Nat) (x : Lt) (h : L[j]? = some x) : txtL (L.take (j + 1)) = txtL (L.take j) ++ if x.gone then [] else [x.c] := by
  unfold txtL
  rw [List.take_add_one, h]
  cases hg : x.gone <;> simp [hg]
theorem line_text (LB : Nat) (L : List Lt) (w : World) (h : LineAt w LB L) (hn : L.length ≤ 1000) :
    Calls Tryz.prog 62 #[.pointer (some ⟨LB, 0, none⟩)] w fun e w' => e = .returned (.string (S (txtL L))) ∧ Below w.heap.size w w' := by
  have hlt := h.lt
  obtain ⟨v, hv, hs⟩ := h.sl
  rcases hs with ⟨rfl, rfl⟩ | ⟨g, cap, rfl, hcap, hg, hL⟩
  · have kc := (BSt.start w).text
    clear h
    go_enter Tryz.func62, Tryz.ntmps62
    go_wp2_with fail
    go_loop [3, 11] (fun v3 v11 => v3 = .slice none 0 0 ∧ v11 = .int .i64 0) (fun _ _ => 0)
    case atStart => exact ⟨rfl, rfl⟩
    case round =>
      obtain ⟨rfl, rfl⟩ := hrel
      go_wp2_with fail
      go_ret
      exact ⟨rfl, Below.refl _ _⟩
  · obtain ⟨n, hn1⟩ : ∃ n, n = L.length := ⟨_, rfl⟩
    rw [← hn1] at hv hcap
    have HL := Lib.hid hL
    have HN := Lib.hid hn1
    have hn2 : n ≤ 1000 := by omega
    clear h hL hn hn1
    go_enter Tryz.func62, Tryz.ntmps62
    go_wp2_with fail
    go_loopw [3, 11] (fun v3 v11 wr => ∃ j : Nat, v11 = .int .i64 j ∧ j ≤ n ∧ BSt w v3 (txtL (L.take j)) wr) (fun _ v11 _ => n - (intOf v11).toNat)
    case atStart => exact ⟨0, rfl, by omega, BSt.start _⟩
    case round =>
      obtain ⟨j, rfl, hj, hB⟩ := hrel
      have HB := Lib.hid hB
      clear hB
      by_cases hlt2 : j < n
      · obtain ⟨x, hx⟩ : ∃ x, L[j]? = some x := ⟨_, List.getElem?_eq_getElem (by have := HN.out; omega)⟩
        obtain ⟨q0, q1, q2⟩ := HL.out.below hg HB.out.bel j x hx
        have HX := Lib.hid (txtL_take L j x hx)
        have i0 : (0 : Int) ≤ (j : Int) := by omega
        have i1 : (j : Int) < (n : Int) := by omega
        have hsz := HB.out.bel.size
        have hln := txtL_len (L.take j)
        rw [List.length_take] at hln
        have HB1 := Lib.hid (HB.out.below ((Below.refl _ _).alloc (Nat.le_refl _) (.cells #[.int .i64 x.id, .int .u8 x.c.toNat, .bool x.gone] 217)))
        clear hx
        cases hgn : x.gone with
        | true =>
          rw [hgn] at q2 HX HB1
          have HX2 : Hid (txtL (L.take (j + 1)) = txtL (L.take j)) := Lib.hid (by rw [HX.out]; simp)
          clear HX
          go_wp2_with fail
          go_roundw
          case rel => exact ⟨j + 1, by go_num, by omega, by rw [HX2.out]; exact HB1.out⟩
          case measure => simp [intOf]; omega
        | false =>
          rw [hgn] at q2 HX HB1
          have HX2 : Hid (txtL (L.take (j + 1)) = txtL (L.take j) ++ [x.c]) := Lib.hid (by rw [HX.out]; simp)
          clear HX
          obtain ⟨i0', hi0, hz0, hz1, hz2⟩ := info_parts infoByte
          go_wp2_with (at_builtin; refine wpList_append_own _ rfl _ _ 212 rfl w.heap.size 5 i0' (.int .u8 0) 1 1 Tryz.underlying212 hi0 hz0 hz1 hz2 rfl (by decide) _ _ _ rfl (HB1.out.own.alloc _) ⟨wr.heap.size + 1, 0, none⟩ 1 1 (bytesV [x.c]) rfl rfl ?a1 ?a2 ?a3 ?a4 ?a5 ?_)
          case a1 => intro jj u hjj; match jj, hjj with | 0, hjj => simp [bytesV] at hjj; subst hjj; simp [Addr.add]
          case a2 => intro u hu; simp [bytesV] at hu; subst hu; rfl
          case a3 => unfold maxLen; omega
          case a4 => omega
          case a5 => first | omega | (simp; omega)
          intro v' wF hown' hgrow _
          have hb2 := HB1.out.app (ys := [x.c]) hown' hgrow
          have HB2 := Lib.hid hb2
          clear hown' hgrow hb2 hi0 hz0 hz1 hz2
          go_wp2_with fail
          go_roundw
          case rel => exact ⟨j + 1, by go_num, by omega, by rw [HX2.out]; exact HB2.out⟩
          case measure => simp [intOf]; omega
      · have hge : ¬ (j : Int) < (n : Int) := by omega
        have kc := HB.out.text
        have HE : Hid (L.take j = L) := Lib.hid (List.take_of_length_le (by have := HN.out; omega))
        rw [HE.out] at kc
        clear hlt2
        go_wp2_with fail
        go_ret
        exact ⟨rfl, HB.out.bel⟩
end Go.Proofs.YtjekalilfhnpmaaGreatDoor
namespace Go.Proofs.YtjekalilfhnpmaaGreatDoor
open Go Go.RowKit Go.Shelf
set_option linter.unusedVariables false
set_option linter.unusedSimpArgs false
set_option maxHeartbeats 4000000
set_option maxRecDepth 100000
theorem lts_del {id : Int} {L : List Lt} {k : Nat} (h : ixOf id L = k) : lts (delL id L) = (lts L).set (k * 3 + 2) (.bool true) := by
  obtain ⟨A, x, B, rfl, h2, h3, h4⟩ := ixOf_at (id := id) (L := L) (by omega)
  have hk : k = A.length := by omega
  rw [delL_at h2 h4, lts_app, lts_app, List.set_append_right _ _ (by rw [lts_len]; omega), lts_len, hk, show A.length * 3 + 2 - A.length * 3 = 2 by omega]
  rfl
def DelEnd (ea : Nat → Addr) (base LB : Nat) (v : Value) (id : Int) (L : List Lt) (w : World) (e : Ending) (w' : World) : Prop :=
  e = .returned (if ixOf id L < 0 then errV (ea 6) else .nilIface) ∧ LineSt base LB v (delL id L) w' ∧ Fr (Own LB v) w w'
theorem line_delete {F : Nat → Bool} (ea : Nat → Addr) (base LB : Nat) (v : Value) (id : Int) (L : List Lt) (w : World) (hG : Gd F ea w) (f6 : F 6 = true) (hst : LineSt base LB v L w) (hn : L.length ≤ 1000) :
    Calls Tryz.prog 114 #[.pointer (some ⟨LB, 0, none⟩), .int .i64 id] w (DelEnd ea base LB v id L w) := by
  have HF := Lib.hid (find_any id LB L w hn hst.at')
  have hlb := ixOf_lt id L
  obtain ⟨k, hk⟩ : ∃ k, ixOf id L = k := ⟨_, rfl⟩
  have HK := Lib.hid hk
  rw [hk] at HF hlb
  have HG := Lib.hid hG
  have HS := Lib.hid hst
  clear hG hst hk
  by_cases hx : k < 0
  · go_enter Tryz.func114, Tryz.ntmps114
    go_wp2_with fail
    refine HF.out.mono ?_
    rintro e w1 ⟨rfl, hb⟩
    have gv := ((HG.out.below hb).errs 6 (by omega) (by omega) f6).var
    simp only [errG] at gv
    have HB := Lib.hid hb
    clear hb
    go_wp2_with fail
    go_ret
    refine ⟨by rw [HK.out, if_pos hx]; rfl, ?_, Fr.of_below HB.out⟩
    rw [delL_none (by rw [HK.out]; exact hx)]
    exact HS.out.below HB.out
  · obtain ⟨n, rfl⟩ : ∃ n : Nat, k = n := ⟨k.toNat, by omega⟩
    have hnl : n < L.length := by omega
    rcases HS.out.own.2 with ⟨_, h0⟩ | ⟨g, cap, cur, hv, hg0, hgg, hcap, hcm, hcs, htk⟩
    · omega
    subst hv
    obtain ⟨m, hm⟩ : ∃ m, m = L.length := ⟨_, rfl⟩
    rw [← hm] at hlb hnl hcap HS
    have HM := Lib.hid hm
    have hm2 : m ≤ 1000 := by omega
    clear hm hgg hcs htk hcm hn
    go_enter Tryz.func114, Tryz.ntmps114
    go_wp2_with fail
    refine HF.out.mono ?_
    rintro e w1 ⟨rfl, hb⟩
    have hS1 := HS.out.below hb
    have HS1 := Lib.hid hS1
    have q := hS1.ptr
    have own1 := hS1.own
    rw [← HM.out] at own1
    have HO := Lib.hid own1
    have st := own1.stored (n * 3 + 2) (.bool true)
    have fz := own1.frozenAt (n * 3 + 2)
    have cc := own1.cellAt (n * 3 + 2) (by omega)
    rw [List.getElem?_eq_getElem (by rw [lts_len, ← HM.out]; omega)] at cc
    generalize (lts L)[n * 3 + 2]'_ = old at cc
    have HST := Lib.hid st
    have HB := Lib.hid hb
    have i0 : (0 : Int) ≤ (n : Int) := by omega
    have i1 : (n : Int) < (m : Int) := by omega
    clear st own1 hS1 hb
    go_wp2_with fail
    go_ret
    have hgne : g ≠ LB := fun e => HS1.out.ne (by rw [e]; rfl)
    have hm := HM.out
    subst hm
    refine ⟨by rw [HK.out, if_neg (by omega)]; rfl, ⟨(World.cell?_setCell_other _ _ _ _ (by simp [Ne.symm hgne])).trans HS1.out.ptr, fun o => by have := HS1.out.fz o; simpa using this, ?_, HS1.out.ne, HS1.out.ge⟩, ?_⟩
    · rw [lts_del HK.out, delL_len, ← HM.out]
      exact HST.out.1
    · refine ⟨HB.out.os, HB.out.tape, HB.out.output, by have := HB.out.size; simpa using this, fun j hj hne => ?_⟩
      exact (heap_setCell_other w1 ⟨g, n * 3 + 2, none⟩ j _ (fun e => hne (.inr (by rw [e]; rfl)))).trans (HB.out.block j hj)
end Go.Proofs.YtjekalilfhnpmaaGreatDoor
namespace Go.Proofs.YtjekalilfhnpmaaGreatDoor
open Go Go.RowKit Go.Shelf
set_option linter.unusedVariables false
set_option linter.unusedSimpArgs false
set_option maxHeartbeats 4000000
set_option maxRecDepth 100000
def seenL (L : List Lt) : List Lt := L.filter fun x => !x.gone
theorem seenL_take (L : List Lt) (j : Nat) (x : Lt) (h : L[j]? = some x) : seenL (L.take (j + 1)) = seenL (L.take j) ++ if x.gone then [] else [x] := by
  unfold seenL
  rw [List.take_add_one, h]
  cases hg : x.gone <;> simp [hg]
end Go.Proofs.YtjekalilfhnpmaaGreatDoor
namespace Go.Proofs.YtjekalilfhnpmaaGreatDoor
open Go Go.RowKit Go.Shelf
set_option linter.unusedVariables false
set_option linter.unusedSimpArgs false
set_option maxHeartbeats 4000000
set_option maxRecDepth 100000
/-- how At ends: a letter's id, or none -/
def AtEnds (k : Int) (L : List Lt) (w : World) (e : Ending) (w' : World) : Prop :=
  Below w.heap.size w w' ∧ ((0 ≤ k ∧ ∃ x, (seenL L)[k.toNat]? = some x ∧ e = .returned (.tuple #[.int .i64 x.id, .bool true])) ∨ ((k < 0 ∨ (seenL L).length ≤ k) ∧ e = .returned (.tuple #[.int .i64 0, .bool false])))
theorem seenL_app (A B : List Lt) : seenL (A ++ B) = seenL A ++ seenL B := by unfold seenL; exact List.filter_append _ _
theorem split_at {L : List Lt} {j : Nat} {x : Lt} (hx : L[j]? = some x) : L = L.take j ++ x :: L.drop (j + 1) := by
  obtain ⟨hl, rfl⟩ := List.getElem?_eq_some_iff.1 hx
  rw [← List.drop_eq_getElem_cons hl, List.take_append_drop]
theorem lineAt_pos (k : Nat) (LB : Nat) (L : List Lt) (w : World) (h : LineAt w LB L) (hn : L.length ≤ 1000) (hk : (k : Int) ≤ 9223372036854775807) :
    Calls Tryz.prog 165 #[.pointer (some ⟨LB, 0, none⟩), .int .i64 k] w (AtEnds k L w) := by
  have hlt := h.lt
  obtain ⟨v, hv, hs⟩ := h.sl
  rcases hs with ⟨rfl, rfl⟩ | ⟨g, cap, rfl, hcap, hg, hL⟩
  · clear h
    go_enter Tryz.func165, Tryz.ntmps165
    go_wp2_with fail
    go_loop [13] (fun v13 => v13 = .int .i64 0) (fun _ => 0)
    case atStart => rfl
    case round =>
      obtain rfl := hrel
      go_wp2_with fail
      go_ret2
      exact ⟨Below.refl _ _, .inr ⟨.inr (by simp [seenL]), rfl⟩⟩
  · obtain ⟨n, hn1⟩ : ∃ n, n = L.length := ⟨_, rfl⟩
    rw [← hn1] at hv hcap
    have HL := Lib.hid hL
    have HN := Lib.hid hn1
    have hn2 : n ≤ 1000 := by omega
    clear h hL hn hn1
    go_enter Tryz.func165, Tryz.ntmps165
    go_wp2_with fail
    go_loopw [1, 13] (fun v1 v13 wr => ∃ j q : Nat, v13 = .int .i64 j ∧ j ≤ n ∧ v1 = .int .i64 q ∧ Hid (k = q + (seenL (L.take j)).length) ∧ Below w.heap.size w wr) (fun _ v13 _ => n - (intOf v13).toNat)
    case atStart => exact ⟨0, k, rfl, by omega, rfl, Lib.hid (by simp [seenL]), Below.refl _ _⟩
    case round =>
      obtain ⟨j, q, rfl, hj, rfl, HQ, hB⟩ := hrel
      have HB := Lib.hid hB
      clear hB
      by_cases hlt2 : j < n
      · obtain ⟨x, hx⟩ : ∃ x, L[j]? = some x := ⟨_, List.getElem?_eq_getElem (by have := HN.out; omega)⟩
        obtain ⟨q0, q1, q2⟩ := HL.out.below hg HB.out j x hx
        have HX := Lib.hid (seenL_take L j x hx)
        have HD := Lib.hid (split_at hx)
        have i0 : (0 : Int) ≤ (j : Int) := by omega
        have i1 : (j : Int) < (n : Int) := by omega
        have q00 : (0 : Int) ≤ (q : Int) := by omega
        have HB1 := Lib.hid (HB.out.alloc HB.out.size (.cells #[.int .i64 x.id, .int .u8 x.c.toNat, .bool x.gone] 217))
        clear hx
        cases hgn : x.gone with
        | true =>
          rw [hgn] at q2 HX HB1
          have HX2 : Hid (seenL (L.take (j + 1)) = seenL (L.take j)) := Lib.hid (by rw [HX.out]; simp)
          clear HX hgn
          go_wp2_with fail
          go_roundw
          case rel => exact ⟨j + 1, q, by go_num, by omega, rfl, Lib.hid (by rw [HX2.out]; exact HQ.out), HB1.out⟩
          case measure => simp [intOf]; omega
        | false =>
          rw [hgn] at q2 HX HB1
          have HX2 : Hid (seenL (L.take (j + 1)) = seenL (L.take j) ++ [x]) := Lib.hid (by rw [HX.out]; simp)
          have HGN := Lib.hid hgn
          clear HX hgn
          rcases Nat.eq_zero_or_pos q with hq | hq
          · subst hq
            go_wp2_with fail
            go_ret2
            refine ⟨HB1.out, .inl ⟨by omega, x, ?_, rfl⟩⟩
            rw [HD.out, seenL_app]
            have e : (k : Int).toNat = (seenL (L.take j)).length := by have := HQ.out; omega
            rw [e, List.getElem?_append_right (by omega)]
            simp [seenL, HGN.out]
          · obtain ⟨r, rfl⟩ : ∃ r, q = r + 1 := ⟨q - 1, by omega⟩
            have qz : ((r : Int) + 1 == 0) = false := by simp; omega
            have qz1 : (r : Int) + 1 - 1 = (r : Int) := by omega
            have qz3 : (r : Int) + 1 ≤ 9223372036854775807 := by have := HQ.out; omega
            rw [show (((r + 1 : Nat) : Int)) = (r : Int) + 1 by omega]
            go_wp2_with fail
            go_roundw
            case rel => exact ⟨j + 1, r, by go_num, by omega, rfl, Lib.hid (by rw [HX2.out, List.length_append, List.length_singleton]; have := HQ.out; omega), HB1.out⟩
            case measure => simp [intOf]; omega
      · have hge : ¬ (j : Int) < (n : Int) := by omega
        have HE : Hid (L.take j = L) := Lib.hid (List.take_of_length_le (by have := HN.out; omega))
        clear hlt2
        go_wp2_with fail
        go_ret2
        exact ⟨HB.out, .inr ⟨.inr (by have := HQ.out; rw [HE.out] at this; omega), rfl⟩⟩
theorem lineAt_neg (k : Int) (LB : Nat) (L : List Lt) (w : World) (h : LineAt w LB L) (hn : L.length ≤ 1000) (hk : k < 0) (hk2 : -9223372036854775808 ≤ k) :
    Calls Tryz.prog 165 #[.pointer (some ⟨LB, 0, none⟩), .int .i64 k] w (AtEnds k L w) := by
  have hlt := h.lt
  obtain ⟨v, hv, hs⟩ := h.sl
  rcases hs with ⟨rfl, rfl⟩ | ⟨g, cap, rfl, hcap, hg, hL⟩
  · clear h
    go_enter Tryz.func165, Tryz.ntmps165
    go_wp2_with fail
    go_loop [13] (fun v13 => v13 = .int .i64 0) (fun _ => 0)
    case atStart => rfl
    case round =>
      obtain rfl := hrel
      go_wp2_with fail
      go_ret2
      exact ⟨Below.refl _ _, .inr ⟨.inl hk, rfl⟩⟩
  · obtain ⟨n, hn1⟩ : ∃ n, n = L.length := ⟨_, rfl⟩
    rw [← hn1] at hv hcap
    have HL := Lib.hid hL
    have HN := Lib.hid hn1
    have hn2 : n ≤ 1000 := by omega
    clear h hL hn hn1
    go_enter Tryz.func165, Tryz.ntmps165
    go_wp2_with fail
    go_loopw [1, 13] (fun v1 v13 wr => ∃ (j : Nat) (z : Int), v13 = .int .i64 j ∧ j ≤ n ∧ v1 = .int .i64 z ∧ -9223372036854775808 ≤ z ∧ (z < 0 ∨ (9223372036854775807 - j ≤ z ∧ z ≤ 9223372036854775807)) ∧ Below w.heap.size w wr) (fun _ v13 _ => n - (intOf v13).toNat)
    case atStart => exact ⟨0, k, rfl, by omega, rfl, hk2, .inl hk, Below.refl _ _⟩
    case round =>
      obtain ⟨j, z, rfl, hj, rfl, hz1, hz2, hB⟩ := hrel
      have HB := Lib.hid hB
      clear hB
      by_cases hlt2 : j < n
      · obtain ⟨x, hx⟩ : ∃ x, L[j]? = some x := ⟨_, List.getElem?_eq_getElem (by have := HN.out; omega)⟩
        obtain ⟨q0, q1, q2⟩ := HL.out.below hg HB.out j x hx
        have i0 : (0 : Int) ≤ (j : Int) := by omega
        have i1 : (j : Int) < (n : Int) := by omega
        have HB1 := Lib.hid (HB.out.alloc HB.out.size (.cells #[.int .i64 x.id, .int .u8 x.c.toNat, .bool x.gone] 217))
        clear hx
        cases hgn : x.gone with
        | true =>
          rw [hgn] at q2 HB1
          clear hgn
          have HZ1 := Lib.hid hz1
          have HZ2 := Lib.hid hz2
          clear hz1 hz2
          go_wp2_with fail
          go_roundw
          case rel => exact ⟨j + 1, z, by go_num, by omega, rfl, HZ1.out, by have := HZ2.out; omega, HB1.out⟩
          case measure => simp [intOf]; omega
        | false =>
          rw [hgn] at q2 HB1
          clear hgn
          have zz : (z == 0) = false := by simp; omega
          by_cases hm : z = -9223372036854775808
          · subst hm
            go_wp2_with fail
            go_roundw
            case rel => exact ⟨j + 1, 9223372036854775807, by go_num, by omega, by rw [show wrap64 (-9223372036854775809) = 9223372036854775807 by decide +kernel], by omega, .inr (by omega), HB1.out⟩
            case measure => simp [intOf]; omega
          · have h1 : -9223372036854775807 ≤ z := by omega
            have h2 : z ≤ 9223372036854775807 := by omega
            have HZ2 := Lib.hid hz2
            clear hz2 hm
            go_wp2_with fail
            go_roundw
            case rel => exact ⟨j + 1, z - 1, by go_num, by omega, rfl, by omega, by have := HZ2.out; omega, HB1.out⟩
            case measure => simp [intOf]; omega
      · have hge : ¬ (j : Int) < (n : Int) := by omega
        clear hlt2
        go_wp2_with fail
        go_ret2
        exact ⟨HB.out, .inr ⟨.inl hk, rfl⟩⟩
theorem lineAt_any (k : Int) (LB : Nat) (L : List Lt) (w : World) (h : LineAt w LB L) (hn : L.length ≤ 1000) (hk1 : -9223372036854775808 ≤ k) (hk2 : k ≤ 9223372036854775807) :
    Calls Tryz.prog 165 #[.pointer (some ⟨LB, 0, none⟩), .int .i64 k] w (AtEnds k L w) := by
  by_cases hk : k < 0
  · exact lineAt_neg k LB L w h hn hk hk1
  · obtain ⟨m, rfl⟩ : ∃ m : Nat, k = m := ⟨k.toNat, by omega⟩
    exact lineAt_pos m LB L w h hn hk2
end Go.Proofs.YtjekalilfhnpmaaGreatDoor
