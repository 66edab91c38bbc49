/- The document's line: a letter inserted. -/
import Derived.Test.YthlojjknpfijmaaDoorMLine
namespace Go.Proofs.YthlojjknpfijmaaDoor
open Go Go.RowKit Go.Shelf
set_option linter.unusedVariables false
set_option linter.unusedSimpArgs false
set_option maxHeartbeats 4000000
set_option maxRecDepth 100000

/-- what an insertion into the document's line makes -/
def MInsEnd (base MB : Nat) (v : Value) (id behind : Int) (c : UInt8) (L : List Lt) (w : World) (e : Ending) (w' : World) : Prop :=
  e = .returned (.int .i64 (insErr id behind L : Nat)) ∧ ∃ v', MSt base MB v' (insAfter id behind c L) w' ∧ Fr (fun k => k = MB) w w' ∧ ∀ k, v'.ownBlock = some k → v.ownBlock = some k ∨ w.heap.size ≤ k

theorem mins_bad (base MB : Nat) (id behind : Int) (c : UInt8) (w : World) (hb : id < 4 ∨ 4294967300 ≤ id ∨ behind < 0 ∨ id ≤ behind) :
    Calls Tryd.prog 24 #[.pointer (some ⟨MB, 0, none⟩), .int .i64 id, .int .i64 behind, .int .u8 c.toNat] w fun e w' => e = .returned (.int .i64 3) ∧ Below w.heap.size w w' := by
  rcases (show id < 4 ∨ (¬ id < 4 ∧ 4294967299 < id) ∨ (¬ id < 4 ∧ ¬ 4294967299 < id ∧ behind < 0) ∨ (¬ id < 4 ∧ ¬ 4294967299 < id ∧ ¬ behind < 0 ∧ id ≤ behind) by omega) with h1 | ⟨h1, h2⟩ | ⟨h1, h2, h3⟩ | ⟨h1, h2, h3, h4⟩
  all_goals
    clear hb
    go_enter Tryd.func24, Tryd.ntmps24
    go_wp2_with fail
    go_ret
    exact ⟨rfl, Below.refl _ _⟩

theorem mins_exist (base MB : Nat) (v : Value) (id behind : Int) (c : UInt8) (L : List Lt) (w : World) (hn : L.length ≤ 1000) (h : MSt base MB v L w) (h1 : ¬ id < 4) (h2 : ¬ 4294967299 < id) (h3 : ¬ behind < 0) (h4 : ¬ id ≤ behind) (hx : 0 ≤ ixOf id L) :
    Calls Tryd.prog 24 #[.pointer (some ⟨MB, 0, none⟩), .int .i64 id, .int .i64 behind, .int .u8 c.toNat] w fun e w' => e = .returned (.int .i64 7) ∧ Below w.heap.size w w' := by
  have HF := Lib.hid (mfind_any id base MB v L w hn h)
  generalize ixOf id L = k at HF hx
  clear h
  go_enter Tryd.func24, Tryd.ntmps24
  go_wp2_with fail
  refine HF.out.mono ?_
  rintro e w1 ⟨rfl, hb⟩
  have HB := Lib.hid hb
  clear hb
  go_wp2_with fail
  go_ret
  exact ⟨rfl, HB.out⟩

theorem mins_none (base MB : Nat) (v : Value) (id behind : Int) (c : UInt8) (L : List Lt) (w : World) (hn : L.length ≤ 1000) (h : MSt base MB v L w) (h1 : ¬ id < 4) (h2 : ¬ 4294967299 < id) (h3 : 0 < behind) (h4 : ¬ id ≤ behind) (hx : ixOf id L < 0) (hy : ixOf behind L < 0) :
    Calls Tryd.prog 24 #[.pointer (some ⟨MB, 0, none⟩), .int .i64 id, .int .i64 behind, .int .u8 c.toNat] w fun e w' => e = .returned (.int .i64 6) ∧ Below w.heap.size w w' := by
  have HF := Lib.hid (mfind_any id base MB v L w hn h)
  have HF2 := Lib.hid (fun w h => mfind_any behind base MB v L w hn h)
  have H := Lib.hid h
  have h3' : ¬ behind < 0 := by omega
  generalize ixOf id L = k at HF hx
  generalize ixOf behind L = k2 at HF2 hy
  have hx' : ¬ 0 ≤ k := by omega
  clear h
  go_enter Tryd.func24, Tryd.ntmps24
  go_wp2_with fail
  refine HF.out.mono ?_
  rintro e w1 ⟨rfl, hb⟩
  have HB := Lib.hid hb
  clear hb
  go_wp2_with fail
  refine (HF2.out _ (H.out.below HB.out)).mono ?_
  rintro e w2 ⟨rfl, hb⟩
  have HB2 := Lib.hid (HB.out.trans (hb.mono HB.out.size))
  clear hb
  go_wp2_with fail
  go_ret
  exact ⟨rfl, HB2.out⟩

theorem mins_ok (base MB : Nat) (v : Value) (id behind : Int) (c : UInt8) (L : List Lt) (w : World) (hb : base ≤ w.heap.size) (hn : L.length ≤ 1000) (h : MSt base MB v L w) (h1 : ¬ id < 4) (h2 : ¬ 4294967299 < id) (h3 : ¬ behind < 0) (h4 : ¬ id ≤ behind) (hx : ixOf id L < 0) (hy : ¬ (0 < behind ∧ ixOf behind L < 0)) :
    Calls Tryd.prog 24 #[.pointer (some ⟨MB, 0, none⟩), .int .i64 id, .int .i64 behind, .int .u8 c.toNat] w fun e w' => e = .returned (.int .i64 0) ∧ ∃ v', MSt base MB v' (insL id behind c L) w' ∧ Fr (fun k => k = MB) w w' ∧ ∀ k, v'.ownBlock = some k → w.heap.size ≤ k := by
  have HF := Lib.hid (mfind_any id base MB v L w hn h)
  have HF2 := Lib.hid (fun w h => mfind_any behind base MB v L w hn h)
  have H := Lib.hid h
  have hlt2 := ixOf_lt behind L
  have HIF : Hid (insFrom behind L = if 0 < behind then (ixOf behind L + 1).toNat else 0) := Lib.hid rfl
  generalize ixOf id L = k at HF hx
  generalize ixOf behind L = k2 at HF2 hy hlt2 HIF
  have hx' : ¬ 0 ≤ k := by omega
  have hk2b : k2 ≤ 1000 := by omega
  have hlt := h.lt
  obtain ⟨n, hn1⟩ : ∃ n, n = L.length := ⟨_, rfl⟩
  have hs := h.own.sl
  obtain ⟨A, cp, hv, hc⟩ := hs.form
  have hp := h.ptr
  rw [hv] at hp hs
  rw [← hn1] at hp hs hc hlt2 hn
  have HN := Lib.hid hn1
  have HS := Lib.hid hs
  clear h hs hv hn1
  go_enter Tryd.func24, Tryd.ntmps24
  go_wp2_with fail
  refine HF.out.mono ?_
  rintro e w1 ⟨rfl, hb1⟩
  have HB1 := Lib.hid hb1
  clear hb1 HF
  obtain ⟨fr, hfr⟩ : ∃ fr : Nat, fr = insFrom behind L := ⟨_, rfl⟩
  have hfrn : fr ≤ n := by rw [hfr, HIF.out]; split <;> omega
  have HFR := Lib.hid hfr
  have hloop : ∀ (w2 : World), Below w.heap.size w w2 → w2.cell? ⟨MB, 0, none⟩ = some (.slice A n cp) ∧ SlV letE w2 (.slice A n cp) L := fun w2 hb2 => ⟨(hb2.cell (p := ⟨MB, 0, none⟩) hlt).trans hp, HS.out.below hb2⟩
  have HLo := Lib.hid hloop
  clear hloop hfr hp
  by_cases hb0 : 0 < behind
  · have hk2 : ¬ k2 < 0 := by omega
    have hbz : (behind == 0) = false := by simp; omega
    have hfe : k2 + 1 = (fr : Int) := by rw [HFR.out, HIF.out, if_pos hb0]; omega
    have HFE := Lib.hid hfe
    clear hfe
    go_wp2_with fail
    refine (HF2.out _ (H.out.below HB1.out)).mono ?_
    rintro e w1' ⟨rfl, hb⟩
    have HB1' := Lib.hid (HB1.out.trans (hb.mono HB1.out.size))
    clear hb
    go_wp2_with fail
    refine (HF2.out _ (H.out.below HB1'.out)).mono ?_
    rintro e w2 ⟨rfl, hb⟩
    have HB2 := Lib.hid (HB1'.out.trans (hb.mono HB1'.out.size))
    clear hb
    obtain ⟨p2, hs2⟩ := HLo.out w2 HB2.out
    have HS2 := Lib.hid hs2
    clear hs2
    go_wp2_with fail
    go_loop [9] (fun v9 => ∃ j : Nat, fr ≤ j ∧ j ≤ n ∧ v9 = .int .i64 j ∧ ∀ i x, fr ≤ i → i < j → L[i]? = some x → id < x.id) (fun v9 => n - (intOf v9).toNat)
    case atStart => exact ⟨fr, Nat.le_refl _, hfrn, by rw [HFE.out], fun i x h1 h2 => by omega⟩
    case round =>
      obtain ⟨j, hfj, hjn, rfl, hno⟩ := hrel
      have HNo := Lib.hid hno
      clear hno
      have j0 : (0 : Int) ≤ (j : Int) := by omega
      by_cases hlt2 : j < n
      · obtain ⟨x, hx⟩ : ∃ x, L[j]? = some x := ⟨_, List.getElem?_eq_getElem (by have := HN.out; omega)⟩
        obtain ⟨b, off, rfl, hbl, hcc⟩ := HS2.out.at' (by decide) hx
        have q0 : w2.cell? ⟨b, off + j * 3, none⟩ = some (.int .i64 x.id) := hcc 0 _ rfl
        have j1 : (j : Int) < (n : Int) := by omega
        have HX := Lib.hid hx
        clear hx hcc hbl
        by_cases hg : id < x.id
        · have HG := Lib.hid hg
          go_wp2_with fail
          go_round
          case rel => exact ⟨j + 1, by omega, by omega, by go_num, fun i y h1 h2 h3 => by
            by_cases e : i = j
            · subst e; rw [HX.out] at h3; cases h3; exact HG.out
            · exact HNo.out i y h1 (by omega) h3⟩
          case measure => simp [intOf]; omega
        · have HG := Lib.hid hg
          have HAT : Hid (insAt L fr id = j) := Lib.hid (insAt_is hfj (by have := HN.out; omega) HNo.out (fun y hy => by rw [HX.out] at hy; cases hy; exact HG.out))
          have HLy := Lib.hid (mlay_any base MB v j ⟨id, c, false⟩ L w2 (by have := HB2.out.size; omega) (by have := HN.out; omega) (by have := HN.out; omega) (H.out.below HB2.out))
          go_wp2_with fail
          refine HLy.out.mono ?_
          rintro e w3 ⟨rfl, v3, hm3, hf3, hv3⟩
          have HM3 := Lib.hid hm3
          have HF3 := Lib.hid ((Fr.of_below (X := fun k => k = MB) HB2.out).trans hf3)
          have HV3 := Lib.hid hv3
          clear hm3 hf3 hv3 HLy
          go_wp2_with fail
          go_ret
          exact ⟨rfl, v3, by unfold insL; rw [← HFR.out, HAT.out]; exact HM3.out, HF3.out, fun k hk => by have := HV3.out k hk; have := HB2.out.size; omega⟩
      · have hjn2 : ¬ (j : Int) < (n : Int) := by omega
        have HAT : Hid (insAt L fr id = j) := Lib.hid (insAt_is hfj (by have := HN.out; omega) HNo.out (fun y hy => by have := (List.getElem?_eq_some_iff.1 hy).1; have := HN.out; omega))
        have HLy := Lib.hid (mlay_any base MB v j ⟨id, c, false⟩ L w2 (by have := HB2.out.size; omega) (by have := HN.out; omega) (by have := HN.out; omega) (H.out.below HB2.out))
        go_wp2_with fail
        refine HLy.out.mono ?_
        rintro e w3 ⟨rfl, v3, hm3, hf3, hv3⟩
        have HM3 := Lib.hid hm3
        have HF3 := Lib.hid ((Fr.of_below (X := fun k => k = MB) HB2.out).trans hf3)
        have HV3 := Lib.hid hv3
        clear hm3 hf3 hv3 HLy
        go_wp2_with fail
        go_ret
        exact ⟨rfl, v3, by unfold insL; rw [← HFR.out, HAT.out]; exact HM3.out, HF3.out, fun k hk => by have := HV3.out k hk; have := HB2.out.size; omega⟩
  · have hbe : behind = 0 := by omega
    subst hbe
    have HFE : Hid (fr = 0) := Lib.hid (by rw [HFR.out, HIF.out, if_neg (by omega)])
    go_wp2_with fail
    refine (HF2.out _ (H.out.below HB1.out)).mono ?_
    rintro e w2 ⟨rfl, hb⟩
    have HB2 := Lib.hid (HB1.out.trans (hb.mono HB1.out.size))
    clear hb
    obtain ⟨p2, hs2⟩ := HLo.out w2 HB2.out
    have HS2 := Lib.hid hs2
    clear hs2
    go_wp2_with fail
    go_loop [9] (fun v9 => ∃ j : Nat, fr ≤ j ∧ j ≤ n ∧ v9 = .int .i64 j ∧ ∀ i x, fr ≤ i → i < j → L[i]? = some x → id < x.id) (fun v9 => n - (intOf v9).toNat)
    case atStart => exact ⟨fr, Nat.le_refl _, hfrn, by rw [HFE.out]; rfl, fun i x h1 h2 => by omega⟩
    case round =>
      obtain ⟨j, hfj, hjn, rfl, hno⟩ := hrel
      have HNo := Lib.hid hno
      clear hno
      have j0 : (0 : Int) ≤ (j : Int) := by omega
      by_cases hlt2 : j < n
      · obtain ⟨x, hx⟩ : ∃ x, L[j]? = some x := ⟨_, List.getElem?_eq_getElem (by have := HN.out; omega)⟩
        obtain ⟨b, off, rfl, hbl, hcc⟩ := HS2.out.at' (by decide) hx
        have q0 : w2.cell? ⟨b, off + j * 3, none⟩ = some (.int .i64 x.id) := hcc 0 _ rfl
        have j1 : (j : Int) < (n : Int) := by omega
        have HX := Lib.hid hx
        clear hx hcc hbl
        by_cases hg : id < x.id
        · have HG := Lib.hid hg
          go_wp2_with fail
          go_round
          case rel => exact ⟨j + 1, by omega, by omega, by go_num, fun i y h1 h2 h3 => by
            by_cases e : i = j
            · subst e; rw [HX.out] at h3; cases h3; exact HG.out
            · exact HNo.out i y h1 (by omega) h3⟩
          case measure => simp [intOf]; omega
        · have HG := Lib.hid hg
          have HAT : Hid (insAt L fr id = j) := Lib.hid (insAt_is hfj (by have := HN.out; omega) HNo.out (fun y hy => by rw [HX.out] at hy; cases hy; exact HG.out))
          have HLy := Lib.hid (mlay_any base MB v j ⟨id, c, false⟩ L w2 (by have := HB2.out.size; omega) (by have := HN.out; omega) (by have := HN.out; omega) (H.out.below HB2.out))
          go_wp2_with fail
          refine HLy.out.mono ?_
          rintro e w3 ⟨rfl, v3, hm3, hf3, hv3⟩
          have HM3 := Lib.hid hm3
          have HF3 := Lib.hid ((Fr.of_below (X := fun k => k = MB) HB2.out).trans hf3)
          have HV3 := Lib.hid hv3
          clear hm3 hf3 hv3 HLy
          go_wp2_with fail
          go_ret
          exact ⟨rfl, v3, by unfold insL; rw [← HFR.out, HAT.out]; exact HM3.out, HF3.out, fun k hk => by have := HV3.out k hk; have := HB2.out.size; omega⟩
      · have hjn2 : ¬ (j : Int) < (n : Int) := by omega
        have HAT : Hid (insAt L fr id = j) := Lib.hid (insAt_is hfj (by have := HN.out; omega) HNo.out (fun y hy => by have := (List.getElem?_eq_some_iff.1 hy).1; have := HN.out; omega))
        have HLy := Lib.hid (mlay_any base MB v j ⟨id, c, false⟩ L w2 (by have := HB2.out.size; omega) (by have := HN.out; omega) (by have := HN.out; omega) (H.out.below HB2.out))
        go_wp2_with fail
        refine HLy.out.mono ?_
        rintro e w3 ⟨rfl, v3, hm3, hf3, hv3⟩
        have HM3 := Lib.hid hm3
        have HF3 := Lib.hid ((Fr.of_below (X := fun k => k = MB) HB2.out).trans hf3)
        have HV3 := Lib.hid hv3
        clear hm3 hf3 hv3 HLy
        go_wp2_with fail
        go_ret
        exact ⟨rfl, v3, by unfold insL; rw [← HFR.out, HAT.out]; exact HM3.out, HF3.out, fun k hk => by have := HV3.out k hk; have := HB2.out.size; omega⟩

theorem mInsert_any (base MB : Nat) (v : Value) (id behind : Int) (c : UInt8) (L : List Lt) (w : World) (hb : base ≤ w.heap.size) (hn : L.length ≤ 1000) (h : MSt base MB v L w) :
    Calls Tryd.prog 24 #[.pointer (some ⟨MB, 0, none⟩), .int .i64 id, .int .i64 behind, .int .u8 c.toNat] w (MInsEnd base MB v id behind c L w) := by
  have hstay : ∀ {k : Nat} {w' : World}, k ≠ 0 → insErr id behind L = k → Below w.heap.size w w' → MInsEnd base MB v id behind c L w (.returned (.int .i64 (k : Int))) w' := fun {k w'} hk he hb => by
    unfold MInsEnd insAfter
    rw [he, if_neg hk]
    exact ⟨rfl, v, h.below hb, Fr.of_below hb, fun k h => .inl h⟩
  by_cases hs : id < 4 ∨ 4294967300 ≤ id ∨ behind < 0 ∨ id ≤ behind
  · refine (mins_bad base MB id behind c w hs).mono ?_
    rintro e w' ⟨rfl, hb⟩
    exact hstay (k := 3) (by decide) (by unfold insErr; rw [if_pos hs]) hb
  · by_cases hx : 0 ≤ ixOf id L
    · refine (mins_exist base MB v id behind c L w hn h (by omega) (by omega) (by omega) (by omega) hx).mono ?_
      rintro e w' ⟨rfl, hb⟩
      exact hstay (k := 7) (by decide) (by unfold insErr; rw [if_neg hs, if_pos hx]) hb
    · by_cases hy : 0 < behind ∧ ixOf behind L < 0
      · refine (mins_none base MB v id behind c L w hn h (by omega) (by omega) hy.1 (by omega) (by omega) hy.2).mono ?_
        rintro e w' ⟨rfl, hb⟩
        exact hstay (k := 6) (by decide) (by unfold insErr; rw [if_neg hs, if_neg hx, if_pos hy]) hb
      · refine (mins_ok base MB v id behind c L w hb hn h (by omega) (by omega) (by omega) (by omega) (by omega) hy).mono ?_
        rintro e w' ⟨rfl, v', h5, h6, h7⟩
        have he : insErr id behind L = 0 := by unfold insErr; rw [if_neg hs, if_neg hx, if_neg hy]
        unfold MInsEnd insAfter
        rw [he, if_pos rfl]
        exact ⟨rfl, v', h5, h6, fun k hk => .inr (h7 k hk)⟩
end Go.Proofs.YthlojjknpfijmaaDoor
