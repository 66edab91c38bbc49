/- LineActs: the walk of the law. -/
import Derived.Test.YthlojjknpfijmaaDoorLineActsS
namespace Go.Proofs.YthlojjknpfijmaaDoor
open Go Go.RowKit Go.Shelf
set_option linter.unusedVariables false
set_option linter.unusedSimpArgs false
set_option maxHeartbeats 4000000
set_option maxRecDepth 100000
namespace lineActs

theorem walk {F : Nat → Bool} (a : Nat → Addr) (A : Option Addr) (n c : Nat) (xs : List ActT) (at' : Int) (w : World) (hG : Gd F a w) (hF : ∀ k, 1 ≤ k → k ≤ 12 → F k = true) (f20 : F 20 = true) (hn : n = xs.length) (hx : ActsAt w A xs) (hn2 : n ≤ 60) (ha1 : -9223372036854775808 ≤ at') (ha2 : at' ≤ 9223372036854775807) :
    Calls Tryd.prog 6 #[.slice A n c, .int .i64 at'] w fun e w' => e = .returned (.bool true) ∧ Below w.heap.size w w' := by
  have f3 := hF 3 (by omega) (by omega)
  have f6 := hF 6 (by omega) (by omega)
  have f7 := hF 7 (by omega) (by omega)
  have HGE : Hid (∀ w', Below w.heap.size w w' → Errs a allErrs w' ∧ TypeVar w') := Lib.hid fun w' hb => ⟨(hG.below hb).all hF, (hG.below hb).tv f20⟩
  have HG := Lib.hid hG
  have HN := Lib.hid hn
  have HX := Lib.hid hx
  clear hG hn hx hF
  go_enter Tryd.func6, Tryd.ntmps6
  go_wp2_with fail
  refine (lined_any a w HG.out f3 f6 f7).mono ?_
  rintro e w1 ⟨rfl, hb1⟩
  have HB1 := Lib.hid hb1
  clear hb1
  have hn60 : ¬ (60 : Int) < (n : Int) := by omega
  go_wp2_with fail
  refine (line_new _).mono ?_
  rintro e w2 ⟨rfl, rfl⟩
  have HT : Hid (Two w w1.heap.size (w1.heap.size + 1) (.slice none 0 0) (.slice none 0 0) [] ((w1.alloc (.cells #[.slice none 0 0] 113)).alloc (.cells #[.slice none 0 0] 46))) := Lib.hid (by
    have hs := HB1.out.size
    refine ⟨(LK.start HB1.out).below ((Below.refl _ _).alloc (Nat.le_refl _) _), ⟨by simp [go_sem], fun o => by simp [go_sem], Rw.nil _ _ _ _, by simp [Value.ownBlock], by omega⟩, fun k h1 h2 => ?_⟩
    rcases h1 with h1 | h1
    · rcases h2 with h2 | h2
      · omega
      · simp [Value.ownBlock] at h2
    · simp [Value.ownBlock] at h1)
  go_wp2_with fail
  obtain ⟨LB, hLB⟩ : ∃ LB, LB = w1.heap.size := ⟨_, rfl⟩
  obtain ⟨MB, hMB⟩ : ∃ MB, MB = LB + 1 := ⟨_, rfl⟩
  obtain ⟨W, hW⟩ : ∃ W, W = ((w1.alloc (.cells #[.slice none 0 0] 113)).alloc (.cells #[.slice none 0 0] 46)) := ⟨_, rfl⟩
  rw [← hW, ← hLB, ← hMB] at HT
  rw [← hW, ← hLB, ← hMB]
  clear hW hMB hLB HB1
  go_loopw [8] (fun v8 wr => ∃ (j : Nat) (v mv : Value) (L : List Lt), j ≤ n ∧ v8 = .int .i64 j ∧ Two w LB MB v mv L wr ∧ L.length ≤ j) (fun v8 _ => n - (intOf v8).toNat)
  case atStart => exact ⟨0, _, _, [], by omega, rfl, HT.out, by simp⟩
  case round =>
    clear HT
    obtain ⟨j, v, mv, L, hj, rfl, hT, hl⟩ := hrel
    have HT := Lib.hid hT
    clear hT
    by_cases hlt : j < n
    · obtain ⟨x, hx⟩ : ∃ x, xs[j]? = some x := ⟨_, List.getElem?_eq_getElem (by have := HN.out; omega)⟩
      obtain ⟨b, off, rfl, hbl, cc⟩ := HX.out.at' hx
      have hbel := HT.out.k.bel
      have e0 := (hbel.cell (p := ⟨b, off + j * 4, none⟩) hbl).trans cc.1
      have e1 := (hbel.cell (p := ⟨b, off + j * 4 + 1, none⟩) hbl).trans cc.2.1
      have e2 := (hbel.cell (p := ⟨b, off + j * 4 + 2, none⟩) hbl).trans cc.2.2.1
      have e3 := (hbel.cell (p := ⟨b, off + j * 4 + 3, none⟩) hbl).trans cc.2.2.2
      clear hx cc hbel
      have i0 : (0 : Int) ≤ (j : Int) := by omega
      have i1 : (j : Int) < (n : Int) := by omega
      obtain ⟨tb, htb⟩ : ∃ tb, (x.kind.toList == [105, 110, 115, 101, 114, 116]) = tb := ⟨_, rfl⟩
      go_upto_if 41 with (fail)
      have HTB := Lib.hid htb
      clear htb e0 e1 e2 e3
      have HT1 := Lib.hid (HT.out.below ((Below.refl _ _).alloc (Nat.le_refl _) (.cells #[.string x.kind, .int .i64 x.id, .int .i64 x.behind, .int .u8 x.c.toNat] 35)))
      have hc : (wr.alloc (.cells #[.string x.kind, .int .i64 x.id, .int .i64 x.behind, .int .u8 x.c.toNat] 35)).cell? ⟨wr.heap.size, 1, none⟩ = some (.int .i64 x.id) ∧ (wr.alloc (.cells #[.string x.kind, .int .i64 x.id, .int .i64 x.behind, .int .u8 x.c.toNat] 35)).cell? ⟨wr.heap.size, 2, none⟩ = some (.int .i64 x.behind) ∧ (wr.alloc (.cells #[.string x.kind, .int .i64 x.id, .int .i64 x.behind, .int .u8 x.c.toNat] 35)).cell? ⟨wr.heap.size, 3, none⟩ = some (.int .u8 x.c.toNat) := ⟨by simp [go_sem], by simp [go_sem], by simp [go_sem]⟩
      obtain ⟨AB, hAB⟩ : ∃ AB, AB = wr.heap.size := ⟨_, rfl⟩
      obtain ⟨W1, hW1⟩ : ∃ W1, W1 = wr.alloc (.cells #[.string x.kind, .int .i64 x.id, .int .i64 x.behind, .int .u8 x.c.toNat] 35) := ⟨_, rfl⟩
      have HXA : Hid (∀ k, Own LB v k → k ≠ AB) := Lib.hid fun k hk => by have := (HT.out.k.own_lt k hk).2; omega
      have HXM : Hid (∀ k, Own MB mv k → k ≠ AB) := Lib.hid fun k hk => by have := (HT.out.m_lt k hk).2; omega
      rw [← hW1] at HT1
      rw [← hW1, ← hAB] at hc ⊢
      have HC := Lib.hid hc
      clear hW1 hAB hc HT
      go_cut [] (fun wc => ∃ v' mv' L', Two w LB MB v' mv' L' wc ∧ L'.length ≤ L.length + 1)
      case first =>
        cases tb with
        | true =>
          obtain ⟨ke, hke⟩ : ∃ ke, ke = insErr x.id x.behind L := ⟨_, rfl⟩
          have HKL : ke ≤ 12 := by rw [hke]; exact insErr_le _ _ _
          have HD : Hid (Two w LB MB v mv L W1.drew) := Lib.hid (HT1.out.below (Below.refl _ _).drew)
          have HI := Lib.hid (lineInsert_err3 a w LB v x.id x.behind x.c L W1.drew HG.out f3 f6 f7 HD.out.k (by omega))
          have HMI : Hid (∀ w', MSt w.heap.size MB mv L w' → w.heap.size ≤ w'.heap.size → Calls Tryd.prog 24 #[.pointer (some ⟨MB, 0, none⟩), .int .i64 x.id, .int .i64 x.behind, .int .u8 x.c.toNat] w' fun e w'' => e = .returned (.int .i64 (ke : Int)) ∧ ∃ v', MSt w.heap.size MB v' (insAfter x.id x.behind x.c L) w'' ∧ Fr (Own MB mv) w' w'' ∧ ∀ k, v'.ownBlock = some k → mv.ownBlock = some k ∨ w'.heap.size ≤ k) :=
            Lib.hid fun w' h1 h2 => (mInsert_any w.heap.size MB mv x.id x.behind x.c L w' h2 (by omega) h1).mono fun e w'' ⟨h3, v', h4, h5, h6⟩ => ⟨by rw [h3, hke], v', h4, h5.mono (fun k hk => .inl hk), h6⟩
          rw [← hke] at HI
          have k0 := Cl.below (AB := AB) (x := x) (Below.refl W1.heap.size W1).drew HC.out
          have HK0 := Lib.hid k0
          clear k0 hke
          obtain ⟨E, hE⟩ : ∃ E, E = errOf a ke := ⟨_, rfl⟩
          rw [← hE] at HI
          have HCo : Hid (∀ w', Below w.heap.size w w' → Calls Tryd.prog 23 #[E, .int .i64 (ke : Int)] w' fun e w'' => e = .returned (.bool true) ∧ Below w'.heap.size w' w'') := Lib.hid fun w' hb => by rw [hE]; exact coded_same a ke w' HKL (HGE.out w' hb).1 (HGE.out w' hb).2
          clear hE
          go_wp2_with fail
          go_region_held3 (fun w' => w'.cell? ⟨AB, 1, none⟩ = some (.int .i64 x.id) ∧ w'.cell? ⟨AB, 2, none⟩ = some (.int .i64 x.behind) ∧ w'.cell? ⟨AB, 3, none⟩ = some (.int .u8 x.c.toNat))
            ((first | exact HK0.out | exact Cl.fr HXA.out (by assumption) (by assumption) | exact Cl.fr HXM.out (by assumption) (by assumption) | exact Cl.below (by assumption) (by assumption)))
            (first
              | (go_at_call 15; refine HI.out.mono ?_; rintro e wA ⟨rfl, vA, hkA, hfA, hnA⟩)
              | (go_at_call 24; refine (HMI.out _ (HD.out.mid hfA) hkA.bel.size).mono ?_; rintro e wB ⟨rfl, vB, hmB, hgB, hnB⟩; have hTB := HD.out.step hkA hfA hnA hmB hgB hnB)
              | (go_at_call 23; refine (HCo.out _ hTB.k.bel).mono ?_; rintro e wC ⟨rfl, hbC⟩))
          have HTC := Lib.hid (hTB.below hbC)
          clear hTB hbC hkA hfA hnA hmB hgB hnB HI HMI HCo HD HK0 HT1
          go_wp2_with fail
          go_meet
          case rel => exact ⟨vA, vB, _, HTC.out, by unfold insAfter; split; rw [insL_len]; omega; omega⟩
        | false =>
          obtain ⟨ke, hke⟩ : ∃ ke : Nat, ke = if ixOf x.id L < 0 then 6 else 0 := ⟨_, rfl⟩
          have HKL : ke ≤ 12 := by rw [hke]; split <;> omega
          have HD : Hid (Two w LB MB v mv L W1.drew) := Lib.hid (HT1.out.below (Below.refl _ _).drew)
          have HI := Lib.hid (lineDelete_err3 a w LB v x.id L W1.drew HG.out f6 HD.out.k (by omega))
          have HMI : Hid (∀ w', MSt w.heap.size MB mv L w' → w.heap.size ≤ w'.heap.size → Calls Tryd.prog 25 #[.pointer (some ⟨MB, 0, none⟩), .int .i64 x.id] w' fun e w'' => e = .returned (.int .i64 (ke : Int)) ∧ MSt w.heap.size MB mv (delL x.id L) w'' ∧ Fr (Own MB mv) w' w'') :=
            Lib.hid fun w' h1 h2 => (mdelete_any w.heap.size MB mv x.id L w' h2 (by omega) h1).mono fun e w'' ⟨h3, h4, h5⟩ => ⟨by rw [h3, hke]; split <;> rfl, h4, h5.mono (fun k hk => hk)⟩
          rw [← hke] at HI
          have k0 := Cl.below (AB := AB) (x := x) (Below.refl W1.heap.size W1).drew HC.out
          have HK0 := Lib.hid k0
          clear k0 hke
          obtain ⟨E, hE⟩ : ∃ E, E = errOf a ke := ⟨_, rfl⟩
          rw [← hE] at HI
          have HCo : Hid (∀ w', Below w.heap.size w w' → Calls Tryd.prog 23 #[E, .int .i64 (ke : Int)] w' fun e w'' => e = .returned (.bool true) ∧ Below w'.heap.size w' w'') := Lib.hid fun w' hb => by rw [hE]; exact coded_same a ke w' HKL (HGE.out w' hb).1 (HGE.out w' hb).2
          clear hE
          go_wp2_with fail
          go_region_held3 (fun w' => w'.cell? ⟨AB, 1, none⟩ = some (.int .i64 x.id) ∧ w'.cell? ⟨AB, 2, none⟩ = some (.int .i64 x.behind) ∧ w'.cell? ⟨AB, 3, none⟩ = some (.int .u8 x.c.toNat))
            ((first | exact HK0.out | exact Cl.fr HXA.out (by assumption) (by assumption) | exact Cl.fr HXM.out (by assumption) (by assumption) | exact Cl.below (by assumption) (by assumption)))
            (first
              | (go_at_call 19; refine HI.out.mono ?_; rintro e wA ⟨rfl, hkA, hfA⟩)
              | (go_at_call 25; refine (HMI.out _ (HD.out.mid hfA) hkA.bel.size).mono ?_; rintro e wB ⟨rfl, hmB, hgB⟩; have hTB := HD.out.step hkA hfA (fun k h => .inl h) hmB hgB (fun k h => .inl h))
              | (go_at_call 23; refine (HCo.out _ hTB.k.bel).mono ?_; rintro e wC ⟨rfl, hbC⟩))
          have HTC := Lib.hid (hTB.below hbC)
          clear hTB hbC hkA hfA hmB hgB HI HMI HCo HD HK0 HT1
          go_wp2_with fail
          go_meet
          case rel => exact ⟨v, mv, _, HTC.out, by rw [delL_len]; omega⟩
      case rest =>
        obtain ⟨v', mv', L', hT2, hl2⟩ := hcut
        have HT2 := Lib.hid hT2
        clear hT2 HT1 HXA HXM HC
        obtain ⟨T, hT⟩ : ∃ T, T = S (txtL L') := ⟨_, rfl⟩
        have HTx : Hid (∀ w', Two w LB MB v' mv' L' w' → Calls Tryd.prog 16 #[.pointer (some ⟨LB, 0, none⟩)] w' fun e w'' => e = .returned (.string T) ∧ Below w'.heap.size w' w'') := Lib.hid fun w' h => by rw [hT]; exact line_text LB L' w' h.k.st.at' (by omega)
        have HTm : Hid (∀ w', Two w LB MB v' mv' L' w' → Calls Tryd.prog 26 #[.pointer (some ⟨MB, 0, none⟩)] w' fun e w'' => e = .returned (.string T) ∧ Below w'.heap.size w' w'') := Lib.hid fun w' h => by rw [hT]; exact mtext_any w.heap.size MB mv' L' w' (by omega) h.m
        clear hT
        go_wp2_with fail
        refine (HTx.out _ HT2.out).mono ?_
        rintro e w4 ⟨rfl, hb4⟩
        have HT4 := Lib.hid (HT2.out.below hb4)
        clear hb4
        go_wp2_with fail
        refine (HTm.out _ HT4.out).mono ?_
        rintro e w5 ⟨rfl, hb5⟩
        have HT5 := Lib.hid (HT4.out.below hb5)
        clear hb5 HTx HTm
        go_wp2_with fail
        go_roundw
        case rel => exact ⟨j + 1, v', mv', L', by omega, by go_num, HT5.out, by omega⟩
        case measure => simp [intOf]; omega
    · have hjn : ¬ (j : Int) < (n : Int) := by omega
      go_wp2_with fail
      refine (line_ids LB L _ HT.out.k.st.at' (by omega)).mono ?_
      rintro e w3 ⟨A1, c1, rfl, hi1, hb3⟩
      obtain ⟨p, hp⟩ : ∃ p, p = (idsL L).length := ⟨_, rfl⟩
      rw [← hp]
      have hpl : L.length = p := by rw [hp]; unfold idsL; simp
      have HP := Lib.hid hp
      have HPL := Lib.hid hpl
      have HI1 := Lib.hid hi1
      have HT3 := Lib.hid (HT.out.below hb3)
      have hsl := HT3.out.m.own.sl
      obtain ⟨A2, c2, hv2, hc2⟩ := hsl.form
      have hptr := HT3.out.m.ptr
      rw [hv2] at hptr hsl
      rw [hpl] at hptr hsl
      have HM := Lib.hid hsl
      have hp2 : p ≤ 1000 := by omega
      clear hp hpl hi1 hb3 hv2 hc2 hsl HT
      have hpp : ((p : Int) != (p : Int)) = false := by simp
      go_wp2_with fail
      go_loopw [11] (fun v11 wr => ∃ k : Nat, k ≤ p ∧ v11 = .int .i64 k ∧ Below w3.heap.size w3 wr) (fun v11 _ => p - (intOf v11).toNat)
      case atStart => exact ⟨0, by omega, rfl, Below.refl _ _⟩
      case round =>
        obtain ⟨k, hk, rfl, hb⟩ := hrel
        have HB := Lib.hid hb
        have hptr2 := (hb.cell (p := ⟨MB, 0, none⟩) HT3.out.m.lt).trans hptr
        clear hb
        by_cases hkp : k < p
        · obtain ⟨y, hy⟩ : ∃ y, L[k]? = some y := ⟨_, List.getElem?_eq_getElem (by have := HPL.out; omega)⟩
          obtain ⟨b1, o1, rfl, hb1, cc1⟩ := (HI1.out.at'.below HB.out).at' (j := k) (x := y.id) (by unfold idsL; rw [List.getElem?_map, hy]; rfl)
          obtain ⟨b2, o2, rfl, hb2, cc2⟩ := (HM.out.below HB.out).at' (by decide) hy
          have d2 : wr.cell? ⟨b2, o2 + k * 3, none⟩ = some (.int .i64 y.id) := cc2 0 _ rfl
          have k0 : (0 : Int) ≤ (k : Int) := by omega
          have k1 : (k : Int) < (p : Int) := by omega
          have yy : (y.id != y.id) = false := by simp
          clear hy cc2 hb1 hb2
          go_wp2_with fail
          go_quiet (fail)
          rename_i nq
          have HB2 := Lib.hid (HB.out.trans (below_drewN w3.heap.size _ nq))
          go_wp2_with fail
          go_roundw
          case rel => exact ⟨k + 1, by omega, by go_num, HB2.out⟩
          case measure => simp [intOf]; omega
        · have hkp2 : ¬ (k : Int) < (p : Int) := by omega
          have HT4 := Lib.hid (HT3.out.below HB.out)
          clear hptr2
          go_wp2_with fail
          refine (mseen_any w.heap.size MB mv L _ (by have := HPL.out; omega) HT4.out.m).mono ?_
          rintro e w5 ⟨vs, rfl, hR5, hb5⟩
          obtain ⟨A5, c5, hv5, hc5⟩ := hR5.sl.form
          subst hv5
          obtain ⟨q, hq⟩ : ∃ q, q = (seenL L).length := ⟨_, rfl⟩
          rw [← hq] at hR5 ⊢
          have HQ := Lib.hid hq
          have HR5 := Lib.hid hR5
          have HT5 := Lib.hid (HT4.out.below hb5)
          have hq2 : q ≤ 1000 := by have := seenL_len L; have := HPL.out; omega
          clear hq hR5 hb5 hc5 hptr HT4 HT3 HI1
          go_wp2_with fail
          refine (lineAt_any at' LB L _ HT5.out.k.st.at' (by have := HPL.out; omega) ha1 ha2).mono ?_
          rintro e w6 ⟨hb6, he6⟩
          have HB6 := Lib.hid (HT5.out.below hb6).k.bel
          have HR6 := Lib.hid (HR5.out.below hb6).sl
          clear hb6
          rcases he6 with ⟨h0, x, hx, rfl⟩ | ⟨h0, rfl⟩
          · obtain ⟨t, rfl⟩ : ∃ t : Nat, at' = t := ⟨at'.toNat, by omega⟩
            rw [Int.toNat_natCast] at hx
            have htq : t < q := by have := (List.getElem?_eq_some_iff.1 hx).1; have := HQ.out; omega
            obtain ⟨b7, o7, rfl, hb7, cc7⟩ := HR6.out.at' (by decide) hx
            have d7 : w6.cell? ⟨b7, o7 + t * 3, none⟩ = some (.int .i64 x.id) := cc7 0 _ rfl
            have t0 : ¬ (t : Int) < 0 := by omega
            have t0' : (0 : Int) ≤ (t : Int) := by omega
            have t1 : ¬ (q : Int) ≤ (t : Int) := by omega
            have t1' : (t : Int) < (q : Int) := by omega
            have xx : (x.id == x.id) = true := by simp
            clear hx cc7 hb7 h0
            go_wp2_with fail
            go_ret
            exact ⟨rfl, HB6.out⟩
          · have hh : at' < 0 ∨ (¬ at' < 0 ∧ (q : Int) ≤ at') := by have := HQ.out; omega
            clear h0
            rcases hh with h | ⟨h, h'⟩
            · go_wp2_with fail
              go_ret
              exact ⟨rfl, HB6.out⟩
            · go_wp2_with fail
              go_ret
              exact ⟨rfl, HB6.out⟩
theorem walk_long {F : Nat → Bool} (a : Nat → Addr) (A : Option Addr) (n c : Nat) (at' : Int) (w : World) (hG : Gd F a w) (f3 : F 3 = true) (f6 : F 6 = true) (f7 : F 7 = true) (hn : 60 < n) :
    Calls Tryd.prog 6 #[.slice A n c, .int .i64 at'] w fun e w' => e = .returned (.bool true) ∧ Below w.heap.size w w' := by
  have HG := Lib.hid hG
  clear hG
  go_enter Tryd.func6, Tryd.ntmps6
  go_wp2_with fail
  refine (lined_any a w HG.out f3 f6 f7).mono ?_
  rintro e w1 ⟨rfl, hb1⟩
  have HB1 := Lib.hid hb1
  clear hb1
  have hn60 : (60 : Int) < (n : Int) := by omega
  go_wp2_with fail
  go_ret
  exact ⟨rfl, HB1.out⟩
theorem whole {F : Nat → Bool} (a : Nat → Addr) (A : Option Addr) (n c : Nat) (xs : List ActT) (at' : Int) (w : World) (hG : Gd F a w) (hF : ∀ k, 1 ≤ k → k ≤ 12 → F k = true) (f20 : F 20 = true) (hn : n = xs.length) (hx : ActsAt w A xs) (ha1 : -9223372036854775808 ≤ at') (ha2 : at' ≤ 9223372036854775807) :
    Calls Tryd.prog 6 #[.slice A n c, .int .i64 at'] w fun e w' => e = .returned (.bool true) ∧ Below w.heap.size w w' := by
  by_cases h : n ≤ 60
  · exact walk a A n c xs at' w hG hF f20 hn hx h ha1 ha2
  · exact walk_long a A n c at' w hG (hF 3 (by omega) (by omega)) (hF 6 (by omega) (by omega)) (hF 7 (by omega) (by omega)) (by omega)
end lineActs
end Go.Proofs.YthlojjknpfijmaaDoor
