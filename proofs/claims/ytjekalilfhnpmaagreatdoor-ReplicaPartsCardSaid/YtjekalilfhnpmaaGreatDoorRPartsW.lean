/- ReplicaParts is walked: operations joined in two parts, or in one, or again, make the same; a part that is missing is told. -/
import Derived.Test.YtjekalilfhnpmaaGreatDoorPartsM
import Derived.Test.YtjekalilfhnpmaaGreatDoorCodeR
namespace Go.Proofs.YtjekalilfhnpmaaGreatDoor
open Go Go.RowKit Go.Maps Go.Shelf LineOrd Tree
set_option linter.unusedVariables false
set_option linter.unusedSimpArgs false
set_option maxHeartbeats 20000000
set_option maxRecDepth 100000

theorem SlV.takeA {T : Type} {E : Enc T} {w : World} {A : Option Addr} {n c : Nat} {L : List T} (h : SlV E w (.slice A n c) L) {m : Nat} (hm : m ≤ n) : SlV E w (.slice A m c) (L.take m) := by
  cases A with
  | some p => exact h.take hm c (Nat.le_trans hm h.cap)
  | none =>
    rcases h with ⟨he, rfl⟩ | ⟨p, c', he, _⟩
    · cases he
      obtain rfl : m = 0 := by omega
      exact .inl ⟨rfl, rfl⟩
    · cases he
theorem SlV.dropA {w : World} {A : Option Addr} {n c : Nat} {L : List OpT} (h : SlV opE w (.slice A n c) L) (hf : (A = none ∧ n = 0 ∧ c = 0) ∨ ∃ b, A = some ⟨b, 0, none⟩) {m : Nat} (hm : m ≤ n) : SlV opE w (.slice (Option.map (fun x => x.add (m * 8)) A) (n - m) (c - m)) (L.drop m) := by
  rcases hf with ⟨rfl, rfl, rfl⟩ | ⟨b, rfl⟩
  · obtain rfl : m = 0 := by omega
    have := h.len
    obtain rfl : L = [] := List.eq_nil_of_length_eq_zero this.symm
    exact .inl ⟨rfl, rfl⟩
  · have := h.drop hm (c - m) (by have := h.cap; omega)
    have e : Option.map (fun x : Addr => x.add (m * 8)) (some ⟨b, 0, none⟩) = some ⟨b, 0 + m * opE.k, none⟩ := by rw [Option.map_some, Addr.add_lit]; rfl
    rw [e]
    exact this
theorem SlV.zero {w : World} (A : Option Addr) : SlV opE w (.slice A 0 0) [] := by
  cases A with
  | none => exact SlV.nil
  | some p => exact SlV.empty p 0
theorem rising_take {K : List OpT} (h : Rising K) (i : Nat) : Rising (K.take i) := h.sublist (List.take_sublist i K)
theorem Parts.form {R0 RA RB g cg base n c : Nat} {A : Option Addr} {K LA LB : List OpT} {w0 w : World} (h : Parts R0 RA RB g cg base (.slice A n c) K LA LB w0 w) : (A = none ∧ n = 0 ∧ c = 0) ∨ ∃ b, A = some ⟨b, 0, none⟩ := by
  obtain ⟨cs, ids, RBs, Ks, h⟩ := h
  rcases h.row.row.form with ⟨h1, _⟩ | ⟨g, cap, h1, _⟩
  · cases h1; exact .inl ⟨rfl, rfl, rfl⟩
  · cases h1; exact .inr ⟨g, rfl⟩
theorem replicaParts_any {F0 : Nat → Bool} (ea : Nat → Addr) (A : Option Addr) (n c : Nat) (Ts : List TurnT) (cut : Int) (w : World) (hG : Gd F0 ea w) (hF : ∀ k, 1 ≤ k → k ≤ 12 → F0 k = true) (f20 : F0 20 = true) (f21 : F0 21 = true)
    (hs : SlV turnE w (.slice A n c) Ts) (hc : n ≤ maxLen) (hw : ∀ x ∈ Ts, x.o.nm.size ≤ 100000 → x.o.vl.size ≤ 100000 → x.Wf) (hcut : I64 cut) :
    Calls Tryz.prog 7 #[.slice A n c, .int .i64 cut] w fun e w' => e = .returned (.bool true) ∧ Below w.heap.size w w' := by
  have f2 := hF 2 (by omega) (by omega)
  have f3 := hF 3 (by omega) (by omega)
  have f4 := hF 4 (by omega) (by omega)
  have f5 := hF 5 (by omega) (by omega)
  have f6 := hF 6 (by omega) (by omega)
  have f7 := hF 7 (by omega) (by omega)
  have f8 := hF 8 (by omega) (by omega)
  have f9 := hF 9 (by omega) (by omega)
  have f10 := hF 10 (by omega) (by omega)
  have HG := Lib.hid hG
  have HS := Lib.hid hs
  have HW := Lib.hid hw
  have HFl := Lib.hid hF
  have HBg := Lib.hid (begun_any ea w hG f2 f3 f4 f5 f6 f7 f8 f9 f21)
  obtain ⟨stF, hstF⟩ := strOf_ex
  have HstF := Lib.hid hstF
  have hm1 : n ≤ 9223372036854775807 := by unfold maxLen at hc; omega
  have HC := Lib.hid hc
  obtain ⟨c1, c2⟩ := hcut
  clear hG hs hw hstF hc hF
  go_enter Tryz.func7, Tryz.ntmps7
  go_wp2_with fail
  refine HBg.out.mono ?_
  rintro e w1 ⟨rfl, hb1⟩
  have HB1 := Lib.hid hb1
  have HLg := Lib.hid (longTurns_any A n c Ts w1 (HS.out.below hb1) HC.out)
  clear hb1 HBg
  go_wp2_with fail
  refine HLg.out.mono ?_
  rintro e w1' ⟨lb, rfl, rfl, hsh⟩
  have HSh := Lib.hid hsh
  clear hsh HLg
  cases lb with
  | true =>
    go_wp2_with fail
    go_ret
    exact ⟨rfl, HB1.out⟩
  | false =>
    by_cases h0 : cut < 0
    · go_wp2_with fail
      go_ret
      exact ⟨rfl, HB1.out⟩
    have HPl := Lib.hid (played_any ea A n c Ts w1' (HG.out.below HB1.out) f2 f3 f4 f5 f6 f7 f8 f9 f10 (HS.out.below HB1.out) (HSh.out (by first | exact rfl | trivial)).1 (fun x hx => HW.out x hx (by have := ((HSh.out (by first | exact rfl | trivial)).2 x hx).1; omega) (by have := ((HSh.out (by first | exact rfl | trivial)).2 x hx).2; omega)))
    have HGp := Lib.hid (HG.out.below HB1.out)
    have q22 : ∀ (w : World) (a : Option Addr) (n c n' c' : Nat), (binOp .eql 44 (.slice a n c) (.slice none n' c')).run Tryz.prog w = .ok (.bool a.isNone) w := fun w a n c n' c' => Lib.run_eql_slice_nil w _ _ a n c n' c' Tryz.underlying44
    go_wp2_with fail
    refine HPl.out.mono ?_
    rintro e w2 ⟨v, cs, RBs, Ks, H, rfl, hR, hrow, hFo, hH⟩
    obtain ⟨g, cg, rfl⟩ : ∃ g cg, v = .slice (some ⟨g, 0, none⟩) 4 cg := by
      rcases hrow.row.form with ⟨_, h⟩ | ⟨g, cap, h, _⟩
      · simp at h
      · exact ⟨g, cap, h⟩
    have hH60 : H.length ≤ 60 := by have := (HSh.out (by first | exact rfl | trivial)).1; omega
    have hK0 : Hid (DOk (Ks 0) ∧ Rising (Ks 0) ∧ (Ks 0).length ≤ 60) := Lib.hid ⟨hFo.ok 0 (by omega), hFo.rise 0 (by omega), Nat.le_trans (hFo.len (by omega)) hH60⟩
    have HR := Lib.hid hR
    have HRow := Lib.hid hrow
    have p0 := hrow.ptr (a := 0) (by omega)
    have HOp := Lib.hid (repOps_any _ _ _ _ w2 (hR.rep 0 (by omega)) (by have := hK0.out.2.2; omega))
    unfold ptrV at HOp
    clear hR hrow hFo hH HPl HSh HS HW HC
    go_wp2_with fail
    refine HOp.out.mono ?_
    rintro e w3 ⟨v3, rfl, hr3, hb3⟩
    have HR3 := Lib.hid hr3
    have HB3 := Lib.hid hb3
    have hlen : Hid (∃ A3 n3 c3, v3 = .slice A3 n3 c3 ∧ n3 = (Ks 0).length) := Lib.hid (by obtain ⟨A3, n3, c3, rfl⟩ := hr3.slice; exact ⟨A3, n3, c3, rfl, hr3.sl.len⟩)
    obtain ⟨A3, n3, c3, rfl, hn3⟩ := hlen.out
    have h60 : n3 ≤ 60 := by have := hK0.out.2.2; omega
    have HN3 := Lib.hid hn3
    clear hr3 hb3 hlen HOp p0 hn3
    obtain ⟨cn, rfl⟩ : ∃ cn : Nat, cut = cn := ⟨cut.toNat, by omega⟩
    by_cases hgt : n3 < cn
    · have i0 : (n3 : Int) < (cn : Int) := by omega
      go_wp2_with fail
      go_ret
      exact ⟨rfl, bel2 HB1.out (bel2 HR.out.bel HB3.out)⟩
    have i0 : ¬ (n3 : Int) < (cn : Int) := by omega
    have hGw3 : Gd F0 ea w3 := HGp.out.below (bel2 HR.out.bel HB3.out)
    have HNA := Lib.hid (newB_any ea 1 w3 hGw3 f2 (by constructor <;> omega))
    clear hGw3
    go_wp2_with fail
    refine HNA.out.mono ?_
    rintro e w4 hN
    obtain ⟨cA, RA, rfl, hRA, hb4, hgA⟩ : ∃ col RB, e = .returned (.tuple #[ptrV RB, .nilIface]) ∧ RepD col RB 1 [] w4 ∧ Below w3.heap.size w3 w4 ∧ ∀ k, col k ≠ 0 → w3.heap.size ≤ k := by
      rcases hN with ⟨_, h⟩ | ⟨h, _⟩
      · exact h
      · exact absurd ⟨by omega, by omega⟩ h
    have HRA := Lib.hid hRA
    have HB4 := Lib.hid hb4
    have HgA := Lib.hid hgA
    have HNB := Lib.hid (newB_any ea 2 w4 (HGp.out.below (bel2 (bel2 HR.out.bel HB3.out) hb4)) f2 (by constructor <;> omega))
    clear hN hRA hb4 hgA HNA
    unfold ptrV
    go_wp2_with fail
    refine HNB.out.mono ?_
    rintro e w5 hN
    obtain ⟨cB, RB, rfl, hRB, hb5, hgB⟩ : ∃ col RB, e = .returned (.tuple #[ptrV RB, .nilIface]) ∧ RepD col RB 2 [] w5 ∧ Below w4.heap.size w4 w5 ∧ ∀ k, col k ≠ 0 → w4.heap.size ≤ k := by
      rcases hN with ⟨_, h⟩ | ⟨h, _⟩
      · exact h
      · exact absurd ⟨by omega, by omega⟩ h
    obtain ⟨R0, K, base, HK, HN, HP5⟩ : ∃ (R0 : Nat) (K : List OpT) (base : Nat), Hid (DOk K ∧ Rising K ∧ K.length ≤ 60) ∧ Hid (n3 = K.length) ∧ Hid (Parts R0 RA RB g cg base (.slice A3 n3 c3) K [] [] w1' w5) := ⟨RBs 0, Ks 0, w2.heap.size, hK0, HN3, Lib.hid (Parts.start HR.out HRow.out HR3.out HB3.out HRA.out HB4.out HgA.out hRB hb5 hgB)⟩
    clear hN hRB hb5 hgB HNB HRA HB4 HgA HR HRow HR3 HB3 hK0 HN3
    have i1 : (cn : Int) ≤ (n3 : Int) := by omega
    have i2 : (0 : Int) ≤ (cn : Int) := by omega
    have hcap := Lib.hid HP5.out.sl.cap
    have i3 : (n3 : Int) ≤ (c3 : Int) := by have := hcap.out; omega
    have i4 : (cn : Int) ≤ (c3 : Int) := by omega
    unfold ptrV
    obtain ⟨G1, a1, b1, l1⟩ := join_more DOk.nil List.Pairwise.nil (HK.out.1.take HK.out.2.1 cn) (rising_take HK.out.2.1 cn) (l := K.take cn) (fun o => by simp) (by have := HK.out.2.2; simp; omega)
    obtain ⟨G2, a2, b2, l2⟩ := join_more (HK.out.1.take HK.out.2.1 cn) (rising_take HK.out.2.1 cn) HK.out.1 HK.out.2.1 (l := K) (fun o => ⟨.inr, fun h => h.elim List.mem_of_mem_take id⟩) (by have := HK.out.2.2; omega)
    obtain ⟨G3, a3, b3, l3⟩ := join_more HK.out.1 HK.out.2.1 HK.out.1 HK.out.2.1 (l := K.drop cn) (fun o => ⟨.inl, fun h => h.elim id List.mem_of_mem_drop⟩) (by have := HK.out.2.2; omega)
    have e1 : G1.length = cn := by simp at l1; have := HN.out; omega
    have e2 : (cn : Int) + (G2.length : Int) = (n3 : Int) := by simp at l2; have := HN.out; omega
    have e2b : (cn : Int) + (G2.length : Int) ≤ 9223372036854775807 := by omega
    have e2c : (0 : Int) ≤ (cn : Int) + (G2.length : Int) := by omega
    have e3 : G3.length = 0 := by omega
    have HJs := Lib.hid (And.intro (And.intro a1 b1) (And.intro (And.intro a2 b2) (And.intro a3 b3)))
    have E1 := Lib.hid e1
    have E3 := Lib.hid e3
    clear a1 b1 l1 a2 b2 l2 a3 b3 l3 e1 e3
    have HOw := Lib.hid (ownOps_any A3 cn c3 (K.take cn) w5 (HP5.out.sl.takeA (by omega)) (by have := HK.out.2.2; simp; omega))
    go_wp2_with fail
    refine HOw.out.mono ?_
    rintro e w6 ⟨v6, rfl, hr6, hb6⟩
    obtain ⟨A6, n6, c6, rfl⟩ := hr6.slice
    have HP6 := Lib.hid (HP5.out.below hb6)
    have HS6 := Lib.hid hr6.sl
    clear hr6 hb6 HOw HP5
    have HJ := Lib.hid (HP6.out.joinA HGp.out f2 f3 f4 f5 f6 f7 f8 f9 DOk.nil List.Pairwise.nil (by simp) HS6.out (by have := HK.out.2.2; simp; omega) (HK.out.1.take HK.out.2.1 cn).wf HJs.out.1.1)
    rw [HJs.out.1.2, E1.out] at HJ
    go_wp2_with fail
    refine HJ.out.mono ?_
    rintro e w7 ⟨rfl, hP7⟩
    have HP7 := Lib.hid hP7
    clear hP7 HJ HS6 HP6
    have HOw := Lib.hid (ownOps_any A3 n3 c3 (K) w7 HP7.out.sl (by have := HK.out.2.2; simp; omega))
    go_wp2_with fail
    refine HOw.out.mono ?_
    rintro e w8 ⟨v8, rfl, hr8, hb8⟩
    obtain ⟨A8, n8, c8, rfl⟩ := hr8.slice
    have HP8 := Lib.hid (HP7.out.below hb8)
    have HS8 := Lib.hid hr8.sl
    clear hr8 hb8 HOw HP7
    have HJ := Lib.hid (HP8.out.joinA HGp.out f2 f3 f4 f5 f6 f7 f8 f9 (HK.out.1.take HK.out.2.1 cn) (rising_take HK.out.2.1 cn) (by have := HK.out.2.2; simp; omega) HS8.out (by have := HK.out.2.2; omega) HK.out.1.wf HJs.out.2.1.1)
    rw [HJs.out.2.1.2] at HJ
    go_wp2_with fail
    refine HJ.out.mono ?_
    rintro e w9 ⟨rfl, hP9⟩
    have HP9 := Lib.hid hP9
    clear hP9 HJ HS8 HP8
    have hfm := Lib.hid HP9.out.form
    go_upto_region 18 with (fail)
    go_cut [12, 14] (fun v12 v14 wc => v12 = .int .i64 0 ∧ v14 = .nilIface ∧ Hid (Parts R0 RA RB g cg base (.slice A3 n3 c3) K K [] w1' wc))
    case first =>
      as_aux_lemma =>
        by_cases hcc : cn < c3
        · have i7 : (cn : Int) < (c3 : Int) := by omega
          have HOw := Lib.hid (ownOps_any (Option.map (fun x => x.add (cn * 8)) A3) (n3 - cn) (c3 - cn) (K.drop cn) w9 (HP9.out.sl.dropA hfm.out (by omega)) (by have := HK.out.2.2; simp; omega))
          go_wp2_with fail
          refine HOw.out.mono ?_
          rintro e w10 ⟨v10, rfl, hr10, hb10⟩
          obtain ⟨A10, n10, c10, rfl⟩ := hr10.slice
          have HPx := Lib.hid (HP9.out.below hb10)
          have HS10 := Lib.hid hr10.sl
          clear hr10 hb10 HOw
          have HJ := Lib.hid (HPx.out.joinA HGp.out f2 f3 f4 f5 f6 f7 f8 f9 HK.out.1 HK.out.2.1 (by have := HK.out.2.2; omega) HS10.out (by have := HK.out.2.2; simp; omega) (fun o ho => HK.out.1.wf o (List.mem_of_mem_drop ho)) HJs.out.2.2.1)
          rw [HJs.out.2.2.2, E3.out] at HJ
          go_wp2_with fail
          refine HJ.out.mono ?_
          rintro e w11 ⟨rfl, hP11⟩
          have HP11 := Lib.hid hP11
          clear hP11 HJ HS10 HPx
          go_wp2_with fail
          go_meet
          case rel => exact ⟨rfl, rfl, HP11⟩
        · obtain rfl : c3 = cn := by have := hcap.out; omega
          have e9 : n3 - c3 = 0 := by have := hcap.out; omega
          have hd0 : K.drop c3 = [] := List.drop_eq_nil_of_le (by have := HN.out; omega)
          rw [hd0] at HJs
          have HOw := Lib.hid (ownOps_any A3 0 0 ([]) w9 (SlV.zero A3) (by simp))
          go_wp2_with fail
          refine HOw.out.mono ?_
          rintro e w10 ⟨v10, rfl, hr10, hb10⟩
          obtain ⟨A10, n10, c10, rfl⟩ := hr10.slice
          have HPx := Lib.hid (HP9.out.below hb10)
          have HS10 := Lib.hid hr10.sl
          clear hr10 hb10 HOw
          have HJ := Lib.hid (HPx.out.joinA HGp.out f2 f3 f4 f5 f6 f7 f8 f9 HK.out.1 HK.out.2.1 (by have := HK.out.2.2; omega) HS10.out (by simp) (fun o ho => by cases ho) HJs.out.2.2.1)
          rw [HJs.out.2.2.2, E3.out] at HJ
          go_wp2_with fail
          refine HJ.out.mono ?_
          rintro e w11 ⟨rfl, hP11⟩
          have HP11 := Lib.hid hP11
          clear hP11 HJ HS10 HPx
          go_wp2_with fail
          go_meet
          case rel => exact ⟨rfl, rfl, HP11⟩
    case rest =>
      obtain ⟨rfl, rfl, HP12⟩ := hcut
      clear HP9
      go_upto_region 21 with (fail)
      go_cut [123] (fun v wd => ∃ fb : Bool, v = .bool fb ∧ wd = wc ∧ Hid (fb = true ↔ cn < n3 ∧ 0 < cn))
      case first =>
        as_aux_lemma =>
          by_cases hlt : cn < n3
          · have i8 : (cn : Int) < (n3 : Int) := by omega
            by_cases hpo : 0 < cn
            · have i9 : (0 : Int) < (cn : Int) := by omega
              go_wp2_with fail
              go_meet
              case rel => exact ⟨true, rfl, rfl, Lib.hid ⟨fun _ => ⟨hlt, hpo⟩, fun _ => rfl⟩⟩
            · have i9 : ¬ (0 : Int) < (cn : Int) := by omega
              go_wp2_with fail
              go_meet
              case rel => exact ⟨false, rfl, rfl, Lib.hid ⟨fun h => (by cases h), fun h => absurd h.2 hpo⟩⟩
          · have i8 : ¬ (cn : Int) < (n3 : Int) := by omega
            go_wp2_with fail
            go_meet
            case rel => exact ⟨false, rfl, rfl, Lib.hid ⟨fun h => (by cases h), fun h => absurd h.1 hlt⟩⟩
      case rest =>
      obtain ⟨fb, rfl, rfl, Hfb⟩ := hcut
      go_upto_if 123 with (fail)
      go_cut [15, 16, 17, 18, 19] (fun _ _ _ _ _ wd => ∃ LB, Hid (DOk LB ∧ Rising LB ∧ (∀ o ∈ LB, o ∈ K) ∧ LB.length ≤ 60) ∧ Hid (Parts R0 RA RB g cg base (.slice A3 n3 c3) K K LB w1' wd))
      case first =>
        as_aux_lemma =>
          cases fb with
          | false =>
            go_wp2_with fail
            go_meet
            case rel => exact ⟨[], Lib.hid ⟨DOk.nil, List.Pairwise.nil, by simp, by simp⟩, HP12⟩
          | true =>
          obtain ⟨hlt, hpo⟩ := Hfb.out.1 (by first | exact rfl | trivial)
          have i8 : (cn : Int) < (n3 : Int) := by omega
          have i9 : (0 : Int) < (cn : Int) := by omega
          have i7 : (cn : Int) < (c3 : Int) := by have := hcap.out; omega
          obtain ⟨R, hR⟩ : ∃ R, joinP [] (K.drop cn) = R := ⟨_, rfl⟩
          have HR := Lib.hid hR
          clear hR
          have HOw := Lib.hid (ownOps_any (Option.map (fun x => x.add (cn * 8)) A3) (n3 - cn) (c3 - cn) (K.drop cn) wc (HP12.out.sl.dropA hfm.out (by omega)) (by have := HK.out.2.2; simp; omega))
          go_wp2_with fail
          refine HOw.out.mono ?_
          rintro e w13 ⟨v13, rfl, hr13, hb13⟩
          obtain ⟨A13, n13, c13, rfl⟩ := hr13.slice
          have HP13 := Lib.hid (HP12.out.below hb13)
          have HS13 := Lib.hid hr13.sl
          clear hr13 hb13 HOw
          have HJ := Lib.hid (HP13.out.joinB HGp.out f2 f3 f4 f5 f6 f7 f8 f9 DOk.nil List.Pairwise.nil (by simp) HS13.out (by have := HK.out.2.2; simp; omega) (fun o ho => HK.out.1.wf o (List.mem_of_mem_drop ho)))
          rw [HR.out] at HJ
          go_wp2_with fail
          refine HJ.out.mono ?_
          rintro e w14 hB
          obtain ⟨kq, ev, LB, rfl, HEv, HLB, HP14⟩ : ∃ (kq : Nat) (ev : Value) (LB : List OpT), e = .returned (.tuple #[.int .i64 kq, ev]) ∧ Hid (ev = .nilIface ∧ (∃ G, R = .inr G) ∨ ∃ p : Nat × Int, R = .inl p ∧ ErrVal ea w14 ev p.1 p.2 ∧ p.1 ≠ 0 ∧ LB = []) ∧ Hid (DOk LB ∧ Rising LB ∧ (∀ o ∈ LB, o ∈ K) ∧ LB.length ≤ 60) ∧ Hid (Parts R0 RA RB g cg base (.slice A3 n3 c3) K K LB w1' w14) := by
            cases R with
            | inl p =>
              obtain ⟨ev, he, hv, h0, hP⟩ := hB
              exact ⟨0, ev, [], he, Lib.hid (.inr ⟨p, rfl, hv, h0, rfl⟩), Lib.hid ⟨DOk.nil, List.Pairwise.nil, by simp, by simp⟩, Lib.hid hP⟩
            | inr G =>
              obtain ⟨he, hP⟩ := hB
              obtain ⟨q1, q2, q3, q4⟩ := late_part HK.out.1 HK.out.2.1 cn HR.out
              exact ⟨G.length, .nilIface, sortOps G, he, Lib.hid (.inl ⟨rfl, G, rfl⟩), Lib.hid ⟨q1, q2, q3, by rw [(sortOps_perm G).length_eq]; have := HK.out.2.2; omega⟩, Lib.hid hP⟩
          clear hB HJ HS13 HP13
          go_wp2_with fail
          go_loopw [17, 18, 19] (fun v17 v18 _ wr => ∃ (j : Nat) (gb : Bool), cn ≤ j ∧ j ≤ n3 ∧ v17 = .bool gb ∧ v18 = .int .i64 j ∧ Hid (gb = true → ∃ p q, p ∈ K.drop cn ∧ q ∈ K.take cn ∧ p.b = q.b) ∧ Hid (Below w14.heap.size w14 wr)) (fun _ v18 _ _ => n3 - (RowKit.intOf v18).toNat)
          case atStart => exact ⟨cn, false, by omega, by omega, rfl, rfl, Lib.hid (fun h => by cases h), Lib.hid (Below.refl _ _)⟩
          case round =>
            obtain ⟨j, gb, hj1, hj2, rfl, rfl, HGb, HBj⟩ := hrel
            by_cases hjn : j < n3
            · have k1 : (j : Int) < (n3 : Int) := by omega
              have k0 : (0 : Int) ≤ (j : Int) := by omega
              obtain ⟨x, hx⟩ : ∃ x, K[j]? = some x := ⟨_, List.getElem?_eq_getElem (by have := HN.out; omega)⟩
              have HX := Lib.hid hx
              obtain ⟨bb, off, hA3, _⟩ := ops_at HP14.out.sl hx
              subst hA3
              clear hx
              go_wp2_with fail
              go_loopw [17, 19] (fun v17 v19 wr2 => ∃ (t : Nat) (gb : Bool), t ≤ cn ∧ v17 = .bool gb ∧ v19 = .int .i64 t ∧ Hid (gb = true → ∃ p q, p ∈ K.drop cn ∧ q ∈ K.take cn ∧ p.b = q.b) ∧ Hid (Below w14.heap.size w14 wr2)) (fun _ v19 _ => cn - (RowKit.intOf v19).toNat)
              case atStart => exact ⟨0, gb, by omega, rfl, rfl, HGb, HBj⟩
              case round =>
                as_aux_lemma =>
                  clear HBj HGb
                  obtain ⟨t, gb2, ht, rfl, rfl, HGb, HBj⟩ := hrel
                  by_cases htc : t < cn
                  · have t1 : (t : Int) < (cn : Int) := by omega
                    have t0 : (0 : Int) ≤ (t : Int) := by omega
                    have t2 : (t : Int) < (n3 : Int) := by omega
                    obtain ⟨y, hy⟩ : ∃ y, K[t]? = some y := ⟨_, List.getElem?_eq_getElem (by have := HN.out; omega)⟩
                    have HY := Lib.hid hy
                    obtain ⟨b1, o1, e1, _, _, q1, _⟩ := ops_at (HP14.out.below HBj.out).sl HX.out
                    obtain ⟨b2, o2, e2, _, _, q2, _⟩ := ops_at (HP14.out.below HBj.out).sl hy
                    cases e1
                    cases e2
                    clear hy
                    have HW : ∀ nq, Hid (Below w14.heap.size w14 (wr.drewN nq)) := fun nq => Lib.hid (below_drawn HBj.out nq)
                    by_cases he : x.b = y.b
                    · have heb : (x.b == y.b) = true := by simpa using he
                      have HG2 : Hid (∃ p q, p ∈ K.drop cn ∧ q ∈ K.take cn ∧ p.b = q.b) := Lib.hid ⟨x, y, List.mem_of_getElem? (i := j - cn) (by rw [List.getElem?_drop, show cn + (j - cn) = j by omega]; exact HX.out), List.mem_of_getElem? (i := t) (by rw [List.getElem?_take, if_pos htc]; exact HY.out), he⟩
                      clear he
                      go_wp2_with fail
                      go_quiet (fail)
                      rename_i nq
                      have HB2 := HW nq
                      clear q1 q2 HW
                      generalize wr.drewN nq = wq at HB2 ⊢
                      go_wp2_with fail
                      go_roundw
                      case rel => exact ⟨t + 1, true, by omega, rfl, by go_num, Lib.hid fun _ => HG2.out, HB2⟩
                      case measure => simp [RowKit.intOf]; omega
                    · have heb : (x.b == y.b) = false := by simpa using he
                      clear he
                      go_wp2_with fail
                      go_quiet (fail)
                      rename_i nq
                      have HB2 := HW nq
                      clear q1 q2 HW
                      generalize wr.drewN nq = wq at HB2 ⊢
                      go_wp2_with fail
                      go_roundw
                      case rel => exact ⟨t + 1, gb2, by omega, rfl, by go_num, HGb, HB2⟩
                      case measure => simp [RowKit.intOf]; omega
                  · obtain rfl : t = cn := by omega
                    have t1 : ¬ (t : Int) < (t : Int) := by omega
                    go_wp2_with fail
                    go_roundw
                    case rel => exact ⟨j + 1, gb2, by omega, by omega, rfl, by go_num, HGb, HBj⟩
                    case measure => simp [RowKit.intOf]; omega
            · obtain rfl : j = n3 := by omega
              have k1 : ¬ (j : Int) < (j : Int) := by omega
              have HP15 := Lib.hid (HP14.out.below HBj.out)
              have HEv2 : Hid (ev = .nilIface ∧ (∃ G, R = .inr G) ∨ ∃ p : Nat × Int, R = .inl p ∧ ErrVal ea wr ev p.1 p.2 ∧ p.1 ≠ 0 ∧ LB = []) := Lib.hid (HEv.out.imp id fun ⟨p, h1, h2, h3⟩ => ⟨p, h1, h2.below HBj.out, h3⟩)
              go_upto_region 32 with (fail)
              go_cut [163] (fun v163 wd => v163 = .bool false ∧ Hid (Below wr.heap.size wr wd))
              case first =>
                as_aux_lemma =>
                  cases gb with
                  | false =>
                    go_wp2_with fail
                    go_meet
                    case rel => exact ⟨rfl, Lib.hid (Below.refl _ _)⟩
                  | true =>
                    have hv : ErrVal ea wr ev 9 (-1) := by
                      obtain ⟨p, q, hp, hq, hb⟩ := HGb.out (by first | exact rfl | trivial)
                      have hgt := gap_told HK.out.1 HK.out.2.1 _ hp hq hb
                      rw [HR.out] at hgt
                      rcases HEv2.out with ⟨_, G, hG⟩ | ⟨p, hp, hv, _⟩
                      · rw [hG] at hgt; cases hgt
                      · rw [hp] at hgt; cases hgt; exact hv
                    have hGw := HGp.out.below HP15.out.bel
                    have HCo : Hid (Calls Tryz.prog 36 #[ev, .int .i64 9] wr fun e w' => e = .returned (.bool true) ∧ Below wr.heap.size wr w') := Lib.hid ((coded2_any ea ev 9 (-1) 9 wr hv (hGw.all HFl.out) (hGw.tv f20)).mono fun e w' h => ⟨by rw [h.1]; simp, h.2⟩)
                    clear hv hGw
                    go_wp2_with fail
                    refine HCo.out.mono ?_
                    rintro e wE ⟨rfl, hbE⟩
                    have HBE := Lib.hid hbE
                    clear hbE HCo
                    go_wp2_with fail
                    go_meet
                    case rel => exact ⟨rfl, HBE⟩
              case rest =>
                as_aux_lemma =>
                  obtain ⟨rfl, HBd⟩ := hcut
                  have HP16 := Lib.hid (HP15.out.below HBd.out)
                  rcases HEv2.out with ⟨hev, _⟩ | ⟨p, _, hv, h0, hL⟩
                  · subst hev
                    go_wp2_with fail
                    go_meet
                    case rel => exact ⟨LB, HLB, HP16⟩
                  · obtain ⟨t, u, rfl⟩ := errVal_ne hv h0
                    subst hL
                    have HSt := Lib.hid (HP16.out.state HGp.out f21 (R := RB) (L := []) (.inr (.inl ⟨rfl, rfl⟩)) DOk.nil (by simp))
                    have HOpB := Lib.hid (fun w' hb => (HP16.out.below (w' := w') hb).ops (R := RB) (L := []) (.inr ⟨rfl, rfl⟩) (by simp))
                    clear hv h0
                    go_wp2_with fail
                    refine HSt.out.mono ?_
                    rintro e wS ⟨str, rfl, hso, hbS⟩
                    obtain rfl := StateOf.unique DOk.nil hso state0
                    have HBS := Lib.hid hbS
                    clear hso hbS HSt
                    go_wp2_with fail
                    refine (HOpB.out _ HBS.out).mono ?_
                    rintro e wO ⟨A', n', c', rfl, hn', _, hbO⟩
                    obtain rfl : n' = 0 := hn'
                    have HP17 := Lib.hid ((HP16.out.below HBS.out).below hbO)
                    clear hbO HOpB
                    go_wp2_with fail
                    go_meet
                    case rel => exact ⟨[], HLB, HP17⟩
      case rest =>
        as_aux_lemma =>
          obtain ⟨LB, HLB, HP20⟩ := hcut
          obtain ⟨G4, a4, b4, l4⟩ := join_more HLB.out.1 HLB.out.2.1 HK.out.1 HK.out.2.1 (l := K) (fun o => ⟨.inr, fun h => h.elim (HLB.out.2.2.1 o) id⟩) (by have := HK.out.2.2; omega)
          have HA4 := Lib.hid (And.intro a4 b4)
          clear a4 b4 l4
          have HOw := Lib.hid (ownOps_any A3 n3 c3 (K) wc HP20.out.sl (by have := HK.out.2.2; omega))
          go_wp2_with fail
          refine HOw.out.mono ?_
          rintro e w21 ⟨v21, rfl, hr21, hb21⟩
          obtain ⟨A21, n21, c21, rfl⟩ := hr21.slice
          have HP21 := Lib.hid (HP20.out.below hb21)
          have HS21 := Lib.hid hr21.sl
          clear hr21 hb21 HOw HP20
          have HJ := Lib.hid (HP21.out.joinB HGp.out f2 f3 f4 f5 f6 f7 f8 f9 HLB.out.1 HLB.out.2.1 (by have := HLB.out.2.2.2; omega) HS21.out (by have := HK.out.2.2; omega) HK.out.1.wf)
          rw [HA4.out.1] at HJ
          go_wp2_with fail
          refine HJ.out.mono ?_
          rintro e w22 ⟨rfl, hP⟩
          rw [HA4.out.2] at hP
          have HP22 := Lib.hid hP
          have HStA : Hid (∀ R, R = RA ∨ R = RB ∨ R = R0 → ∀ w', Below w22.heap.size w22 w' → Calls Tryz.prog 18 #[.pointer (some ⟨R, 0, none⟩)] w' fun e w'' => e = .returned (.string (stF K)) ∧ Below w'.heap.size w' w'') := Lib.hid fun R hR w' hb => by
            refine ((HP22.out.below hb).state HGp.out f21 (R := R) (L := K) (hR.elim (fun h => .inl ⟨h, rfl⟩) fun h => h.elim (fun h => .inr (.inl ⟨h, rfl⟩)) fun h => .inr (.inr ⟨h, rfl⟩)) HK.out.1 (by have := HK.out.2.2; omega)).mono ?_
            rintro e w'' ⟨str, rfl, hso, hbl⟩
            exact ⟨by rw [HstF.out _ _ HK.out.1 hso], hbl⟩
          have HOpA : Hid (∀ w', Below w22.heap.size w22 w' → Calls Tryz.prog 14 #[.pointer (some ⟨RA, 0, none⟩)] w' fun e w'' => ∃ A n c, e = .returned (.slice A n c) ∧ n = K.length ∧ SlV opE w'' (.slice A n c) K ∧ Below w'.heap.size w' w'') := Lib.hid fun w' hb => (HP22.out.below hb).ops (R := RA) (L := K) (.inl ⟨rfl, rfl⟩) (by have := HK.out.2.2; omega)
          have HSC5 : Hid (∀ w', Below w22.heap.size w22 w' → Below w22.heap.size w22 w' ∧ w'.cell? ⟨g, 0, none⟩ = some (.pointer (some ⟨R0, 0, none⟩))) := Lib.hid fun w' hb => ⟨hb, (HP22.out.below hb).cell⟩
          have HSl := Lib.hid HP22.out.sl
          have HLk := Lib.hid (show K.length ≤ 100000 by have := HK.out.2.2; omega)
          have HBw := Lib.hid (bel2 HB1.out HP22.out.bel)
          clear hP HJ HS21 HP21 HP22 HGp HstF HJs E1 E3 HLB HA4 HN HK q22 hcap hfm HG HFl
          go_upto_region 37 with (fail)
          go_region_held_law (fun w' => Below w22.heap.size w22 w' ∧ w'.cell? ⟨g, 0, none⟩ = some (.pointer (some ⟨R0, 0, none⟩))) (exact HSC5.out _ (by go_grown))
            (first
              | (go_at_call 18; refine (HStA.out _ (by first | exact Or.inl rfl | exact Or.inr (Or.inl rfl) | exact Or.inr (Or.inr rfl)) _ (by go_grown)).mono ?_; rintro e wA ⟨rfl, hbA⟩; have hA := bel2 (w0 := w22) (by go_grown) hbA; have sA := hA.size)
              | (go_at_call 14; refine (HOpA.out _ (by go_grown)).mono ?_; rintro e wA ⟨A1, n1, c1', rfl, -, hs1, hbA⟩; have hA := bel2 (w0 := w22) (by go_grown) hbA; have sA := hA.size)
              | (go_at_call 20; refine (sameOps_any _ _ _ _ _ _ K _ (by first | assumption | exact SlV.below (by assumption) (by assumption)) (HSl.out.below (by go_grown)) HLk.out).mono ?_; rintro e wA ⟨rfl, hbA⟩; have hA := bel2 (w0 := w22) (by go_grown) hbA; have sA := hA.size))
          all_goals
            rename_i hH
            clear hH
            go_wp2_with fail
            go_ret
            exact ⟨rfl, bel2 HBw.out (by assumption)⟩
end Go.Proofs.YtjekalilfhnpmaaGreatDoor
