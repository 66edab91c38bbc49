/- LineKeeps: the walk of the law. -/
import Derived.Test.YthlojjknpfijmaaDoorLineK
import Derived.StillTailTactics
namespace Go.Proofs.YthlojjknpfijmaaDoor
open Go Go.RowKit Go.Shelf
set_option linter.unusedVariables false
set_option linter.unusedSimpArgs false
set_option maxHeartbeats 4000000
set_option maxRecDepth 100000

/-- an act that comes in -/
structure ActT where
  kind : ByteArray
  id : Int
  behind : Int
  c : UInt8
/-- acts that lie one behind the other -/
def ActsAt (w : World) (A : Option Addr) (xs : List ActT) : Prop :=
  xs = [] ∨ ∃ b off, A = some ⟨b, off, none⟩ ∧ b < w.heap.size ∧ ∀ i x, xs[i]? = some x → w.cell? ⟨b, off + i * 4, none⟩ = some (.string x.kind) ∧ w.cell? ⟨b, off + i * 4 + 1, none⟩ = some (.int .i64 x.id) ∧ w.cell? ⟨b, off + i * 4 + 2, none⟩ = some (.int .i64 x.behind) ∧ w.cell? ⟨b, off + i * 4 + 3, none⟩ = some (.int .u8 x.c.toNat)
theorem ActsAt.at' {w : World} {A : Option Addr} {xs : List ActT} (h : ActsAt w A xs) {i : Nat} {x : ActT} (hx : xs[i]? = some x) : ∃ b off, A = some ⟨b, off, none⟩ ∧ b < w.heap.size ∧ w.cell? ⟨b, off + i * 4, none⟩ = some (.string x.kind) ∧ w.cell? ⟨b, off + i * 4 + 1, none⟩ = some (.int .i64 x.id) ∧ w.cell? ⟨b, off + i * 4 + 2, none⟩ = some (.int .i64 x.behind) ∧ w.cell? ⟨b, off + i * 4 + 3, none⟩ = some (.int .u8 x.c.toNat) := by
  rcases h with rfl | ⟨b, off, hA, hb, hc⟩
  · simp at hx
  · exact ⟨b, off, hA, hb, hc i x hx⟩
/-- the act's three numbers, and what stands all along -/
structure A3 (w0 : World) (LB : Nat) (v : Value) (L : List Lt) (b o : Nat) (x : ActT) (w : World) : Prop where
  bl : b < w0.heap.size
  c1 : w.cell? ⟨b, o + 1, none⟩ = some (.int .i64 x.id)
  c2 : w.cell? ⟨b, o + 2, none⟩ = some (.int .i64 x.behind)
  c3 : w.cell? ⟨b, o + 3, none⟩ = some (.int .u8 x.c.toNat)
  k : LK w0 LB v L w

def insertT : ByteArray := ⟨#[105, 110, 115, 101, 114, 116]⟩
/-- behind an act -/
def Acted (w0 : World) (LB : Nat) (v : Value) (L : List Lt) (w w' : World) : Prop := ∃ v' L', LK w0 LB v' L' w' ∧ Fr (Own LB v) w w' ∧ L.length ≤ L'.length ∧ L'.length ≤ L.length + 1 ∧ (idsL L).Sublist (idsL L')

namespace lineKeeps
theorem walk {F : Nat → Bool} (a : Nat → Addr) (A : Option Addr) (n c : Nat) (xs : List ActT) (w : World) (hG : Gd F a w) (f3 : F 3 = true) (f6 : F 6 = true) (f7 : F 7 = true) (hn : n = xs.length) (hx : ActsAt w A xs) (hn2 : n ≤ 60) :
    Calls Tryd.prog 4 #[.slice A n c] w fun e w' => e = .returned (.bool true) ∧ Below w.heap.size w w' := by
  have HG := Lib.hid hG
  have HN := Lib.hid hn
  have HX := Lib.hid hx
  clear hG hn hx
  go_enter Tryd.func4, Tryd.ntmps4
  go_wp2_with fail
  refine (lined_any a w HG.out f3 f6 f7).mono ?_
  rintro e w1 ⟨rfl, hb1⟩
  have HB1 := Lib.hid hb1
  clear hb1
  have hn60 : ¬ (60 : Int) < (n : Int) := by omega
  go_wp2_with fail
  refine (line_new _).mono ?_
  rintro e w2 ⟨rfl, rfl⟩
  have HK := Lib.hid (LK.start HB1.out)
  obtain ⟨LB, hLB⟩ : ∃ LB, LB = w1.heap.size := ⟨_, rfl⟩
  obtain ⟨W, hW⟩ : ∃ W, W = w1.alloc (.cells #[.slice none 0 0] 113) := ⟨_, rfl⟩
  rw [← hW, ← hLB] at HK
  rw [← hW, ← hLB]
  clear hW hLB HB1
  go_wp2_with fail
  go_loopw [5] (fun v5 wr => ∃ (j : Nat) (v : Value) (L : List Lt), j ≤ n ∧ v5 = .int .i64 j ∧ LK w LB v L wr ∧ L.length ≤ j) (fun v5 _ => n - (intOf v5).toNat)
  case atStart => exact ⟨0, _, [], by omega, rfl, HK.out, by simp⟩
  case round =>
    clear HK
    obtain ⟨j, v, L, hj, rfl, hK, hl⟩ := hrel
    have HK := Lib.hid hK
    clear hK
    by_cases hlt : j < n
    · obtain ⟨x, hx⟩ : ∃ x, xs[j]? = some x := ⟨_, List.getElem?_eq_getElem (by have := HN.out; omega)⟩
      obtain ⟨b, off, rfl, hbl, cc⟩ := HX.out.at' hx
      have HC := Lib.hid cc
      clear hx cc
      have i0 : (0 : Int) ≤ (j : Int) := by omega
      have i1 : (j : Int) < (n : Int) := by omega
      go_wp2_with fail
      refine (line_ids LB L _ HK.out.st.at' (by omega)).mono ?_
      rintro e w3 ⟨A1, c1, rfl, hi1, hb3⟩
      obtain ⟨p, hp⟩ : ∃ p, p = (idsL L).length := ⟨_, rfl⟩
      rw [← hp]
      have HP := Lib.hid hp
      have HI1 := Lib.hid hi1
      have HK3 := Lib.hid (HK.out.below hb3)
      have hlo := hb3.size
      clear hp hi1 hb3
      go_wp2_with fail
      refine (line_text LB L _ HK3.out.st.at' (by omega)).mono ?_
      rintro e w4 ⟨rfl, hb4⟩
      obtain ⟨T, hT⟩ : ∃ T, T = S (txtL L) := ⟨_, rfl⟩
      rw [← hT]
      have HT : Hid (T.size = (txtL L).length) := Lib.hid (by rw [hT, S_size])
      have hTl : T.size ≤ 1000 := by have := txtL_len L; rw [HT.out]; omega
      have HI4 := Lib.hid (HI1.out.below hb4)
      have HK4 := Lib.hid (HK3.out.below hb4)
      have hlo4 := hb4.size
      clear hT hb4
      have kc := HK4.out.bel.cell (p := ⟨b, off + j * 4, none⟩) hbl
      rw [HC.out.1] at kc
      obtain ⟨tb, htb⟩ : ∃ tb, (x.kind.toList == [105, 110, 115, 101, 114, 116]) = tb := ⟨_, rfl⟩
      go_upto_if 40 with (fail)
      have HTB := Lib.hid htb
      clear htb
      go_cut [8] (fun v8 wc => Acted w LB v L w4 wc)
      case rest =>
        obtain ⟨v', L', hK5, hF5, hl1, hl2, hsub⟩ := hcut
        have HI5 := Lib.hid (HI4.out.fr hF5 (fun k hk => (HK.out.own_lt k hk).2))
        have HSub := Lib.hid hsub
        have HK5 := Lib.hid hK5
        clear hK5 hF5 hsub HI1 HI4 HK3 HK4 HC kc HK
        go_wp2_with fail
        refine (line_ids LB L' _ HK5.out.st.at' (by omega)).mono ?_
        rintro e w6 ⟨A2, c2, rfl, hi6, hb6⟩
        obtain ⟨q, hq⟩ : ∃ q, q = (idsL L').length := ⟨_, rfl⟩
        rw [← hq]
        have hpq : p ≤ q ∧ q ≤ p + 1 := by have := HP.out; unfold idsL at this hq; simp at this hq; omega
        have HQ := Lib.hid hq
        have HI6 := Lib.hid hi6.at'
        have HW6 := Lib.hid (HI5.out.below hb6).at'
        have HK6 := Lib.hid (HK5.out.below hb6)
        clear hq hi6 hb6 HI5 HK5
        have z1 : ¬ (q : Int) < (p : Int) := by omega
        have z2 : ¬ (p : Int) + 1 < (q : Int) := by omega
        have hp1000 : p ≤ 1000 := by have := HP.out; unfold idsL at this; simp at this; omega
        go_wp2_with fail
        go_loopw [10, 11] (fun v10 v11 wq => ∃ k m : Nat, v10 = .int .i64 k ∧ v11 = .int .i64 m ∧ k ≤ p ∧ m ≤ q ∧ Hid (((idsL L).drop k).Sublist ((idsL L').drop m)) ∧ Below w6.heap.size w6 wq) (fun _ v11 _ => q - (intOf v11).toNat)
        case atStart => exact ⟨0, 0, rfl, rfl, by omega, by omega, HSub, Below.refl _ _⟩
        case round =>
          obtain ⟨k, m, rfl, rfl, hk, hm, hs, hb⟩ := hrel
          have HB := Lib.hid hb
          clear hb
          by_cases hgo : m < q ∧ k < p
          · obtain ⟨hm2, hk2⟩ := hgo
            obtain ⟨xx, hxx⟩ : ∃ x, (idsL L)[k]? = some x := ⟨_, List.getElem?_eq_getElem (by have := HP.out; omega)⟩
            obtain ⟨yy, hyy⟩ : ∃ x, (idsL L')[m]? = some x := ⟨_, List.getElem?_eq_getElem (by have := HQ.out; omega)⟩
            obtain ⟨b1, o1, rfl, hb1, cc1⟩ := (HW6.out.below HB.out).at' hxx
            obtain ⟨b2, o2, rfl, hb2, cc2⟩ := (HI6.out.below HB.out).at' hyy
            have HX1 := Lib.hid hxx
            have HY1 := Lib.hid hyy
            clear hxx hyy hb1 hb2
            have k0 : (0 : Int) ≤ (k : Int) := by omega
            have k1 : (k : Int) < (p : Int) := by omega
            have m0 : (0 : Int) ≤ (m : Int) := by omega
            have m1 : (m : Int) < (q : Int) := by omega
            by_cases e : yy = xx
            · have e1 : (yy == xx) = true := by simp [e]
              have HS2 := Lib.hid (greedy_yes HX1.out HY1.out hs.out e)
              clear e
              go_wp2_with fail
              go_quiet (fail)
              rename_i nq
              have HB2 := Lib.hid (HB.out.trans (below_drewN w6.heap.size _ nq))
              go_wp2_with fail
              go_roundw
              case rel => exact ⟨k + 1, m + 1, by go_num, by go_num, by omega, by omega, HS2, HB2.out⟩
              case measure => simp [intOf]; omega
            · have e1 : (yy == xx) = false := by simp [e]
              have HS2 := Lib.hid (greedy_no HX1.out HY1.out hs.out e)
              clear e
              go_wp2_with fail
              go_quiet (fail)
              rename_i nq
              have HB2 := Lib.hid (HB.out.trans (below_drewN w6.heap.size _ nq))
              go_wp2_with fail
              go_roundw
              case rel => exact ⟨k, m + 1, rfl, by go_num, by omega, by omega, HS2, HB2.out⟩
              case measure => simp [intOf]; omega
          · have hkp : k = p := by have h1 := HP.out; have h2 := HQ.out; rw [h1]; exact greedy_end hs.out (by omega) (by omega)
            subst hkp
            have kk : ((k : Int) != (k : Int)) = false := by simp
            have kk2 : ¬ (k : Int) < (k : Int) := by omega
            have HK7 := Lib.hid (HK6.out.below HB.out)
            by_cases hm3 : (m : Int) < (q : Int)
            · go_wp2_with fail
              go_roundw
              case rel => exact ⟨j + 1, v', L', by omega, by go_num, HK7.out, by omega⟩
              case measure => simp [intOf]; omega
            · go_wp2_with fail
              go_roundw
              case rel => exact ⟨j + 1, v', L', by omega, by go_num, HK7.out, by omega⟩
              case measure => simp [intOf]; omega
      case first =>
        clear HI1 HI4 HK3 kc
        have HC4 : Hid (w4.cell? ⟨b, off + j * 4 + 1, none⟩ = some (.int .i64 x.id) ∧ w4.cell? ⟨b, off + j * 4 + 2, none⟩ = some (.int .i64 x.behind) ∧ w4.cell? ⟨b, off + j * 4 + 3, none⟩ = some (.int .u8 x.c.toNat)) :=
          Lib.hid ⟨(HK4.out.bel.cell (p := ⟨b, _, none⟩) hbl).trans HC.out.2.1, (HK4.out.bel.cell (p := ⟨b, _, none⟩) hbl).trans HC.out.2.2.1, (HK4.out.bel.cell (p := ⟨b, _, none⟩) hbl).trans HC.out.2.2.2⟩
        clear HC
        cases tb with
        | true =>
          obtain ⟨e1, e2, e3⟩ := HC4.out
          go_wp2_with fail
          go_still_tail 16, (by kernel_rfl)
          change wpList _ _ _ _ _ w4.drew
          have HKd := Lib.hid (HK4.out.below (Below.refl _ w4).drew)
          have hFd : Fr (Own LB v) w4 w4.drew := Fr.of_below (Below.refl _ w4).drew
          have HFd := Lib.hid hFd
          clear e1 e2 e3 HK4 HC4 hFd
          generalize w4.drew = w5 at HKd HFd ⊢
          by_cases he : insErr x.id x.behind L = 0
          · have HI := Lib.hid (lineInsert_ok a w LB v x.id x.behind x.c L w5 HG.out f3 f6 f7 HKd.out (by omega) he)
            have HE := Lib.hid he
            clear he
            go_wp2_with fail
            refine HI.out.mono ?_
            rintro e w6 ⟨rfl, v6, hK6, hF6⟩
            have HK6 := Lib.hid hK6
            have HF6 := Lib.hid (HFd.out.trans hF6)
            clear hK6 hF6 HI
            have HTx := Lib.hid (line_text LB (insL x.id x.behind x.c L) w6 HK6.out.st.at' (by rw [insL_len]; omega))
            obtain ⟨T2, hT2⟩ : ∃ T2, T2 = S (txtL (insL x.id x.behind x.c L)) := ⟨_, rfl⟩
            rw [← hT2] at HTx
            have hs2 : T2.size = T.size + 1 := by rw [hT2, S_size, insL_txt, HT.out]
            have hne : ((T2.size : Int) != (T.size : Int) + 1) = false := by rw [hs2]; simp
            clear hs2 hT2
            go_wp2_with fail
            refine HTx.out.mono ?_
            rintro e w7 ⟨rfl, hb7⟩
            have HK7 := Lib.hid (HK6.out.below hb7)
            have HF7 := Lib.hid (HF6.out.trans (Fr.of_below hb7))
            clear hb7 HTx
            go_wp2_with fail
            go_meet
            case rel => exact ⟨v6, _, HK7.out, HF7.out, by rw [insL_len]; omega, by rw [insL_len]; omega, insL_sub _ _ _ _⟩
          · have HI := Lib.hid (lineInsert_err a w LB v x.id x.behind x.c L w5 HG.out f3 f6 f7 HKd.out (by omega) _ rfl he)
            clear he
            go_wp2_with fail
            refine HI.out.mono ?_
            rintro e w6 ⟨rfl, v6, hK6, hF6⟩
            have HK6 := Lib.hid hK6
            have HF6 := Lib.hid (HFd.out.trans hF6)
            clear hK6 hF6 HI
            have HTx := Lib.hid (line_text LB L w6 HK6.out.st.at' (by omega))
            obtain ⟨T2, hT2⟩ : ∃ T2, T2 = S (txtL L) := ⟨_, rfl⟩
            rw [← hT2] at HTx
            have hs2 : T2.size = T.size := by rw [hT2, S_size, HT.out]
            have hne : ((T2.size : Int) != (T.size : Int)) = false := by rw [hs2]; simp
            clear hs2 hT2
            go_wp2_with fail
            refine HTx.out.mono ?_
            rintro e w7 ⟨rfl, hb7⟩
            have HK7 := Lib.hid (HK6.out.below hb7)
            have HF7 := Lib.hid (HF6.out.trans (Fr.of_below hb7))
            clear hb7 HTx
            go_wp2_with fail
            go_meet
            case rel => exact ⟨v6, _, HK7.out, HF7.out, by omega, by omega, List.Sublist.refl _⟩
        | false =>
          obtain ⟨e1, e2, e3⟩ := HC4.out
          clear e2 e3
          obtain ⟨E, hE⟩ : ∃ E, (if ixOf x.id L < 0 then errV (a 6) else Value.nilIface) = E := ⟨_, rfl⟩
          have HI := Lib.hid (lineDelete_to a w LB v x.id L w4 HG.out f6 HK4.out (by omega) E hE)
          clear hE
          go_wp2_with fail
          refine HI.out.mono ?_
          rintro e w6 ⟨rfl, v6, hK6, hF6⟩
          have HK6 := Lib.hid hK6
          have HF6 := Lib.hid hF6
          clear hK6 hF6 HI e1 HC4 HK4
          have HTx := Lib.hid (fun w7 (hk : LK w LB v6 (delL x.id L) w7) => line_text LB (delL x.id L) w7 hk.st.at' (by rw [delL_len]; omega))
          obtain ⟨T2, hT2⟩ : ∃ T2, T2 = S (txtL (delL x.id L)) := ⟨_, rfl⟩
          rw [← hT2] at HTx
          have hs2 := delL_txt x.id L
          rw [← HT.out, ← S_size (txtL (delL x.id L)), ← hT2] at hs2
          have z1 : ¬ (T.size : Int) < (T2.size : Int) := by omega
          have z2 : ¬ (T2.size : Int) < (T.size : Int) - 1 := by omega
          clear hs2 hT2
          go_wp2_with fail
          refine (HTx.out _ HK6.out).mono ?_
          rintro e w7 ⟨rfl, hb7⟩
          have HK7 := Lib.hid (HK6.out.below hb7)
          have HF7 := Lib.hid (HF6.out.trans (Fr.of_below hb7))
          clear hb7 HK6 HF6
          go_wp2_with fail
          refine (HTx.out _ HK7.out).mono ?_
          rintro e w8 ⟨rfl, hb8⟩
          have HK8 := Lib.hid (HK7.out.below hb8)
          have HF8 := Lib.hid (HF7.out.trans (Fr.of_below hb8))
          clear hb8 HK7 HF7
          go_wp2_with fail
          go_meet
          case rel => exact ⟨v6, _, HK8.out, HF8.out, by rw [delL_len]; omega, by rw [delL_len]; omega, by rw [delL_ids]; exact List.Sublist.refl _⟩
    · have hjn : ¬ (j : Int) < (n : Int) := by omega
      go_wp2_with fail
      refine (line_ids LB L _ HK.out.st.at' (by omega)).mono ?_
      rintro e w3 ⟨A1, c1, rfl, hi1, hb3⟩
      have HK3 := Lib.hid (HK.out.below hb3)
      have HI1 := Lib.hid hi1
      clear hi1 hb3
      go_wp2_with fail
      refine (line_ids LB L _ HK3.out.st.at' (by omega)).mono ?_
      rintro e w4 ⟨A2, c2, rfl, hi2, hb4⟩
      have HI2 := Lib.hid hi2.at'
      have HI1' := Lib.hid (HI1.out.below hb4).at'
      have HK4 := Lib.hid (HK3.out.below hb4)
      clear hi2 hb4
      go_wp2_with fail
      refine (sameInts_any A1 A2 _ c1 _ c2 (idsL L) (idsL L) w4 rfl rfl HI1'.out HI2.out (by unfold idsL; simp; omega) (by unfold idsL; simp; omega)).mono ?_
      rintro e w5 ⟨he, hb5⟩
      rw [decide_eq_true rfl] at he
      subst he
      have HB5 := Lib.hid (HK4.out.below hb5).bel
      clear hb5
      go_wp2_with fail
      go_ret
      exact ⟨rfl, HB5.out⟩
end lineKeeps
end Go.Proofs.YthlojjknpfijmaaDoor
