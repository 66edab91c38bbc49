/- LineTurned: the walk of the law. -/
import Derived.Test.YthlojjknpfijmaaDoorLineTurnedS
namespace Go.Proofs.YthlojjknpfijmaaDoor
open Go Go.RowKit Go.Shelf LineOrd
set_option linter.unusedVariables false
set_option linter.unusedSimpArgs false
set_option maxHeartbeats 4000000
set_option maxRecDepth 100000
namespace lineTurned
theorem infoBool : (Tryd.prog.info? 4).map (fun i => (i.zero, i.size, i.bytes)) = some (some (.bool false), 1, 1) := by kernel_rfl

theorem walk {F : Nat → Bool} (a : Nat → Addr) (A B : Option Addr) (n c m d : Nat) (bh ord : List Int) (w : World) (hG : Gd F a w) (f3 : F 3 = true) (f6 : F 6 = true) (f7 : F 7 = true) (hn : bh.length = n) (hA : SlV intE w (.slice A n c) bh) (hm : ord.length = m) (hB : SlV intE w (.slice B m d) ord) (hn2 : n ≤ 40) (hm2 : m ≤ 60) :
    Calls Tryd.prog 3 #[.slice A n c, .slice B m d] w fun e w' => e = .returned (.bool true) ∧ Below w.heap.size w w' := by
  have HG := Lib.hid hG
  have HN := Lib.hid hn
  have HM := Lib.hid hm
  have HA := Lib.hid hA
  have HBo := Lib.hid hB
  have hmk := run_make_row' (P := Tryd.prog) 22 3 (.int .i64 0) 8 Tryd.underlying22 infoInt rfl .i64 .i64 n (by omega) (by omega)
  have HMB := Lib.hid (run_make_row' (P := Tryd.prog) 26 4 (.bool false) 1 Tryd.underlying26 infoBool rfl .i64 .i64 n (by omega) (by omega))
  clear hG hn hm hA hB
  go_enter Tryd.func3, Tryd.ntmps3
  go_wp2_with fail
  refine (lined_any a w HG.out f3 f6 f7).mono ?_
  rintro e w1 ⟨rfl, hb1⟩
  have HB1 := Lib.hid hb1
  have hs1 := hb1.size
  clear hb1
  have hn40 : ¬ (40 : Int) < (n : Int) := by omega
  have hm60 : ¬ (60 : Int) < (m : Int) := by omega
  go_wp2_with fail
  have hR0 := Rw.madeInts 3 w.heap.size n w1 hs1 (by unfold maxLen; omega)
  have HB2 := Lib.hid (HB1.out.alloc hs1 (.cells (madeCells #[.int .i64 0] n) 3))
  obtain ⟨OB, hOB⟩ : ∃ OB, OB = w1.heap.size := ⟨_, rfl⟩
  obtain ⟨W, hW⟩ : ∃ W, W = w1.alloc (.cells (madeCells #[.int .i64 0] n) 3) := ⟨_, rfl⟩
  rw [← hW, ← hOB] at hR0
  rw [← hW] at HB2
  rw [← hW, ← hOB]
  have HR0 := Lib.hid hR0
  clear hW hOB HB1 hmk hR0
  go_loopw [8] (fun v8 wr => ∃ (i : Nat) (ofs : List Int), i ≤ n ∧ v8 = .int .i64 i ∧ Hid (Ofs bh n i ofs) ∧ Rw intE 3 w.heap.size (.slice (some ⟨OB, 0, none⟩) n n) ofs wr ∧ Below w.heap.size w wr) (fun v8 _ => n - (intOf v8).toNat)
  case atStart => exact ⟨0, _, by omega, rfl, Lib.hid (Ofs.start bh n), HR0.out, HB2.out⟩
  case round =>
    clear HR0 HB2
    obtain ⟨i, ofs, hi, rfl, HO, hR, hb⟩ := hrel
    have HR := Lib.hid hR
    have HB := Lib.hid hb
    clear hR hb
    by_cases hlt : i < n
    · obtain ⟨x, hx⟩ : ∃ x, bh[i]? = some x := ⟨_, List.getElem?_eq_getElem (by have := HN.out; omega)⟩
      obtain ⟨b, off, rfl, hbl, hcc⟩ := (HA.out.below (HB.out.mono (Nat.le_refl _))).at' (by decide) hx
      have q0 : wr.cell? ⟨b, off + i, none⟩ = some (.int .i64 x) := by have := hcc 0 _ rfl; simpa [intE] using this
      have hof : ofN bh i = if 0 ≤ x ∧ x < i then 4 + x.toNat else 0 := by unfold ofN; rw [hx]
      have HOF := Lib.hid hof
      clear hx hcc hof
      have i0 : (0 : Int) ≤ (i : Int) := by omega
      have i1 : (i : Int) < (n : Int) := by omega
      by_cases hx0 : 0 ≤ x
      · by_cases hx1 : x < i
        · have c0 : wr.cell? ⟨OB, i, none⟩ = some (.int .i64 0) := by
            have := HR.out.at' rfl (i := i) (x := 0) (by rw [HO.out.2 i hlt, if_neg (by omega)]) (j := 0) rfl
            simpa [intE] using this
          have z0 := HR.out.fz i
          go_wp2_with fail
          go_roundw
          case rel => exact ⟨i + 1, _, by omega, by go_num, Lib.hid HO.out.set, by
            have e : (4 + x : Int) = ((ofN bh i : Nat) : Int) := by rw [HOF.out, if_pos ⟨hx0, hx1⟩]; omega
            rw [e]
            exact (HR.out.stored i _ (by simp) (intE_set _ _ _)).1, HB.out.setCell (by exact (HR.out.lt OB rfl).1) _⟩
          case measure => simp [intOf]; omega
        · have HZ : Hid (ofN bh i = 0) := Lib.hid (by rw [HOF.out, if_neg (by omega)])
          go_wp2_with fail
          go_roundw
          case rel => exact ⟨i + 1, ofs, by omega, by go_num, Lib.hid (HO.out.keep HZ.out), HR.out, HB.out⟩
          case measure => simp [intOf]; omega
      · have HZ : Hid (ofN bh i = 0) := Lib.hid (by rw [HOF.out, if_neg (by omega)])
        go_wp2_with fail
        go_roundw
        case rel => exact ⟨i + 1, ofs, by omega, by go_num, Lib.hid (HO.out.keep HZ.out), HR.out, HB.out⟩
        case measure => simp [intOf]; omega
    · obtain rfl : n = i := by omega
      have hii : ¬ (n : Int) < (n : Int) := by omega
      clear hlt hi
      go_wp2_with fail
      refine (line_new _).mono ?_
      rintro e w2 ⟨rfl, rfl⟩
      go_wp2_with fail
      refine (line_new _).mono ?_
      rintro e w3 ⟨rfl, rfl⟩
      have hmk := HMB.out
      go_wp2_with fail
      clear hmk
      have hSt : St w OB (wr.heap.size + 1 + 1) wr.heap.size (wr.heap.size + 1) n ofs (List.replicate n false) (.slice none 0 0) [] (.slice none 0 0) [] (((wr.alloc (.cells #[.slice none 0 0] 113)).alloc (.cells #[.slice none 0 0] 113)).alloc (.cells (madeCells #[.bool false] n) 4)) := by
        have hsz2 : (wr.alloc (.cells #[.slice none 0 0] 113)).heap.size = wr.heap.size + 1 := by simp
        have hsz3 : ((wr.alloc (.cells #[.slice none 0 0] 113)).alloc (.cells #[.slice none 0 0] 113)).heap.size = wr.heap.size + 1 + 1 := by simp
        have hwb := HB.out.size
        have hob := HR.out.lt OB rfl
        refine ⟨(((HR.out.below ((Below.refl _ _).alloc (Nat.le_refl _) _)).below ((Below.refl _ _).alloc (Nat.le_refl _) _)).below ((Below.refl _ _).alloc (Nat.le_refl _) _)), ?_, ((LK.start HB.out).below ((Below.refl _ _).alloc (Nat.le_refl _) _)).below ((Below.refl _ _).alloc (Nat.le_refl _) _), ?_, by omega, fun k hk => ?_, fun k hk => ?_, fun k hk hb => ?_⟩
        · have := Rw.madeBools 4 w.heap.size n _ (by rw [hsz3]; omega) (by unfold maxLen; omega)
          rw [hsz3] at this
          exact this
        · have := (LK.start (HB.out.alloc hwb (.cells #[.slice none 0 0] 113))).below ((Below.refl _ _).alloc (Nat.le_refl _) (.cells (madeCells #[.bool false] n) 4))
          rw [hsz2] at this
          exact this
        · rcases hk with rfl | hk
          · constructor <;> omega
          · simp [Value.ownBlock] at hk
        · rcases hk with rfl | hk
          · constructor <;> omega
          · simp [Value.ownBlock] at hk
        · rcases hk with rfl | hk
          · rcases hb with hb | hb
            · omega
            · simp [Value.ownBlock] at hb
          · simp [Value.ownBlock] at hk
      obtain ⟨LA, hLA⟩ : ∃ LA, LA = wr.heap.size := ⟨_, rfl⟩
      obtain ⟨LB, hLB⟩ : ∃ LB, LB = LA + 1 := ⟨_, rfl⟩
      obtain ⟨DB, hDB⟩ : ∃ DB, DB = LA + 1 + 1 := ⟨_, rfl⟩
      obtain ⟨W3, hW3⟩ : ∃ W3, W3 = (((wr.alloc (.cells #[.slice none 0 0] 113)).alloc (.cells #[.slice none 0 0] 113)).alloc (.cells (madeCells #[.bool false] n) 4)) := ⟨_, rfl⟩
      rw [← hW3, ← hLA, ← hDB, ← hLB] at hSt
      rw [← hW3, ← hLA, ← hDB, ← hLB]
      have HS := Lib.hid hSt
      clear hSt hW3 hDB hLB hLA HR HB HMB
      have O : Hid (Order (parOf (ofN bh) n) (Bef (parOf (ofN bh) n))) := Lib.hid (Bef.order _ (parOf_lt (fun k _ => ofN_lt bh k)))
      go_loopw [12] (fun v12 wr => ∃ (i : Nat) (dn : List Bool) (va : Value) (La : List Lt), i ≤ m + n ∧ v12 = .int .i64 i ∧ dn.length = n ∧ St w OB DB LA LB n ofs dn va La (.slice none 0 0) [] wr ∧ Turned n (parOf (ofN bh) n) (Bef (parOf (ofN bh) n)) (dnf dn) La ∧ (∀ k, k < n → k + m < i → dnf dn k = true) ∧ La.length ≤ i) (fun v12 _ => m + n - (intOf v12).toNat)
      case atStart => exact ⟨0, _, _, [], by omega, rfl, by simp, HS.out, by
        have := Turned.start n (parOf (ofN bh) n) (Bef (parOf (ofN bh) n))
        have e : dnf (List.replicate n false) = fun _ => false := by funext k; unfold dnf; simp [List.getElem?_replicate]; split <;> rfl
        rw [e]
        exact this, fun k _ hk => by omega, by simp⟩
      case round =>
        clear HS
        obtain ⟨i, dn, va, La, hi, rfl, hdl, hS, hT, hD, hLl⟩ := hrel
        have HS := Lib.hid hS
        have HT := Lib.hid hT
        have HD := Lib.hid hD
        have HDL := Lib.hid hdl
        clear hS hT hD hdl
        by_cases hlt : i < m + n
        · have i0 : (0 : Int) ≤ (i : Int) := by omega
          have i1 : (i : Int) < (m : Int) + (n : Int) := by omega
          go_upto_if 86 with (fail)
          go_cut [13] (fun v13 wc => ∃ kk : Int, v13 = .int .i64 kk ∧ wr = wc ∧ Hid (m ≤ i → kk = (i : Int) - m))
          case first =>
            by_cases him : i < m
            · obtain ⟨y, hy⟩ : ∃ y, ord[i]? = some y := ⟨_, List.getElem?_eq_getElem (by have := HM.out; omega)⟩
              obtain ⟨b, off, rfl, hbl, hcc⟩ := (HBo.out.below (HS.out.ka.bel.mono (Nat.le_refl _))).at' (by decide) hy
              have q0 : wr.cell? ⟨b, off + i, none⟩ = some (.int .i64 y) := by have := hcc 0 _ rfl; simpa [intE] using this
              have i2 : (i : Int) < (m : Int) := by omega
              clear hy hcc
              go_wp2_with fail
              go_meet
              case rel => exact ⟨y, rfl, rfl, Lib.hid (fun h => by omega)⟩
            · have i2 : ¬ (i : Int) < (m : Int) := by omega
              go_wp2_with fail
              go_meet
              case rel => exact ⟨(i : Int) - m, rfl, rfl, Lib.hid (fun _ => rfl)⟩
          case rest =>
            obtain ⟨kk, rfl, rfl, HKi⟩ := hcut
            by_cases hk : 0 ≤ kk ∧ kk < n
            · obtain ⟨k, rfl⟩ : ∃ k : Nat, kk = k := ⟨kk.toNat, by omega⟩
              have hkn : k < n := by omega
              have k0 : (0 : Int) ≤ (k : Int) := by omega
              have k1 : (k : Int) < (n : Int) := by omega
              have HKK : Hid (m ≤ i → k = i - m) := Lib.hid (fun h => by have := HKi.out h; omega)
              clear hk HKi
              obtain ⟨bk, hbk⟩ : ∃ x, dn[k]? = some x := ⟨_, List.getElem?_eq_getElem (by have := HDL.out; omega)⟩
              have c0 : wr.cell? ⟨DB, k, none⟩ = some (.bool bk) := by
                have := HS.out.dnr.at' rfl hbk (j := 0) rfl
                simpa [boolE] using this
              have z0 := HS.out.dnr.fz k
              have HDk : Hid (dnf dn k = bk) := Lib.hid (dnf_at hbk)
              have c1 : wr.cell? ⟨OB, k, none⟩ = some (.int .i64 ((ofN bh k : Nat) : Int)) := by
                have := HS.out.ofr.at' rfl (i := k) (x := ((ofN bh k : Nat) : Int)) (by rw [HO.out.2 k hkn, if_pos hkn]) (j := 0) rfl
                simpa [intE] using this
              clear hbk
              cases bk with
              | true =>
                go_wp2_with fail
                go_roundw
                case rel => exact ⟨i + 1, dn, va, La, by omega, by go_num, HDL.out, HS.out, HT.out, fun k' hk' hkm => by
                  by_cases e : k' + m < i
                  · exact HD.out k' hk' e
                  · have := HKK.out (by omega)
                    have e2 : k' = k := by omega
                    rw [e2]; exact HDk.out, by omega⟩
                case measure => simp [intOf]; omega
              | false =>
                rcases Nat.eq_zero_or_pos (ofN bh k) with ho | ho
                · rw [ho] at c1
                  have HO0 := Lib.hid ho
                  clear ho
                  have HP : Hid (ofN bh k = 0 ∨ (4 ≤ ofN bh k ∧ dnf dn (ofN bh k - 4) = true)) := Lib.hid (by exact .inl HO0.out)
                  have hpar : parOf (ofN bh) n (4 + k) = ofN bh k := parOf_at hkn
                  have hstep := HT.out.step O.out (by omega) hkn HDk.out (by rw [hpar]; exact HP.out)
                  rw [hpar] at hstep
                  have e0 : ((ofN bh k : Nat) : Int) = 0 := by rw [HO0.out]; rfl
                  rw [e0] at hstep
                  have HI := Lib.hid (lineInsert_ok2 a w LA va ((4 + k : Nat) : Int) (0) (UInt8.ofNat (97 + k % 26)) La (wr.setCell ⟨DB, k, none⟩ (.bool true)) HG.out f3 f6 f7 (HS.out.setDone k).ka (by omega) hstep.1)
                  rw [show ((4 + k : Nat) : Int) = 4 + (k : Int) by omega, show ((UInt8.ofNat (97 + k % 26)).toNat : Int) = 97 + (k : Int) % 26 by rw [UInt8.toNat_ofNat']; omega] at HI
                  have HTn := Lib.hid hstep.2
                  have HS1 := Lib.hid (HS.out.setDone k)
                  have hne := HS.out.ne
                  have hne2 := Ne.symm hne
                  clear hstep hpar e0
                  go_wp2_with fail
                  refine HI.out.mono ?_
                  rintro e w6 ⟨rfl, v6, hk6, hf6, hn6⟩
                  have HS2 := Lib.hid (HS1.out.insA hk6 hf6 hn6)
                  clear hk6 hf6 hn6 HI HS1
                  go_wp2_with fail
                  go_roundw
                  case rel => exact ⟨i + 1, dn.set k true, v6, _, by omega, by go_num, by simp [HDL.out], HS2.out, by rw [dnf_set HDL.out hkn]; rw [show (4 : Int) + (k : Int) = ((4 + k : Nat) : Int) by omega]; exact HTn.out, fun k' hk' hkm => by
                    rw [dnf_set HDL.out hkn]
                    by_cases e : k' = k
                    · simp [e]
                    · simp only [e, if_false]
                      exact HD.out k' hk' (by have := HKK.out; omega), by rw [insL_len]; omega⟩
                  case measure => simp [intOf]; omega
                · have hg4 : 4 ≤ ofN bh k := by have := ofN_ge bh k; omega
                  have hl4 := ofN_lt bh k
                  obtain ⟨p, hp⟩ : ∃ p, ofN bh k = p + 4 := ⟨ofN bh k - 4, by omega⟩
                  have hpn : p < n := by omega
                  rw [hp, show ((p + 4 : Nat) : Int) = (p : Int) + 4 by omega] at c1
                  obtain ⟨bp, hbp⟩ : ∃ x, dn[p]? = some x := ⟨_, List.getElem?_eq_getElem (by have := HDL.out; omega)⟩
                  have c2 : wr.cell? ⟨DB, p, none⟩ = some (.bool bp) := by
                    have := HS.out.dnr.at' rfl hbp (j := 0) rfl
                    simpa [boolE] using this
                  have HDp : Hid (dnf dn p = bp) := Lib.hid (dnf_at hbp)
                  have HOp := Lib.hid hp
                  have p0 : (0 : Int) ≤ (p : Int) := by omega
                  have p1 : (p : Int) < (n : Int) := by omega
                  have hpk : p < k := by omega
                  have hp4 : (p : Int) + 4 - 4 = (p : Int) := by omega
                  have p5 : (0 : Int) < (p : Int) + 4 := by omega
                  clear hbp hp ho hg4 hl4
                  cases bp with
                  | true =>
                    have HP : Hid (ofN bh k = 0 ∨ (4 ≤ ofN bh k ∧ dnf dn (ofN bh k - 4) = true)) := Lib.hid (by rw [HOp.out]; exact .inr ⟨by omega, by rw [Nat.add_sub_cancel]; exact HDp.out⟩)
                    have hpar : parOf (ofN bh) n (4 + k) = ofN bh k := parOf_at hkn
                    have hstep := HT.out.step O.out (by omega) hkn HDk.out (by rw [hpar]; exact HP.out)
                    rw [hpar] at hstep
                    have e0 : ((ofN bh k : Nat) : Int) = (p : Int) + 4 := by rw [HOp.out]; omega
                    rw [e0] at hstep
                    have HI := Lib.hid (lineInsert_ok2 a w LA va ((4 + k : Nat) : Int) ((p : Int) + 4) (UInt8.ofNat (97 + k % 26)) La (wr.setCell ⟨DB, k, none⟩ (.bool true)) HG.out f3 f6 f7 (HS.out.setDone k).ka (by omega) hstep.1)
                    rw [show ((4 + k : Nat) : Int) = 4 + (k : Int) by omega, show ((UInt8.ofNat (97 + k % 26)).toNat : Int) = 97 + (k : Int) % 26 by rw [UInt8.toNat_ofNat']; omega] at HI
                    have HTn := Lib.hid hstep.2
                    have HS1 := Lib.hid (HS.out.setDone k)
                    have hne := HS.out.ne
                    have hne2 := Ne.symm hne
                    clear hstep hpar e0
                    go_wp2_with fail
                    refine HI.out.mono ?_
                    rintro e w6 ⟨rfl, v6, hk6, hf6, hn6⟩
                    have HS2 := Lib.hid (HS1.out.insA hk6 hf6 hn6)
                    clear hk6 hf6 hn6 HI HS1
                    go_wp2_with fail
                    go_roundw
                    case rel => exact ⟨i + 1, dn.set k true, v6, _, by omega, by go_num, by simp [HDL.out], HS2.out, by rw [dnf_set HDL.out hkn]; rw [show (4 : Int) + (k : Int) = ((4 + k : Nat) : Int) by omega]; exact HTn.out, fun k' hk' hkm => by
                      rw [dnf_set HDL.out hkn]
                      by_cases e : k' = k
                      · simp [e]
                      · simp only [e, if_false]
                        exact HD.out k' hk' (by have := HKK.out; omega), by rw [insL_len]; omega⟩
                    case measure => simp [intOf]; omega
                  | false =>
                    go_wp2_with fail
                    go_roundw
                    case rel => exact ⟨i + 1, dn, va, La, by omega, by go_num, HDL.out, HS.out, HT.out, fun k' hk' hkm => by
                      by_cases e : m ≤ i
                      · have := HKK.out e
                        have h2 := HD.out p hpn (by omega)
                        rw [HDp.out] at h2
                        cases h2
                      · omega, by omega⟩
                    case measure => simp [intOf]; omega
            · have hk2 : kk < 0 ∨ (0 ≤ kk ∧ (n : Int) ≤ kk) := by omega
              have HD2 : Hid (∀ k, k < n → k + m < i + 1 → dnf dn k = true) := Lib.hid (fun k' hk' hkm => by
                have := HKi.out (by omega)
                omega)
              clear HKi hk
              rcases hk2 with hk2 | ⟨hk3, hk2⟩
              · go_wp2_with fail
                go_roundw
                case rel => exact ⟨i + 1, dn, va, La, by omega, by go_num, HDL.out, HS.out, HT.out, HD2.out, by omega⟩
                case measure => simp [intOf]; omega
              · go_wp2_with fail
                go_roundw
                case rel => exact ⟨i + 1, dn, va, La, by omega, by go_num, HDL.out, HS.out, HT.out, HD2.out, by omega⟩
                case measure => simp [intOf]; omega
        · have hge : ¬ (i : Int) < (m : Int) + (n : Int) := by omega
          have HDa : Hid (∀ k, k < n → dnf dn k = true) := Lib.hid (fun k hk => HD.out k hk (by omega))
          clear HD hlt
          go_wp2_with fail
          go_loopw [14] (fun v14 wr => ∃ (j : Nat) (vb : Value) (Lb : List Lt), j ≤ n ∧ v14 = .int .i64 j ∧ St w OB DB LA LB n ofs dn va La vb Lb wr ∧ Turned n (parOf (ofN bh) n) (Bef (parOf (ofN bh) n)) (fun k => decide (k < j)) Lb ∧ Lb.length = j) (fun v14 _ => n - (intOf v14).toNat)
          case atStart => exact ⟨0, _, [], by omega, rfl, HS.out, by simpa using Turned.start n (parOf (ofN bh) n) (Bef (parOf (ofN bh) n)), rfl⟩
          case round =>
            clear HS
            obtain ⟨j, vb, Lb, hj, rfl, hS, hTb, hLb⟩ := hrel
            have HS := Lib.hid hS
            have HTb := Lib.hid hTb
            have HLb := Lib.hid hLb
            clear hS hTb hLb
            by_cases hjn : j < n
            · have j0 : (0 : Int) ≤ (j : Int) := by omega
              have j1 : (j : Int) < (n : Int) := by omega
              obtain ⟨o, ho⟩ : ∃ o : Int, ((ofN bh j : Nat) : Int) = o := ⟨_, rfl⟩
              have c1 : wr.cell? ⟨OB, j, none⟩ = some (.int .i64 o) := by
                have := HS.out.ofr.at' rfl (i := j) (x := ((ofN bh j : Nat) : Int)) (by rw [HO.out.2 j hjn, if_pos hjn]) (j := 0) rfl
                rw [ho] at this
                simpa [intE] using this
              have hpar : parOf (ofN bh) n (4 + j) = ofN bh j := parOf_at hjn
              have hol := ofN_lt bh j
              have hog := ofN_ge bh j
              have hstep := HTb.out.step O.out (by omega) hjn (by simp) (by
                rw [hpar]
                rcases hog with h | h
                · exact .inl h
                · exact .inr ⟨h, by simp; omega⟩)
              rw [hpar, ho] at hstep
              have HI := Lib.hid (lineInsert_ok2 a w LB vb ((4 + j : Nat) : Int) o (UInt8.ofNat (97 + j % 26)) Lb wr HG.out f3 f6 f7 HS.out.kb (by have := HLb.out; omega) hstep.1)
              rw [show ((4 + j : Nat) : Int) = 4 + (j : Int) by omega, show ((UInt8.ofNat (97 + j % 26)).toNat : Int) = 97 + (j : Int) % 26 by rw [UInt8.toNat_ofNat']; omega] at HI
              have HTn := Lib.hid hstep.2
              clear hstep hpar hol hog ho
              go_wp2_with fail
              refine HI.out.mono ?_
              rintro e w6 ⟨rfl, v6, hk6, hf6, hn6⟩
              have HS2 := Lib.hid ((HS.out.swap.insA hk6 hf6 hn6).swap)
              clear hk6 hf6 hn6 HI
              go_wp2_with fail
              go_roundw
              case rel => exact ⟨j + 1, v6, _, by omega, by go_num, HS2.out, by
                rw [show (4 : Int) + (j : Int) = ((4 + j : Nat) : Int) by omega]
                have e : (fun k => decide (k < j + 1)) = fun k => if k = j then true else decide (k < j) := by
                  funext k
                  by_cases h : k = j
                  · simp [h]
                  · simp [h]; omega
                rw [e]
                exact HTn.out, by rw [insL_len, HLb.out]⟩
              case measure => simp [intOf]; omega
            · have hjn2 : ¬ (j : Int) < (n : Int) := by omega
              have hje : n = j := by omega
              have hLL : La = Lb := Turned.unique O.out HT.out HTb.out HDa.out (fun k hk => by simp; omega)
              subst hLL
              have hseen : (txtL La).length = n := by rw [HTb.out.seen, HLb.out]; omega
              have hLn : La.length = n := by rw [HLb.out]; omega
              have HLN := Lib.hid hLn
              obtain ⟨T, hT⟩ : ∃ T, T = S (txtL La) := ⟨_, rfl⟩
              have HTx : Hid (∀ LX vx w', LK w LX vx La w' → Calls Tryd.prog 16 #[.pointer (some ⟨LX, 0, none⟩)] w' fun e w'' => e = .returned (.string T) ∧ Below w'.heap.size w' w'') := Lib.hid (fun LX vx w' h => by rw [hT]; exact line_text LX La w' h.st.at' (by omega))
              have hTs : ((T.size : Int) != (n : Int)) = false := by rw [hT, S_size, hseen]; simp
              clear hT hseen hLn hje HT HTb HDa O
              go_wp2_with fail
              refine (HTx.out LA _ _ HS.out.ka).mono ?_
              rintro e w4 ⟨rfl, hb4⟩
              have HS4 := Lib.hid (HS.out.below hb4)
              clear hb4
              go_wp2_with fail
              refine (HTx.out LB _ _ HS4.out.kb).mono ?_
              rintro e w5 ⟨rfl, hb5⟩
              have HS5 := Lib.hid (HS4.out.below hb5)
              clear hb5
              go_wp2_with fail
              refine (HTx.out LA _ _ HS5.out.ka).mono ?_
              rintro e w6 ⟨rfl, hb6⟩
              have HS6 := Lib.hid (HS5.out.below hb6)
              clear hb6
              go_wp2_with fail
              refine (line_ids LA La _ HS6.out.ka.st.at' (by have := HLN.out; omega)).mono ?_
              rintro e w7 ⟨A1, c1, rfl, hi7, hb7⟩
              have HS7 := Lib.hid (HS6.out.below hb7)
              have HI7 := Lib.hid hi7
              clear hb7 hi7
              go_wp2_with fail
              refine (line_ids LB La _ HS7.out.kb.st.at' (by have := HLN.out; omega)).mono ?_
              rintro e w8 ⟨A2, c2, rfl, hi8, hb8⟩
              have HI8 := Lib.hid hi8.at'
              have HI7' := Lib.hid (HI7.out.below hb8).at'
              have HS8 := Lib.hid (HS7.out.below hb8)
              clear hb8 hi8
              go_wp2_with fail
              refine (sameInts_any A1 A2 _ c1 _ c2 (idsL La) (idsL La) w8 rfl rfl HI7'.out HI8.out (by unfold idsL; have := HLN.out; simp; omega) (by unfold idsL; have := HLN.out; simp; omega)).mono ?_
              rintro e w9 ⟨he, hb9⟩
              rw [decide_eq_true rfl] at he
              subst he
              have HB9 := Lib.hid (HS8.out.below hb9).ka.bel
              clear hb9
              go_wp2_with fail
              go_ret
              exact ⟨rfl, HB9.out⟩

theorem walk_long {F : Nat → Bool} (a : Nat → Addr) (A B : Option Addr) (n c m d : Nat) (w : World) (hG : Gd F a w) (f3 : F 3 = true) (f6 : F 6 = true) (f7 : F 7 = true) (h : 40 < n ∨ 60 < m) :
    Calls Tryd.prog 3 #[.slice A n c, .slice B m d] w fun e w' => e = .returned (.bool true) ∧ Below w.heap.size w w' := by
  have HG := Lib.hid hG
  clear hG
  have hh : (40 : Int) < (n : Int) ∨ (¬ (40 : Int) < (n : Int) ∧ (60 : Int) < (m : Int)) := by omega
  clear h
  rcases hh with h | ⟨h1, h⟩
  all_goals
    go_enter Tryd.func3, Tryd.ntmps3
    go_wp2_with fail
    refine (lined_any a w HG.out f3 f6 f7).mono ?_
    rintro e w1 ⟨rfl, hb1⟩
    have HB1 := Lib.hid hb1
    clear hb1
    go_wp2_with fail
    go_ret
    exact ⟨rfl, HB1.out⟩
theorem whole {F : Nat → Bool} (a : Nat → Addr) (A B : Option Addr) (n c m d : Nat) (bh ord : List Int) (w : World) (hG : Gd F a w) (f3 : F 3 = true) (f6 : F 6 = true) (f7 : F 7 = true) (hn : bh.length = n) (hA : SlV intE w (.slice A n c) bh) (hm : ord.length = m) (hB : SlV intE w (.slice B m d) ord) :
    Calls Tryd.prog 3 #[.slice A n c, .slice B m d] w fun e w' => e = .returned (.bool true) ∧ Below w.heap.size w w' := by
  by_cases h : n ≤ 40 ∧ m ≤ 60
  · exact walk a A B n c m d bh ord w hG f3 f6 f7 hn hA hm hB h.1 h.2
  · exact walk_long a A B n c m d w hG f3 f6 f7 (by omega)
end lineTurned
end Go.Proofs.YthlojjknpfijmaaDoor
