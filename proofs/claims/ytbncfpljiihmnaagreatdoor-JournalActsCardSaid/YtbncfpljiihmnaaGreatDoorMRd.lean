/- The document's reading of a journal; its disk. -/
import Derived.Test.YtbncfpljiihmnaaGreatDoorJRd
import Derived.Test.YtbncfpljiihmnaaGreatDoorMCrc
import Derived.Test.YtbncfpljiihmnaaGreatDoorOpOf
import Derived.Test.YtbncfpljiihmnaaGreatDoorOpRows
namespace Go.Proofs.YtbncfpljiihmnaaGreatDoor
open Go Go.RowKit
set_option linter.unusedVariables false
set_option linter.unusedSimpArgs false
set_option maxHeartbeats 4000000
set_option maxRecDepth 100000

theorem parts_at {l : List UInt8} {i j : Nat} (hij : i ≤ j) (hj : l[j]? = some 10) : l.drop i = (l.drop i).take (j - i) ++ 10 :: l.drop (j + 1) := by
  obtain ⟨h1, h2⟩ := List.getElem?_eq_some_iff.1 hj
  have h3 : (l.drop i).drop (j - i) = 10 :: l.drop (j + 1) := by
    rw [List.drop_drop, show i + (j - i) = j by omega, List.drop_eq_getElem_cons h1, h2]
  rw [← h3, List.take_append_drop]
theorem before_at {l : List UInt8} {i j : Nat} (h : ∀ t, i ≤ t → t < j → l[t]? ≠ some 10) : ∀ c ∈ (l.drop i).take (j - i), c ≠ 10 := by
  intro c hc
  obtain ⟨k, hk, rfl⟩ := List.getElem_of_mem hc
  rw [List.length_take, List.length_drop] at hk
  have := h (i + k) (by omega) (by omega)
  intro e
  apply this
  rw [List.getElem_take, List.getElem_drop] at e
  rw [List.getElem?_eq_getElem (by omega), e]
theorem none_at {l : List UInt8} {i : Nat} (h : ∀ t, i ≤ t → t < l.length → l[t]? ≠ some 10) : ∀ c ∈ l.drop i, c ≠ 10 := by
  intro c hc
  have := before_at (l := l) (i := i) (j := l.length) h c
  rw [List.take_of_length_le (by rw [List.length_drop]; omega)] at this
  exact this hc
theorem extract_parts (s : ByteArray) (i j : Nat) (h1 : i ≤ j) (h2 : j ≤ s.size) : s.extract i j = S ((s.data.toList.drop i).take (j - i)) := by
  apply ByteArray.ext
  apply Array.toList_inj.1
  rw [ByteArray.data_extract, Array.toList_extract, List.extract]
  simp [S]

theorem mread_any (s : ByteArray) (w : World) (hs : s.size ≤ 65536) :
    Calls Tryz.prog 23 #[.string s] w (ReadEnds s.data.toList w) := by
  obtain ⟨n, hn⟩ : ∃ n, s.size = n := ⟨_, rfl⟩
  have hl : s.data.toList.length = n := by rw [← hn]; rfl
  have HN := Lib.hid hn
  have HL := Lib.hid hl
  have hs' : n ≤ 65536 := by omega
  clear hn hl hs
  go_enter Tryz.func23, Tryz.ntmps23
  go_wp2_with fail
  go_loopw [4, 5] (fun v4 v5 wr => ∃ (L : List OpT) (i : Nat), v5 = .int .i64 i ∧ RdIs s.data.toList L i ∧ Rw opE 38 w.heap.size v4 L wr ∧ Below w.heap.size w wr) (fun _ v5 _ => n - (intOf v5).toNat)
  case atStart => exact ⟨[], 0, rfl, RdIs.start _, Rw.nil _ _ _ _, Below.refl _ _⟩
  case round =>
    obtain ⟨L, i, rfl, hI, hR, hB⟩ := hrel
    have hi : i ≤ n := by have := hI.le; have := HL.out; omega
    have hLl := hI.len
    have HI := Lib.hid hI
    have HR := Lib.hid hR
    have HB := Lib.hid hB
    have hsz := hB.size
    clear hI hR hB
    obtain ⟨wo, hwo⟩ : ∃ wo, wo = wr := ⟨_, rfl⟩
    rw [← hwo] at HR HB hsz
    go_wp2_with fail
    go_loopw [6] (fun v6 wz => ∃ j : Nat, v6 = .int .i64 j ∧ i ≤ j ∧ j ≤ n ∧ Hid (∀ t, i ≤ t → t < j → s.data.toList[t]? ≠ some 10) ∧ wz = wo) (fun v6 _ => n - (intOf v6).toNat)
    case atStart => exact ⟨i, rfl, by omega, by omega, Lib.hid (fun t h1 h2 => by omega), hwo.symm⟩
    case round =>
      obtain ⟨j, rfl, hij, hjn, HNo, rfl⟩ := hrel
      clear hwo
      have j1 : (0 : Int) ≤ (j : Int) := by omega
      by_cases hlt : j < n
      · have hlt2 : j < s.size := by have := HN.out; omega
        have j2 : (j : Int) < (s.size : Int) := by omega
        have hb := byte_at s j hlt2
        by_cases h10 : s[j] = 10
        · have hb2 : s.data.toList[j]? = some 10 := by rw [hb, h10]
          have hcd : (((s[j].toNat : Nat) : Int) != 10) = false := by rw [h10]; rfl
          have HP := Lib.hid (parts_at hij hb2)
          have HQ := Lib.hid (before_at HNo.out)
          have hpl : ((s.data.toList.drop i).take (j - i)).length = j - i := by rw [List.length_take, List.length_drop, HL.out]; omega
          have hx1 : ∀ a b : Nat, a ≤ b → b ≤ n → s.extract a b = S ((s.data.toList.drop a).take (b - a)) := fun a b h1 h2 => extract_parts s a b h1 (by have := HN.out; omega)
          clear hb hb2
          by_cases h9 : j - i < 9
          · have h9i : (j : Int) - (i : Int) < 9 := by omega
            have hend : Jrn.Rd GoodO recO s.data.toList L i := HI.out.done (by
              rw [HP.out]
              exact md_short HQ.out (by rw [hpl]; exact h9))
            have HE := Lib.hid hend
            clear hend
            go_wp2_with fail
            go_ret2
            exact ⟨_, L, i, rfl, HR.out, HE.out, hLl, HB.out⟩
          · have h9i : ¬ (j : Int) - (i : Int) < 9 := by omega
            obtain ⟨p, hp⟩ : ∃ p, (s.data.toList.drop i).take (j - i) = p := ⟨_, rfl⟩
            rw [hp] at hpl
            obtain ⟨t, ht⟩ : ∃ t, p.take (p.length - 9) = t := ⟨_, rfl⟩
            have hxt : s.extract i (j - 9) = S t := by
              rw [hx1 i (j - 9) (by omega) (by omega), ← ht, ← hp, List.take_take, hp, hpl]
              congr 2
              omega
            obtain ⟨j1, hj1⟩ : ∃ j1, j1 = j + 1 := ⟨_, rfl⟩
            have hxr : s.extract i j1 = S (p ++ [10]) := by
              rw [hx1 i j1 (by omega) (by omega)]
              congr 1
              rw [HP.out, hp, show j1 - i = p.length + 1 by omega, show p ++ 10 :: s.data.toList.drop (j + 1) = (p ++ [10]) ++ s.data.toList.drop (j + 1) by simp, List.take_left' (by simp)]
            have htl : t.length ≤ 65536 := by rw [← ht, List.length_take]; omega
            have hwr : IntKind.i64.wrap ((j : Int) + 1) = (j1 : Int) := by rw [hj1]; simp [IntKind.wrap, IntKind.bits, IntKind.signed]; omega
            have HJ1 := Lib.hid hj1
            have b1 : (i : Int) ≤ (j1 : Int) := by omega
            have b2 : (j1 : Int) ≤ (s.size : Int) := by omega
            have b0 : (0 : Int) ≤ (i : Int) := by omega
            have HPl := Lib.hid hpl
            have HT := Lib.hid ht
            have HP2 : Hid (s.data.toList.drop i = p ++ 10 :: s.data.toList.drop (j + 1)) := Lib.hid (by rw [← hp]; exact HP.out)
            have HQ2 : Hid (∀ c ∈ p, c ≠ 10) := Lib.hid (by rw [← hp]; exact HQ.out)
            obtain ⟨o, k, hok⟩ : ∃ o k, opRdW (Num.cutL 124 t) = (o, k) := ⟨_, _, rfl⟩
            have HOk := Lib.hid hok
            obtain ⟨kk, hkk⟩ : ∃ kk : Int, (k : Int) = kk := ⟨_, rfl⟩
            have HOf : Hid (∀ w, Calls Tryz.prog 35 #[.string (S t)] w fun e w' => e = .returned (.tuple #[opV o, .int .i64 kk]) ∧ Below w.heap.size w w') := Lib.hid fun w => by
              rw [← hkk]
              have := opOf_any (S t) w (by rw [S_size]; omega)
              rw [S_list] at this
              unfold RfOp at this
              rwa [hok] at this
            have HRc : Hid (∀ w, Calls Tryz.prog 11 #[.string (S t)] w fun e w' => e = .returned (.string (S (recL t))) ∧ Below w.heap.size w w') := Lib.hid fun w => by
              have := mrecord_any (S t) w (by rw [S_size]; omega)
              rwa [S_list] at this
            clear hp ht hj1 hpl hok hx1 HP HQ HNo
            go_wp2_with fail
            refine (HOf.out _).mono ?_
            rintro e w3 ⟨rfl, hb3⟩
            have hB4 : Below w.heap.size w (w3.alloc (.cells o.cells 38)) := (HB.out.trans (hb3.mono HB.out.size)).alloc (by have := HB.out.size; have := hb3.size; omega) _
            have hR4 := HR.out.below (hb3.trans (((Below.refl _ w3).alloc (Nat.le_refl _) (.cells o.cells 38)).mono hb3.size))
            have HB4 := Lib.hid hB4
            have HR4 := Lib.hid hR4
            have HO4 := Lib.hid (OpAt.start w3 o 38)
            clear hb3 hB4 hR4 HOf
            by_cases hk : k = 0
            · subst hk
              obtain rfl : kk = 0 := by omega
              have hrs : (S (recL t)).size ≤ 1000000 := by rw [S_size, recL_len]; omega
              have HKeep : Hid (∀ w'' w', Below w'.heap.size w' w'' → Below (w3.heap.size + 1) (w3.alloc (.cells o.cells 38)) w' → Below (w3.heap.size + 1) (w3.alloc (.cells o.cells 38)) w'') := Lib.hid fun w'' w' h1 h2 => h2.trans (h1.mono (by have := h2.size; simpa using this))
              by_cases hq : recL t = p ++ [10]
              · have HQe := Lib.hid hq
                rw [hq] at HRc
                clear hrs hq
                go_wp2_with fail
                go_region_held3 (fun w' => Below (w3.heap.size + 1) (w3.alloc (.cells o.cells 38)) w') (first | exact Below.drew (Below.refl _ _) | exact HKeep.out _ _ (by assumption) (by assumption))
                  ((go_at_call 11; refine (HRc.out _).mono ?_; rintro e w5 ⟨rfl, hb5⟩))
                rename_i hH
                have hgood := jr_ok (p := p) HOk.out HQe.out
                have HQ5 := Lib.hid (HI.out.step HP2.out hgood.1 hgood.2)
                have hB5 := HB4.out.trans (hH.mono (by have := HB4.out.size; simpa using this))
                have hR5 := HR4.out.below (by simpa using hH)
                have hO5 := HO4.out.below (by simpa using hH)
                obtain ⟨c0, c1, c2, c3, c4, c5, c6, c7⟩ := hO5
                have HR5 := Lib.hid (hR5.below ((Below.refl _ _).alloc (Nat.le_refl _) (.cells o.cells 38)))
                have HO5 : Hid (SlV opE (w5.alloc (.cells o.cells 38)) (.slice (some ⟨w5.heap.size, 0, none⟩) 1 1) [o]) := Lib.hid (SlV.one w5 o _ _ rfl)
                have HBa := Lib.hid (hB5.alloc hB5.size (.cells o.cells 38))
                have hpl := HPl.out
                have hLn : L.length ≤ 65536 := by omega
                have hs5 := hB5.size
                have HRl := Lib.hid hR5.lt
                have HJe := HJ1.out
                clear hH hgood hR5 hB5 HKeep hb5 HR4 HB4 HO4
                go_wp2_with (at_builtin; refine wpList_append_rows rfl _ _ 28 rfl opE w.heap.size 38 (opV ⟨0, 0, 0, 0, 0, 0, ⟨#[]⟩, ⟨#[]⟩⟩) 80 Tryz.underlying28 infoOp rfl (by decide) _ _ L [o] rfl rfl HR5.out HO5.out ?za1 ?za2 ?za3 ?_)
                case za1 => unfold maxLen; have : [o].length = 1 := rfl; omega
                case za2 => have : [o].length = 1 := rfl; omega
                case za3 => first | omega | (simp; omega)
                intro v6 w6 hr6 hg6
                have HB6 : Hid (Below w.heap.size w w6) := Lib.hid (HBa.out.grown hg6 (by have := HBa.out.size; omega) (fun k hk => (HRl.out k hk).1))
                have HR6 := Lib.hid hr6
                clear hr6 hg6 c0 c1 c2 c3 c4 c5 c6 c7
                go_wp2_with fail
                go_roundw
                case rel => exact ⟨L ++ [o], i + (p.length + 1), by go_num, HQ5.out, HR6.out, HB6.out⟩
                case measure => simp [intOf] <;> omega
              · have hcmp : ((S (recL t)).toList == (S (p ++ [10])).toList) = false := by
                  simp only [ByteArray.toList_eq]
                  show ((recL t) == (p ++ [10])) = false
                  simpa using hq
                have hend : Jrn.Rd GoodO recO s.data.toList L i := HI.out.done (by
                  rw [HP2.out]
                  refine md_no HQ2.out (by have := HPl.out; omega) (fun o' h' => ?_)
                  rw [HT.out]
                  exact hq)
                have HE := Lib.hid hend
                clear hend hq
                go_wp2_with fail
                go_region_held3 (fun w' => Below (w3.heap.size + 1) (w3.alloc (.cells o.cells 38)) w') (first | exact Below.drew (Below.refl _ _) | exact HKeep.out _ _ (by assumption) (by assumption))
                  ((go_at_call 11; refine (HRc.out _).mono ?_; rintro e w5 ⟨rfl, hb5⟩))
                rename_i hH
                have HR5 := Lib.hid (HR4.out.below (by simpa using hH))
                have HB5 := Lib.hid (HB4.out.trans (hH.mono (by have := HB4.out.size; simpa using this)))
                clear hH hb5
                go_wp2_with fail
                go_ret2
                exact ⟨_, L, i, rfl, HR5.out, HE.out, hLl, HB5.out⟩
            · have hk1 : decide ((0 : Int) < kk) = true := by simp; omega
              have hk2 : (0 : Int) < kk := by omega
              have hend : Jrn.Rd GoodO recO s.data.toList L i := HI.out.done (by
                rw [HP2.out]
                refine md_no HQ2.out (by have := HPl.out; omega) (fun o' h' => ?_)
                rw [HT.out, HOk.out] at h'
                exact absurd (Prod.mk.inj h').2 hk)
              have HE := Lib.hid hend
              clear hend hk hkk
              go_wp2_with fail
              go_quiet (fail)
              rename_i nq
              have HR5 := Lib.hid (HR4.out.below (below_drewN _ _ nq))
              have HB5 := Lib.hid (below_drawn HB4.out nq)
              go_wp2_with fail
              go_ret2
              exact ⟨_, L, i, rfl, HR5.out, HE.out, hLl, HB5.out⟩
        · have hcd : (((s[j].toNat : Nat) : Int) != 10) = true := by
            have : s[j].toNat ≠ 10 := fun e => h10 (UInt8.toNat_inj.1 e)
            simp; omega
          have hb3 : s.data.toList[j]? ≠ some 10 := by rw [hb]; intro e; exact h10 (Option.some.inj e)
          clear hb
          go_wp2_with fail
          go_roundw
          case rel => exact ⟨j + 1, by go_num, by omega, by omega, Lib.hid (fun t h1 h2 => by
            by_cases ht : t = j
            · rw [ht]; exact hb3
            · exact HNo.out t h1 (by omega)), trivial⟩
          case measure => simp [intOf] <;> omega
      · have j2 : ¬ (j : Int) < (s.size : Int) := by have := HN.out; omega
        have j3 : (s.size : Int) ≤ (j : Int) := by omega
        have hend : Jrn.Rd GoodO recO s.data.toList L i := HI.out.done (Jrn.no_rec recs (none_at (fun t h1 h2 => HNo.out t h1 (by have := HL.out; omega))))
        have HE := Lib.hid hend
        clear hend
        go_wp2_with fail
        go_ret2
        exact ⟨_, L, i, rfl, HR.out, HE.out, hLl, HB.out⟩
end Go.Proofs.YtbncfpljiihmnaaGreatDoor
