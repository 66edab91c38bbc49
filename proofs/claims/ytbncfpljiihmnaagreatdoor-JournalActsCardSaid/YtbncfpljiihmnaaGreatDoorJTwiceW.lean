/- JournalTwice: the walk of the law. -/
import Derived.Test.YtbncfpljiihmnaaGreatDoorNoted
namespace Go.Proofs.YtbncfpljiihmnaaGreatDoor
open Go Go.RowKit
set_option linter.unusedVariables false
set_option linter.unusedSimpArgs false
set_option maxHeartbeats 4000000
set_option maxRecDepth 100000

theorem recO_ge (o : OpT) : o.nm.size + 2 * o.vl.size ≤ (recO o).length := by
  rw [recO, recL_len, opTextL, opWords]
  have h : o.nm.data.toList.length = o.nm.size := rfl
  have h2 := hexL_len o.vl.data.toList
  have h3 : o.vl.data.toList.length = o.vl.size := rfl
  simp only [Lib.join, List.intercalate, List.intersperse, List.flatten, List.length_append, List.length_cons, List.length_nil]
  simp
  omega
theorem good_wf {o : OpT} (h : GoodO o) (hl : (recO o).length ≤ 100000) : o.Wf := by
  have hN := op_nums h
  have hk := kind_ok h
  have hg := recO_ge o
  have n0 := hN 0
  have n1 := hN 1
  have n2 := hN 2
  have n3 := hN 3
  have n4 := hN 4
  simp only [opNums] at n0 n1 n2 n3 n4
  refine ⟨?_, ?_, ?_, ?_, ?_, ?_, ?_, ?_, ?_, ?_, ?_, ?_, ?_, ?_⟩ <;> omega
theorem cat_len_mem {L : List OpT} {o : OpT} (h : o ∈ L) : (recO o).length ≤ (Jrn.cat recO L).length := by
  induction L with
  | nil => cases h
  | cons a L ih =>
    rw [Jrn.cat, List.length_append]
    rcases List.mem_cons.1 h with rfl | h
    · omega
    · have := ih h; omega
theorem cat_take_len (L : List OpT) (i : Nat) : (Jrn.cat recO (L.take i)).length ≤ (Jrn.cat recO L).length := by
  conv => rhs; rw [← List.take_append_drop i L, Jrn.cat_append, List.length_append]
  omega
theorem cat_take_succ {L : List OpT} {i : Nat} {o : OpT} (h : L[i]? = some o) : Jrn.cat recO (L.take (i + 1)) = Jrn.cat recO (L.take i) ++ recO o := by
  rw [List.take_add_one, h, Option.toList_some, cat_snoc]

namespace journalTwice
theorem walk {F : Nat → Bool} (ea : Nat → Addr) (s : ByteArray) (w : World) (hG : Gd F ea w) (f1 : F 1 = true) (f2 : F 2 = true) (f3 : F 3 = true) (f4 : F 4 = true) (f5 : F 5 = true) (f8 : F 8 = true) (f11 : F 11 = true) (f21 : F 21 = true) (f22 : F 22 = true) (f23 : F 23 = true) :
    Calls Tryz.prog 3 #[.string s] w fun e w' => e = .returned (.bool true) ∧ Below w.heap.size w w' := by
  have HNo := Lib.hid (noted_any ea w hG f1 f2 f3 f4 f5 f8 f11 f21 f22 f23)
  by_cases hbig : 3000 < s.size
  · have hb1 : (3000 : Int) < (s.size : Int) := by omega
    clear hG
    go_enter Tryz.func3, Tryz.ntmps3
    go_wp2_with fail
    refine HNo.out.mono ?_
    rintro e w1 ⟨rfl, hb⟩
    have HB := Lib.hid hb
    clear hb
    go_wp2_with fail
    go_ret
    exact ⟨rfl, HB.out⟩
  · have hb1 : ¬ (3000 : Int) < (s.size : Int) := by omega
    have hsz : s.size ≤ 3000 := by omega
    have hsl : s.data.toList.length = s.size := rfl
    have HND := Lib.hid (fun w => newDisk_any s w (by omega))
    have HR : Hid (∀ D v bs w', bs.length ≤ 65536 → Below w.heap.size w w' → DSt w.heap.size D v bs false (-1) w' → Calls Tryz.prog 8 #[.pointer (some ⟨D, 0, none⟩)] w' (RecEnds w.heap.size D v bs w')) := Lib.hid fun D v bs w' hl hb hD => recover_any ea w D v bs false (-1) w' hG f1 f2 f3 f4 f5 f21 f22 f23 hb hD hl
    clear hG hbig
    go_enter Tryz.func3, Tryz.ntmps3
    go_wp2_with fail
    refine HNo.out.mono ?_
    rintro e w1 ⟨rfl, hb⟩
    have HB1 := Lib.hid hb
    clear hb
    go_wp2_with fail
    refine (HND.out _).mono ?_
    rintro e w2 ⟨D, v, rfl, hD, hb⟩
    have hB2 := HB1.out.trans (hb.mono HB1.out.size)
    have HB2 := Lib.hid hB2
    have hD2 : DSt w.heap.size D v s.data.toList false (-1) w2 := ⟨hD.c0, hD.c1, hD.c2, hD.fz, by obtain ⟨g, cap, cur, fz, h1, h2, h3⟩ := hD.row; exact ⟨g, cap, cur, fz, h1, Nat.le_trans HB1.out.size h2, h3⟩, hD.ne, Nat.le_trans HB1.out.size hD.ge, hD.lo, hD.hi⟩
    have HD2 := Lib.hid hD2
    have HV2 := Lib.hid (fun k hk => (hD.row.lt k hk).2)
    have hDl := hD2.lt
    have HR2 := Lib.hid (HR.out D v s.data.toList w2 (by rw [hsl]; omega) hB2 hD2)
    clear hb hB2 hD hD2 HND HNo HB1
    go_wp2_with fail
    refine HR2.out.mono ?_
    rintro e w3 ⟨u, L, n, v3, rfl, hRw, hRd, hLn, hD3, hF3, hv3⟩
    have hn := hRd.le
    have hB3 := HD2.out.fb hF3 HB2.out
    have HU3 := Lib.hid hRw.lt
    obtain ⟨A3, n3, c3, rfl⟩ := hRw.slice
    have HS3 := Lib.hid hRw.sl
    have HRw3 := Lib.hid hRw
    have HRd := Lib.hid hRd
    have HD3 := Lib.hid hD3
    have HB3 := Lib.hid hB3
    have HBy3 := Lib.hid (diskBytes_any _ _ _ _ _ _ _ hD3)
    obtain ⟨T, hT⟩ : ∃ T, T = S (s.data.toList.take n) := ⟨_, rfl⟩
    rw [← hT] at HBy3
    have hTs : T.size = n := by rw [hT, S_size, List.length_take]; omega
    have hext : s.extract 0 n = T := by
      rw [hT]
      apply ByteArray.ext
      apply Array.toList_inj.1
      rw [ByteArray.data_extract, Array.toList_extract, List.extract]
      simp [S]
    have HR3 := Lib.hid (HR.out D v3 (s.data.toList.take n) w3 (by rw [List.length_take]; omega) hB3 hD3)
    have HT := Lib.hid hT
    have hn1 : (n : Int) ≤ (s.size : Int) := by omega
    have HV3 : Hid (v3.ownBlock = v.ownBlock) := Lib.hid hv3
    clear hRw hRd hD3 hF3 hv3 hB3 hT HR2 HR
    go_wp2_with fail
    refine HBy3.out.mono ?_
    rintro e w4 ⟨rfl, rfl⟩
    go_wp2_with fail
    refine HR3.out.mono ?_
    rintro e w5 ⟨u5, L5, n5, v5, rfl, hRw5, hRd5, hLn5, hD5, hF5, hv5⟩
    obtain ⟨rfl, rfl⟩ := hRd5.unique recs (HRd.out.again recs)
    rw [List.take_take, Nat.min_self] at hD5
    have hB5 := HD3.out.fb hF5 HB3.out
    have hRw35 := HRw3.out.fr (X := Own D v3) (fun k h1 h2 => hF5.block k h1 h2) (by
      intro k hk ho
      have h1 := (HU3.out k hk).1
      rcases ho with h | h
      · omega
      · rw [HV3.out] at h
        have := HV2.out k h
        omega)
    obtain ⟨A5, m5, c5, rfl⟩ := hRw5.slice
    have HSo := Lib.hid (sameOps_any A3 A5 n3 c3 m5 c5 L5 w5 hRw35.sl hRw5.sl (by omega))
    have HS35 := Lib.hid hRw35.sl
    have HB5 := Lib.hid hB5
    have HBy5 := Lib.hid (diskBytes_any _ _ _ _ _ _ _ hD5)
    rw [← HT.out] at HBy5
    clear hRw5 hRd5 hLn5 hD5 hF5 hv5 hB5 hRw35 HR3 HS3 HRw3
    go_wp2_with fail
    refine HBy5.out.mono ?_
    rintro e w6 ⟨rfl, rfl⟩
    go_wp2_with fail
    refine HSo.out.mono ?_
    rintro e w7 ⟨rfl, hb7⟩
    have HS7 := Lib.hid (HS35.out.below hb7)
    have HB7 := Lib.hid (HB5.out.trans (hb7.mono HB5.out.size))
    clear hb7 HSo HS35
    have hcat : Jrn.cat recO L5 = s.data.toList.take n5 := HRd.out.eq.symm
    have hn3 := HS7.out.len
    have hcl : (Jrn.cat recO L5).length = n5 := HRd.out.len
    have HW : Hid (∀ i x, L5[i]? = some x → ∀ w, Calls Tryz.prog 12 #[.agg x.cells] w fun e w' => e = .returned (.string (S (opTextL x))) ∧ Below w.heap.size w w') := Lib.hid fun i x hx w => refOpText_any x w (good_wf (HRd.out.all x (List.mem_of_getElem? hx)) (by have := cat_len_mem (List.mem_of_getElem? hx); omega))
    have HRec : Hid (∀ i x, L5[i]? = some x → ∀ w, Calls Tryz.prog 11 #[.string (S (opTextL x))] w fun e w' => e = .returned (.string (S (recO x))) ∧ Below w.heap.size w w') := Lib.hid fun i x hx w => by
      have h1 := cat_len_mem (List.mem_of_getElem? hx)
      have h2 : (recO x).length = (opTextL x).length + 10 := by rw [recO, recL_len]
      have := mrecord_any (S (opTextL x)) w (by rw [S_size]; omega)
      rwa [S_list] at this
    have HCat := Lib.hid hcat
    have HCl := Lib.hid hcl
    have HN3 := Lib.hid hn3
    have hLl : L5.length ≤ 3000 := by omega
    clear hcat hcl
    obtain ⟨m, hm⟩ : ∃ m, m = L5.length := ⟨_, rfl⟩
    rw [← hm] at hn3 hLl
    have HM := Lib.hid hm
    clear hm
    subst hn3
    go_wp2_with fail
    go_loopw [9, 10] (fun v9 v10 wr => ∃ i : Nat, v10 = .int .i64 i ∧ i ≤ n3 ∧ v9 = .string (S (Jrn.cat recO (L5.take i))) ∧ Hid (Below w7.heap.size w7 wr)) (fun _ v10 _ => n3 - (intOf v10).toNat)
    case atStart => exact ⟨0, rfl, by omega, rfl, Lib.hid (Below.refl _ _)⟩
    case round =>
      obtain ⟨i, rfl, hi, rfl, HB⟩ := hrel
      by_cases hlt : i < n3
      · obtain ⟨x, hx⟩ : ∃ x, L5[i]? = some x := ⟨_, List.getElem?_eq_getElem (by have := HM.out; omega)⟩
        obtain ⟨b, off, rfl, hbl, c0, c1, c2, c3', c4, c5', c6, c7⟩ := ops_at (HS7.out.below HB.out) hx
        have i1 : (0 : Int) ≤ (i : Int) := by omega
        have i2 : (i : Int) < (n3 : Int) := by omega
        have HW1 := Lib.hid (HW.out i x hx)
        have HRec1 := Lib.hid (HRec.out i x hx)
        have HSu := Lib.hid (cat_take_succ hx)
        have z1 : (S (Jrn.cat recO (L5.take i))).size ≤ 3000 := by
          rw [S_size]
          have h1 := cat_take_len L5 i
          have h2 := HCl.out
          omega
        have z2 : (S (recO x)).size ≤ 3000 := by
          rw [S_size]
          have h1 := cat_len_mem (List.mem_of_getElem? hx)
          have h2 := HCl.out
          omega
        have HCw : Hid (∀ q, Below w7.heap.size w7 (wr.drewN q)) := Lib.hid fun q => below_drawn HB.out q
        clear hx hbl
        go_wp2_with fail
        refine (HW1.out _).mono ?_
        rintro e w8 ⟨rfl, hb8⟩
        have HB8 := Lib.hid (HB.out.trans (hb8.mono HB.out.size))
        clear hb8 HW1
        go_wp2_with fail
        refine (HRec1.out _).mono ?_
        rintro e w9 ⟨rfl, hb9⟩
        have HB9 := Lib.hid (HB8.out.trans (hb9.mono HB8.out.size))
        clear hb9 HRec1 c0 c1 c2 c3' c4 c5' c6 c7
        go_wp2_with fail
        go_roundw
        case rel => exact ⟨i + 1, by go_num, by omega, by rw [HSu.out, ← S_app], HB9⟩
        case measure => simp [intOf] <;> omega
      · have i2 : ¬ (i : Int) < (n3 : Int) := by omega
        have hcmp : ((S (Jrn.cat recO (L5.take i))).toList == T.toList) = true := by
          rw [List.take_of_length_le (by have := HM.out; omega), HCat.out, ← HT.out]
          simp
        go_wp2_with fail
        go_ret
        exact ⟨rfl, HB7.out.trans (HB.out.mono HB7.out.size)⟩
end journalTwice
end Go.Proofs.YtbncfpljiihmnaaGreatDoor
