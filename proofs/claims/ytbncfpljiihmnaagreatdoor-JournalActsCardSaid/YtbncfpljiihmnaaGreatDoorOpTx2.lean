/- The document's text of an operation. -/
import Derived.Test.YtbncfpljiihmnaaGreatDoorOpLaw
namespace Go.Proofs.YtbncfpljiihmnaaGreatDoor
open Go Go.RowKit
set_option linter.unusedVariables false
set_option linter.unusedSimpArgs false
set_option maxHeartbeats 4000000
set_option maxRecDepth 100000

theorem join_snoc (b : UInt8) : ∀ (xs : List (List UInt8)) (x : List UInt8), xs ≠ [] → Lib.join (xs ++ [x]) [b] = Lib.join xs [b] ++ b :: x
  | [], x, h => (h rfl).elim
  | [y], x, _ => by
    have := join_two y x [] b
    rw [Lib.join_one] at this ⊢
    exact this
  | y :: z :: r, x, _ => by
    rw [List.cons_append, List.cons_append, join_two, ← List.cons_append, join_snoc b (z :: r) x (by simp), join_two]
    simp
theorem opHead_ne (o : OpT) (j : Nat) : opHead o j ≠ [] := by
  intro h
  have := opHead_len o j
  rw [h] at this
  simp at this
theorem itoa_len21 (n : Int) (h1 : -9223372036854775808 ≤ n) (h2 : n ≤ 9223372036854775807) : (Lib.itoa n).length ≤ 21 := by
  have := itoa_len20 n h1 h2
  rwa [S_size] at this
theorem opHead_size {o : OpT} (h : o.Wf) (j : Nat) : (Lib.join (opHead o j) [124]).length ≤ 1 + 22 * j := by
  induction j with
  | zero => simp [opHead, Lib.join_one]
  | succ j ih =>
    have := itoa_len21 _ (opNums_range h j).1 (opNums_range h j).2
    rw [opHead, join_snoc 124 _ _ (opHead_ne o j)]
    simp
    omega
theorem opText_parts (o : OpT) : opTextL o = Lib.join (opHead o 5) [124] ++ 124 :: (o.nm.data.toList ++ 124 :: hexL o.vl.data.toList) := by
  unfold opTextL
  rw [show opWords o = (opHead o 5 ++ [o.nm.data.toList]) ++ [hexL o.vl.data.toList] from rfl, join_snoc 124 _ _ (by simp), join_snoc 124 _ _ (opHead_ne o 5)]
  simp

/-- in OpText's loop -/
structure RtSt (w0 : World) (NB : Nat) (o : OpT) (w : World) : Prop where
  nums : ∀ j, j < 5 → w.cell? ⟨NB, j, none⟩ = some (.int .i64 (opNums o j))
  lt : NB < w.heap.size
  o : OpAt w w0.heap.size o
  bel : Below w0.heap.size w0 w
theorem RtSt.below {w0 w w' : World} {NB : Nat} {o : OpT} (h : RtSt w0 NB o w) (hb : Below w.heap.size w w') : RtSt w0 NB o w' :=
  ⟨fun j hj => (hb.cell h.lt).trans (h.nums j hj), Nat.lt_of_lt_of_le h.lt hb.size, h.o.below hb, h.bel.trans (hb.mono h.bel.size)⟩

theorem refOpText_any (o : OpT) (w : World) (hw : o.Wf) :
    Calls Tryz.prog 12 #[opV o] w fun e w' => e = .returned (.string (S (opTextL o))) ∧ Below w.heap.size w w' := by
  have hk1 := hw.k1
  have hk2 := hw.k2
  have HY : Hid (∀ w, Calls Tryz.prog 25 #[.int .i64 o.k] w fun e w' => e = .returned (.string (S [UInt8.ofNat o.k.toNat])) ∧ Below w.heap.size w w') := Lib.hid fun w => byte_any o.k w (by omega)
  have HX : Hid (∀ w, Calls Tryz.prog 27 #[.string o.vl] w fun e w' => e = .returned (.string (S (hexL o.vl.data.toList))) ∧ Below w.heap.size w w') := Lib.hid fun w => refHex_any o.vl w hw.vl1
  have HO := Lib.hid (OpAt.start w o 38)
  have HW := Lib.hid hw
  clear hw
  go_enter Tryz.func12, Tryz.ntmps12
  go_wp2_with fail
  refine (HY.out _).mono ?_
  rintro e w1 ⟨rfl, hb⟩
  have HB := Lib.hid (((Below.refl _ w).alloc (Nat.le_refl _) _).trans (hb.mono (by simp)))
  have hO := HO.out.below hb
  have HO1 := Lib.hid hO
  clear hb HO
  obtain ⟨c0, c1, c2, c3, c4, c5, c6, c7⟩ := hO
  go_wp2_with fail
  obtain ⟨W, hW⟩ : ∃ W, W = w1.alloc (.cells #[.int .i64 o.t, .int .i64 o.b, .int .i64 o.n, .int .i64 o.nd, .int .i64 o.ot] 3) := ⟨_, rfl⟩
  have hT : RtSt w w1.heap.size o W := by
    have hb2 : Below w1.heap.size w1 W := by rw [hW]; exact (Below.refl _ _).alloc (Nat.le_refl _) _
    refine ⟨?_, by rw [hW]; simp, HO1.out.below hb2, HB.out.trans (hb2.mono HB.out.size)⟩
    rw [hW]
    intro j hj
    match j, hj with
    | 0, _ => simp [go_sem, opNums]
    | 1, _ => simp [go_sem, opNums]
    | 2, _ => simp [go_sem, opNums]
    | 3, _ => simp [go_sem, opNums]
    | 4, _ => simp [go_sem, opNums]
  rw [← hW]
  obtain ⟨NB, hNB⟩ : ∃ NB, NB = w1.heap.size := ⟨_, rfl⟩
  rw [← hNB] at hT ⊢
  clear hW hNB c0 c1 c2 c3 c4 c5 c6 c7 HY
  have HT := Lib.hid hT
  clear hT HO1 HB
  go_loopw [3, 5] (fun v3 v5 wr => ∃ j : Nat, v5 = .int .i64 j ∧ j ≤ 5 ∧ v3 = .string (S (Lib.join (opHead o j) [124])) ∧ RtSt w NB o wr) (fun _ v5 _ => 5 - (intOf v5).toNat)
  case atStart => exact ⟨0, rfl, by omega, rfl, HT.out⟩
  case round =>
    obtain ⟨j, rfl, hj, rfl, hT⟩ := hrel
    clear HT
    have HT := Lib.hid hT
    clear hT
    have hlen : (S (Lib.join (opHead o j) [124])).size ≤ 200 := by rw [S_size]; have := opHead_size HW.out j; omega
    by_cases hlt5 : j < 5
    · have i0 : (0 : Int) ≤ (j : Int) := by omega
      have i1 : (j : Int) < 5 := by omega
      have q0 := HT.out.nums j hlt5
      have r1 := (opNums_range HW.out j).1
      have r2 := (opNums_range HW.out j).2
      have hl1 : (⟨#[124]⟩ : ByteArray).size = 1 := rfl
      go_wp2_with fail
      refine (decimal_any (opNums o j) _ r1 r2).mono ?_
      rintro e w2 ⟨rfl, hb⟩
      have HT2 := Lib.hid (HT.out.below hb)
      have hl2 := itoa_len20 _ r1 r2
      have hl3 : (S (Lib.join (opHead o j) [124]) ++ (⟨#[124]⟩ : ByteArray)).size ≤ 201 := by rw [ByteArray.size_append]; omega
      clear HT hb q0
      go_wp2_with fail
      go_roundw
      case rel =>
        refine ⟨j + 1, by go_num, by omega, ?_, HT2.out⟩
        rw [opHead, join_snoc 124 _ _ (opHead_ne o j)]
        rw [show (⟨#[124]⟩ : ByteArray) = S [124] from rfl, S_app, S_app]
        simp
      case measure => simp [intOf]; omega
    · have hj5 : j = 5 := by omega
      subst hj5
      have c6 := HT.out.o.c6
      have c7 := HT.out.o.c7
      have HM : Hid (∀ w', Below wr.heap.size wr w' → w'.cell? ⟨w.heap.size, 6, none⟩ = some (.string o.nm) ∧ w'.cell? ⟨w.heap.size, 7, none⟩ = some (.string o.vl)) := Lib.hid fun w' hb => ⟨(HT.out.o.below hb).c6, (HT.out.o.below hb).c7⟩
      have hn1 : o.nm.size ≤ 100000 := HW.out.nm1
      have hv1 : o.vl.size ≤ 100000 := HW.out.vl1
      have hh : (S (hexL o.vl.data.toList)).size ≤ 200000 := by rw [S_size, hexL_len]; have : o.vl.data.toList.length = o.vl.size := rfl; omega
      have hl1 : (⟨#[124]⟩ : ByteArray).size = 1 := rfl
      obtain ⟨T0, hT0⟩ : ∃ T0, T0 = S (Lib.join (opHead o 5) [124]) := ⟨_, rfl⟩
      obtain ⟨T5, hT5⟩ : ∃ T5, T5 = S (hexL o.vl.data.toList) := ⟨_, rfl⟩
      rw [← hT0] at hlen ⊢
      rw [← hT5] at hh HX
      have HT0 := Lib.hid hT0
      have HT5 := Lib.hid hT5
      clear hT0 hT5
      have hz1 : (⟨#[124]⟩ : ByteArray).size = 1 := rfl
      obtain ⟨U1, hU1⟩ : ∃ U1, U1 = T0 ++ (⟨#[124]⟩ : ByteArray) := ⟨_, rfl⟩
      obtain ⟨U2, hU2⟩ : ∃ U2, U2 = U1 ++ o.nm := ⟨_, rfl⟩
      obtain ⟨U3, hU3⟩ : ∃ U3, U3 = U2 ++ (⟨#[124]⟩ : ByteArray) := ⟨_, rfl⟩
      obtain ⟨U4, hU4⟩ : ∃ U4, U4 = U3 ++ T5 := ⟨_, rfl⟩
      have z1 : U1.size ≤ 201 := by rw [hU1, ByteArray.size_append]; omega
      have z2 : U2.size ≤ 100201 := by rw [hU2, ByteArray.size_append]; omega
      have z3 : U3.size ≤ 100202 := by rw [hU3, ByteArray.size_append]; omega
      have m1 : ∀ w, (Op.stringOp .add T0 ⟨#[124]⟩).run Tryz.prog w = .ok (.string U1) w := fun w => by rw [hU1]; exact run_string_add_sum (P := Tryz.prog) (w := w) _ _ (by omega)
      have m2 : ∀ w, (Op.stringOp .add U1 o.nm).run Tryz.prog w = .ok (.string U2) w := fun w => by rw [hU2]; exact run_string_add_sum (P := Tryz.prog) (w := w) _ _ (by omega)
      have m3 : ∀ w, (Op.stringOp .add U2 ⟨#[124]⟩).run Tryz.prog w = .ok (.string U3) w := fun w => by rw [hU3]; exact run_string_add_sum (P := Tryz.prog) (w := w) _ _ (by omega)
      have m4 : ∀ w, (Op.stringOp .add U3 T5).run Tryz.prog w = .ok (.string U4) w := fun w => by rw [hU4]; exact run_string_add_sum (P := Tryz.prog) (w := w) _ _ (by omega)
      have HU1 := Lib.hid hU1
      have HU2 := Lib.hid hU2
      have HU3 := Lib.hid hU3
      have HU4 := Lib.hid hU4
      clear hU1 hU2 hU3 hU4 z1 z2 z3
      go_wp2_with fail
      go_region_held3 (fun w' => w'.cell? ⟨w.heap.size, 6, none⟩ = some (.string o.nm) ∧ w'.cell? ⟨w.heap.size, 7, none⟩ = some (.string o.vl)) (first | exact HM.out _ (Below.drew (Below.refl _ _)) | exact HM.out _ (by assumption)) ((go_at_call 27; refine (HX.out _).mono ?_; rintro e w2 ⟨rfl, hb2⟩; have hS2 : Below wr.heap.size wr w2 := ((Below.refl wr.heap.size wr).drew).trans hb2))
      all_goals
        rename_i hH
        clear hH
        have hfin := HT.out.below hS2
        have HF := Lib.hid hfin.bel
        clear hS2 hb2 hfin HM HX HT c6 c7
        go_wp2_with fail
        go_ret
        refine ⟨?_, HF.out⟩
        rw [HU4.out, HU3.out, HU2.out, HU1.out, HT0.out, HT5.out, opText_parts]
        rw [show (⟨#[124]⟩ : ByteArray) = S [124] from rfl, ← S_of o.nm, S_app, S_app, S_app, S_app]
        simp [S_list]
end Go.Proofs.YtbncfpljiihmnaaGreatDoor
