/- Operations: the document's OpError. -/
import Derived.Test.YtneggbhjekklhaaDoorOps
namespace Go.Proofs.YtneggbhjekklhaaDoor
open Go Go.RowKit
set_option linter.unusedVariables false
set_option linter.unusedSimpArgs false
set_option maxHeartbeats 4000000
set_option maxRecDepth 100000

theorem opError_any (o : OpT) (w : World) (hw : o.Wf) :
    Calls Tryd.prog 21 #[opV o] w fun e w' => e = .returned (.int .i64 (opErr o)) ∧ Below w.heap.size w w' := by
  have hnm := hw.nm1
  have hvl := hw.vl1
  have hk1 := hw.k1
  have hk2 := hw.k2
  clear hw
  have HO := Lib.hid (OpAt.start w o 28)
  by_cases h1 : StampOk o.t o.b
  · have HC : Hid (Calls Tryd.prog 50 #[stampV o.t o.b] (w.alloc (.cells o.cells 28)) fun e w' => e = .returned (.int .i64 0) ∧ Below (w.alloc (.cells o.cells 28)).heap.size (w.alloc (.cells o.cells 28)) w') := Lib.hid (stampError_ok _ _ _ h1)
    have HD : Hid (∀ w, Calls Tryd.prog 51 #[stampV o.t o.b] w fun e w' => e = .returned (.int .i64 o.id) ∧ Below w.heap.size w w') := Lib.hid fun w => idOf_ok _ _ w h1
    by_cases hn : o.n < 1 ∨ 400 < o.n
    · have H : Hid (opErr o = 2) := by
        unfold opErr
        rw [if_pos (.inr hn)]
        exact rfl
      rw [H.out]
      clear h1 H HD
      rcases (show o.n < 1 ∨ (1 ≤ o.n ∧ 400 < o.n) by omega) with hn1 | ⟨hn1, hn2⟩
      all_goals
        clear hn
        go_enter Tryd.func21, Tryd.ntmps21
        go_wp2_with fail
        refine HC.out.mono ?_
        rintro e w1 ⟨rfl, hb⟩
        obtain ⟨c0, c1, c2, c3, c4, c5, c6, c7⟩ := HO.out.below hb
        have HB := Lib.hid (((Below.refl _ _).alloc (Nat.le_refl _) _).trans (hb.mono (by simp)))
        clear hb
        go_wp2_with fail
        go_ret
        exact ⟨rfl, HB.out⟩
    have n1 := (decide_lt hn).1
    have n2 := (decide_lt hn).2
    by_cases hk : o.k = 109 ∨ o.k = 105 ∨ o.k = 100 ∨ o.k = 115
    · have H : opErr o = (if numB o.k o.nd o.ot o.id = false then 3 else if nmB o = false then 4 else if vlB o.k o.vl = false then 3 else 0) := by
        unfold opErr
        rw [if_neg (fun h => h.elim (fun h => h h1) hn), if_neg (fun h => h hk)]
      rw [H]
      clear h1 H hn
      generalize eN : numB o.k o.nd o.ot o.id = rN
      generalize eM : nmB o = rM
      generalize eV : vlB o.k o.vl = rV
      have HNam : Hid ((o.k = 109 ∨ o.k = 115) → ∀ w, Calls Tryd.prog 52 #[.string o.nm] w fun e w' => e = .returned (.bool rM) ∧ w' = w) := Lib.hid fun h w => refName_any rM o.nm w hnm (by rw [← eM]; unfold nmB; rw [if_pos h])
      have HEmp : ¬ (o.k = 109 ∨ o.k = 115) → o.nm.toList.isEmpty = rM := fun h => by
        rw [← eM]
        unfold nmB
        rw [if_neg h]
        by_cases h0 : o.nm.size = 0
        · rw [isEmpty_of h0, decide_eq_true h0]
        · rw [isEmpty_not h0, decide_eq_false h0]
      have HSe : Hid (∀ w, Calls Tryd.prog 53 #[.string o.vl] w fun e w' => e = .returned (.bool (isSnB o.vl.data.toList)) ∧ w' = w) := Lib.hid fun w => refSeen_any _ o.vl w hvl rfl
      have eN' : decide (0 ≤ o.nd ∧ o.nd ≤ o.id ∧ (o.nd = o.id → o.k = 109) ∧ (o.k = 109 → o.nd ≠ 0 ∧ o.nd ≠ 1 ∧ 0 ≤ o.ot ∧ o.ot < o.id) ∧ (o.k = 105 → 0 ≤ o.ot ∧ o.ot < o.id) ∧ (o.k = 100 → 0 < o.ot ∧ o.ot < o.id) ∧ (o.k ≠ 109 ∧ o.k ≠ 105 ∧ o.k ≠ 100 → o.ot = 0)) = rN := eN
      have hE0 : o.vl.toList.isEmpty = decide (o.vl.size = 0) := by
        by_cases h0 : o.vl.size = 0
        · rw [isEmpty_of h0, decide_eq_true h0]
        · rw [isEmpty_not h0, decide_eq_false h0]
      unfold vlB at eV
      generalize o.id = id at HD eN'
      clear eN eM hnm hvl hk1 hk2
      obtain ⟨t, b, n, k, nd, ot, nm, vl⟩ := o
      simp only at n1 n2 hk HEmp eN' eV hE0
      rcases hk with rfl | rfl | rfl | rfl
      · have HNa := Lib.hid (HNam.out (.inl rfl))
        clear HNam HEmp
        cases rN
        · clear eV
          have eN2 := of_decide_eq_false eN'
          clear eN'
          go_enter Tryd.func21, Tryd.ntmps21
          go_wp2_with fail
          refine HC.out.mono ?_
          rintro e w1 ⟨rfl, hb⟩
          have HB := Lib.hid (((Below.refl _ w).alloc (Nat.le_refl _) _).trans (hb.mono (by simp)))
          have hO := HO.out.below hb
          have HO1 := Lib.hid hO
          clear HO HC hb
          obtain ⟨c0, c1, c2, c3, c4, c5, c6, c7⟩ := hO
          go_wp2_with fail
          refine (HD.out _).mono ?_
          rintro e w2 ⟨rfl, hb⟩
          obtain ⟨c0, c1, c2, c3, c4, c5, c6, c7⟩ := HO1.out.below hb
          have HB := Lib.hid (HB.out.trans (hb.mono HB.out.size))
          clear hb
          go_wp2_with fail
          all_goals first
            | (go_ret
               exact ⟨rfl, HB.out⟩)
            | (exfalso
               clear HB HO1 HD HSe c0 c1 c2 c3 c4 c5 c6 c7
               simp at *
               omega)
        have eN2 := of_decide_eq_true eN'
        clear eN'
        have f1 : 2 ≤ nd := by omega
        have f2 : nd ≤ id := by omega
        have f3 : 0 ≤ ot := by omega
        have f4 : ot < id := by omega
        clear eN2
        have eV2 : vl.toList.isEmpty = rV := hE0.trans eV
        clear eV hE0
        cases rM
        · go_enter Tryd.func21, Tryd.ntmps21
          go_wp2_with fail
          refine HC.out.mono ?_
          rintro e w1 ⟨rfl, hb⟩
          have HB := Lib.hid (((Below.refl _ w).alloc (Nat.le_refl _) _).trans (hb.mono (by simp)))
          have hO := HO.out.below hb
          have HO1 := Lib.hid hO
          clear HO HC hb
          obtain ⟨c0, c1, c2, c3, c4, c5, c6, c7⟩ := hO
          go_wp2_with fail
          refine (HD.out _).mono ?_
          rintro e w2 ⟨rfl, hb⟩
          obtain ⟨c0, c1, c2, c3, c4, c5, c6, c7⟩ := HO1.out.below hb
          have HB := Lib.hid (HB.out.trans (hb.mono HB.out.size))
          clear hb
          go_wp2_with fail
          refine (HNa.out _).mono ?_
          rintro e w4 ⟨rfl, rfl⟩
          go_wp2_with fail
          go_ret
          exact ⟨rfl, HB.out⟩
        cases rV
        · go_enter Tryd.func21, Tryd.ntmps21
          go_wp2_with fail
          refine HC.out.mono ?_
          rintro e w1 ⟨rfl, hb⟩
          have HB := Lib.hid (((Below.refl _ w).alloc (Nat.le_refl _) _).trans (hb.mono (by simp)))
          have hO := HO.out.below hb
          have HO1 := Lib.hid hO
          clear HO HC hb
          obtain ⟨c0, c1, c2, c3, c4, c5, c6, c7⟩ := hO
          go_wp2_with fail
          refine (HD.out _).mono ?_
          rintro e w2 ⟨rfl, hb⟩
          obtain ⟨c0, c1, c2, c3, c4, c5, c6, c7⟩ := HO1.out.below hb
          have HB := Lib.hid (HB.out.trans (hb.mono HB.out.size))
          clear hb
          go_wp2_with fail
          refine (HNa.out _).mono ?_
          rintro e w4 ⟨rfl, rfl⟩
          go_wp2_with fail
          go_ret
          exact ⟨rfl, HB.out⟩
        · go_enter Tryd.func21, Tryd.ntmps21
          go_wp2_with fail
          refine HC.out.mono ?_
          rintro e w1 ⟨rfl, hb⟩
          have HB := Lib.hid (((Below.refl _ w).alloc (Nat.le_refl _) _).trans (hb.mono (by simp)))
          have hO := HO.out.below hb
          have HO1 := Lib.hid hO
          clear HO HC hb
          obtain ⟨c0, c1, c2, c3, c4, c5, c6, c7⟩ := hO
          go_wp2_with fail
          refine (HD.out _).mono ?_
          rintro e w2 ⟨rfl, hb⟩
          obtain ⟨c0, c1, c2, c3, c4, c5, c6, c7⟩ := HO1.out.below hb
          have HB := Lib.hid (HB.out.trans (hb.mono HB.out.size))
          clear hb
          go_wp2_with fail
          refine (HNa.out _).mono ?_
          rintro e w4 ⟨rfl, rfl⟩
          go_wp2_with fail
          go_ret
          exact ⟨rfl, HB.out⟩
      · have hE := HEmp (by omega)
        clear HNam HEmp
        cases rN
        · clear eV
          have eN2 := of_decide_eq_false eN'
          clear eN'
          go_enter Tryd.func21, Tryd.ntmps21
          go_wp2_with fail
          refine HC.out.mono ?_
          rintro e w1 ⟨rfl, hb⟩
          have HB := Lib.hid (((Below.refl _ w).alloc (Nat.le_refl _) _).trans (hb.mono (by simp)))
          have hO := HO.out.below hb
          have HO1 := Lib.hid hO
          clear HO HC hb
          obtain ⟨c0, c1, c2, c3, c4, c5, c6, c7⟩ := hO
          go_wp2_with fail
          refine (HD.out _).mono ?_
          rintro e w2 ⟨rfl, hb⟩
          obtain ⟨c0, c1, c2, c3, c4, c5, c6, c7⟩ := HO1.out.below hb
          have HB := Lib.hid (HB.out.trans (hb.mono HB.out.size))
          clear hb
          go_wp2_with fail
          all_goals first
            | (go_ret
               exact ⟨rfl, HB.out⟩)
            | (exfalso
               clear HB HO1 HD HSe c0 c1 c2 c3 c4 c5 c6 c7
               simp at *
               omega)
        have eN2 := of_decide_eq_true eN'
        clear eN'
        have f1 : 0 ≤ nd := by omega
        have f2 : nd < id := by omega
        have f3 : 0 ≤ ot := by omega
        have f4 : ot < id := by omega
        clear eN2
        generalize isSnB vl.data.toList = sn at HSe eV
        have hz : ((vl.size : Int) == 1) = decide (vl.size = 1) := by rw [Bool.eq_iff_iff]; simp; omega
        generalize decide (vl.size = 1) = z at hz eV
        have eV2 : rV = (z && sn) := eV.symm
        clear eV hE0
        cases rM
        · go_enter Tryd.func21, Tryd.ntmps21
          go_wp2_with fail
          refine HC.out.mono ?_
          rintro e w1 ⟨rfl, hb⟩
          have HB := Lib.hid (((Below.refl _ w).alloc (Nat.le_refl _) _).trans (hb.mono (by simp)))
          have hO := HO.out.below hb
          have HO1 := Lib.hid hO
          clear HO HC hb
          obtain ⟨c0, c1, c2, c3, c4, c5, c6, c7⟩ := hO
          go_wp2_with fail
          refine (HD.out _).mono ?_
          rintro e w2 ⟨rfl, hb⟩
          obtain ⟨c0, c1, c2, c3, c4, c5, c6, c7⟩ := HO1.out.below hb
          have HB := Lib.hid (HB.out.trans (hb.mono HB.out.size))
          clear hb
          go_wp2_with fail
          go_ret
          exact ⟨rfl, HB.out⟩
        subst eV2
        cases z
        · have hz1 : ¬ (vl.size : Int) = 1 := by simpa using hz
          clear hz
          go_enter Tryd.func21, Tryd.ntmps21
          go_wp2_with fail
          refine HC.out.mono ?_
          rintro e w1 ⟨rfl, hb⟩
          have HB := Lib.hid (((Below.refl _ w).alloc (Nat.le_refl _) _).trans (hb.mono (by simp)))
          have hO := HO.out.below hb
          have HO1 := Lib.hid hO
          clear HO HC hb
          obtain ⟨c0, c1, c2, c3, c4, c5, c6, c7⟩ := hO
          go_wp2_with fail
          refine (HD.out _).mono ?_
          rintro e w2 ⟨rfl, hb⟩
          obtain ⟨c0, c1, c2, c3, c4, c5, c6, c7⟩ := HO1.out.below hb
          have HB := Lib.hid (HB.out.trans (hb.mono HB.out.size))
          clear hb
          go_wp2_with fail
          refine (HSe.out _).mono ?_
          rintro e w5 ⟨rfl, rfl⟩
          go_wp2_with fail
          go_ret
          exact ⟨rfl, HB.out⟩
        have hz1 : (vl.size : Int) = 1 := by simpa using hz
        clear hz
        cases sn
        · go_enter Tryd.func21, Tryd.ntmps21
          go_wp2_with fail
          refine HC.out.mono ?_
          rintro e w1 ⟨rfl, hb⟩
          have HB := Lib.hid (((Below.refl _ w).alloc (Nat.le_refl _) _).trans (hb.mono (by simp)))
          have hO := HO.out.below hb
          have HO1 := Lib.hid hO
          clear HO HC hb
          obtain ⟨c0, c1, c2, c3, c4, c5, c6, c7⟩ := hO
          go_wp2_with fail
          refine (HD.out _).mono ?_
          rintro e w2 ⟨rfl, hb⟩
          obtain ⟨c0, c1, c2, c3, c4, c5, c6, c7⟩ := HO1.out.below hb
          have HB := Lib.hid (HB.out.trans (hb.mono HB.out.size))
          clear hb
          go_wp2_with fail
          refine (HSe.out _).mono ?_
          rintro e w5 ⟨rfl, rfl⟩
          go_wp2_with fail
          go_ret
          exact ⟨rfl, HB.out⟩
        · go_enter Tryd.func21, Tryd.ntmps21
          go_wp2_with fail
          refine HC.out.mono ?_
          rintro e w1 ⟨rfl, hb⟩
          have HB := Lib.hid (((Below.refl _ w).alloc (Nat.le_refl _) _).trans (hb.mono (by simp)))
          have hO := HO.out.below hb
          have HO1 := Lib.hid hO
          clear HO HC hb
          obtain ⟨c0, c1, c2, c3, c4, c5, c6, c7⟩ := hO
          go_wp2_with fail
          refine (HD.out _).mono ?_
          rintro e w2 ⟨rfl, hb⟩
          obtain ⟨c0, c1, c2, c3, c4, c5, c6, c7⟩ := HO1.out.below hb
          have HB := Lib.hid (HB.out.trans (hb.mono HB.out.size))
          clear hb
          go_wp2_with fail
          refine (HSe.out _).mono ?_
          rintro e w5 ⟨rfl, rfl⟩
          go_wp2_with fail
          go_ret
          exact ⟨rfl, HB.out⟩
      · have hE := HEmp (by omega)
        clear HNam HEmp
        cases rN
        · clear eV
          have eN2 := of_decide_eq_false eN'
          clear eN'
          go_enter Tryd.func21, Tryd.ntmps21
          go_wp2_with fail
          refine HC.out.mono ?_
          rintro e w1 ⟨rfl, hb⟩
          have HB := Lib.hid (((Below.refl _ w).alloc (Nat.le_refl _) _).trans (hb.mono (by simp)))
          have hO := HO.out.below hb
          have HO1 := Lib.hid hO
          clear HO HC hb
          obtain ⟨c0, c1, c2, c3, c4, c5, c6, c7⟩ := hO
          go_wp2_with fail
          refine (HD.out _).mono ?_
          rintro e w2 ⟨rfl, hb⟩
          obtain ⟨c0, c1, c2, c3, c4, c5, c6, c7⟩ := HO1.out.below hb
          have HB := Lib.hid (HB.out.trans (hb.mono HB.out.size))
          clear hb
          go_wp2_with fail
          all_goals first
            | (go_ret
               exact ⟨rfl, HB.out⟩)
            | (exfalso
               clear HB HO1 HD HSe c0 c1 c2 c3 c4 c5 c6 c7
               simp at *
               omega)
        have eN2 := of_decide_eq_true eN'
        clear eN'
        have f1 : 0 ≤ nd := by omega
        have f2 : nd < id := by omega
        have f3 : 0 ≤ ot := by omega
        have f4 : ot < id := by omega
        have f5 : (ot == 0) = false := by simp; omega
        clear eN2
        have eV2 : vl.toList.isEmpty = rV := hE0.trans eV
        clear eV hE0
        cases rM
        · go_enter Tryd.func21, Tryd.ntmps21
          go_wp2_with fail
          refine HC.out.mono ?_
          rintro e w1 ⟨rfl, hb⟩
          have HB := Lib.hid (((Below.refl _ w).alloc (Nat.le_refl _) _).trans (hb.mono (by simp)))
          have hO := HO.out.below hb
          have HO1 := Lib.hid hO
          clear HO HC hb
          obtain ⟨c0, c1, c2, c3, c4, c5, c6, c7⟩ := hO
          go_wp2_with fail
          refine (HD.out _).mono ?_
          rintro e w2 ⟨rfl, hb⟩
          obtain ⟨c0, c1, c2, c3, c4, c5, c6, c7⟩ := HO1.out.below hb
          have HB := Lib.hid (HB.out.trans (hb.mono HB.out.size))
          clear hb
          go_wp2_with fail
          go_ret
          exact ⟨rfl, HB.out⟩
        cases rV
        · go_enter Tryd.func21, Tryd.ntmps21
          go_wp2_with fail
          refine HC.out.mono ?_
          rintro e w1 ⟨rfl, hb⟩
          have HB := Lib.hid (((Below.refl _ w).alloc (Nat.le_refl _) _).trans (hb.mono (by simp)))
          have hO := HO.out.below hb
          have HO1 := Lib.hid hO
          clear HO HC hb
          obtain ⟨c0, c1, c2, c3, c4, c5, c6, c7⟩ := hO
          go_wp2_with fail
          refine (HD.out _).mono ?_
          rintro e w2 ⟨rfl, hb⟩
          obtain ⟨c0, c1, c2, c3, c4, c5, c6, c7⟩ := HO1.out.below hb
          have HB := Lib.hid (HB.out.trans (hb.mono HB.out.size))
          clear hb
          go_wp2_with fail
          go_ret
          exact ⟨rfl, HB.out⟩
        · go_enter Tryd.func21, Tryd.ntmps21
          go_wp2_with fail
          refine HC.out.mono ?_
          rintro e w1 ⟨rfl, hb⟩
          have HB := Lib.hid (((Below.refl _ w).alloc (Nat.le_refl _) _).trans (hb.mono (by simp)))
          have hO := HO.out.below hb
          have HO1 := Lib.hid hO
          clear HO HC hb
          obtain ⟨c0, c1, c2, c3, c4, c5, c6, c7⟩ := hO
          go_wp2_with fail
          refine (HD.out _).mono ?_
          rintro e w2 ⟨rfl, hb⟩
          obtain ⟨c0, c1, c2, c3, c4, c5, c6, c7⟩ := HO1.out.below hb
          have HB := Lib.hid (HB.out.trans (hb.mono HB.out.size))
          clear hb
          go_wp2_with fail
          refine (HSe.out _).mono ?_
          rintro e w5 ⟨rfl, rfl⟩
          go_wp2_with fail
          go_ret
          exact ⟨rfl, HB.out⟩
      · have HNa := Lib.hid (HNam.out (.inr rfl))
        clear HNam HEmp
        cases rN
        · clear eV
          have eN2 := of_decide_eq_false eN'
          clear eN'
          go_enter Tryd.func21, Tryd.ntmps21
          go_wp2_with fail
          refine HC.out.mono ?_
          rintro e w1 ⟨rfl, hb⟩
          have HB := Lib.hid (((Below.refl _ w).alloc (Nat.le_refl _) _).trans (hb.mono (by simp)))
          have hO := HO.out.below hb
          have HO1 := Lib.hid hO
          clear HO HC hb
          obtain ⟨c0, c1, c2, c3, c4, c5, c6, c7⟩ := hO
          go_wp2_with fail
          refine (HD.out _).mono ?_
          rintro e w2 ⟨rfl, hb⟩
          obtain ⟨c0, c1, c2, c3, c4, c5, c6, c7⟩ := HO1.out.below hb
          have HB := Lib.hid (HB.out.trans (hb.mono HB.out.size))
          clear hb
          go_wp2_with fail
          all_goals first
            | (go_ret
               exact ⟨rfl, HB.out⟩)
            | (exfalso
               clear HB HO1 HD HSe c0 c1 c2 c3 c4 c5 c6 c7
               simp at *
               omega)
        have eN2 := of_decide_eq_true eN'
        clear eN'
        have f1 : 0 ≤ nd := by omega
        have f2 : nd < id := by omega
        have f3 : ot = 0 := by omega
        clear eN2
        subst f3
        generalize isSnB vl.data.toList = sn at HSe eV
        have hz : decide (12 < (vl.size : Int)) = !decide (vl.size ≤ 12) := by rw [Bool.eq_iff_iff]; simp; omega
        generalize decide (vl.size ≤ 12) = z at hz eV
        have eV2 : rV = (z && sn) := eV.symm
        clear eV hE0
        cases rM
        · go_enter Tryd.func21, Tryd.ntmps21
          go_wp2_with fail
          refine HC.out.mono ?_
          rintro e w1 ⟨rfl, hb⟩
          have HB := Lib.hid (((Below.refl _ w).alloc (Nat.le_refl _) _).trans (hb.mono (by simp)))
          have hO := HO.out.below hb
          have HO1 := Lib.hid hO
          clear HO HC hb
          obtain ⟨c0, c1, c2, c3, c4, c5, c6, c7⟩ := hO
          go_wp2_with fail
          refine (HD.out _).mono ?_
          rintro e w2 ⟨rfl, hb⟩
          obtain ⟨c0, c1, c2, c3, c4, c5, c6, c7⟩ := HO1.out.below hb
          have HB := Lib.hid (HB.out.trans (hb.mono HB.out.size))
          clear hb
          go_wp2_with fail
          refine (HNa.out _).mono ?_
          rintro e w4 ⟨rfl, rfl⟩
          go_wp2_with fail
          go_ret
          exact ⟨rfl, HB.out⟩
        subst eV2
        cases z
        · go_enter Tryd.func21, Tryd.ntmps21
          go_wp2_with fail
          refine HC.out.mono ?_
          rintro e w1 ⟨rfl, hb⟩
          have HB := Lib.hid (((Below.refl _ w).alloc (Nat.le_refl _) _).trans (hb.mono (by simp)))
          have hO := HO.out.below hb
          have HO1 := Lib.hid hO
          clear HO HC hb
          obtain ⟨c0, c1, c2, c3, c4, c5, c6, c7⟩ := hO
          go_wp2_with fail
          refine (HD.out _).mono ?_
          rintro e w2 ⟨rfl, hb⟩
          obtain ⟨c0, c1, c2, c3, c4, c5, c6, c7⟩ := HO1.out.below hb
          have HB := Lib.hid (HB.out.trans (hb.mono HB.out.size))
          clear hb
          go_wp2_with fail
          refine (HNa.out _).mono ?_
          rintro e w4 ⟨rfl, rfl⟩
          go_wp2_with fail
          refine (HSe.out _).mono ?_
          rintro e w5 ⟨rfl, rfl⟩
          go_wp2_with fail
          go_ret
          exact ⟨rfl, HB.out⟩
        cases sn
        · go_enter Tryd.func21, Tryd.ntmps21
          go_wp2_with fail
          refine HC.out.mono ?_
          rintro e w1 ⟨rfl, hb⟩
          have HB := Lib.hid (((Below.refl _ w).alloc (Nat.le_refl _) _).trans (hb.mono (by simp)))
          have hO := HO.out.below hb
          have HO1 := Lib.hid hO
          clear HO HC hb
          obtain ⟨c0, c1, c2, c3, c4, c5, c6, c7⟩ := hO
          go_wp2_with fail
          refine (HD.out _).mono ?_
          rintro e w2 ⟨rfl, hb⟩
          obtain ⟨c0, c1, c2, c3, c4, c5, c6, c7⟩ := HO1.out.below hb
          have HB := Lib.hid (HB.out.trans (hb.mono HB.out.size))
          clear hb
          go_wp2_with fail
          refine (HNa.out _).mono ?_
          rintro e w4 ⟨rfl, rfl⟩
          go_wp2_with fail
          refine (HSe.out _).mono ?_
          rintro e w5 ⟨rfl, rfl⟩
          go_wp2_with fail
          go_ret
          exact ⟨rfl, HB.out⟩
        · go_enter Tryd.func21, Tryd.ntmps21
          go_wp2_with fail
          refine HC.out.mono ?_
          rintro e w1 ⟨rfl, hb⟩
          have HB := Lib.hid (((Below.refl _ w).alloc (Nat.le_refl _) _).trans (hb.mono (by simp)))
          have hO := HO.out.below hb
          have HO1 := Lib.hid hO
          clear HO HC hb
          obtain ⟨c0, c1, c2, c3, c4, c5, c6, c7⟩ := hO
          go_wp2_with fail
          refine (HD.out _).mono ?_
          rintro e w2 ⟨rfl, hb⟩
          obtain ⟨c0, c1, c2, c3, c4, c5, c6, c7⟩ := HO1.out.below hb
          have HB := Lib.hid (HB.out.trans (hb.mono HB.out.size))
          clear hb
          go_wp2_with fail
          refine (HNa.out _).mono ?_
          rintro e w4 ⟨rfl, rfl⟩
          go_wp2_with fail
          refine (HSe.out _).mono ?_
          rintro e w5 ⟨rfl, rfl⟩
          go_wp2_with fail
          go_ret
          exact ⟨rfl, HB.out⟩
    · have H : Hid (opErr o = 5) := by
        unfold opErr
        rw [if_neg (fun h => h.elim (fun h => h h1) hn), if_pos hk]
        exact rfl
      rw [H.out]
      have k1 : (o.k == 109) = false := by simp; omega
      have k2 : (o.k == 115) = false := by simp; omega
      have k3 : (o.k == 105) = false := by simp; omega
      have k4 : (o.k == 100) = false := by simp; omega
      clear h1 H hn hk
      go_enter Tryd.func21, Tryd.ntmps21
      go_wp2_with fail
      refine HC.out.mono ?_
      rintro e w1 ⟨rfl, hb⟩
      have hO := HO.out.below hb
      have HO1 := Lib.hid hO
      obtain ⟨c0, c1, c2, c3, c4, c5, c6, c7⟩ := hO
      have HB := Lib.hid (((Below.refl _ _).alloc (Nat.le_refl _) _).trans (hb.mono (by simp)))
      clear hb
      go_wp2_with fail
      refine (HD.out _).mono ?_
      rintro e w2 ⟨rfl, hb⟩
      obtain ⟨c0, c1, c2, c3, c4, c5, c6, c7⟩ := HO1.out.below hb
      have HB := Lib.hid (HB.out.trans (hb.mono HB.out.size))
      clear hb
      go_wp2_with fail
      go_ret
      exact ⟨rfl, HB.out⟩
  · have H : Hid (opErr o = 2) := by
      unfold opErr
      rw [if_pos (.inl h1)]
      exact rfl
    have HC : Hid (Calls Tryd.prog 50 #[stampV o.t o.b] (w.alloc (.cells o.cells 28)) fun e w' => e = .returned (.int .i64 2) ∧ Below (w.alloc (.cells o.cells 28)).heap.size (w.alloc (.cells o.cells 28)) w') := Lib.hid (stampError_bad _ _ _ h1)
    rw [H.out]
    clear h1 H
    go_enter Tryd.func21, Tryd.ntmps21
    go_wp2_with fail
    refine HC.out.mono ?_
    rintro e w1 ⟨rfl, hb⟩
    have HB := Lib.hid (((Below.refl _ _).alloc (Nat.le_refl _) _).trans (hb.mono (by simp)))
    clear hb
    go_wp2_with fail
    go_ret
    exact ⟨rfl, HB.out⟩

end Go.Proofs.YtneggbhjekklhaaDoor
