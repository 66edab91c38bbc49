/- The document's VectorOf at four words. -/
import Derived.Test.YthlojjknpfijmaaGreatDoorVecO
import Derived.LoopN
namespace Go.Proofs.YthlojjknpfijmaaGreatDoor
open Go Go.RowKit
set_option linter.unusedVariables false
set_option linter.unusedSimpArgs false
set_option maxHeartbeats 4000000
set_option maxRecDepth 100000

/-- behind the cut: the words, the vector in the making, the results' own variables -/
structure VSt (w0 : World) (VB : Nat) (a b c d : Int) (w : World) : Prop where
  res : ResVF w0 w
  v : VecAt w VB a b c d
  fz : ∀ o, w.frozen? ⟨VB, o, none⟩ = false
  lt : VB < w.heap.size
  gt : w0.heap.size + 1 < VB
theorem VSt.below {w0 w w' : World} {VB : Nat} {a b c d : Int} (h : VSt w0 VB a b c d w) (hb : Below w.heap.size w w') : VSt w0 VB a b c d w' :=
  ⟨h.res.below hb, h.v.below h.lt hb, fun o => (hb.frozen h.lt).trans (h.fz o), Nat.lt_of_lt_of_le h.lt hb.size, h.gt⟩
theorem ResVF.setCell {w0 w : World} (h : ResVF w0 w) (VB o : Nat) (x : Value) (hv : w0.heap.size + 1 < VB) : ResVF w0 (w.setCell ⟨VB, o, none⟩ x) := by
  have n0 : w0.heap.size ≠ VB := by omega
  have n1 : w0.heap.size + 1 ≠ VB := by omega
  refine ⟨?_, ?_, ?_, ?_, ?_, ?_, ?_, ?_, ?_, ?_⟩
  · rw [World.cell?_setCell_other _ _ _ _ (by simp [n0])]; exact h.a0
  · rw [World.cell?_setCell_other _ _ _ _ (by simp [n0])]; exact h.a1
  · rw [World.cell?_setCell_other _ _ _ _ (by simp [n0])]; exact h.a2
  · rw [World.cell?_setCell_other _ _ _ _ (by simp [n0])]; exact h.a3
  · rw [World.cell?_setCell_other _ _ _ _ (by simp [n1])]; exact h.b0
  · rw [World.cell?_setCell_other _ _ _ _ (by simp [n1])]; exact h.b1
  · intro o; have := h.fa o; simpa using this
  · intro o; have := h.fb o; simpa using this
  · have := h.lt; simpa using this
  · exact h.bel.setCell (by show _ ≤ VB; omega) _
theorem VSt.put0 {w0 w : World} {VB : Nat} {a b c d : Int} (h : VSt w0 VB a b c d w) (x : Int) : VSt w0 VB x b c d (w.setCell ⟨VB, 0, none⟩ (.int .i64 x)) :=
  ⟨h.res.setCell VB 0 _ h.gt, ⟨World.cell?_setCell_same _ _ _ h.v.1, (World.cell?_setCell_other _ _ _ _ (by simp)).trans h.v.2.1, (World.cell?_setCell_other _ _ _ _ (by simp)).trans h.v.2.2.1, (World.cell?_setCell_other _ _ _ _ (by simp)).trans h.v.2.2.2⟩, fun o => by have := h.fz o; simpa using this, by have := h.lt; simpa using this, h.gt⟩
theorem VSt.put1 {w0 w : World} {VB : Nat} {a b c d : Int} (h : VSt w0 VB a b c d w) (x : Int) : VSt w0 VB a x c d (w.setCell ⟨VB, 1, none⟩ (.int .i64 x)) :=
  ⟨h.res.setCell VB 1 _ h.gt, ⟨(World.cell?_setCell_other _ _ _ _ (by simp)).trans h.v.1, World.cell?_setCell_same _ _ _ h.v.2.1, (World.cell?_setCell_other _ _ _ _ (by simp)).trans h.v.2.2.1, (World.cell?_setCell_other _ _ _ _ (by simp)).trans h.v.2.2.2⟩, fun o => by have := h.fz o; simpa using this, by have := h.lt; simpa using this, h.gt⟩
theorem VSt.put2 {w0 w : World} {VB : Nat} {a b c d : Int} (h : VSt w0 VB a b c d w) (x : Int) : VSt w0 VB a b x d (w.setCell ⟨VB, 2, none⟩ (.int .i64 x)) :=
  ⟨h.res.setCell VB 2 _ h.gt, ⟨(World.cell?_setCell_other _ _ _ _ (by simp)).trans h.v.1, (World.cell?_setCell_other _ _ _ _ (by simp)).trans h.v.2.1, World.cell?_setCell_same _ _ _ h.v.2.2.1, (World.cell?_setCell_other _ _ _ _ (by simp)).trans h.v.2.2.2⟩, fun o => by have := h.fz o; simpa using this, by have := h.lt; simpa using this, h.gt⟩
theorem VSt.put3 {w0 w : World} {VB : Nat} {a b c d : Int} (h : VSt w0 VB a b c d w) (x : Int) : VSt w0 VB a b c x (w.setCell ⟨VB, 3, none⟩ (.int .i64 x)) :=
  ⟨h.res.setCell VB 3 _ h.gt, ⟨(World.cell?_setCell_other _ _ _ _ (by simp)).trans h.v.1, (World.cell?_setCell_other _ _ _ _ (by simp)).trans h.v.2.1, (World.cell?_setCell_other _ _ _ _ (by simp)).trans h.v.2.2.1, World.cell?_setCell_same _ _ _ h.v.2.2.2⟩, fun o => by have := h.fz o; simpa using this, by have := h.lt; simpa using this, h.gt⟩

/-- a round's head: the state, the words' cells; the rest of what came before forgotten -/
structure Hd (w0 : World) (VB g : Nat) (xs : List (List UInt8)) (a b c d : Int) (w : World) : Prop where
  st : VSt w0 VB a b c d w
  tx : TextsAt w g xs
  ne : g ≠ VB
theorem TextsAt.set {w : World} {g VB o : Nat} {xs : List (List UInt8)} (h : TextsAt w g xs) (hn : g ≠ VB) (x : Value) : TextsAt (w.setCell ⟨VB, o, none⟩ x) g xs :=
  fun j y hy => (World.cell?_setCell_other _ _ _ _ (by simp [hn])).trans (h j y hy)

theorem Hd.put0 {w0 w : World} {VB g : Nat} {xs : List (List UInt8)} {a b c d : Int} (h : Hd w0 VB g xs a b c d w) (x : Int) : Hd w0 VB g xs x b c d (w.setCell ⟨VB, 0, none⟩ (.int .i64 x)) := ⟨h.st.put0 x, h.tx.set h.ne _, h.ne⟩
theorem Hd.put1 {w0 w : World} {VB g : Nat} {xs : List (List UInt8)} {a b c d : Int} (h : Hd w0 VB g xs a b c d w) (x : Int) : Hd w0 VB g xs a x c d (w.setCell ⟨VB, 1, none⟩ (.int .i64 x)) := ⟨h.st.put1 x, h.tx.set h.ne _, h.ne⟩
theorem Hd.put2 {w0 w : World} {VB g : Nat} {xs : List (List UInt8)} {a b c d : Int} (h : Hd w0 VB g xs a b c d w) (x : Int) : Hd w0 VB g xs a b x d (w.setCell ⟨VB, 2, none⟩ (.int .i64 x)) := ⟨h.st.put2 x, h.tx.set h.ne _, h.ne⟩
theorem Hd.put3 {w0 w : World} {VB g : Nat} {xs : List (List UInt8)} {a b c d : Int} (h : Hd w0 VB g xs a b c d w) (x : Int) : Hd w0 VB g xs a b c x (w.setCell ⟨VB, 3, none⟩ (.int .i64 x)) := ⟨h.st.put3 x, h.tx.set h.ne _, h.ne⟩

theorem vecOf_is {xs : List (List UInt8)} {w w' : World} {a b c d : Int} {k : Nat} {p : Int} (h : vecRdOf xs = ((a, b, c, d), k, p)) (hb : Below w.heap.size w w') : VecOfEnds xs w (.returned (.tuple #[vecV a b c d, faultS k p])) w' := by
  unfold VecOfEnds
  rw [h]
  exact ⟨rfl, hb⟩
theorem vfAt_ge (a b c d : Int) : -1 ≤ vfAt a b c d := by
  unfold vfAt
  repeat' split
  all_goals omega

theorem vectorOf_four (s : ByteArray) (w0 w1 w2 w3 : List UInt8) (a b c d : Int) (w : World)
    (hcut : ∀ w, Calls Tryz.prog 35 #[.string s, .int .u8 46] w (GivesTexts [w0, w1, w2, w3] w))
    (g0 : TxtGives w0 a) (g1 : TxtGives w1 b) (g2 : TxtGives w2 c) (g3 : TxtGives w3 d)
    (e0 : Num.numOf w0 4 = a) (e1 : Num.numOf w1 4 = b) (e2 : Num.numOf w2 4 = c) (e3 : Num.numOf w3 4 = d) :
    Calls Tryz.prog 17 #[.string s] w (VecOfEnds [w0, w1, w2, w3] w) := by
  have HC := Lib.hid hcut
  have G0 := Lib.hid g0
  have G1 := Lib.hid g1
  have G2 := Lib.hid g2
  have G3 := Lib.hid g3
  have E0 := Lib.hid e0
  have E1 := Lib.hid e1
  have E2 := Lib.hid e2
  have E3 := Lib.hid e3
  clear hcut g0 g1 g2 g3 e0 e1 e2 e3
  go_enter Tryz.func17, Tryz.ntmps17
  go_wp2_with fail
  refine (HC.out _).mono ?_
  rintro e W1 ⟨g, cap, rfl, hg1, hg2, hcap, ht, hb⟩
  have hR := (ResVF.start w _ _).below hb
  have HR := Lib.hid hR
  have hlt := hR.lt
  have HT := Lib.hid ht
  have hgl : g < W1.heap.size := hg2
  clear hb ht hg1 hg2 hR
  go_wp2_with fail
  obtain ⟨W, hW⟩ : ∃ W, W = W1.alloc (.cells #[.int .i64 0, .int .i64 0, .int .i64 0, .int .i64 0] 22) := ⟨_, rfl⟩
  have hS : Hd w W1.heap.size g [w0, w1, w2, w3] 0 0 0 0 W := by
    rw [hW]
    exact ⟨⟨HR.out.below ((Below.refl _ _).alloc (Nat.le_refl _) _), ⟨by simp [go_sem], by simp [go_sem], by simp [go_sem], by simp [go_sem]⟩, fun o => by simp [go_sem], by simp, hlt⟩, HT.out.below hgl ((Below.refl _ _).alloc (Nat.le_refl _) _), by omega⟩
  rw [← hW]
  have HS := Lib.hid hS
  obtain ⟨VB, hVB⟩ : ∃ VB, VB = W1.heap.size := ⟨_, rfl⟩
  rw [← hVB] at HS ⊢
  clear hW HR HT hlt hgl hcap hS hVB HC
  refine wp_loop_rounds 5 ?_
  rw [rounds_succ]
  by_cases ha : a < 0
  · have t0 := HS.out.tx 0 _ rfl
    go_wp2_with fail
    refine (G0.out _).mono ?_
    rintro e w' ⟨rfl, rfl⟩
    go_wp2_with fail
    refine (bare_any _ _).mono ?_
    rintro e w2' ⟨rfl, hb2⟩
    have hR := HS.out.st.res.below hb2
    have HR := Lib.hid hR
    have H := Lib.hid (vecRd_bad (w0 := w0) (w1 := w1) (w2 := w2) (w3 := w3) (by rw [E0.out, E1.out, E2.out, E3.out]; omega))
    clear hb2 HS t0
    obtain ⟨a0, a1, a2, a3, b0, b1, fa, fb, hlt, hbel⟩ := hR
    have m0 : w.heap.size < w2'.heap.size := by omega
    go_wp2_with fail
    have hO := HR.out.put 0 0 0 0 1 (-1)
    exact bodyPost_ret (v := .tuple #[vecV 0 0 0 0, faultS 1 (-1)]) (by simp [results, Tryz.results17, go_sem, hO.c0, hO.c1, hO.c2, hO.c3, hO.d0, hO.d1]) rfl (vecOf_zero H.out hO.bel)
  have t0 := HS.out.tx 0 _ rfl
  have q0 := HS.out.st.v.1
  have f0 := HS.out.st.fz 0
  go_wp2_with fail
  refine (G0.out _).mono ?_
  rintro e w' ⟨rfl, rfl⟩
  go_wp2_with fail
  have hS := HS.out.put0 a
  obtain ⟨W, hW⟩ : ∃ W, W = w'.setCell ⟨VB, 0, none⟩ (.int .i64 a) := ⟨_, rfl⟩
  rw [← hW] at hS ⊢
  clear hW HS t0 q0 f0
  have HS := Lib.hid hS
  clear hS
  rw [rounds_succ]
  by_cases hb : b < 0
  · have t1 := HS.out.tx 1 _ rfl
    go_wp2_with fail
    refine (G1.out _).mono ?_
    rintro e w' ⟨rfl, rfl⟩
    go_wp2_with fail
    refine (bare_any _ _).mono ?_
    rintro e w2' ⟨rfl, hb2⟩
    have hR := HS.out.st.res.below hb2
    have HR := Lib.hid hR
    have H := Lib.hid (vecRd_bad (w0 := w0) (w1 := w1) (w2 := w2) (w3 := w3) (by rw [E0.out, E1.out, E2.out, E3.out]; omega))
    clear hb2 HS t1
    obtain ⟨a0, a1, a2, a3, b0, b1, fa, fb, hlt, hbel⟩ := hR
    have m0 : w.heap.size < w2'.heap.size := by omega
    go_wp2_with fail
    have hO := HR.out.put 0 0 0 0 1 (-1)
    exact bodyPost_ret (v := .tuple #[vecV 0 0 0 0, faultS 1 (-1)]) (by simp [results, Tryz.results17, go_sem, hO.c0, hO.c1, hO.c2, hO.c3, hO.d0, hO.d1]) rfl (vecOf_zero H.out hO.bel)
  have t1 := HS.out.tx 1 _ rfl
  have q1 := HS.out.st.v.2.1
  have f1 := HS.out.st.fz 1
  go_wp2_with fail
  refine (G1.out _).mono ?_
  rintro e w' ⟨rfl, rfl⟩
  go_wp2_with fail
  have hS := HS.out.put1 b
  obtain ⟨W, hW⟩ : ∃ W, W = w'.setCell ⟨VB, 1, none⟩ (.int .i64 b) := ⟨_, rfl⟩
  rw [← hW] at hS ⊢
  clear hW HS t1 q1 f1
  have HS := Lib.hid hS
  clear hS
  rw [rounds_succ]
  by_cases hc : c < 0
  · have t2 := HS.out.tx 2 _ rfl
    go_wp2_with fail
    refine (G2.out _).mono ?_
    rintro e w' ⟨rfl, rfl⟩
    go_wp2_with fail
    refine (bare_any _ _).mono ?_
    rintro e w2' ⟨rfl, hb2⟩
    have hR := HS.out.st.res.below hb2
    have HR := Lib.hid hR
    have H := Lib.hid (vecRd_bad (w0 := w0) (w1 := w1) (w2 := w2) (w3 := w3) (by rw [E0.out, E1.out, E2.out, E3.out]; omega))
    clear hb2 HS t2
    obtain ⟨a0, a1, a2, a3, b0, b1, fa, fb, hlt, hbel⟩ := hR
    have m0 : w.heap.size < w2'.heap.size := by omega
    go_wp2_with fail
    have hO := HR.out.put 0 0 0 0 1 (-1)
    exact bodyPost_ret (v := .tuple #[vecV 0 0 0 0, faultS 1 (-1)]) (by simp [results, Tryz.results17, go_sem, hO.c0, hO.c1, hO.c2, hO.c3, hO.d0, hO.d1]) rfl (vecOf_zero H.out hO.bel)
  have t2 := HS.out.tx 2 _ rfl
  have q2 := HS.out.st.v.2.2.1
  have f2 := HS.out.st.fz 2
  go_wp2_with fail
  refine (G2.out _).mono ?_
  rintro e w' ⟨rfl, rfl⟩
  go_wp2_with fail
  have hS := HS.out.put2 c
  obtain ⟨W, hW⟩ : ∃ W, W = w'.setCell ⟨VB, 2, none⟩ (.int .i64 c) := ⟨_, rfl⟩
  rw [← hW] at hS ⊢
  clear hW HS t2 q2 f2
  have HS := Lib.hid hS
  clear hS
  rw [rounds_succ]
  by_cases hd : d < 0
  · have t3 := HS.out.tx 3 _ rfl
    go_wp2_with fail
    refine (G3.out _).mono ?_
    rintro e w' ⟨rfl, rfl⟩
    go_wp2_with fail
    refine (bare_any _ _).mono ?_
    rintro e w2' ⟨rfl, hb2⟩
    have hR := HS.out.st.res.below hb2
    have HR := Lib.hid hR
    have H := Lib.hid (vecRd_bad (w0 := w0) (w1 := w1) (w2 := w2) (w3 := w3) (by rw [E0.out, E1.out, E2.out, E3.out]; omega))
    clear hb2 HS t3
    obtain ⟨a0, a1, a2, a3, b0, b1, fa, fb, hlt, hbel⟩ := hR
    have m0 : w.heap.size < w2'.heap.size := by omega
    go_wp2_with fail
    have hO := HR.out.put 0 0 0 0 1 (-1)
    exact bodyPost_ret (v := .tuple #[vecV 0 0 0 0, faultS 1 (-1)]) (by simp [results, Tryz.results17, go_sem, hO.c0, hO.c1, hO.c2, hO.c3, hO.d0, hO.d1]) rfl (vecOf_zero H.out hO.bel)
  have t3 := HS.out.tx 3 _ rfl
  have q3 := HS.out.st.v.2.2.2
  have f3 := HS.out.st.fz 3
  go_wp2_with fail
  refine (G3.out _).mono ?_
  rintro e w' ⟨rfl, rfl⟩
  go_wp2_with fail
  have hS := HS.out.put3 d
  obtain ⟨W, hW⟩ : ∃ W, W = w'.setCell ⟨VB, 3, none⟩ (.int .i64 d) := ⟨_, rfl⟩
  rw [← hW] at hS ⊢
  clear hW HS t3 q3 f3
  have HS := Lib.hid hS
  clear hS
  rw [rounds_succ]
  have q0 := HS.out.st.v.1
  have q1 := HS.out.st.v.2.1
  have q2 := HS.out.st.v.2.2.1
  have q3 := HS.out.st.v.2.2.2
  go_wp2_with fail
  refine (vectorFault_any a b c d _).mono ?_
  rintro e w3' ⟨rfl, hb3⟩
  have hV := HS.out.st.below hb3
  have HV := Lib.hid hV
  clear hb3 HS q0 q1 q2 q3 hV
  by_cases hf : vfAt a b c d < 0
  · have hk : vfCode a b c d = 0 := by unfold vfCode; rw [if_pos hf]
    have hat : vfAt a b c d = -1 := by have := vfAt_ge a b c d; omega
    have H := Lib.hid (vecRd_ok (w0 := w0) (w1 := w1) (w2 := w2) (w3 := w3) (by rw [E0.out, E1.out, E2.out, E3.out]; omega) (by rw [E0.out, E1.out, E2.out, E3.out]; exact hf))
    rw [hk, hat]
    clear hf hk hat
    go_wp2_with fail
    obtain ⟨W4, hW⟩ : ∃ W4, W4 = w3'.alloc (.cells #[.int .i64 0, .int .i64 (-1)] 30) := ⟨_, rfl⟩
    have hV := HV.out.below ((Below.refl _ _).alloc (Nat.le_refl _) (.cells #[.int .i64 0, .int .i64 (-1)] 30))
    have u0 : W4.cell? ⟨w3'.heap.size, 0, none⟩ = some (.int .i64 0) := by rw [hW]; simp [go_sem]
    have u1 : W4.cell? ⟨w3'.heap.size, 1, none⟩ = some (.int .i64 (-1)) := by rw [hW]; simp [go_sem]
    rw [← hW] at hV ⊢
    have l0 := HV.out.lt
    have l1 := HV.out.gt
    have n0 : w.heap.size ≠ VB := by omega
    have n1 : w.heap.size + 1 ≠ VB := by omega
    have n2 : w.heap.size ≠ w3'.heap.size := by omega
    have n3 : w.heap.size + 1 ≠ w3'.heap.size := by omega
    obtain ⟨FB, hFB⟩ : ∃ FB, FB = w3'.heap.size := ⟨_, rfl⟩
    rw [← hFB] at u0 u1 n2 n3 ⊢
    have HR := Lib.hid hV.res
    obtain ⟨⟨a0, a1, a2, a3, b0, b1, fa, fb, hlt, hbel⟩, ⟨q0, q1, q2, q3⟩, _, _, _⟩ := hV
    have m0 : w.heap.size < W4.heap.size := by omega
    clear hW HV l0 l1 hFB hbel
    go_region_held3 (fun w' => w'.cell? ⟨VB, 0, none⟩ = some (.int .i64 a) ∧ w'.cell? ⟨VB, 1, none⟩ = some (.int .i64 b) ∧ w'.cell? ⟨VB, 2, none⟩ = some (.int .i64 c) ∧ w'.cell? ⟨VB, 3, none⟩ = some (.int .i64 d) ∧ w'.cell? ⟨FB, 0, none⟩ = some (.int .i64 0) ∧ w'.cell? ⟨FB, 1, none⟩ = some (.int .i64 (-1))) (go_keep) (fail)
    rename_i hH
    clear hH
    have hO := (HR.out.put a b c d 0 (-1)).drew
    obtain ⟨W5, hW5⟩ : ∃ W5, W5 = (((((((W4.setCell ⟨w.heap.size, 0, none⟩ (.int .i64 a)).setCell ⟨w.heap.size, 1, none⟩ (.int .i64 b)).setCell ⟨w.heap.size, 2, none⟩ (.int .i64 c)).setCell ⟨w.heap.size, 3, none⟩ (.int .i64 d)).setCell ⟨w.heap.size + 1, 0, none⟩ (.int .i64 0)).setCell ⟨w.heap.size + 1, 1, none⟩ (.int .i64 (-1)))).drew := ⟨_, rfl⟩
    rw [← hW5] at hO ⊢
    clear hW5 HR a0 a1 a2 a3 b0 b1 fa fb hlt q0 q1 q2 q3 n0 n1 n2 n3 m0 u0 u1
    obtain ⟨c0, c1, c2, c3, d0, d1, hlt, hbel⟩ := hO
    go_wp2_with fail
    exact bodyPost_ret (v := .tuple #[vecV a b c d, faultS 0 (-1)]) (by simp [results, Tryz.results17, go_sem, c0, c1, c2, c3, d0, d1]) rfl (vecOf_is (by rw [H.out, E0.out, E1.out, E2.out, E3.out]) hbel)
  · have hk : vfCode a b c d = 2 := by unfold vfCode; rw [if_neg hf]
    have H := Lib.hid (vecRd_flt (w0 := w0) (w1 := w1) (w2 := w2) (w3 := w3) (by rw [E0.out, E1.out, E2.out, E3.out]; omega) (by rw [E0.out, E1.out, E2.out, E3.out]; exact hf))
    rw [hk]
    generalize hat : vfAt a b c d = at'
    have HA := Lib.hid hat
    clear hf hk hat
    go_wp2_with fail
    obtain ⟨W4, hW⟩ : ∃ W4, W4 = w3'.alloc (.cells #[.int .i64 2, .int .i64 at'] 30) := ⟨_, rfl⟩
    have hV := HV.out.below ((Below.refl _ _).alloc (Nat.le_refl _) (.cells #[.int .i64 2, .int .i64 at'] 30))
    have u0 : W4.cell? ⟨w3'.heap.size, 0, none⟩ = some (.int .i64 2) := by rw [hW]; simp [go_sem]
    have u1 : W4.cell? ⟨w3'.heap.size, 1, none⟩ = some (.int .i64 at') := by rw [hW]; simp [go_sem]
    rw [← hW] at hV ⊢
    have l0 := HV.out.lt
    have l1 := HV.out.gt
    have n0 : w.heap.size ≠ VB := by omega
    have n1 : w.heap.size + 1 ≠ VB := by omega
    have n2 : w.heap.size ≠ w3'.heap.size := by omega
    have n3 : w.heap.size + 1 ≠ w3'.heap.size := by omega
    obtain ⟨FB, hFB⟩ : ∃ FB, FB = w3'.heap.size := ⟨_, rfl⟩
    rw [← hFB] at u0 u1 n2 n3 ⊢
    have HR := Lib.hid hV.res
    obtain ⟨⟨a0, a1, a2, a3, b0, b1, fa, fb, hlt, hbel⟩, ⟨q0, q1, q2, q3⟩, _, _, _⟩ := hV
    have m0 : w.heap.size < W4.heap.size := by omega
    clear hW HV l0 l1 hFB hbel
    go_region_held3 (fun w' => w'.cell? ⟨VB, 0, none⟩ = some (.int .i64 a) ∧ w'.cell? ⟨VB, 1, none⟩ = some (.int .i64 b) ∧ w'.cell? ⟨VB, 2, none⟩ = some (.int .i64 c) ∧ w'.cell? ⟨VB, 3, none⟩ = some (.int .i64 d) ∧ w'.cell? ⟨FB, 0, none⟩ = some (.int .i64 2) ∧ w'.cell? ⟨FB, 1, none⟩ = some (.int .i64 at')) (go_keep) (fail)
    rename_i hH
    clear hH
    have hO := (HR.out.put 0 0 0 0 2 at').drew
    obtain ⟨W5, hW5⟩ : ∃ W5, W5 = (((((((W4.setCell ⟨w.heap.size, 0, none⟩ (.int .i64 0)).setCell ⟨w.heap.size, 1, none⟩ (.int .i64 0)).setCell ⟨w.heap.size, 2, none⟩ (.int .i64 0)).setCell ⟨w.heap.size, 3, none⟩ (.int .i64 0)).setCell ⟨w.heap.size + 1, 0, none⟩ (.int .i64 2)).setCell ⟨w.heap.size + 1, 1, none⟩ (.int .i64 at'))).drew := ⟨_, rfl⟩
    rw [← hW5] at hO ⊢
    clear hW5 HR a0 a1 a2 a3 b0 b1 fa fb hlt q0 q1 q2 q3 n0 n1 n2 n3 m0 u0 u1
    obtain ⟨c0, c1, c2, c3, d0, d1, hlt, hbel⟩ := hO
    go_wp2_with fail
    exact bodyPost_ret (v := .tuple #[vecV 0 0 0 0, faultS 2 at']) (by simp [results, Tryz.results17, go_sem, c0, c1, c2, c3, d0, d1]) rfl (vecOf_zero (k := 2) (by rw [H.out, E0.out, E1.out, E2.out, E3.out, HA.out]) hbel)
end Go.Proofs.YthlojjknpfijmaaGreatDoor
