/- The program's Read of a vector. -/
import Derived.Test.YthlojjknpfijmaaGreatDoorVecV
namespace Go.Proofs.YthlojjknpfijmaaGreatDoor
open Go Go.RowKit
set_option linter.unusedVariables false
set_option linter.unusedSimpArgs false
set_option maxHeartbeats 4000000
set_option maxRecDepth 100000

theorem num_bad (x : List UInt8) (h : ∀ v, Lib.atoiAll x = .ok v → 0 ≤ v → x.length ≤ 4 → Lib.itoa v = x → False) : Num.numOf x 4 < 0 := by
  rcases Int.lt_or_le (Num.numOf x 4) 0 with h0 | h0
  · exact h0
  · obtain ⟨h1, h2, h3, h4⟩ := (Num.numOf_spec x 4 (by omega) (Num.numOf x 4)).2 ⟨rfl, h0⟩
    exact (h _ h1 h2 h3 h4).elim
theorem num_good (x : List UInt8) (v : Int) (h1 : Lib.atoiAll x = .ok v) (h2 : 0 ≤ v) (h3 : x.length ≤ 4) (h4 : Lib.itoa v = x) : Num.numOf x 4 = v := ((Num.numOf_spec x 4 (by omega) v).1 ⟨h1, h2, h3, h4⟩).1
theorem vecRd_some {xs : List (List UInt8)} {j : Nat} {x : List UInt8} (hl : xs.length = 4) (hx : xs[j]? = some x) (h : Num.numOf x 4 < 0) : vecRdOf xs = ((0, 0, 0, 0), 1, -1) := by
  match xs, hl with
  | [w0, w1, w2, w3], _ =>
    refine vecRd_bad ?_
    have hj : j < 4 := (List.getElem?_eq_some_iff.1 hx).1
    have : j = 0 ∨ j = 1 ∨ j = 2 ∨ j = 3 := by omega
    rcases this with rfl | rfl | rfl | rfl <;> simp at hx <;> subst hx <;> omega

theorem atoi_bd (l : List UInt8) (v : Int) (h : Lib.atoiAll l = .ok v) : -9223372036854775808 ≤ v ∧ v ≤ 9223372036854775807 := by
  unfold Lib.atoiAll at h
  split at h
  · cases h
  · simp only at h
    split at h
    · cases h
    · cases h
    · split at h
      · cases h
      · split at h
        · cases h
        · split at h <;> injection h with h <;> omega

def RdEnds (ea : Nat → Addr) (xs : List (List UInt8)) (w : World) (e : Ending) (w' : World) : Prop :=
  ∃ v, e = .returned (.tuple #[vecW (vecRdOf xs), v]) ∧ ErrVal ea w' v (vecRdOf xs).2.1 (vecRdOf xs).2.2 ∧ Below w.heap.size w w' ∧ ∀ pb po, v = faultV ⟨pb, po, none⟩ → w.heap.size ≤ pb

/-- the result's own vector -/
structure ResV (w0 : World) (a b c d : Int) (w : World) : Prop where
  v : VecAt w w0.heap.size a b c d
  fz : ∀ o, w.frozen? ⟨w0.heap.size, o, none⟩ = false
  lt : w0.heap.size < w.heap.size
  bel : Below w0.heap.size w0 w
theorem ResV.below {w0 w w' : World} {a b c d : Int} (h : ResV w0 a b c d w) (hb : Below w.heap.size w w') : ResV w0 a b c d w' :=
  ⟨h.v.below h.lt hb, fun o => (hb.frozen h.lt).trans (h.fz o), Nat.lt_of_lt_of_le h.lt hb.size, h.bel.trans (hb.mono h.bel.size)⟩
theorem ResV.put {w0 w : World} {a' b' c' d' : Int} (h : ResV w0 a' b' c' d' w) (a b c d : Int) :
    ResV w0 a b c d ((((w.setCell ⟨w0.heap.size, 0, none⟩ (.int .i64 a)).setCell ⟨w0.heap.size, 1, none⟩ (.int .i64 b)).setCell ⟨w0.heap.size, 2, none⟩ (.int .i64 c)).setCell ⟨w0.heap.size, 3, none⟩ (.int .i64 d)) := by
  obtain ⟨⟨a0, a1, a2, a3⟩, fa, hlt, hbel⟩ := h
  refine ⟨⟨?_, ?_, ?_, ?_⟩, ?_, ?_, ?_⟩
  iterate 4 (simp [go_sem, *])
  · intro o; simpa using fa o
  · simpa using hlt
  · exact (((hbel.setCell (by simp) _).setCell (by simp) _).setCell (by simp) _).setCell (by simp) _
theorem ResV.set {w0 w : World} {a b c d : Int} (h : ResV w0 a b c d w) (VB o : Nat) (x : Value) (hv : w0.heap.size < VB) : ResV w0 a b c d (w.setCell ⟨VB, o, none⟩ x) := by
  have n0 : w0.heap.size ≠ VB := by omega
  refine ⟨⟨?_, ?_, ?_, ?_⟩, ?_, ?_, ?_⟩
  · rw [World.cell?_setCell_other _ _ _ _ (by simp [n0])]; exact h.v.1
  · rw [World.cell?_setCell_other _ _ _ _ (by simp [n0])]; exact h.v.2.1
  · rw [World.cell?_setCell_other _ _ _ _ (by simp [n0])]; exact h.v.2.2.1
  · rw [World.cell?_setCell_other _ _ _ _ (by simp [n0])]; exact h.v.2.2.2
  · intro o; have := h.fz o; simpa using this
  · have := h.lt; simpa using this
  · exact h.bel.setCell (by show _ ≤ VB; omega) _

/-- behind the split -/
structure RdSt (F : Nat → Bool) (ea : Nat → Addr) (w0 : World) (VB g : Nat) (xs : List (List UInt8)) (f : Nat → Int) (w : World) : Prop where
  res : ResV w0 0 0 0 0 w
  v : ∀ i, i < 4 → w.cell? ⟨VB, i, none⟩ = some (.int .i64 (f i))
  fz : ∀ o, w.frozen? ⟨VB, o, none⟩ = false
  tx : TextsAt w g xs
  gl : g < w.heap.size
  lt : VB < w.heap.size
  gt : w0.heap.size < VB
  ne : g ≠ VB
  gd : Gd F ea w
theorem RdSt.below {F : Nat → Bool} {ea : Nat → Addr} {w0 w w' : World} {VB g : Nat} {xs : List (List UInt8)} {f : Nat → Int} (h : RdSt F ea w0 VB g xs f w) (hb : Below w.heap.size w w') : RdSt F ea w0 VB g xs f w' :=
  ⟨h.res.below hb, fun i hi => (hb.cell h.lt).trans (h.v i hi), fun o => (hb.frozen h.lt).trans (h.fz o), h.tx.below h.gl hb, Nat.lt_of_lt_of_le h.gl hb.size, Nat.lt_of_lt_of_le h.lt hb.size, h.gt, h.ne, h.gd.below hb⟩
theorem RdSt.put {F : Nat → Bool} {ea : Nat → Addr} {w0 w : World} {VB g : Nat} {xs : List (List UInt8)} {f : Nat → Int} (h : RdSt F ea w0 VB g xs f w) (hG0 : Gd F ea w0) (j : Nat) (hj : j < 4) (x : Int) : RdSt F ea w0 VB g xs (fun i => if i = j then x else f i) (w.setCell ⟨VB, j, none⟩ (.int .i64 x)) := by
  have hr := h.res.set VB j (.int .i64 x) h.gt
  refine ⟨hr, ?_, fun o => by have := h.fz o; simpa using this, h.tx.set h.ne _, by have := h.gl; simpa using this, by have := h.lt; simpa using this, h.gt, h.ne, hG0.below hr.bel⟩
  intro i hi
  by_cases e : i = j
  · subst e
    rw [if_pos rfl]
    exact World.cell?_setCell_same _ _ _ (h.v i hi)
  · rw [if_neg e, World.cell?_setCell_other _ _ _ _ (by simp [e])]
    exact h.v i hi

theorem read_short {F : Nat → Bool} (ea : Nat → Addr) (s : ByteArray) (xs : List (List UInt8)) (w : World) (hG : Gd F ea w) (f1 : F 1 = true) (hx : xs.length ≠ 4) (hxl : xs.length ≤ 1001)
    (hcut : ∀ w, Gd F ea w → Calls Tryz.prog 33 #[.string s, .string ⟨#[46]⟩] w (GivesTexts xs w)) :
    Calls Tryz.prog 16 #[.string s] w (RdEnds ea xs w) := by
  have HC := Lib.hid hcut
  have HG := Lib.hid hG
  have H := Lib.hid (vecRd_len hx)
  have hne : ((xs.length : Int) == 4) = false := by rw [beq_eq_false_iff_ne]; omega
  have hne2 : ((xs.length : Int) != 4) = true := by rw [bne_iff_ne]; omega
  clear hcut hx hG
  go_enter Tryz.func16, Tryz.ntmps16
  go_wp2_with fail
  refine (HC.out _ (HG.out.alloc _)).mono ?_
  rintro e w1 ⟨g, cap, rfl, hg1, hg2, hcap, ht, hb⟩
  have hG1 := (HG.out.alloc _).below hb
  have hR : ResV w 0 0 0 0 w1 := by
    refine ResV.below ⟨⟨?_, ?_, ?_, ?_⟩, ?_, ?_, ?_⟩ hb
    iterate 4 (simp [go_sem])
    · intro o; simp [go_sem]
    · simp
    · exact (Below.refl _ _).alloc (Nat.le_refl _) _
  have HR := Lib.hid hR
  have HG1 := Lib.hid hG1
  have g1 := (hG1.errs 1 (by omega) (by omega) f1).var
  simp only [errG] at g1
  clear hb ht hg1 hg2 hG1
  obtain ⟨⟨a0, a1, a2, a3⟩, fa, hlt, hbel⟩ := hR
  have ng : 1 ≠ w.heap.size := by have := World.block_lt_of_cell? _ _ (HG.out.errs 1 (by omega) (by omega) f1).var; simp only [errG] at this; omega
  have ng2 := Ne.symm ng
  go_wp2_with fail
  go_region_held3 (fun w' => w'.cell? ⟨1, 0, none⟩ = some (errV (ea 1))) (first | go_keep | ((repeat rw [World.cell?_setCell_other _ _ _ _ (by simp [ng, ng2])]); exact g1)) (fail)
  rename_i hH
  clear hH
  have hO := (HR.out.put 0 0 0 0).below (Below.drew (Below.refl _ _))
  obtain ⟨W5, hW5⟩ : ∃ W5, W5 = ((((w1.setCell ⟨w.heap.size, 0, none⟩ (.int .i64 0)).setCell ⟨w.heap.size, 1, none⟩ (.int .i64 0)).setCell ⟨w.heap.size, 2, none⟩ (.int .i64 0)).setCell ⟨w.heap.size, 3, none⟩ (.int .i64 0)).drew := ⟨_, rfl⟩
  rw [← hW5] at hO ⊢
  clear hW5 HR a0 a1 a2 a3 fa hlt ng ng2 g1 hbel
  obtain ⟨⟨c0, c1, c2, c3⟩, _, hlt, hbel⟩ := hO
  go_wp2_with fail
  exact bodyPost_ret (v := .tuple #[vecV 0 0 0 0, errV (ea 1)]) (by simp [results, Tryz.results16, go_sem, c0, c1, c2, c3]) rfl ⟨_, by rw [H.out], by rw [H.out]; exact .bare 1 (by omega) (by omega), hbel, fun _ _ e => by cases e⟩
/-- the end of Read where a word is none -/
theorem read_four {F : Nat → Bool} (ea : Nat → Addr) (s : ByteArray) (xs : List (List UInt8)) (w : World) (hG : Gd F ea w) (f1 : F 1 = true) (f2 : F 2 = true) (f21 : F 21 = true) (f22 : F 22 = true) (hx : xs.length = 4) (hm : ∀ x ∈ xs, x.length ≤ 1000)
    (hcut : ∀ w, Gd F ea w → Calls Tryz.prog 33 #[.string s, .string ⟨#[46]⟩] w (GivesTexts xs w)) :
    Calls Tryz.prog 16 #[.string s] w (RdEnds ea xs w) := by
  have HC := Lib.hid hcut
  have HG := Lib.hid hG
  have HX := Lib.hid hx
  have HM := Lib.hid hm
  have ng : 1 ≠ w.heap.size := by have := World.block_lt_of_cell? _ _ (HG.out.errs 1 (by omega) (by omega) f1).var; simp only [errG] at this; omega
  have ng2 := Ne.symm ng
  clear hcut hG hm
  go_enter Tryz.func16, Tryz.ntmps16
  go_wp2_with fail
  refine (HC.out _ (HG.out.alloc _)).mono ?_
  rintro e w1 ⟨g, cap, rfl, hg1, hg2, hcap, ht, hb⟩
  have hG1 := (HG.out.alloc _).below hb
  have hR : ResV w 0 0 0 0 w1 := by
    refine ResV.below ⟨⟨?_, ?_, ?_, ?_⟩, ?_, ?_, ?_⟩ hb
    iterate 4 (simp [go_sem])
    · intro o; simp [go_sem]
    · simp
    · exact (Below.refl _ _).alloc (Nat.le_refl _) _
  have hlt := hR.lt
  have hR2 := hR.below ((Below.refl _ _).alloc (Nat.le_refl _) (.cells #[.int .i64 0, .int .i64 0, .int .i64 0, .int .i64 0] 25))
  obtain ⟨W, hW⟩ : ∃ W, W = w1.alloc (.cells #[.int .i64 0, .int .i64 0, .int .i64 0, .int .i64 0] 25) := ⟨_, rfl⟩
  have hS : RdSt F ea w w1.heap.size g xs (fun _ => 0) W := by
    rw [hW]
    refine ⟨hR2, ?_, fun o => by simp [go_sem], ht.below hg2 ((Below.refl _ _).alloc (Nat.le_refl _) _), by simp; omega, by simp, hlt, by omega, hG1.alloc _⟩
    intro i hi
    match i, hi with
    | 0, _ => simp [go_sem]
    | 1, _ => simp [go_sem]
    | 2, _ => simp [go_sem]
    | 3, _ => simp [go_sem]
  have HS := Lib.hid hS
  have hne : ((xs.length : Int) == 4) = true := by rw [beq_iff_eq]; omega
  have hne2 : ((xs.length : Int) != 4) = false := by rw [bne_eq_false_iff_eq]; omega
  have HW := Lib.hid hW
  clear hb ht hg1 hg2 hG1 hR hR2 hS hlt hW hx
  go_wp2_with fail
  rw [← HW.out]
  obtain ⟨VB, hVB⟩ : ∃ VB, VB = w1.heap.size := ⟨_, rfl⟩
  rw [← hVB] at HS ⊢
  clear HW hVB hcap hne hne2 HC
  go_loopw [20] (fun v20 wr => ∃ (j : Nat) (f : Nat → Int), v20 = .int .i64 j ∧ j ≤ 4 ∧ RdSt F ea w VB g xs f wr ∧ ∀ i, i < j → ∃ x, xs[i]? = some x ∧ 0 ≤ f i ∧ Num.numOf x 4 = f i) (fun v20 _ => 4 - (intOf v20).toNat)
  case atStart => exact ⟨0, _, rfl, by omega, HS.out, fun i hi => by omega⟩
  case round =>
    clear HS
    obtain ⟨j, f, rfl, hj, hS, hall⟩ := hrel
    have HA := Lib.hid hall
    have HS := Lib.hid hS
    clear hS hall
    by_cases hlt : j < 4
    · have hjx : j < xs.length := by have := HX.out; omega
      obtain ⟨x, hx⟩ : ∃ x, xs[j]? = some x := ⟨_, List.getElem?_eq_getElem hjx⟩
      have t0 := HS.out.tx j x hx
      have i0 : (0 : Int) ≤ (j : Int) := by omega
      have i1 : (j : Int) < (xs.length : Int) := by omega
      have HXJ := Lib.hid hx
      clear hx hlt
      go_wp2_with fail
      refine (atoi_any ea (S x) _ HS.out.gd f22 (by rw [S_size]; have := HM.out x (List.mem_of_getElem? HXJ.out); omega)).mono ?_
      rintro e w2 ⟨hb2, hend⟩
      have hS := HS.out.below hb2
      rw [S_list] at hend
      clear HS t0
      rcases hend with ⟨v, hv, rfl⟩ | ⟨hno, v, t, p, rfl⟩
      · have HV := Lib.hid hv
        clear hv hb2
        by_cases hv0 : v < 0
        · have H := Lib.hid (vecRd_some HX.out HXJ.out (num_bad x (fun v' hv' h0 _ _ => by rw [HV.out] at hv'; injection hv' with hv'; omega)))
          have HR := Lib.hid hS.res
          have g1 := (hS.gd.errs 1 (by omega) (by omega) f1).var
          simp only [errG] at g1
          obtain ⟨⟨a0, a1, a2, a3⟩, fa, hlt, hbel⟩ := hS.res
          clear hS i0 i1
          go_wp2_with fail
          go_region_held3 (fun w' => w'.cell? ⟨1, 0, none⟩ = some (errV (ea 1))) (first | go_keep | ((repeat rw [World.cell?_setCell_other _ _ _ _ (by simp [ng, ng2])]); exact g1)) (fail)
          rename_i hH
          clear hH
          have hO := (HR.out.put 0 0 0 0).below (Below.drew (Below.refl _ _))
          obtain ⟨W5, hW5⟩ : ∃ W5, W5 = ((((w2.setCell ⟨w.heap.size, 0, none⟩ (.int .i64 0)).setCell ⟨w.heap.size, 1, none⟩ (.int .i64 0)).setCell ⟨w.heap.size, 2, none⟩ (.int .i64 0)).setCell ⟨w.heap.size, 3, none⟩ (.int .i64 0)).drew := ⟨_, rfl⟩
          rw [← hW5] at hO ⊢
          clear hW5 HR a0 a1 a2 a3 fa hlt ng ng2 g1 hbel
          obtain ⟨⟨c0, c1, c2, c3⟩, _, hlt, hbel⟩ := hO
          go_wp2_with fail
          exact bodyPost_ret (v := .tuple #[vecV 0 0 0 0, errV (ea 1)]) (by simp [results, Tryz.results16, go_sem, c0, c1, c2, c3]) rfl ⟨_, by rw [H.out], by rw [H.out]; exact .bare 1 (by omega) (by omega), hbel, fun _ _ e => by cases e⟩
        by_cases hl4 : 4 < x.length
        · have H := Lib.hid (vecRd_some HX.out HXJ.out (num_bad x (fun v' hv' h0 h4 _ => by omega)))
          have hl5 : 4 < (S x).size := by rw [S_size]; exact hl4
          clear hl4
          have HR := Lib.hid hS.res
          have g1 := (hS.gd.errs 1 (by omega) (by omega) f1).var
          simp only [errG] at g1
          obtain ⟨⟨a0, a1, a2, a3⟩, fa, hlt, hbel⟩ := hS.res
          clear hS i0 i1
          go_wp2_with fail
          go_region_held3 (fun w' => w'.cell? ⟨1, 0, none⟩ = some (errV (ea 1))) (first | go_keep | ((repeat rw [World.cell?_setCell_other _ _ _ _ (by simp [ng, ng2])]); exact g1)) (fail)
          rename_i hH
          clear hH
          have hO := (HR.out.put 0 0 0 0).below (Below.drew (Below.refl _ _))
          obtain ⟨W5, hW5⟩ : ∃ W5, W5 = ((((w2.setCell ⟨w.heap.size, 0, none⟩ (.int .i64 0)).setCell ⟨w.heap.size, 1, none⟩ (.int .i64 0)).setCell ⟨w.heap.size, 2, none⟩ (.int .i64 0)).setCell ⟨w.heap.size, 3, none⟩ (.int .i64 0)).drew := ⟨_, rfl⟩
          rw [← hW5] at hO ⊢
          clear hW5 HR a0 a1 a2 a3 fa hlt ng ng2 g1 hbel
          obtain ⟨⟨c0, c1, c2, c3⟩, _, hlt, hbel⟩ := hO
          go_wp2_with fail
          exact bodyPost_ret (v := .tuple #[vecV 0 0 0 0, errV (ea 1)]) (by simp [results, Tryz.results16, go_sem, c0, c1, c2, c3]) rfl ⟨_, by rw [H.out], by rw [H.out]; exact .bare 1 (by omega) (by omega), hbel, fun _ _ e => by cases e⟩
        have hvb := atoi_bd x v HV.out
        have hv1 := hvb.1
        have hv2 := hvb.2
        clear hvb
        have hl5 : ¬ 4 < (S x).size := by rw [S_size]; exact hl4
        by_cases hit : Lib.itoa v = x
        · have HI := Lib.hid hit
          clear hit
          have gd2 := hS.gd
          have HS := Lib.hid hS
          clear hS
          go_wp2_with fail
          refine (itoa_any ea v _ gd2 f21 (by omega) (by omega)).mono ?_
          rintro e w3 ⟨rfl, hb3⟩
          have hS := HS.out.below hb3
          rw [HI.out]
          clear HS gd2 hb3
          have j4 : (j : Int) < 4 := by have := HX.out; omega
          have q := hS.v j (by omega)
          have fz := hS.fz j
          have HS := Lib.hid (hS.put HG.out j (by omega) v)
          have HV2 := Lib.hid (num_good x v HV.out (by omega) (by omega) HI.out)
          clear hS
          go_wp2_with fail
          go_roundw
          case rel => exact ⟨j + 1, _, by go_num, by omega, HS.out, fun i hi => by
            by_cases e : i = j
            · subst e; exact ⟨x, HXJ.out, by rw [if_pos rfl]; omega, by rw [if_pos rfl]; exact HV2.out⟩
            · obtain ⟨y, y1, y2, y3⟩ := HA.out i (by omega)
              exact ⟨y, y1, by rw [if_neg e]; exact y2, by rw [if_neg e]; exact y3⟩⟩
          case measure => simp [intOf]; omega
        · have H := Lib.hid (vecRd_some HX.out HXJ.out (num_bad x (fun v' hv' h0 h4 hi => by rw [HV.out] at hv'; injection hv' with hv'; subst hv'; exact hit hi)))
          have hneq : ((S (Lib.itoa v)).toList == (S x).toList) = false := by
            rw [beq_eq_false_iff_ne]
            intro e
            rw [ByteArray.toList_eq, ByteArray.toList_eq] at e
            exact hit (by simpa [S] using e)
          have HNE := Lib.hid hneq
          have gd2 := hS.gd
          have HS := Lib.hid hS
          clear hS hit hneq
          go_wp2_with fail
          refine (itoa_any ea v _ gd2 f21 (by omega) (by omega)).mono ?_
          rintro e w3 ⟨rfl, hb3⟩
          have hS := HS.out.below hb3
          have hneq := HNE.out
          clear HS gd2 hb3
          have HR := Lib.hid hS.res
          have g1 := (hS.gd.errs 1 (by omega) (by omega) f1).var
          simp only [errG] at g1
          obtain ⟨⟨a0, a1, a2, a3⟩, fa, hlt, hbel⟩ := hS.res
          clear hS i0 i1
          go_wp2_with fail
          go_region_held3 (fun w' => w'.cell? ⟨1, 0, none⟩ = some (errV (ea 1))) (first | go_keep | ((repeat rw [World.cell?_setCell_other _ _ _ _ (by simp [ng, ng2])]); exact g1)) (fail)
          rename_i hH
          clear hH
          have hO := (HR.out.put 0 0 0 0).below (Below.drew (Below.refl _ _))
          obtain ⟨W5, hW5⟩ : ∃ W5, W5 = ((((w3.setCell ⟨w.heap.size, 0, none⟩ (.int .i64 0)).setCell ⟨w.heap.size, 1, none⟩ (.int .i64 0)).setCell ⟨w.heap.size, 2, none⟩ (.int .i64 0)).setCell ⟨w.heap.size, 3, none⟩ (.int .i64 0)).drew := ⟨_, rfl⟩
          rw [← hW5] at hO ⊢
          clear hW5 HR a0 a1 a2 a3 fa hlt ng ng2 g1 hbel
          obtain ⟨⟨c0, c1, c2, c3⟩, _, hlt, hbel⟩ := hO
          go_wp2_with fail
          exact bodyPost_ret (v := .tuple #[vecV 0 0 0 0, errV (ea 1)]) (by simp [results, Tryz.results16, go_sem, c0, c1, c2, c3]) rfl ⟨_, by rw [H.out], by rw [H.out]; exact .bare 1 (by omega) (by omega), hbel, fun _ _ e => by cases e⟩
      · have H := Lib.hid (vecRd_some HX.out HXJ.out (num_bad x (fun v hv _ _ _ => hno v hv)))
        have HR := Lib.hid hS.res
        have g1 := (hS.gd.errs 1 (by omega) (by omega) f1).var
        simp only [errG] at g1
        obtain ⟨⟨a0, a1, a2, a3⟩, fa, hlt, hbel⟩ := hS.res
        clear hS hno hb2 i0 i1
        go_wp2_with fail
        go_region_held3 (fun w' => w'.cell? ⟨1, 0, none⟩ = some (errV (ea 1))) (first | go_keep | ((repeat rw [World.cell?_setCell_other _ _ _ _ (by simp [ng, ng2])]); exact g1)) (fail)
        rename_i hH
        clear hH
        have hO := (HR.out.put 0 0 0 0).below (Below.drew (Below.refl _ _))
        obtain ⟨W5, hW5⟩ : ∃ W5, W5 = ((((w2.setCell ⟨w.heap.size, 0, none⟩ (.int .i64 0)).setCell ⟨w.heap.size, 1, none⟩ (.int .i64 0)).setCell ⟨w.heap.size, 2, none⟩ (.int .i64 0)).setCell ⟨w.heap.size, 3, none⟩ (.int .i64 0)).drew := ⟨_, rfl⟩
        rw [← hW5] at hO ⊢
        clear hW5 HR a0 a1 a2 a3 fa hlt ng ng2 g1 hbel
        obtain ⟨⟨c0, c1, c2, c3⟩, _, hlt, hbel⟩ := hO
        go_wp2_with fail
        exact bodyPost_ret (v := .tuple #[vecV 0 0 0 0, errV (ea 1)]) (by simp [results, Tryz.results16, go_sem, c0, c1, c2, c3]) rfl ⟨_, by rw [H.out], by rw [H.out]; exact .bare 1 (by omega) (by omega), hbel, fun _ _ e => by cases e⟩
    · have hj4 : j = 4 := by omega
      have HJ := Lib.hid hj4
      have hge : ¬ (j : Int) < (xs.length : Int) := by have := HX.out; omega
      have HB : Hid (¬ (f 0 < 0 ∨ f 1 < 0 ∨ f 2 < 0 ∨ f 3 < 0) ∧ ∃ w0 w1 w2 w3, xs = [w0, w1, w2, w3] ∧ Num.numOf w0 4 = f 0 ∧ Num.numOf w1 4 = f 1 ∧ Num.numOf w2 4 = f 2 ∧ Num.numOf w3 4 = f 3) := by
        have hal := HA.out
        have hx4 := HX.out
        rw [hj4] at hal
        obtain ⟨x0, y0, z0, u0⟩ := hal 0 (by omega)
        obtain ⟨x1, y1, z1, u1⟩ := hal 1 (by omega)
        obtain ⟨x2, y2, z2, u2⟩ := hal 2 (by omega)
        obtain ⟨x3, y3, z3, u3⟩ := hal 3 (by omega)
        refine ⟨by omega, x0, x1, x2, x3, ?_, u0, u1, u2, u3⟩
        match xs, hx4 with
        | [w0, w1, w2, w3], _ => simp at y0 y1 y2 y3; subst y0 y1 y2 y3; rfl
      clear hj4 hlt HA
      have q0 := HS.out.v 0 (by omega)
      have q1 := HS.out.v 1 (by omega)
      have q2 := HS.out.v 2 (by omega)
      have q3 := HS.out.v 3 (by omega)
      go_wp2_with fail
      refine (check_any ea (f 0) (f 1) (f 2) (f 3) _ HS.out.gd f2).mono ?_
      rintro e w2 ⟨v, rfl, hv, hb2, hfr⟩
      have hS := HS.out.below hb2
      have hlw := HS.out.res.lt
      have HS2 := Lib.hid hS
      clear hS HS hb2 q0 q1 q2 q3 hge
      have HVV := Lib.hid hv
      clear hv
      obtain ⟨⟨a0, a1, a2, a3⟩, fa, hl0, hbel⟩ := HS2.out.res
      have q0 := HS2.out.v 0 (by omega)
      have q1 := HS2.out.v 1 (by omega)
      have q2 := HS2.out.v 2 (by omega)
      have q3 := HS2.out.v 3 (by omega)
      have gt := HS2.out.gt
      have n0 : w.heap.size ≠ VB := by omega
      have n1 : VB ≠ w.heap.size := by omega
      obtain ⟨hnn, w0, w1', w2', w3', hxs, e0, e1, e2, e3⟩ := HB.out
      have HXS := Lib.hid hxs
      have E0 := Lib.hid e0
      have E1 := Lib.hid e1
      have E2 := Lib.hid e2
      have E3 := Lib.hid e3
      have HNN := Lib.hid hnn
      clear hxs e0 e1 e2 e3 hnn HB
      have hge := vfAt_ge (f 0) (f 1) (f 2) (f 3)
      by_cases hf : vfAt (f 0) (f 1) (f 2) (f 3) < 0
      · have H : Hid (vecRdOf xs = ((f 0, f 1, f 2, f 3), 0, -1)) := by
          show vecRdOf xs = _
          rw [HXS.out, vecRd_ok (w0 := w0) (w1 := w1') (w2 := w2') (w3 := w3') (by rw [E0.out, E1.out, E2.out, E3.out]; exact HNN.out) (by rw [E0.out, E1.out, E2.out, E3.out]; exact hf), E0.out, E1.out, E2.out, E3.out]
        have hvn : v = .nilIface := by
          have := HVV.out
          rw [show vfK (f 0) (f 1) (f 2) (f 3) = 0 by unfold vfK; rw [if_pos hf]] at this
          rcases this with ⟨h, _⟩ | ⟨h, _⟩ | ⟨h, _⟩
          · exact h
          · omega
          · omega
        subst hvn
        clear HVV hf hge hfr
        go_wp2_with fail
        have hO := HS2.out.res.put (f 0) (f 1) (f 2) (f 3)
        exact bodyPost_ret (v := .tuple #[vecV (f 0) (f 1) (f 2) (f 3), .nilIface]) (by simp [results, Tryz.results16, go_sem, hO.v.1, hO.v.2.1, hO.v.2.2.1, hO.v.2.2.2]) rfl ⟨_, by rw [H.out], by rw [H.out]; exact .nil, hO.bel, fun _ _ e => by cases e⟩
      · have H : Hid (vecRdOf xs = ((0, 0, 0, 0), 2, vfAt (f 0) (f 1) (f 2) (f 3))) := by
          show vecRdOf xs = _
          rw [HXS.out, vecRd_flt (w0 := w0) (w1 := w1') (w2 := w2') (w3 := w3') (by rw [E0.out, E1.out, E2.out, E3.out]; exact HNN.out) (by rw [E0.out, E1.out, E2.out, E3.out]; exact hf), E0.out, E1.out, E2.out, E3.out]
        have hv2 := HVV.out
        rw [show vfK (f 0) (f 1) (f 2) (f 3) = 2 by unfold vfK; rw [if_neg hf]] at hv2
        obtain ⟨pb, po, hvf, p0, p1⟩ : ∃ pb po, v = faultV ⟨pb, po, none⟩ ∧ w2.cell? ⟨pb, po, none⟩ = some (.int .i64 (vfAt (f 0) (f 1) (f 2) (f 3))) ∧ w2.cell? ⟨pb, po + 1, none⟩ = some (errV (ea 2)) := by
          rcases hv2 with ⟨_, h, _⟩ | ⟨_, _, _, h⟩ | ⟨_, _, h⟩
          · omega
          · omega
          · exact h
        subst hvf
        have hpl := World.block_lt_of_cell? _ _ p0
        have P0 := Lib.hid p0
        have P1 := Lib.hid p1
        have hpw : pb ≠ w.heap.size := by
          have := hfr pb po rfl
          omega
        have hpf : w.heap.size ≤ pb := by
          have := hfr pb po rfl
          omega
        clear HVV hf hge hv2 p0 p1 hfr
        go_wp2_with fail
        have hO := HS2.out.res.put 0 0 0 0
        exact bodyPost_ret (v := .tuple #[vecV 0 0 0 0, faultV ⟨pb, po, none⟩]) (by simp [results, Tryz.results16, go_sem, hO.v.1, hO.v.2.1, hO.v.2.2.1, hO.v.2.2.2]) rfl ⟨_, by rw [H.out], by
          rw [H.out]
          refine .inr (.inr ⟨by show 1 ≤ 2; omega, by show 2 ≤ 12; omega, pb, po, rfl, ?_, ?_⟩)
          · repeat rw [World.cell?_setCell_other _ _ _ _ (by simp [hpw])]
            exact P0.out
          · repeat rw [World.cell?_setCell_other _ _ _ _ (by simp [hpw])]
            exact P1.out, hO.bel, fun _ _ e => by cases e; exact hpf⟩
theorem read_any {F : Nat → Bool} (ea : Nat → Addr) (s : ByteArray) (w : World) (hG : Gd F ea w) (f1 : F 1 = true) (f2 : F 2 = true) (f21 : F 21 = true) (f22 : F 22 = true) (hs : s.size ≤ 1000) :
    Calls Tryz.prog 16 #[.string s] w (RdEnds ea (Num.cutL 46 s.data.toList) w) := by
  have hcut : ∀ w, Gd F ea w → Calls Tryz.prog 33 #[.string s, .string ⟨#[46]⟩] w (GivesTexts (Num.cutL 46 s.data.toList) w) := fun w hG => split_gives ea s ⟨#[46]⟩ 46 w hG f22 rfl hs
  have hl := cutL_len 46 s.data.toList
  have hm := cutL_mem 46 s.data.toList
  have hsz : s.data.toList.length = s.size := rfl
  by_cases h4 : (Num.cutL 46 s.data.toList).length = 4
  · exact read_four ea s _ w hG f1 f2 f21 f22 h4 (fun x hx => by have := hm x hx; omega) hcut
  · exact read_short ea s _ w hG f1 h4 (by omega) hcut

end Go.Proofs.YthlojjknpfijmaaGreatDoor
