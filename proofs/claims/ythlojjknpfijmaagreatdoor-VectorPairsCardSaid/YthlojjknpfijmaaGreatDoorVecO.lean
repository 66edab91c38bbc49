/- The document's VectorOf. -/
import Derived.Test.YthlojjknpfijmaaGreatDoorVecR
import Derived.Test.YthlojjknpfijmaaGreatDoorNumOf
namespace Go.Proofs.YthlojjknpfijmaaGreatDoor
open Go Go.RowKit
set_option linter.unusedVariables false
set_option linter.unusedSimpArgs false
set_option maxHeartbeats 4000000
set_option maxRecDepth 100000

def vecRdOf (xs : List (List UInt8)) : (Int × Int × Int × Int) × Nat × Int :=
  match xs with
  | [w0, w1, w2, w3] =>
    if Num.numOf w0 4 < 0 ∨ Num.numOf w1 4 < 0 ∨ Num.numOf w2 4 < 0 ∨ Num.numOf w3 4 < 0 then ((0, 0, 0, 0), 1, -1)
    else if vfAt (Num.numOf w0 4) (Num.numOf w1 4) (Num.numOf w2 4) (Num.numOf w3 4) < 0 then ((Num.numOf w0 4, Num.numOf w1 4, Num.numOf w2 4, Num.numOf w3 4), 0, -1)
    else ((0, 0, 0, 0), 2, vfAt (Num.numOf w0 4) (Num.numOf w1 4) (Num.numOf w2 4) (Num.numOf w3 4))
  | _ => ((0, 0, 0, 0), 1, -1)
abbrev vecW (r : (Int × Int × Int × Int) × Nat × Int) : Value := vecV r.1.1 r.1.2.1 r.1.2.2.1 r.1.2.2.2
def VecOfEnds (xs : List (List UInt8)) (w : World) (e : Ending) (w' : World) : Prop :=
  e = .returned (.tuple #[vecW (vecRdOf xs), faultS (vecRdOf xs).2.1 (vecRdOf xs).2.2]) ∧ Below w.heap.size w w'

theorem vecRd_len {xs : List (List UInt8)} (h : xs.length ≠ 4) : vecRdOf xs = ((0, 0, 0, 0), 1, -1) := by
  match xs, h with
  | [], _ => rfl
  | [_], _ => rfl
  | [_, _], _ => rfl
  | [_, _, _], _ => rfl
  | [_, _, _, _], h => simp at h
  | _ :: _ :: _ :: _ :: _ :: _, _ => rfl
theorem vecRd_bad {w0 w1 w2 w3 : List UInt8} (h : Num.numOf w0 4 < 0 ∨ Num.numOf w1 4 < 0 ∨ Num.numOf w2 4 < 0 ∨ Num.numOf w3 4 < 0) : vecRdOf [w0, w1, w2, w3] = ((0, 0, 0, 0), 1, -1) := by
  simp only [vecRdOf]
  rw [if_pos h]
theorem vecRd_ok {w0 w1 w2 w3 : List UInt8} (h : ¬ (Num.numOf w0 4 < 0 ∨ Num.numOf w1 4 < 0 ∨ Num.numOf w2 4 < 0 ∨ Num.numOf w3 4 < 0)) (hv : vfAt (Num.numOf w0 4) (Num.numOf w1 4) (Num.numOf w2 4) (Num.numOf w3 4) < 0) :
    vecRdOf [w0, w1, w2, w3] = ((Num.numOf w0 4, Num.numOf w1 4, Num.numOf w2 4, Num.numOf w3 4), 0, -1) := by
  simp only [vecRdOf]
  rw [if_neg h, if_pos hv]
theorem vecRd_flt {w0 w1 w2 w3 : List UInt8} (h : ¬ (Num.numOf w0 4 < 0 ∨ Num.numOf w1 4 < 0 ∨ Num.numOf w2 4 < 0 ∨ Num.numOf w3 4 < 0)) (hv : ¬ vfAt (Num.numOf w0 4) (Num.numOf w1 4) (Num.numOf w2 4) (Num.numOf w3 4) < 0) :
    vecRdOf [w0, w1, w2, w3] = ((0, 0, 0, 0), 2, vfAt (Num.numOf w0 4) (Num.numOf w1 4) (Num.numOf w2 4) (Num.numOf w3 4)) := by
  simp only [vecRdOf]
  rw [if_neg h, if_neg hv]

theorem vecOf_zero {xs : List (List UInt8)} {w w' : World} {k : Nat} {p : Int} (h : vecRdOf xs = ((0, 0, 0, 0), k, p)) (hb : Below w.heap.size w w') : VecOfEnds xs w (.returned (.tuple #[vecV 0 0 0 0, faultS k p])) w' := by
  unfold VecOfEnds
  rw [h]
  exact ⟨rfl, hb⟩

theorem bare_eq (c : Int) (w : World) :
    Calls Tryz.prog 36 #[.int .i64 c] w fun r w' => r = .returned (faultS c (-1)) ∧ w' = w.alloc (.cells #[.int .i64 c, .int .i64 (-1)] 30) := by
  go_enter Tryz.func36, Tryz.ntmps36
  go_wp2_with fail
  exact bodyPost_ret (v := faultS c (-1)) (by simp [results, Tryz.results36, go_sem]) rfl ⟨rfl, by simp [go_sem]⟩

abbrev TxtGives (x : List UInt8) (n : Int) : Prop := ∀ w, Calls Tryz.prog 37 #[.string (S x), .int .i64 4] w fun e w' => e = .returned (.int .i64 n) ∧ w' = w

/-- the results' own variables: a vector, a fault -/
structure ResVF (w0 : World) (w : World) : Prop where
  a0 : w.cell? ⟨w0.heap.size, 0, none⟩ = some (.int .i64 0)
  a1 : w.cell? ⟨w0.heap.size, 1, none⟩ = some (.int .i64 0)
  a2 : w.cell? ⟨w0.heap.size, 2, none⟩ = some (.int .i64 0)
  a3 : w.cell? ⟨w0.heap.size, 3, none⟩ = some (.int .i64 0)
  b0 : w.cell? ⟨w0.heap.size + 1, 0, none⟩ = some (.int .i64 0)
  b1 : w.cell? ⟨w0.heap.size + 1, 1, none⟩ = some (.int .i64 0)
  fa : ∀ o, w.frozen? ⟨w0.heap.size, o, none⟩ = false
  fb : ∀ o, w.frozen? ⟨w0.heap.size + 1, o, none⟩ = false
  lt : w0.heap.size + 1 < w.heap.size
  bel : Below w0.heap.size w0 w
theorem ResVF.start (w : World) (t1 t2 : TypeId) : ResVF w ((w.alloc (.cells #[.int .i64 0, .int .i64 0, .int .i64 0, .int .i64 0] t1)).alloc (.cells #[.int .i64 0, .int .i64 0] t2)) := by
  refine ⟨?_, ?_, ?_, ?_, ?_, ?_, ?_, ?_, ?_, ?_⟩
  iterate 6 (simp [go_sem])
  · intro o; simp [go_sem]
  · intro o; simp [go_sem]
  · simp
  · exact ((Below.refl _ _).alloc (Nat.le_refl _) _).alloc (by simp) _
theorem ResVF.below {w0 w w' : World} (h : ResVF w0 w) (hb : Below w.heap.size w w') : ResVF w0 w' :=
  have hl := h.lt
  have hl0 : w0.heap.size < w.heap.size := by omega
  ⟨(hb.cell hl0).trans h.a0, (hb.cell hl0).trans h.a1, (hb.cell hl0).trans h.a2, (hb.cell hl0).trans h.a3, (hb.cell hl).trans h.b0, (hb.cell hl).trans h.b1, fun o => (hb.frozen hl0).trans (h.fa o), fun o => (hb.frozen hl).trans (h.fb o), Nat.lt_of_lt_of_le hl hb.size, h.bel.trans (hb.mono h.bel.size)⟩

/-- what the results' own variables hold in the end -/
structure OutVF (w0 : World) (a b c d k p : Int) (w : World) : Prop where
  c0 : w.cell? ⟨w0.heap.size, 0, none⟩ = some (.int .i64 a)
  c1 : w.cell? ⟨w0.heap.size, 1, none⟩ = some (.int .i64 b)
  c2 : w.cell? ⟨w0.heap.size, 2, none⟩ = some (.int .i64 c)
  c3 : w.cell? ⟨w0.heap.size, 3, none⟩ = some (.int .i64 d)
  d0 : w.cell? ⟨w0.heap.size + 1, 0, none⟩ = some (.int .i64 k)
  d1 : w.cell? ⟨w0.heap.size + 1, 1, none⟩ = some (.int .i64 p)
  lt : w0.heap.size + 1 < w.heap.size
  bel : Below w0.heap.size w0 w
theorem OutVF.below {w0 w w' : World} {a b c d k p : Int} (h : OutVF w0 a b c d k p w) (hb : Below w.heap.size w w') : OutVF w0 a b c d k p w' :=
  have hl := h.lt
  have hl0 : w0.heap.size < w.heap.size := by omega
  ⟨(hb.cell hl0).trans h.c0, (hb.cell hl0).trans h.c1, (hb.cell hl0).trans h.c2, (hb.cell hl0).trans h.c3, (hb.cell hl).trans h.d0, (hb.cell hl).trans h.d1, Nat.lt_of_lt_of_le hl hb.size, h.bel.trans (hb.mono h.bel.size)⟩
theorem OutVF.alloc {w0 w : World} {a b c d k p : Int} (h : OutVF w0 a b c d k p w) (o : Obj) : OutVF w0 a b c d k p (w.alloc o) := h.below ((Below.refl _ _).alloc (Nat.le_refl _) _)
theorem OutVF.drew {w0 w : World} {a b c d k p : Int} (h : OutVF w0 a b c d k p w) : OutVF w0 a b c d k p w.drew := h.below (Below.refl _ _).drew
theorem ResVF.put {w0 w : World} (h : ResVF w0 w) (a b c d k p : Int) :
    OutVF w0 a b c d k p ((((((w.setCell ⟨w0.heap.size, 0, none⟩ (.int .i64 a)).setCell ⟨w0.heap.size, 1, none⟩ (.int .i64 b)).setCell ⟨w0.heap.size, 2, none⟩ (.int .i64 c)).setCell ⟨w0.heap.size, 3, none⟩ (.int .i64 d)).setCell ⟨w0.heap.size + 1, 0, none⟩ (.int .i64 k)).setCell ⟨w0.heap.size + 1, 1, none⟩ (.int .i64 p)) := by
  obtain ⟨a0, a1, a2, a3, b0, b1, fa, fb, hlt, hbel⟩ := h
  refine ⟨?_, ?_, ?_, ?_, ?_, ?_, ?_, ?_⟩
  iterate 6 (simp [go_sem, *])
  · simpa using hlt
  · exact (((((hbel.setCell (by simp) _).setCell (by simp) _).setCell (by simp) _).setCell (by simp) _).setCell (by simp) _).setCell (by simp) _

theorem vectorOf_short (s : ByteArray) (xs : List (List UInt8)) (w : World) (hx : xs.length ≠ 4) (hxl : xs.length ≤ 1001)
    (hcut : ∀ w, Calls Tryz.prog 35 #[.string s, .int .u8 46] w (GivesTexts xs w)) :
    Calls Tryz.prog 17 #[.string s] w (VecOfEnds xs w) := by
  have HC := Lib.hid hcut
  have H := Lib.hid (vecRd_len hx)
  have hne : ((xs.length : Int) == 4) = false := by rw [beq_eq_false_iff_ne]; omega
  have hne2 : ((xs.length : Int) != 4) = true := by rw [bne_iff_ne]; omega
  clear hcut hx
  go_enter Tryz.func17, Tryz.ntmps17
  go_wp2_with fail
  refine (HC.out _).mono ?_
  rintro e w1 ⟨g, cap, rfl, hg1, hg2, hcap, ht, hb⟩
  have hR := (ResVF.start w _ _).below hb
  have HR := Lib.hid hR
  have hlt := hR.lt
  clear hb ht hg1 hg2 hR
  go_wp2_with fail
  obtain ⟨W, hW⟩ : ∃ W, W = w1.alloc (.cells #[.int .i64 0, .int .i64 0, .int .i64 0, .int .i64 0] 22) := ⟨_, rfl⟩
  have hz : W.heap.size = w1.heap.size + 1 := by rw [hW]; simp
  have hR : ResVF w W := by rw [hW]; exact HR.out.below ((Below.refl _ _).alloc (Nat.le_refl _) _)
  have v0 : W.cell? ⟨w1.heap.size, 0, none⟩ = some (.int .i64 0) := by rw [hW]; simp [go_sem]
  have v1 : W.cell? ⟨w1.heap.size, 1, none⟩ = some (.int .i64 0) := by rw [hW]; simp [go_sem]
  have v2 : W.cell? ⟨w1.heap.size, 2, none⟩ = some (.int .i64 0) := by rw [hW]; simp [go_sem]
  have v3 : W.cell? ⟨w1.heap.size, 3, none⟩ = some (.int .i64 0) := by rw [hW]; simp [go_sem]
  rw [← hW]
  have n0 : w.heap.size ≠ w1.heap.size := by omega
  have n1 : w.heap.size + 1 ≠ w1.heap.size := by omega
  have n2 : w.heap.size ≠ W.heap.size := by omega
  have n3 : w.heap.size + 1 ≠ W.heap.size := by omega
  have n4 : w1.heap.size ≠ W.heap.size := by omega
  have m0 : w.heap.size < W.heap.size := by omega
  have m1 : w.heap.size + 1 < W.heap.size := by omega
  have m2 : w1.heap.size < W.heap.size := by omega
  have HW := Lib.hid hR
  clear hW hz HR hlt
  obtain ⟨a0, a1, a2, a3, b0, b1, fa, fb, hlt, hbel⟩ := hR
  go_region_held3 (fun w' => w'.cell? ⟨w1.heap.size, 0, none⟩ = some (.int .i64 0) ∧ w'.cell? ⟨w1.heap.size, 1, none⟩ = some (.int .i64 0) ∧ w'.cell? ⟨w1.heap.size, 2, none⟩ = some (.int .i64 0) ∧ w'.cell? ⟨w1.heap.size, 3, none⟩ = some (.int .i64 0)) (go_keep)
    ((go_at_call 36; refine (bare_eq _ _).mono ?_; rintro e w2 ⟨rfl, rfl⟩))
  rename_i hH
  obtain ⟨W2, hW2⟩ : ∃ W2, W2 = (((((((W.setCell ⟨w.heap.size, 0, none⟩ (.int .i64 0)).setCell ⟨w.heap.size, 1, none⟩ (.int .i64 0)).setCell ⟨w.heap.size, 2, none⟩ (.int .i64 0)).setCell ⟨w.heap.size, 3, none⟩ (.int .i64 0)).setCell ⟨w.heap.size + 1, 0, none⟩ (.int .i64 1)).setCell ⟨w.heap.size + 1, 1, none⟩ (.int .i64 (-1))).alloc (.cells #[.int .i64 1, .int .i64 (-1)] 30)).drew := ⟨_, rfl⟩
  rw [← hW2]
  have hO : OutVF w 0 0 0 0 1 (-1) W2 := by rw [hW2]; exact ((HW.out.put 0 0 0 0 1 (-1)).alloc _).drew
  clear hH v0 v1 v2 v3 n0 n1 n2 n3 n4 HC hne hne2 hcap hW2 HW a0 a1 a2 a3 b0 b1 fa fb hlt hbel m0 m1 m2
  obtain ⟨c0, c1, c2, c3, d0, d1, hlt, hbel⟩ := hO
  go_wp2_with fail
  exact bodyPost_ret (v := .tuple #[vecV 0 0 0 0, faultS 1 (-1)]) (by simp [results, Tryz.results17, go_sem, c0, c1, c2, c3, d0, d1]) rfl (vecOf_zero H.out hbel)
end Go.Proofs.YthlojjknpfijmaaGreatDoor
