/- The program's Read of an operation. -/
import Derived.Test.YtneggbhjekklhaaDoorOpLaw
import Derived.Test.YtneggbhjekklhaaDoorSplit
namespace Go.Proofs.YtneggbhjekklhaaDoor
open Go Go.RowKit
set_option linter.unusedVariables false
set_option linter.unusedSimpArgs false
set_option maxHeartbeats 4000000
set_option maxRecDepth 100000

theorem num10_bad (x : List UInt8) (h : ∀ v, Lib.atoiAll x = .ok v → 0 ≤ v → x.length ≤ 10 → Lib.itoa v = x → False) : Num.numOf x 10 < 0 := by
  rcases Int.lt_or_le (Num.numOf x 10) 0 with h0 | h0
  · exact h0
  · obtain ⟨h1, h2, h3, h4⟩ := (Num.numOf_spec x 10 (by omega) (Num.numOf x 10)).2 ⟨rfl, h0⟩
    exact (h _ h1 h2 h3 h4).elim
theorem num10_good (x : List UInt8) (v : Int) (h1 : Lib.atoiAll x = .ok v) (h2 : 0 ≤ v) (h3 : x.length ≤ 10) (h4 : Lib.itoa v = x) : Num.numOf x 10 = v := ((Num.numOf_spec x 10 (by omega) v).1 ⟨h1, h2, h3, h4⟩).1
theorem atoi_range (l : List UInt8) (v : Int) (h : Lib.atoiAll l = .ok v) : -9223372036854775808 ≤ v ∧ v ≤ 9223372036854775807 := by
  unfold Lib.atoiAll at h
  split at h
  · cases h
  · simp only at h
    split at h
    · cases h
    · cases h
    · split at h
      · cases h
      · split at h
        · cases h
        · split at h <;> injection h with h <;> omega
theorem wd_at {xs : List (List UInt8)} {j : Nat} {x : List UInt8} (h : xs[j]? = some x) : wd xs j = x := by
  unfold wd
  rw [List.getD_eq_getElem?_getD, h]
  rfl
theorem opOfW_len {xs : List (List UInt8)} (h : xs.length ≠ 8) : opRdW xs = (zeroOp, 1) := by
  unfold opRdW opOfW
  rw [if_neg (fun hc => h hc.1)]
theorem opOfW_kind {xs : List (List UInt8)} (h : (wd xs 0).length ≠ 1) : opRdW xs = (zeroOp, 1) := by
  unfold opRdW opOfW
  rw [if_neg (fun hc => h hc.2.1)]
theorem opOfW_num {xs : List (List UInt8)} {j : Nat} {x : List UInt8} (hj : j < 5) (hx : xs[1 + j]? = some x) (h : Num.numOf x 10 < 0) : opRdW xs = (zeroOp, 1) := by
  unfold opRdW opOfW
  rw [if_neg]
  rintro ⟨_, _, hn⟩
  have := (numsOk_iff _).1 hn j hj
  rw [wd_at (show xs[j + 1]? = some x by rw [Nat.add_comm]; exact hx)] at this
  omega
theorem opOfW_hex {xs : List (List UInt8)} (h : unhexL (wd xs 7) = none) : opRdW xs = (zeroOp, 1) := by
  unfold opRdW opOfW
  split
  · rfl
  · next o ho =>
    split at ho
    · rw [h] at ho; cases ho
    · cases ho

/-- how reading ends -/
def RdOp (ea : Nat → Addr) (xs : List (List UInt8)) (w : World) (e : Ending) (w' : World) : Prop :=
  e = .returned (.tuple #[opV (opRdW xs).1, errW ea (opRdW xs).2]) ∧ Below w.heap.size w w'

/-- the result's own operation -/
structure ResO (w0 : World) (o : OpT) (w : World) : Prop where
  o : OpAt w w0.heap.size o
  fz : ∀ o, w.frozen? ⟨w0.heap.size, o, none⟩ = false
  lt : w0.heap.size < w.heap.size
  bel : Below w0.heap.size w0 w
theorem ResO.below {w0 w w' : World} {o : OpT} (h : ResO w0 o w) (hb : Below w.heap.size w w') : ResO w0 o w' :=
  ⟨h.o.below hb, fun o => (hb.frozen h.lt).trans (h.fz o), Nat.lt_of_lt_of_le h.lt hb.size, h.bel.trans (hb.mono h.bel.size)⟩
/-- eight cells written -/
def putOp (w : World) (B : Nat) (o : OpT) : World :=
  (((((((w.setCell ⟨B, 0, none⟩ (.int .i64 o.t)).setCell ⟨B, 1, none⟩ (.int .i64 o.b)).setCell ⟨B, 2, none⟩ (.int .i64 o.n)).setCell ⟨B, 3, none⟩ (.int .u8 o.k)).setCell ⟨B, 4, none⟩ (.int .i64 o.nd)).setCell ⟨B, 5, none⟩ (.int .i64 o.ot)).setCell ⟨B, 6, none⟩ (.string o.nm)).setCell ⟨B, 7, none⟩ (.string o.vl)
theorem ResO.put {w0 w : World} {o : OpT} (h : ResO w0 o w) (p : OpT) : ResO w0 p (putOp w w0.heap.size p) := by
  obtain ⟨⟨a0, a1, a2, a3, a4, a5, a6, a7⟩, fa, hlt, hbel⟩ := h
  refine ⟨⟨?_, ?_, ?_, ?_, ?_, ?_, ?_, ?_⟩, ?_, ?_, ?_⟩
  iterate 8 (simp [putOp, go_sem, *])
  · intro o; simpa [putOp] using fa o
  · simpa [putOp] using hlt
  · exact (((((((hbel.setCell (by simp) _).setCell (by simp) _).setCell (by simp) _).setCell (by simp) _).setCell (by simp) _).setCell (by simp) _).setCell (by simp) _).setCell (by simp) _
theorem ResO.set {w0 w : World} {p : OpT} (h : ResO w0 p w) (VB o : Nat) (x : Value) (hv : w0.heap.size < VB) : ResO w0 p (w.setCell ⟨VB, o, none⟩ x) := by
  have n0 : w0.heap.size ≠ VB := by omega
  obtain ⟨⟨a0, a1, a2, a3, a4, a5, a6, a7⟩, fa, hlt, hbel⟩ := h
  refine ⟨⟨?_, ?_, ?_, ?_, ?_, ?_, ?_, ?_⟩, ?_, ?_, ?_⟩
  iterate 8 (rw [World.cell?_setCell_other _ _ _ _ (by simp [n0])]; assumption)
  · intro o; have := fa o; simpa using this
  · simpa using hlt
  · exact hbel.setCell (by show _ ≤ VB; omega) _
theorem ResO.start (w : World) (t : TypeId) : ResO w zeroOp (w.alloc (.cells zeroOp.cells t)) :=
  ⟨OpAt.start w zeroOp t, fun o => by simp [go_sem], by simp, (Below.refl _ _).alloc (Nat.le_refl _) _⟩

/-- behind the split -/
structure OrSt (F : Nat → Bool) (ea : Nat → Addr) (w0 : World) (NB g : Nat) (xs : List (List UInt8)) (f : Nat → Int) (w : World) : Prop where
  res : ResO w0 zeroOp w
  v : ∀ i, i < 5 → w.cell? ⟨NB, i, none⟩ = some (.int .i64 (f i))
  fz : ∀ o, w.frozen? ⟨NB, o, none⟩ = false
  tx : TextsAt w g xs
  gl : g < w.heap.size
  lt : NB < w.heap.size
  gt : w0.heap.size < NB
  ne : g ≠ NB
  gd : Gd F ea w
theorem OrSt.below {F : Nat → Bool} {ea : Nat → Addr} {w0 w w' : World} {NB g : Nat} {xs : List (List UInt8)} {f : Nat → Int} (h : OrSt F ea w0 NB g xs f w) (hb : Below w.heap.size w w') : OrSt F ea w0 NB g xs f w' :=
  ⟨h.res.below hb, fun i hi => (hb.cell h.lt).trans (h.v i hi), fun o => (hb.frozen h.lt).trans (h.fz o), h.tx.below h.gl hb, Nat.lt_of_lt_of_le h.gl hb.size, Nat.lt_of_lt_of_le h.lt hb.size, h.gt, h.ne, h.gd.below hb⟩
theorem TextsAt.put {w : World} {g VB o : Nat} {xs : List (List UInt8)} (h : TextsAt w g xs) (hn : g ≠ VB) (x : Value) : TextsAt (w.setCell ⟨VB, o, none⟩ x) g xs :=
  fun j y hy => (World.cell?_setCell_other _ _ _ _ (by simp [hn])).trans (h j y hy)
theorem OrSt.put {F : Nat → Bool} {ea : Nat → Addr} {w0 w : World} {NB g : Nat} {xs : List (List UInt8)} {f : Nat → Int} (h : OrSt F ea w0 NB g xs f w) (hG0 : Gd F ea w0) (j : Nat) (hj : j < 5) (x : Int) : OrSt F ea w0 NB g xs (fun i => if i = j then x else f i) (w.setCell ⟨NB, j, none⟩ (.int .i64 x)) := by
  have hr := h.res.set NB j (.int .i64 x) h.gt
  refine ⟨hr, ?_, fun o => by have := h.fz o; simpa using this, h.tx.put h.ne _, by have := h.gl; simpa using this, by have := h.lt; simpa using this, h.gt, h.ne, hG0.below hr.bel⟩
  intro i hi
  by_cases e : i = j
  · subst e
    rw [if_pos rfl]
    exact World.cell?_setCell_same _ _ _ (h.v i hi)
  · rw [if_neg e, World.cell?_setCell_other _ _ _ _ (by simp [e])]
    exact h.v i hi

theorem opRead_short {F : Nat → Bool} (ea : Nat → Addr) (s : ByteArray) (xs : List (List UInt8)) (w : World) (hG : Gd F ea w) (f1 : F 1 = true) (hx : xs.length ≠ 8) (hxl : xs.length ≤ 100001)
    (hcut : ∀ w, Gd F ea w → Calls Tryd.prog 66 #[.string s, .string ⟨#[124]⟩] w (GivesTexts xs w)) :
    Calls Tryd.prog 36 #[.string s] w (RdOp ea xs w) := by
  have HC := Lib.hid hcut
  have HG := Lib.hid hG
  have H := Lib.hid (opOfW_len hx)
  have hne : ((xs.length : Int) == 8) = false := by rw [beq_eq_false_iff_ne]; omega
  have hne2 : ((xs.length : Int) != 8) = true := by rw [bne_iff_ne]; omega
  have ng : 2 ≠ w.heap.size := by have := World.block_lt_of_cell? _ _ (HG.out.errs 1 (by omega) (by omega) f1).var; simp only [errG] at this; omega
  have ng2 := Ne.symm ng
  clear hcut hx hG
  go_enter Tryd.func36, Tryd.ntmps36
  go_wp2_with fail
  refine (HC.out _ (HG.out.alloc _)).mono ?_
  rintro e w1 ⟨g, cap, rfl, hg1, hg2, hcap, ht, hb⟩
  have hG1 := (HG.out.alloc _).below hb
  have hR : ResO w zeroOp w1 := (ResO.start w _).below hb
  have HG1 := Lib.hid hG1
  clear hb ht hg1 hg2 hG1
  have HR := Lib.hid hR
  have g1 := ((HG1.out).errs 1 (by omega) (by omega) f1).var
  simp only [errG] at g1
  obtain ⟨⟨a0, a1, a2, a3, a4, a5, a6, a7⟩, fa, hlt, hbel⟩ := hR
  go_wp2_with fail
  go_region_held3 (fun w' => w'.cell? ⟨2, 0, none⟩ = some (errV (ea 1))) (first | go_keep | ((repeat rw [World.cell?_setCell_other _ _ _ _ (by simp [ng, ng2])]); exact g1)) (fail)
  rename_i hH
  clear hH
  have hO := (HR.out.put zeroOp).below (Below.drew (Below.refl _ _))
  obtain ⟨W5, hW5⟩ : ∃ W5, W5 = (putOp w1 w.heap.size zeroOp).drew := ⟨_, rfl⟩
  rw [← hW5] at hO
  simp only [putOp, zeroOp] at hW5
  rw [← hW5]
  clear hW5 HR a0 a1 a2 a3 a4 a5 a6 a7 fa hlt ng ng2 g1 hbel
  obtain ⟨⟨c0, c1, c2, c3, c4, c5, c6, c7⟩, _, hlt, hbel⟩ := hO
  go_wp2_with fail
  exact bodyPost_ret (v := .tuple #[opV zeroOp, errV (ea 1)]) (by simp [results, Tryd.results36, go_sem, c0, c1, c2, c3, c4, c5, c6, c7]) rfl ⟨by rw [H.out]; rfl, hbel⟩

theorem opRead_kind {F : Nat → Bool} (ea : Nat → Addr) (s : ByteArray) (xs : List (List UInt8)) (w : World) (hG : Gd F ea w) (f1 : F 1 = true) (hx : xs.length = 8) (hk : (wd xs 0).length ≠ 1)
    (hcut : ∀ w, Gd F ea w → Calls Tryd.prog 66 #[.string s, .string ⟨#[124]⟩] w (GivesTexts xs w)) :
    Calls Tryd.prog 36 #[.string s] w (RdOp ea xs w) := by
  have HC := Lib.hid hcut
  have HG := Lib.hid hG
  have H := Lib.hid (opOfW_kind hk)
  have hne : ((xs.length : Int) == 8) = true := by rw [beq_iff_eq]; omega
  have hne2 : ((xs.length : Int) != 8) = false := by rw [bne_eq_false_iff_eq]; omega
  have HX := Lib.hid hx
  have HK := Lib.hid hk
  have ng : 2 ≠ w.heap.size := by have := World.block_lt_of_cell? _ _ (HG.out.errs 1 (by omega) (by omega) f1).var; simp only [errG] at this; omega
  have ng2 := Ne.symm ng
  clear hcut hG hk
  obtain ⟨x, hx0⟩ : ∃ x, xs[0]? = some x := ⟨_, List.getElem?_eq_getElem (by omega)⟩
  have hk1 : (((S x).size : Int) == 1) = false := by rw [beq_eq_false_iff_ne, S_size]; have := HK.out; rw [wd_at hx0] at this; omega
  have hk2 : (((S x).size : Int) != 1) = true := by rw [bne_iff_ne, S_size]; have := HK.out; rw [wd_at hx0] at this; omega
  have i1 : 0 < xs.length := by omega
  have HX0 := Lib.hid hx0
  clear hx hx0
  go_enter Tryd.func36, Tryd.ntmps36
  go_wp2_with fail
  refine (HC.out _ (HG.out.alloc _)).mono ?_
  rintro e w1 ⟨g, cap, rfl, hg1, hg2, hcap, ht, hb⟩
  have hG1 := (HG.out.alloc _).below hb
  have hR : ResO w zeroOp w1 := (ResO.start w _).below hb
  have HG1 := Lib.hid hG1
  have t0 := ht 0 x HX0.out
  clear hb ht hg1 hg2 hG1
  have HR := Lib.hid hR
  have g1 := ((HG1.out).errs 1 (by omega) (by omega) f1).var
  simp only [errG] at g1
  obtain ⟨⟨a0, a1, a2, a3, a4, a5, a6, a7⟩, fa, hlt, hbel⟩ := hR
  go_wp2_with fail
  go_region_held3 (fun w' => w'.cell? ⟨2, 0, none⟩ = some (errV (ea 1))) (first | go_keep | ((repeat rw [World.cell?_setCell_other _ _ _ _ (by simp [ng, ng2])]); exact g1)) (fail)
  rename_i hH
  clear hH
  have hO := (HR.out.put zeroOp).below (Below.drew (Below.refl _ _))
  obtain ⟨W5, hW5⟩ : ∃ W5, W5 = (putOp w1 w.heap.size zeroOp).drew := ⟨_, rfl⟩
  rw [← hW5] at hO
  simp only [putOp, zeroOp] at hW5
  rw [← hW5]
  clear hW5 HR a0 a1 a2 a3 a4 a5 a6 a7 fa hlt ng ng2 g1 hbel
  obtain ⟨⟨c0, c1, c2, c3, c4, c5, c6, c7⟩, _, hlt, hbel⟩ := hO
  go_wp2_with fail
  exact bodyPost_ret (v := .tuple #[opV zeroOp, errV (ea 1)]) (by simp [results, Tryd.results36, go_sem, c0, c1, c2, c3, c4, c5, c6, c7]) rfl ⟨by rw [H.out]; rfl, hbel⟩

theorem opRead_eight {F : Nat → Bool} (ea : Nat → Addr) (s : ByteArray) (xs : List (List UInt8)) (w : World) (hG : Gd F ea w) (f1 : F 1 = true) (f2 : F 2 = true) (f3 : F 3 = true) (f4 : F 4 = true) (f5 : F 5 = true) (f21 : F 21 = true) (f22 : F 22 = true)
    (hx : xs.length = 8) (hk : (wd xs 0).length = 1) (hm : ∀ x ∈ xs, x.length ≤ 100000)
    (hcut : ∀ w, Gd F ea w → Calls Tryd.prog 66 #[.string s, .string ⟨#[124]⟩] w (GivesTexts xs w)) :
    Calls Tryd.prog 36 #[.string s] w (RdOp ea xs w) := by
  have HC := Lib.hid hcut
  have HG := Lib.hid hG
  have hne : ((xs.length : Int) == 8) = true := by rw [beq_iff_eq]; omega
  have hne2 : ((xs.length : Int) != 8) = false := by rw [bne_eq_false_iff_eq]; omega
  have HX := Lib.hid hx
  have HK := Lib.hid hk
  have HM := Lib.hid hm
  have ng : 2 ≠ w.heap.size := by have := World.block_lt_of_cell? _ _ (HG.out.errs 1 (by omega) (by omega) f1).var; simp only [errG] at this; omega
  have ng2 := Ne.symm ng
  clear hcut hG hk hm
  obtain ⟨x, hx0⟩ : ∃ x, xs[0]? = some x := ⟨_, List.getElem?_eq_getElem (by omega)⟩
  have hk1 : (((S x).size : Int) == 1) = true := by rw [beq_iff_eq, S_size]; have := HK.out; rw [wd_at hx0] at this; omega
  have hk2 : (((S x).size : Int) != 1) = false := by rw [bne_eq_false_iff_eq, S_size]; have := HK.out; rw [wd_at hx0] at this; omega
  have i1 : 0 < xs.length := by omega
  have i6 : (6 : Int) ≤ (xs.length : Int) := by omega
  have HX0 := Lib.hid hx0
  clear hx0
  go_enter Tryd.func36, Tryd.ntmps36
  go_wp2_with fail
  refine (HC.out _ (HG.out.alloc _)).mono ?_
  rintro e w1 ⟨g, cap, rfl, hg1, hg2, hcap, ht, hb⟩
  have hG1 := (HG.out.alloc _).below hb
  have hR : ResO w zeroOp w1 := (ResO.start w _).below hb
  have hlt := hR.lt
  have hR2 := hR.below ((Below.refl _ _).alloc (Nat.le_refl _) (.cells #[.int .i64 0, .int .i64 0, .int .i64 0, .int .i64 0, .int .i64 0] 128))
  obtain ⟨W, hW⟩ : ∃ W, W = w1.alloc (.cells #[.int .i64 0, .int .i64 0, .int .i64 0, .int .i64 0, .int .i64 0] 128) := ⟨_, rfl⟩
  have hS : OrSt F ea w w1.heap.size g xs (fun _ => 0) W := by
    rw [hW]
    refine ⟨hR2, ?_, fun o => by simp [go_sem], ht.below hg2 ((Below.refl _ _).alloc (Nat.le_refl _) _), by simp; omega, by simp, hlt, by omega, hG1.alloc _⟩
    intro i hi
    match i, hi with
    | 0, _ => simp [go_sem]
    | 1, _ => simp [go_sem]
    | 2, _ => simp [go_sem]
    | 3, _ => simp [go_sem]
    | 4, _ => simp [go_sem]
  have HS := Lib.hid hS
  have t0 := ht 0 x HX0.out
  have hc8 : 8 ≤ cap := by omega
  have hc6 : 6 ≤ cap := by omega
  have hc7 : (6 : Int) ≤ (cap : Int) := by omega
  have hc1 : ¬ cap = 1 := by omega
  have HW := Lib.hid hW
  clear hb ht hg1 hg2 hG1 hR hR2 hS hlt hW hx
  go_wp2_with fail
  rw [← HW.out]
  obtain ⟨VB, hVB⟩ : ∃ VB, VB = w1.heap.size := ⟨_, rfl⟩
  rw [← hVB] at HS ⊢
  clear HW hVB hcap hne hne2 HC t0 hk1 hk2 hc1 hc7 hc6
  go_loopw [31] (fun v31 wr => ∃ (j : Nat) (f : Nat → Int), v31 = .int .i64 j ∧ j ≤ 5 ∧ OrSt F ea w VB g xs f wr ∧ ∀ i, i < j → ∃ x, xs[1 + i]? = some x ∧ 0 ≤ f i ∧ Num.numOf x 10 = f i) (fun v31 _ => 5 - (intOf v31).toNat)
  case atStart => exact ⟨0, _, rfl, by omega, HS.out, fun i hi => by omega⟩
  case round =>
    clear HS
    obtain ⟨j, f, rfl, hj, hS, hall⟩ := hrel
    have HA := Lib.hid hall
    have HS := Lib.hid hS
    clear hS hall
    by_cases hlt : j < 5
    · have hjx : 1 + j < xs.length := by have := HX.out; omega
      obtain ⟨x, hx⟩ : ∃ x, xs[1 + j]? = some x := ⟨_, List.getElem?_eq_getElem hjx⟩
      have t0 := HS.out.tx (1 + j) x hx
      have i0 : (0 : Int) ≤ (j : Int) := by omega
      have i1 : (j : Int) < 5 := by omega
      have HXJ := Lib.hid hx
      have HJ5 := Lib.hid hlt
      clear hx hlt hjx
      go_wp2_with fail
      refine (atoi_any ea (S x) _ HS.out.gd f22 (by rw [S_size]; have := HM.out x (List.mem_of_getElem? HXJ.out); omega)).mono ?_
      rintro e w2 ⟨hb2, hend⟩
      have hS := HS.out.below hb2
      rw [S_list] at hend
      clear HS t0
      rcases hend with ⟨v, hv, rfl⟩ | ⟨hno, v, t, p, rfl⟩
      · have HV := Lib.hid hv
        clear hv hb2
        by_cases hv0 : v < 0
        · have H := Lib.hid (opOfW_num HJ5.out HXJ.out (num10_bad x (fun v' hv' h0 _ _ => by rw [HV.out] at hv'; injection hv' with hv'; omega)))
          have HR := Lib.hid hS.res
          have g1 := ((hS.gd).errs 1 (by omega) (by omega) f1).var
          simp only [errG] at g1
          obtain ⟨⟨a0, a1, a2, a3, a4, a5, a6, a7⟩, fa, hlt, hbel⟩ := hS.res
          clear hS i0 i1
          go_wp2_with fail
          go_region_held3 (fun w' => w'.cell? ⟨2, 0, none⟩ = some (errV (ea 1))) (first | go_keep | ((repeat rw [World.cell?_setCell_other _ _ _ _ (by simp [ng, ng2])]); exact g1)) (fail)
          rename_i hH
          clear hH
          have hO := (HR.out.put zeroOp).below (Below.drew (Below.refl _ _))
          obtain ⟨W5, hW5⟩ : ∃ W5, W5 = (putOp w2 w.heap.size zeroOp).drew := ⟨_, rfl⟩
          rw [← hW5] at hO
          simp only [putOp, zeroOp] at hW5
          rw [← hW5]
          clear hW5 HR a0 a1 a2 a3 a4 a5 a6 a7 fa hlt ng ng2 g1 hbel
          obtain ⟨⟨c0, c1, c2, c3, c4, c5, c6, c7⟩, _, hlt, hbel⟩ := hO
          go_wp2_with fail
          exact bodyPost_ret (v := .tuple #[opV zeroOp, errV (ea 1)]) (by simp [results, Tryd.results36, go_sem, c0, c1, c2, c3, c4, c5, c6, c7]) rfl ⟨by rw [H.out]; rfl, hbel⟩
        by_cases hl4 : 10 < x.length
        · have H := Lib.hid (opOfW_num HJ5.out HXJ.out (num10_bad x (fun v' hv' h0 h4 _ => by omega)))
          have hl5 : 10 < (S x).size := by rw [S_size]; exact hl4
          clear hl4
          have HR := Lib.hid hS.res
          have g1 := ((hS.gd).errs 1 (by omega) (by omega) f1).var
          simp only [errG] at g1
          obtain ⟨⟨a0, a1, a2, a3, a4, a5, a6, a7⟩, fa, hlt, hbel⟩ := hS.res
          clear hS i0 i1
          go_wp2_with fail
          go_region_held3 (fun w' => w'.cell? ⟨2, 0, none⟩ = some (errV (ea 1))) (first | go_keep | ((repeat rw [World.cell?_setCell_other _ _ _ _ (by simp [ng, ng2])]); exact g1)) (fail)
          rename_i hH
          clear hH
          have hO := (HR.out.put zeroOp).below (Below.drew (Below.refl _ _))
          obtain ⟨W5, hW5⟩ : ∃ W5, W5 = (putOp w2 w.heap.size zeroOp).drew := ⟨_, rfl⟩
          rw [← hW5] at hO
          simp only [putOp, zeroOp] at hW5
          rw [← hW5]
          clear hW5 HR a0 a1 a2 a3 a4 a5 a6 a7 fa hlt ng ng2 g1 hbel
          obtain ⟨⟨c0, c1, c2, c3, c4, c5, c6, c7⟩, _, hlt, hbel⟩ := hO
          go_wp2_with fail
          exact bodyPost_ret (v := .tuple #[opV zeroOp, errV (ea 1)]) (by simp [results, Tryd.results36, go_sem, c0, c1, c2, c3, c4, c5, c6, c7]) rfl ⟨by rw [H.out]; rfl, hbel⟩
        have hvb := atoi_range x v HV.out
        have hv1 := hvb.1
        have hv2 := hvb.2
        clear hvb
        have hl5 : ¬ 10 < (S x).size := by rw [S_size]; exact hl4
        by_cases hit : Lib.itoa v = x
        · have HI := Lib.hid hit
          clear hit
          have gd2 := hS.gd
          have HS := Lib.hid hS
          clear hS
          go_wp2_with fail
          refine (itoa_any ea v _ gd2 f21 (by omega) (by omega)).mono ?_
          rintro e w3 ⟨rfl, hb3⟩
          have hS := HS.out.below hb3
          rw [HI.out]
          clear HS gd2 hb3
          have q := hS.v j HJ5.out
          have fz := hS.fz j
          have HS := Lib.hid (hS.put HG.out j HJ5.out v)
          have HV2 := Lib.hid (num10_good x v HV.out (by omega) (by omega) HI.out)
          clear hS
          go_wp2_with fail
          go_roundw
          case rel => exact ⟨j + 1, _, by go_num, by have := HJ5.out; omega, HS.out, fun i hi => by
            by_cases e : i = j
            · subst e; exact ⟨x, HXJ.out, by rw [if_pos rfl]; omega, by rw [if_pos rfl]; exact HV2.out⟩
            · obtain ⟨y, y1, y2, y3⟩ := HA.out i (by omega)
              exact ⟨y, y1, by rw [if_neg e]; exact y2, by rw [if_neg e]; exact y3⟩⟩
          case measure => simp [intOf]; omega
        · have H := Lib.hid (opOfW_num HJ5.out HXJ.out (num10_bad x (fun v' hv' h0 h4 hi => by rw [HV.out] at hv'; injection hv' with hv'; subst hv'; exact hit hi)))
          have hneq : ((S (Lib.itoa v)).toList == (S x).toList) = false := by
            rw [beq_eq_false_iff_ne]
            intro e
            rw [ByteArray.toList_eq, ByteArray.toList_eq] at e
            exact hit (by simpa [S] using e)
          have HNE := Lib.hid hneq
          have gd2 := hS.gd
          have HS := Lib.hid hS
          clear hS hit hneq
          go_wp2_with fail
          refine (itoa_any ea v _ gd2 f21 (by omega) (by omega)).mono ?_
          rintro e w3 ⟨rfl, hb3⟩
          have hS := HS.out.below hb3
          have hneq := HNE.out
          clear HS gd2 hb3
          have HR := Lib.hid hS.res
          have g1 := ((hS.gd).errs 1 (by omega) (by omega) f1).var
          simp only [errG] at g1
          obtain ⟨⟨a0, a1, a2, a3, a4, a5, a6, a7⟩, fa, hlt, hbel⟩ := hS.res
          clear hS i0 i1
          go_wp2_with fail
          go_region_held3 (fun w' => w'.cell? ⟨2, 0, none⟩ = some (errV (ea 1))) (first | go_keep | ((repeat rw [World.cell?_setCell_other _ _ _ _ (by simp [ng, ng2])]); exact g1)) (fail)
          rename_i hH
          clear hH
          have hO := (HR.out.put zeroOp).below (Below.drew (Below.refl _ _))
          obtain ⟨W5, hW5⟩ : ∃ W5, W5 = (putOp w3 w.heap.size zeroOp).drew := ⟨_, rfl⟩
          rw [← hW5] at hO
          simp only [putOp, zeroOp] at hW5
          rw [← hW5]
          clear hW5 HR a0 a1 a2 a3 a4 a5 a6 a7 fa hlt ng ng2 g1 hbel
          obtain ⟨⟨c0, c1, c2, c3, c4, c5, c6, c7⟩, _, hlt, hbel⟩ := hO
          go_wp2_with fail
          exact bodyPost_ret (v := .tuple #[opV zeroOp, errV (ea 1)]) (by simp [results, Tryd.results36, go_sem, c0, c1, c2, c3, c4, c5, c6, c7]) rfl ⟨by rw [H.out]; rfl, hbel⟩
      · have H := Lib.hid (opOfW_num HJ5.out HXJ.out (num10_bad x (fun v hv _ _ _ => hno v hv)))
        clear hno hb2
        have HR := Lib.hid hS.res
        have g1 := ((hS.gd).errs 1 (by omega) (by omega) f1).var
        simp only [errG] at g1
        obtain ⟨⟨a0, a1, a2, a3, a4, a5, a6, a7⟩, fa, hlt, hbel⟩ := hS.res
        clear hS i0 i1
        go_wp2_with fail
        go_region_held3 (fun w' => w'.cell? ⟨2, 0, none⟩ = some (errV (ea 1))) (first | go_keep | ((repeat rw [World.cell?_setCell_other _ _ _ _ (by simp [ng, ng2])]); exact g1)) (fail)
        rename_i hH
        clear hH
        have hO := (HR.out.put zeroOp).below (Below.drew (Below.refl _ _))
        obtain ⟨W5, hW5⟩ : ∃ W5, W5 = (putOp w2 w.heap.size zeroOp).drew := ⟨_, rfl⟩
        rw [← hW5] at hO
        simp only [putOp, zeroOp] at hW5
        rw [← hW5]
        clear hW5 HR a0 a1 a2 a3 a4 a5 a6 a7 fa hlt ng ng2 g1 hbel
        obtain ⟨⟨c0, c1, c2, c3, c4, c5, c6, c7⟩, _, hlt, hbel⟩ := hO
        go_wp2_with fail
        exact bodyPost_ret (v := .tuple #[opV zeroOp, errV (ea 1)]) (by simp [results, Tryd.results36, go_sem, c0, c1, c2, c3, c4, c5, c6, c7]) rfl ⟨by rw [H.out]; rfl, hbel⟩
    · have hj5 : j = 5 := by omega
      subst hj5
      obtain ⟨x7, hx7⟩ : ∃ x, xs[7]? = some x := ⟨_, List.getElem?_eq_getElem (by have := HX.out; omega)⟩
      obtain ⟨x6, hx6⟩ : ∃ x, xs[6]? = some x := ⟨_, List.getElem?_eq_getElem (by have := HX.out; omega)⟩
      obtain ⟨c, hc⟩ : ∃ c, x = [c] := by
        have h1 := HK.out
        rw [wd_at HX0.out] at h1
        match x, h1 with
        | [c], _ => exact ⟨c, rfl⟩
      subst hc
      have t0 := HS.out.tx 0 _ HX0.out
      have t6 := HS.out.tx 6 _ hx6
      have t7 := HS.out.tx 7 _ hx7
      have j7 : (7 : Int) < (xs.length : Int) := by have := HX.out; omega
      have HX6 := Lib.hid hx6
      have hu7 := unhex_any (S x7) wr (by rw [S_size]; have := HM.out x7 (List.mem_of_getElem? hx7); omega)
      rw [S_list] at hu7
      have hvl : ∀ v, unhexL x7 = some v → v.length ≤ 100000 := fun v hv => by
        have h1 := hex_unhex x7 v hv
        have h2 := hexL_len v
        have h3 := HM.out x7 (List.mem_of_getElem? hx7)
        rw [h1] at h2
        omega
      cases hu : unhexL x7 with
      | none =>
        have H := Lib.hid (opOfW_hex (show unhexL (wd xs 7) = none by rw [wd_at hx7]; exact hu))
        unfold UnEnds at hu7
        rw [hu] at hu7
        have HU := Lib.hid hu7
        clear hu hu7 hx6 hx7 t0 t6 hvl
        go_wp2_with fail
        refine HU.out.mono ?_
        rintro e w2 ⟨rfl, hb2⟩
        have hS := HS.out.below hb2
        clear hb2 t7
        have HR := Lib.hid hS.res
        have g1 := ((hS.gd).errs 1 (by omega) (by omega) f1).var
        simp only [errG] at g1
        obtain ⟨⟨a0, a1, a2, a3, a4, a5, a6, a7⟩, fa, hlt, hbel⟩ := hS.res
        clear hS
        go_wp2_with fail
        go_region_held3 (fun w' => w'.cell? ⟨2, 0, none⟩ = some (errV (ea 1))) (first | go_keep | ((repeat rw [World.cell?_setCell_other _ _ _ _ (by simp [ng, ng2])]); exact g1)) (fail)
        rename_i hH
        clear hH
        have hO := (HR.out.put zeroOp).below (Below.drew (Below.refl _ _))
        obtain ⟨W5, hW5⟩ : ∃ W5, W5 = (putOp w2 w.heap.size zeroOp).drew := ⟨_, rfl⟩
        rw [← hW5] at hO
        simp only [putOp, zeroOp] at hW5
        rw [← hW5]
        clear hW5 HR a0 a1 a2 a3 a4 a5 a6 a7 fa hlt ng ng2 g1 hbel
        obtain ⟨⟨c0, c1, c2, c3, c4, c5, c6, c7⟩, _, hlt, hbel⟩ := hO
        go_wp2_with fail
        exact bodyPost_ret (v := .tuple #[opV zeroOp, errV (ea 1)]) (by simp [results, Tryd.results36, go_sem, c0, c1, c2, c3, c4, c5, c6, c7]) rfl ⟨by rw [H.out]; rfl, hbel⟩
      | some v =>
        have hval : opOfW xs = some ⟨f 0, f 1, f 2, c.toNat, f 3, f 4, S x6, S v⟩ := by
          unfold opOfW
          have hn : numsOk xs = true := (numsOk_iff xs).2 fun j hj => by
            obtain ⟨y, y1, y2, y3⟩ := HA.out j hj
            rw [wd_at (show xs[j + 1]? = some y by rw [Nat.add_comm]; exact y1), y3]
            exact y2
          have hg : ∀ j, j < 5 → Num.numOf (wd xs (j + 1)) 10 = f j := fun j hj => by
            obtain ⟨y, y1, y2, y3⟩ := HA.out j hj
            rw [wd_at (show xs[j + 1]? = some y by rw [Nat.add_comm]; exact y1), y3]
          rw [if_pos ⟨HX.out, HK.out, hn⟩, wd_at hx7, hu, wd_at HX0.out, wd_at hx6, hg 0 (by omega), hg 1 (by omega), hg 2 (by omega), hg 3 (by omega), hg 4 (by omega)]
          rfl
        have hwf : OpT.Wf ⟨f 0, f 1, f 2, c.toNat, f 3, f 4, S x6, S v⟩ := by
          have hb : ∀ i, i < 5 → 0 ≤ f i ∧ f i ≤ 9223372036854775807 := fun i hi => by
            obtain ⟨y, y1, y2, y3⟩ := HA.out i hi
            have h4 := (Num.numOf_spec y 10 (by omega) (f i)).2 ⟨y3, y2⟩
            have := atoi_range y (f i) h4.1
            omega
          have b0 := hb 0 (by omega)
          have b1 := hb 1 (by omega)
          have b2 := hb 2 (by omega)
          have b3 := hb 3 (by omega)
          have b4 := hb 4 (by omega)
          have hcb := c.toNat_lt
          refine ⟨?_, ?_, ?_, ?_, ?_, ?_, ?_, ?_, ?_, ?_, ?_, ?_, ?_, ?_⟩ <;> first | (show _ ≤ f _; omega) | (show f _ ≤ _; omega) | skip
          · show (0 : Int) ≤ (c.toNat : Int); omega
          · show (c.toNat : Int) ≤ 255; omega
          · rw [S_size]; exact HM.out x6 (List.mem_of_getElem? hx6)
          · rw [S_size]; exact hvl v hu
        have HVal := Lib.hid hval
        have HWf := Lib.hid hwf
        unfold UnEnds at hu7
        rw [hu] at hu7
        have HU := Lib.hid hu7
        clear hval hwf hu hu7 hx6 hx7 hvl
        go_wp2_with fail
        refine HU.out.mono ?_
        rintro e w2 ⟨rfl, hb2⟩
        have hS := HS.out.below hb2
        have HS2 := Lib.hid hS
        have t0 := hS.tx 0 _ HX0.out
        have t6 := hS.tx 6 _ (HX6.out)
        have q0 := hS.v 0 (by omega)
        have q1 := hS.v 1 (by omega)
        have q2 := hS.v 2 (by omega)
        have q3 := hS.v 3 (by omega)
        have q4 := hS.v 4 (by omega)
        clear hb2 t7 hS
        have hs0 : 0 < (S [c]).size := by rw [S_size]; exact Nat.one_pos
        have hs1 : (0 : Int) < ((S [c]).size : Int) := by rw [S_size]; exact Int.one_pos
        have j0 : (0 : Int) < (xs.length : Int) := by have := HX.out; omega
        have j6 : (6 : Int) < (xs.length : Int) := by have := HX.out; omega
        go_wp2_with fail
        go_region_held3 (fun w' => w'.cell? ⟨VB, 0, none⟩ = some (.int .i64 (f 0)) ∧ w'.cell? ⟨VB, 1, none⟩ = some (.int .i64 (f 1)) ∧ w'.cell? ⟨VB, 2, none⟩ = some (.int .i64 (f 2)) ∧ w'.cell? ⟨VB, 3, none⟩ = some (.int .i64 (f 3)) ∧ w'.cell? ⟨VB, 4, none⟩ = some (.int .i64 (f 4)) ∧ w'.cell? ⟨g, 0, none⟩ = some (.string (S [c])) ∧ w'.cell? ⟨g, 6, none⟩ = some (.string (S x6))) (first | go_keep) (fail)
        all_goals
          rename_i hH
          clear hH
          rw [show (S [c])[0]'hs0 = c from rfl]
          obtain ⟨W3, hW3⟩ : ∃ W3, W3 = (w2.alloc (.cells #[.int .i64 (f 0), .int .i64 (f 1), .int .i64 (f 2), .int .u8 c.toNat, .int .i64 (f 3), .int .i64 (f 4), .string (S x6), .string (S v)] 28)).drew := ⟨_, rfl⟩
          have hb3 : Below w2.heap.size w2 W3 := by rw [hW3]; exact ((Below.refl _ _).alloc (Nat.le_refl _) _).drew
          have hO3 : OpAt W3 w2.heap.size ⟨f 0, f 1, f 2, c.toNat, f 3, f 4, S x6, S v⟩ := by
            rw [hW3]
            exact (OpAt.start w2 ⟨f 0, f 1, f 2, c.toNat, f 3, f 4, S x6, S v⟩ _).below ((Below.refl _ _).drew)
          rw [← hW3]
          have hS3 := HS2.out.below hb3
          have HR3 := Lib.hid hS3.res
          have HO3 := Lib.hid hO3
          have hrl := hS3.res.lt
          have hrl2 := hO3.lt
          have hrl3 := HS2.out.res.lt
          have hne3 : w.heap.size ≠ w2.heap.size := by omega
          obtain ⟨OB, hOB⟩ : ∃ OB, OB = w2.heap.size := ⟨_, rfl⟩
          rw [← hOB] at HO3 hO3 hne3 hrl2 ⊢
          have hne4 := Ne.symm hne3
          have hck := fun w hG => check_any (F := F) ea ⟨f 0, f 1, f 2, c.toNat, f 3, f 4, S x6, S v⟩ w HWf.out hG f2 f3 f4 f5
          by_cases he : opErr ⟨f 0, f 1, f 2, c.toNat, f 3, f 4, S x6, S v⟩ = 0
          · have H := Lib.hid (show opRdW xs = (⟨f 0, f 1, f 2, c.toNat, f 3, f 4, S x6, S v⟩, 0) by
              unfold opRdW
              rw [HVal.out]
              simp [he])
            unfold errW at hck
            rw [he] at hck
            have HCk : Hid (∀ w, Gd F ea w → Calls Tryd.prog 37 #[.agg #[.int .i64 (f 0), .int .i64 (f 1), .int .i64 (f 2), .int .u8 c.toNat, .int .i64 (f 3), .int .i64 (f 4), .string (S x6), .string (S v)]] w fun e w' => e = .returned .nilIface ∧ Below w.heap.size w w') := hck
            have hG3 := hS3.gd
            clear hck he HVal hW3 hb3 hOB hS3 t0 t6 q0 q1 q2 q3 q4 j0 j6 j7 hs0 hs1 HS2 HU
            obtain ⟨c0, c1, c2, c3, c4, c5, c6, c7⟩ := hO3
            go_wp2_with fail
            refine (HCk.out _ hG3).mono ?_
            rintro e W4 ⟨rfl, hb4⟩
            have hO4 := HO3.out.below hb4
            have hR4 := HR3.out.below hb4
            have HR4 := Lib.hid hR4
            clear c0 c1 c2 c3 c4 c5 c6 c7 hG3 hb4
            obtain ⟨c0, c1, c2, c3, c4, c5, c6, c7⟩ := hO4
            obtain ⟨⟨a0, a1, a2, a3, a4, a5, a6, a7⟩, fa, hl4, hbel4⟩ := hR4
            go_wp2_with fail
            have hO := HR4.out.put ⟨f 0, f 1, f 2, c.toNat, f 3, f 4, S x6, S v⟩
            simp only [putOp] at hO
            exact bodyPost_ret (v := .tuple #[opV ⟨f 0, f 1, f 2, c.toNat, f 3, f 4, S x6, S v⟩, .nilIface]) (by simp [results, Tryd.results36, go_sem, hO.o.c0, hO.o.c1, hO.o.c2, hO.o.c3, hO.o.c4, hO.o.c5, hO.o.c6, hO.o.c7]) rfl ⟨by rw [H.out]; rfl, hO.bel⟩
          · have H := Lib.hid (show opRdW xs = (zeroOp, opErr ⟨f 0, f 1, f 2, c.toNat, f 3, f 4, S x6, S v⟩) by
              unfold opRdW
              rw [HVal.out]
              simp [he])
            have HE : Hid (errW ea (opErr ⟨f 0, f 1, f 2, c.toNat, f 3, f 4, S x6, S v⟩) = errV (ea (opErr ⟨f 0, f 1, f 2, c.toNat, f 3, f 4, S x6, S v⟩))) := by unfold errW; rw [if_neg he]; exact Lib.hid rfl
            rw [HE.out] at hck
            generalize opErr ⟨f 0, f 1, f 2, c.toNat, f 3, f 4, S x6, S v⟩ = k at hck H HE
            have HCk : Hid (∀ w, Gd F ea w → Calls Tryd.prog 37 #[.agg #[.int .i64 (f 0), .int .i64 (f 1), .int .i64 (f 2), .int .u8 c.toNat, .int .i64 (f 3), .int .i64 (f 4), .string (S x6), .string (S v)]] w fun e w' => e = .returned (errV (ea k)) ∧ Below w.heap.size w w') := hck
            have hG3 := hS3.gd
            clear hck he HVal hW3 hb3 hOB hS3 t0 t6 q0 q1 q2 q3 q4 j0 j6 j7 hs0 hs1 HS2 HU
            obtain ⟨c0, c1, c2, c3, c4, c5, c6, c7⟩ := hO3
            go_wp2_with fail
            refine (HCk.out _ hG3).mono ?_
            rintro e W4 ⟨rfl, hb4⟩
            have hR4 := HR3.out.below hb4
            have HR4 := Lib.hid hR4
            clear c0 c1 c2 c3 c4 c5 c6 c7 hG3 hb4
            obtain ⟨⟨a0, a1, a2, a3, a4, a5, a6, a7⟩, fa, hl4, hbel4⟩ := hR4
            go_wp2_with fail
            have hO := HR4.out.put zeroOp
            simp only [putOp, zeroOp] at hO
            exact bodyPost_ret (v := .tuple #[opV zeroOp, errV (ea k)]) (by simp [zeroOp, results, Tryd.results36, go_sem, hO.o.c0, hO.o.c1, hO.o.c2, hO.o.c3, hO.o.c4, hO.o.c5, hO.o.c6, hO.o.c7]) rfl ⟨by rw [H.out]; show _ = Ending.returned (.tuple #[opV zeroOp, errW ea k]); rw [HE.out], hO.bel⟩
theorem opRead_any {F : Nat → Bool} (ea : Nat → Addr) (s : ByteArray) (w : World) (hG : Gd F ea w) (f1 : F 1 = true) (f2 : F 2 = true) (f3 : F 3 = true) (f4 : F 4 = true) (f5 : F 5 = true) (f21 : F 21 = true) (f22 : F 22 = true) (hs : s.size ≤ 100000) :
    Calls Tryd.prog 36 #[.string s] w (RdOp ea (Num.cutL 124 s.data.toList) w) := by
  have hcut : ∀ w, Gd F ea w → Calls Tryd.prog 66 #[.string s, .string ⟨#[124]⟩] w (GivesTexts (Num.cutL 124 s.data.toList) w) := fun w hG => split_gives ea s ⟨#[124]⟩ 124 w hG f22 rfl hs
  have hl := cutL_len 124 s.data.toList
  have hm := cutL_mem 124 s.data.toList
  have hsz : s.data.toList.length = s.size := rfl
  by_cases h8 : (Num.cutL 124 s.data.toList).length = 8
  · by_cases hk : (wd (Num.cutL 124 s.data.toList) 0).length = 1
    · exact opRead_eight ea s _ w hG f1 f2 f3 f4 f5 f21 f22 h8 hk (fun x hx => by have := hm x hx; omega) hcut
    · exact opRead_kind ea s _ w hG f1 h8 hk hcut
  · exact opRead_short ea s _ w hG f1 h8 (by omega) hcut
end Go.Proofs.YtneggbhjekklhaaDoor
