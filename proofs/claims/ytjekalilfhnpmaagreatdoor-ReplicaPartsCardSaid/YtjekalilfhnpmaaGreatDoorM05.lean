/- Operations: when is one right? By the document, by the program. Operations: when are two the same. -/
import Derived.Test.YtjekalilfhnpmaaGreatDoorM01
import Derived.Test.YtjekalilfhnpmaaGreatDoorM02
namespace Go.Proofs.YtjekalilfhnpmaaGreatDoor
open Go Go.RowKit
set_option linter.unusedVariables false
set_option linter.unusedSimpArgs false
set_option maxHeartbeats 4000000
set_option maxRecDepth 100000
/-- an operation -/
structure OpT where
  t : Int
  b : Int
  n : Int
  k : Int
  nd : Int
  ot : Int
  nm : ByteArray
  vl : ByteArray
/-- its numbers are such as Go's types hold; its texts are not too long -/
structure OpT.Wf (o : OpT) : Prop where
  t1 : -9223372036854775808 ≤ o.t
  t2 : o.t ≤ 9223372036854775807
  b1 : -9223372036854775808 ≤ o.b
  b2 : o.b ≤ 9223372036854775807
  n1 : -9223372036854775808 ≤ o.n
  n2 : o.n ≤ 9223372036854775807
  k1 : 0 ≤ o.k
  k2 : o.k ≤ 255
  nd1 : -9223372036854775808 ≤ o.nd
  nd2 : o.nd ≤ 9223372036854775807
  ot1 : -9223372036854775808 ≤ o.ot
  ot2 : o.ot ≤ 9223372036854775807
  nm1 : o.nm.size ≤ 100000
  vl1 : o.vl.size ≤ 100000
abbrev OpT.cells (o : OpT) : Array Value := #[.int .i64 o.t, .int .i64 o.b, .int .i64 o.n, .int .u8 o.k, .int .i64 o.nd, .int .i64 o.ot, .string o.nm, .string o.vl]
abbrev opV (o : OpT) : Value := .agg o.cells
def OpT.id (o : OpT) : Int := o.t * 4 + o.b
def numB (k nd ot id : Int) : Bool := decide (0 ≤ nd ∧ nd ≤ id ∧ (nd = id → k = 109) ∧
  (k = 109 → nd ≠ 0 ∧ nd ≠ 1 ∧ 0 ≤ ot ∧ ot < id) ∧ (k = 105 → 0 ≤ ot ∧ ot < id) ∧ (k = 100 → 0 < ot ∧ ot < id) ∧ (k ≠ 109 ∧ k ≠ 105 ∧ k ≠ 100 → ot = 0))
def nmB (o : OpT) : Bool := if o.k = 109 ∨ o.k = 115 then isNmB o.nm.data.toList else decide (o.nm.size = 0)
def vlB (k : Int) (vl : ByteArray) : Bool := if k = 105 then decide (vl.size = 1) && isSnB vl.data.toList else if k = 115 then decide (vl.size ≤ 12) && isSnB vl.data.toList else decide (vl.size = 0)
instance (t b : Int) : Decidable (StampOk t b) := by unfold StampOk; infer_instance
/-- an operation's error by the document (0: none) -/
def opErr (o : OpT) : Nat :=
  if ¬ StampOk o.t o.b ∨ o.n < 1 ∨ 400 < o.n then 2
  else if ¬ (o.k = 109 ∨ o.k = 105 ∨ o.k = 100 ∨ o.k = 115) then 5
  else if numB o.k o.nd o.ot o.id = false then 3
  else if nmB o = false then 4
  else if vlB o.k o.vl = false then 3
  else 0
theorem isEmpty_of {s : ByteArray} (h : s.size = 0) : s.toList.isEmpty = true := by
  rw [ByteArray.toList_eq, List.isEmpty_iff]
  exact List.eq_nil_of_length_eq_zero h
theorem isEmpty_not {s : ByteArray} (h : s.size ≠ 0) : s.toList.isEmpty = false := by
  rw [ByteArray.toList_eq]
  cases hl : s.data.toList with
  | nil => exact absurd (by have : s.data.toList.length = s.size := rfl; rw [hl] at this; exact this.symm) h
  | cons _ _ => rfl
theorem value_any (x : Bool) (o : OpT) (w : World) (hs : o.vl.size ≤ 100000) (hx : vlB o.k o.vl = x) :
    Calls Tryz.prog 155 #[opV o] w fun e w' => e = .returned (.bool x) ∧ Below w.heap.size w w' := by
  by_cases h1 : o.k = 105
  · by_cases h2 : o.vl.size = 1
    · have HC : Hid (∀ w, Calls Tryz.prog 195 #[.string o.vl, .int .i64 1] w fun e w' => e = .returned (.bool x) ∧ Below w.heap.size w w') := fun w =>
        opSeen_any x o.vl 1 w hs (by omega) (by rw [← hx]; unfold vlB; rw [if_pos h1]; simp [h2])
      obtain ⟨t, b, n, k, nd, ot, nm, vl⟩ := o
      simp only at h1 h2 hs HC
      subst h1
      clear hx
      have h3 : ((vl.size : Int) == 1) = true := by simp; omega
      go_enter Tryz.func155, Tryz.ntmps155
      go_wp2_with fail
      refine (HC.out _).mono ?_
      rintro e w' ⟨rfl, hb⟩
      go_wp2_with fail
      go_ret
      exact ⟨rfl, ((Below.refl _ _).alloc (Nat.le_refl _) _).trans (hb.mono (by simp))⟩
    · have hxf : x = false := by rw [← hx]; unfold vlB; rw [if_pos h1]; simp [h2]
      obtain ⟨t, b, n, k, nd, ot, nm, vl⟩ := o
      simp only at h1 h2 hs
      subst h1 hxf
      clear hx
      have h3 : ((vl.size : Int) == 1) = false := by simp; omega
      go_enter Tryz.func155, Tryz.ntmps155
      go_wp2_with fail
      go_ret
      exact ⟨rfl, (Below.refl _ _).alloc (Nat.le_refl _) _⟩
  by_cases h4 : o.k = 115
  · have HC : Hid (∀ w, Calls Tryz.prog 195 #[.string o.vl, .int .i64 12] w fun e w' => e = .returned (.bool x) ∧ Below w.heap.size w w') := fun w =>
      opSeen_any x o.vl 12 w hs (by omega) (by rw [← hx]; unfold vlB; rw [if_neg h1, if_pos h4])
    obtain ⟨t, b, n, k, nd, ot, nm, vl⟩ := o
    simp only at h1 h4 hs HC
    subst h4
    clear hx
    go_enter Tryz.func155, Tryz.ntmps155
    go_wp2_with fail
    refine (HC.out _).mono ?_
    rintro e w' ⟨rfl, hb⟩
    go_wp2_with fail
    go_ret
    exact ⟨rfl, ((Below.refl _ _).alloc (Nat.le_refl _) _).trans (hb.mono (by simp))⟩
  · have hxe : o.vl.toList.isEmpty = x := by
      rw [← hx]
      unfold vlB
      rw [if_neg h1, if_neg h4]
      by_cases h0 : o.vl.size = 0
      · rw [isEmpty_of h0, decide_eq_true h0]
      · rw [isEmpty_not h0, decide_eq_false h0]
    obtain ⟨t, b, n, k, nd, ot, nm, vl⟩ := o
    simp only at h1 h4 hs hxe
    clear hx
    have e1 : (k == 105) = false := by simp [h1]
    have e2 : (k == 115) = false := by simp [h4]
    clear h1 h4
    go_enter Tryz.func155, Tryz.ntmps155
    go_wp2_with fail
    go_ret
    exact ⟨by simp [hxe], (Below.refl _ _).alloc (Nat.le_refl _) _⟩
theorem numbers_any (o : OpT) (id : Int) (w : World) :
    Calls Tryz.prog 153 #[opV o, .int .i64 id] w fun e w' => e = .returned (.bool (numB o.k o.nd o.ot id)) ∧ Below w.heap.size w w' := by
  obtain ⟨t, b, n, k, nd, ot, nm, vl⟩ := o
  show Calls Tryz.prog 153 #[.agg #[.int .i64 t, .int .i64 b, .int .i64 n, .int .u8 k, .int .i64 nd, .int .i64 ot, .string nm, .string vl], .int .i64 id] w fun e w' => e = .returned (.bool (numB k nd ot id)) ∧ Below w.heap.size w w'
  have H : Hid (numB k nd ot id = decide (0 ≤ nd ∧ nd ≤ id ∧ (nd = id → k = 109) ∧
    (k = 109 → nd ≠ 0 ∧ nd ≠ 1 ∧ 0 ≤ ot ∧ ot < id) ∧ (k = 105 → 0 ≤ ot ∧ ot < id) ∧ (k = 100 → 0 < ot ∧ ot < id) ∧ (k ≠ 109 ∧ k ≠ 105 ∧ k ≠ 100 → ot = 0))) := rfl
  generalize numB k nd ot id = x at H ⊢
  go_enter Tryz.func153, Tryz.ntmps153
  go_wp2_with fail
  all_goals
    go_ret
    refine ⟨ret_bool ?_, (Below.refl _ _).alloc (Nat.le_refl _) _⟩
    rw [H.out, Bool.eq_iff_iff]
    clear H
    (try simp at *)
    (try omega)
/-- an operation in a block of its own -/
structure OpAt (w : World) (B : Nat) (o : OpT) : Prop where
  c0 : w.cell? ⟨B, 0, none⟩ = some (.int .i64 o.t)
  c1 : w.cell? ⟨B, 1, none⟩ = some (.int .i64 o.b)
  c2 : w.cell? ⟨B, 2, none⟩ = some (.int .i64 o.n)
  c3 : w.cell? ⟨B, 3, none⟩ = some (.int .u8 o.k)
  c4 : w.cell? ⟨B, 4, none⟩ = some (.int .i64 o.nd)
  c5 : w.cell? ⟨B, 5, none⟩ = some (.int .i64 o.ot)
  c6 : w.cell? ⟨B, 6, none⟩ = some (.string o.nm)
  c7 : w.cell? ⟨B, 7, none⟩ = some (.string o.vl)
theorem OpAt.lt {w : World} {B : Nat} {o : OpT} (h : OpAt w B o) : B < w.heap.size := World.block_lt_of_cell? w _ h.c0
theorem OpAt.below {w w' : World} {B : Nat} {o : OpT} (h : OpAt w B o) (hb : Below w.heap.size w w') : OpAt w' B o :=
  have hl := h.lt
  ⟨(hb.cell hl).trans h.c0, (hb.cell hl).trans h.c1, (hb.cell hl).trans h.c2, (hb.cell hl).trans h.c3, (hb.cell hl).trans h.c4, (hb.cell hl).trans h.c5, (hb.cell hl).trans h.c6, (hb.cell hl).trans h.c7⟩
theorem OpAt.start (w : World) (o : OpT) (t : TypeId) : OpAt (w.alloc (.cells o.cells t)) w.heap.size o := by
  refine ⟨?_, ?_, ?_, ?_, ?_, ?_, ?_, ?_⟩ <;> simp [go_sem, OpT.cells]
/-- an error by its number (0: none) -/
def errW (a : Nat → Addr) (k : Nat) : Value := if k = 0 then .nilIface else errV (a k)
def kindIx : Nat → Int | 109 => 0 | 105 => 1 | 100 => 2 | 115 => 3 | _ => -1
theorem kindIx_is : ∀ n, n < 256 → Lib.indexByte [109, 105, 100, 115] n.toUInt8 = kindIx n := by decide +kernel
theorem kind_at (k : Int) (w : World) (h1 : 0 ≤ k) (h2 : k ≤ 255) :
    Calls Tryz.prog 152 #[.string ⟨#[109, 105, 100, 115]⟩, .int .u8 k] w fun e w' => e = .returned (.int .i64 (kindIx k.toNat)) ∧ w' = w := by
  rw [← kindIx_is k.toNat (by omega)]
  exact Tryz.strings_IndexByte ⟨#[109, 105, 100, 115]⟩ k w
theorem kindIx_no {n : Nat} (h : ¬ (n = 109 ∨ n = 105 ∨ n = 100 ∨ n = 115)) : kindIx n = -1 := by
  unfold kindIx
  split <;> first | omega | rfl
theorem decide_lt {n : Int} (h : ¬ (n < 1 ∨ 400 < n)) : decide (n < 1) = false ∧ decide (400 < n) = false := by
  constructor <;> (rw [decide_eq_false_iff_not]; omega)
theorem check_rest {F : Nat → Bool} (ea : Nat → Addr) (o : OpT) (w : World) (rN rM rV : Bool) (hw : o.Wf) (hG : Gd F ea w) (f3 : F 3 = true) (f4 : F 4 = true)
    (h1 : StampOk o.t o.b) (hn : ¬ (o.n < 1 ∨ 400 < o.n)) (hk : o.k = 109 ∨ o.k = 105 ∨ o.k = 100 ∨ o.k = 115)
    (eN : numB o.k o.nd o.ot o.id = rN) (eM : nmB o = rM) (eV : vlB o.k o.vl = rV) :
    Calls Tryz.prog 107 #[opV o] w fun e w' => e = .returned (errW ea (if rN = false then 3 else if rM = false then 4 else if rV = false then 3 else 0)) ∧ Below w.heap.size w w' := by
  have hvl := hw.vl1
  have hnm := hw.nm1
  have hG1 : Gd F ea (w.alloc (.cells o.cells 31)) := hG.alloc _
  have hO1 : OpAt (w.alloc (.cells o.cells 31)) w.heap.size o := OpAt.start w o _
  have HG := Lib.hid hG1
  have HO := Lib.hid hO1
  have HC : Hid (Calls Tryz.prog 151 #[stampV o.t o.b] (w.alloc (.cells o.cells 31)) fun e w' => e = .returned (.tuple #[.int .i64 o.id, .nilIface]) ∧ Below (w.alloc (.cells o.cells 31)).heap.size (w.alloc (.cells o.cells 31)) w') := Lib.hid (id_ok _ _ _ h1)
  have HNum : Hid (∀ w, Calls Tryz.prog 153 #[opV o, .int .i64 o.id] w fun e w' => e = .returned (.bool rN) ∧ Below w.heap.size w w') := Lib.hid fun w => by rw [← eN]; exact numbers_any o o.id w
  have HVal : Hid (∀ w, Calls Tryz.prog 155 #[opV o] w fun e w' => e = .returned (.bool rV) ∧ Below w.heap.size w w') := Lib.hid fun w => value_any rV o w hvl eV
  have HNam : Hid ((o.k = 109 ∨ o.k = 115) → ∀ w, Calls Tryz.prog 154 #[.string o.nm] w fun e w' => e = .returned (.bool rM) ∧ Below w.heap.size w w') := Lib.hid fun h w => opName_any rM o.nm w hnm (by rw [← eM]; unfold nmB; rw [if_pos h])
  have HEmp : ¬ (o.k = 109 ∨ o.k = 115) → o.nm.toList.isEmpty = rM := fun h => by
    rw [← eM]
    unfold nmB
    rw [if_neg h]
    by_cases h0 : o.nm.size = 0
    · rw [isEmpty_of h0, decide_eq_true h0]
    · rw [isEmpty_not h0, decide_eq_false h0]
  have n1 := (decide_lt hn).1
  have n2 := (decide_lt hn).2
  generalize o.id = id at HC HNum
  clear hw hG hG1 hO1 h1 hn eN eM eV hvl hnm
  obtain ⟨t, b, n, k, nd, ot, nm, vl⟩ := o
  simp only at n1 n2 hk HEmp
  rcases hk with rfl | rfl | rfl | rfl
  · have HK : Hid (∀ w, Calls Tryz.prog 152 #[.string ⟨#[109, 105, 100, 115]⟩, .int .u8 109] w fun e w' => e = .returned (.int .i64 0) ∧ w' = w) := Lib.hid (fun w => kind_at 109 w (by omega) (by omega))
    have HNa := Lib.hid (HNam.out (.inl rfl))
    clear HNam HEmp
    cases rN
    · go_enter Tryz.func107, Tryz.ntmps107
      go_wp2_with fail
      refine HC.out.mono ?_
      rintro e w1 ⟨rfl, hb⟩
      have HB := Lib.hid (((Below.refl _ w).alloc (Nat.le_refl _) _).trans (hb.mono (by simp)))
      have HG1 := Lib.hid (HG.out.below hb)
      have hO := HO.out.below hb
      have HO1 := Lib.hid hO
      clear HG HO HC hb
      obtain ⟨c0, c1, c2, c3, c4, c5, c6, c7⟩ := hO
      go_wp2_with fail
      refine (HK.out _).mono ?_
      rintro e w2 ⟨rfl, rfl⟩
      go_wp2_with fail
      refine (HNum.out _).mono ?_
      rintro e w3 ⟨rfl, hb3⟩
      have HB := Lib.hid (HB.out.trans (hb3.mono HB.out.size))
      have HG1 := Lib.hid (HG1.out.below hb3)
      have hO := HO1.out.below hb3
      clear hb3 c0 c1 c2 c3 c4 c5 c6 c7
      have HO1 := Lib.hid hO
      obtain ⟨c0, c1, c2, c3, c4, c5, c6, c7⟩ := hO
      have gv := (HG1.out.errs 3 (by omega) (by omega) f3).var
      simp only [errG] at gv
      go_wp2_with fail
      go_ret
      exact ⟨rfl, HB.out⟩
    cases rM
    · go_enter Tryz.func107, Tryz.ntmps107
      go_wp2_with fail
      refine HC.out.mono ?_
      rintro e w1 ⟨rfl, hb⟩
      have HB := Lib.hid (((Below.refl _ w).alloc (Nat.le_refl _) _).trans (hb.mono (by simp)))
      have HG1 := Lib.hid (HG.out.below hb)
      have hO := HO.out.below hb
      have HO1 := Lib.hid hO
      clear HG HO HC hb
      obtain ⟨c0, c1, c2, c3, c4, c5, c6, c7⟩ := hO
      go_wp2_with fail
      refine (HK.out _).mono ?_
      rintro e w2 ⟨rfl, rfl⟩
      go_wp2_with fail
      refine (HNum.out _).mono ?_
      rintro e w3 ⟨rfl, hb3⟩
      have HB := Lib.hid (HB.out.trans (hb3.mono HB.out.size))
      have HG1 := Lib.hid (HG1.out.below hb3)
      have hO := HO1.out.below hb3
      clear hb3 c0 c1 c2 c3 c4 c5 c6 c7
      have HO1 := Lib.hid hO
      obtain ⟨c0, c1, c2, c3, c4, c5, c6, c7⟩ := hO
      have gv := (HG1.out.errs 4 (by omega) (by omega) f4).var
      simp only [errG] at gv
      go_wp2_with fail
      refine (HNa.out _).mono ?_
      rintro e w4 ⟨rfl, hb4⟩
      have HB := Lib.hid (HB.out.trans (hb4.mono HB.out.size))
      have HG1 := Lib.hid (HG1.out.below hb4)
      have hO := HO1.out.below hb4
      clear hb4 c0 c1 c2 c3 c4 c5 c6 c7
      have HO1 := Lib.hid hO
      obtain ⟨c0, c1, c2, c3, c4, c5, c6, c7⟩ := hO
      have gv := (HG1.out.errs 4 (by omega) (by omega) f4).var
      simp only [errG] at gv
      go_wp2_with fail
      go_ret
      exact ⟨rfl, HB.out⟩
    cases rV
    · go_enter Tryz.func107, Tryz.ntmps107
      go_wp2_with fail
      refine HC.out.mono ?_
      rintro e w1 ⟨rfl, hb⟩
      have HB := Lib.hid (((Below.refl _ w).alloc (Nat.le_refl _) _).trans (hb.mono (by simp)))
      have HG1 := Lib.hid (HG.out.below hb)
      have hO := HO.out.below hb
      have HO1 := Lib.hid hO
      clear HG HO HC hb
      obtain ⟨c0, c1, c2, c3, c4, c5, c6, c7⟩ := hO
      go_wp2_with fail
      refine (HK.out _).mono ?_
      rintro e w2 ⟨rfl, rfl⟩
      go_wp2_with fail
      refine (HNum.out _).mono ?_
      rintro e w3 ⟨rfl, hb3⟩
      have HB := Lib.hid (HB.out.trans (hb3.mono HB.out.size))
      have HG1 := Lib.hid (HG1.out.below hb3)
      have hO := HO1.out.below hb3
      clear hb3 c0 c1 c2 c3 c4 c5 c6 c7
      have HO1 := Lib.hid hO
      obtain ⟨c0, c1, c2, c3, c4, c5, c6, c7⟩ := hO
      go_wp2_with fail
      refine (HNa.out _).mono ?_
      rintro e w4 ⟨rfl, hb4⟩
      have HB := Lib.hid (HB.out.trans (hb4.mono HB.out.size))
      have HG1 := Lib.hid (HG1.out.below hb4)
      have hO := HO1.out.below hb4
      clear hb4 c0 c1 c2 c3 c4 c5 c6 c7
      have HO1 := Lib.hid hO
      obtain ⟨c0, c1, c2, c3, c4, c5, c6, c7⟩ := hO
      go_wp2_with fail
      refine (HVal.out _).mono ?_
      rintro e w5 ⟨rfl, hb5⟩
      have HB := Lib.hid (HB.out.trans (hb5.mono HB.out.size))
      have HG1 := Lib.hid (HG1.out.below hb5)
      have hO := HO1.out.below hb5
      clear hb5 c0 c1 c2 c3 c4 c5 c6 c7
      have HO1 := Lib.hid hO
      obtain ⟨c0, c1, c2, c3, c4, c5, c6, c7⟩ := hO
      have gv := (HG1.out.errs 3 (by omega) (by omega) f3).var
      simp only [errG] at gv
      go_wp2_with fail
      go_ret
      exact ⟨rfl, HB.out⟩
    · go_enter Tryz.func107, Tryz.ntmps107
      go_wp2_with fail
      refine HC.out.mono ?_
      rintro e w1 ⟨rfl, hb⟩
      have HB := Lib.hid (((Below.refl _ w).alloc (Nat.le_refl _) _).trans (hb.mono (by simp)))
      have HG1 := Lib.hid (HG.out.below hb)
      have hO := HO.out.below hb
      have HO1 := Lib.hid hO
      clear HG HO HC hb
      obtain ⟨c0, c1, c2, c3, c4, c5, c6, c7⟩ := hO
      go_wp2_with fail
      refine (HK.out _).mono ?_
      rintro e w2 ⟨rfl, rfl⟩
      go_wp2_with fail
      refine (HNum.out _).mono ?_
      rintro e w3 ⟨rfl, hb3⟩
      have HB := Lib.hid (HB.out.trans (hb3.mono HB.out.size))
      have HG1 := Lib.hid (HG1.out.below hb3)
      have hO := HO1.out.below hb3
      clear hb3 c0 c1 c2 c3 c4 c5 c6 c7
      have HO1 := Lib.hid hO
      obtain ⟨c0, c1, c2, c3, c4, c5, c6, c7⟩ := hO
      go_wp2_with fail
      refine (HNa.out _).mono ?_
      rintro e w4 ⟨rfl, hb4⟩
      have HB := Lib.hid (HB.out.trans (hb4.mono HB.out.size))
      have HG1 := Lib.hid (HG1.out.below hb4)
      have hO := HO1.out.below hb4
      clear hb4 c0 c1 c2 c3 c4 c5 c6 c7
      have HO1 := Lib.hid hO
      obtain ⟨c0, c1, c2, c3, c4, c5, c6, c7⟩ := hO
      go_wp2_with fail
      refine (HVal.out _).mono ?_
      rintro e w5 ⟨rfl, hb5⟩
      have HB := Lib.hid (HB.out.trans (hb5.mono HB.out.size))
      have HG1 := Lib.hid (HG1.out.below hb5)
      have hO := HO1.out.below hb5
      clear hb5 c0 c1 c2 c3 c4 c5 c6 c7
      have HO1 := Lib.hid hO
      obtain ⟨c0, c1, c2, c3, c4, c5, c6, c7⟩ := hO
      go_wp2_with fail
      go_ret
      exact ⟨rfl, HB.out⟩
  · have HK : Hid (∀ w, Calls Tryz.prog 152 #[.string ⟨#[109, 105, 100, 115]⟩, .int .u8 105] w fun e w' => e = .returned (.int .i64 1) ∧ w' = w) := Lib.hid (fun w => kind_at 105 w (by omega) (by omega))
    have hE := HEmp (by omega)
    clear HNam HEmp
    cases rN
    · go_enter Tryz.func107, Tryz.ntmps107
      go_wp2_with fail
      refine HC.out.mono ?_
      rintro e w1 ⟨rfl, hb⟩
      have HB := Lib.hid (((Below.refl _ w).alloc (Nat.le_refl _) _).trans (hb.mono (by simp)))
      have HG1 := Lib.hid (HG.out.below hb)
      have hO := HO.out.below hb
      have HO1 := Lib.hid hO
      clear HG HO HC hb
      obtain ⟨c0, c1, c2, c3, c4, c5, c6, c7⟩ := hO
      go_wp2_with fail
      refine (HK.out _).mono ?_
      rintro e w2 ⟨rfl, rfl⟩
      go_wp2_with fail
      refine (HNum.out _).mono ?_
      rintro e w3 ⟨rfl, hb3⟩
      have HB := Lib.hid (HB.out.trans (hb3.mono HB.out.size))
      have HG1 := Lib.hid (HG1.out.below hb3)
      have hO := HO1.out.below hb3
      clear hb3 c0 c1 c2 c3 c4 c5 c6 c7
      have HO1 := Lib.hid hO
      obtain ⟨c0, c1, c2, c3, c4, c5, c6, c7⟩ := hO
      have gv := (HG1.out.errs 3 (by omega) (by omega) f3).var
      simp only [errG] at gv
      go_wp2_with fail
      go_ret
      exact ⟨rfl, HB.out⟩
    cases rM
    · go_enter Tryz.func107, Tryz.ntmps107
      go_wp2_with fail
      refine HC.out.mono ?_
      rintro e w1 ⟨rfl, hb⟩
      have HB := Lib.hid (((Below.refl _ w).alloc (Nat.le_refl _) _).trans (hb.mono (by simp)))
      have HG1 := Lib.hid (HG.out.below hb)
      have hO := HO.out.below hb
      have HO1 := Lib.hid hO
      clear HG HO HC hb
      obtain ⟨c0, c1, c2, c3, c4, c5, c6, c7⟩ := hO
      go_wp2_with fail
      refine (HK.out _).mono ?_
      rintro e w2 ⟨rfl, rfl⟩
      go_wp2_with fail
      refine (HNum.out _).mono ?_
      rintro e w3 ⟨rfl, hb3⟩
      have HB := Lib.hid (HB.out.trans (hb3.mono HB.out.size))
      have HG1 := Lib.hid (HG1.out.below hb3)
      have hO := HO1.out.below hb3
      clear hb3 c0 c1 c2 c3 c4 c5 c6 c7
      have HO1 := Lib.hid hO
      obtain ⟨c0, c1, c2, c3, c4, c5, c6, c7⟩ := hO
      have gv := (HG1.out.errs 4 (by omega) (by omega) f4).var
      simp only [errG] at gv
      go_wp2_with fail
      go_ret
      exact ⟨rfl, HB.out⟩
    cases rV
    · go_enter Tryz.func107, Tryz.ntmps107
      go_wp2_with fail
      refine HC.out.mono ?_
      rintro e w1 ⟨rfl, hb⟩
      have HB := Lib.hid (((Below.refl _ w).alloc (Nat.le_refl _) _).trans (hb.mono (by simp)))
      have HG1 := Lib.hid (HG.out.below hb)
      have hO := HO.out.below hb
      have HO1 := Lib.hid hO
      clear HG HO HC hb
      obtain ⟨c0, c1, c2, c3, c4, c5, c6, c7⟩ := hO
      go_wp2_with fail
      refine (HK.out _).mono ?_
      rintro e w2 ⟨rfl, rfl⟩
      go_wp2_with fail
      refine (HNum.out _).mono ?_
      rintro e w3 ⟨rfl, hb3⟩
      have HB := Lib.hid (HB.out.trans (hb3.mono HB.out.size))
      have HG1 := Lib.hid (HG1.out.below hb3)
      have hO := HO1.out.below hb3
      clear hb3 c0 c1 c2 c3 c4 c5 c6 c7
      have HO1 := Lib.hid hO
      obtain ⟨c0, c1, c2, c3, c4, c5, c6, c7⟩ := hO
      go_wp2_with fail
      refine (HVal.out _).mono ?_
      rintro e w5 ⟨rfl, hb5⟩
      have HB := Lib.hid (HB.out.trans (hb5.mono HB.out.size))
      have HG1 := Lib.hid (HG1.out.below hb5)
      have hO := HO1.out.below hb5
      clear hb5 c0 c1 c2 c3 c4 c5 c6 c7
      have HO1 := Lib.hid hO
      obtain ⟨c0, c1, c2, c3, c4, c5, c6, c7⟩ := hO
      have gv := (HG1.out.errs 3 (by omega) (by omega) f3).var
      simp only [errG] at gv
      go_wp2_with fail
      go_ret
      exact ⟨rfl, HB.out⟩
    · go_enter Tryz.func107, Tryz.ntmps107
      go_wp2_with fail
      refine HC.out.mono ?_
      rintro e w1 ⟨rfl, hb⟩
      have HB := Lib.hid (((Below.refl _ w).alloc (Nat.le_refl _) _).trans (hb.mono (by simp)))
      have HG1 := Lib.hid (HG.out.below hb)
      have hO := HO.out.below hb
      have HO1 := Lib.hid hO
      clear HG HO HC hb
      obtain ⟨c0, c1, c2, c3, c4, c5, c6, c7⟩ := hO
      go_wp2_with fail
      refine (HK.out _).mono ?_
      rintro e w2 ⟨rfl, rfl⟩
      go_wp2_with fail
      refine (HNum.out _).mono ?_
      rintro e w3 ⟨rfl, hb3⟩
      have HB := Lib.hid (HB.out.trans (hb3.mono HB.out.size))
      have HG1 := Lib.hid (HG1.out.below hb3)
      have hO := HO1.out.below hb3
      clear hb3 c0 c1 c2 c3 c4 c5 c6 c7
      have HO1 := Lib.hid hO
      obtain ⟨c0, c1, c2, c3, c4, c5, c6, c7⟩ := hO
      go_wp2_with fail
      refine (HVal.out _).mono ?_
      rintro e w5 ⟨rfl, hb5⟩
      have HB := Lib.hid (HB.out.trans (hb5.mono HB.out.size))
      have HG1 := Lib.hid (HG1.out.below hb5)
      have hO := HO1.out.below hb5
      clear hb5 c0 c1 c2 c3 c4 c5 c6 c7
      have HO1 := Lib.hid hO
      obtain ⟨c0, c1, c2, c3, c4, c5, c6, c7⟩ := hO
      go_wp2_with fail
      go_ret
      exact ⟨rfl, HB.out⟩
  · have HK : Hid (∀ w, Calls Tryz.prog 152 #[.string ⟨#[109, 105, 100, 115]⟩, .int .u8 100] w fun e w' => e = .returned (.int .i64 2) ∧ w' = w) := Lib.hid (fun w => kind_at 100 w (by omega) (by omega))
    have hE := HEmp (by omega)
    clear HNam HEmp
    cases rN
    · go_enter Tryz.func107, Tryz.ntmps107
      go_wp2_with fail
      refine HC.out.mono ?_
      rintro e w1 ⟨rfl, hb⟩
      have HB := Lib.hid (((Below.refl _ w).alloc (Nat.le_refl _) _).trans (hb.mono (by simp)))
      have HG1 := Lib.hid (HG.out.below hb)
      have hO := HO.out.below hb
      have HO1 := Lib.hid hO
      clear HG HO HC hb
      obtain ⟨c0, c1, c2, c3, c4, c5, c6, c7⟩ := hO
      go_wp2_with fail
      refine (HK.out _).mono ?_
      rintro e w2 ⟨rfl, rfl⟩
      go_wp2_with fail
      refine (HNum.out _).mono ?_
      rintro e w3 ⟨rfl, hb3⟩
      have HB := Lib.hid (HB.out.trans (hb3.mono HB.out.size))
      have HG1 := Lib.hid (HG1.out.below hb3)
      have hO := HO1.out.below hb3
      clear hb3 c0 c1 c2 c3 c4 c5 c6 c7
      have HO1 := Lib.hid hO
      obtain ⟨c0, c1, c2, c3, c4, c5, c6, c7⟩ := hO
      have gv := (HG1.out.errs 3 (by omega) (by omega) f3).var
      simp only [errG] at gv
      go_wp2_with fail
      go_ret
      exact ⟨rfl, HB.out⟩
    cases rM
    · go_enter Tryz.func107, Tryz.ntmps107
      go_wp2_with fail
      refine HC.out.mono ?_
      rintro e w1 ⟨rfl, hb⟩
      have HB := Lib.hid (((Below.refl _ w).alloc (Nat.le_refl _) _).trans (hb.mono (by simp)))
      have HG1 := Lib.hid (HG.out.below hb)
      have hO := HO.out.below hb
      have HO1 := Lib.hid hO
      clear HG HO HC hb
      obtain ⟨c0, c1, c2, c3, c4, c5, c6, c7⟩ := hO
      go_wp2_with fail
      refine (HK.out _).mono ?_
      rintro e w2 ⟨rfl, rfl⟩
      go_wp2_with fail
      refine (HNum.out _).mono ?_
      rintro e w3 ⟨rfl, hb3⟩
      have HB := Lib.hid (HB.out.trans (hb3.mono HB.out.size))
      have HG1 := Lib.hid (HG1.out.below hb3)
      have hO := HO1.out.below hb3
      clear hb3 c0 c1 c2 c3 c4 c5 c6 c7
      have HO1 := Lib.hid hO
      obtain ⟨c0, c1, c2, c3, c4, c5, c6, c7⟩ := hO
      have gv := (HG1.out.errs 4 (by omega) (by omega) f4).var
      simp only [errG] at gv
      go_wp2_with fail
      go_ret
      exact ⟨rfl, HB.out⟩
    cases rV
    · go_enter Tryz.func107, Tryz.ntmps107
      go_wp2_with fail
      refine HC.out.mono ?_
      rintro e w1 ⟨rfl, hb⟩
      have HB := Lib.hid (((Below.refl _ w).alloc (Nat.le_refl _) _).trans (hb.mono (by simp)))
      have HG1 := Lib.hid (HG.out.below hb)
      have hO := HO.out.below hb
      have HO1 := Lib.hid hO
      clear HG HO HC hb
      obtain ⟨c0, c1, c2, c3, c4, c5, c6, c7⟩ := hO
      go_wp2_with fail
      refine (HK.out _).mono ?_
      rintro e w2 ⟨rfl, rfl⟩
      go_wp2_with fail
      refine (HNum.out _).mono ?_
      rintro e w3 ⟨rfl, hb3⟩
      have HB := Lib.hid (HB.out.trans (hb3.mono HB.out.size))
      have HG1 := Lib.hid (HG1.out.below hb3)
      have hO := HO1.out.below hb3
      clear hb3 c0 c1 c2 c3 c4 c5 c6 c7
      have HO1 := Lib.hid hO
      obtain ⟨c0, c1, c2, c3, c4, c5, c6, c7⟩ := hO
      go_wp2_with fail
      refine (HVal.out _).mono ?_
      rintro e w5 ⟨rfl, hb5⟩
      have HB := Lib.hid (HB.out.trans (hb5.mono HB.out.size))
      have HG1 := Lib.hid (HG1.out.below hb5)
      have hO := HO1.out.below hb5
      clear hb5 c0 c1 c2 c3 c4 c5 c6 c7
      have HO1 := Lib.hid hO
      obtain ⟨c0, c1, c2, c3, c4, c5, c6, c7⟩ := hO
      have gv := (HG1.out.errs 3 (by omega) (by omega) f3).var
      simp only [errG] at gv
      go_wp2_with fail
      go_ret
      exact ⟨rfl, HB.out⟩
    · go_enter Tryz.func107, Tryz.ntmps107
      go_wp2_with fail
      refine HC.out.mono ?_
      rintro e w1 ⟨rfl, hb⟩
      have HB := Lib.hid (((Below.refl _ w).alloc (Nat.le_refl _) _).trans (hb.mono (by simp)))
      have HG1 := Lib.hid (HG.out.below hb)
      have hO := HO.out.below hb
      have HO1 := Lib.hid hO
      clear HG HO HC hb
      obtain ⟨c0, c1, c2, c3, c4, c5, c6, c7⟩ := hO
      go_wp2_with fail
      refine (HK.out _).mono ?_
      rintro e w2 ⟨rfl, rfl⟩
      go_wp2_with fail
      refine (HNum.out _).mono ?_
      rintro e w3 ⟨rfl, hb3⟩
      have HB := Lib.hid (HB.out.trans (hb3.mono HB.out.size))
      have HG1 := Lib.hid (HG1.out.below hb3)
      have hO := HO1.out.below hb3
      clear hb3 c0 c1 c2 c3 c4 c5 c6 c7
      have HO1 := Lib.hid hO
      obtain ⟨c0, c1, c2, c3, c4, c5, c6, c7⟩ := hO
      go_wp2_with fail
      refine (HVal.out _).mono ?_
      rintro e w5 ⟨rfl, hb5⟩
      have HB := Lib.hid (HB.out.trans (hb5.mono HB.out.size))
      have HG1 := Lib.hid (HG1.out.below hb5)
      have hO := HO1.out.below hb5
      clear hb5 c0 c1 c2 c3 c4 c5 c6 c7
      have HO1 := Lib.hid hO
      obtain ⟨c0, c1, c2, c3, c4, c5, c6, c7⟩ := hO
      go_wp2_with fail
      go_ret
      exact ⟨rfl, HB.out⟩
  · have HK : Hid (∀ w, Calls Tryz.prog 152 #[.string ⟨#[109, 105, 100, 115]⟩, .int .u8 115] w fun e w' => e = .returned (.int .i64 3) ∧ w' = w) := Lib.hid (fun w => kind_at 115 w (by omega) (by omega))
    have HNa := Lib.hid (HNam.out (.inr rfl))
    clear HNam HEmp
    cases rN
    · go_enter Tryz.func107, Tryz.ntmps107
      go_wp2_with fail
      refine HC.out.mono ?_
      rintro e w1 ⟨rfl, hb⟩
      have HB := Lib.hid (((Below.refl _ w).alloc (Nat.le_refl _) _).trans (hb.mono (by simp)))
      have HG1 := Lib.hid (HG.out.below hb)
      have hO := HO.out.below hb
      have HO1 := Lib.hid hO
      clear HG HO HC hb
      obtain ⟨c0, c1, c2, c3, c4, c5, c6, c7⟩ := hO
      go_wp2_with fail
      refine (HK.out _).mono ?_
      rintro e w2 ⟨rfl, rfl⟩
      go_wp2_with fail
      refine (HNum.out _).mono ?_
      rintro e w3 ⟨rfl, hb3⟩
      have HB := Lib.hid (HB.out.trans (hb3.mono HB.out.size))
      have HG1 := Lib.hid (HG1.out.below hb3)
      have hO := HO1.out.below hb3
      clear hb3 c0 c1 c2 c3 c4 c5 c6 c7
      have HO1 := Lib.hid hO
      obtain ⟨c0, c1, c2, c3, c4, c5, c6, c7⟩ := hO
      have gv := (HG1.out.errs 3 (by omega) (by omega) f3).var
      simp only [errG] at gv
      go_wp2_with fail
      go_ret
      exact ⟨rfl, HB.out⟩
    cases rM
    · go_enter Tryz.func107, Tryz.ntmps107
      go_wp2_with fail
      refine HC.out.mono ?_
      rintro e w1 ⟨rfl, hb⟩
      have HB := Lib.hid (((Below.refl _ w).alloc (Nat.le_refl _) _).trans (hb.mono (by simp)))
      have HG1 := Lib.hid (HG.out.below hb)
      have hO := HO.out.below hb
      have HO1 := Lib.hid hO
      clear HG HO HC hb
      obtain ⟨c0, c1, c2, c3, c4, c5, c6, c7⟩ := hO
      go_wp2_with fail
      refine (HK.out _).mono ?_
      rintro e w2 ⟨rfl, rfl⟩
      go_wp2_with fail
      refine (HNum.out _).mono ?_
      rintro e w3 ⟨rfl, hb3⟩
      have HB := Lib.hid (HB.out.trans (hb3.mono HB.out.size))
      have HG1 := Lib.hid (HG1.out.below hb3)
      have hO := HO1.out.below hb3
      clear hb3 c0 c1 c2 c3 c4 c5 c6 c7
      have HO1 := Lib.hid hO
      obtain ⟨c0, c1, c2, c3, c4, c5, c6, c7⟩ := hO
      have gv := (HG1.out.errs 4 (by omega) (by omega) f4).var
      simp only [errG] at gv
      go_wp2_with fail
      refine (HNa.out _).mono ?_
      rintro e w4 ⟨rfl, hb4⟩
      have HB := Lib.hid (HB.out.trans (hb4.mono HB.out.size))
      have HG1 := Lib.hid (HG1.out.below hb4)
      have hO := HO1.out.below hb4
      clear hb4 c0 c1 c2 c3 c4 c5 c6 c7
      have HO1 := Lib.hid hO
      obtain ⟨c0, c1, c2, c3, c4, c5, c6, c7⟩ := hO
      have gv := (HG1.out.errs 4 (by omega) (by omega) f4).var
      simp only [errG] at gv
      go_wp2_with fail
      go_ret
      exact ⟨rfl, HB.out⟩
    cases rV
    · go_enter Tryz.func107, Tryz.ntmps107
      go_wp2_with fail
      refine HC.out.mono ?_
      rintro e w1 ⟨rfl, hb⟩
      have HB := Lib.hid (((Below.refl _ w).alloc (Nat.le_refl _) _).trans (hb.mono (by simp)))
      have HG1 := Lib.hid (HG.out.below hb)
      have hO := HO.out.below hb
      have HO1 := Lib.hid hO
      clear HG HO HC hb
      obtain ⟨c0, c1, c2, c3, c4, c5, c6, c7⟩ := hO
      go_wp2_with fail
      refine (HK.out _).mono ?_
      rintro e w2 ⟨rfl, rfl⟩
      go_wp2_with fail
      refine (HNum.out _).mono ?_
      rintro e w3 ⟨rfl, hb3⟩
      have HB := Lib.hid (HB.out.trans (hb3.mono HB.out.size))
      have HG1 := Lib.hid (HG1.out.below hb3)
      have hO := HO1.out.below hb3
      clear hb3 c0 c1 c2 c3 c4 c5 c6 c7
      have HO1 := Lib.hid hO
      obtain ⟨c0, c1, c2, c3, c4, c5, c6, c7⟩ := hO
      go_wp2_with fail
      refine (HNa.out _).mono ?_
      rintro e w4 ⟨rfl, hb4⟩
      have HB := Lib.hid (HB.out.trans (hb4.mono HB.out.size))
      have HG1 := Lib.hid (HG1.out.below hb4)
      have hO := HO1.out.below hb4
      clear hb4 c0 c1 c2 c3 c4 c5 c6 c7
      have HO1 := Lib.hid hO
      obtain ⟨c0, c1, c2, c3, c4, c5, c6, c7⟩ := hO
      go_wp2_with fail
      refine (HVal.out _).mono ?_
      rintro e w5 ⟨rfl, hb5⟩
      have HB := Lib.hid (HB.out.trans (hb5.mono HB.out.size))
      have HG1 := Lib.hid (HG1.out.below hb5)
      have hO := HO1.out.below hb5
      clear hb5 c0 c1 c2 c3 c4 c5 c6 c7
      have HO1 := Lib.hid hO
      obtain ⟨c0, c1, c2, c3, c4, c5, c6, c7⟩ := hO
      have gv := (HG1.out.errs 3 (by omega) (by omega) f3).var
      simp only [errG] at gv
      go_wp2_with fail
      go_ret
      exact ⟨rfl, HB.out⟩
    · go_enter Tryz.func107, Tryz.ntmps107
      go_wp2_with fail
      refine HC.out.mono ?_
      rintro e w1 ⟨rfl, hb⟩
      have HB := Lib.hid (((Below.refl _ w).alloc (Nat.le_refl _) _).trans (hb.mono (by simp)))
      have HG1 := Lib.hid (HG.out.below hb)
      have hO := HO.out.below hb
      have HO1 := Lib.hid hO
      clear HG HO HC hb
      obtain ⟨c0, c1, c2, c3, c4, c5, c6, c7⟩ := hO
      go_wp2_with fail
      refine (HK.out _).mono ?_
      rintro e w2 ⟨rfl, rfl⟩
      go_wp2_with fail
      refine (HNum.out _).mono ?_
      rintro e w3 ⟨rfl, hb3⟩
      have HB := Lib.hid (HB.out.trans (hb3.mono HB.out.size))
      have HG1 := Lib.hid (HG1.out.below hb3)
      have hO := HO1.out.below hb3
      clear hb3 c0 c1 c2 c3 c4 c5 c6 c7
      have HO1 := Lib.hid hO
      obtain ⟨c0, c1, c2, c3, c4, c5, c6, c7⟩ := hO
      go_wp2_with fail
      refine (HNa.out _).mono ?_
      rintro e w4 ⟨rfl, hb4⟩
      have HB := Lib.hid (HB.out.trans (hb4.mono HB.out.size))
      have HG1 := Lib.hid (HG1.out.below hb4)
      have hO := HO1.out.below hb4
      clear hb4 c0 c1 c2 c3 c4 c5 c6 c7
      have HO1 := Lib.hid hO
      obtain ⟨c0, c1, c2, c3, c4, c5, c6, c7⟩ := hO
      go_wp2_with fail
      refine (HVal.out _).mono ?_
      rintro e w5 ⟨rfl, hb5⟩
      have HB := Lib.hid (HB.out.trans (hb5.mono HB.out.size))
      have HG1 := Lib.hid (HG1.out.below hb5)
      have hO := HO1.out.below hb5
      clear hb5 c0 c1 c2 c3 c4 c5 c6 c7
      have HO1 := Lib.hid hO
      obtain ⟨c0, c1, c2, c3, c4, c5, c6, c7⟩ := hO
      go_wp2_with fail
      go_ret
      exact ⟨rfl, HB.out⟩
theorem check_any {F : Nat → Bool} (ea : Nat → Addr) (o : OpT) (w : World) (hw : o.Wf) (hG : Gd F ea w) (f2 : F 2 = true) (f3 : F 3 = true) (f4 : F 4 = true) (f5 : F 5 = true) :
    Calls Tryz.prog 107 #[opV o] w fun e w' => e = .returned (errW ea (opErr o)) ∧ Below w.heap.size w w' := by
  have hnm := hw.nm1
  have hvl := hw.vl1
  have hk1 := hw.k1
  have hk2 := hw.k2
  have hw0 := hw
  have hG0 := hG
  clear hw
  have hG1 : Gd F ea (w.alloc (.cells o.cells 31)) := hG.alloc _
  have hO1 : OpAt (w.alloc (.cells o.cells 31)) w.heap.size o := OpAt.start w o _
  have HG := Lib.hid hG1
  have HO := Lib.hid hO1
  clear hG hG1 hO1
  by_cases h1 : StampOk o.t o.b
  · have HC : Hid (Calls Tryz.prog 151 #[stampV o.t o.b] (w.alloc (.cells o.cells 31)) fun e w' => e = .returned (.tuple #[.int .i64 o.id, .nilIface]) ∧ Below (w.alloc (.cells o.cells 31)).heap.size (w.alloc (.cells o.cells 31)) w') := Lib.hid (id_ok _ _ _ h1)
    have K109 : kindIx (Int.toNat 109) = 0 := rfl
    have K105 : kindIx (Int.toNat 105) = 1 := rfl
    have K100 : kindIx (Int.toNat 100) = 2 := rfl
    have K115 : kindIx (Int.toNat 115) = 3 := rfl
    by_cases hn : o.n < 1 ∨ 400 < o.n
    · have H : Hid (opErr o = 2) := by
        unfold opErr
        rw [if_pos (.inr hn)]
        exact rfl
      rw [H.out]
      clear h1 H
      rcases (show o.n < 1 ∨ (1 ≤ o.n ∧ 400 < o.n) by omega) with hn1 | ⟨hn1, hn2⟩
      all_goals
        clear hn
        rcases (show o.k = 109 ∨ o.k = 115 ∨ (o.k ≠ 109 ∧ o.k ≠ 115) by omega) with h | h | ⟨h, h'⟩
        all_goals
          go_enter Tryz.func107, Tryz.ntmps107
          go_wp2_with fail
          refine HC.out.mono ?_
          rintro e w1 ⟨rfl, hb⟩
          have hO := HO.out.below hb
          have gb := (HG.out.below hb).errs 2 (by omega) (by omega) f2
          have gv := gb.var
          simp only [errG] at gv
          obtain ⟨c0, c1, c2, c3, c4, c5, c6, c7⟩ := hO
          have HB := Lib.hid hb
          clear hb gb
          go_wp2_with fail
          go_ret
          exact ⟨rfl, ((Below.refl _ _).alloc (Nat.le_refl _) _).trans (HB.out.mono (by simp))⟩
    · by_cases hk : o.k = 109 ∨ o.k = 105 ∨ o.k = 100 ∨ o.k = 115
      · have H : opErr o = (if numB o.k o.nd o.ot o.id = false then 3 else if nmB o = false then 4 else if vlB o.k o.vl = false then 3 else 0) := by
          unfold opErr
          rw [if_neg (fun h => h.elim (fun h => h h1) hn), if_neg (fun h => h hk)]
        rw [H]
        exact check_rest ea o w _ _ _ hw0 hG0 f3 f4 h1 hn hk rfl rfl rfl
      · have H : Hid (opErr o = 5) := by
          unfold opErr
          rw [if_neg (fun h => h.elim (fun h => h h1) hn), if_pos hk]
          exact rfl
        rw [H.out]
        have K := kindIx_no (n := o.k.toNat) (by omega)
        have HK : Hid (∀ w, Calls Tryz.prog 152 #[.string ⟨#[109, 105, 100, 115]⟩, .int .u8 o.k] w fun e w' => e = .returned (.int .i64 (-1)) ∧ w' = w) := Lib.hid (fun w => by rw [← K]; exact kind_at o.k w hk1 hk2)
        have n1 := (decide_lt hn).1
        have n2 := (decide_lt hn).2
        have k1 : (o.k == 109) = false := by simp; omega
        have k2 : (o.k == 115) = false := by simp; omega
        clear h1 H K hn hk hw0 hG0
        go_enter Tryz.func107, Tryz.ntmps107
        go_wp2_with fail
        refine HC.out.mono ?_
        rintro e w1 ⟨rfl, hb⟩
        have hO := HO.out.below hb
        have gb := (HG.out.below hb).errs 5 (by omega) (by omega) f5
        have gv := gb.var
        simp only [errG] at gv
        obtain ⟨c0, c1, c2, c3, c4, c5, c6, c7⟩ := hO
        have HB := Lib.hid hb
        clear hb gb
        go_wp2_with fail
        refine (HK.out _).mono ?_
        rintro e w2 ⟨rfl, rfl⟩
        go_wp2_with fail
        go_ret
        exact ⟨rfl, ((Below.refl _ _).alloc (Nat.le_refl _) _).trans (HB.out.mono (by simp))⟩
  · have H : Hid (opErr o = 2) := by
      unfold opErr
      rw [if_pos (.inl h1)]
      exact rfl
    have hE := HG.out.errs 2 (by omega) (by omega) f2
    have HC : Hid (Calls Tryz.prog 151 #[stampV o.t o.b] (w.alloc (.cells o.cells 31)) fun e w' => e = .returned (.tuple #[.int .i64 0, errV (ea 2)]) ∧ Below (w.alloc (.cells o.cells 31)).heap.size (w.alloc (.cells o.cells 31)) w') := Lib.hid (id_bad _ _ _ _ _ hE h1)
    rw [H.out]
    clear hE h1 H HG
    rcases (show o.k = 109 ∨ o.k = 115 ∨ (o.k ≠ 109 ∧ o.k ≠ 115) by omega) with h | h | ⟨h, h'⟩
    all_goals
      go_enter Tryz.func107, Tryz.ntmps107
      go_wp2_with fail
      refine HC.out.mono ?_
      rintro e w1 ⟨rfl, hb⟩
      have hO := HO.out.below hb
      obtain ⟨c0, c1, c2, c3, c4, c5, c6, c7⟩ := hO
      have HB := Lib.hid hb
      clear hb
      go_wp2_with fail
      go_ret
      exact ⟨rfl, ((Below.refl _ _).alloc (Nat.le_refl _) _).trans (HB.out.mono (by simp))⟩
end Go.Proofs.YtjekalilfhnpmaaGreatDoor
namespace Go.Proofs.YtjekalilfhnpmaaGreatDoor
open Go Go.RowKit
set_option linter.unusedVariables false
set_option linter.unusedSimpArgs false
set_option maxHeartbeats 4000000
set_option maxRecDepth 100000
def opEqB (o p : OpT) : Bool := o.t == p.t && o.b == p.b && o.n == p.n && o.k == p.k && o.nd == p.nd && o.ot == p.ot && o.nm.toList == p.nm.toList && o.vl.toList == p.vl.toList
theorem str_eq (s u : ByteArray) : (s.toList == u.toList) = decide (s = u) := by
  rw [Bool.eq_iff_iff]
  simp only [beq_iff_eq, decide_eq_true_eq, ByteArray.toList_eq]
  constructor
  · intro h
    rw [← S_of s, ← S_of u, h]
  · rintro rfl
    rfl
theorem opEqB_iff (o p : OpT) : opEqB o p = true ↔ o = p := by
  unfold opEqB
  rw [str_eq, str_eq]
  obtain ⟨t, b, n, k, nd, ot, nm, vl⟩ := o
  obtain ⟨t', b', n', k', nd', ot', nm', vl'⟩ := p
  simp only [Bool.and_eq_true, beq_iff_eq, decide_eq_true_eq, OpT.mk.injEq]
  constructor
  · rintro ⟨⟨⟨⟨⟨⟨⟨h1, h2⟩, h3⟩, h4⟩, h5⟩, h6⟩, h7⟩, h8⟩
    exact ⟨h1, h2, h3, h4, h5, h6, h7, h8⟩
  · rintro ⟨h1, h2, h3, h4, h5, h6, h7, h8⟩
    exact ⟨⟨⟨⟨⟨⟨⟨h1, h2⟩, h3⟩, h4⟩, h5⟩, h6⟩, h7⟩, h8⟩
theorem opEqB_refl (o : OpT) : opEqB o o = true := (opEqB_iff o o).2 rfl
theorem opEqB_ne {o p : OpT} (h : o ≠ p) : opEqB o p = false := by
  cases he : opEqB o p with
  | false => rfl
  | true => exact absurd ((opEqB_iff o p).1 he) h
theorem eqOp_run (o p : OpT) (w : World) : (Op.equalIn 10000 31 (opV o) (opV p)).run Tryz.prog w = .ok (opEqB o p) w := by
  have u3 := Tryz.underlying3
  have a3 := Tryz.isAgg3
  have z3 := Tryz.sizeOf3
  have u5 := Tryz.underlying5
  have a5 := Tryz.isAgg5
  have z5 := Tryz.sizeOf5
  have u9 := Tryz.underlying9
  have a9 := Tryz.isAgg9
  have z9 := Tryz.sizeOf9
  have us := Tryz.underlying29
  have ag := Tryz.isAgg29
  have zs := Tryz.sizeOf29
  rw [show (10000 : Nat) = 9999 + 1 from rfl, Op.equalIn]
  simp only [Sem.run_bind, run_underlying Tryz.underlying31, Result.andThen_ok]
  go_simp
  unfold opEqB
  (repeat' split) <;> simp_all
theorem opID_any {F : Nat → Bool} (ea : Nat → Addr) (o : OpT) (w : World) (hG : Gd F ea w) (f2 : F 2 = true) :
    Calls Tryz.prog 106 #[opV o] w fun e w' => e = .returned (.int .i64 (if StampOk o.t o.b then o.t * 4 + o.b else 0)) ∧ Below w.heap.size w w' := by
  have HO := Lib.hid (OpAt.start w o 31)
  by_cases h : StampOk o.t o.b
  · rw [if_pos h]
    have HC := Lib.hid (fun w => id_ok o.t o.b w h)
    clear h hG
    go_enter Tryz.func106, Tryz.ntmps106
    go_wp2_with fail
    refine (HC.out _).mono ?_
    rintro e w1 ⟨rfl, hb⟩
    have HB := Lib.hid (((Below.refl _ w).alloc (Nat.le_refl _) _).trans (hb.mono (by simp)))
    clear hb
    go_wp2_with fail
    go_ret
    exact ⟨rfl, HB.out⟩
  · rw [if_neg h]
    have hE := (hG.alloc (.cells o.cells 31)).errs 2 (by omega) (by omega) f2
    have HC := Lib.hid (id_bad o.t o.b _ _ _ hE h)
    clear h hG hE
    go_enter Tryz.func106, Tryz.ntmps106
    go_wp2_with fail
    refine HC.out.mono ?_
    rintro e w1 ⟨rfl, hb⟩
    have HB := Lib.hid (((Below.refl _ w).alloc (Nat.le_refl _) _).trans (hb.mono (by simp)))
    clear hb
    go_wp2_with fail
    go_ret
    exact ⟨rfl, HB.out⟩
end Go.Proofs.YtjekalilfhnpmaaGreatDoor
