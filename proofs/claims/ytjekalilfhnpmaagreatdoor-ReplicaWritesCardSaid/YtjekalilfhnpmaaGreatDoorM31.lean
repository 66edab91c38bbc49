/- An operation is made, as a mesh does. Written by gen_repq.py. FourR replicas that make and join: what they hold. Plain. -/
import Derived.Test.YtjekalilfhnpmaaGreatDoorM28
import Derived.Test.YtjekalilfhnpmaaGreatDoorM30
namespace Go.Proofs.YtjekalilfhnpmaaGreatDoor
open Go Go.RowKit Go.Maps Go.Shelf LineOrd Tree
set_option linter.unusedVariables false
set_option linter.unusedSimpArgs false
set_option maxHeartbeats 2000000
set_option maxRecDepth 100000
/-- the first letter of a value -/
def firstB (s : ByteArray) : UInt8 := match s.data.toList with | [] => 0 | c :: _ => c
open Classical in
/-- what an operation is asked for -/
def MakeIs (b : Int) (K : List OpT) (o : OpT) (r : OpT × Nat) : Prop :=
  if o.k = 109 then
    (if o.nd = 0 then ∃ pb : Bool, (pb = true ↔ o.ot = 0 ∨ o.ot = 1 ∨ Known K o.ot) ∧ r = nextP b K pb ⟨0, 0, 0, 109, 0, o.ot, o.nm, ⟨#[]⟩⟩
     else ∃ kb pb : Bool, (kb = true ↔ Known K o.nd) ∧ (pb = true ↔ o.ot = 0 ∨ o.ot = 1 ∨ Known K o.ot) ∧ r = moveP b K (kb && pb) ⟨0, 0, 0, 109, o.nd, o.ot, o.nm, ⟨#[]⟩⟩)
  else if o.k = 105 then ∃ (kb : Bool) (id : Int) (is : Bool), (kb = true ↔ Known K o.nd) ∧ WrAt K o.nd o.ot kb id is ∧ r = nextP b K is ⟨0, 0, 0, 105, o.nd, id, ⟨#[]⟩, ⟨#[firstB o.vl]⟩⟩
  else if o.k = 100 then ∃ (kb : Bool) (id : Int) (is : Bool), (kb = true ↔ Known K o.nd) ∧ LetAt K o.nd o.ot kb id is ∧ r = nextP b K is ⟨0, 0, 0, 100, o.nd, id, ⟨#[]⟩, ⟨#[]⟩⟩
  else ∃ kb : Bool, (kb = true ↔ Known K o.nd) ∧ r = nextP b K kb ⟨0, 0, 0, 115, o.nd, 0, o.nm, o.vl⟩
/-- how it ends -/
def M1Ends (ea : Nat → Addr) (b : Int) (K : List OpT) (o : OpT) (w : World) (e : Ending) (w' : World) : Prop := ∃ r, MakeIs b K o r ∧ e = .returned (.tuple #[opV r.1, errW ea r.2]) ∧ Below w.heap.size w w'
theorem make1_any {F0 : Nat → Bool} (ea : Nat → Addr) (col : Nat → Int) (RB : Nat) (b : Int) (K : List OpT) (o : OpT) (w : World) (h : RepD col RB b K w) (hG : Gd F0 ea w) (f2 : F0 2 = true) (f3 : F0 3 = true) (f4 : F0 4 = true) (f5 : F0 5 = true) (f6 : F0 6 = true) (f8 : F0 8 = true) (f10 : F0 10 = true)
    (hK : DOk K) (hKl : K.length ≤ 400) (hb0 : 0 ≤ b) (hb4 : b < 4) (hw : o.Wf) :
    Calls Tryz.prog 40 #[ptrV RB, opV o] w (M1Ends ea b K o w) := by
  obtain ⟨kb, hkb⟩ : ∃ kb : Bool, kb = true ↔ Known K o.nd := ⟨@decide _ (Classical.propDecidable (Known K o.nd)), by simp⟩
  obtain ⟨pb, hpb⟩ : ∃ pb : Bool, pb = true ↔ o.ot = 0 ∨ o.ot = 1 ∨ Known K o.ot := ⟨@decide _ (Classical.propDecidable (o.ot = 0 ∨ o.ot = 1 ∨ Known K o.ot)), by simp⟩
  have inn : I64 o.nd := ⟨hw.nd1, hw.nd2⟩
  have ino : I64 o.ot := ⟨hw.ot1, hw.ot2⟩
  obtain ⟨W, hW⟩ : ∃ W, W = (w.alloc (.cells o.cells 31)).alloc (.cells zOp.cells 31) := ⟨_, rfl⟩
  have hbW : Below w.heap.size w W := by rw [hW]; exact ((Below.refl _ _).alloc (Nat.le_refl _) _).alloc (by simp) _
  have HR1 : Hid (∀ j, j < 8 → (∃ u, W.cell? ⟨w.heap.size + 1, j, none⟩ = some u) ∧ W.frozen? ⟨w.heap.size + 1, j, none⟩ = false) := Lib.hid (by
    have := box8_at (w := w.alloc (.cells o.cells 31)) (o := zOp) (ty := 31) (Below.refl _ _)
    rw [World.size_alloc, ← hW] at this
    exact this)
  have HBW := Lib.hid hbW
  have HW := Lib.hid hW.symm
  by_cases k1 : o.k = 109
  · have q1 : (o.k == 109) = true := by simpa using k1
    by_cases n0 : o.nd = 0
    · have q2 : (o.nd == 0) = true := by simpa using n0
      have HC : Hid (∀ w', Below w.heap.size w w' → Calls Tryz.prog 11 #[ptrV RB, .int .i64 o.ot, .string o.nm] w' fun e w'' => ∃ r, MakeIs b K o r ∧ e = .returned (.tuple #[opV r.1, errW ea r.2]) ∧ Below w'.heap.size w' w'') := Lib.hid fun w' hb => by
        refine (make_any ea col RB b K o.ot o.nm w' (h.below hb) (hG.below hb) f2 f3 f4 f5 f6 f8 hK hKl hb0 hb4 ino hw.nm1 pb hpb).mono ?_
        rintro e w'' ⟨rfl, hb2⟩
        exact ⟨_, by unfold MakeIs; rw [if_pos k1, if_pos n0]; exact ⟨pb, hpb, rfl⟩, rfl, hb2⟩
      unfold ptrV at HC ⊢
      clear h hG hK hKl hw hkb hpb inn ino hW hbW
      have HK1 := Lib.hid (And.intro k1 n0)
      clear k1 n0
      go_enter Tryz.func40, Tryz.ntmps40
      go_wp2_with fail
      refine (HC.out _ (by rw [← HW.out] at HBW; exact HBW.out)).mono ?_
      rintro e w5 ⟨⟨nx, er⟩, hM, rfl, hb5⟩
      have hb5' : Below W.heap.size W w5 := by rw [← HW.out]; exact hb5
      have HB5 := Lib.hid (HBW.out.trans (hb5'.mono HBW.out.size))
      have HR5 := Lib.hid (box8_below HR1.out hb5')
      have HM := Lib.hid hM
      obtain ⟨E, hE⟩ : ∃ E, errW ea er = E := ⟨_, rfl⟩
      have HE := Lib.hid hE
      simp only [hE]
      clear hb5 hb5' HC hM hE
      obtain ⟨⟨u0, y0⟩, x0⟩ := HR5.out 0 (by omega)
      obtain ⟨⟨u1, y1⟩, x1⟩ := HR5.out 1 (by omega)
      obtain ⟨⟨u2, y2⟩, x2⟩ := HR5.out 2 (by omega)
      obtain ⟨⟨u3, y3⟩, x3⟩ := HR5.out 3 (by omega)
      obtain ⟨⟨u4, y4⟩, x4⟩ := HR5.out 4 (by omega)
      obtain ⟨⟨u5, y5⟩, x5⟩ := HR5.out 5 (by omega)
      obtain ⟨⟨u6, y6⟩, x6⟩ := HR5.out 6 (by omega)
      obtain ⟨⟨u7, y7⟩, x7⟩ := HR5.out 7 (by omega)
      go_wp2_with fail
      obtain ⟨W8, hW8⟩ : ∃ W8, W8 = ((((((((w5.setCell ⟨w.heap.size + 1, 0, none⟩ (.int .i64 nx.t)).setCell ⟨w.heap.size + 1, 1, none⟩ (.int .i64 nx.b)).setCell ⟨w.heap.size + 1, 2, none⟩ (.int .i64 nx.n)).setCell ⟨w.heap.size + 1, 3, none⟩ (.int .u8 nx.k)).setCell ⟨w.heap.size + 1, 4, none⟩ (.int .i64 nx.nd)).setCell ⟨w.heap.size + 1, 5, none⟩ (.int .i64 nx.ot)).setCell ⟨w.heap.size + 1, 6, none⟩ (.string nx.nm)).setCell ⟨w.heap.size + 1, 7, none⟩ (.string nx.vl)) := ⟨_, rfl⟩
      have h8 : OpAt W8 (w.heap.size + 1) nx ∧ Below w.heap.size w W8 := by
        rw [hW8]
        exact set8_at nx (fun j hj => (HR5.out j hj).1) HB5.out (by omega)
      obtain ⟨⟨l0, l1, l2, l3, l4, l5, l6, l7⟩, hb8⟩ := h8
      rw [← hW8]
      refine bodyPost_ret (v := .tuple #[opV nx, E]) (by simp [results, Tryz.results40, go_sem, l0, l1, l2, l3, l4, l5, l6, l7]) rfl ⟨(nx, er), HM.out, ?_, hb8⟩
      rw [← HE.out]
    · have q2 : (o.nd == 0) = false := by simpa using n0
      have HC : Hid (∀ w', Below w.heap.size w w' → Calls Tryz.prog 96 #[ptrV RB, .int .i64 o.nd, .int .i64 o.ot, .string o.nm] w' fun e w'' => ∃ r, MakeIs b K o r ∧ e = .returned (.tuple #[opV r.1, errW ea r.2]) ∧ Below w'.heap.size w' w'') := Lib.hid fun w' hb => by
        refine (move_any ea col RB b K o.nd o.ot o.nm w' (h.below hb) (hG.below hb) f2 f3 f4 f5 f6 f8 hK hKl hb0 hb4 f10 inn ino hw.nm1 kb hkb pb hpb).mono ?_
        rintro e w'' ⟨rfl, hb2⟩
        exact ⟨_, by unfold MakeIs; rw [if_pos k1, if_neg n0]; exact ⟨kb, pb, hkb, hpb, rfl⟩, rfl, hb2⟩
      unfold ptrV at HC ⊢
      clear h hG hK hKl hw hkb hpb inn ino hW hbW
      clear k1 n0
      go_enter Tryz.func40, Tryz.ntmps40
      go_wp2_with fail
      refine (HC.out _ (by rw [← HW.out] at HBW; exact HBW.out)).mono ?_
      rintro e w5 ⟨⟨nx, er⟩, hM, rfl, hb5⟩
      have hb5' : Below W.heap.size W w5 := by rw [← HW.out]; exact hb5
      have HB5 := Lib.hid (HBW.out.trans (hb5'.mono HBW.out.size))
      have HR5 := Lib.hid (box8_below HR1.out hb5')
      have HM := Lib.hid hM
      obtain ⟨E, hE⟩ : ∃ E, errW ea er = E := ⟨_, rfl⟩
      have HE := Lib.hid hE
      simp only [hE]
      clear hb5 hb5' HC hM hE
      obtain ⟨⟨u0, y0⟩, x0⟩ := HR5.out 0 (by omega)
      obtain ⟨⟨u1, y1⟩, x1⟩ := HR5.out 1 (by omega)
      obtain ⟨⟨u2, y2⟩, x2⟩ := HR5.out 2 (by omega)
      obtain ⟨⟨u3, y3⟩, x3⟩ := HR5.out 3 (by omega)
      obtain ⟨⟨u4, y4⟩, x4⟩ := HR5.out 4 (by omega)
      obtain ⟨⟨u5, y5⟩, x5⟩ := HR5.out 5 (by omega)
      obtain ⟨⟨u6, y6⟩, x6⟩ := HR5.out 6 (by omega)
      obtain ⟨⟨u7, y7⟩, x7⟩ := HR5.out 7 (by omega)
      go_wp2_with fail
      obtain ⟨W8, hW8⟩ : ∃ W8, W8 = ((((((((w5.setCell ⟨w.heap.size + 1, 0, none⟩ (.int .i64 nx.t)).setCell ⟨w.heap.size + 1, 1, none⟩ (.int .i64 nx.b)).setCell ⟨w.heap.size + 1, 2, none⟩ (.int .i64 nx.n)).setCell ⟨w.heap.size + 1, 3, none⟩ (.int .u8 nx.k)).setCell ⟨w.heap.size + 1, 4, none⟩ (.int .i64 nx.nd)).setCell ⟨w.heap.size + 1, 5, none⟩ (.int .i64 nx.ot)).setCell ⟨w.heap.size + 1, 6, none⟩ (.string nx.nm)).setCell ⟨w.heap.size + 1, 7, none⟩ (.string nx.vl)) := ⟨_, rfl⟩
      have h8 : OpAt W8 (w.heap.size + 1) nx ∧ Below w.heap.size w W8 := by
        rw [hW8]
        exact set8_at nx (fun j hj => (HR5.out j hj).1) HB5.out (by omega)
      obtain ⟨⟨l0, l1, l2, l3, l4, l5, l6, l7⟩, hb8⟩ := h8
      rw [← hW8]
      refine bodyPost_ret (v := .tuple #[opV nx, E]) (by simp [results, Tryz.results40, go_sem, l0, l1, l2, l3, l4, l5, l6, l7]) rfl ⟨(nx, er), HM.out, ?_, hb8⟩
      rw [← HE.out]
  · have q1 : (o.k == 109) = false := by simpa using k1
    by_cases k2 : o.k = 105
    · have q2 : (o.k == 105) = true := by simpa using k2
      have HC : Hid (∀ w', Below w.heap.size w w' → Calls Tryz.prog 60 #[ptrV RB, .int .i64 o.nd, .int .i64 o.ot, .int .u8 (firstB o.vl).toNat] w' fun e w'' => ∃ r, MakeIs b K o r ∧ e = .returned (.tuple #[opV r.1, errW ea r.2]) ∧ Below w'.heap.size w' w'') := Lib.hid fun w' hb => by
        refine (write_any ea col RB b K o.nd o.ot (firstB o.vl) w' (h.below hb) (hG.below hb) f2 f3 f4 f5 f6 f8 hK hKl hb0 hb4 inn ino kb hkb).mono ?_
        rintro e w'' ⟨id, is, hWA, rfl, hb2⟩
        exact ⟨_, by unfold MakeIs; rw [if_neg k1, if_pos k2]; exact ⟨kb, id, is, hkb, hWA, rfl⟩, rfl, hb2⟩
      unfold ptrV at HC ⊢
      clear h hG hK hKl hw hkb hpb inn ino hW hbW
      clear k1 k2
      cases hv : o.vl.data.toList with
      | nil =>
        have hv0 : o.vl = ⟨#[]⟩ := by rw [← S_of o.vl, hv]; rfl
        have hf : firstB o.vl = 0 := by unfold firstB; rw [hv]
        rw [hf] at HC
        have e1 : (o.vl.toList == []) = true := by rw [ByteArray.toList_eq, hv]; rfl
        clear hf hv0 hv
        go_enter Tryz.func40, Tryz.ntmps40
        go_wp2_with fail
        refine (HC.out _ (by rw [← HW.out] at HBW; exact HBW.out)).mono ?_
        rintro e w5 ⟨⟨nx, er⟩, hM, rfl, hb5⟩
        have hb5' : Below W.heap.size W w5 := by rw [← HW.out]; exact hb5
        have HB5 := Lib.hid (HBW.out.trans (hb5'.mono HBW.out.size))
        have HR5 := Lib.hid (box8_below HR1.out hb5')
        have HM := Lib.hid hM
        obtain ⟨E, hE⟩ : ∃ E, errW ea er = E := ⟨_, rfl⟩
        have HE := Lib.hid hE
        simp only [hE]
        clear hb5 hb5' HC hM hE
        obtain ⟨⟨u0, y0⟩, x0⟩ := HR5.out 0 (by omega)
        obtain ⟨⟨u1, y1⟩, x1⟩ := HR5.out 1 (by omega)
        obtain ⟨⟨u2, y2⟩, x2⟩ := HR5.out 2 (by omega)
        obtain ⟨⟨u3, y3⟩, x3⟩ := HR5.out 3 (by omega)
        obtain ⟨⟨u4, y4⟩, x4⟩ := HR5.out 4 (by omega)
        obtain ⟨⟨u5, y5⟩, x5⟩ := HR5.out 5 (by omega)
        obtain ⟨⟨u6, y6⟩, x6⟩ := HR5.out 6 (by omega)
        obtain ⟨⟨u7, y7⟩, x7⟩ := HR5.out 7 (by omega)
        go_wp2_with fail
        obtain ⟨W8, hW8⟩ : ∃ W8, W8 = ((((((((w5.setCell ⟨w.heap.size + 1, 0, none⟩ (.int .i64 nx.t)).setCell ⟨w.heap.size + 1, 1, none⟩ (.int .i64 nx.b)).setCell ⟨w.heap.size + 1, 2, none⟩ (.int .i64 nx.n)).setCell ⟨w.heap.size + 1, 3, none⟩ (.int .u8 nx.k)).setCell ⟨w.heap.size + 1, 4, none⟩ (.int .i64 nx.nd)).setCell ⟨w.heap.size + 1, 5, none⟩ (.int .i64 nx.ot)).setCell ⟨w.heap.size + 1, 6, none⟩ (.string nx.nm)).setCell ⟨w.heap.size + 1, 7, none⟩ (.string nx.vl)) := ⟨_, rfl⟩
        have h8 : OpAt W8 (w.heap.size + 1) nx ∧ Below w.heap.size w W8 := by
          rw [hW8]
          exact set8_at nx (fun j hj => (HR5.out j hj).1) HB5.out (by omega)
        obtain ⟨⟨l0, l1, l2, l3, l4, l5, l6, l7⟩, hb8⟩ := h8
        rw [← hW8]
        refine bodyPost_ret (v := .tuple #[opV nx, E]) (by simp [results, Tryz.results40, go_sem, l0, l1, l2, l3, l4, l5, l6, l7]) rfl ⟨(nx, er), HM.out, ?_, hb8⟩
        rw [← HE.out]
      | cons c r =>
        have hf : firstB o.vl = c := by unfold firstB; rw [hv]
        rw [hf] at HC
        have e1 : (o.vl.toList == []) = false := by rw [beq_eq_false_iff_ne, ByteArray.toList_eq, hv]; simp
        have e2 : o.vl.size = r.length + 1 := by show o.vl.data.size = _; rw [← Array.length_toList, hv]; rfl
        have e3 : o.vl[0]'(by omega) = c := by
          have e4 : 0 < o.vl.data.size := by show 0 < o.vl.size; omega
          show o.vl.data[0]'e4 = c
          rw [← Array.getElem_toList]
          simp [hv]
        rw [← e3] at HC
        clear hf hv e3
        go_enter Tryz.func40, Tryz.ntmps40
        go_wp2_with fail
        refine (HC.out _ (by rw [← HW.out] at HBW; exact HBW.out)).mono ?_
        rintro e w5 ⟨⟨nx, er⟩, hM, rfl, hb5⟩
        have hb5' : Below W.heap.size W w5 := by rw [← HW.out]; exact hb5
        have HB5 := Lib.hid (HBW.out.trans (hb5'.mono HBW.out.size))
        have HR5 := Lib.hid (box8_below HR1.out hb5')
        have HM := Lib.hid hM
        obtain ⟨E, hE⟩ : ∃ E, errW ea er = E := ⟨_, rfl⟩
        have HE := Lib.hid hE
        simp only [hE]
        clear hb5 hb5' HC hM hE
        obtain ⟨⟨u0, y0⟩, x0⟩ := HR5.out 0 (by omega)
        obtain ⟨⟨u1, y1⟩, x1⟩ := HR5.out 1 (by omega)
        obtain ⟨⟨u2, y2⟩, x2⟩ := HR5.out 2 (by omega)
        obtain ⟨⟨u3, y3⟩, x3⟩ := HR5.out 3 (by omega)
        obtain ⟨⟨u4, y4⟩, x4⟩ := HR5.out 4 (by omega)
        obtain ⟨⟨u5, y5⟩, x5⟩ := HR5.out 5 (by omega)
        obtain ⟨⟨u6, y6⟩, x6⟩ := HR5.out 6 (by omega)
        obtain ⟨⟨u7, y7⟩, x7⟩ := HR5.out 7 (by omega)
        go_wp2_with fail
        obtain ⟨W8, hW8⟩ : ∃ W8, W8 = ((((((((w5.setCell ⟨w.heap.size + 1, 0, none⟩ (.int .i64 nx.t)).setCell ⟨w.heap.size + 1, 1, none⟩ (.int .i64 nx.b)).setCell ⟨w.heap.size + 1, 2, none⟩ (.int .i64 nx.n)).setCell ⟨w.heap.size + 1, 3, none⟩ (.int .u8 nx.k)).setCell ⟨w.heap.size + 1, 4, none⟩ (.int .i64 nx.nd)).setCell ⟨w.heap.size + 1, 5, none⟩ (.int .i64 nx.ot)).setCell ⟨w.heap.size + 1, 6, none⟩ (.string nx.nm)).setCell ⟨w.heap.size + 1, 7, none⟩ (.string nx.vl)) := ⟨_, rfl⟩
        have h8 : OpAt W8 (w.heap.size + 1) nx ∧ Below w.heap.size w W8 := by
          rw [hW8]
          exact set8_at nx (fun j hj => (HR5.out j hj).1) HB5.out (by omega)
        obtain ⟨⟨l0, l1, l2, l3, l4, l5, l6, l7⟩, hb8⟩ := h8
        rw [← hW8]
        refine bodyPost_ret (v := .tuple #[opV nx, E]) (by simp [results, Tryz.results40, go_sem, l0, l1, l2, l3, l4, l5, l6, l7]) rfl ⟨(nx, er), HM.out, ?_, hb8⟩
        rw [← HE.out]
    · have q2 : (o.k == 105) = false := by simpa using k2
      by_cases k3 : o.k = 100
      · have q3 : (o.k == 100) = true := by simpa using k3
        have HC : Hid (∀ w', Below w.heap.size w w' → Calls Tryz.prog 97 #[ptrV RB, .int .i64 o.nd, .int .i64 o.ot] w' fun e w'' => ∃ r, MakeIs b K o r ∧ e = .returned (.tuple #[opV r.1, errW ea r.2]) ∧ Below w'.heap.size w' w'') := Lib.hid fun w' hb => by
          refine (erase_any ea col RB b K o.nd o.ot w' (h.below hb) (hG.below hb) f2 f3 f4 f5 f6 f8 hK hKl hb0 hb4 inn ino kb hkb).mono ?_
          rintro e w'' ⟨id, is, hLA, rfl, hb2⟩
          exact ⟨_, by unfold MakeIs; rw [if_neg k1, if_neg k2, if_pos k3]; exact ⟨kb, id, is, hkb, hLA, rfl⟩, rfl, hb2⟩
        unfold ptrV at HC ⊢
        clear h hG hK hKl hw hkb hpb inn ino hW hbW
        clear k1 k2 k3
        go_enter Tryz.func40, Tryz.ntmps40
        go_wp2_with fail
        refine (HC.out _ (by rw [← HW.out] at HBW; exact HBW.out)).mono ?_
        rintro e w5 ⟨⟨nx, er⟩, hM, rfl, hb5⟩
        have hb5' : Below W.heap.size W w5 := by rw [← HW.out]; exact hb5
        have HB5 := Lib.hid (HBW.out.trans (hb5'.mono HBW.out.size))
        have HR5 := Lib.hid (box8_below HR1.out hb5')
        have HM := Lib.hid hM
        obtain ⟨E, hE⟩ : ∃ E, errW ea er = E := ⟨_, rfl⟩
        have HE := Lib.hid hE
        simp only [hE]
        clear hb5 hb5' HC hM hE
        obtain ⟨⟨u0, y0⟩, x0⟩ := HR5.out 0 (by omega)
        obtain ⟨⟨u1, y1⟩, x1⟩ := HR5.out 1 (by omega)
        obtain ⟨⟨u2, y2⟩, x2⟩ := HR5.out 2 (by omega)
        obtain ⟨⟨u3, y3⟩, x3⟩ := HR5.out 3 (by omega)
        obtain ⟨⟨u4, y4⟩, x4⟩ := HR5.out 4 (by omega)
        obtain ⟨⟨u5, y5⟩, x5⟩ := HR5.out 5 (by omega)
        obtain ⟨⟨u6, y6⟩, x6⟩ := HR5.out 6 (by omega)
        obtain ⟨⟨u7, y7⟩, x7⟩ := HR5.out 7 (by omega)
        go_wp2_with fail
        obtain ⟨W8, hW8⟩ : ∃ W8, W8 = ((((((((w5.setCell ⟨w.heap.size + 1, 0, none⟩ (.int .i64 nx.t)).setCell ⟨w.heap.size + 1, 1, none⟩ (.int .i64 nx.b)).setCell ⟨w.heap.size + 1, 2, none⟩ (.int .i64 nx.n)).setCell ⟨w.heap.size + 1, 3, none⟩ (.int .u8 nx.k)).setCell ⟨w.heap.size + 1, 4, none⟩ (.int .i64 nx.nd)).setCell ⟨w.heap.size + 1, 5, none⟩ (.int .i64 nx.ot)).setCell ⟨w.heap.size + 1, 6, none⟩ (.string nx.nm)).setCell ⟨w.heap.size + 1, 7, none⟩ (.string nx.vl)) := ⟨_, rfl⟩
        have h8 : OpAt W8 (w.heap.size + 1) nx ∧ Below w.heap.size w W8 := by
          rw [hW8]
          exact set8_at nx (fun j hj => (HR5.out j hj).1) HB5.out (by omega)
        obtain ⟨⟨l0, l1, l2, l3, l4, l5, l6, l7⟩, hb8⟩ := h8
        rw [← hW8]
        refine bodyPost_ret (v := .tuple #[opV nx, E]) (by simp [results, Tryz.results40, go_sem, l0, l1, l2, l3, l4, l5, l6, l7]) rfl ⟨(nx, er), HM.out, ?_, hb8⟩
        rw [← HE.out]
      · have q3 : (o.k == 100) = false := by simpa using k3
        have HC : Hid (∀ w', Below w.heap.size w w' → Calls Tryz.prog 98 #[ptrV RB, .int .i64 o.nd, .string o.nm, .string o.vl] w' fun e w'' => ∃ r, MakeIs b K o r ∧ e = .returned (.tuple #[opV r.1, errW ea r.2]) ∧ Below w'.heap.size w' w'') := Lib.hid fun w' hb => by
          refine (mark_any ea col RB b K o.nd o.nm o.vl w' (h.below hb) (hG.below hb) f2 f3 f4 f5 f6 f8 hK hKl hb0 hb4 inn hw.nm1 hw.vl1 kb hkb).mono ?_
          rintro e w'' ⟨rfl, hb2⟩
          exact ⟨_, by unfold MakeIs; rw [if_neg k1, if_neg k2, if_neg k3]; exact ⟨kb, hkb, rfl⟩, rfl, hb2⟩
        unfold ptrV at HC ⊢
        clear h hG hK hKl hw hkb hpb inn ino hW hbW
        clear k1 k2 k3
        go_enter Tryz.func40, Tryz.ntmps40
        go_wp2_with fail
        refine (HC.out _ (by rw [← HW.out] at HBW; exact HBW.out)).mono ?_
        rintro e w5 ⟨⟨nx, er⟩, hM, rfl, hb5⟩
        have hb5' : Below W.heap.size W w5 := by rw [← HW.out]; exact hb5
        have HB5 := Lib.hid (HBW.out.trans (hb5'.mono HBW.out.size))
        have HR5 := Lib.hid (box8_below HR1.out hb5')
        have HM := Lib.hid hM
        obtain ⟨E, hE⟩ : ∃ E, errW ea er = E := ⟨_, rfl⟩
        have HE := Lib.hid hE
        simp only [hE]
        clear hb5 hb5' HC hM hE
        obtain ⟨⟨u0, y0⟩, x0⟩ := HR5.out 0 (by omega)
        obtain ⟨⟨u1, y1⟩, x1⟩ := HR5.out 1 (by omega)
        obtain ⟨⟨u2, y2⟩, x2⟩ := HR5.out 2 (by omega)
        obtain ⟨⟨u3, y3⟩, x3⟩ := HR5.out 3 (by omega)
        obtain ⟨⟨u4, y4⟩, x4⟩ := HR5.out 4 (by omega)
        obtain ⟨⟨u5, y5⟩, x5⟩ := HR5.out 5 (by omega)
        obtain ⟨⟨u6, y6⟩, x6⟩ := HR5.out 6 (by omega)
        obtain ⟨⟨u7, y7⟩, x7⟩ := HR5.out 7 (by omega)
        go_wp2_with fail
        obtain ⟨W8, hW8⟩ : ∃ W8, W8 = ((((((((w5.setCell ⟨w.heap.size + 1, 0, none⟩ (.int .i64 nx.t)).setCell ⟨w.heap.size + 1, 1, none⟩ (.int .i64 nx.b)).setCell ⟨w.heap.size + 1, 2, none⟩ (.int .i64 nx.n)).setCell ⟨w.heap.size + 1, 3, none⟩ (.int .u8 nx.k)).setCell ⟨w.heap.size + 1, 4, none⟩ (.int .i64 nx.nd)).setCell ⟨w.heap.size + 1, 5, none⟩ (.int .i64 nx.ot)).setCell ⟨w.heap.size + 1, 6, none⟩ (.string nx.nm)).setCell ⟨w.heap.size + 1, 7, none⟩ (.string nx.vl)) := ⟨_, rfl⟩
        have h8 : OpAt W8 (w.heap.size + 1) nx ∧ Below w.heap.size w W8 := by
          rw [hW8]
          exact set8_at nx (fun j hj => (HR5.out j hj).1) HB5.out (by omega)
        obtain ⟨⟨l0, l1, l2, l3, l4, l5, l6, l7⟩, hb8⟩ := h8
        rw [← hW8]
        refine bodyPost_ret (v := .tuple #[opV nx, E]) (by simp [results, Tryz.results40, go_sem, l0, l1, l2, l3, l4, l5, l6, l7]) rfl ⟨(nx, er), HM.out, ?_, hb8⟩
        rw [← HE.out]
end Go.Proofs.YtjekalilfhnpmaaGreatDoor
namespace Go.Proofs.YtjekalilfhnpmaaGreatDoor
open Go Go.RowKit Go.Maps Go.Shelf LineOrd Tree
set_option linter.unusedVariables false
set_option linter.unusedSimpArgs false
set_option maxHeartbeats 2000000
set_option maxRecDepth 100000
/-- what a made operation is to its maker -/
structure MadeOk (b : Int) (K : List OpT) (x : OpT) : Prop where
  ok : DOk (K ++ [x])
  by' : x.b = b
  num : x.n = cntB K b + 1
  time : timeOf K < x.t
  len : K.length < 400
theorem next_made {b : Int} {K : List OpT} {is : Bool} {o x : OpT} (h : nextP b K is o = (x, 0)) (hK : DOk K) (hb0 : 0 ≤ b) (hb4 : b < 4) (k1 : 0 ≤ o.k) (k2 : o.k ≤ 255) (hn : I64 o.nd) (ho : I64 o.ot) (hm : o.nm.size ≤ 100000) (hv : o.vl.size ≤ 100000)
    (hr : is = true → RefOk (K ++ [x]) x) : MadeOk b K x := by
  obtain ⟨h1, h2, h3, h4, h5⟩ := nextP_ok h
  have hw : x.Wf := by rw [h5]; exact nextO_wf hK hb0 hb4 k1 k2 hn ho hm hv
  have e1 : x.b = b := by rw [h5]; rfl
  have e2 : x.n = cntB K b + 1 := by rw [h5]; rfl
  have e3 : timeOf K < x.t := by rw [h5]; show timeOf K < timeOf K + 1; omega
  exact ⟨hK.snoc hw h4 e3 (by rw [e2, e1]) (hr h1), e1, e2, e3, h2⟩
theorem sub_snoc {K : List OpT} {x : OpT} : ∀ o ∈ K, o ∈ K ++ [x] := fun o ho => by simp [ho]
theorem i64_0 : I64 0 := by constructor <;> omega
theorem LetAt.let {K : List OpT} {nd k : Int} {kb : Bool} {id : Int} (h : LetAt K nd k kb id true) : kb = true ∧ HasLet K nd id := by
  rcases h with ⟨h1, _, L, hL, x, hx, rfl, _⟩ | ⟨_, _, h1⟩
  · exact ⟨h1, hL.has (seenL_mem hx)⟩
  · cases h1
theorem WrAt.rg {K : List OpT} (hK : DOk K) {nd k : Int} {kb : Bool} {id : Int} {is : Bool} (h : WrAt K nd k kb id is) : I64 id := by
  rcases h with ⟨_, rfl, _⟩ | ⟨_, k', h, _⟩
  · exact i64_0
  · exact h.rg hK
theorem made_ok {b : Int} {K : List OpT} {o x : OpT} (h : MakeIs b K o (x, 0)) (hK : DOk K) (hb0 : 0 ≤ b) (hb4 : b < 4) (hw : o.Wf) : MadeOk b K x := by
  have inn : I64 o.nd := ⟨hw.nd1, hw.nd2⟩
  have ino : I64 o.ot := ⟨hw.ot1, hw.ot2⟩
  unfold MakeIs at h
  split at h
  · split at h
    · obtain ⟨pb, hpb, h⟩ := h
      refine next_made h.symm hK hb0 hb4 (by simp) (by simp) i64_0 ino hw.nm1 nil_le fun his => ?_
      obtain ⟨_, _, _, _, h5⟩ := nextP_ok h.symm
      have e1 : x.k = 109 := by rw [h5]; rfl
      have e2 : x.nd = x.id := by rw [h5]; rfl
      have e3 : x.ot = o.ot := by rw [h5]; rfl
      refine ⟨fun _ => ⟨.inl e2, ?_⟩, fun hk => by omega, fun hk => by omega, fun hk => by omega⟩
      rw [e3]
      exact (hpb.1 his).imp id (·.imp id fun hh => hh.mono sub_snoc)
    · rename_i hn0
      obtain ⟨kb, pb, hkb, hpb, h⟩ := h
      unfold moveP at h
      split at h
      · have := congrArg Prod.snd h; cases this
      · refine next_made h.symm hK hb0 hb4 (by simp) (by simp) inn ino hw.nm1 nil_le fun his => ?_
        obtain ⟨_, _, _, _, h5⟩ := nextP_ok h.symm
        have hkp : kb = true ∧ pb = true := by simpa using his
        have e1 : x.k = 109 := by rw [h5]; rfl
        have e2 : x.nd = o.nd := by rw [h5]; unfold nextO; simp [hn0]
        have e3 : x.ot = o.ot := by rw [h5]; rfl
        refine ⟨fun _ => ⟨.inr (by rw [e2]; exact (hkb.1 hkp.1).mono sub_snoc), ?_⟩, fun hk => by omega, fun hk => by omega, fun hk => by omega⟩
        rw [e3]
        exact (hpb.1 hkp.2).imp id (·.imp id fun hh => hh.mono sub_snoc)
  · split at h
    · obtain ⟨kb, id, is, hkb, hWA, h⟩ := h
      refine next_made h.symm hK hb0 hb4 (by simp) (by simp) inn (hWA.rg hK) nil_le (show (1 : Nat) ≤ 100000 by omega) fun his => ?_
      obtain ⟨_, _, _, _, h5⟩ := nextP_ok h.symm
      have e1 : x.k = 105 := by rw [h5]; rfl
      have e2 : x.nd = o.nd := by rw [h5]; unfold nextO; simp
      have e3 : x.ot = id := by rw [h5]; rfl
      refine ⟨fun hk => by omega, fun _ => ?_, fun hk => by omega, fun hk => by omega⟩
      rw [e2, e3]
      rcases hWA with ⟨_, h0, h1⟩ | ⟨_, k', hLA, _⟩
      · exact ⟨(hkb.1 (by rw [← h1]; exact his)).mono sub_snoc, .inl h0⟩
      · rw [his] at hLA
        exact ⟨(hkb.1 hLA.let.1).mono sub_snoc, .inr (hLA.let.2.mono sub_snoc)⟩
    · split at h
      · obtain ⟨kb, id, is, hkb, hLA, h⟩ := h
        refine next_made h.symm hK hb0 hb4 (by simp) (by simp) inn (hLA.rg hK) nil_le nil_le fun his => ?_
        obtain ⟨_, _, _, _, h5⟩ := nextP_ok h.symm
        have e1 : x.k = 100 := by rw [h5]; rfl
        have e2 : x.nd = o.nd := by rw [h5]; unfold nextO; simp
        have e3 : x.ot = id := by rw [h5]; rfl
        refine ⟨fun hk => by omega, fun hk => by omega, fun _ => ?_, fun hk => by omega⟩
        rw [e2, e3]
        rw [his] at hLA
        exact ⟨(hkb.1 hLA.let.1).mono sub_snoc, hLA.let.2.mono sub_snoc⟩
      · obtain ⟨kb, hkb, h⟩ := h
        refine next_made h.symm hK hb0 hb4 (by simp) (by simp) inn i64_0 hw.nm1 hw.vl1 fun his => ?_
        obtain ⟨_, _, _, _, h5⟩ := nextP_ok h.symm
        have e1 : x.k = 115 := by rw [h5]; rfl
        have e2 : x.nd = o.nd := by rw [h5]; unfold nextO; simp
        refine ⟨fun hk => by omega, fun hk => by omega, fun hk => by omega, fun _ => ?_⟩
        rw [e2]
        exact (hkb.1 his).mono sub_snoc
/-- four replicas, and all operations that were made -/
structure FourR (H : List OpT) (Ks : Nat → List OpT) : Prop where
  all : All H
  ok : ∀ b, b < 4 → DOk (Ks b)
  rise : ∀ b, b < 4 → Rising (Ks b)
  sub : ∀ b, b < 4 → ∀ o ∈ Ks b, o ∈ H
  own : ∀ o ∈ H, ∃ b : Nat, b < 4 ∧ o.b = b ∧ o ∈ Ks b
def putK (Ks : Nat → List OpT) (b : Nat) (K : List OpT) : Nat → List OpT := fun a => if a = b then K else Ks a
theorem putK_self (Ks : Nat → List OpT) (b : Nat) (K : List OpT) : putK Ks b K b = K := if_pos rfl
theorem putK_other {Ks : Nat → List OpT} {a b : Nat} {K : List OpT} (h : a ≠ b) : putK Ks b K a = Ks a := if_neg h
theorem FourR.start : FourR [] (fun _ => []) := ⟨⟨by simp⟩, fun _ _ => DOk.nil, fun _ _ => List.Pairwise.nil, fun _ _ _ h => h, by simp⟩
theorem FourR.len {H : List OpT} {Ks : Nat → List OpT} (h : FourR H Ks) {b : Nat} (hb : b < 4) : (Ks b).length ≤ H.length := nodup_le (h.ok b hb).nod (h.sub b hb)
/-- one joins what another one has -/
theorem FourR.join {H : List OpT} {Ks : Nat → List OpT} (h : FourR H Ks) {a b : Nat} (ha : a < 4) (hb : b < 4) {l : List OpT} (hl : ∀ o, o ∈ Ks b ∨ o ∈ l ↔ o ∈ Ks b ∨ o ∈ Ks a) (hlen : H.length ≤ 400) :
    ∃ G, joinP (Ks b) l = .inr G ∧ FourR H (putK Ks b (sortOps (Ks b ++ G))) ∧ ∀ o, o ∈ sortOps (Ks b ++ G) ↔ o ∈ Ks b ∨ o ∈ Ks a := by
  obtain ⟨G, h1, h2, h3, h4⟩ := join_union h.all (h.ok b hb) (h.ok a ha) (h.sub b hb) (h.sub a ha) hlen hl
  have hm : ∀ o, o ∈ sortOps (Ks b ++ G) ↔ o ∈ Ks b ∨ o ∈ Ks a := fun o => by rw [sortOps_mem]; exact h4 o
  refine ⟨G, h1, ⟨h.all, fun c hc => ?_, fun c hc => ?_, fun c hc o ho => ?_, fun o ho => ?_⟩, hm⟩
  · by_cases e : c = b
    · rw [e, putK_self]; exact h2.sorted
    · rw [putK_other e]; exact h.ok c hc
  · by_cases e : c = b
    · rw [e, putK_self]; exact h2.rising
    · rw [putK_other e]; exact h.rise c hc
  · by_cases e : c = b
    · rw [e, putK_self] at ho
      exact ((hm o).1 ho).elim (h.sub b hb o) (h.sub a ha o)
    · rw [putK_other e] at ho; exact h.sub c hc o ho
  · obtain ⟨c, hc, h5, h6⟩ := h.own o ho
    refine ⟨c, hc, h5, ?_⟩
    by_cases e : c = b
    · rw [e, putK_self, hm]; rw [e] at h6; exact .inl h6
    · rw [putK_other e]; exact h6
/-- one makes an operation -/
theorem FourR.make {H : List OpT} {Ks : Nat → List OpT} (h : FourR H Ks) {b : Nat} (hb : b < 4) {x : OpT} (hx : MadeOk b (Ks b) x) :
    joinP (Ks b) [x] = .inr [x] ∧ sortOps (Ks b ++ [x]) = Ks b ++ [x] ∧ FourR (H ++ [x]) (putK Ks b (Ks b ++ [x])) := by
  have hup := rising_snoc (h.rise b hb) hx.time
  obtain ⟨h1, h2⟩ := join_one (h.ok b hb) hx.ok hup hx.len
  have hnew : ∀ o ∈ H, o.b = x.b → o.n = x.n → False := fun o ho e1 e2 => by
    obtain ⟨c, hc, h5, h6⟩ := h.own o ho
    have hcb : c = b := by have := hx.by'; omega
    rw [hcb] at h6
    have := ((nums_are (h.ok b hb) b o.n).1 ⟨o, h6, by rw [e1, hx.by'], rfl⟩).2
    have := hx.num
    omega
  refine ⟨h1, h2, ⟨⟨fun o ho p hp e1 e2 => ?_⟩, fun c hc => ?_, fun c hc => ?_, fun c hc o ho => ?_, fun o ho => ?_⟩⟩
  · rcases List.mem_append.1 ho with ho | ho <;> rcases List.mem_append.1 hp with hp | hp
    · exact h.all.num o ho p hp e1 e2
    · rw [List.mem_singleton.1 hp] at e1 e2; exact (hnew o ho e1 e2).elim
    · rw [List.mem_singleton.1 ho] at e1 e2; exact (hnew p hp e1.symm e2.symm).elim
    · rw [List.mem_singleton.1 ho, List.mem_singleton.1 hp]
  · by_cases e : c = b
    · rw [e, putK_self]; exact hx.ok
    · rw [putK_other e]; exact h.ok c hc
  · by_cases e : c = b
    · rw [e, putK_self]; exact hup
    · rw [putK_other e]; exact h.rise c hc
  · by_cases e : c = b
    · rw [e, putK_self] at ho
      rcases List.mem_append.1 ho with ho | ho
      · exact List.mem_append.2 (.inl (h.sub b hb o ho))
      · exact List.mem_append.2 (.inr ho)
    · rw [putK_other e] at ho; exact List.mem_append.2 (.inl (h.sub c hc o ho))
  · rcases List.mem_append.1 ho with ho | ho
    · obtain ⟨c, hc, h5, h6⟩ := h.own o ho
      refine ⟨c, hc, h5, ?_⟩
      by_cases e : c = b
      · rw [e, putK_self]; rw [e] at h6; exact List.mem_append.2 (.inl h6)
      · rw [putK_other e]; exact h6
    · rw [List.mem_singleton.1 ho]
      exact ⟨b, hb, hx.by', by rw [putK_self]; simp⟩
/-- who has all holds the same -/
theorem FourR.same {H : List OpT} {Ks : Nat → List OpT} (h : FourR H Ks) {a b : Nat} (ha : a < 4) (hb : b < 4) (h1 : ∀ o ∈ H, o ∈ Ks a) (h2 : ∀ o ∈ H, o ∈ Ks b) : Ks a = Ks b := by
  have e := sort_eq (h.ok a ha) (h.ok b hb) fun o => ⟨fun ho => h2 o (h.sub a ha o ho), fun ho => h1 o (h.sub b hb o ho)⟩
  rwa [sort_self (h.rise a ha), sort_self (h.rise b hb)] at e
end Go.Proofs.YtjekalilfhnpmaaGreatDoor
