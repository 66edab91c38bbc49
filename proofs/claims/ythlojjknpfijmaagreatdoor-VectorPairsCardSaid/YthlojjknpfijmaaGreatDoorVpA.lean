/- VectorPairs: the walk, first half. -/
import Derived.Test.YthlojjknpfijmaaGreatDoorVecRd
import Derived.Test.YthlojjknpfijmaaGreatDoorCounted
namespace Go.Proofs.YthlojjknpfijmaaGreatDoor
open Go Go.RowKit
namespace vectorPairs
set_option linter.unusedVariables false
set_option linter.unusedSimpArgs false
set_option maxHeartbeats 8000000
set_option maxRecDepth 100000

/-- vectors that lie in blocks -/
abbrev Vb := Nat × Int × Int × Int × Int
def VbAt (w : World) (x : Vb) : Prop := VecAt w x.1 x.2.1 x.2.2.1 x.2.2.2.1 x.2.2.2.2 ∧ x.1 < w.heap.size
/-- the state: vectors in blocks, the ground -/
structure Pw (F : Nat → Bool) (ea : Nat → Addr) (w0 : World) (L : List Vb) (w : World) : Prop where
  vs : ∀ x ∈ L, VbAt w x ∧ w0.heap.size ≤ x.1
  gd : Gd F ea w
  bel : Below w0.heap.size w0 w
theorem Pw.below {F : Nat → Bool} {ea : Nat → Addr} {w0 w w' : World} {L : List Vb} (h : Pw F ea w0 L w) (hb : Below w.heap.size w w') : Pw F ea w0 L w' :=
  ⟨fun x hx => ⟨⟨(h.vs x hx).1.1.below (h.vs x hx).1.2 hb, Nat.lt_of_lt_of_le (h.vs x hx).1.2 hb.size⟩, (h.vs x hx).2⟩, h.gd.below hb, h.bel.trans (hb.mono h.bel.size)⟩
theorem Pw.at {F : Nat → Bool} {ea : Nat → Addr} {w0 w : World} {L : List Vb} (h : Pw F ea w0 L w) (B : Nat) (a b c d : Int) (hm : (B, a, b, c, d) ∈ L) : VecAt w B a b c d := (h.vs _ hm).1.1
theorem Pw.lt {F : Nat → Bool} {ea : Nat → Addr} {w0 w : World} {L : List Vb} (h : Pw F ea w0 L w) (B : Nat) (a b c d : Int) (hm : (B, a, b, c, d) ∈ L) : B < w.heap.size := (h.vs _ hm).1.2
theorem Pw.new {F : Nat → Bool} {ea : Nat → Addr} {w0 w : World} {L : List Vb} (h : Pw F ea w0 L w) (a b c d : Int) (t : TypeId) : Pw F ea w0 ((w.heap.size, a, b, c, d) :: L) (w.alloc (.cells #[.int .i64 a, .int .i64 b, .int .i64 c, .int .i64 d] t)) := by
  have h' := h.below ((Below.refl _ _).alloc (Nat.le_refl _) (.cells #[.int .i64 a, .int .i64 b, .int .i64 c, .int .i64 d] t))
  refine ⟨fun x hx => ?_, h'.gd, h'.bel⟩
  rcases List.mem_cons.1 hx with rfl | hx
  · exact ⟨⟨⟨by simp [go_sem], by simp [go_sem], by simp [go_sem], by simp [go_sem]⟩, by simp⟩, h.bel.size⟩
  · exact h'.vs x hx
/-- a block of the call's own beside them is written -/
theorem Pw.set {F : Nat → Bool} {ea : Nat → Addr} {w0 w : World} {L : List Vb} (h : Pw F ea w0 L w) (hG0 : Gd F ea w0) (J o : Nat) (x : Value) (hJ : w0.heap.size ≤ J) (hn : ∀ y ∈ L, y.1 ≠ J) : Pw F ea w0 L (w.setCell ⟨J, o, none⟩ x) := by
  have hb : Below w0.heap.size w0 (w.setCell ⟨J, o, none⟩ x) := h.bel.setCell hJ _
  refine ⟨fun y hy => ⟨⟨?_, by have := (h.vs y hy).1.2; simpa using this⟩, (h.vs y hy).2⟩, hG0.below hb, hb⟩
  have hne := hn y hy
  have hv := (h.vs y hy).1.1
  exact ⟨(World.cell?_setCell_other _ _ _ _ (by simp [hne])).trans hv.1, (World.cell?_setCell_other _ _ _ _ (by simp [hne])).trans hv.2.1, (World.cell?_setCell_other _ _ _ _ (by simp [hne])).trans hv.2.2.1, (World.cell?_setCell_other _ _ _ _ (by simp [hne])).trans hv.2.2.2⟩

theorem tame_is (x : Bool) (a b c d : Int) (w : World) (hx : tameB a b c d = x) :
    Calls Tryz.prog 6 #[vecV a b c d] w fun r w' => r = .returned (.bool x) ∧ Below w.heap.size w w' := by
  subst hx
  exact tame_any a b c d w

theorem walk_off {F : Nat → Bool} (ea : Nat → Addr) (a b c d e f g h : Int) (s : ByteArray) (w : World) (hG : Gd F ea w) (f2 : F 2 = true) (f21 : F 21 = true)
    (hoff : 100 < s.size ∨ (s.size ≤ 100 ∧ tameB a b c d = false) ∨ (s.size ≤ 100 ∧ tameB a b c d = true ∧ tameB e f g h = false)) :
    Calls Tryz.prog 3 #[vecV a b c d, vecV e f g h, .string s] w fun r w' => r = .returned (.bool true) ∧ Below w.heap.size w w' := by
  have hP : Pw F ea w [(w.heap.size + 1, e, f, g, h), (w.heap.size, a, b, c, d)] ((w.alloc (.cells #[.int .i64 a, .int .i64 b, .int .i64 c, .int .i64 d] 22)).alloc (.cells #[.int .i64 e, .int .i64 f, .int .i64 g, .int .i64 h] 22)) := by
    have := ((Pw.mk (w0 := w) (L := []) (by simp) hG (Below.refl _ _)).new a b c d 22).new e f g h 22
    simpa using this
  have HP := Lib.hid hP
  clear hP hG
  rcases hoff with h1 | ⟨h1, h2⟩ | ⟨h1, h2, h3⟩
  · go_enter Tryz.func3, Tryz.ntmps3
    go_wp2_with fail
    refine (counted_any ea _ HP.out.gd f2 f21).mono ?_
    rintro r w1 ⟨rfl, hb⟩
    have hP := (HP.out.below hb).bel
    clear hb HP
    go_wp2_with fail
    go_ret
    exact ⟨by simp, hP⟩
  · have H2 := Lib.hid h2
    clear h2
    go_enter Tryz.func3, Tryz.ntmps3
    go_wp2_with fail
    refine (counted_any ea _ HP.out.gd f2 f21).mono ?_
    rintro r w1 ⟨rfl, hb⟩
    have hP := HP.out.below hb
    obtain ⟨x0, x1, x2, x3⟩ := hP.at w.heap.size a b c d (by simp)
    have hbel := hP.bel
    clear hb HP hP
    go_wp2_with fail
    refine (tame_is false a b c d _ H2.out).mono ?_
    rintro r w2 ⟨rfl, hb⟩
    have hbel2 := hbel.trans (hb.mono hbel.size)
    clear hb hbel x0 x1 x2 x3
    go_wp2_with fail
    go_ret
    exact ⟨by simp, hbel2⟩
  · have H2 := Lib.hid h2
    have H3 := Lib.hid h3
    clear h2 h3
    go_enter Tryz.func3, Tryz.ntmps3
    go_wp2_with fail
    refine (counted_any ea _ HP.out.gd f2 f21).mono ?_
    rintro r w1 ⟨rfl, hb⟩
    have hP := HP.out.below hb
    obtain ⟨x0, x1, x2, x3⟩ := hP.at w.heap.size a b c d (by simp)
    have HP1 := Lib.hid hP
    clear hb HP hP
    go_wp2_with fail
    refine (tame_is true a b c d _ H2.out).mono ?_
    rintro r w2 ⟨rfl, hb⟩
    have hP := HP1.out.below hb
    clear x0 x1 x2 x3
    obtain ⟨y0, y1, y2, y3⟩ := hP.at (w.heap.size + 1) e f g h (by simp)
    have hbel := hP.bel
    clear hb HP1 hP
    go_wp2_with fail
    refine (tame_is false e f g h _ H3.out).mono ?_
    rintro r w3 ⟨rfl, hb⟩
    have hbel2 := hbel.trans (hb.mono hbel.size)
    clear hb hbel y0 y1 y2 y3
    go_wp2_with fail
    go_ret
    exact ⟨by simp, hbel2⟩
end vectorPairs
end Go.Proofs.YthlojjknpfijmaaGreatDoor
