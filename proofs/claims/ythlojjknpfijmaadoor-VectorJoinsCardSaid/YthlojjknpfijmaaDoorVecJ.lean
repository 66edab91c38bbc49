/- VectorJoins: the walk. -/
import Derived.Test.YthlojjknpfijmaaDoorCounted
namespace Go.Proofs.YthlojjknpfijmaaDoor
open Go Go.RowKit
namespace vectorJoins
set_option linter.unusedVariables false
set_option linter.unusedSimpArgs false
set_option maxHeartbeats 4000000
set_option maxRecDepth 100000

structure Fo (w0 : World) (X Y Z J : Nat) (a b c d e f g h i j k l m n o p : Int) (w : World) : Prop where
  v0 : VecAt w X a b c d
  l0 : X < w.heap.size
  v1 : VecAt w Y e f g h
  l1 : Y < w.heap.size
  v2 : VecAt w Z i j k l
  l2 : Z < w.heap.size
  v3 : VecAt w J m n o p
  l3 : J < w.heap.size
  bel : Below w0.heap.size w0 w
theorem Fo.below {w0 : World} {X Y Z J : Nat} {a b c d e f g h i j k l m n o p : Int} {w w' : World} (h0 : Fo w0 X Y Z J a b c d e f g h i j k l m n o p w) (hb : Below w.heap.size w w') : Fo w0 X Y Z J a b c d e f g h i j k l m n o p w' :=
  ⟨h0.v0.below h0.l0 hb, Nat.lt_of_lt_of_le h0.l0 hb.size, h0.v1.below h0.l1 hb, Nat.lt_of_lt_of_le h0.l1 hb.size, h0.v2.below h0.l2 hb, Nat.lt_of_lt_of_le h0.l2 hb.size, h0.v3.below h0.l3 hb, Nat.lt_of_lt_of_le h0.l3 hb.size, h0.bel.trans (hb.mono h0.bel.size)⟩
theorem Fo.limbs {w0 : World} {X Y Z J : Nat} {a b c d e f g h i j k l m n o p : Int} {w : World} (h0 : Fo w0 X Y Z J a b c d e f g h i j k l m n o p w) : w.cell? ⟨X, 0, none⟩ = some (.int .i64 a) ∧ w.cell? ⟨X, 1, none⟩ = some (.int .i64 b) ∧ w.cell? ⟨X, 2, none⟩ = some (.int .i64 c) ∧ w.cell? ⟨X, 3, none⟩ = some (.int .i64 d) ∧ w.cell? ⟨Y, 0, none⟩ = some (.int .i64 e) ∧ w.cell? ⟨Y, 1, none⟩ = some (.int .i64 f) ∧ w.cell? ⟨Y, 2, none⟩ = some (.int .i64 g) ∧ w.cell? ⟨Y, 3, none⟩ = some (.int .i64 h) ∧ w.cell? ⟨Z, 0, none⟩ = some (.int .i64 i) ∧ w.cell? ⟨Z, 1, none⟩ = some (.int .i64 j) ∧ w.cell? ⟨Z, 2, none⟩ = some (.int .i64 k) ∧ w.cell? ⟨Z, 3, none⟩ = some (.int .i64 l) ∧ w.cell? ⟨J, 0, none⟩ = some (.int .i64 m) ∧ w.cell? ⟨J, 1, none⟩ = some (.int .i64 n) ∧ w.cell? ⟨J, 2, none⟩ = some (.int .i64 o) ∧ w.cell? ⟨J, 3, none⟩ = some (.int .i64 p) ∧ Fo w0 X Y Z J a b c d e f g h i j k l m n o p w := ⟨h0.v0.1, h0.v0.2.1, h0.v0.2.2.1, h0.v0.2.2.2, h0.v1.1, h0.v1.2.1, h0.v1.2.2.1, h0.v1.2.2.2, h0.v2.1, h0.v2.2.1, h0.v2.2.2.1, h0.v2.2.2.2, h0.v3.1, h0.v3.2.1, h0.v3.2.2.1, h0.v3.2.2.2, h0⟩
theorem Fo.next {w0 : World} {X Y Z J : Nat} {a b c d e f g h i j k l m n o p : Int} {w w' : World} (hb : Below w.heap.size w w') (hs : w.cell? ⟨X, 0, none⟩ = some (.int .i64 a) ∧ w.cell? ⟨X, 1, none⟩ = some (.int .i64 b) ∧ w.cell? ⟨X, 2, none⟩ = some (.int .i64 c) ∧ w.cell? ⟨X, 3, none⟩ = some (.int .i64 d) ∧ w.cell? ⟨Y, 0, none⟩ = some (.int .i64 e) ∧ w.cell? ⟨Y, 1, none⟩ = some (.int .i64 f) ∧ w.cell? ⟨Y, 2, none⟩ = some (.int .i64 g) ∧ w.cell? ⟨Y, 3, none⟩ = some (.int .i64 h) ∧ w.cell? ⟨Z, 0, none⟩ = some (.int .i64 i) ∧ w.cell? ⟨Z, 1, none⟩ = some (.int .i64 j) ∧ w.cell? ⟨Z, 2, none⟩ = some (.int .i64 k) ∧ w.cell? ⟨Z, 3, none⟩ = some (.int .i64 l) ∧ w.cell? ⟨J, 0, none⟩ = some (.int .i64 m) ∧ w.cell? ⟨J, 1, none⟩ = some (.int .i64 n) ∧ w.cell? ⟨J, 2, none⟩ = some (.int .i64 o) ∧ w.cell? ⟨J, 3, none⟩ = some (.int .i64 p) ∧ Fo w0 X Y Z J a b c d e f g h i j k l m n o p w) : w'.cell? ⟨X, 0, none⟩ = some (.int .i64 a) ∧ w'.cell? ⟨X, 1, none⟩ = some (.int .i64 b) ∧ w'.cell? ⟨X, 2, none⟩ = some (.int .i64 c) ∧ w'.cell? ⟨X, 3, none⟩ = some (.int .i64 d) ∧ w'.cell? ⟨Y, 0, none⟩ = some (.int .i64 e) ∧ w'.cell? ⟨Y, 1, none⟩ = some (.int .i64 f) ∧ w'.cell? ⟨Y, 2, none⟩ = some (.int .i64 g) ∧ w'.cell? ⟨Y, 3, none⟩ = some (.int .i64 h) ∧ w'.cell? ⟨Z, 0, none⟩ = some (.int .i64 i) ∧ w'.cell? ⟨Z, 1, none⟩ = some (.int .i64 j) ∧ w'.cell? ⟨Z, 2, none⟩ = some (.int .i64 k) ∧ w'.cell? ⟨Z, 3, none⟩ = some (.int .i64 l) ∧ w'.cell? ⟨J, 0, none⟩ = some (.int .i64 m) ∧ w'.cell? ⟨J, 1, none⟩ = some (.int .i64 n) ∧ w'.cell? ⟨J, 2, none⟩ = some (.int .i64 o) ∧ w'.cell? ⟨J, 3, none⟩ = some (.int .i64 p) ∧ Fo w0 X Y Z J a b c d e f g h i j k l m n o p w' :=
  (hs.2.2.2.2.2.2.2.2.2.2.2.2.2.2.2.2.below hb).limbs

theorem join_yx (a b c d e f g h i j k l : Int) (w : World) : Calls Tryd.prog 21 #[vecV e f g h, vecV a b c d] w fun r w' => r = .returned (vecV (max a e) (max b f) (max c g) (max d h)) ∧ Below w.heap.size w w' :=
  (join_any e f g h a b c d w).mono fun _ _ ⟨he, hb⟩ => ⟨by rw [he, show max e a = max a e by omega, show max f b = max b f by omega, show max g c = max c g by omega, show max h d = max d h by omega], hb⟩
theorem join_xyz (a b c d e f g h i j k l : Int) (w : World) : Calls Tryd.prog 21 #[vecV a b c d, vecV (max e i) (max f j) (max g k) (max h l)] w fun r w' => r = .returned (vecV (max (max a e) i) (max (max b f) j) (max (max c g) k) (max (max d h) l)) ∧ Below w.heap.size w w' :=
  (join_any a b c d (max e i) (max f j) (max g k) (max h l) w).mono fun _ _ ⟨he, hb⟩ => ⟨by rw [he, show max a (max e i) = max (max a e) i by omega, show max b (max f j) = max (max b f) j by omega, show max c (max g k) = max (max c g) k by omega, show max d (max h l) = max (max d h) l by omega], hb⟩
theorem join_xx (a b c d e f g h i j k l : Int) (w : World) : Calls Tryd.prog 21 #[vecV a b c d, vecV a b c d] w fun r w' => r = .returned (vecV a b c d) ∧ Below w.heap.size w w' :=
  (join_any a b c d a b c d w).mono fun _ _ ⟨he, hb⟩ => ⟨by rw [he, show max a a = a by omega, show max b b = b by omega, show max c c = c by omega, show max d d = d by omega], hb⟩

theorem walk (a b c d e f g h i j k l m n o p q1 q2 q3 q4 u1 u2 u3 u4 : Int) (b1 b2 b3 : Bool) (w : World)
    (jxy : ∀ w, Calls Tryd.prog 21 #[vecV a b c d, vecV e f g h] w fun r w' => r = .returned (vecV m n o p) ∧ Below w.heap.size w w') (jyx : ∀ w, Calls Tryd.prog 21 #[vecV e f g h, vecV a b c d] w fun r w' => r = .returned (vecV m n o p) ∧ Below w.heap.size w w') (jmz : ∀ w, Calls Tryd.prog 21 #[vecV m n o p, vecV i j k l] w fun r w' => r = .returned (vecV q1 q2 q3 q4) ∧ Below w.heap.size w w') (jyz : ∀ w, Calls Tryd.prog 21 #[vecV e f g h, vecV i j k l] w fun r w' => r = .returned (vecV u1 u2 u3 u4) ∧ Below w.heap.size w w') (jxu : ∀ w, Calls Tryd.prog 21 #[vecV a b c d, vecV u1 u2 u3 u4] w fun r w' => r = .returned (vecV q1 q2 q3 q4) ∧ Below w.heap.size w w') (jxx : ∀ w, Calls Tryd.prog 21 #[vecV a b c d, vecV a b c d] w fun r w' => r = .returned (vecV a b c d) ∧ Below w.heap.size w w')
    (cjx : ∀ w, Calls Tryd.prog 22 #[vecV m n o p, vecV a b c d] w fun r w' => r = .returned (.bool true) ∧ Below w.heap.size w w') (cjy : ∀ w, Calls Tryd.prog 22 #[vecV m n o p, vecV e f g h] w fun r w' => r = .returned (.bool true) ∧ Below w.heap.size w w') (czx : ∀ w, Calls Tryd.prog 22 #[vecV i j k l, vecV a b c d] w fun r w' => r = .returned (.bool b1) ∧ Below w.heap.size w w') (czy : ∀ w, Calls Tryd.prog 22 #[vecV i j k l, vecV e f g h] w fun r w' => r = .returned (.bool b2) ∧ Below w.heap.size w w') (czj : ∀ w, Calls Tryd.prog 22 #[vecV i j k l, vecV m n o p] w fun r w' => r = .returned (.bool b3) ∧ Below w.heap.size w w') (cxy : ∀ w, Calls Tryd.prog 22 #[vecV a b c d, vecV e f g h] w fun r w' => r = .returned (.bool (m == a && n == b && o == c && p == d)) ∧ Below w.heap.size w w') (hb3 : b1 = true → b2 = true → b3 = true)
    {F : Nat → Bool} (ea : Nat → Addr) (hG : Gd F ea w) (f2 : F 2 = true) (f21 : F 21 = true) :
    Calls Tryd.prog 5 #[vecV a b c d, vecV e f g h, vecV i j k l] w fun r w' => r = .returned (.bool true) ∧ Below w.heap.size w w' := by
  have JXY := Lib.hid jxy
  have JYX := Lib.hid jyx
  have JMZ := Lib.hid jmz
  have JYZ := Lib.hid jyz
  have JXU := Lib.hid jxu
  have JXX := Lib.hid jxx
  have HG := Lib.hid hG
  have CJX := Lib.hid cjx
  have CJY := Lib.hid cjy
  have CZX := Lib.hid czx
  have CZY := Lib.hid czy
  have CZJ := Lib.hid czj
  have CXY := Lib.hid cxy
  have HB3 := Lib.hid hb3
  clear cjx cjy czx czy czj cxy hb3 jxy jyx jmz jyz jxu jxx hG
  go_enter Tryd.func5, Tryd.ntmps5
  go_wp2_with fail
  refine (counted_any ea _ (((HG.out.alloc _).alloc _).alloc _) f2 f21).mono ?_
  rintro r w1 ⟨rfl, hb1⟩
  have p0 : VecAt w1 w.heap.size a b c d := VecAt.below ⟨by simp [go_sem], by simp [go_sem], by simp [go_sem], by simp [go_sem]⟩ (by simp <;> omega) hb1
  have p1 : VecAt w1 (w.heap.size + 1) e f g h := VecAt.below ⟨by simp [go_sem], by simp [go_sem], by simp [go_sem], by simp [go_sem]⟩ (by simp <;> omega) hb1
  have p2 : VecAt w1 (w.heap.size + 1 + 1) i j k l := VecAt.below ⟨by simp [go_sem], by simp [go_sem], by simp [go_sem], by simp [go_sem]⟩ (by simp <;> omega) hb1
  have bel : Below w.heap.size w w1 := (((Below.refl _ w).alloc (Nat.le_refl _) _).alloc (by simp) _).alloc (by simp; omega) _ |>.trans (hb1.mono (by simp; omega))
  have hsz : w.heap.size + 1 + 1 < w1.heap.size := by have := hb1.size; simp at this; omega
  have hsz1 : w.heap.size + 1 < w1.heap.size := by omega
  have hsz0 : w.heap.size < w1.heap.size := by omega
  clear hb1
  obtain ⟨p00, p01, p02, p03⟩ := p0
  obtain ⟨p10, p11, p12, p13⟩ := p1
  obtain ⟨p20, p21, p22, p23⟩ := p2
  go_wp2_with fail
  refine (JXY.out _).mono ?_
  rintro r w2 ⟨rfl, hb2⟩
  go_wp2_with fail
  have hF : Fo w w1.heap.size (w1.heap.size + 1) (w1.heap.size + 1 + 1) w2.heap.size a b c d e f g h i j k l m n o p (w2.alloc (.cells #[.int .i64 m, .int .i64 n, .int .i64 o, .int .i64 p] 39)) := by
    have hs2 := hb2.size
    simp at hs2
    have hy : Fo w w1.heap.size (w1.heap.size + 1) (w1.heap.size + 1 + 1) w1.heap.size a b c d e f g h i j k l a b c d w2 := by
      refine Fo.below (w := ((w1.alloc (.cells #[.int .i64 a, .int .i64 b, .int .i64 c, .int .i64 d] 39)).alloc (.cells #[.int .i64 e, .int .i64 f, .int .i64 g, .int .i64 h] 39)).alloc (.cells #[.int .i64 i, .int .i64 j, .int .i64 k, .int .i64 l] 39)) ⟨?_, ?_, ?_, ?_, ?_, ?_, ?_, ?_, ?_⟩ hb2
      · exact ⟨by simp [go_sem], by simp [go_sem], by simp [go_sem], by simp [go_sem]⟩
      · simp; omega
      · exact ⟨by simp [go_sem], by simp [go_sem], by simp [go_sem], by simp [go_sem]⟩
      · simp
      · exact ⟨by simp [go_sem], by simp [go_sem], by simp [go_sem], by simp [go_sem]⟩
      · simp
      · exact ⟨by simp [go_sem], by simp [go_sem], by simp [go_sem], by simp [go_sem]⟩
      · simp; omega
      · exact ((bel.alloc (by omega) _).alloc (by simp; omega) _).alloc (by simp; omega) _
    have hz := hy.below ((Below.refl _ w2).alloc (Nat.le_refl _) (.cells #[.int .i64 m, .int .i64 n, .int .i64 o, .int .i64 p] 39))
    exact ⟨hz.v0, hz.l0, hz.v1, hz.l1, hz.v2, hz.l2, ⟨by simp [go_sem], by simp [go_sem], by simp [go_sem], by simp [go_sem]⟩, by simp, hz.bel⟩
  obtain ⟨W, hW⟩ : ∃ W, W = (w2.alloc (.cells #[.int .i64 m, .int .i64 n, .int .i64 o, .int .i64 p] 39)) := ⟨_, rfl⟩
  rw [← hW] at hF ⊢
  clear hW hb2 p00 p01 p02 p03 p10 p11 p12 p13 p20 p21 p22 p23 hsz hsz0 hsz1 bel
  go_region_held3 (fun w' => w'.cell? ⟨w1.heap.size, 0, none⟩ = some (.int .i64 a) ∧ w'.cell? ⟨w1.heap.size, 1, none⟩ = some (.int .i64 b) ∧ w'.cell? ⟨w1.heap.size, 2, none⟩ = some (.int .i64 c) ∧ w'.cell? ⟨w1.heap.size, 3, none⟩ = some (.int .i64 d) ∧ w'.cell? ⟨w1.heap.size + 1, 0, none⟩ = some (.int .i64 e) ∧ w'.cell? ⟨w1.heap.size + 1, 1, none⟩ = some (.int .i64 f) ∧ w'.cell? ⟨w1.heap.size + 1, 2, none⟩ = some (.int .i64 g) ∧ w'.cell? ⟨w1.heap.size + 1, 3, none⟩ = some (.int .i64 h) ∧ w'.cell? ⟨w1.heap.size + 1 + 1, 0, none⟩ = some (.int .i64 i) ∧ w'.cell? ⟨w1.heap.size + 1 + 1, 1, none⟩ = some (.int .i64 j) ∧ w'.cell? ⟨w1.heap.size + 1 + 1, 2, none⟩ = some (.int .i64 k) ∧ w'.cell? ⟨w1.heap.size + 1 + 1, 3, none⟩ = some (.int .i64 l) ∧ w'.cell? ⟨w2.heap.size, 0, none⟩ = some (.int .i64 m) ∧ w'.cell? ⟨w2.heap.size, 1, none⟩ = some (.int .i64 n) ∧ w'.cell? ⟨w2.heap.size, 2, none⟩ = some (.int .i64 o) ∧ w'.cell? ⟨w2.heap.size, 3, none⟩ = some (.int .i64 p) ∧ Fo w w1.heap.size (w1.heap.size + 1) (w1.heap.size + 1 + 1) w2.heap.size a b c d e f g h i j k l m n o p w') ((first | exact (hF.below (Below.drew (Below.refl _ _))).limbs | exact Fo.next (by assumption) (by assumption)))
    (first | (go_at_call 21; (with_reducible refine (JYX.out _).mono ?_); rintro r wB ⟨rfl, hbB⟩) | (go_at_call 21; (with_reducible refine (JXU.out _).mono ?_); rintro r wB ⟨rfl, hbB⟩) | (go_at_call 21; (with_reducible refine (JXX.out _).mono ?_); rintro r wB ⟨rfl, hbB⟩) | (go_at_call 21; (with_reducible refine (JYZ.out _).mono ?_); rintro r wB ⟨rfl, hbB⟩) | (go_at_call 21; (with_reducible refine (JMZ.out _).mono ?_); rintro r wB ⟨rfl, hbB⟩))
  rename_i hH
  have hF2 := And.right (And.right (And.right (And.right (And.right (And.right (And.right (And.right (And.right (And.right (And.right (And.right (And.right (And.right (And.right (And.right hH)))))))))))))))
  have HF := Lib.hid hF2
  clear hH hF hF2
  obtain ⟨⟨x0, x1, x2, x3⟩, _, ⟨y0, y1, y2, y3⟩, _, ⟨z0, z1, z2, z3⟩, _, ⟨j0, j1, j2, j3⟩, _, _⟩ := HF.out
  go_wp2_with fail
  refine (CJX.out _).mono ?_
  rintro r wa ⟨rfl, hb⟩
  have hF := HF.out.below hb
  clear x0 x1 x2 x3 y0 y1 y2 y3 z0 z1 z2 z3 j0 j1 j2 j3
  clear hb HF
  have HF := Lib.hid hF
  clear hF
  obtain ⟨⟨x0, x1, x2, x3⟩, _, ⟨y0, y1, y2, y3⟩, _, ⟨z0, z1, z2, z3⟩, _, ⟨j0, j1, j2, j3⟩, _, _⟩ := HF.out
  go_wp2_with fail
  refine (CJY.out _).mono ?_
  rintro r wb ⟨rfl, hb⟩
  have hF := HF.out.below hb
  clear x0 x1 x2 x3 y0 y1 y2 y3 z0 z1 z2 z3 j0 j1 j2 j3
  clear hb HF
  have HF := Lib.hid hF
  clear hF
  cases b1 with
  | false =>
    obtain ⟨⟨x0, x1, x2, x3⟩, _, ⟨y0, y1, y2, y3⟩, _, ⟨z0, z1, z2, z3⟩, _, ⟨j0, j1, j2, j3⟩, _, _⟩ := HF.out
    go_wp2_with fail
    refine (CZX.out _).mono ?_
    rintro r wc ⟨rfl, hb⟩
    have hF := HF.out.below hb
    clear x0 x1 x2 x3 y0 y1 y2 y3 z0 z1 z2 z3 j0 j1 j2 j3
    clear hb HF
    have HF := Lib.hid hF
    clear hF
    obtain ⟨⟨x0, x1, x2, x3⟩, _, ⟨y0, y1, y2, y3⟩, _, ⟨z0, z1, z2, z3⟩, _, ⟨j0, j1, j2, j3⟩, _, _⟩ := HF.out
    go_wp2_with fail
    clear x0 x1 x2 x3 y0 y1 y2 y3 z0 z1 z2 z3 j0 j1 j2 j3
    go_region_held3 (fun w' => w'.cell? ⟨w1.heap.size, 0, none⟩ = some (.int .i64 a) ∧ w'.cell? ⟨w1.heap.size, 1, none⟩ = some (.int .i64 b) ∧ w'.cell? ⟨w1.heap.size, 2, none⟩ = some (.int .i64 c) ∧ w'.cell? ⟨w1.heap.size, 3, none⟩ = some (.int .i64 d) ∧ w'.cell? ⟨w1.heap.size + 1, 0, none⟩ = some (.int .i64 e) ∧ w'.cell? ⟨w1.heap.size + 1, 1, none⟩ = some (.int .i64 f) ∧ w'.cell? ⟨w1.heap.size + 1, 2, none⟩ = some (.int .i64 g) ∧ w'.cell? ⟨w1.heap.size + 1, 3, none⟩ = some (.int .i64 h) ∧ w'.cell? ⟨w1.heap.size + 1 + 1, 0, none⟩ = some (.int .i64 i) ∧ w'.cell? ⟨w1.heap.size + 1 + 1, 1, none⟩ = some (.int .i64 j) ∧ w'.cell? ⟨w1.heap.size + 1 + 1, 2, none⟩ = some (.int .i64 k) ∧ w'.cell? ⟨w1.heap.size + 1 + 1, 3, none⟩ = some (.int .i64 l) ∧ w'.cell? ⟨w2.heap.size, 0, none⟩ = some (.int .i64 m) ∧ w'.cell? ⟨w2.heap.size, 1, none⟩ = some (.int .i64 n) ∧ w'.cell? ⟨w2.heap.size, 2, none⟩ = some (.int .i64 o) ∧ w'.cell? ⟨w2.heap.size, 3, none⟩ = some (.int .i64 p) ∧ Fo w w1.heap.size (w1.heap.size + 1) (w1.heap.size + 1 + 1) w2.heap.size a b c d e f g h i j k l m n o p w') (first | exact (HF.out.below (Below.drew (Below.refl _ _))).limbs | exact Fo.next (by assumption) (by assumption))
      (first | (go_at_call 21; (with_reducible refine (JXY.out _).mono ?_); rintro r wB ⟨rfl, hbB⟩) | (go_at_call 22; (with_reducible refine (CXY.out _).mono ?_); rintro r wB ⟨rfl, hbB⟩))
    all_goals
      rename_i hH
      have hbel := (And.right (And.right (And.right (And.right (And.right (And.right (And.right (And.right (And.right (And.right (And.right (And.right (And.right (And.right (And.right (And.right hH)))))))))))))))).bel
      clear hH
      go_wp2_with fail
      go_ret
      exact ⟨by simp, hbel⟩
  | true =>
    obtain ⟨⟨x0, x1, x2, x3⟩, _, ⟨y0, y1, y2, y3⟩, _, ⟨z0, z1, z2, z3⟩, _, ⟨j0, j1, j2, j3⟩, _, _⟩ := HF.out
    go_wp2_with fail
    refine (CZX.out _).mono ?_
    rintro r wc ⟨rfl, hb⟩
    have hF := HF.out.below hb
    clear x0 x1 x2 x3 y0 y1 y2 y3 z0 z1 z2 z3 j0 j1 j2 j3
    clear hb HF
    have HF := Lib.hid hF
    clear hF
    cases b2 with
    | false =>
      obtain ⟨⟨x0, x1, x2, x3⟩, _, ⟨y0, y1, y2, y3⟩, _, ⟨z0, z1, z2, z3⟩, _, ⟨j0, j1, j2, j3⟩, _, _⟩ := HF.out
      go_wp2_with fail
      refine (CZY.out _).mono ?_
      rintro r wd ⟨rfl, hb⟩
      have hF := HF.out.below hb
      clear x0 x1 x2 x3 y0 y1 y2 y3 z0 z1 z2 z3 j0 j1 j2 j3
      clear hb HF
      have HF := Lib.hid hF
      clear hF
      obtain ⟨⟨x0, x1, x2, x3⟩, _, ⟨y0, y1, y2, y3⟩, _, ⟨z0, z1, z2, z3⟩, _, ⟨j0, j1, j2, j3⟩, _, _⟩ := HF.out
      go_wp2_with fail
      clear x0 x1 x2 x3 y0 y1 y2 y3 z0 z1 z2 z3 j0 j1 j2 j3
      go_region_held3 (fun w' => w'.cell? ⟨w1.heap.size, 0, none⟩ = some (.int .i64 a) ∧ w'.cell? ⟨w1.heap.size, 1, none⟩ = some (.int .i64 b) ∧ w'.cell? ⟨w1.heap.size, 2, none⟩ = some (.int .i64 c) ∧ w'.cell? ⟨w1.heap.size, 3, none⟩ = some (.int .i64 d) ∧ w'.cell? ⟨w1.heap.size + 1, 0, none⟩ = some (.int .i64 e) ∧ w'.cell? ⟨w1.heap.size + 1, 1, none⟩ = some (.int .i64 f) ∧ w'.cell? ⟨w1.heap.size + 1, 2, none⟩ = some (.int .i64 g) ∧ w'.cell? ⟨w1.heap.size + 1, 3, none⟩ = some (.int .i64 h) ∧ w'.cell? ⟨w1.heap.size + 1 + 1, 0, none⟩ = some (.int .i64 i) ∧ w'.cell? ⟨w1.heap.size + 1 + 1, 1, none⟩ = some (.int .i64 j) ∧ w'.cell? ⟨w1.heap.size + 1 + 1, 2, none⟩ = some (.int .i64 k) ∧ w'.cell? ⟨w1.heap.size + 1 + 1, 3, none⟩ = some (.int .i64 l) ∧ w'.cell? ⟨w2.heap.size, 0, none⟩ = some (.int .i64 m) ∧ w'.cell? ⟨w2.heap.size, 1, none⟩ = some (.int .i64 n) ∧ w'.cell? ⟨w2.heap.size, 2, none⟩ = some (.int .i64 o) ∧ w'.cell? ⟨w2.heap.size, 3, none⟩ = some (.int .i64 p) ∧ Fo w w1.heap.size (w1.heap.size + 1) (w1.heap.size + 1 + 1) w2.heap.size a b c d e f g h i j k l m n o p w') (first | exact (HF.out.below (Below.drew (Below.refl _ _))).limbs | exact Fo.next (by assumption) (by assumption))
        (first | (go_at_call 21; (with_reducible refine (JXY.out _).mono ?_); rintro r wB ⟨rfl, hbB⟩) | (go_at_call 22; (with_reducible refine (CXY.out _).mono ?_); rintro r wB ⟨rfl, hbB⟩))
      all_goals
        rename_i hH
        have hbel := (And.right (And.right (And.right (And.right (And.right (And.right (And.right (And.right (And.right (And.right (And.right (And.right (And.right (And.right (And.right (And.right hH)))))))))))))))).bel
        clear hH
        go_wp2_with fail
        go_ret
        exact ⟨by simp, hbel⟩
    | true =>
      obtain rfl : b3 = true := by simpa using HB3.out
      obtain ⟨⟨x0, x1, x2, x3⟩, _, ⟨y0, y1, y2, y3⟩, _, ⟨z0, z1, z2, z3⟩, _, ⟨j0, j1, j2, j3⟩, _, _⟩ := HF.out
      go_wp2_with fail
      refine (CZY.out _).mono ?_
      rintro r wd ⟨rfl, hb⟩
      have hF := HF.out.below hb
      clear x0 x1 x2 x3 y0 y1 y2 y3 z0 z1 z2 z3 j0 j1 j2 j3
      clear hb HF
      have HF := Lib.hid hF
      clear hF
      obtain ⟨⟨x0, x1, x2, x3⟩, _, ⟨y0, y1, y2, y3⟩, _, ⟨z0, z1, z2, z3⟩, _, ⟨j0, j1, j2, j3⟩, _, _⟩ := HF.out
      go_wp2_with fail
      refine (CZJ.out _).mono ?_
      rintro r wf ⟨rfl, hb⟩
      have hF := HF.out.below hb
      clear x0 x1 x2 x3 y0 y1 y2 y3 z0 z1 z2 z3 j0 j1 j2 j3
      clear hb HF
      have HF := Lib.hid hF
      clear hF
      obtain ⟨⟨x0, x1, x2, x3⟩, _, ⟨y0, y1, y2, y3⟩, _, ⟨z0, z1, z2, z3⟩, _, ⟨j0, j1, j2, j3⟩, _, _⟩ := HF.out
      go_wp2_with fail
      clear x0 x1 x2 x3 y0 y1 y2 y3 z0 z1 z2 z3 j0 j1 j2 j3
      go_region_held3 (fun w' => w'.cell? ⟨w1.heap.size, 0, none⟩ = some (.int .i64 a) ∧ w'.cell? ⟨w1.heap.size, 1, none⟩ = some (.int .i64 b) ∧ w'.cell? ⟨w1.heap.size, 2, none⟩ = some (.int .i64 c) ∧ w'.cell? ⟨w1.heap.size, 3, none⟩ = some (.int .i64 d) ∧ w'.cell? ⟨w1.heap.size + 1, 0, none⟩ = some (.int .i64 e) ∧ w'.cell? ⟨w1.heap.size + 1, 1, none⟩ = some (.int .i64 f) ∧ w'.cell? ⟨w1.heap.size + 1, 2, none⟩ = some (.int .i64 g) ∧ w'.cell? ⟨w1.heap.size + 1, 3, none⟩ = some (.int .i64 h) ∧ w'.cell? ⟨w1.heap.size + 1 + 1, 0, none⟩ = some (.int .i64 i) ∧ w'.cell? ⟨w1.heap.size + 1 + 1, 1, none⟩ = some (.int .i64 j) ∧ w'.cell? ⟨w1.heap.size + 1 + 1, 2, none⟩ = some (.int .i64 k) ∧ w'.cell? ⟨w1.heap.size + 1 + 1, 3, none⟩ = some (.int .i64 l) ∧ w'.cell? ⟨w2.heap.size, 0, none⟩ = some (.int .i64 m) ∧ w'.cell? ⟨w2.heap.size, 1, none⟩ = some (.int .i64 n) ∧ w'.cell? ⟨w2.heap.size, 2, none⟩ = some (.int .i64 o) ∧ w'.cell? ⟨w2.heap.size, 3, none⟩ = some (.int .i64 p) ∧ Fo w w1.heap.size (w1.heap.size + 1) (w1.heap.size + 1 + 1) w2.heap.size a b c d e f g h i j k l m n o p w') (first | exact (HF.out.below (Below.drew (Below.refl _ _))).limbs | exact Fo.next (by assumption) (by assumption))
        (first | (go_at_call 21; (with_reducible refine (JXY.out _).mono ?_); rintro r wB ⟨rfl, hbB⟩) | (go_at_call 22; (with_reducible refine (CXY.out _).mono ?_); rintro r wB ⟨rfl, hbB⟩))
      all_goals
        rename_i hH
        have hbel := (And.right (And.right (And.right (And.right (And.right (And.right (And.right (And.right (And.right (And.right (And.right (And.right (And.right (And.right (And.right (And.right hH)))))))))))))))).bel
        clear hH
        go_wp2_with fail
        go_ret
        exact ⟨by simp, hbel⟩

theorem covers_is (a b c d e f g h : Int) (x : Bool) (hx : decide (e ≤ a ∧ f ≤ b ∧ g ≤ c ∧ h ≤ d) = x) (w : World) :
    Calls Tryd.prog 22 #[vecV a b c d, vecV e f g h] w fun r w' => r = .returned (.bool x) ∧ Below w.heap.size w w' := by
  subst hx
  exact covers_any a b c d e f g h w

theorem whole {F : Nat → Bool} (ea : Nat → Addr) (a b c d e f g h i j k l : Int) (w : World) (hG : Gd F ea w) (f2 : F 2 = true) (f21 : F 21 = true) :
    Calls Tryd.prog 5 #[vecV a b c d, vecV e f g h, vecV i j k l] w fun r w' => r = .returned (.bool true) ∧ Below w.heap.size w w' := by
  refine walk a b c d e f g h i j k l (max a e) (max b f) (max c g) (max d h) (max (max a e) i) (max (max b f) j) (max (max c g) k) (max (max d h) l) (max e i) (max f j) (max g k) (max h l)
    (decide (a ≤ i ∧ b ≤ j ∧ c ≤ k ∧ d ≤ l)) (decide (e ≤ i ∧ f ≤ j ∧ g ≤ k ∧ h ≤ l)) (decide (max a e ≤ i ∧ max b f ≤ j ∧ max c g ≤ k ∧ max d h ≤ l)) w
    (fun w => join_any a b c d e f g h w) (fun w => join_yx a b c d e f g h i j k l w) (fun w => join_any _ _ _ _ i j k l w) (fun w => join_any e f g h i j k l w)
    (fun w => join_xyz a b c d e f g h i j k l w) (fun w => join_xx a b c d e f g h i j k l w)
    (fun w => covers_is _ _ _ _ _ _ _ _ _ ?_ w) (fun w => covers_is _ _ _ _ _ _ _ _ _ ?_ w) (fun w => covers_is _ _ _ _ _ _ _ _ _ rfl w) (fun w => covers_is _ _ _ _ _ _ _ _ _ rfl w) (fun w => covers_is _ _ _ _ _ _ _ _ _ rfl w) (fun w => covers_is _ _ _ _ _ _ _ _ _ ?_ w) ?_ ea hG f2 f21
  · rw [decide_eq_true_iff]; omega
  · rw [decide_eq_true_iff]; omega
  · rw [Bool.eq_iff_iff]
    simp
    omega
  · intro h1 h2
    rw [decide_eq_true_iff] at h1 h2 ⊢
    omega
end vectorJoins
end Go.Proofs.YthlojjknpfijmaaDoor
