/- Vectors: one covers another. -/
import Derived.Test.YthlojjknpfijmaaGreatDoorVector
namespace Go.Proofs.YthlojjknpfijmaaGreatDoor
open Go Go.RowKit
set_option linter.unusedVariables false
set_option linter.unusedSimpArgs false
set_option maxHeartbeats 4000000
set_option maxRecDepth 100000

@[go_sem] theorem eqVec (a b c d e f g h : Int) (w : World) : (Op.equalIn 10000 25 (vecV a b c d) (vecV e f g h)).run Tryz.prog w = .ok (a == e && b == f && c == g && d == h) w := by
  have u3 := Tryz.underlying3
  have a3 := Tryz.isAgg3
  have z3 := Tryz.sizeOf3
  rw [show (10000 : Nat) = 9999 + 1 from rfl, Op.equalIn]
  simp only [Sem.run_bind, run_underlying Tryz.underlying25, Result.andThen_ok]
  simp only [Std.Legacy.Range.forIn_eq_forIn_range', Std.Legacy.Range.size, Nat.sub_zero, Nat.add_sub_cancel, Nat.div_one, List.range'_succ, List.range'_zero, List.forIn_cons, List.forIn_nil]
  go_simp
  by_cases h1 : a = e <;> by_cases h2 : b = f <;> by_cases h3 : c = g <;> by_cases h4 : d = h <;> simp [h1, h2, h3, h4]

structure Two (w0 : World) (B : Nat) (a b c d e f g h : Int) (w : World) : Prop where
  c0 : w.cell? ⟨B, 0, none⟩ = some (.int .i64 a)
  c1 : w.cell? ⟨B, 1, none⟩ = some (.int .i64 b)
  c2 : w.cell? ⟨B, 2, none⟩ = some (.int .i64 c)
  c3 : w.cell? ⟨B, 3, none⟩ = some (.int .i64 d)
  d0 : w.cell? ⟨B + 1, 0, none⟩ = some (.int .i64 e)
  d1 : w.cell? ⟨B + 1, 1, none⟩ = some (.int .i64 f)
  d2 : w.cell? ⟨B + 1, 2, none⟩ = some (.int .i64 g)
  d3 : w.cell? ⟨B + 1, 3, none⟩ = some (.int .i64 h)
  lt : B + 1 < w.heap.size
  bel : Below B w0 w
theorem Two.below {w0 : World} {B : Nat} {a b c d e f g h : Int} {w w' : World} (h0 : Two w0 B a b c d e f g h w) (hb : Below w.heap.size w w') : Two w0 B a b c d e f g h w' :=
  have hl := h0.lt
  ⟨(hb.cell (by show B < _; omega)).trans h0.c0, (hb.cell (by show B < _; omega)).trans h0.c1, (hb.cell (by show B < _; omega)).trans h0.c2, (hb.cell (by show B < _; omega)).trans h0.c3, (hb.cell (by show B + 1 < _; omega)).trans h0.d0, (hb.cell (by show B + 1 < _; omega)).trans h0.d1, (hb.cell (by show B + 1 < _; omega)).trans h0.d2, (hb.cell (by show B + 1 < _; omega)).trans h0.d3, Nat.lt_of_lt_of_le hl hb.size, h0.bel.trans (hb.mono (by omega))⟩
def Two.S (w0 : World) (B : Nat) (a b c d e f g h : Int) (w' : World) : Prop := w'.cell? ⟨B, 0, none⟩ = some (.int .i64 a) ∧ w'.cell? ⟨B, 1, none⟩ = some (.int .i64 b) ∧ w'.cell? ⟨B, 2, none⟩ = some (.int .i64 c) ∧ w'.cell? ⟨B, 3, none⟩ = some (.int .i64 d) ∧ w'.cell? ⟨B + 1, 0, none⟩ = some (.int .i64 e) ∧ w'.cell? ⟨B + 1, 1, none⟩ = some (.int .i64 f) ∧ w'.cell? ⟨B + 1, 2, none⟩ = some (.int .i64 g) ∧ w'.cell? ⟨B + 1, 3, none⟩ = some (.int .i64 h) ∧ Two w0 B a b c d e f g h w'
theorem Two.limbs {w0 : World} {B : Nat} {a b c d e f g h : Int} {w : World} (h0 : Two w0 B a b c d e f g h w) : Two.S w0 B a b c d e f g h w := ⟨h0.c0, h0.c1, h0.c2, h0.c3, h0.d0, h0.d1, h0.d2, h0.d3, h0⟩
theorem Two.next {w0 : World} {B : Nat} {a b c d e f g h : Int} {w w' : World} (hb : Below w.heap.size w w') (hs : w.cell? ⟨B, 0, none⟩ = some (.int .i64 a) ∧ w.cell? ⟨B, 1, none⟩ = some (.int .i64 b) ∧ w.cell? ⟨B, 2, none⟩ = some (.int .i64 c) ∧ w.cell? ⟨B, 3, none⟩ = some (.int .i64 d) ∧ w.cell? ⟨B + 1, 0, none⟩ = some (.int .i64 e) ∧ w.cell? ⟨B + 1, 1, none⟩ = some (.int .i64 f) ∧ w.cell? ⟨B + 1, 2, none⟩ = some (.int .i64 g) ∧ w.cell? ⟨B + 1, 3, none⟩ = some (.int .i64 h) ∧ Two w0 B a b c d e f g h w) : Two.S w0 B a b c d e f g h w' :=
  (hs.2.2.2.2.2.2.2.2.below hb).limbs

theorem covers_any (a b c d e f g h : Int) (w : World) :
    Calls Tryz.prog 8 #[vecV a b c d, vecV e f g h] w fun r w' => r = .returned (.bool (decide (e ≤ a ∧ f ≤ b ∧ g ≤ c ∧ h ≤ d))) ∧ Below w.heap.size w w' := by
  go_enter Tryz.func8, Tryz.ntmps8
  go_wp2_with fail
  obtain ⟨W, hW⟩ : ∃ W, W = ((w.alloc (.cells #[.int .i64 a, .int .i64 b, .int .i64 c, .int .i64 d] 25)).alloc (.cells #[.int .i64 e, .int .i64 f, .int .i64 g, .int .i64 h] 25)) := ⟨_, rfl⟩
  have hS : Two w w.heap.size a b c d e f g h W := by
    subst hW
    refine ⟨?_, ?_, ?_, ?_, ?_, ?_, ?_, ?_, ?_, ?_⟩
    iterate 9 (simp [go_sem])
    exact ((Below.refl _ w).alloc (Nat.le_refl _) _).alloc (by simp) _
  rw [← hW]
  clear hW
  go_region_held3 (fun w' => w'.cell? ⟨w.heap.size, 0, none⟩ = some (.int .i64 a) ∧ w'.cell? ⟨w.heap.size, 1, none⟩ = some (.int .i64 b) ∧ w'.cell? ⟨w.heap.size, 2, none⟩ = some (.int .i64 c) ∧ w'.cell? ⟨w.heap.size, 3, none⟩ = some (.int .i64 d) ∧ w'.cell? ⟨w.heap.size + 1, 0, none⟩ = some (.int .i64 e) ∧ w'.cell? ⟨w.heap.size + 1, 1, none⟩ = some (.int .i64 f) ∧ w'.cell? ⟨w.heap.size + 1, 2, none⟩ = some (.int .i64 g) ∧ w'.cell? ⟨w.heap.size + 1, 3, none⟩ = some (.int .i64 h) ∧ Two w w.heap.size a b c d e f g h w') ((first | exact (hS.below (Below.drew (Below.refl _ _))).limbs | exact Two.next (by assumption) (by assumption)))
    (first | (go_at_call 7; refine (join_any a b c d e f g h _).mono ?_; rintro r wB ⟨rfl, hbB⟩))
  go_wp2
  rename_i hH
  have hB := hH.2.2.2.2.2.2.2.2.bel
  clear hH hbB hS
  have hd : (max a e == a && max b f == b && max c g == c && max d h == d) = decide (e ≤ a ∧ f ≤ b ∧ g ≤ c ∧ h ≤ d) := by
    rw [Bool.eq_iff_iff]
    simp
    omega
  rw [hd]
  go_ret
  exact ⟨by simp, hB⟩

/-- four numbers lie in a block -/
def VecAt (w : World) (B : Nat) (a b c d : Int) : Prop := w.cell? ⟨B, 0, none⟩ = some (.int .i64 a) ∧ w.cell? ⟨B, 1, none⟩ = some (.int .i64 b) ∧ w.cell? ⟨B, 2, none⟩ = some (.int .i64 c) ∧ w.cell? ⟨B, 3, none⟩ = some (.int .i64 d)
theorem VecAt.below {w w' : World} {B : Nat} {a b c d : Int} (h : VecAt w B a b c d) (hl : B < w.heap.size) (hb : Below w.heap.size w w') : VecAt w' B a b c d :=
  ⟨(hb.cell hl).trans h.1, (hb.cell hl).trans h.2.1, (hb.cell hl).trans h.2.2.1, (hb.cell hl).trans h.2.2.2⟩

end Go.Proofs.YthlojjknpfijmaaGreatDoor
