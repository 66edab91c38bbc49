/- Vectors: joined, covered. -/
import Derived.Test.YthlojjknpfijmaaGreatDoorBase
namespace Go.Proofs.YthlojjknpfijmaaGreatDoor
open Go Go.RowKit
set_option linter.unusedVariables false
set_option linter.unusedSimpArgs false
set_option maxHeartbeats 4000000
set_option maxRecDepth 100000

abbrev vecV (a b c d : Int) : Value := .agg #[.int .i64 a, .int .i64 b, .int .i64 c, .int .i64 d]

def jn (k j : Nat) (x y : Int) : Int := if k < j then (if x < y then y else x) else x

theorem cell_drew (w : World) (a : Addr) : w.drew.cell? a = w.cell? a := rfl

structure JSt (w0 : World) (B : Nat) (j : Nat) (a b c d e f g h : Int) (w : World) : Prop where
  c0 : w.cell? ⟨B, 0, none⟩ = some (.int .i64 (jn 0 j a e))
  c1 : w.cell? ⟨B, 1, none⟩ = some (.int .i64 (jn 1 j b f))
  c2 : w.cell? ⟨B, 2, none⟩ = some (.int .i64 (jn 2 j c g))
  c3 : w.cell? ⟨B, 3, none⟩ = some (.int .i64 (jn 3 j d h))
  d0 : w.cell? ⟨B + 1, 0, none⟩ = some (.int .i64 e)
  d1 : w.cell? ⟨B + 1, 1, none⟩ = some (.int .i64 f)
  d2 : w.cell? ⟨B + 1, 2, none⟩ = some (.int .i64 g)
  d3 : w.cell? ⟨B + 1, 3, none⟩ = some (.int .i64 h)
  r0 : w.cell? ⟨B + 1 + 1, 0, none⟩ = some (.int .i64 0)
  r1 : w.cell? ⟨B + 1 + 1, 1, none⟩ = some (.int .i64 0)
  r2 : w.cell? ⟨B + 1 + 1, 2, none⟩ = some (.int .i64 0)
  r3 : w.cell? ⟨B + 1 + 1, 3, none⟩ = some (.int .i64 0)
  fr : ∀ o, w.frozen? ⟨B, o, none⟩ = false
  fr2 : ∀ o, w.frozen? ⟨B + 1 + 1, o, none⟩ = false
  bel : Below B w0 w

theorem join_any (a b c d e f g h : Int) (w : World) :
    Calls Tryz.prog 7 #[vecV a b c d, vecV e f g h] w fun r w' => r = .returned (vecV (max a e) (max b f) (max c g) (max d h)) ∧ Below w.heap.size w w' := by
  go_enter Tryz.func7, Tryz.ntmps7
  go_wp2_with fail
  obtain ⟨W, hW⟩ : ∃ W, W = (((w.alloc (.cells #[.int .i64 a, .int .i64 b, .int .i64 c, .int .i64 d] 25)).alloc (.cells #[.int .i64 e, .int .i64 f, .int .i64 g, .int .i64 h] 25)).alloc (.cells #[.int .i64 0, .int .i64 0, .int .i64 0, .int .i64 0] 25)) := ⟨_, rfl⟩
  have hS : JSt w w.heap.size 0 a b c d e f g h W := by
    subst hW
    refine ⟨?_, ?_, ?_, ?_, ?_, ?_, ?_, ?_, ?_, ?_, ?_, ?_, ?_, ?_, ?_⟩
    iterate 12 (simp [go_sem, jn])
    · intro o; simp [go_sem]
    · intro o; simp [go_sem]
    · exact (((Below.refl _ w).alloc (Nat.le_refl _) _).alloc (by simp) _).alloc (by simp; omega) _
  rw [← hW]
  clear hW
  go_loopw [6] (fun v6 wr => ∃ j : Nat, j ≤ 4 ∧ v6 = .int .i64 j ∧ JSt w w.heap.size j a b c d e f g h wr) (fun v6 _ => 4 - (intOf v6).toNat)
  case atStart => exact ⟨0, by omega, rfl, hS⟩
  case round =>
    clear hS
    obtain ⟨j, hj, rfl, hS⟩ := hrel
    obtain ⟨c0, c1, c2, c3, d0, d1, d2, d3, r0, r1, r2, r3, fr, fr2, bel⟩ := hS
    match j, hj with
    | 0, _ =>
      simp only [jn] at c0 c1 c2 c3
      simp at c0 c1 c2 c3
      have f0 := fr 0
      go_wp2_with fail
      go_region
      go_wp2
      go_roundw
      case rel =>
        refine ⟨1, by omega, by go_num, ?_, ?_, ?_, ?_, ?_, ?_, ?_, ?_, ?_, ?_, ?_, ?_, ?_, ?_, ?_⟩
        · rw [cell_drew]; exact World.cell?_setCell_same _ _ _ c0
        · rw [cell_drew, World.cell?_setCell_other _ _ _ _ (by simp)]; exact c1
        · rw [cell_drew, World.cell?_setCell_other _ _ _ _ (by simp)]; exact c2
        · rw [cell_drew, World.cell?_setCell_other _ _ _ _ (by simp)]; exact c3
        · rw [cell_drew, World.cell?_setCell_other _ _ _ _ (by simp)]; exact d0
        · rw [cell_drew, World.cell?_setCell_other _ _ _ _ (by simp)]; exact d1
        · rw [cell_drew, World.cell?_setCell_other _ _ _ _ (by simp)]; exact d2
        · rw [cell_drew, World.cell?_setCell_other _ _ _ _ (by simp)]; exact d3
        · rw [cell_drew, World.cell?_setCell_other _ _ _ _ (by simp)]; exact r0
        · rw [cell_drew, World.cell?_setCell_other _ _ _ _ (by simp)]; exact r1
        · rw [cell_drew, World.cell?_setCell_other _ _ _ _ (by simp)]; exact r2
        · rw [cell_drew, World.cell?_setCell_other _ _ _ _ (by simp)]; exact r3
        · intro o; simpa [go_sem] using fr o
        · intro o; simpa [go_sem] using fr2 o
        · exact (bel.drew).setCell (by simp) _
      case measure => simp [intOf]
    | 1, _ =>
      simp only [jn] at c0 c1 c2 c3
      simp at c0 c1 c2 c3
      have f0 := fr 1
      go_wp2_with fail
      go_region
      go_wp2
      go_roundw
      case rel =>
        refine ⟨2, by omega, by go_num, ?_, ?_, ?_, ?_, ?_, ?_, ?_, ?_, ?_, ?_, ?_, ?_, ?_, ?_, ?_⟩
        · rw [cell_drew, World.cell?_setCell_other _ _ _ _ (by simp)]; exact c0
        · rw [cell_drew]; exact World.cell?_setCell_same _ _ _ c1
        · rw [cell_drew, World.cell?_setCell_other _ _ _ _ (by simp)]; exact c2
        · rw [cell_drew, World.cell?_setCell_other _ _ _ _ (by simp)]; exact c3
        · rw [cell_drew, World.cell?_setCell_other _ _ _ _ (by simp)]; exact d0
        · rw [cell_drew, World.cell?_setCell_other _ _ _ _ (by simp)]; exact d1
        · rw [cell_drew, World.cell?_setCell_other _ _ _ _ (by simp)]; exact d2
        · rw [cell_drew, World.cell?_setCell_other _ _ _ _ (by simp)]; exact d3
        · rw [cell_drew, World.cell?_setCell_other _ _ _ _ (by simp)]; exact r0
        · rw [cell_drew, World.cell?_setCell_other _ _ _ _ (by simp)]; exact r1
        · rw [cell_drew, World.cell?_setCell_other _ _ _ _ (by simp)]; exact r2
        · rw [cell_drew, World.cell?_setCell_other _ _ _ _ (by simp)]; exact r3
        · intro o; simpa [go_sem] using fr o
        · intro o; simpa [go_sem] using fr2 o
        · exact (bel.drew).setCell (by simp) _
      case measure => simp [intOf]
    | 2, _ =>
      simp only [jn] at c0 c1 c2 c3
      simp at c0 c1 c2 c3
      have f0 := fr 2
      go_wp2_with fail
      go_region
      go_wp2
      go_roundw
      case rel =>
        refine ⟨3, by omega, by go_num, ?_, ?_, ?_, ?_, ?_, ?_, ?_, ?_, ?_, ?_, ?_, ?_, ?_, ?_, ?_⟩
        · rw [cell_drew, World.cell?_setCell_other _ _ _ _ (by simp)]; exact c0
        · rw [cell_drew, World.cell?_setCell_other _ _ _ _ (by simp)]; exact c1
        · rw [cell_drew]; exact World.cell?_setCell_same _ _ _ c2
        · rw [cell_drew, World.cell?_setCell_other _ _ _ _ (by simp)]; exact c3
        · rw [cell_drew, World.cell?_setCell_other _ _ _ _ (by simp)]; exact d0
        · rw [cell_drew, World.cell?_setCell_other _ _ _ _ (by simp)]; exact d1
        · rw [cell_drew, World.cell?_setCell_other _ _ _ _ (by simp)]; exact d2
        · rw [cell_drew, World.cell?_setCell_other _ _ _ _ (by simp)]; exact d3
        · rw [cell_drew, World.cell?_setCell_other _ _ _ _ (by simp)]; exact r0
        · rw [cell_drew, World.cell?_setCell_other _ _ _ _ (by simp)]; exact r1
        · rw [cell_drew, World.cell?_setCell_other _ _ _ _ (by simp)]; exact r2
        · rw [cell_drew, World.cell?_setCell_other _ _ _ _ (by simp)]; exact r3
        · intro o; simpa [go_sem] using fr o
        · intro o; simpa [go_sem] using fr2 o
        · exact (bel.drew).setCell (by simp) _
      case measure => simp [intOf]
    | 3, _ =>
      simp only [jn] at c0 c1 c2 c3
      simp at c0 c1 c2 c3
      have f0 := fr 3
      go_wp2_with fail
      go_region
      go_wp2
      go_roundw
      case rel =>
        refine ⟨4, by omega, by go_num, ?_, ?_, ?_, ?_, ?_, ?_, ?_, ?_, ?_, ?_, ?_, ?_, ?_, ?_, ?_⟩
        · rw [cell_drew, World.cell?_setCell_other _ _ _ _ (by simp)]; exact c0
        · rw [cell_drew, World.cell?_setCell_other _ _ _ _ (by simp)]; exact c1
        · rw [cell_drew, World.cell?_setCell_other _ _ _ _ (by simp)]; exact c2
        · rw [cell_drew]; exact World.cell?_setCell_same _ _ _ c3
        · rw [cell_drew, World.cell?_setCell_other _ _ _ _ (by simp)]; exact d0
        · rw [cell_drew, World.cell?_setCell_other _ _ _ _ (by simp)]; exact d1
        · rw [cell_drew, World.cell?_setCell_other _ _ _ _ (by simp)]; exact d2
        · rw [cell_drew, World.cell?_setCell_other _ _ _ _ (by simp)]; exact d3
        · rw [cell_drew, World.cell?_setCell_other _ _ _ _ (by simp)]; exact r0
        · rw [cell_drew, World.cell?_setCell_other _ _ _ _ (by simp)]; exact r1
        · rw [cell_drew, World.cell?_setCell_other _ _ _ _ (by simp)]; exact r2
        · rw [cell_drew, World.cell?_setCell_other _ _ _ _ (by simp)]; exact r3
        · intro o; simpa [go_sem] using fr o
        · intro o; simpa [go_sem] using fr2 o
        · exact (bel.drew).setCell (by simp) _
      case measure => simp [intOf]
    | 4, _ =>
      simp only [jn] at c0 c1 c2 c3
      simp at c0 c1 c2 c3
      rw [show (if a < e then e else a) = max a e by omega] at c0
      rw [show (if b < f then f else b) = max b f by omega] at c1
      rw [show (if c < g then g else c) = max c g by omega] at c2
      rw [show (if d < h then h else d) = max d h by omega] at c3
      have q0 := fr2 0
      have q1 := fr2 1
      have q2 := fr2 2
      have q3 := fr2 3
      go_wp2
      obtain ⟨W, hW⟩ : ∃ W, W = ((((wr.setCell ⟨w.heap.size + 1 + 1, 0, none⟩ (.int .i64 (max a e))).setCell ⟨w.heap.size + 1 + 1, 1, none⟩ (.int .i64 (max b f))).setCell ⟨w.heap.size + 1 + 1, 2, none⟩ (.int .i64 (max c g))).setCell ⟨w.heap.size + 1 + 1, 3, none⟩ (.int .i64 (max d h))) := ⟨_, rfl⟩
      have hB : Below w.heap.size w W := by
        rw [hW]
        exact (((bel.setCell (by simp; omega) _).setCell (by simp; omega) _).setCell (by simp; omega) _).setCell (by simp; omega) _
      have e0 : W.cell? ⟨w.heap.size + 1 + 1, 0, none⟩ = some (.int .i64 (max a e)) := by
        rw [hW, World.cell?_setCell_other _ _ _ _ (by simp), World.cell?_setCell_other _ _ _ _ (by simp), World.cell?_setCell_other _ _ _ _ (by simp)]
        exact World.cell?_setCell_same _ _ _ r0
      have e1 : W.cell? ⟨w.heap.size + 1 + 1, 1, none⟩ = some (.int .i64 (max b f)) := by
        rw [hW, World.cell?_setCell_other _ _ _ _ (by simp), World.cell?_setCell_other _ _ _ _ (by simp)]
        exact World.cell?_setCell_same _ _ _ ((World.cell?_setCell_other _ _ _ _ (by simp)).trans r1)
      have e2 : W.cell? ⟨w.heap.size + 1 + 1, 2, none⟩ = some (.int .i64 (max c g)) := by
        rw [hW, World.cell?_setCell_other _ _ _ _ (by simp)]
        exact World.cell?_setCell_same _ _ _ ((World.cell?_setCell_other _ _ _ _ (by simp)).trans ((World.cell?_setCell_other _ _ _ _ (by simp)).trans r2))
      have e3 : W.cell? ⟨w.heap.size + 1 + 1, 3, none⟩ = some (.int .i64 (max d h)) := by
        rw [hW]
        exact World.cell?_setCell_same _ _ _ ((World.cell?_setCell_other _ _ _ _ (by simp)).trans ((World.cell?_setCell_other _ _ _ _ (by simp)).trans ((World.cell?_setCell_other _ _ _ _ (by simp)).trans r3)))
      rw [← hW]
      clear hW c0 c1 c2 c3 d0 d1 d2 d3 r0 r1 r2 r3 fr fr2 bel q0 q1 q2 q3
      (try simp only [Exit.inBlock, Exit.then])
      refine bodyPost_ret (by simp [results, Tryz.results7, go_sem, e0, e1, e2, e3]; try rfl) rfl ?_
      first | exact ⟨rfl, hB⟩ | exact ⟨by simp, hB⟩
    | j + 5, hj5 => omega
end Go.Proofs.YthlojjknpfijmaaGreatDoor
