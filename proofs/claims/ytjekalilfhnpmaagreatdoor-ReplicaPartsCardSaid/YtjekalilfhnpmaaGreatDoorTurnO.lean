/- A slice of turns that comes in, opened. -/
import Derived.Test.YtjekalilfhnpmaaGreatDoorTurn
import Derived.Test.YtjekalilfhnpmaaGreatDoorM42
namespace Go.Proofs.YtjekalilfhnpmaaGreatDoor
open Go Go.RowKit Go.Joins Go.ChangeShapes Go.WideShapes Go.Deep
set_option linter.unusedVariables false
set_option linter.unusedSimpArgs false
set_option maxHeartbeats 1000000
set_option maxRecDepth 100000

theorem open_turns {H : Type} {enc : TypeId × Value → H} {W : World} {r : Reach} {b0 base : Nat} {v : Value} {d : DataW H} {p : List MemPlace}
    (o : Value.okWide Tryz.prog W r b0 41 v) (h : DataW.Trod enc Tryz.prog W base (fun _ => true) true 41 v d p) :
    ∃ A n c L, v = .slice A n c ∧ L.length = n ∧ SlV turnE W (.slice A n c) L ∧ c ≤ maxLen ∧ ∀ x ∈ L, (x.o.nm.size ≤ 100000 → x.o.vl.size ≤ 100000 → x.Wf) :=
  open_rowsP turnE _ Tryz.underlying41 (by kernel_rfl) (fun fuel cs y hl ht => by
    match cs, hl with
    | [c0, c1, c2, c3, c4, c5, c6, c7, c8, c9], _ =>
      have k3 : Tryz.prog.cellsOf 3 = 1 := by kernel_rfl
      have k8 : Tryz.prog.cellsOf 31 = 8 := by kernel_rfl
      obtain ⟨xs, n, _, hx, _, hlen, hg⟩ := DataW.trod_struct Tryz.underlying121 ht
      have g0 : DataW.trod enc Tryz.prog W base (fun _ => true) true n 3 (([c0, c1, c2, c3, c4, c5, c6, c7, c8, c9].drop 0).take (Tryz.prog.cellsOf 3)) = xs[0]? := hg 0 _ rfl
      have g1 : DataW.trod enc Tryz.prog W base (fun _ => true) true n 3 (([c0, c1, c2, c3, c4, c5, c6, c7, c8, c9].drop 1).take (Tryz.prog.cellsOf 3)) = xs[1]? := hg 1 _ rfl
      have g2 : DataW.trod enc Tryz.prog W base (fun _ => true) true n 31 (([c0, c1, c2, c3, c4, c5, c6, c7, c8, c9].drop 2).take (Tryz.prog.cellsOf 31)) = xs[2]? := hg 2 _ rfl
      rw [k3] at g0 g1
      rw [k8] at g2
      match xs, hlen with
      | [y0, y1, y2], _ =>
        obtain ⟨z0, q0, _, w0⟩ := DataW.trod_int Tryz.underlying3 g0
        obtain ⟨z1, q1, _, w1⟩ := DataW.trod_int Tryz.underlying3 g1
        obtain ⟨x2, q2, w2⟩ := open_op_cells (c0 := c2) (c1 := c3) (c2 := c4) (c3 := c5) (c4 := c6) (c5 := c7) (c6 := c8) (c7 := c9) g2
        simp at q0 q1
        simp only [OpT.cells, List.cons.injEq, and_true] at q2
        obtain ⟨rfl, rfl, rfl, rfl, rfl, rfl, rfl, rfl⟩ := q2
        subst q0 q1
        exact ⟨⟨z0, z1, x2⟩, rfl, fun h1 h2 => ⟨wf_i64 w0, wf_i64 w1, w2 h1 h2⟩⟩) o h
end Go.Proofs.YtjekalilfhnpmaaGreatDoor
