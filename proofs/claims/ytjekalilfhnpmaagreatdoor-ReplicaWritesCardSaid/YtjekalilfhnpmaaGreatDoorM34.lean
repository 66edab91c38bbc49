/- An operation that comes in, opened to its cells. -/
import Derived.Test.YtjekalilfhnpmaaGreatDoorM06
import Derived.Test.YtjekalilfhnpmaaGreatDoorM33
namespace Go.Proofs.YtjekalilfhnpmaaGreatDoor
open Go Go.RowKit Go.Joins Go.ChangeShapes Go.WideShapes Go.Deep
set_option linter.unusedVariables false
set_option linter.unusedSimpArgs false
set_option maxHeartbeats 1000000
set_option maxRecDepth 100000
theorem wf_i64 {x : Int} (h : (Lit.int .i64 x).wf = true) : -9223372036854775808 ≤ x ∧ x ≤ 9223372036854775807 := by
  have h' : (decide (-9223372036854775808 ≤ x) && decide (x ≤ 9223372036854775807)) = true := h
  simpa using h'
theorem wf_u8 {x : Int} (h : (Lit.int .u8 x).wf = true) : 0 ≤ x ∧ x ≤ 255 := by
  have h' : (decide (0 ≤ x) && decide (x ≤ 255)) = true := h
  simpa using h'
theorem open_op_cells {H : Type} {enc : TypeId × Value → H} {W : World} {base : Nat} {sp : Nat → Bool} {held : Bool} {fuel : Nat} {c0 c1 c2 c3 c4 c5 c6 c7 : Value} {x : DataW H × List MemPlace}
    (hf : DataW.trod enc Tryz.prog W base sp held fuel 31 [c0, c1, c2, c3, c4, c5, c6, c7] = some x) :
    ∃ o : OpT, [c0, c1, c2, c3, c4, c5, c6, c7] = o.cells.toList ∧ (o.nm.size ≤ 100000 → o.vl.size ≤ 100000 → o.Wf) := by
  have k44 : Tryz.prog.cellsOf 29 = 2 := by kernel_rfl
  have k3 : Tryz.prog.cellsOf 3 = 1 := by kernel_rfl
  have k5 : Tryz.prog.cellsOf 5 = 1 := by kernel_rfl
  have k9 : Tryz.prog.cellsOf 9 = 1 := by kernel_rfl
  obtain ⟨xs, n, _, hx, _, hlen, hg⟩ := DataW.trod_struct Tryz.underlying31 hf
  have g0 : DataW.trod enc Tryz.prog W base sp held n 29 (([c0, c1, c2, c3, c4, c5, c6, c7].drop 0).take (Tryz.prog.cellsOf 29)) = xs[0]? := hg 0 _ rfl
  have g1 : DataW.trod enc Tryz.prog W base sp held n 3 (([c0, c1, c2, c3, c4, c5, c6, c7].drop 2).take (Tryz.prog.cellsOf 3)) = xs[1]? := hg 1 _ rfl
  have g2 : DataW.trod enc Tryz.prog W base sp held n 5 (([c0, c1, c2, c3, c4, c5, c6, c7].drop 3).take (Tryz.prog.cellsOf 5)) = xs[2]? := hg 2 _ rfl
  have g3 : DataW.trod enc Tryz.prog W base sp held n 3 (([c0, c1, c2, c3, c4, c5, c6, c7].drop 4).take (Tryz.prog.cellsOf 3)) = xs[3]? := hg 3 _ rfl
  have g4 : DataW.trod enc Tryz.prog W base sp held n 3 (([c0, c1, c2, c3, c4, c5, c6, c7].drop 5).take (Tryz.prog.cellsOf 3)) = xs[4]? := hg 4 _ rfl
  have g5 : DataW.trod enc Tryz.prog W base sp held n 9 (([c0, c1, c2, c3, c4, c5, c6, c7].drop 6).take (Tryz.prog.cellsOf 9)) = xs[5]? := hg 5 _ rfl
  have g6 : DataW.trod enc Tryz.prog W base sp held n 9 (([c0, c1, c2, c3, c4, c5, c6, c7].drop 7).take (Tryz.prog.cellsOf 9)) = xs[6]? := hg 6 _ rfl
  match xs, hlen with
  | [y0, y1, y2, y3, y4, y5, y6], _ =>
    rw [k44] at g0
    rw [k3] at g1 g3 g4
    rw [k5] at g2
    rw [k9] at g5 g6
    obtain ⟨zs, m, _, hz, _, hzlen, hzg⟩ := DataW.trod_struct (cs := [c0, c1]) Tryz.underlying29 g0
    have z0 : DataW.trod enc Tryz.prog W base sp held m 3 ((([c0, c1] : List Value).drop 0).take (Tryz.prog.cellsOf 3)) = zs[0]? := hzg 0 _ rfl
    have z1 : DataW.trod enc Tryz.prog W base sp held m 3 ((([c0, c1] : List Value).drop 1).take (Tryz.prog.cellsOf 3)) = zs[1]? := hzg 1 _ rfl
    match zs, hzlen with
    | [s0, s1], _ =>
      rw [k3] at z0 z1
      obtain ⟨t, et, _, wt⟩ := DataW.trod_int Tryz.underlying3 z0
      obtain ⟨b, eb, _, wb⟩ := DataW.trod_int Tryz.underlying3 z1
      obtain ⟨nn, en, _, wn⟩ := DataW.trod_int Tryz.underlying3 g1
      obtain ⟨k, ek, _, wk⟩ := DataW.trod_int Tryz.underlying5 g2
      obtain ⟨nd, end', _, wnd⟩ := DataW.trod_int Tryz.underlying3 g3
      obtain ⟨ot, eot, _, wot⟩ := DataW.trod_int Tryz.underlying3 g4
      obtain ⟨nm, enm, _⟩ := DataW.trod_string Tryz.underlying9 g5
      obtain ⟨vl, evl, _⟩ := DataW.trod_string Tryz.underlying9 g6
      simp at et eb en ek end' eot enm evl
      subst et eb en ek end' eot enm evl
      have r1 := wf_i64 wt
      have r2 := wf_i64 wb
      have r3 := wf_i64 wn
      have r4 := wf_u8 wk
      have r5 := wf_i64 wnd
      have r6 := wf_i64 wot
      exact ⟨⟨t, b, nn, k, nd, ot, nm, vl⟩, rfl, fun h1 h2 => ⟨r1.1, r1.2, r2.1, r2.2, r3.1, r3.2, r4.1, r4.2, r5.1, r5.2, r6.1, r6.2, h1, h2⟩⟩
theorem open_op {H : Type} {enc : TypeId × Value → H} {W : World} {r : Reach} {b0 base : Nat} {sp : Nat → Bool} {held : Bool} {v : Value} {d : DataW H} {p : List MemPlace}
    (o : Value.okWide Tryz.prog W r b0 31 v) (h : DataW.Trod enc Tryz.prog W base sp held 31 v d p) :
    ∃ o : OpT, v = opV o ∧ (o.nm.size ≤ 100000 → o.vl.size ≤ 100000 → o.Wf) := by
  obtain ⟨cs, rfl, hsz⟩ := okWide_struct Tryz.underlying31 o
  obtain ⟨l⟩ := cs
  match l, hsz.trans (show Tryz.prog.cellsOf 31 = 8 by kernel_rfl) with
  | [c0, c1, c2, c3, c4, c5, c6, c7], _ =>
    obtain ⟨fuel, hf⟩ := h
    obtain ⟨o, ho, hw⟩ := open_op_cells hf
    refine ⟨o, ?_, hw⟩
    show Value.agg _ = Value.agg _
    congr 1
    exact Array.toList_inj.1 ho
end Go.Proofs.YtjekalilfhnpmaaGreatDoor
