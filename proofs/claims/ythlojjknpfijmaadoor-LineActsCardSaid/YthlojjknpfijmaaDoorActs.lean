/- LineKeeps: the argument opened; a list that is too long. -/
import Derived.Test.YthlojjknpfijmaaDoorLineKeepsW
import Derived.Test.YthlojjknpfijmaaDoorOpenR
namespace Go.Proofs.YthlojjknpfijmaaDoor
open Go Go.RowKit Go.Joins Go.ChangeShapes Go.WideShapes Go.Deep
set_option linter.unusedVariables false
set_option linter.unusedSimpArgs false
set_option maxHeartbeats 1000000
set_option maxRecDepth 100000

def actE : Enc ActT := ⟨fun x => [.string x.kind, .int .i64 x.id, .int .i64 x.behind, .int .u8 x.c.toNat], 4, fun _ => rfl, fun x v hv => by simp only [List.mem_cons, List.not_mem_nil, or_false] at hv; rcases hv with rfl | rfl | rfl | rfl <;> rfl⟩
theorem actsAt_of {w : World} {A : Option Addr} {n c : Nat} {L : List ActT} (h : SlV actE w (.slice A n c) L) : ActsAt w A L := by
  cases hL : L with
  | nil => exact .inl rfl
  | cons y r =>
    obtain ⟨b, off, hA, hb, hc⟩ := h.at' (by decide) (i := 0) (x := y) (by rw [hL]; rfl)
    subst hA
    refine .inr ⟨b, off, rfl, hb, fun i x hx => ?_⟩
    obtain ⟨b', off', e, _, hcc⟩ := h.at' (by decide) (i := i) (x := x) (by rw [hL]; exact hx)
    cases e
    exact ⟨hcc 0 _ rfl, hcc 1 _ rfl, hcc 2 _ rfl, hcc 3 _ rfl⟩
theorem open_acts {H : Type} {enc : TypeId × Value → H} {W : World} {r : Reach} {b0 base : Nat} {v : Value} {d : DataW H} {p : List MemPlace}
    (o : Value.okWide Tryd.prog W r b0 33 v) (h : DataW.Trod enc Tryd.prog W base (fun _ => true) true 33 v d p) :
    ∃ A n c L, v = .slice A n c ∧ n = L.length ∧ ActsAt W A L := by
  obtain ⟨A, n, c, L, h1, h2, h3, _⟩ := open_rows actE Tryd.underlying33 (by kernel_rfl) (fun fuel cs y hl ht => by
    match cs, hl with
    | [c0, c1, c2, c3], _ =>
      have k3 : Tryd.prog.cellsOf 3 = 1 := by kernel_rfl
      have k5 : Tryd.prog.cellsOf 5 = 1 := by kernel_rfl
      have k9 : Tryd.prog.cellsOf 9 = 1 := by kernel_rfl
      obtain ⟨xs, n, _, hx, _, hlen, hg⟩ := DataW.trod_struct Tryd.underlying35 ht
      have g0 : DataW.trod enc Tryd.prog W base (fun _ => true) true n 9 (([c0, c1, c2, c3].drop 0).take (Tryd.prog.cellsOf 9)) = xs[0]? := hg 0 _ rfl
      have g1 : DataW.trod enc Tryd.prog W base (fun _ => true) true n 3 (([c0, c1, c2, c3].drop 1).take (Tryd.prog.cellsOf 3)) = xs[1]? := hg 1 _ rfl
      have g2 : DataW.trod enc Tryd.prog W base (fun _ => true) true n 3 (([c0, c1, c2, c3].drop 2).take (Tryd.prog.cellsOf 3)) = xs[2]? := hg 2 _ rfl
      have g3 : DataW.trod enc Tryd.prog W base (fun _ => true) true n 5 (([c0, c1, c2, c3].drop 3).take (Tryd.prog.cellsOf 5)) = xs[3]? := hg 3 _ rfl
      rw [k9] at g0
      rw [k3] at g1 g2
      rw [k5] at g3
      match xs, hlen with
      | [y0, y1, y2, y3], _ =>
        obtain ⟨s0, q0, _⟩ := DataW.trod_string Tryd.underlying9 g0
        obtain ⟨z1, q1, _⟩ := DataW.trod_int Tryd.underlying3 g1
        obtain ⟨z2, q2, _⟩ := DataW.trod_int Tryd.underlying3 g2
        obtain ⟨z3, q3, _, w3⟩ := DataW.trod_int Tryd.underlying5 g3
        simp at q0 q1 q2 q3
        have hw : 0 ≤ z3 ∧ z3 ≤ 255 := by
          have h' : (decide (0 ≤ z3) && decide (z3 ≤ 255)) = true := w3
          simpa using h'
        refine ⟨⟨s0, z1, z2, UInt8.ofNat z3.toNat⟩, ?_⟩
        have e3 : ((UInt8.ofNat z3.toNat).toNat : Int) = z3 := by
          rw [UInt8.toNat_ofNat']; omega
        simp only [actE, q0, q1, q2, q3, e3]) o h
  exact ⟨A, n, c, L, h1, h2.symm, actsAt_of (by exact h3)⟩

namespace lineKeeps
theorem walk_long {F : Nat → Bool} (a : Nat → Addr) (A : Option Addr) (n c : Nat) (w : World) (hG : Gd F a w) (f3 : F 3 = true) (f6 : F 6 = true) (f7 : F 7 = true) (hn : 60 < n) :
    Calls Tryd.prog 4 #[.slice A n c] w fun e w' => e = .returned (.bool true) ∧ Below w.heap.size w w' := by
  have HG := Lib.hid hG
  clear hG
  go_enter Tryd.func4, Tryd.ntmps4
  go_wp2_with fail
  refine (lined_any a w HG.out f3 f6 f7).mono ?_
  rintro e w1 ⟨rfl, hb1⟩
  have HB1 := Lib.hid hb1
  clear hb1
  have hn60 : (60 : Int) < (n : Int) := by omega
  go_wp2_with fail
  go_ret
  exact ⟨rfl, HB1.out⟩
theorem whole {F : Nat → Bool} (a : Nat → Addr) (A : Option Addr) (n c : Nat) (xs : List ActT) (w : World) (hG : Gd F a w) (f3 : F 3 = true) (f6 : F 6 = true) (f7 : F 7 = true) (hn : n = xs.length) (hx : ActsAt w A xs) :
    Calls Tryd.prog 4 #[.slice A n c] w fun e w' => e = .returned (.bool true) ∧ Below w.heap.size w w' := by
  by_cases h : n ≤ 60
  · exact walk a A n c xs w hG f3 f6 f7 hn hx h
  · exact walk_long a A n c w hG f3 f6 f7 (by omega)
end lineKeeps
end Go.Proofs.YthlojjknpfijmaaDoor
