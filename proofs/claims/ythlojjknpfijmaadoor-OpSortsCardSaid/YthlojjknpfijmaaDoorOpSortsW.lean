/- OpSorts: the walk of the law; a slice of operations that comes in, opened. -/
import Derived.Test.YthlojjknpfijmaaDoorOpSorted
import Derived.Test.YthlojjknpfijmaaDoorOpenR
import Derived.Test.YthlojjknpfijmaaDoorOpOpen
namespace Go.Proofs.YthlojjknpfijmaaDoor
open Go Go.RowKit Go.Shelf Go.Joins Go.ChangeShapes Go.WideShapes Go.Deep
set_option linter.unusedVariables false
set_option linter.unusedSimpArgs false
set_option maxHeartbeats 4000000
set_option maxRecDepth 100000

theorem open_opsR {H : Type} {enc : TypeId × Value → H} {W : World} {r : Reach} {b0 base : Nat} {v : Value} {d : DataW H} {p : List MemPlace}
    (o : Value.okWide Tryd.prog W r b0 56 v) (h : DataW.Trod enc Tryd.prog W base (fun _ => true) true 56 v d p) :
    ∃ A n c L, v = .slice A n c ∧ L.length = n ∧ SlV opE W (.slice A n c) L ∧ c ≤ maxLen :=
  open_rows opE Tryd.underlying56 (by kernel_rfl) (fun fuel cs y hl ht => by
    match cs, hl with
    | [c0, c1, c2, c3, c4, c5, c6, c7], _ =>
      obtain ⟨o, ho, _⟩ := open_op_cells ht
      exact ⟨o, ho.symm⟩) o h

theorem longOps_len {most : Nat} {L : List OpT} (h : longOps most L = false) : L.length ≤ most := by
  unfold longOps at h
  simp at h
  omega
namespace opSorts
theorem walk {F : Nat → Bool} (ea : Nat → Addr) (A : Option Addr) (n c : Nat) (L : List OpT) (w : World) (hG : Gd F ea w) (f2 : F 2 = true) (f3 : F 3 = true) (f4 : F 4 = true) (f5 : F 5 = true) (f21 : F 21 = true) (hs : SlV opE w (.slice A n c) L) (hc : c ≤ maxLen) :
    Calls Tryd.prog 8 #[.slice A n c] w fun e w' => e = .returned (.bool true) ∧ Below w.heap.size w w' := by
  have hcap := hs.cap
  have hl := hs.len
  have HS := Lib.hid hs
  have HL : Hid (∀ w', Below w.heap.size w w' → Calls Tryd.prog 30 #[.slice A n c, .int .i64 (100 : Nat)] w' fun e w'' => e = .returned (.int .i64 (if longOps 100 L then 1 else 0)) ∧ w'' = w') := Lib.hid fun w' hb => longOps_any A n c 100 L w' (hs.below hb) (by omega) (by omega)
  have HW := Lib.hid (written_any ea w hG f2 f3 f4 f5 f21)
  obtain ⟨lo, hlo⟩ : ∃ lo, longOps 100 L = lo := ⟨_, rfl⟩
  have HLo := Lib.hid hlo
  rw [hlo] at HL
  clear hG hs hlo hcap hl
  cases lo with
  | true =>
    go_enter Tryd.func8, Tryd.ntmps8
    go_wp2_with fail
    refine HW.out.mono ?_
    rintro r w1 ⟨rfl, hb⟩
    have HB1 := Lib.hid hb
    clear hb
    go_wp2_with fail
    refine (HL.out _ HB1.out).mono ?_
    rintro r w2 ⟨rfl, rfl⟩
    go_wp2_with fail
    go_ret
    exact ⟨rfl, HB1.out⟩
  | false =>
    have hn : L.length ≤ 100000 := by have := longOps_len HLo.out; omega
    go_enter Tryd.func8, Tryd.ntmps8
    go_wp2_with fail
    refine HW.out.mono ?_
    rintro r w1 ⟨rfl, hb⟩
    have HB1 := Lib.hid hb
    clear hb
    go_wp2_with fail
    refine (HL.out _ HB1.out).mono ?_
    rintro r w2 ⟨rfl, rfl⟩
    clear HL HW
    go_wp2_with fail
    refine (ownOps_any A n c L _ (HS.out.below HB1.out) hn).mono ?_
    rintro r w3 ⟨v3, rfl, h1, h2⟩
    have HR3 := Lib.hid h1
    have HB3 := Lib.hid (below_then HB1.out h2 HB1.out.size)
    clear h1 h2
    go_wp2_with fail
    refine (opSort_any v3 L _ HR3.out.sl hn).mono ?_
    rintro r w4 ⟨v4, rfl, h1, h2⟩
    obtain ⟨A4, n4, c4, rfl⟩ := h1.slice
    have HR4 := Lib.hid h1.sl
    have HB4 := Lib.hid (below_then HB3.out h2 HB3.out.size)
    clear h1 h2 HR3
    go_wp2_with fail
    refine (sortedOf_any A n c L _ (HS.out.below HB4.out) hn).mono ?_
    rintro r w5 ⟨v5, rfl, h1, h2⟩
    obtain ⟨A5, n5, c5, rfl⟩ := h1.slice
    have HR5 := Lib.hid h1.sl
    have HR45 := Lib.hid (HR4.out.below h2)
    have HB5 := Lib.hid (below_then HB4.out h2 HB4.out.size)
    clear h1 h2 HR4
    have hn2 : (sortOps L).length ≤ 100000 := by rw [sortL_len swo_opLt]; exact hn
    go_wp2_with fail
    refine (sameOps_any A4 A5 n4 c4 n5 c5 (sortOps L) _ HR45.out HR5.out hn2).mono ?_
    rintro r w6 ⟨rfl, h2⟩
    have HR46 := Lib.hid (HR45.out.below h2)
    have HB6 := Lib.hid (below_then HB5.out h2 HB5.out.size)
    clear h2 HR5 HR45
    go_wp2_with fail
    refine (opSort_any _ (sortOps L) _ HR46.out hn2).mono ?_
    rintro r w7 ⟨v7, rfl, h1, h2⟩
    obtain ⟨A7, n7, c7, rfl⟩ := h1.slice
    have h3 := h1.sl
    rw [show sortOps (sortOps L) = sortOps L from sortL_idem swo_opLt L] at h3
    have HR7 := Lib.hid h3
    have HR47 := Lib.hid (HR46.out.below h2)
    have HB7 := Lib.hid (below_then HB6.out h2 HB6.out.size)
    clear h1 h2 h3 HR46
    go_wp2_with fail
    refine (sameOps_any A7 A4 n7 c7 n4 c4 (sortOps L) _ HR7.out HR47.out hn2).mono ?_
    rintro r w8 ⟨rfl, h2⟩
    have HB8 := Lib.hid (below_then HB7.out h2 HB7.out.size)
    clear h2
    go_wp2_with fail
    go_ret
    exact ⟨rfl, HB8.out⟩
end opSorts
end Go.Proofs.YthlojjknpfijmaaDoor
