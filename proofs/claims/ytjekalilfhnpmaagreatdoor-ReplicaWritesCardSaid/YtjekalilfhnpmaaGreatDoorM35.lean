/- A slice of structs that comes in, opened; acts; numbers. -/
import Derived.Deep.Slices
import Derived.Deep.Fields
import Derived.ChangeSame
import Derived.Test.YtjekalilfhnpmaaGreatDoorM04
namespace Go.Proofs.YtjekalilfhnpmaaGreatDoor
open Go Go.RowKit Go.Joins Go.ChangeShapes Go.WideShapes Go.Deep
set_option linter.unusedVariables false
set_option linter.unusedSimpArgs false
set_option maxHeartbeats 1000000
set_option maxRecDepth 100000
theorem open_rows {T H : Type} {enc : TypeId × Value → H} {P : Program} {W : World} {r : Reach} {b0 base : Nat} {t e : TypeId} {v : Value} {d : DataW H} {p : List MemPlace} (E : Enc T)
    (ht : P.underlying t = some (.slice e)) (hk : P.cellsOf e = E.k)
    (hone : ∀ fuel cs y, cs.length = E.k → DataW.trod enc P W base (fun _ => true) true fuel e cs = some y → ∃ x : T, E.cells x = cs)
    (o : Value.okWide P W r b0 t v) (h : DataW.Trod enc P W base (fun _ => true) true t v d p) :
    ∃ A n c L, v = .slice A n c ∧ L.length = n ∧ SlV E W (.slice A n c) L ∧ c ≤ maxLen := by
  obtain ⟨A, n, c, rfl⟩ := okWide_slice ht o
  obtain ⟨fuel, hf⟩ := h
  rcases Deep.open_slice ht hf with ⟨e, _⟩ | ⟨a, len, cap, m, k, D, Pl, e, _, hl, hc, hm, _, hx⟩
  · simp [Value.cells] at e
    obtain ⟨rfl, rfl, rfl⟩ := e
    exact ⟨none, 0, 0, [], rfl, rfl, SlV.nil, by unfold maxLen; omega⟩
  · simp [Value.cells] at e
    obtain ⟨rfl, e2, e3⟩ := e
    simp only [if_true] at hm
    subst e2 e3 hm
    obtain ⟨L, h1, h2⟩ := SlV.of_each (E := E) (w := W) (p := a) (n := n) hl (fun i hi => by
      obtain ⟨cs, hcs, htr⟩ := hx i (by omega)
      obtain ⟨_, hlen, hcell⟩ := World.cells?_some hcs
      rw [hk] at hlen hcell
      obtain ⟨x, hxx⟩ := hone _ cs _ hlen htr
      refine ⟨x, fun j u hu => ?_⟩
      rw [hxx] at hu
      have hj : j < E.k := by rw [← hlen]; exact (List.getElem?_eq_some_iff.1 hu).1
      have := hcell j hj
      rw [hu, add_add] at this
      exact this)
    exact ⟨_, n, _, L, rfl, h1, h2, hc⟩
theorem open_intsR {H : Type} {enc : TypeId × Value → H} {W : World} {r : Reach} {b0 base : Nat} {v : Value} {d : DataW H} {p : List MemPlace}
    (o : Value.okWide Tryz.prog W r b0 42 v) (h : DataW.Trod enc Tryz.prog W base (fun _ => true) true 42 v d p) :
    ∃ A n c L, v = .slice A n c ∧ L.length = n ∧ SlV intE W (.slice A n c) L ∧ c ≤ maxLen :=
  open_rows intE Tryz.underlying42 (by kernel_rfl) (fun fuel cs y hl ht => by
    match cs, hl with
    | [v], _ =>
      obtain ⟨z, q, _⟩ := DataW.trod_int Tryz.underlying3 ht
      simp at q
      exact ⟨z, by rw [q]; rfl⟩) o h
end Go.Proofs.YtjekalilfhnpmaaGreatDoor
