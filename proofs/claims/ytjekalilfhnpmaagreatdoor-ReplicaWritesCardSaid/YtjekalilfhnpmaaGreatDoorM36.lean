/- Rows that come in with a property of each of their parts. -/
import Derived.Maps.AppendAt
import Derived.Test.YtjekalilfhnpmaaGreatDoorM08
import Derived.Test.YtjekalilfhnpmaaGreatDoorM34
import Derived.Test.YtjekalilfhnpmaaGreatDoorM35
namespace Go.Proofs.YtjekalilfhnpmaaGreatDoor
open Go Go.RowKit Go.Joins Go.ChangeShapes Go.WideShapes Go.Deep
set_option linter.unusedVariables false
set_option linter.unusedSimpArgs false
set_option maxHeartbeats 1000000
set_option maxRecDepth 100000
def subE {T : Type} (E : Enc T) (Pp : T → Prop) : Enc {x : T // Pp x} := ⟨fun x => E.cells x.1, E.k, fun x => E.len x.1, fun x v hv => E.one x.1 v hv⟩
theorem subE_row {T : Type} (E : Enc T) (Pp : T → Prop) : ∀ L : List {x : T // Pp x}, (subE E Pp).row L = E.row (L.map Subtype.val)
  | [] => rfl
  | x :: L => by
    have := subE_row E Pp L
    simp only [Enc.row, List.map_cons, List.flatMap_cons] at this ⊢
    rw [this]; rfl
theorem SlV.of_sub {T : Type} {E : Enc T} {Pp : T → Prop} {w : World} {v : Value} {L : List {x : T // Pp x}} (h : SlV (subE E Pp) w v L) : SlV E w v (L.map Subtype.val) := by
  rcases h with ⟨h1, h2⟩ | ⟨p, c, h1, h2, h3⟩
  · exact .inl ⟨h1, by rw [h2]; rfl⟩
  · refine .inr ⟨p, c, by rw [h1, List.length_map], by rw [List.length_map]; exact h2, fun j u hu => ?_⟩
    rw [← subE_row] at hu
    exact h3 j u hu
theorem open_rowsP {T H : Type} {enc : TypeId × Value → H} {P : Program} {W : World} {r : Reach} {b0 base : Nat} {t e : TypeId} {v : Value} {d : DataW H} {p : List MemPlace} (E : Enc T) (Pp : T → Prop)
    (ht : P.underlying t = some (.slice e)) (hk : P.cellsOf e = E.k)
    (hone : ∀ fuel cs y, cs.length = E.k → DataW.trod enc P W base (fun _ => true) true fuel e cs = some y → ∃ x : T, E.cells x = cs ∧ Pp x)
    (o : Value.okWide P W r b0 t v) (h : DataW.Trod enc P W base (fun _ => true) true t v d p) :
    ∃ A n c L, v = .slice A n c ∧ L.length = n ∧ SlV E W (.slice A n c) L ∧ c ≤ maxLen ∧ ∀ x ∈ L, Pp x := by
  obtain ⟨A, n, c, L, h1, h2, h3, h4⟩ := open_rows (subE E Pp) ht hk (fun fuel cs y hl ht => by
    obtain ⟨x, hx, hp⟩ := hone fuel cs y hl ht
    exact ⟨⟨x, hp⟩, hx⟩) o h
  refine ⟨A, n, c, L.map Subtype.val, h1, by rw [List.length_map, h2], h3.of_sub, h4, fun x hx => ?_⟩
  obtain ⟨y, _, rfl⟩ := List.mem_map.1 hx
  exact y.2
theorem open_opsP {H : Type} {enc : TypeId × Value → H} {W : World} {r : Reach} {b0 base : Nat} {v : Value} {d : DataW H} {p : List MemPlace}
    (o : Value.okWide Tryz.prog W r b0 36 v) (h : DataW.Trod enc Tryz.prog W base (fun _ => true) true 36 v d p) :
    ∃ A n c L, v = .slice A n c ∧ L.length = n ∧ SlV opE W (.slice A n c) L ∧ c ≤ maxLen ∧ ∀ x ∈ L, (x.nm.size ≤ 100000 → x.vl.size ≤ 100000 → x.Wf) :=
  open_rowsP opE _ Tryz.underlying36 (by kernel_rfl) (fun fuel cs y hl ht => by
    match cs, hl with
    | [c0, c1, c2, c3, c4, c5, c6, c7], _ =>
      obtain ⟨o, ho, hw⟩ := open_op_cells ht
      exact ⟨o, ho.symm, hw⟩) o h
end Go.Proofs.YtjekalilfhnpmaaGreatDoor
