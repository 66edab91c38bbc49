/- Rows of structs: an append that says where the row lies; a slice of structs that comes in, opened with what each is. -/
import Derived.Test.YtneggbhjekklhaaDoorOpenR
import Derived.Test.YtneggbhjekklhaaDoorOpE
import Derived.Test.YtneggbhjekklhaaDoorOpOpen
import Derived.Maps.AppendAt
namespace Go.Proofs.YtneggbhjekklhaaDoor
open Go Go.RowKit Go.Joins Go.ChangeShapes Go.WideShapes Go.Deep
set_option linter.unusedVariables false
set_option linter.unusedSimpArgs false
set_option maxHeartbeats 1000000
set_option maxRecDepth 100000

theorem wpList_append_rows_at {T : Type} {P : Program} {w : World} {ops : Array Oper} {rest : List Oper} {o : Oper} {a : Act} {Q : Exit → Act → World → Prop} (hgd : o.guard = none) (s x : Operand) (t : TypeId)
    (ho : o.op = .call { callee := .builtin .append, args := #[s, x], argTypes := #[t, t] })
    (E : Enc T) (base : Nat) (e : TypeId) (z : Value) (bytes : Nat) (ht : P.underlying t = some (.slice e)) (hi : (P.info? e).map (fun i => (i.zero, i.size, i.bytes)) = some (some z, E.k, bytes))
    (hzs : z.cells.size = E.k) (hsz : 0 < E.k)
    (v u : Value) (L X : List T) (hs : a.eval s = v) (hx : a.eval x = u) (hown : Rw E e base v L w) (hu : SlV E w u X)
    (h63 : L.length + X.length ≤ maxLen) (hbytes : (L.length + X.length) * bytes ≤ 140737488355328) (hbase : base ≤ w.heap.size)
    (h : ∀ v' w', Rw E e base v' (L ++ X) w' → w.grownBy w' v.ownBlock → (v'.ownBlock = v.ownBlock ∨ v'.ownBlock = some w.heap.size) → wpList P ops Q rest (a.put o.dst v') w') : wpList P ops Q (o :: rest) a w := by
  obtain ⟨i, hi0, hz0, hz1, hz2⟩ : ∃ i, P.info? e = some i ∧ i.zero = some z ∧ i.size = E.k ∧ i.bytes = bytes := by
    cases hq : P.info? e with
    | none => simp [hq] at hi
    | some i => simp [hq] at hi; exact ⟨i, rfl, hi.1, hi.2.1, hi.2.2⟩
  rcases hu with ⟨rfl, rfl⟩ | ⟨p, c, rfl, h1, h3⟩
  · refine wpList_append_own_none hgd s x t ho base e i E.k ht hi0 v L.length (E.row L) hs hown hx (h v w ?_ ⟨rfl, rfl, rfl, Nat.le_refl _, fun _ _ _ => rfl⟩ (.inl rfl))
    rw [List.append_nil]
    exact hown
  · refine wpList_append_own_at w hgd s x t ho base e i z E.k bytes ht hi0 hz0 hz1 hz2 hzs hsz v L.length (E.row L) hs hown p X.length c (E.row X) hx (E.row_len X) h3 (E.row_one X) h63 hbytes hbase (fun v' w' h4 h5 _ h6 => h v' w' ?_ h5 h6)
    unfold Rw
    rw [List.length_append, Enc.row_app]
    exact h4

def subE {T : Type} (E : Enc T) (Pp : T → Prop) : Enc {x : T // Pp x} := ⟨fun x => E.cells x.1, E.k, fun x => E.len x.1, fun x v hv => E.one x.1 v hv⟩
theorem subE_row {T : Type} (E : Enc T) (Pp : T → Prop) : ∀ L : List {x : T // Pp x}, (subE E Pp).row L = E.row (L.map Subtype.val)
  | [] => rfl
  | x :: L => by
    have := subE_row E Pp L
    simp only [Enc.row, List.map_cons, List.flatMap_cons] at this ⊢
    rw [this]; rfl
theorem SlV.of_sub {T : Type} {E : Enc T} {Pp : T → Prop} {w : World} {v : Value} {L : List {x : T // Pp x}} (h : SlV (subE E Pp) w v L) : SlV E w v (L.map Subtype.val) := by
  rcases h with ⟨h1, h2⟩ | ⟨p, c, h1, h2, h3⟩
  · exact .inl ⟨h1, by rw [h2]; rfl⟩
  · refine .inr ⟨p, c, by rw [h1, List.length_map], by rw [List.length_map]; exact h2, fun j u hu => ?_⟩
    rw [← subE_row] at hu
    exact h3 j u hu
theorem open_rowsP {T H : Type} {enc : TypeId × Value → H} {P : Program} {W : World} {r : Reach} {b0 base : Nat} {t e : TypeId} {v : Value} {d : DataW H} {p : List MemPlace} (E : Enc T) (Pp : T → Prop)
    (ht : P.underlying t = some (.slice e)) (hk : P.cellsOf e = E.k)
    (hone : ∀ fuel cs y, cs.length = E.k → DataW.trod enc P W base (fun _ => true) true fuel e cs = some y → ∃ x : T, E.cells x = cs ∧ Pp x)
    (o : Value.okWide P W r b0 t v) (h : DataW.Trod enc P W base (fun _ => true) true t v d p) :
    ∃ A n c L, v = .slice A n c ∧ L.length = n ∧ SlV E W (.slice A n c) L ∧ c ≤ maxLen ∧ ∀ x ∈ L, Pp x := by
  obtain ⟨A, n, c, L, h1, h2, h3, h4⟩ := open_rows (subE E Pp) ht hk (fun fuel cs y hl ht => by
    obtain ⟨x, hx, hp⟩ := hone fuel cs y hl ht
    exact ⟨⟨x, hp⟩, hx⟩) o h
  refine ⟨A, n, c, L.map Subtype.val, h1, by rw [List.length_map, h2], h3.of_sub, h4, fun x hx => ?_⟩
  obtain ⟨y, _, rfl⟩ := List.mem_map.1 hx
  exact y.2
theorem open_opsP {H : Type} {enc : TypeId × Value → H} {W : World} {r : Reach} {b0 base : Nat} {v : Value} {d : DataW H} {p : List MemPlace}
    (o : Value.okWide Tryd.prog W r b0 22 v) (h : DataW.Trod enc Tryd.prog W base (fun _ => true) true 22 v d p) :
    ∃ A n c L, v = .slice A n c ∧ L.length = n ∧ SlV opE W (.slice A n c) L ∧ c ≤ maxLen ∧ ∀ x ∈ L, (x.nm.size ≤ 100000 → x.vl.size ≤ 100000 → x.Wf) :=
  open_rowsP opE _ Tryd.underlying22 (by kernel_rfl) (fun fuel cs y hl ht => by
    match cs, hl with
    | [c0, c1, c2, c3, c4, c5, c6, c7], _ =>
      obtain ⟨o, ho, hw⟩ := open_op_cells ht
      exact ⟨o, ho.symm, hw⟩) o h
end Go.Proofs.YtneggbhjekklhaaDoor
