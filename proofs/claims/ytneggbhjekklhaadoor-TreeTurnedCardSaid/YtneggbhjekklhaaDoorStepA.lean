/- Appends to rows of structs inside a region that draws its order. Of no program. -/
import Derived.Test.YtneggbhjekklhaaDoorRow
import Derived.Deep.RegionLawGrows
import Derived.Deep.AppendLies
namespace Go.Proofs.YtneggbhjekklhaaDoor
open Go Go.RowKit
set_option linter.unusedVariables false
set_option linter.unusedSimpArgs false
set_option maxHeartbeats 1000000
section
variable {T : Type} {P : Program}
theorem info_of {e : TypeId} {z : Value} {k bytes : Nat} (hi : (P.info? e).map (fun i => (i.zero, i.size, i.bytes)) = some (some z, k, bytes)) : ∃ i, P.info? e = some i ∧ i.zero = some z ∧ i.size = k ∧ i.bytes = bytes := by
  cases hq : P.info? e with
  | none => simp [hq] at hi
  | some i => simp [hq] at hi; exact ⟨i, rfl, hi.1, hi.2.1, hi.2.2⟩
/-- a full slice grows into a new row -/
theorem step_append_full {ops : Array Oper} {o : Oper} {a : Act} {w : World} {K : Act → World → Prop} {Q : Exit → Act → World → Prop} {E' : Prop}
    (hg : o.guard = none) (s x : Operand) (t : TypeId) (hop : o.op = Op.call { callee := Callee.builtin Builtin.append, args := #[s, x], argTypes := #[t, t] })
    (E : Enc T) (e : TypeId) (z : Value) (bytes : Nat) (ht : P.underlying t = some (.slice e)) (hi : (P.info? e).map (fun i => (i.zero, i.size, i.bytes)) = some (some z, E.k, bytes)) (hzs : z.cells.size = E.k) (hsz : 0 < E.k)
    (p : Addr) (n : Nat) (L : List T) (hs : a.eval s = .slice (some p) n n) (hL : SlV E w (.slice (some p) n n) L) (ad : Addr) (c : Nat) (y : T) (hx : a.eval x = .slice (some ad) 1 c) (hX : SlV E w (.slice (some ad) 1 c) [y])
    (b1 : n + 1 ≤ maxLen) (b2 : (n + 1) * bytes ≤ 140737488355328)
    (hK : ∀ v' w', Rw E e w.heap.size v' (L ++ [y]) w' → w.grownBy w' none → K (a.put o.dst v') w') :
    if Region.wanted o (yielded ops a.tmps) = true then Oper.wp P o a w K Q else E' := by
  obtain ⟨i, h2, h3, h4, h5⟩ := info_of hi
  have hl := hL.len
  rcases hL with ⟨he, _⟩ | ⟨p', c', he, hc1, hcs⟩
  · cases he
  · cases he
    rcases hX with ⟨he, _⟩ | ⟨ad', c'', he, _, hds⟩
    · cases he
    · cases he
      refine step_append_grows hg s x t hop e i z E.k bytes ht h2 h3 h4 h5 hzs hsz (some p) _ _ (E.row L) hs (fun h => by cases h) (E.row_len L) (fun b hb j u hu => by cases hb; exact hcs j u hu)
        ad 1 c (E.row [y]) hx (E.row_len [y]) hds (E.row_one [y]) (by omega) b1 b2 ?_
      intro v' w' ho hgr
      refine hK v' w' ?_ hgr
      unfold Rw
      rw [E.row_app, List.length_append]
      exact ho
/-- a row of the call's own -/
theorem step_append_rw {ops : Array Oper} {o : Oper} {a : Act} {w : World} {K : Act → World → Prop} {Q : Exit → Act → World → Prop} {E' : Prop}
    (hg : o.guard = none) (s x : Operand) (t : TypeId) (hop : o.op = Op.call { callee := Callee.builtin Builtin.append, args := #[s, x], argTypes := #[t, t] })
    (E : Enc T) (base : Nat) (e : TypeId) (z : Value) (bytes : Nat) (ht : P.underlying t = some (.slice e)) (hi : (P.info? e).map (fun i => (i.zero, i.size, i.bytes)) = some (some z, E.k, bytes)) (hzs : z.cells.size = E.k) (hsz : 0 < E.k)
    (v : Value) (L : List T) (hs : a.eval s = v) (hL : Rw E e base v L w) (ad : Addr) (c : Nat) (y : T) (hx : a.eval x = .slice (some ad) 1 c) (hX : SlV E w (.slice (some ad) 1 c) [y])
    (b1 : L.length + 1 ≤ maxLen) (b2 : (L.length + 1) * bytes ≤ 140737488355328) (hbase : base ≤ w.heap.size)
    (hK : ∀ v' w', Rw E e base v' (L ++ [y]) w' → w.grownBy w' v.ownBlock → (v'.ownBlock = v.ownBlock ∨ v'.ownBlock = some w.heap.size) → (∃ g n c, v' = .slice (some ⟨g, 0, none⟩) n c) → K (a.put o.dst v') w') :
    if Region.wanted o (yielded ops a.tmps) = true then Oper.wp P o a w K Q else E' := by
  obtain ⟨i, h2, h3, h4, h5⟩ := info_of hi
  rcases hX with ⟨he, _⟩ | ⟨ad', c'', he, _, hds⟩
  · cases he
  · cases he
    refine step_append_lies w hg s x t hop base e i z E.k bytes ht h2 h3 h4 h5 hzs hsz v L.length (E.row L) hs hL ad 1 c (E.row [y]) hx (E.row_len [y]) hds (E.row_one [y]) (by omega) b1 b2 hbase w.heap.size rfl ?_
    intro g' cap' w' ho hgr hat _
    refine hK _ w' ?_ hgr ?_ ⟨_, _, _, rfl⟩
    · unfold Rw
      rw [E.row_app, List.length_append]
      exact ho
    · rcases hat with h | h
      · exact .inl h.symm
      · exact .inr (by rw [h]; rfl)
end
end Go.Proofs.YtneggbhjekklhaaDoor
