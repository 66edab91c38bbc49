/- Numbers of a call's own, in the making. -/
import Derived.Test.YtbncfpljiihmnaaGreatDoorBase
import Derived.Laws.AppendOwn
namespace Go.Proofs.YtbncfpljiihmnaaGreatDoor
open Go Go.RowKit
set_option linter.unusedVariables false
set_option linter.unusedSimpArgs false
set_option maxHeartbeats 1000000
set_option maxRecDepth 100000

theorem infoInt : (Tryz.prog.info? 3).map (fun i => (i.zero, i.size, i.bytes)) = some (some (.int .i64 0), 1, 8) := by kernel_rfl
def intsV (xs : List Int) : List Value := xs.map fun x => Value.int .i64 x
/-- numbers of the call's own, in the making -/
structure ISt (w0 : World) (v : Value) (xs : List Int) (w : World) : Prop where
  own : w.ownsRow w0.heap.size 3 1 v xs.length (intsV xs)
  bel : Below w0.heap.size w0 w
theorem ISt.below {w0 w w' : World} {v : Value} {xs : List Int} (h : ISt w0 v xs w) (hb : Below w.heap.size w w') : ISt w0 v xs w' :=
  ⟨h.own.kept (row := none) ⟨hb.os, hb.tape, hb.output, hb.size, fun k hk _ => hb.block k hk⟩ (by cases hv : v.ownBlock <;> simp), h.bel.trans (hb.mono h.bel.size)⟩
theorem ISt.app {w0 w w' : World} {v v' : Value} {xs : List Int} {x : Int} {o : Obj} (h : ISt w0 v xs w)
    (hown : w'.ownsRow w0.heap.size 3 1 v' (xs.length + 1) (intsV xs ++ [.int .i64 x])) (hg : (w.alloc o).grownBy w' v.ownBlock) : ISt w0 v' (xs ++ [x]) w' := by
  have hb : Below w0.heap.size w0 w' := (h.bel.alloc h.bel.size o).grown hg (by have := h.bel.size; simp; omega) (fun k hk => (h.own.lt k hk).1)
  exact ⟨by simpa [intsV] using hown, hb⟩
theorem ISt.start (w : World) : ISt w (.slice none 0 0) [] w := ⟨World.ownsRow_nil _ _ _ _, Below.refl _ _⟩
theorem ISt.at {w0 w : World} {v : Value} {xs : List Int} (h : ISt w0 v xs w) (h0 : 0 < xs.length) : ∃ g cap, v = .slice (some ⟨g, 0, none⟩) xs.length cap ∧ w0.heap.size ≤ g ∧ g < w.heap.size ∧ xs.length ≤ cap ∧ ∀ j x, xs[j]? = some x → w.cell? ⟨g, j, none⟩ = some (.int .i64 x) := by
  have hown := h.own
  rcases h.own.2 with ⟨_, hn⟩ | ⟨g, cap, cur, hv, hg, hh, hcap, hm, hsz, hcs⟩
  · omega
  · have ht : ∀ j x, xs[j]? = some x → w.cell? ⟨g, j, none⟩ = some (.int .i64 x) := by
      intro j x hx
      have := hown.cells (g := g) (by rw [hv]; rfl) j (.int .i64 x) (by rw [intsV, List.getElem?_map, hx]; rfl)
      rw [Addr.add_lit] at this
      simpa using this
    exact ⟨g, cap, hv, hg, World.block_lt_of_cell? _ _ (ht 0 _ (List.getElem?_eq_getElem h0)), hcap, ht⟩

end Go.Proofs.YtbncfpljiihmnaaGreatDoor
