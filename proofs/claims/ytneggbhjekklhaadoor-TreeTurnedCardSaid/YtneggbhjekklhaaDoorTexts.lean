/- Lists of texts of a call's own. -/
import Derived.Test.YtneggbhjekklhaaDoorGd
namespace Go.Proofs.YtneggbhjekklhaaDoor
open Go Go.RowKit
set_option linter.unusedVariables false
set_option linter.unusedSimpArgs false
set_option maxHeartbeats 4000000
set_option maxRecDepth 100000

theorem infoStr : (Tryd.prog.info? 9).map (fun i => (i.zero, i.size, i.bytes)) = some (some (.string ⟨#[]⟩), 1, 16) := by kernel_rfl
def strsV (xs : List (List UInt8)) : List Value := xs.map fun x => Value.string (S x)

/-- texts that lie one behind the other in a block -/
def TextsAt (w : World) (g : Nat) (xs : List (List UInt8)) : Prop := ∀ j x, xs[j]? = some x → w.cell? ⟨g, j, none⟩ = some (.string (S x))
theorem TextsAt.below {w w' : World} {g : Nat} {xs : List (List UInt8)} (h : TextsAt w g xs) (hl : g < w.heap.size) (hb : Below w.heap.size w w') : TextsAt w' g xs :=
  fun j x hx => (hb.cell hl).trans (h j x hx)

/-- a list of texts of the call's own, in the making -/
structure RSt (w0 : World) (v : Value) (xs : List (List UInt8)) (w : World) : Prop where
  own : w.ownsRow w0.heap.size 9 1 v xs.length (strsV xs)
  bel : Below w0.heap.size w0 w
theorem RSt.below {w0 w w' : World} {v : Value} {xs : List (List UInt8)} (h : RSt w0 v xs w) (hb : Below w.heap.size w w') : RSt w0 v xs w' :=
  ⟨h.own.kept (row := none) ⟨hb.os, hb.tape, hb.output, hb.size, fun k hk _ => hb.block k hk⟩ (by cases hv : v.ownBlock <;> simp), h.bel.trans (hb.mono h.bel.size)⟩
theorem RSt.app {w0 w w' : World} {v v' : Value} {xs : List (List UInt8)} {x : List UInt8} {o : Obj} (h : RSt w0 v xs w)
    (hown : w'.ownsRow w0.heap.size 9 1 v' (xs.length + 1) (strsV xs ++ [.string (S x)])) (hg : (w.alloc o).grownBy w' v.ownBlock) : RSt w0 v' (xs ++ [x]) w' := by
  have hb : Below w0.heap.size w0 w' := (h.bel.alloc h.bel.size o).grown hg (by have := h.bel.size; simp; omega) (fun k hk => (h.own.lt k hk).1)
  exact ⟨by simpa [strsV] using hown, hb⟩
theorem RSt.start (w : World) : RSt w (.slice none 0 0) [] w := ⟨World.ownsRow_nil _ _ _ _, Below.refl _ _⟩

/-- texts that a call hands back -/
def GivesTexts (xs : List (List UInt8)) (w : World) (e : Ending) (w' : World) : Prop :=
  ∃ g cap, e = .returned (.slice (some ⟨g, 0, none⟩) xs.length cap) ∧ w.heap.size ≤ g ∧ g < w'.heap.size ∧ xs.length ≤ cap ∧ TextsAt w' g xs ∧ Below w.heap.size w w'
theorem RSt.gives {w0 w : World} {v : Value} {xs : List (List UInt8)} (h : RSt w0 v xs w) (h0 : 0 < xs.length) : GivesTexts xs w0 (.returned v) w := by
  have hown := h.own
  rcases h.own.2 with ⟨_, hn⟩ | ⟨g, cap, cur, hv, hg, hh, hcap, hm, hsz, hcs⟩
  · omega
  · have ht : TextsAt w g xs := by
      intro j x hx
      have := hown.cells (g := g) (by rw [hv]; rfl) j (.string (S x)) (by rw [strsV, List.getElem?_map, hx]; rfl)
      rw [Addr.add_lit] at this
      simpa using this
    exact ⟨g, cap, by rw [hv], hg, World.block_lt_of_cell? _ _ (ht 0 _ (List.getElem?_eq_getElem h0)), hcap, ht, h.bel⟩

theorem extract_S (s : ByteArray) (i j : Nat) (h : j ≤ s.size) : s.extract i j = S ((s.data.toList.drop i).take (j - i)) := by
  apply ByteArray.ext
  apply Array.ext'
  simp [S, ByteArray.data_extract, Array.toList_extract, List.extract]

theorem byte_at (s : ByteArray) (i : Nat) (h : i < s.size) : s.data.toList[i]? = some s[i] := by
  rw [Array.getElem?_toList]
  exact Array.getElem?_eq_getElem h

end Go.Proofs.YtneggbhjekklhaaDoor
