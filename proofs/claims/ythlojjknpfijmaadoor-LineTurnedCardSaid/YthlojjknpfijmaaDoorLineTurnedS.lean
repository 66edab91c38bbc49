/- LineTurned: what stands at a round's head. -/
import Derived.Test.YthlojjknpfijmaaDoorLineK
import Derived.Test.YthlojjknpfijmaaDoorLineOrd
import Derived.Test.YthlojjknpfijmaaDoorRow
namespace Go.Proofs.YthlojjknpfijmaaDoor
open Go Go.RowKit Go.Shelf
set_option linter.unusedVariables false
set_option linter.unusedSimpArgs false
set_option maxHeartbeats 4000000
set_option maxRecDepth 100000
namespace lineTurned

/-- two lines, the numbers behind which letters stand, and which letters came -/
structure St (w0 : World) (OB DB LA LB n : Nat) (ofs : List Int) (dn : List Bool) (va : Value) (La : List Lt) (vb : Value) (Lb : List Lt) (w : World) : Prop where
  ofr : Rw intE 3 w0.heap.size (.slice (some ⟨OB, 0, none⟩) n n) ofs w
  dnr : Rw boolE 4 w0.heap.size (.slice (some ⟨DB, 0, none⟩) n n) dn w
  ka : LK w0 LA va La w
  kb : LK w0 LB vb Lb w
  ne : OB ≠ DB
  xa : ∀ k, Own LA va k → k ≠ OB ∧ k ≠ DB
  xb : ∀ k, Own LB vb k → k ≠ OB ∧ k ≠ DB
  ab : ∀ k, Own LA va k → ¬ Own LB vb k
theorem St.below {w0 w w' : World} {OB DB LA LB n : Nat} {ofs : List Int} {dn : List Bool} {va vb : Value} {La Lb : List Lt} (h : St w0 OB DB LA LB n ofs dn va La vb Lb w) (hb : Below w.heap.size w w') : St w0 OB DB LA LB n ofs dn va La vb Lb w' :=
  ⟨h.ofr.below hb, h.dnr.below hb, h.ka.below hb, h.kb.below hb, h.ne, h.xa, h.xb, h.ab⟩
theorem LK.frX {w0 w w' : World} {LB : Nat} {v : Value} {L : List Lt} {X : Nat → Prop} (h : LK w0 LB v L w) (hf : Fr X w w') (hx : ∀ k, Own LB v k → ¬ X k) (hx0 : ∀ k, X k → w0.heap.size ≤ k) : LK w0 LB v L w' :=
  ⟨hf.line h.st (hx LB (.inl rfl)) (fun k hk => hx k (.inr hk)), h.bel.trans (hf.below h.bel.size hx0)⟩
theorem own_new {LB : Nat} {v v' : Value} {w : World} (hn : ∀ k, v'.ownBlock = some k → v.ownBlock = some k ∨ w.heap.size ≤ k) {k : Nat} (hk : Own LB v' k) : Own LB v k ∨ w.heap.size ≤ k := by
  rcases hk with h | h
  · exact .inl (.inl h)
  · rcases hn k h with h | h
    · exact .inl (.inr h)
    · exact .inr h
theorem St.insA {w0 w w' : World} {OB DB LA LB n : Nat} {ofs : List Int} {dn : List Bool} {va vb va' : Value} {La Lb La' : List Lt} (h : St w0 OB DB LA LB n ofs dn va La vb Lb w) (hk : LK w0 LA va' La' w') (hf : Fr (Own LA va) w w') (hn : ∀ k, va'.ownBlock = some k → va.ownBlock = some k ∨ w.heap.size ≤ k) : St w0 OB DB LA LB n ofs dn va' La' vb Lb w' := by
  have ho := (h.ofr.lt OB rfl).2
  have hd := (h.dnr.lt DB rfl).2
  refine ⟨h.ofr.fr (X := Own LA va) hf.block (fun k e hx => ?_), h.dnr.fr (X := Own LA va) hf.block (fun k e hx => ?_), hk, LK.frX h.kb hf (fun k hb ha => h.ab k ha hb) (fun k hk => (h.ka.own_lt k hk).1), h.ne, fun k hk => ?_, h.xb, fun k hk hb => ?_⟩
  · simp [Value.ownBlock] at e; exact (h.xa k hx).1 e.symm
  · simp [Value.ownBlock] at e; exact (h.xa k hx).2 e.symm
  · rcases own_new hn hk with h1 | h1
    · exact h.xa k h1
    · constructor <;> omega
  · rcases own_new hn hk with h1 | h1
    · exact h.ab k h1 hb
    · have := (h.kb.own_lt k hb).2; omega
theorem St.swap {w0 w : World} {OB DB LA LB n : Nat} {ofs : List Int} {dn : List Bool} {va vb : Value} {La Lb : List Lt} (h : St w0 OB DB LA LB n ofs dn va La vb Lb w) : St w0 OB DB LB LA n ofs dn vb Lb va La w :=
  ⟨h.ofr, h.dnr, h.kb, h.ka, h.ne, h.xb, h.xa, fun k hb ha => h.ab k ha hb⟩
theorem St.setDone {w0 w : World} {OB DB LA LB n : Nat} {ofs : List Int} {dn : List Bool} {va vb : Value} {La Lb : List Lt} (h : St w0 OB DB LA LB n ofs dn va La vb Lb w) (k : Nat) : St w0 OB DB LA LB n ofs (dn.set k true) va La vb Lb (w.setCell ⟨DB, k, none⟩ (.bool true)) := by
  obtain ⟨h1, h2⟩ := h.dnr.stored (L' := dn.set k true) k (.bool true) (by simp) (boolE_set _ _ _)
  have hf : Fr (fun j => j = DB) w (w.setCell ⟨DB, k, none⟩ (.bool true)) := ⟨h2.os, h2.tape, h2.output, h2.size, fun j hj hx => h2.block j hj (by simp; exact hx)⟩
  exact ⟨h.ofr.fr hf.block (fun j e hx => by simp [Value.ownBlock] at e; exact h.ne (by omega)), h1, LK.frX h.ka hf (fun j hj hx => (h.xa j hj).2 hx) (fun j hj => by have := (h.dnr.lt DB rfl).1; omega), LK.frX h.kb hf (fun j hj hx => (h.xb j hj).2 hx) (fun j hj => by have := (h.dnr.lt DB rfl).1; omega), h.ne, h.xa, h.xb, h.ab⟩

/-- behind which letter letter k stands (0: none) -/
def ofN (bh : List Int) (k : Nat) : Nat := match bh[k]? with
  | some x => if 0 ≤ x ∧ x < k then 4 + x.toNat else 0
  | none => 0
theorem ofN_lt (bh : List Int) (k : Nat) : ofN bh k < 4 + k := by
  unfold ofN
  split
  · split <;> omega
  · omega
theorem ofN_ge (bh : List Int) (k : Nat) : ofN bh k = 0 ∨ 4 ≤ ofN bh k := by
  unfold ofN
  split
  · split <;> omega
  · omega
/-- the numbers in the making -/
def Ofs (bh : List Int) (n i : Nat) (ofs : List Int) : Prop := ofs.length = n ∧ ∀ j, j < n → ofs[j]? = some (if j < i then (ofN bh j : Int) else 0)
theorem Ofs.start (bh : List Int) (n : Nat) : Ofs bh n 0 (List.replicate n 0) := ⟨by simp, fun j hj => by rw [if_neg (by omega)]; simp [hj]⟩
theorem Ofs.keep {bh : List Int} {n i : Nat} {ofs : List Int} (h : Ofs bh n i ofs) (hz : ofN bh i = 0) : Ofs bh n (i + 1) ofs := ⟨h.1, fun j hj => by
  rw [h.2 j hj]
  by_cases e : j = i
  · subst e; rw [if_neg (by omega), if_pos (by omega), hz]; rfl
  · by_cases hlt : j < i
    · rw [if_pos hlt, if_pos (by omega)]
    · rw [if_neg hlt, if_neg (by omega)]⟩
theorem Ofs.set {bh : List Int} {n i : Nat} {ofs : List Int} (h : Ofs bh n i ofs) : Ofs bh n (i + 1) (ofs.set i (ofN bh i : Int)) := ⟨by simp [h.1], fun j hj => by
  by_cases e : j = i
  · subst e
    rw [if_pos (by omega), List.getElem?_set_self (by rw [h.1]; exact hj)]
  · rw [List.getElem?_set_ne (by omega), h.2 j hj]
    by_cases hlt : j < i
    · rw [if_pos hlt, if_pos (by omega)]
    · rw [if_neg hlt, if_neg (by omega)]⟩
/-- which letters came, as a function -/
def dnf (dn : List Bool) (k : Nat) : Bool := dn.getD k false
theorem dnf_set {dn : List Bool} {k n : Nat} (hl : dn.length = n) (hk : k < n) : dnf (dn.set k true) = fun j => if j = k then true else dnf dn j := by
  funext j
  unfold dnf
  by_cases e : j = k
  · subst e; simp [hl, hk]
  · simp [e, List.getElem?_set_ne (Ne.symm e)]
theorem dnf_at {dn : List Bool} {k : Nat} {b : Bool} (h : dn[k]? = some b) : dnf dn k = b := by unfold dnf; simp [h]
end lineTurned
end Go.Proofs.YthlojjknpfijmaaDoor
