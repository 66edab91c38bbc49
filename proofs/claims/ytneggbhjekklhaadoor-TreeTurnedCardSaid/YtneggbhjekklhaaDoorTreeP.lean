/- A tree of moves: what all moves make, one behind the other; no node lies in itself. The plain law. -/
import Derived.Test.YtneggbhjekklhaaDoorBase
namespace Go.Proofs.YtneggbhjekklhaaDoor
namespace Tree

variable {M : Type}

/-- where nodes lie: in which, by what name -/
abbrev Pl (M : Type) := Int → Option (Int × M)

/-- x lies, at whatever depth, in o -/
inductive Ins (p : Pl M) : Int → Int → Prop
  | here {x : Int} {v : Int × M} : p x = some v → Ins p x v.1
  | up {x o : Int} {v : Int × M} : p x = some v → Ins p v.1 o → Ins p x o

/-- a move: its node, where it goes, by what name -/
structure Mv (M : Type) where
  node : Int
  into : Int
  name : M

def put (p : Pl M) (x : Int) (v : Option (Int × M)) : Pl M := fun y => if y = x then v else p y

open Classical in
/-- does the move do anything -/
noncomputable def goes (p : Pl M) (m : Mv M) : Bool := decide (m.node ≠ m.into ∧ ¬ Ins p m.into m.node)

noncomputable def move (p : Pl M) (m : Mv M) : Pl M := if goes p m then put p m.node (some (m.into, m.name)) else p

/-- nothing lies in itself: each node has a depth -/
def Deep (p : Pl M) (d : Int → Nat) : Prop := ∀ x v, p x = some v → d v.1 < d x
def Acyc (p : Pl M) : Prop := ∃ d, Deep p d

theorem Ins.deep {p : Pl M} {d : Int → Nat} (hd : Deep p d) {x o : Int} (h : Ins p x o) : d o < d x := by
  induction h with
  | here h => exact hd _ _ h
  | up h _ ih => exact Nat.lt_trans ih (hd _ _ h)

theorem Acyc.irr {p : Pl M} (h : Acyc p) (x : Int) : ¬ Ins p x x := fun hi => by
  obtain ⟨d, hd⟩ := h
  exact Nat.lt_irrefl _ (hi.deep hd)

theorem Ins.none {p : Pl M} {x o : Int} (h : p x = none) : ¬ Ins p x o := by
  intro hi
  cases hi with
  | here h' => rw [h] at h'; cases h'
  | up h' _ => rw [h] at h'; cases h'

theorem Ins.some {p : Pl M} {x o : Int} {v : Int × M} (h : p x = some v) : Ins p x o ↔ v.1 = o ∨ Ins p v.1 o := by
  constructor
  · intro hi
    cases hi with
    | here h' => rw [h] at h'; cases h'; exact .inl rfl
    | up h' hi => rw [h] at h'; cases h'; exact .inr hi
  · rintro (rfl | hi)
    · exact .here h
    · exact .up h hi

theorem Acyc.empty : Acyc (fun _ => none : Pl M) := ⟨fun _ => 0, fun _ _ h => by cases h⟩

open Classical in
theorem Acyc.move {p : Pl M} (h : Acyc p) (m : Mv M) : Acyc (move p m) := by
  unfold Tree.move
  by_cases hg : goes p m = true
  · rw [if_pos hg]
    unfold goes at hg
    simp only [decide_eq_true_eq] at hg
    obtain ⟨d, hd⟩ := h
    refine ⟨fun x => if x = m.node ∨ Ins p x m.node then d x + d m.into + 1 else d x, ?_⟩
    intro x v hv
    unfold put at hv
    by_cases hx : x = m.node
    · rw [if_pos hx] at hv
      cases hv
      simp only
      rw [if_neg (by
        rintro (h1 | h1)
        · exact hg.1 h1.symm
        · exact hg.2 h1), if_pos (.inl hx)]
      omega
    · rw [if_neg hx] at hv
      have hlt := hd x v hv
      simp only
      by_cases h1 : v.1 = m.node ∨ Ins p v.1 m.node
      · rw [if_pos h1, if_pos (.inr ((Ins.some hv).2 h1))]
        omega
      · rw [if_neg h1]
        split <;> omega
  · rw [if_neg hg]
    exact h

/-- all moves of a list, one behind the other -/
noncomputable def replay : Pl M → List (Mv M) → Pl M
  | p, [] => p
  | p, m :: l => replay (move p m) l

theorem replay_append (p : Pl M) (a b : List (Mv M)) : replay p (a ++ b) = replay (replay p a) b := by
  induction a generalizing p with
  | nil => rfl
  | cons m a ih => exact ih _

theorem Acyc.replay {p : Pl M} (h : Acyc p) (l : List (Mv M)) : Acyc (replay p l) := by
  induction l generalizing p with
  | nil => exact h
  | cons m l ih => exact ih (h.move m)

/-- what was noted of a move as it was done: where its node was, and whether it went -/
structure Did (M : Type) where
  m : Mv M
  was : Option (Int × M)
  by' : Bool

noncomputable def did (p : Pl M) (m : Mv M) : Did M := ⟨m, p m.node, goes p m⟩

/-- notes of moves that were done, one behind the other -/
noncomputable def notes : Pl M → List (Mv M) → List (Did M)
  | _, [] => []
  | p, m :: l => did p m :: notes (move p m) l

theorem notes_append (p : Pl M) (a b : List (Mv M)) : notes p (a ++ b) = notes p a ++ notes (replay p a) b := by
  induction a generalizing p with
  | nil => rfl
  | cons m a ih => simp [notes, replay, ih]

theorem notes_length (p : Pl M) (a : List (Mv M)) : (notes p a).length = a.length := by
  induction a generalizing p with
  | nil => rfl
  | cons m a ih => simp [notes, ih]

theorem notes_mv (p : Pl M) (a : List (Mv M)) : (notes p a).map (·.m) = a := by
  induction a generalizing p with
  | nil => rfl
  | cons m a ih => simp [notes, did, ih]

/-- one note taken back -/
def undo (p : Pl M) (d : Did M) : Pl M := if d.by' then put p d.m.node d.was else p

theorem undo_did (p : Pl M) (m : Mv M) : undo (move p m) (did p m) = p := by
  unfold undo did move
  by_cases h : goes p m = true
  · simp only [h, if_true]
    funext y
    unfold put
    by_cases hy : y = m.node
    · simp [hy]
    · simp [hy]
  · simp [h]

/-- all notes taken back, the last one first -/
def unwind (p : Pl M) (l : List (Did M)) : Pl M := l.foldr (fun d q => undo q d) p

theorem unwind_notes (p : Pl M) (l : List (Mv M)) : unwind (replay p l) (notes p l) = p := by
  induction l generalizing p with
  | nil => rfl
  | cons m l ih =>
    show undo (unwind (replay (move p m) l) (notes (move p m) l)) (did p m) = p
    rw [ih, undo_did]

end Tree

end Go.Proofs.YtneggbhjekklhaaDoor
