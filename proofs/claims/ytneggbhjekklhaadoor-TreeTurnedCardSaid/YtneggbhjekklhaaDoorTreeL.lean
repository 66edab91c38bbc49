/- A tree's log, and the document's list of places: the plain laws. -/
import Derived.Test.YtneggbhjekklhaaDoorTreeDo2
import Derived.Test.YtneggbhjekklhaaDoorOpLt
namespace Go.Proofs.YtneggbhjekklhaaDoor
open Go Go.RowKit Tree
set_option linter.unusedVariables false
set_option linter.unusedSimpArgs false

noncomputable def noteO (p : PlB) (o : OpT) : DoneT := ⟨o, wasP (plM p o.nd), (plM p o.nd).isSome, goes p (mvO o)⟩
noncomputable def notesO : PlB → List OpT → List DoneT
  | _, [] => []
  | p, o :: l => noteO p o :: notesO (Tree.move p (mvO o)) l
/-- all moves of a list -/
noncomputable def runO (p : PlB) (L : List OpT) : PlB := replay p (L.map mvO)
theorem runO_nil (p : PlB) : runO p [] = p := rfl
theorem runO_cons (p : PlB) (o : OpT) (L : List OpT) : runO p (o :: L) = runO (Tree.move p (mvO o)) L := rfl
theorem runO_append (p : PlB) (A B : List OpT) : runO p (A ++ B) = runO (runO p A) B := by unfold runO; rw [List.map_append, replay_append]
theorem runO_snoc (p : PlB) (A : List OpT) (o : OpT) : runO p (A ++ [o]) = Tree.move (runO p A) (mvO o) := by rw [runO_append]; rfl
theorem notesO_append (p : PlB) (A B : List OpT) : notesO p (A ++ B) = notesO p A ++ notesO (runO p A) B := by
  induction A generalizing p with
  | nil => rfl
  | cons o A ih => simp only [List.cons_append, notesO, ih, runO_cons]
theorem notesO_len (p : PlB) (A : List OpT) : (notesO p A).length = A.length := by
  induction A generalizing p with
  | nil => rfl
  | cons o A ih => simp [notesO, ih]
theorem notesO_ops (p : PlB) (A : List OpT) : (notesO p A).map (·.o) = A := by
  induction A generalizing p with
  | nil => rfl
  | cons o A ih => simp [notesO, noteO, ih]
theorem notesO_take (p : PlB) (A : List OpT) (n : Nat) : (notesO p A).take n = notesO p (A.take n) := by
  induction A generalizing p n with
  | nil => simp [notesO]
  | cons o A ih =>
    cases n with
    | zero => simp [notesO]
    | succ n => simp [notesO, ih]
theorem notesO_drop (p : PlB) (A : List OpT) (n : Nat) : (notesO p A).drop n = notesO (runO p (A.take n)) (A.drop n) := by
  induction A generalizing p n with
  | nil => simp [notesO]
  | cons o A ih =>
    cases n with
    | zero => simp [runO_nil]
    | succ n => simp [notesO, ih, runO_cons]
theorem notesO_at (p : PlB) (A : List OpT) (i : Nat) (o : OpT) (h : A[i]? = some o) : (notesO p A)[i]? = some (noteO (runO p (A.take i)) o) := by
  induction A generalizing p i with
  | nil => simp at h
  | cons a A ih =>
    cases i with
    | zero => simp at h; subst h; simp [notesO, runO_nil]
    | succ i => simp [notesO, ih _ i (by simpa using h), runO_cons]
theorem runO_take_succ (p : PlB) {A : List OpT} {i : Nat} {o : OpT} (h : A[i]? = some o) : runO p (A.take (i + 1)) = Tree.move (runO p (A.take i)) (mvO o) := by
  rw [← runO_snoc]
  congr 1
  obtain ⟨hi, he⟩ := List.getElem?_eq_some_iff.1 h
  rw [← he, List.take_append_getElem]
theorem undo_note (p : PlB) (o : OpT) : undoM (plM (Tree.move p (mvO o))) o (noteO p o).y (noteO p o).is (noteO p o).by' = plM p := by
  unfold undoM noteO
  simp only
  unfold Tree.move
  cases hg : goes p (mvO o) with
  | false => simp
  | true =>
    simp only [if_true]
    funext x
    unfold updT plM put
    by_cases hx : x = o.nd
    · subst hx
      simp [mvO]
      cases p o.nd with
      | none => simp
      | some v => simp [wasP]
    · simp [hx, mvO]
/-! ### by stamps -/
def SameS (x y : OpT) : Prop := x.t = y.t ∧ x.b = y.b
def Rising (L : List OpT) : Prop := L.Pairwise fun x y => opLt x y = true
theorem opLt_iff {x y : OpT} : opLt x y = true ↔ (x.t < y.t ∨ x.t = y.t ∧ x.b < y.b) := by unfold opLt; simp
theorem opLt_irr {x y : OpT} (h : opLt x y = true) : ¬ SameS x y := by
  rw [opLt_iff] at h
  unfold SameS
  omega
theorem opLt_tri {x y : OpT} (h : opLt x y = false) (hs : ¬ SameS x y) : opLt y x = true := by
  have : ¬ (x.t < y.t ∨ x.t = y.t ∧ x.b < y.b) := by rw [← opLt_iff, h]; simp
  rw [opLt_iff]
  unfold SameS at hs
  omega
theorem opLt_tr {x y z : OpT} (h : opLt x y = true) (h' : opLt y z = true) : opLt x z = true := by
  rw [opLt_iff] at *
  omega
/-- where x goes: the one ahead of it -/
theorem at_same {L : List OpT} (hr : Rising L) (x : OpT) {k : Nat} (hk : k = kOf opLt x L L.length) : (∃ y, y ∈ L ∧ SameS y x) ↔ ∃ y, 0 < k ∧ L[k - 1]? = some y ∧ SameS y x := by
  constructor
  · rintro ⟨y, hy, hs⟩
    obtain ⟨i, hi, rfl⟩ := List.getElem_of_mem hy
    have hik : i < k := by
      rcases Nat.lt_or_ge i k with h | h
      · exact h
      · have := kOf_behind (lt := opLt) x L L.length i L[i] (by omega) hi (List.getElem?_eq_getElem hi)
        exact absurd ⟨hs.1.symm, hs.2.symm⟩ (opLt_irr this)
    obtain ⟨z, hz, hl⟩ := kOf_ahead (lt := opLt) x L L.length (Nat.le_refl _) (by omega)
    rw [← hk] at hz
    by_cases he : i = k - 1
    · refine ⟨L[i], by omega, ?_, hs⟩
      rw [← he]; exact List.getElem?_eq_getElem hi
    · obtain ⟨hz1, hz2⟩ := List.getElem?_eq_some_iff.1 hz
      have := (List.pairwise_iff_getElem.1 hr) i (k - 1) hi hz1 (by omega)
      rw [hz2] at this
      have h2 : ¬ SameS x z := fun h => opLt_irr this ⟨hs.1.trans h.1, hs.2.trans h.2⟩
      have h3 := opLt_tri hl h2
      have h4 := opLt_tr this h3
      exact absurd hs (opLt_irr h4)
  · rintro ⟨y, _, hy, hs⟩
    exact ⟨y, List.mem_of_getElem? hy, hs⟩
theorem Rising.laid {L : List OpT} (hr : Rising L) {x : OpT} (hx : ¬ ∃ y, y ∈ L ∧ SameS y x) : Rising (laidIn opLt L x) := by
  obtain ⟨k, hk⟩ : ∃ k, k = kOf opLt x L L.length := ⟨_, rfl⟩
  have hb := kOf_behind (lt := opLt) x L L.length
  have ha := kOf_ahead (lt := opLt) x L L.length (Nat.le_refl _)
  have hle := kOf_le (lt := opLt) x L L.length
  unfold laidIn
  rw [← hk] at hb ha hle ⊢
  unfold Rising
  rw [List.pairwise_append, List.pairwise_cons]
  have hbx : ∀ q ∈ L.drop k, opLt x q = true := fun q hq => by
    obtain ⟨j, hj, rfl⟩ := List.getElem_of_mem hq
    rw [List.length_drop] at hj
    have := hb (k + j) L[k + j] (by omega) (by omega) (List.getElem?_eq_getElem (by omega))
    rw [List.getElem_drop]
    exact this
  have hax : ∀ p ∈ L.take k, opLt p x = true := fun p hp => by
    obtain ⟨j, hj, rfl⟩ := List.getElem_of_mem hp
    rw [List.length_take] at hj
    rw [List.getElem_take]
    obtain ⟨y, hy, hl⟩ := ha (by omega)
    obtain ⟨hy3, hy4⟩ := List.getElem?_eq_some_iff.1 hy
    have hyx : opLt y x = true := opLt_tri hl (fun h => hx ⟨y, List.mem_of_getElem? hy, h.1.symm, h.2.symm⟩)
    by_cases he : j = k - 1
    · subst he; rw [hy4]; exact hyx
    · have := (List.pairwise_iff_getElem.1 hr) j (k - 1) (by omega) hy3 (by omega)
      rw [hy4] at this
      exact opLt_tr this hyx
  refine ⟨hr.sublist (List.take_sublist _ _), ⟨hbx, hr.sublist (List.drop_sublist _ _)⟩, fun p hp q hq => ?_⟩
  rcases List.mem_cons.1 hq with rfl | hq
  · exact hax p hp
  · exact opLt_tr (hax p hp) (hbx q hq)
theorem Rising.eq {L L' : List OpT} (h : Rising L) (h' : Rising L') (hp : L.Perm L') : L = L' :=
  List.Perm.eq_of_pairwise (le := fun x y => opLt x y = true) (fun a b _ _ h1 h2 => absurd ⟨rfl, rfl⟩ (opLt_irr (opLt_tr h1 h2))) h h' hp
theorem sortOps_snoc (M : List OpT) (o : OpT) : sortOps (M ++ [o]) = laidIn opLt (sortOps M) o := by simp [sortOps, sortL]
/-! ### the document's places -/
/-- a list of places, by node, that stands for p -/
structure RepP (Q : List PlT) (p : PlB) : Prop where
  up : Q.Pairwise fun x y => x.nd < y.nd
  is : ∀ y, y ∈ Q ↔ p y.nd = some (y.into, y.nm)
theorem RepP.nil : RepP [] (fun _ => none) := ⟨List.Pairwise.nil, fun y => by simp⟩
theorem RepP.unique {Q Q' : List PlT} {p : PlB} (h : RepP Q p) (h' : RepP Q' p) : Q = Q' := by
  refine List.Perm.eq_of_pairwise (le := fun x y => x.nd < y.nd) (fun a b _ _ h1 h2 => absurd h1 (by omega)) h.up h'.up ?_
  have n1 : Q.Nodup := h.up.imp (fun hlt he => by rw [he] at hlt; omega)
  have n2 : Q'.Nodup := h'.up.imp (fun hlt he => by rw [he] at hlt; omega)
  exact (List.perm_ext_iff_of_nodup n1 n2).2 fun a => by rw [h.is a, h'.is a]
theorem RepP.have' {Q : List PlT} {p : PlB} (h : RepP Q p) {i : Nat} {y : PlT} (hy : Q[i]? = some y) : p y.nd = some (y.into, y.nm) := (h.is y).1 (List.mem_of_getElem? hy)
theorem RepP.lack {Q : List PlT} {p : PlB} (h : RepP Q p) {x : Int} (hx : ∀ y ∈ Q, y.nd ≠ x) : p x = none := by
  cases hp : p x with
  | none => rfl
  | some v => exact absurd rfl (hx ⟨x, v.1, v.2⟩ ((h.is _).2 (by simpa using hp)))
/-- how many lie no deeper -/
def rankP (d : Int → Nat) (Q : List PlT) (x : Int) : Nat := Q.countP fun y => decide (d y.nd ≤ d x)
theorem rankP_le (d : Int → Nat) (Q : List PlT) (x : Int) : rankP d Q x ≤ Q.length := List.countP_le_length
theorem rankP_lt {d : Int → Nat} {Q : List PlT} {y : PlT} (hy : y ∈ Q) (hd : d y.into < d y.nd) : rankP d Q y.into < rankP d Q y.nd := by
  unfold rankP
  induction Q with
  | nil => simp at hy
  | cons z Q ih =>
    have hm : Q.countP (fun z => decide (d z.nd ≤ d y.into)) ≤ Q.countP (fun z => decide (d z.nd ≤ d y.nd)) := List.countP_mono_left (fun z _ hz => by simp at hz ⊢; omega)
    rw [List.countP_cons, List.countP_cons]
    rcases List.mem_cons.1 hy with rfl | hy
    · simp [show ¬ d y.nd ≤ d y.into by omega]
      omega
    · have := ih hy
      by_cases h1 : d z.nd ≤ d y.into
      · simp [h1, show d z.nd ≤ d y.nd by omega]
        exact this
      · simp [h1]
        omega
theorem RepP.idx {Q : List PlT} {p : PlB} (h : RepP Q p) {i j : Nat} {y z : PlT} (hy : Q[i]? = some y) (hz : Q[j]? = some z) (e : y.nd = z.nd) : i = j := by
  obtain ⟨hi, hi2⟩ := List.getElem?_eq_some_iff.1 hy
  obtain ⟨hj, hj2⟩ := List.getElem?_eq_some_iff.1 hz
  rcases Nat.lt_trichotomy i j with hl | hl | hl
  · have := (List.pairwise_iff_getElem.1 h.up) i j hi hj hl
    rw [hi2, hj2] at this
    omega
  · exact hl
  · have := (List.pairwise_iff_getElem.1 h.up) j i hj hi hl
    rw [hi2, hj2] at this
    omega
theorem RepP.set {Q : List PlT} {p : PlB} (h : RepP Q p) {k : Nat} {y z : PlT} (hy : Q[k]? = some y) (hz : y.nd = z.nd) : RepP (Q.set k z) (put p z.nd (some (z.into, z.nm))) := by
  obtain ⟨hk, hk2⟩ := List.getElem?_eq_some_iff.1 hy
  constructor
  · rw [List.pairwise_iff_getElem]
    intro i j hi hj hij
    rw [List.length_set] at hi hj
    have := (List.pairwise_iff_getElem.1 h.up) i j hi hj hij
    rw [List.getElem_set, List.getElem_set]
    by_cases h1 : k = i
    · subst h1
      rw [if_pos rfl, if_neg (by omega), ← hz, ← hk2]
      exact this
    · by_cases h2 : k = j
      · subst h2
        rw [if_neg h1, if_pos rfl, ← hz, ← hk2]
        exact this
      · rw [if_neg h1, if_neg h2]
        exact this
  · intro x
    unfold put
    by_cases hx : x.nd = z.nd
    · rw [if_pos hx]
      constructor
      · intro hm
        obtain ⟨i, hi, rfl⟩ := List.getElem_of_mem hm
        rw [List.length_set] at hi
        rw [List.getElem_set] at hx ⊢
        by_cases h1 : k = i
        · subst h1
          rw [if_pos rfl]
        · rw [if_neg h1] at hx ⊢
          exact absurd (h.idx hy (List.getElem?_eq_getElem hi) (by rw [hz, ← hx])) h1
      · intro he
        have e : x = z := by
          cases x; cases z
          simp at he hx ⊢
          exact ⟨hx, he.1.symm, he.2.symm⟩
        rw [e]
        exact List.mem_iff_getElem.2 ⟨k, by simpa using hk, by simp⟩
    · rw [if_neg hx, ← h.is]
      constructor
      · intro hm
        rcases List.mem_or_eq_of_mem_set hm with h1 | h1
        · exact h1
        · rw [h1] at hx; exact absurd rfl hx
      · intro hm
        obtain ⟨i, hi, rfl⟩ := List.getElem_of_mem hm
        refine List.mem_iff_getElem.2 ⟨i, by simpa using hi, ?_⟩
        rw [List.getElem_set, if_neg]
        intro h1
        subst h1
        rw [hk2] at hx
        exact hx hz
theorem RepP.ins {Q : List PlT} {p : PlB} (h : RepP Q p) {k : Nat} {z : PlT} (hk : k ≤ Q.length) (h1 : ∀ i y, i < k → Q[i]? = some y → y.nd < z.nd) (h2 : ∀ y, Q[k]? = some y → ¬ y.nd < z.nd) (h3 : ∀ y ∈ Q, y.nd ≠ z.nd) : RepP (Q.take k ++ z :: Q.drop k) (put p z.nd (some (z.into, z.nm))) := by
  have hb : ∀ y ∈ Q.drop k, z.nd < y.nd := fun y hy => by
    obtain ⟨j, hj, rfl⟩ := List.getElem_of_mem hy
    rw [List.length_drop] at hj
    rw [List.getElem_drop]
    have e0 : Q[k]? = some Q[k] := List.getElem?_eq_getElem (by omega)
    have e1 := h2 _ e0
    have e2 := h3 Q[k] (List.getElem_mem _)
    rcases Nat.eq_zero_or_pos j with rfl | hj0
    · simp only [Nat.add_zero]; omega
    · have := (List.pairwise_iff_getElem.1 h.up) k (k + j) (by omega) (by omega) (by omega)
      omega
  have ha : ∀ y ∈ Q.take k, y.nd < z.nd := fun y hy => by
    obtain ⟨j, hj, rfl⟩ := List.getElem_of_mem hy
    rw [List.length_take] at hj
    rw [List.getElem_take]
    exact h1 j _ (by omega) (List.getElem?_eq_getElem (by omega))
  constructor
  · rw [List.pairwise_append, List.pairwise_cons]
    refine ⟨h.up.sublist (List.take_sublist _ _), ⟨hb, h.up.sublist (List.drop_sublist _ _)⟩, fun x hx y hy => ?_⟩
    rcases List.mem_cons.1 hy with rfl | hy
    · exact ha x hx
    · have := ha x hx
      have := hb y hy
      omega
  · intro x
    have hm : x ∈ Q.take k ++ z :: Q.drop k ↔ x = z ∨ x ∈ Q := by
      rw [List.mem_append, List.mem_cons]
      have : x ∈ Q ↔ x ∈ Q.take k ∨ x ∈ Q.drop k := by rw [← List.mem_append, List.take_append_drop]
      rw [this]
      constructor
      · rintro (h | h | h)
        · exact .inr (.inl h)
        · exact .inl h
        · exact .inr (.inr h)
      · rintro (h | h | h)
        · exact .inr (.inl h)
        · exact .inl h
        · exact .inr (.inr h)
    rw [hm]
    unfold put
    by_cases hx : x.nd = z.nd
    · rw [if_pos hx]
      constructor
      · rintro (rfl | hq)
        · rfl
        · exact absurd hx (h3 x hq)
      · intro he
        refine .inl ?_
        cases x; cases z
        simp at he hx ⊢
        exact ⟨hx, he.1.symm, he.2.symm⟩
    · rw [if_neg hx, ← h.is]
      constructor
      · rintro (rfl | hq)
        · exact absurd rfl hx
        · exact hq
      · exact .inr
theorem RepP.keys {p : PlB} {ks : List Int} (hk : ks.Pairwise (· < ·)) (hm : ∀ k, k ∈ ks ↔ (p k).isSome = true) : RepP (ks.map fun k => wasP (plM p k)) p := by
  have e : ∀ k ∈ ks, ∃ v, p k = Option.some v ∧ wasP (plM p k) = ⟨k, v.1, v.2⟩ := fun k hkm => by
    have := (hm k).1 hkm
    cases hp : p k with
    | none => rw [hp] at this; cases this
    | some v => exact ⟨v, rfl, by simp [plM, hp, wasP]⟩
  constructor
  · rw [List.pairwise_map]
    refine List.Pairwise.imp_of_mem (fun {a b} h1 h2 hlt => ?_) hk
    obtain ⟨v, _, e1⟩ := e a h1
    obtain ⟨v', _, e2⟩ := e b h2
    rw [e1, e2]
    exact hlt
  · intro y
    rw [List.mem_map]
    constructor
    · rintro ⟨k, hk1, rfl⟩
      obtain ⟨v, hv, e1⟩ := e k hk1
      rw [e1]
      simpa using hv
    · intro hy
      have hks : y.nd ∈ ks := (hm _).2 (by rw [hy]; rfl)
      refine ⟨y.nd, hks, ?_⟩
      simp [plM, hy, wasP]
end Go.Proofs.YtneggbhjekklhaaDoor
