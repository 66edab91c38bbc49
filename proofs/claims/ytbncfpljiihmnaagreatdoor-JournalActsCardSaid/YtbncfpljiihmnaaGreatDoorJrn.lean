/- Records from the beginning of a text, each ending with its only byte 10. Plain lemmas, no program. -/
import Derived.Test.YtbncfpljiihmnaaGreatDoorNum
namespace Go.Proofs.YtbncfpljiihmnaaGreatDoor.Jrn
set_option linter.unusedVariables false
set_option linter.unusedSimpArgs false
variable {α : Type}
/-- what a record is: one byte 10, at its end; no two operations have one record -/
structure Recs (good : α → Prop) (rc : α → List UInt8) : Prop where
  ends : ∀ o, good o → ∃ p, rc o = p ++ [10] ∧ ∀ c ∈ p, c ≠ 10
  inj : ∀ o o', good o → good o' → rc o = rc o' → o = o'
def cat (rc : α → List UInt8) : List α → List UInt8 | [] => [] | o :: L => rc o ++ cat rc L
theorem cat_append (rc : α → List UInt8) (L M : List α) : cat rc (L ++ M) = cat rc L ++ cat rc M := by
  induction L with
  | nil => rfl
  | cons o L ih => simp [cat, ih, List.append_assoc]
/-- how a text reads -/
structure Rd (good : α → Prop) (rc : α → List UInt8) (b : List UInt8) (L : List α) (n : Nat) : Prop where
  le : n ≤ b.length
  eq : b.take n = cat rc L
  all : ∀ o ∈ L, good o
  no : ∀ o, good o → ¬ (rc o <+: b.drop n)
theorem first10 {p q r r' : List UInt8} (hp : ∀ c ∈ p, c ≠ 10) (hq : ∀ c ∈ q, c ≠ 10) (h : p ++ 10 :: r = q ++ 10 :: r') : p = q ∧ r = r' := by
  induction p generalizing q with
  | nil =>
    cases q with
    | nil => simpa using h
    | cons c q => simp at h; exact (hq c (by simp) h.1.symm).elim
  | cons a p ih =>
    cases q with
    | nil => simp at h; exact (hp a (by simp) h.1).elim
    | cons c q =>
      simp at h
      obtain ⟨h1, h2⟩ := ih (fun c hc => hp c (by simp [hc])) (fun c hc => hq c (by simp [hc])) h.2
      exact ⟨by rw [h.1, h1], h2⟩
variable {good : α → Prop} {rc : α → List UInt8}
theorem Recs.one (R : Recs good rc) {o o' : α} (h : good o) (h' : good o') {r r' : List UInt8} (he : rc o ++ r = rc o' ++ r') : o = o' ∧ r = r' := by
  obtain ⟨p, hp, np⟩ := R.ends o h
  obtain ⟨q, hq, nq⟩ := R.ends o' h'
  rw [hp, hq] at he
  simp only [List.append_assoc, List.cons_append, List.nil_append] at he
  obtain ⟨h1, h2⟩ := first10 np nq he
  exact ⟨R.inj o o' h h' (by rw [hp, hq, h1]), h2⟩
theorem Rd.split {b : List UInt8} {L : List α} {n : Nat} (h : Rd good rc b L n) : b = cat rc L ++ b.drop n := by
  rw [← h.eq, List.take_append_drop]
theorem Rd.len {b : List UInt8} {L : List α} {n : Nat} (h : Rd good rc b L n) : (cat rc L).length = n := by
  rw [← h.eq, List.length_take]; have := h.le; omega
theorem cat_unique (R : Recs good rc) : ∀ (L L' : List α) (r r' : List UInt8), (∀ o ∈ L, good o) → (∀ o ∈ L', good o) → (∀ o, good o → ¬ rc o <+: r) → (∀ o, good o → ¬ rc o <+: r') → cat rc L ++ r = cat rc L' ++ r' → L = L' ∧ r = r'
  | [], [], r, r', _, _, _, _, h => ⟨rfl, h⟩
  | [], o :: L', r, r', _, h2, n1, _, h => by
    refine (n1 o (h2 o (by simp)) ⟨cat rc L' ++ r', ?_⟩).elim
    rw [← List.append_assoc]; exact h.symm
  | o :: L, [], r, r', h1, _, _, n2, h => by
    refine (n2 o (h1 o (by simp)) ⟨cat rc L ++ r, ?_⟩).elim
    rw [← List.append_assoc]; exact h
  | o :: L, o' :: L', r, r', h1, h2, n1, n2, h => by
    simp only [cat, List.append_assoc] at h
    obtain ⟨e1, e2⟩ := R.one (h1 o (by simp)) (h2 o' (by simp)) h
    obtain ⟨e3, e4⟩ := cat_unique R L L' r r' (fun x hx => h1 x (by simp [hx])) (fun x hx => h2 x (by simp [hx])) n1 n2 e2
    exact ⟨by rw [e1, e3], e4⟩
theorem Rd.unique (R : Recs good rc) {b : List UInt8} {L L' : List α} {n n' : Nat} (h : Rd good rc b L n) (h' : Rd good rc b L' n') : L = L' ∧ n = n' := by
  obtain ⟨e, _⟩ := cat_unique R L L' _ _ h.all h'.all h.no h'.no (h.split.symm.trans h'.split)
  refine ⟨e, ?_⟩
  rw [← h.len, ← h'.len, e]
/-- what is recovered is recovered again -/
theorem Rd.again (R : Recs good rc) {b : List UInt8} {L : List α} {n : Nat} (h : Rd good rc b L n) : Rd good rc (b.take n) L n := by
  refine ⟨by rw [List.length_take]; have := h.le; omega, by rw [List.take_take, Nat.min_self]; exact h.eq, h.all, ?_⟩
  intro o ho hp
  have : (b.take n).drop n = [] := List.drop_eq_nil_of_le (by rw [List.length_take]; omega)
  rw [this] at hp
  obtain ⟨p, hp', _⟩ := R.ends o ho
  have := hp.length_le
  rw [hp'] at this; simp at this
/-- no record begins where no byte 10 is -/
theorem no_rec (R : Recs good rc) {r : List UInt8} (h : ∀ c ∈ r, c ≠ 10) : ∀ o, good o → ¬ rc o <+: r := by
  intro o ho ⟨t, ht⟩
  obtain ⟨p, hp, _⟩ := R.ends o ho
  exact h 10 (by rw [← ht, hp]; simp) rfl
/-- appended records, and then no byte 10 -/
theorem Rd.of (R : Recs good rc) {L : List α} {r : List UInt8} (hL : ∀ o ∈ L, good o) (h : ∀ c ∈ r, c ≠ 10) : Rd good rc (cat rc L ++ r) L (cat rc L).length :=
  ⟨by simp, by simp, hL, by rw [List.drop_left]; exact no_rec R h⟩
/-- a beginning of a record that is not all of it has no byte 10 -/
theorem part_no (R : Recs good rc) {o : α} (ho : good o) {k : Nat} (hk : k < (rc o).length) : ∀ c ∈ (rc o).take k, c ≠ 10 := by
  obtain ⟨p, hp, hn⟩ := R.ends o ho
  rw [hp] at hk ⊢
  simp at hk
  intro c hc
  rw [List.take_append_of_le_length (by omega)] at hc
  exact hn c (List.mem_of_mem_take hc)
end Go.Proofs.YtbncfpljiihmnaaGreatDoor.Jrn
