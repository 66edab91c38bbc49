/- The order of letters: letters that are inserted each behind its own one, in any order, stand in one order. Plain law, no program. -/
import Derived.Test.YthlojjknpfijmaaDoorLt
namespace Go.Proofs.YthlojjknpfijmaaDoor.LineOrd

/-- does x stand ahead of y, where par tells behind which letter each was written (fuel bounds the recursion) -/
def bef (par : Nat → Nat) : Nat → Nat → Nat → Bool
  | 0, _, _ => false
  | n + 1, x, y =>
    if x < y then x == par y || bef par n x (par y)
    else if y < x then !(y == par x || bef par n y (par x))
    else false

theorem bef_fuel (par : Nat → Nat) (hp : ∀ z, 0 < z → par z < z) : ∀ (k n m x y : Nat), x + y ≤ k → x + y < n → x + y < m → bef par n x y = bef par m x y := by
  intro k
  induction k with
  | zero =>
    intro n m x y hk hn hm
    obtain ⟨rfl, rfl⟩ : x = 0 ∧ y = 0 := by omega
    cases n <;> cases m <;> simp [bef] at *
  | succ k ih =>
    intro n m x y hk hn hm
    cases n with
    | zero => omega
    | succ n =>
      cases m with
      | zero => omega
      | succ m =>
        simp only [bef]
        by_cases h1 : x < y
        · have := hp y (by omega)
          rw [if_pos h1, if_pos h1, ih n m x (par y) (by omega) (by omega) (by omega)]
        · rw [if_neg h1, if_neg h1]
          by_cases h2 : y < x
          · have := hp x (by omega)
            rw [if_pos h2, if_pos h2, ih n m y (par x) (by omega) (by omega) (by omega)]
          · rw [if_neg h2, if_neg h2]

/-- the order of letters -/
def Bef (par : Nat → Nat) (x y : Nat) : Prop := bef par (x + y + 1) x y = true

/-- what the order is known by -/
structure Order (par : Nat → Nat) (R : Nat → Nat → Prop) : Prop where
  par_lt : ∀ z, 0 < z → par z < z
  lt : ∀ x y, x < y → (R x y ↔ x = par y ∨ R x (par y))
  gt : ∀ x y, y < x → (R x y ↔ ¬ R y x)
  irr : ∀ x, ¬ R x x

theorem Bef.order (par : Nat → Nat) (hp : ∀ z, 0 < z → par z < z) : Order par (Bef par) := by
  refine ⟨hp, ?_, ?_, ?_⟩
  · intro x y h
    unfold Bef
    have := hp y (by omega)
    rw [show bef par (x + y + 1) x y = (x == par y || bef par (x + y) x (par y)) by simp [bef, h]]
    rw [bef_fuel par hp (x + par y) (x + y) (x + par y + 1) x (par y) (by omega) (by omega) (by omega)]
    simp
  · intro x y h
    unfold Bef
    have := hp x (by omega)
    rw [show bef par (x + y + 1) x y = !(y == par x || bef par (x + y) y (par x)) by simp [bef, h, Nat.lt_asymm h]]
    rw [show bef par (y + x + 1) y x = (y == par x || bef par (y + x) y (par x)) by simp [bef, h]]
    rw [Nat.add_comm y x]
    simp
  · intro x
    unfold Bef
    simp [bef]

section
variable {par : Nat → Nat} {R : Nat → Nat → Prop} (O : Order par R)
include O

theorem Order.not_zero (x : Nat) : 0 < x → ¬ R x 0 := by
  induction x using Nat.strongRecOn with
  | _ x ih =>
    intro hx h
    rw [O.gt x 0 hx, O.lt 0 x hx] at h
    have hl := O.par_lt x hx
    rcases Nat.eq_zero_or_pos (par x) with h0 | h0
    · exact h (.inl h0.symm)
    · exact h (.inr (Classical.byContradiction fun hn => ih (par x) hl h0 ((O.gt (par x) 0 h0).2 hn)))

theorem Order.zero_pos (x : Nat) (hx : 0 < x) : R 0 x :=
  Classical.byContradiction fun hn => O.not_zero x hx ((O.gt x 0 hx).2 hn)

theorem Order.asymm {x y : Nat} (h : R x y) : ¬ R y x := by
  rcases Nat.lt_trichotomy x y with hl | rfl | hl
  · exact fun h' => ((O.gt y x hl).1 h') h
  · exact O.irr x
  · exact (O.gt x y hl).1 h

theorem Order.total {x y : Nat} (h : ¬ R x y) (hne : x ≠ y) : R y x := by
  rcases Nat.lt_trichotomy x y with hl | rfl | hl
  · exact (O.gt y x hl).2 h
  · exact absurd rfl hne
  · exact Classical.byContradiction fun hn => h ((O.gt x y hl).2 hn)

theorem Order.par_bef {y : Nat} (hy : 0 < y) : R (par y) y := (O.lt _ _ (O.par_lt y hy)).2 (.inl rfl)

/-- letters that stand in order, each behind its own one -/
structure Good (par : Nat → Nat) (R : Nat → Nat → Prop) (l : List Nat) : Prop where
  sorted : l.Pairwise R
  pos : ∀ y ∈ l, 0 < y
  closed : ∀ y ∈ l, par y = 0 ∨ par y ∈ l

omit O in
theorem Good.nil : Good par R [] := ⟨.nil, by simp, by simp⟩

/-- what stands ahead of the new letter: all of it is ahead in the order -/
theorem Order.ahead {A C : List Nat} {x : Nat} (hg : Good par R (A ++ C)) (hx : 0 < x) (hnew : x ∉ A ++ C) (_hpar : par x = 0 ∨ par x ∈ A)
    (hA : ∀ y ∈ A, y < x → y = par x ∨ R y (par x)) : ∀ y ∈ A, R y x := by
  intro y
  induction y using Nat.strongRecOn with
  | _ y ih =>
    intro hy
    have hp0 := hg.pos y (by simp [hy])
    rcases Nat.lt_trichotomy y x with hl | rfl | hl
    · exact (O.lt y x hl).2 (hA y hy hl)
    · exact absurd (by simp [hy]) hnew
    · refine (O.gt y x hl).2 fun hxy => ?_
      rcases (O.lt x y hl).1 hxy with he | hr
      · rcases hg.closed y (by simp [hy]) with h0 | hm
        · omega
        · exact hnew (he ▸ hm)
      · rcases hg.closed y (by simp [hy]) with h0 | hm
        · exact O.not_zero x hx (h0 ▸ hr)
        · have hm' : par y ∈ A := by
            rcases List.mem_append.1 hm with h | h
            · exact h
            · have := (List.pairwise_append.1 hg.sorted).2.2 y hy (par y) h
              exact absurd (O.par_bef hp0) (O.asymm this)
          exact O.asymm (ih (par y) (O.par_lt y hp0) hm') hr

/-- what stands behind the new letter: all of it is behind in the order -/
theorem Order.behind {A C : List Nat} {c x : Nat} (hg : Good par R (A ++ c :: C)) (_hx : 0 < x) (hnew : x ∉ A ++ c :: C) (hc : c < x)
    (hC : ∀ y ∈ c :: C, y ≠ par x ∧ ¬ R y (par x)) : ∀ y ∈ c :: C, R x y := by
  intro y
  induction y using Nat.strongRecOn with
  | _ y ih =>
    intro hy
    have hp0 := hg.pos y (List.mem_append_right _ hy)
    rcases Nat.lt_trichotomy x y with hl | rfl | hl
    · refine (O.lt x y hl).2 (.inr ?_)
      have hyC : y ∈ C := by
        rcases List.mem_cons.1 hy with rfl | h
        · omega
        · exact h
      have hcy : R c y := (List.pairwise_cons.1 (List.pairwise_append.1 hg.sorted).2.1).1 y hyC
      rw [O.lt c y (by omega)] at hcy
      have hm : par y ∈ c :: C := by
        rcases hg.closed y (List.mem_append_right _ hy) with h0 | hm
        · rw [h0] at hcy
          have hcp := hg.pos c (by simp)
          rcases hcy with h | h
          · omega
          · exact absurd h (O.not_zero c hcp)
        · rcases List.mem_append.1 hm with h | h
          · have hAc := (List.pairwise_append.1 hg.sorted).2.2 (par y) h c (by simp)
            rcases hcy with h' | h'
            · exact absurd (h' ▸ hAc) (O.irr _)
            · exact absurd h' (O.asymm hAc)
          · exact h
      exact ih (par y) (O.par_lt y hp0) hm
    · exact absurd (List.mem_append_right _ hy) hnew
    · refine (O.gt x y hl).2 fun h => ?_
      rcases (O.lt y x hl).1 h with h' | h'
      · exact (hC y hy).1 h'
      · exact (hC y hy).2 h'

/-- the letter goes right behind its own one, and behind all that follow there and are greater -/
theorem Order.insert {P B C : List Nat} {x : Nat} (hg : Good par R (P ++ (B ++ C))) (hx : 0 < x) (hnew : x ∉ P ++ (B ++ C))
    (hpar : (par x = 0 ∧ P = []) ∨ ∃ A, P = A ++ [par x]) (hB : ∀ y ∈ B, x < y) (hC : ∀ c, C.head? = some c → c < x) :
    Good par R (P ++ (B ++ x :: C)) := by
  have hs := hg.sorted
  have hP : par x = 0 ∨ par x ∈ P := by
    rcases hpar with ⟨h, _⟩ | ⟨A, rfl⟩
    · exact .inl h
    · exact .inr (by simp)
  have hPp : ∀ y ∈ P, y = par x ∨ R y (par x) := by
    intro y hy
    rcases hpar with ⟨_, rfl⟩ | ⟨A, rfl⟩
    · simp at hy
    · rcases List.mem_append.1 hy with h | h
      · exact .inr ((List.pairwise_append.1 (List.pairwise_append.1 hs).1).2.2 y h _ (by simp))
      · exact .inl (by simpa using h)
  have hA : ∀ y ∈ P ++ B, R y x := by
    refine O.ahead (A := P ++ B) (C := C) (by simpa using hg) hx (by simpa using hnew) (hP.imp id fun h => by simp [h]) ?_
    intro y hy hl
    rcases List.mem_append.1 hy with h | h
    · exact hPp y h
    · exact absurd (hB y h) (by omega)
  have hR : ∀ y ∈ C, R x y := by
    cases hc : C with
    | nil => simp
    | cons c D =>
      subst hc
      refine O.behind (A := P ++ B) (by simpa using hg) hx (by simpa using hnew) (hC c rfl) ?_
      intro y hy
      have hy0 := hg.pos y (by simp only [List.mem_append]; exact .inr (.inr hy))
      rcases hpar with ⟨h0, _⟩ | ⟨A, rfl⟩
      · exact ⟨by omega, h0 ▸ O.not_zero y hy0⟩
      · have := (List.pairwise_append.1 hs).2.2 (par x) (by simp) y (by simp only [List.mem_append]; exact .inr hy)
        exact ⟨fun h => O.irr _ (h ▸ this), O.asymm this⟩
  have hmem : ∀ y, y ∈ P ++ (B ++ x :: C) ↔ y = x ∨ y ∈ P ++ (B ++ C) := by
    intro y; simp only [List.mem_append, List.mem_cons]
    constructor
    · rintro (h | h | h | h) <;> simp [h]
    · rintro (h | h | h | h) <;> simp [h]
  refine ⟨?_, fun y hy => ?_, fun y hy => ?_⟩
  · have h1 := List.pairwise_append.1 hs
    have h2 := List.pairwise_append.1 h1.2.1
    refine List.pairwise_append.2 ⟨h1.1, List.pairwise_append.2 ⟨h2.1, List.pairwise_cons.2 ⟨hR, h2.2.1⟩, ?_⟩, ?_⟩
    · intro a ha b hb
      rcases List.mem_cons.1 hb with rfl | hb
      · exact hA a (by simp [ha])
      · exact h2.2.2 a ha b hb
    · intro a ha b hb
      rcases List.mem_append.1 hb with hb | hb
      · exact h1.2.2 a ha b (by simp [hb])
      · rcases List.mem_cons.1 hb with rfl | hb
        · exact hA a (by simp [ha])
        · exact h1.2.2 a ha b (by simp [hb])
  · rcases (hmem y).1 hy with rfl | h
    · exact hx
    · exact hg.pos y h
  · rcases (hmem y).1 hy with rfl | h
    · exact hP.imp id fun h => (hmem _).2 (.inr (by simp [h]))
    · exact (hg.closed y h).imp id fun h => (hmem _).2 (.inr h)

/-- two lists in order with the same letters are one -/
theorem Order.unique : ∀ {l m : List Nat}, l.Pairwise R → m.Pairwise R → (∀ y, y ∈ l ↔ y ∈ m) → l = m
  | [], m, _, _, h => by
    cases m with
    | nil => rfl
    | cons b m => exact absurd ((h b).2 (by simp)) (by simp)
  | a :: l, [], _, _, h => absurd ((h a).1 (by simp)) (by simp)
  | a :: l, b :: m, hl, hm, h => by
    have hl' := List.pairwise_cons.1 hl
    have hm' := List.pairwise_cons.1 hm
    have hab : a = b := by
      rcases List.mem_cons.1 ((h a).1 (by simp)) with h1 | h1
      · exact h1
      · rcases List.mem_cons.1 ((h b).2 (by simp)) with h2 | h2
        · exact h2.symm
        · exact absurd (hl'.1 b h2) (O.asymm (hm'.1 a h1))
    subst hab
    have : l = m := by
      refine Order.unique hl'.2 hm'.2 fun y => ⟨fun hy => ?_, fun hy => ?_⟩
      · rcases List.mem_cons.1 ((h y).1 (by simp [hy])) with rfl | h1
        · exact absurd (hl'.1 y hy) (O.irr y)
        · exact h1
      · rcases List.mem_cons.1 ((h y).2 (by simp [hy])) with rfl | h1
        · exact absurd (hm'.1 y hy) (O.irr y)
        · exact h1
    rw [this]

end

end Go.Proofs.YthlojjknpfijmaaDoor.LineOrd

namespace Go.Proofs.YthlojjknpfijmaaDoor
open LineOrd
/-- the letter of a number -/
def ltOf (x : Nat) : Lt := ⟨(x : Int), UInt8.ofNat (97 + (x - 4) % 26), false⟩
/-- letters that came in some order: which ones are there -/
structure Turned (n : Nat) (par : Nat → Nat) (R : Nat → Nat → Prop) (done : Nat → Bool) (L : List Lt) : Prop where
  l : ∃ l : List Nat, L = l.map ltOf ∧ Good par R l ∧ (∀ x ∈ l, 4 ≤ x ∧ x < 4 + n) ∧ ∀ k, k < n → (done k = true ↔ 4 + k ∈ l)
theorem Turned.start (n : Nat) (par : Nat → Nat) (R : Nat → Nat → Prop) : Turned n par R (fun _ => false) [] :=
  ⟨[], rfl, Good.nil, by simp, by simp⟩
theorem ixOf_map_neg {x : Nat} {l : List Nat} (h : x ∉ l) : ixOf (x : Int) (l.map ltOf) = -1 := by
  refine ixOf_none fun y hy => ?_
  obtain ⟨z, hz, rfl⟩ := List.mem_map.1 hy
  intro e
  have : z = x := by have e' : (z : Int) = x := e; omega
  exact h (this ▸ hz)
theorem ixOf_map_at {x : Nat} {A B : List Nat} (h : x ∉ A) : ixOf (x : Int) ((A ++ x :: B).map ltOf) = A.length := by
  refine ixOf_some (x := ltOf x) (by rw [List.getElem?_map, List.getElem?_append_right (by omega)]; simp) rfl fun i y hi hy => ?_
  rw [List.getElem?_map, List.getElem?_append_left hi] at hy
  obtain ⟨z, hz, rfl⟩ := Option.map_eq_some_iff.1 hy
  intro e
  have : z = x := by have e' : (z : Int) = x := e; omega
  exact h (this ▸ List.mem_iff_getElem?.2 ⟨i, hz⟩)
theorem takeWhile_all (p : Nat → Bool) : ∀ (D : List Nat), ∀ y ∈ D.takeWhile p, p y = true
  | [], y, h => by simp at h
  | a :: D, y, h => by
    rw [List.takeWhile_cons] at h
    split at h
    · rcases List.mem_cons.1 h with rfl | h
      · assumption
      · exact takeWhile_all p D y h
    · simp at h
theorem dropWhile_head (p : Nat → Bool) : ∀ (D : List Nat) (c : Nat), (D.dropWhile p).head? = some c → p c = false
  | [], c, h => by simp at h
  | a :: D, c, h => by
    rw [List.dropWhile_cons] at h
    split at h
    · exact dropWhile_head p D c h
    · rename_i hp
      simp at h
      subst h
      simpa using hp
theorem takeWhile_lets (x : Nat) : ∀ (D : List Nat), ((D.map ltOf).takeWhile fun y => decide ((x : Int) < y.id)).length = (D.takeWhile fun y => decide (x < y)).length
  | [] => rfl
  | a :: D => by
    rw [List.map_cons, List.takeWhile_cons, List.takeWhile_cons]
    have : (decide ((x : Int) < (ltOf a).id)) = decide (x < a) := by simp [ltOf]
    rw [this]
    split
    · simp [takeWhile_lets x D]
    · rfl
theorem Turned.step {n : Nat} {par : Nat → Nat} {R : Nat → Nat → Prop} {done : Nat → Bool} {L : List Lt} (O : Order par R) (h : Turned n par R done L) (hn : n ≤ 1000) {k : Nat} (hk : k < n) (hd : done k = false)
    (hp : par (4 + k) = 0 ∨ (4 ≤ par (4 + k) ∧ done (par (4 + k) - 4) = true)) :
    insErr ((4 + k : Nat) : Int) (par (4 + k) : Nat) L = 0 ∧ Turned n par R (fun j => if j = k then true else done j) (insL ((4 + k : Nat) : Int) (par (4 + k) : Nat) (UInt8.ofNat (97 + k % 26)) L) := by
  obtain ⟨l, rfl, hg, hr, hm⟩ := h.l
  have hnew : 4 + k ∉ l := fun h => by have := (hm k hk).2 h; rw [hd] at this; cases this
  have hlt : par (4 + k) < 4 + k := O.par_lt (4 + k) (by omega)
  -- the part ahead
  obtain ⟨P, D, rfl, hP, hfrom, hno⟩ : ∃ P D, l = P ++ D ∧ ((par (4 + k) = 0 ∧ P = []) ∨ ∃ A, P = A ++ [par (4 + k)]) ∧ insFrom ((par (4 + k) : Nat) : Int) (l.map ltOf) = P.length ∧ (0 < par (4 + k) → 0 ≤ ixOf ((par (4 + k) : Nat) : Int) (l.map ltOf)) := by
    rcases hp with h0 | ⟨h4, h0⟩
    · exact ⟨[], l, rfl, .inl ⟨h0, rfl⟩, by unfold insFrom; rw [h0]; rfl, by omega⟩
    · have hmem : par (4 + k) ∈ l := by
        have := (hm (par (4 + k) - 4) (by omega)).1 h0
        rwa [show 4 + (par (4 + k) - 4) = par (4 + k) by omega] at this
      obtain ⟨A, B, hAB, hA⟩ : ∃ A B, l = A ++ par (4 + k) :: B ∧ par (4 + k) ∉ A := List.append_of_mem hmem |> fun ⟨A, B, hAB⟩ => by
        refine ⟨A, B, hAB, fun hA => ?_⟩
        have hs := hg.sorted
        rw [hAB] at hs
        exact O.irr _ ((List.pairwise_append.1 hs).2.2 _ hA _ (by simp))
      have hx := ixOf_map_at (x := par (4 + k)) (A := A) (B := B) hA
      rw [← hAB] at hx
      refine ⟨A ++ [par (4 + k)], B, by rw [hAB]; simp, .inr ⟨A, rfl⟩, ?_, fun _ => by rw [hx]; omega⟩
      unfold insFrom
      rw [hx, if_pos (by omega)]
      simp
  have hi : ixOf ((4 + k : Nat) : Int) ((P ++ D).map ltOf) = -1 := ixOf_map_neg hnew
  refine ⟨?_, ?_⟩
  · unfold insErr
    rw [if_neg (by omega), if_neg (by omega), if_neg (by intro ⟨h1, h2⟩; have := hno (by omega); omega)]
  · have hB : (P ++ D).map ltOf = P.map ltOf ++ D.map ltOf := List.map_append
    have hat : insAt ((P ++ D).map ltOf) P.length ((4 + k : Nat) : Int) = P.length + (D.takeWhile fun y => decide (4 + k < y)).length := by
      unfold insAt
      rw [hB, List.drop_left' (by simp), takeWhile_lets]
    have hD : (D.takeWhile fun y => decide (4 + k < y)) ++ (D.dropWhile fun y => decide (4 + k < y)) = D := List.takeWhile_append_dropWhile
    have hTa : ∀ y ∈ (D.takeWhile fun y => decide (4 + k < y)), 4 + k < y := fun y hy => by simpa using takeWhile_all _ D y hy
    have hCa : ∀ c, (D.dropWhile fun y => decide (4 + k < y)).head? = some c → c ≤ 4 + k := fun c hc => by simpa using dropWhile_head _ D c hc
    generalize (D.takeWhile fun y => decide (4 + k < y)) = B at hat hD hTa
    generalize (D.dropWhile fun y => decide (4 + k < y)) = C at hD hCa
    subst hD
    have hins := O.insert (x := 4 + k) hg (by omega) hnew hP hTa (fun c hc => by
      have h1 := hCa c hc
      have h2 : c ≠ 4 + k := fun e => hnew (by
        cases C with
        | nil => simp at hc
        | cons c' C => simp at hc; subst hc; subst e; simp)
      omega)
    refine ⟨P ++ (B ++ (4 + k) :: C), ?_, hins, ?_, ?_⟩
    · unfold insL
      rw [hfrom, hat]
      rw [show (P ++ (B ++ C)).map ltOf = (P ++ B).map ltOf ++ C.map ltOf by simp]
      rw [List.take_left' (by simp), List.drop_left' (by simp)]
      simp [ltOf]
    · intro x hx
      have : x = 4 + k ∨ x ∈ P ++ (B ++ C) := by
        simp only [List.mem_append, List.mem_cons] at hx ⊢
        rcases hx with h | h | h | h <;> simp [h]
      rcases this with rfl | h
      · omega
      · exact hr x h
    · intro j hj
      have e : 4 + j ∈ P ++ (B ++ (4 + k) :: C) ↔ j = k ∨ 4 + j ∈ P ++ (B ++ C) := by
        simp only [List.mem_append, List.mem_cons]
        constructor
        · rintro (h | h | h | h)
          · simp [h]
          · simp [h]
          · exact .inl (by omega)
          · simp [h]
        · rintro (h | h | h | h) <;> simp [h]
      rw [e, ← hm j hj]
      by_cases hjk : j = k <;> simp [hjk]
/-- all letters are there: one list -/
theorem Turned.unique {n : Nat} {par : Nat → Nat} {R : Nat → Nat → Prop} {d d' : Nat → Bool} {L L' : List Lt} (O : Order par R) (h : Turned n par R d L) (h' : Turned n par R d' L') (hd : ∀ k, k < n → d k = true) (hd' : ∀ k, k < n → d' k = true) : L = L' := by
  obtain ⟨l, rfl, hg, hr, hm⟩ := h.l
  obtain ⟨l', rfl, hg', hr', hm'⟩ := h'.l
  have : l = l' := by
    refine O.unique hg.sorted hg'.sorted fun y => ⟨fun hy => ?_, fun hy => ?_⟩
    · have := hr y hy
      have e := (hm' (y - 4) (by omega)).1 (hd' _ (by omega))
      rwa [show 4 + (y - 4) = y by omega] at e
    · have := hr' y hy
      have e := (hm (y - 4) (by omega)).1 (hd _ (by omega))
      rwa [show 4 + (y - 4) = y by omega] at e
  rw [this]
theorem Turned.seen {n : Nat} {par : Nat → Nat} {R : Nat → Nat → Prop} {d : Nat → Bool} {L : List Lt} (h : Turned n par R d L) : (txtL L).length = L.length := by
  obtain ⟨l, rfl, h1, h2, h3⟩ := h.l
  clear h h1 h2 h3
  induction l with
  | nil => rfl
  | cons a l ih => unfold txtL at ih ⊢; simp [ltOf] at ih ⊢; exact ih
/-- behind which letter each stands -/
def parOf (of : Nat → Nat) (n : Nat) (x : Nat) : Nat := if 4 ≤ x ∧ x < 4 + n then of (x - 4) else 0
theorem parOf_lt {of : Nat → Nat} {n : Nat} (h : ∀ k, k < n → of k < 4 + k) : ∀ z, 0 < z → parOf of n z < z := fun z hz => by
  unfold parOf
  split
  · rename_i hh; have := h (z - 4) (by omega); omega
  · omega
theorem parOf_at {of : Nat → Nat} {n k : Nat} (h : k < n) : parOf of n (4 + k) = of k := by
  unfold parOf
  rw [if_pos (by omega), show 4 + k - 4 = k by omega]
end Go.Proofs.YthlojjknpfijmaaDoor
