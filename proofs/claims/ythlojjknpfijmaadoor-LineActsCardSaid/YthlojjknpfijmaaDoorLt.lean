/- Letters of a line: plain laws. -/
namespace Go.Proofs.YthlojjknpfijmaaDoor
set_option linter.unusedVariables false

/-- a letter -/
structure Lt where
  id : Int
  c : UInt8
  gone : Bool

/-- where a letter of this id stands (-1: nowhere) -/
def ixOf (id : Int) : List Lt → Int
  | [] => -1
  | x :: r => if x.id = id then 0 else if ixOf id r < 0 then -1 else ixOf id r + 1
theorem ixOf_none {id : Int} : ∀ {L : List Lt}, (∀ x ∈ L, x.id ≠ id) → ixOf id L = -1
  | [], _ => rfl
  | x :: r, h => by
    unfold ixOf
    rw [if_neg (h x (by simp)), ixOf_none (fun y hy => h y (by simp [hy])), if_pos (by omega)]
theorem ixOf_some {id : Int} : ∀ {L : List Lt} {j : Nat} {x : Lt}, L[j]? = some x → x.id = id → (∀ i y, i < j → L[i]? = some y → y.id ≠ id) → ixOf id L = j
  | [], j, x, h, _, _ => by simp at h
  | y :: r, 0, x, h, he, _ => by simp at h; subst h; unfold ixOf; rw [if_pos he]; rfl
  | y :: r, j + 1, x, h, he, hn => by
    have h0 := hn 0 y (by omega) rfl
    have ih := ixOf_some (L := r) (j := j) (x := x) (by simpa using h) he (fun i z hi hz => hn (i + 1) z (by omega) (by simpa using hz))
    unfold ixOf
    rw [if_neg h0, ih, if_neg (by omega)]
    simp
theorem ixOf_lt (id : Int) : ∀ (L : List Lt), ixOf id L < L.length ∧ -1 ≤ ixOf id L
  | [] => by simp [ixOf]
  | x :: r => by
    have := ixOf_lt id r
    unfold ixOf
    rw [List.length_cons]
    split
    · omega
    · split
      · omega
      · omega
theorem ixOf_neg {id : Int} : ∀ {L : List Lt}, ixOf id L < 0 → ∀ x ∈ L, x.id ≠ id
  | [], _, _, h => by simp at h
  | y :: r, h, x, hx => by
    unfold ixOf at h
    split at h
    · omega
    · rename_i hne
      split at h
      · rename_i hr
        rcases List.mem_cons.1 hx with rfl | hx
        · exact hne
        · exact ixOf_neg hr x hx
      · omega
/-- where it stands, it stands -/
theorem ixOf_at {id : Int} : ∀ {L : List Lt}, 0 ≤ ixOf id L → ∃ A x B, L = A ++ x :: B ∧ x.id = id ∧ ixOf id L = A.length ∧ ∀ y ∈ A, y.id ≠ id
  | [], h => by simp [ixOf] at h
  | y :: r, h => by
    by_cases he : y.id = id
    · exact ⟨[], y, r, rfl, he, by unfold ixOf; rw [if_pos he]; rfl, by simp⟩
    · by_cases hr : ixOf id r < 0
      · unfold ixOf at h
        rw [if_neg he, if_pos hr] at h
        omega
      · obtain ⟨A, x, B, h1, h2, h3, h4⟩ := ixOf_at (id := id) (L := r) (by omega)
        refine ⟨y :: A, x, B, by rw [h1]; rfl, h2, ?_, ?_⟩
        · show ixOf id (y :: r) = _
          unfold ixOf
          rw [if_neg he, if_neg hr, h3]
          simp
        · intro z hz
          rcases List.mem_cons.1 hz with rfl | hz
          · exact he
          · exact h4 z hz

/-- an insertion's error (0: none) -/
def insErr (id behind : Int) (L : List Lt) : Nat :=
  if id < 4 ∨ 4294967300 ≤ id ∨ behind < 0 ∨ id ≤ behind then 3 else if 0 ≤ ixOf id L then 7 else if 0 < behind ∧ ixOf behind L < 0 then 6 else 0
/-- where a letter goes that may stand at place a or later -/
def insAt (L : List Lt) (a : Nat) (id : Int) : Nat := a + ((L.drop a).takeWhile fun x => decide (id < x.id)).length
def insFrom (behind : Int) (L : List Lt) : Nat := if 0 < behind then (ixOf behind L + 1).toNat else 0
/-- the letters behind an insertion -/
def insL (id behind : Int) (c : UInt8) (L : List Lt) : List Lt := L.take (insAt L (insFrom behind L) id) ++ ⟨id, c, false⟩ :: L.drop (insAt L (insFrom behind L) id)
def insAfter (id behind : Int) (c : UInt8) (L : List Lt) : List Lt := if insErr id behind L = 0 then insL id behind c L else L

theorem takeWhile_stop (p : Lt → Bool) : ∀ (L : List Lt) (k : Nat), (∀ j x, j < k → L[j]? = some x → p x = true) → k ≤ L.length → (∀ x, L[k]? = some x → p x = false) → (L.takeWhile p).length = k
  | [], k, _, hk, _ => by simp at hk; subst hk; rfl
  | y :: r, 0, _, _, hs => by have := hs y rfl; simp [List.takeWhile, this]
  | y :: r, k + 1, hp, hk, hs => by
    have h0 := hp 0 y (by omega) rfl
    rw [List.takeWhile_cons_of_pos h0, List.length_cons, takeWhile_stop p r k (fun j x hj hx => hp (j + 1) x (by omega) (by simpa using hx)) (by simpa using hk) (fun x hx => hs x (by simpa using hx))]
theorem insAt_is {L : List Lt} {a k : Nat} {id : Int} (ha : a ≤ k) (hk : k ≤ L.length) (hp : ∀ j x, a ≤ j → j < k → L[j]? = some x → id < x.id) (hs : ∀ x, L[k]? = some x → ¬ id < x.id) : insAt L a id = k := by
  unfold insAt
  rw [takeWhile_stop _ (L.drop a) (k - a) (fun j x hj hx => by
      rw [List.getElem?_drop] at hx
      exact decide_eq_true (hp (a + j) x (by omega) (by omega) hx)) (by simp; omega) (fun x hx => by
      rw [List.getElem?_drop, show a + (k - a) = k by omega] at hx
      exact decide_eq_false (hs x hx))]
  omega

/-- the bytes that are seen; the ids -/
def txtL (L : List Lt) : List UInt8 := (L.filter fun x => !x.gone).map (·.c)
def idsL (L : List Lt) : List Int := L.map (·.id)
theorem txtL_len (L : List Lt) : (txtL L).length ≤ L.length := by unfold txtL; rw [List.length_map]; exact List.length_filter_le _ _
theorem txtL_app (A B : List Lt) : txtL (A ++ B) = txtL A ++ txtL B := by unfold txtL; simp
theorem idsL_app (A B : List Lt) : idsL (A ++ B) = idsL A ++ idsL B := by unfold idsL; simp

/-- the letters behind a deletion -/
def delL (id : Int) : List Lt → List Lt
  | [] => []
  | x :: r => if x.id = id then ⟨x.id, x.c, true⟩ :: r else x :: delL id r
theorem delL_none {id : Int} : ∀ {L : List Lt}, ixOf id L < 0 → delL id L = L
  | [], _ => rfl
  | y :: r, h => by
    unfold ixOf at h
    unfold delL
    split at h
    · omega
    · rename_i hne
      rw [if_neg hne]
      split at h
      · rename_i hr; rw [delL_none hr]
      · omega
theorem delL_at {id : Int} {x : Lt} {B : List Lt} : ∀ {A : List Lt}, x.id = id → (∀ y ∈ A, y.id ≠ id) → delL id (A ++ x :: B) = A ++ ⟨x.id, x.c, true⟩ :: B
  | [], h, _ => by unfold delL; rw [List.nil_append]; simp [h]
  | y :: A, h, hn => by
    show delL id (y :: (A ++ x :: B)) = _
    unfold delL
    rw [if_neg (hn y (by simp)), delL_at h (fun z hz => hn z (by simp [hz]))]
    rfl
theorem delL_ids (id : Int) : ∀ (L : List Lt), idsL (delL id L) = idsL L
  | [] => rfl
  | y :: r => by
    unfold delL
    split
    · rfl
    · show y.id :: idsL (delL id r) = y.id :: idsL r
      rw [delL_ids id r]
theorem delL_len (id : Int) (L : List Lt) : (delL id L).length = L.length := by
  have := congrArg List.length (delL_ids id L)
  simpa [idsL] using this
theorem delL_txt (id : Int) : ∀ (L : List Lt), (txtL (delL id L)).length ≤ (txtL L).length ∧ (txtL L).length ≤ (txtL (delL id L)).length + 1
  | [] => ⟨by simp [delL], by simp [delL]⟩
  | y :: r => by
    have ih := delL_txt id r
    unfold delL
    split
    · unfold txtL
      cases hg : y.gone <;> simp [hg]
    · unfold txtL at ih ⊢
      cases hg : y.gone <;> simp [hg] at ih ⊢ <;> omega

theorem insAt_le (id behind : Int) (L : List Lt) : insFrom behind L ≤ insAt L (insFrom behind L) id ∧ insAt L (insFrom behind L) id ≤ L.length := by
  have hf : insFrom behind L ≤ L.length := by
    have := ixOf_lt behind L
    unfold insFrom
    split <;> omega
  refine ⟨by unfold insAt; omega, ?_⟩
  unfold insAt
  have : ((L.drop (insFrom behind L)).takeWhile fun x => decide (id < x.id)).length ≤ (L.drop (insFrom behind L)).length := by
    generalize L.drop (insFrom behind L) = M
    induction M with
    | nil => simp
    | cons a r ih => rw [List.takeWhile_cons]; split <;> simp <;> omega
  rw [List.length_drop] at this
  omega
theorem insL_len (id behind : Int) (c : UInt8) (L : List Lt) : (insL id behind c L).length = L.length + 1 := by
  have := (insAt_le id behind L).2
  unfold insL
  rw [List.length_append, List.length_cons, List.length_take, List.length_drop]
  omega
theorem insL_txt (id behind : Int) (c : UInt8) (L : List Lt) : (txtL (insL id behind c L)).length = (txtL L).length + 1 := by
  have h : txtL L = txtL (L.take (insAt L (insFrom behind L) id)) ++ txtL (L.drop (insAt L (insFrom behind L) id)) := by rw [← txtL_app, List.take_append_drop]
  rw [h]
  unfold insL
  rw [txtL_app]
  simp [txtL]
  omega
theorem insL_sub (id behind : Int) (c : UInt8) (L : List Lt) : (idsL L).Sublist (idsL (insL id behind c L)) := by
  have h : idsL L = idsL (L.take (insAt L (insFrom behind L) id)) ++ idsL (L.drop (insAt L (insFrom behind L) id)) := by rw [← idsL_app, List.take_append_drop]
  rw [h]
  unfold insL
  rw [idsL_app]
  exact List.Sublist.append (List.Sublist.refl _) (by simp [idsL])

/-- what a greedy look for a part finds -/
theorem greedy_step {a b : Int} {A B : List Int} (h : (a :: A).Sublist (b :: B)) : if b = a then A.Sublist B else (a :: A).Sublist B := by
  split
  · rename_i he
    subst he
    exact List.sublist_cons_iff.1 h |>.elim (fun h => (List.sublist_cons_self _ _).trans h) (fun ⟨r, hr, hs⟩ => by cases hr; exact hs)
  · rename_i hne
    rcases List.sublist_cons_iff.1 h with h | ⟨r, hr, hs⟩
    · exact h
    · cases hr
      exact absurd rfl hne

theorem drop_at {xs : List Int} {k : Nat} {x : Int} (h : xs[k]? = some x) : xs.drop k = x :: xs.drop (k + 1) := by
  obtain ⟨hl, rfl⟩ := List.getElem?_eq_some_iff.1 h
  exact List.drop_eq_getElem_cons hl
theorem greedy_yes {xs ys : List Int} {k m : Nat} {x y : Int} (hx : xs[k]? = some x) (hy : ys[m]? = some y) (h : (xs.drop k).Sublist (ys.drop m)) (e : y = x) : (xs.drop (k + 1)).Sublist (ys.drop (m + 1)) := by
  rw [drop_at hx, drop_at hy] at h
  have := greedy_step h
  rwa [if_pos e] at this
theorem greedy_no {xs ys : List Int} {k m : Nat} {x y : Int} (hx : xs[k]? = some x) (hy : ys[m]? = some y) (h : (xs.drop k).Sublist (ys.drop m)) (e : y ≠ x) : (xs.drop k).Sublist (ys.drop (m + 1)) := by
  rw [drop_at hx, drop_at hy] at h
  have := greedy_step h
  rw [if_neg e] at this
  rwa [drop_at hx]
theorem greedy_end {xs ys : List Int} {k m : Nat} (h : (xs.drop k).Sublist (ys.drop m)) (hk : k ≤ xs.length) (he : ys.length ≤ m ∨ xs.length ≤ k) : k = xs.length := by
  rcases he with he | he
  · rw [List.drop_eq_nil_of_le he] at h
    have := h.length_le
    simp at this
    omega
  · omega

/-- an act: an insertion, or a deletion -/
def actL (ins : Bool) (id behind : Int) (c : UInt8) (L : List Lt) : List Lt := if ins then insAfter id behind c L else delL id L
theorem actL_len (ins : Bool) (id behind : Int) (c : UInt8) (L : List Lt) : L.length ≤ (actL ins id behind c L).length ∧ (actL ins id behind c L).length ≤ L.length + 1 := by
  unfold actL
  split
  · unfold insAfter
    split
    · rw [insL_len]; omega
    · omega
  · rw [delL_len]; omega
theorem actL_sub (ins : Bool) (id behind : Int) (c : UInt8) (L : List Lt) : (idsL L).Sublist (idsL (actL ins id behind c L)) := by
  unfold actL
  split
  · unfold insAfter
    split
    · exact insL_sub id behind c L
    · exact List.Sublist.refl _
  · rw [delL_ids]; exact List.Sublist.refl _
end Go.Proofs.YthlojjknpfijmaaDoor
