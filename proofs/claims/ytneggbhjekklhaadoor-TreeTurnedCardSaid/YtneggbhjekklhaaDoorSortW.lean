/- A row of the call's own, sorted by the library: how it lies before and after; the lists that come out. Nothing of the program's own. -/
import Derived.Test.YtneggbhjekklhaaDoorRow
import Derived.Test.YtneggbhjekklhaaDoorSortQ
import Derived.Shelf.SlSortCmp.KitK
namespace Go.Proofs.YtneggbhjekklhaaDoor
open Go Go.RowKit Go.Shelf Go.Lib Go.Sort
set_option linter.unusedVariables false
set_option linter.unusedSimpArgs false
set_option linter.unusedSectionVars false
set_option maxHeartbeats 1000000

section
variable {T : Type} (E : Enc T) {α : Type} [Inhabited α] (f : α → T)
/-- how a thing with a mark lies -/
def encBy (p : α) : List Value := E.cells (f p)
theorem get_map {d : Array α} {i : Nat} (hi : i < d.size) : (d.toList.map f)[i]? = some (f d[i]!) := by
  rw [List.getElem?_map, List.getElem?_eq_getElem (by simpa using hi)]
  simp [getElem!_pos, hi]
theorem flatK_row (d : Array α) : (flatK (encBy E f) E.k d).toList = E.row (d.toList.map f) := by
  apply List.ext_getElem?
  intro j
  by_cases hj : j < d.size * E.k
  · have hk : 0 < E.k := by rcases Nat.eq_zero_or_pos E.k with h0 | h0
                            · rw [h0] at hj; omega
                            · exact h0
    have hq : j / E.k < d.size := (Nat.div_lt_iff_lt_mul hk).2 hj
    have hr : j % E.k < E.k := Nat.mod_lt _ hk
    have e := E.row_at (get_map f hq) (j := j % E.k) (v := (E.cells (f d[j / E.k]!))[j % E.k]!) (by
      rw [List.getElem?_eq_getElem (by rw [E.len]; exact hr), getElem!_pos (E.cells (f d[j / E.k]!)) (j % E.k) (by rw [E.len]; exact hr)])
    rw [show j / E.k * E.k + j % E.k = j by rw [Nat.mul_comm]; exact Nat.div_add_mod j E.k] at e
    rw [e]
    have hg := get_flatK (encBy E f) E.k d j hj
    have hj' : j < (flatK (encBy E f) E.k d).size := by rw [size_flatK]; exact hj
    rw [getElem!_pos (flatK (encBy E f) E.k d) j hj'] at hg
    rw [List.getElem?_eq_getElem (by simpa using hj')]
    simp only [Array.getElem_toList]
    rw [hg]
    rfl
  · rw [List.getElem?_eq_none (by simpa using by omega), List.getElem?_eq_none (by rw [E.row_len]; simpa using by omega)]
variable {E f}
theorem Rw.holdsK {ty : TypeId} {base g n cap : Nat} {L : List T} {w : World} {d : Array α} (h : Rw E ty base (.slice (some ⟨g, 0, none⟩) n cap) L w) (hd : d.toList.map f = L) : HoldsK (encBy E f) E.k w g 0 d := by
  intro j hj
  refine ⟨?_, h.fz (0 + j)⟩
  have hr := flatK_row E f d
  rw [hd] at hr
  have hs := h.sl
  rcases hs with ⟨e, _⟩ | ⟨p, c, e, h1, h3⟩
  · cases e
  · cases e
    have := h3 j (flatK (encBy E f) E.k d)[j]! (by rw [← hr, List.getElem?_eq_getElem (by simpa using hj)]; simp only [Array.getElem_toList]; rw [getElem!_pos (flatK (encBy E f) E.k d) j hj])
    rw [Addr.add_lit] at this
    exact this
theorem Rw.rowK {ty : TypeId} {base g n cap : Nat} {L : List T} {w : World} {d : Array α} (h : Rw E ty base (.slice (some ⟨g, 0, none⟩) n cap) L w) (hd : d.toList.map f = L) : RowK (encBy E f) E.k w g 0 d where
  hk x := E.len (f x)
  h1 x := E.one (f x)
  hH := h.holdsK hd
  hblk := (h.lt g rfl).2
theorem Rw.sorted {ty : TypeId} {base g n cap : Nat} {L : List T} {w w' : World} {d d' : Array α} (h : Rw E ty base (.slice (some ⟨g, 0, none⟩) n cap) L w) (hd : d.toList.map f = L) (hs : d'.size = d.size) (hS : SWK (encBy E f) E.k w g 0 d' w') :
    Rw E ty base (.slice (some ⟨g, 0, none⟩) n cap) (d'.toList.map f) w' ∧ (base ≤ w.heap.size → Below base w w') := by
  have hn : n = L.length := h.sl.len
  have hl : L.length = d.size := by rw [← hd]; simp
  obtain ⟨m, os, rfl⟩ := hS
  have hlt := (h.lt g rfl).2
  have hge := (h.lt g rfl).1
  have hblk : ∀ k, k < w.heap.size → k ≠ g → (sortWorldK (encBy E f) E.k w g 0 m d' os).heap[k]? = w.heap[k]? := fun k hk hne => by
    unfold sortWorldK grow
    show ((putRowK (encBy E f) E.k (Sort.ahead w m) g 0 d').heap ++ os)[k]? = _
    have e : (putRowK (encBy E f) E.k (Sort.ahead w m) g 0 d').heap.size = w.heap.size := by unfold putRowK putRow mapBlock; simp [Sort.ahead]
    rw [Array.getElem?_append_left (by rw [e]; exact hk)]
    unfold putRowK putRow mapBlock
    show (w.heap.modify g _)[k]? = _
    rw [Array.getElem?_modify, if_neg (Ne.symm hne)]
  refine ⟨⟨by rw [E.row_len], ?_⟩, fun hb => ⟨rfl, rfl, rfl, size_sortWorldK_c (encBy E f) E.k w g 0 m d' os, fun k hk => hblk k (by omega) (by omega)⟩⟩
  rcases h.2 with ⟨e, _⟩ | ⟨g', cap', cur, e, h1, h2, h3, h4, h5, h6⟩
  · cases e
  · cases e
    refine .inr ⟨g, cap, putCells id 0 (flatK (encBy E f) E.k d') cur, by simp [hs, hn, hl], h1, ?_, by simp; omega, h4, by simp [putCells, h5], ?_⟩
    · unfold sortWorldK grow
      show ((putRowK (encBy E f) E.k (Sort.ahead w m) g 0 d').heap ++ os)[g]? = _
      have e : (putRowK (encBy E f) E.k (Sort.ahead w m) g 0 d').heap.size = w.heap.size := by unfold putRowK putRow mapBlock; simp [Sort.ahead]
      rw [Array.getElem?_append_left (by rw [e]; exact hlt)]
      unfold putRowK putRow mapBlock
      show (w.heap.modify g _)[g]? = _
      rw [Array.getElem?_modify, if_pos rfl, h2]
      rfl
    · rw [← flatK_row]
      apply List.ext_getElem?
      intro j
      have hc : d'.size * E.k ≤ cur.size := by rw [h5]; exact Nat.mul_le_mul_right _ (by omega)
      by_cases hj : j < d'.size * E.k
      · rw [List.getElem?_take, if_pos (by simpa using hj)]
        have hj2 : j < (flatK (encBy E f) E.k d').size := by rw [size_flatK]; exact hj
        have hj3 : j < (putCells id 0 (flatK (encBy E f) E.k d') cur).size := by simp [putCells]; omega
        rw [List.getElem?_eq_getElem (by simpa using hj3), List.getElem?_eq_getElem (by simpa using hj2)]
        simp only [Array.getElem_toList]
        simp [putCells, hj, getElem!_pos (flatK (encBy E f) E.k d') j hj2]
      · rw [List.getElem?_take, if_neg (by simpa using hj), List.getElem?_eq_none (by simpa using by omega)]
end

/-! ### the lists -/
section
variable {T : Type} [Inhabited T] (lt : T → T → Bool)
open Stb
/-- where the document lays x: from behind, past all that are later -/
def kOf (x : T) (L : List T) : Nat → Nat
  | 0 => 0
  | k + 1 => match L[k]? with
    | some y => if lt x y then kOf x L k else k + 1
    | none => k + 1
def laidIn (L : List T) (x : T) : List T := L.take (kOf lt x L L.length) ++ x :: L.drop (kOf lt x L L.length)
/-- the document's sort -/
def sortL (L : List T) : List T := L.foldl (laidIn lt) []
/-- L is M in order, equals as they came -/
def StS (M L : List T) : Prop := ∃ X : List (T × Nat), X.map Prod.fst = L ∧ X.Perm M.zipIdx ∧ X.Pairwise fun p q => tlb (fun a b => lt a.1 b.1) Prod.snd p q = true
variable {lt}
theorem swo_fst (h : SWO lt) : SWO (fun a b : T × Nat => lt a.1 b.1) := ⟨fun x => h.irrefl x.1, fun x y z => h.trans x.1 y.1 z.1, fun x y z => h.ntrans x.1 y.1 z.1⟩
theorem StS.unique (hS : SWO lt) {M L L' : List T} (h : StS lt M L) (h' : StS lt M L') : L = L' := by
  obtain ⟨X, rfl, hp, hx⟩ := h
  obtain ⟨Y, rfl, hq, hy⟩ := h'
  have hs := swo_tlb (tag := Prod.snd) (swo_fst hS)
  congr 1
  refine List.Perm.eq_of_pairwise (le := fun p q => tlb (fun a b : T × Nat => lt a.1 b.1) Prod.snd p q = true) (fun a b _ _ h1 h2 => ?_) hx hy (hp.trans hq.symm)
  have := hs.trans a b a h1 h2
  rw [hs.irrefl a] at this
  cases this
theorem kOf_le (x : T) (L : List T) : ∀ k, kOf lt x L k ≤ k
  | 0 => Nat.le_refl _
  | k + 1 => by
    unfold kOf
    split
    · split
      · exact Nat.le_succ_of_le (kOf_le x L k)
      · exact Nat.le_refl _
    · exact Nat.le_refl _
theorem kOf_behind (x : T) (L : List T) : ∀ k, ∀ j y, kOf lt x L k ≤ j → j < k → L[j]? = some y → lt x y = true
  | 0, j, y, _, h, _ => by omega
  | k + 1, j, y, h1, h2, h3 => by
    unfold kOf at h1
    split at h1
    · rename_i z hz
      split at h1
      · rename_i hl
        by_cases hj : j = k
        · subst hj; rw [hz] at h3; cases h3; exact hl
        · exact kOf_behind x L k j y h1 (by omega) h3
      · omega
    · omega
theorem kOf_ahead (x : T) (L : List T) : ∀ k, k ≤ L.length → 0 < kOf lt x L k → ∃ y, L[kOf lt x L k - 1]? = some y ∧ lt x y = false
  | 0, _, h => by simp [kOf] at h
  | k + 1, hk, h => by
    have e : L[k]? = some L[k] := List.getElem?_eq_getElem (by omega)
    have e2 : kOf lt x L (k + 1) = if lt x L[k] then kOf lt x L k else k + 1 := by
      conv => lhs; unfold kOf
      rw [e]
    rw [e2] at h ⊢
    split
    · rename_i hl; rw [if_pos hl] at h; exact kOf_ahead x L k (by omega) h
    · rename_i hl; exact ⟨_, e, by simpa using hl⟩
theorem kOf_map (X : List (T × Nat)) (x : T × Nat) : ∀ k, kOf (fun a b : T × Nat => lt a.1 b.1) x X k = kOf lt x.1 (X.map Prod.fst) k
  | 0 => rfl
  | k + 1 => by
    unfold kOf
    rw [List.getElem?_map]
    cases X[k]? with
    | none => rfl
    | some y => simp only [Option.map_some]; rw [kOf_map X x k]
theorem laidIn_map (X : List (T × Nat)) (x : T × Nat) : (laidIn (fun a b : T × Nat => lt a.1 b.1) X x).map Prod.fst = laidIn lt (X.map Prod.fst) x.1 := by
  unfold laidIn
  rw [kOf_map, List.length_map, List.map_append, List.map_cons, List.map_take, List.map_drop]
theorem laidIn_perm (L : List T) (x : T) : (laidIn lt L x).Perm (x :: L) := by
  unfold laidIn
  refine List.perm_middle.trans ?_
  rw [List.take_append_drop]
theorem laidIn_pairwise (hS : SWO lt) (X : List (T × Nat)) (x : T × Nat) (hx : X.Pairwise fun p q => tlb (fun a b => lt a.1 b.1) Prod.snd p q = true) (ht : ∀ p ∈ X, p.2 < x.2) : (laidIn (fun a b : T × Nat => lt a.1 b.1) X x).Pairwise fun p q => tlb (fun a b => lt a.1 b.1) Prod.snd p q = true := by
  obtain ⟨k, hk⟩ : ∃ k, k = kOf (fun a b : T × Nat => lt a.1 b.1) x X X.length := ⟨_, rfl⟩
  have hb := kOf_behind (lt := fun a b : T × Nat => lt a.1 b.1) x X X.length
  have ha := kOf_ahead (lt := fun a b : T × Nat => lt a.1 b.1) x X X.length (Nat.le_refl _)
  have hle := kOf_le (lt := fun a b : T × Nat => lt a.1 b.1) x X X.length
  unfold laidIn
  rw [← hk] at hb ha hle ⊢
  have hs := swo_tlb (tag := Prod.snd) (swo_fst hS)
  have hbx : ∀ q ∈ X.drop k, tlb (fun a b => lt a.1 b.1) Prod.snd x q = true := fun q hq => by
    obtain ⟨j, hj, rfl⟩ := List.getElem_of_mem hq
    rw [List.length_drop] at hj
    have := hb (k + j) X[k + j] (by omega) (by omega) (List.getElem?_eq_getElem (by omega))
    rw [List.getElem_drop]
    exact TL.of_lt this
  have hax : ∀ p ∈ X.take k, tlb (fun a b => lt a.1 b.1) Prod.snd p x = true := fun p hp => by
    obtain ⟨j, hj, rfl⟩ := List.getElem_of_mem hp
    rw [List.length_take] at hj
    rw [List.getElem_take]
    obtain ⟨y, hy, hl⟩ := ha (by omega)
    have hy2 := List.getElem?_eq_some_iff.1 hy
    obtain ⟨hy3, hy4⟩ := hy2
    have hyx : tlb (fun a b => lt a.1 b.1) Prod.snd y x = true := TL.of_ear (tag := Prod.snd) (ht y (by rw [← hy4]; exact List.getElem_mem _)) hl
    by_cases he : j = k - 1
    · subst he; rw [hy4]; exact hyx
    · have := (List.pairwise_iff_getElem.1 hx) j (k - 1) (by omega) hy3 (by omega)
      rw [hy4] at this
      exact hs.trans _ _ _ this hyx
  rw [List.pairwise_append]
  refine ⟨hx.sublist (List.take_sublist _ _), ?_, fun p hp q hq => ?_⟩
  · rw [List.pairwise_cons]
    exact ⟨hbx, hx.sublist (List.drop_sublist _ _)⟩
  · rcases List.mem_cons.1 hq with rfl | hq
    · exact hax p hp
    · exact hs.trans _ _ _ (hax p hp) (hbx q hq)
theorem foldl_laid (hS : SWO lt) : ∀ (Y X : List (T × Nat)), (X.Pairwise fun p q => tlb (fun a b => lt a.1 b.1) Prod.snd p q = true) → (∀ p ∈ X, ∀ q ∈ Y, p.2 < q.2) → (Y.Pairwise fun p q => p.2 < q.2) →
    (Y.foldl (laidIn fun a b : T × Nat => lt a.1 b.1) X).Perm (X ++ Y) ∧ (Y.foldl (laidIn fun a b : T × Nat => lt a.1 b.1) X).Pairwise (fun p q => tlb (fun a b => lt a.1 b.1) Prod.snd p q = true) ∧ (Y.foldl (laidIn fun a b : T × Nat => lt a.1 b.1) X).map Prod.fst = (Y.map Prod.fst).foldl (laidIn lt) (X.map Prod.fst)
  | [], X, hx, _, _ => ⟨by simp, hx, rfl⟩
  | y :: r, X, hx, h1, h2 => by
    rw [List.pairwise_cons] at h2
    have hp := laidIn_perm (lt := fun a b : T × Nat => lt a.1 b.1) X y
    obtain ⟨q1, q2, q3⟩ := foldl_laid hS r (laidIn (fun a b : T × Nat => lt a.1 b.1) X y) (laidIn_pairwise hS X y hx (fun p hp => h1 p hp y (by simp))) (fun p hpm q hq => by
      rcases List.mem_cons.1 (hp.mem_iff.1 hpm) with rfl | hpx
      · exact h2.1 q hq
      · exact h1 p hpx q (by simp [hq])) h2.2
    refine ⟨q1.trans ((hp.append_right r).trans ?_), q2, ?_⟩
    · simpa using List.perm_middle.symm
    · rw [List.foldl_cons, q3, laidIn_map]; rfl
theorem zipIdx_pair (L : List T) : L.zipIdx.Pairwise fun p q => p.2 < q.2 := by
  rw [List.pairwise_iff_getElem]
  intro i j hi hj hij
  simpa using hij
theorem sortL_sts (hS : SWO lt) (L : List T) : StS lt L (sortL lt L) := by
  obtain ⟨q1, q2, q3⟩ := foldl_laid hS L.zipIdx [] List.Pairwise.nil (fun p hp => by simp at hp) (zipIdx_pair L)
  refine ⟨_, q3.trans ?_, by simpa using q1, q2⟩
  simp [sortL]
/-- what is in order stays -/
theorem StS.self (hS : SWO lt) {M L : List T} (h : StS lt M L) : StS lt L L := by
  obtain ⟨X, rfl, hp, hx⟩ := h
  refine ⟨(X.map Prod.fst).zipIdx, by simp, List.Perm.refl _, ?_⟩
  rw [List.pairwise_iff_getElem] at hx ⊢
  intro i j hi hj hij
  simp at hi hj
  have := hx i j hi hj hij
  have hns : lt X[j].1 X[i].1 = false := by
    revert this
    unfold tlb
    cases e : lt X[j].1 X[i].1
    · intro _; rfl
    · intro h
      exfalso
      cases e2 : lt X[i].1 X[j].1 with
      | false => simp [e, e2] at h
      | true =>
        have := hS.trans _ _ _ e e2
        rw [hS.irrefl] at this
        cases this
  refine TL.of_ear (tag := Prod.snd) ?_ ?_
  · unfold Ear; simpa using hij
  · simpa using hns
theorem sortL_idem (hS : SWO lt) (L : List T) : sortL lt (sortL lt L) = sortL lt L := StS.unique hS (sortL_sts hS _) (StS.self hS (sortL_sts hS L))
theorem sortL_perm (hS : SWO lt) (L : List T) : (sortL lt L).Perm L := by
  obtain ⟨X, e, hp, _⟩ := sortL_sts hS L
  rw [← e]
  have := hp.map Prod.fst
  simpa using this
theorem sortL_len (hS : SWO lt) (L : List T) : (sortL lt L).length = L.length := (sortL_perm hS L).length_eq
end
end Go.Proofs.YtneggbhjekklhaaDoor
