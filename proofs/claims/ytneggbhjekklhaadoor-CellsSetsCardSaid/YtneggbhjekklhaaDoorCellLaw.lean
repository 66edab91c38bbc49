/- Cells of marks: the plain law: whoever sets and joins, in whatever order, the newest one stays. -/
import Derived.Test.YtneggbhjekklhaaDoorMarks2
import Derived.Test.YtneggbhjekklhaaDoorOpEq
namespace Go.Proofs.YtneggbhjekklhaaDoor
open Go Go.RowKit Go.Maps
set_option linter.unusedVariables false
set_option linter.unusedSimpArgs false
set_option maxHeartbeats 1000000
set_option maxRecDepth 100000

/-- a cell that an operation of a list lays at a key -/
def InL (L : List OpT) (k : KeyT) (c : CellT) : Prop := ∃ o ∈ L, opErr o = 0 ∧ o.k = 115 ∧ (o.nd, o.nm) = k ∧ c = ⟨o.vl, o.t, o.b⟩
theorem InL.nil (k : KeyT) (c : CellT) : ¬ InL [] k c := fun ⟨o, h, _⟩ => by simp at h
theorem InL.app (L M : List OpT) (k : KeyT) (c : CellT) : InL (L ++ M) k c ↔ InL L k c ∨ InL M k c := by
  constructor
  · rintro ⟨o, h, r⟩
    rcases List.mem_append.1 h with h | h
    · exact .inl ⟨o, h, r⟩
    · exact .inr ⟨o, h, r⟩
  · rintro (⟨o, h, r⟩ | ⟨o, h, r⟩)
    · exact ⟨o, List.mem_append.2 (.inl h), r⟩
    · exact ⟨o, List.mem_append.2 (.inr h), r⟩
/-- the newest of these -/
structure Best (S : CellT → Prop) (r : Option CellT) : Prop where
  no : r = none → ∀ c, ¬ S c
  is : ∀ c, r = some c → S c ∧ ∀ c', S c' → cLt c c' = false
theorem cLt_iff (a b : CellT) : cLt a b = true ↔ a.t < b.t ∨ a.t = b.t ∧ a.b < b.b := by simp [cLt]
theorem cLt_not (a b : CellT) : cLt a b = false ↔ ¬ (a.t < b.t ∨ a.t = b.t ∧ a.b < b.b) := by simp [cLt]
theorem Best.one {S : CellT → Prop} (hu : ∀ c c', S c → S c' → c.t = c'.t → c.b = c'.b → c = c') {r r' : Option CellT} (h : Best S r) (h' : Best S r') : r = r' := by
  cases hr : r with
  | none =>
    cases hr' : r' with
    | none => rfl
    | some c => exact absurd (h'.is c hr').1 (h.no hr c)
  | some c =>
    cases hr' : r' with
    | none => exact absurd (h.is c hr).1 (h'.no hr' c)
    | some c' =>
      obtain ⟨h1, h2⟩ := h.is c hr
      obtain ⟨h3, h4⟩ := h'.is c' hr'
      have e1 := (cLt_not _ _).1 (h2 c' h3)
      have e2 := (cLt_not _ _).1 (h4 c h1)
      rw [hu c c' h1 h3 (by omega) (by omega)]
/-- at all keys -/
def BestAll (S : KeyT → CellT → Prop) (m : MapC) : Prop := ∀ k, KeyOk k → Best (S k) (m k)
theorem BestAll.congr {S S' : KeyT → CellT → Prop} {m : MapC} (h : BestAll S m) (e : ∀ k c, S' k c ↔ S k c) : BestAll S' m := fun k hk =>
  ⟨fun hn c hc => (h k hk).no hn c ((e k c).1 hc), fun c hc => ⟨(e k c).2 ((h k hk).is c hc).1, fun c' hc' => ((h k hk).is c hc).2 c' ((e k c').1 hc')⟩⟩
theorem BestAll.start : BestAll (InL []) (fun _ => none) := fun k _ => ⟨fun _ c => InL.nil k c, fun c h => (by cases h)⟩
theorem BestAll.join {S T : KeyT → CellT → Prop} {m m' : MapC} (h : BestAll S m) (h' : BestAll T m') : BestAll (fun k c => S k c ∨ T k c) (joinC m m') := by
  intro k hk
  have b1 := h k hk
  have b2 := h' k hk
  unfold joinC
  cases h1 : m k with
  | none =>
    cases h2 : m' k with
    | none => exact ⟨fun _ c hc => hc.elim (b1.no h1 c) (b2.no h2 c), fun c hc => by cases hc⟩
    | some c2 =>
      obtain ⟨i1, i2⟩ := b2.is c2 h2
      exact ⟨fun e => (by cases e), fun c hc => by cases hc; exact ⟨.inr i1, fun c' hc' => hc'.elim (fun h => absurd h (b1.no h1 c')) (i2 c')⟩⟩
  | some c1 =>
    obtain ⟨j1, j2⟩ := b1.is c1 h1
    cases h2 : m' k with
    | none => exact ⟨fun e => (by cases e), fun c hc => by cases hc; exact ⟨.inl j1, fun c' hc' => hc'.elim (j2 c') (fun h => absurd h (b2.no h2 c'))⟩⟩
    | some c2 =>
      obtain ⟨i1, i2⟩ := b2.is c2 h2
      refine ⟨fun e => (by cases e), fun c hc => ?_⟩
      have hc' : (if cLt c1 c2 = true then c2 else c1) = c := Option.some.inj hc
      by_cases hl : cLt c1 c2 = true
      · rw [if_pos hl] at hc'
        subst hc'
        refine ⟨.inr i1, fun c' hc' => hc'.elim (fun h => ?_) (i2 c')⟩
        have := (cLt_not _ _).1 (j2 c' h)
        have := (cLt_iff _ _).1 hl
        rw [cLt_not]
        omega
      · rw [if_neg hl] at hc'
        subst hc'
        refine ⟨.inl j1, fun c' hc' => hc'.elim (j2 c') (fun h => ?_)⟩
        have := (cLt_not _ _).1 (i2 c' h)
        have := mt (cLt_iff c1 c2).2 hl
        rw [cLt_not]
        omega
theorem BestAll.set {S : KeyT → CellT → Prop} {m : MapC} {o : OpT} (h : BestAll S m) : BestAll (fun k c => S k c ∨ InL [o] k c) (setC m o).1 := by
  unfold setC
  by_cases he : opErr o ≠ 0
  · rw [if_pos he]
    exact h.congr (fun k c => ⟨fun hc => hc.elim id (fun ⟨x, hx, h1, _⟩ => by rw [List.mem_singleton.1 hx] at h1; exact absurd h1 he), .inl⟩)
  · rw [if_neg he]
    have he0 : opErr o = 0 := by omega
    by_cases hk : o.k ≠ 115
    · rw [if_pos hk]
      exact h.congr (fun k c => ⟨fun hc => hc.elim id (fun ⟨x, hx, _, h2, _⟩ => by rw [List.mem_singleton.1 hx] at h2; exact absurd h2 hk), .inl⟩)
    · rw [if_neg hk]
      have hk0 : o.k = 115 := by omega
      intro k hkk
      have b1 := h k hkk
      have hin : ∀ c, InL [o] (o.nd, o.nm) c ↔ c = ⟨o.vl, o.t, o.b⟩ := fun c => ⟨fun ⟨x, hx, _, _, _, hc⟩ => by rw [List.mem_singleton.1 hx] at hc; exact hc, fun hc => ⟨o, by simp, he0, hk0, rfl, hc⟩⟩
      by_cases e : k = (o.nd, o.nm)
      · subst e
        show Best _ ((layC m (o.nd, o.nm) ⟨o.vl, o.t, o.b⟩).1 (o.nd, o.nm))
        rw [layC_same]
        refine ⟨fun e => (by cases e), fun c hc => ?_⟩
        have hc := Option.some.inj hc
        cases hm : m (o.nd, o.nm) with
        | none =>
          rw [hm] at hc
          subst hc
          exact ⟨.inr ((hin _).2 rfl), fun c' hc' => hc'.elim (fun h => absurd h (b1.no hm c')) (fun h => by rw [(hin c').1 h, cLt_not]; simp)⟩
        | some was =>
          rw [hm] at hc
          obtain ⟨i1, i2⟩ := b1.is was hm
          have hc' : (if cLt was ⟨o.vl, o.t, o.b⟩ = true then (⟨o.vl, o.t, o.b⟩ : CellT) else was) = c := hc
          by_cases hl : cLt was ⟨o.vl, o.t, o.b⟩ = true
          · rw [if_pos hl] at hc'
            subst hc'
            refine ⟨.inr ((hin _).2 rfl), fun c' hc' => hc'.elim (fun h => ?_) (fun h => by rw [(hin c').1 h, cLt_not]; simp)⟩
            have h1 := (cLt_not _ _).1 (i2 c' h)
            have h2 := (cLt_iff _ _).1 hl
            rw [cLt_not]
            dsimp only at h2 ⊢
            omega
          · rw [if_neg hl] at hc'
            subst hc'
            refine ⟨.inl i1, fun c' hc' => hc'.elim (i2 c') (fun h => ?_)⟩
            rw [(hin c').1 h]
            cases hh : cLt was ⟨o.vl, o.t, o.b⟩ with
            | false => rfl
            | true => exact absurd hh hl
      · show Best _ ((layC m (o.nd, o.nm) ⟨o.vl, o.t, o.b⟩).1 k)
        rw [layC_other e]
        exact ⟨fun hn c hc => hc.elim (b1.no hn c) (fun ⟨x, hx, _, _, h3, _⟩ => by rw [List.mem_singleton.1 hx] at h3; exact e h3.symm), fun c hc => ⟨.inl (b1.is c hc).1, fun c' hc' => hc'.elim ((b1.is c hc).2 c') (fun ⟨x, hx, _, _, h3, _⟩ => by rw [List.mem_singleton.1 hx] at h3; exact absurd h3.symm e)⟩⟩

theorem eq_of_rising : ∀ {l l' : List KeyT}, l.Pairwise (fun x y => kLt x y = true) → l'.Pairwise (fun x y => kLt x y = true) → (∀ k, k ∈ l ↔ k ∈ l') → l = l'
  | [], [], _, _, _ => rfl
  | [], b :: s, _, _, h => by have := (h b).2 (by simp); simp at this
  | a :: r, [], _, _, h => by have := (h a).1 (by simp); simp at this
  | a :: r, b :: s, h1, h2, h => by
    obtain ⟨a1, a2⟩ := List.pairwise_cons.1 h1
    obtain ⟨b1, b2⟩ := List.pairwise_cons.1 h2
    have hab : a = b := by
      rcases List.mem_cons.1 ((h a).1 (by simp)) with e | ha
      · exact e
      · rcases List.mem_cons.1 ((h b).2 (by simp)) with e | hb
        · exact e.symm
        · have := kLt_trans (a1 b hb) (b1 a ha)
          rw [kLt_irrefl] at this
          cases this
    subst hab
    rw [eq_of_rising a2 b2 (fun p => ⟨fun hp => by
      rcases List.mem_cons.1 ((h p).1 (by simp [hp])) with e | hp'
      · have := a1 p hp
        rw [e, kLt_irrefl] at this
        cases this
      · exact hp', fun hp => by
      rcases List.mem_cons.1 ((h p).2 (by simp [hp])) with e | hp'
      · have := b1 p hp
        rw [e, kLt_irrefl] at this
        cases this
      · exact hp'⟩)]
/-- marks of the same cells are the same -/
theorem marks_same {m m' : MapC} {ks ks' : List KeyT} (he : ∀ k, KeyOk k → m k = m' k) (h1 : ks.Pairwise (fun x y => kLt x y = true)) (h2 : ∀ k, k ∈ ks ↔ (KeyOk k ∧ ∃ c, m k = some c ∧ c.v.size ≠ 0))
    (h3 : ks'.Pairwise (fun x y => kLt x y = true)) (h4 : ∀ k, k ∈ ks' ↔ (KeyOk k ∧ ∃ c, m' k = some c ∧ c.v.size ≠ 0)) : ks'.map (markOf m') = ks.map (markOf m) := by
  have e : ks' = ks := eq_of_rising h3 h1 (fun k => by
    rw [h2, h4]
    exact ⟨fun ⟨a, b⟩ => ⟨a, by rw [he k a]; exact b⟩, fun ⟨a, b⟩ => ⟨a, by rw [← he k a]; exact b⟩⟩)
  subst e
  refine List.map_congr_left fun k hk => ?_
  unfold markOf
  rw [he k ((h2 k).1 hk).1]
/-- of those with one stamp there is one -/
def OneStamp (L : List OpT) : Prop := ∀ x ∈ L, ∀ y ∈ L, x.t = y.t → x.b = y.b → x = y
theorem OneStamp.inl {L : List OpT} (h : OneStamp L) (k : KeyT) (c c' : CellT) (h1 : InL L k c) (h2 : InL L k c') (e1 : c.t = c'.t) (e2 : c.b = c'.b) : c = c' := by
  obtain ⟨o, ho, _, _, _, rfl⟩ := h1
  obtain ⟨o', ho', _, _, _, rfl⟩ := h2
  rw [h o ho o' ho' e1 e2]
end Go.Proofs.YtneggbhjekklhaaDoor
