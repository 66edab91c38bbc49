/- A stable sort of an array: runs laid in order by insertion, then merged by pairs. Plain law, no program. -/
import Derived.Test.YtneggbhjekklhaaDoorSortP
namespace Go.Proofs.YtneggbhjekklhaaDoor.Stb
open Go.Sort
set_option linter.unusedVariables false
set_option linter.unusedSimpArgs false
set_option linter.unusedSectionVars false
variable {α : Type} [Inhabited α]

/-! ### the order with the places told apart -/
section
variable (lt : α → α → Bool) (tag : α → Nat)
def tlb (x y : α) : Bool := lt x y || (!lt y x && decide (tag x < tag y))
def TL (x y : α) : Prop := tlb lt tag x y = true
def Ear (x y : α) : Prop := tag x < tag y
variable {lt tag}
theorem swo_tlb (h : SWO lt) : SWO (tlb lt tag) where
  irrefl x := by simp [tlb, h.irrefl]
  trans x y z := by
    have t1 := h.trans x y z; have t2 := h.trans z x y; have t3 := h.trans y z x
    have n1 := h.ntrans x z y; have n2 := h.ntrans y x z; have n3 := h.ntrans z y x
    revert t1 t2 t3 n1 n2 n3
    cases e1 : lt x y <;> cases e2 : lt y x <;> cases e3 : lt y z <;> cases e4 : lt z y <;> cases e5 : lt x z <;> cases e6 : lt z x <;> simp [tlb, e1, e2, e3, e4, e5, e6] <;> omega
  ntrans x y z := by
    have t1 := h.trans x y z; have t2 := h.trans z x y; have t3 := h.trans y z x; have t4 := h.trans z y x; have t5 := h.trans x z y; have t6 := h.trans y x z
    have n1 := h.ntrans x z y; have n2 := h.ntrans y x z; have n3 := h.ntrans z y x; have n4 := h.ntrans x y z; have n5 := h.ntrans y z x; have n6 := h.ntrans z x y
    revert t1 t2 t3 t4 t5 t6 n1 n2 n3 n4 n5 n6
    cases e1 : lt x y <;> cases e2 : lt y x <;> cases e3 : lt y z <;> cases e4 : lt z y <;> cases e5 : lt x z <;> cases e6 : lt z x <;> simp [tlb, e1, e2, e3, e4, e5, e6] <;> omega
theorem TL.of_lt {x y : α} (h : lt x y = true) : TL lt tag x y := by simp [TL, tlb, h]
theorem TL.of_ear {x y : α} (h : Ear tag x y) (h2 : lt y x = false) : TL lt tag x y := by
  unfold Ear at h
  simp [TL, tlb, h, h2]
theorem TL.of_not {x y : α} (h : tlb lt tag y x = false) (hne : tag x ≠ tag y) : TL lt tag x y := by
  revert h
  unfold TL tlb
  cases e1 : lt x y <;> cases e2 : lt y x <;> simp [e1, e2]
  omega

/-! ### insertion keeps the places -/
theorem insInner_eq (a : Nat) : ∀ (j : Nat) (d : Array α), j < d.size → (∀ p, a ≤ p → p < j → Ear tag d[p]! d[j]!) → insInner lt a j d = insInner (tlb lt tag) a j d
  | 0, d, _, _ => rfl
  | j + 1, d, hj, hE => by
    unfold insInner
    by_cases ha : j + 1 > a
    · have h1 := hE j (by omega) (by omega)
      have e1 : tlb lt tag d[j + 1]! d[j]! = lt d[j + 1]! d[j]! := by
        unfold Ear at h1
        have : decide (tag d[j + 1]! < tag d[j]!) = false := decide_eq_false (by omega)
        simp [tlb, this]
      rw [e1]
      by_cases hl : lt d[j + 1]! d[j]! = true
      · rw [if_pos (by simp [ha, hl]), if_pos (by simp [ha, hl])]
        refine insInner_eq a j _ (by rw [size_swp]; omega) (fun p hp hpj => ?_)
        rw [swp_get d (by omega) (by omega), swp_get d (by omega) (by omega)]
        have q1 : ¬ p = j := by omega
        have q2 : ¬ p = j + 1 := by omega
        rw [if_neg q1, if_neg q2, if_pos rfl]
        exact hE p hp (by omega)
      · rw [if_neg (by simp [hl]), if_neg (by simp [hl])]
    · rw [if_neg (by simp; omega), if_neg (by simp; omega)]
theorem insInner_perm (lt : α → α → Bool) (a : Nat) : ∀ (j : Nat) (d : Array α), a ≤ j → j < d.size → PermIn a (j + 1) d (insInner lt a j d)
  | 0, d, _, _ => permIn_refl d _ _
  | j + 1, d, ha, hj => by
    unfold insInner
    split
    · rename_i h
      have haj : a ≤ j := by have := (Bool.and_eq_true _ _ ▸ h).1; simp at this; omega
      exact permIn_trans d _ _ _ _ (swp_permIn d a (j + 2) (j + 1) j (by omega) (by omega) (by omega) (by omega) (by omega)) (permIn_mono _ _ a (j + 1) a (j + 2) (by omega) (by omega) (by rw [size_swp]; omega) (insInner_perm lt a j _ haj (by rw [size_swp]; omega)))
    · exact permIn_refl d _ _
theorem insOuter_eq (a b : Nat) : ∀ (k i : Nat) (d : Array α), b - i ≤ k → a ≤ i → b ≤ d.size → (∀ p q, a ≤ p → p < q → i ≤ q → q < b → Ear tag d[p]! d[q]!) → insOuter lt a b i d = insOuter (tlb lt tag) a b i d
  | 0, i, d, hk, _, _, _ => by
    unfold insOuter
    rw [if_neg (by omega), if_neg (by omega)]
  | k + 1, i, d, hk, hai, hb, hE => by
    unfold insOuter
    by_cases hi : i < b
    · rw [if_pos hi, if_pos hi, insInner_eq (tag := tag) a i d (by omega) (fun p h1 h2 => hE p i h1 h2 (Nat.le_refl _) hi)]
      have hP := insInner_perm (tlb lt tag) a i d hai (by omega)
      refine insOuter_eq a b k (i + 1) _ (by omega) (by omega) (by rw [hP.1]; exact hb) (fun p q h1 h2 h3 h4 => ?_)
      rw [hP.2.1 q (.inr (by omega))]
      by_cases hp : p < i + 1
      · exact permIn_all d _ a (i + 1) (fun x => Ear tag x d[q]!) (by omega) hP (fun p' g1 g2 => hE p' q g1 (by omega) (by omega) h4) p h1 hp
      · rw [hP.2.1 p (.inr (by omega))]
        exact hE p q h1 h2 (by omega) h4
    · rw [if_neg hi, if_neg hi]

/-- no two with one place -/
def Dis (tag : α → Nat) (d : Array α) : Prop := (d.toList.map tag).Nodup
theorem Dis.perm {d d' : Array α} {a b : Nat} (h : Dis tag d) (hb : b ≤ d.size) (hP : PermIn a b d d') : Dis tag d' := by
  have hp := permIn_mono d d' a b 0 d.size (by omega) hb (Nat.le_refl _) hP
  have := hp.2.2
  rw [Array.extract_size] at this
  rw [show d.size = d'.size from hp.1.symm, Array.extract_size] at this
  unfold Dis
  exact (this.map tag).nodup_iff.2 h
theorem Dis.ne {d : Array α} (h : Dis tag d) {i j : Nat} (hij : i < j) (hj : j < d.size) : tag d[i]! ≠ tag d[j]! := by
  unfold Dis at h
  rw [List.nodup_iff_pairwise_ne, List.pairwise_map, List.pairwise_iff_getElem] at h
  have := h i j (by simpa using (by omega : i < d.size)) (by simpa using hj) hij
  simpa [getElem!_pos, hj, (by omega : i < d.size)] using this
theorem insertion_stable (hS : SWO lt) (d : Array α) (a b : Nat) (hab : a ≤ b) (hb : b ≤ d.size) (hD : Dis tag d) (hE : ∀ p q, a ≤ p → p < q → q < b → Ear tag d[p]! d[q]!) :
    PermIn a b d (insertionSort lt d a b) ∧ Srt (TL lt tag) a b (insertionSort lt d a b) := by
  have e : insertionSort lt d a b = insertionSort (tlb lt tag) d a b := by
    unfold insertionSort
    exact insOuter_eq a b b (a + 1) d (by omega) (by omega) hb (fun p q h1 h2 h3 h4 => hE p q h1 h2 h4)
  rw [e]
  have h := insertionSort_holds (swo_tlb (tag := tag) hS) d a b hab hb
  have hD' := hD.perm hb h.1
  exact ⟨h.1, fun i j h1 h2 h3 => TL.of_not (h.2 i j h1 h2 h3) (hD'.ne h2 (by rw [h.1.1]; omega))⟩
end

/-! ### runs of one length -/
section
variable (tl E : α → α → Prop)
def Cut (d : Array α) (x : Nat) : Prop := ∀ i j, i < x → x ≤ j → j < d.size → E d[i]! d[j]!
/-- a run of s at x, the last one shorter -/
def Run (s : Nat) (d : Array α) (x : Nat) : Prop := Srt tl x (min (x + s) d.size) d ∧ Cut E d x
def Behind (s hi : Nat) (d : Array α) : Prop := ∀ x, x < hi → x < d.size → s ∣ x → Run tl E s d x
def Ahead (s lo : Nat) (d : Array α) : Prop := ∀ x, lo ≤ x → x < d.size → s ∣ x → Run tl E s d x
variable {tl E}
theorem Cut.perm {d d' : Array α} {a b x : Nat} (h : Cut E d x) (hb : b ≤ d.size) (hP : PermIn a b d d') (hx : x ≤ a ∨ b ≤ x) : Cut E d' x := by
  intro i j hi hj hjs
  rw [hP.1] at hjs
  have step : ∀ i j, i < x → x ≤ j → j < d.size → E d[i]! d'[j]! := fun i j hi hj hjs => by
    by_cases hc : a ≤ j ∧ j < b
    · rcases hx with hx | hx
      · exact permIn_all d d' a b (fun y => E d[i]! y) hb hP (fun j' q1 q2 => h i j' hi (by omega) (by omega)) j hc.1 hc.2
      · omega
    · rw [hP.2.1 j (by omega)]; exact h i j hi hj hjs
  by_cases hc : a ≤ i ∧ i < b
  · rcases hx with hx | hx
    · omega
    · rw [hP.2.1 j (by omega)]
      exact permIn_all d d' a b (fun y => E y d[j]!) hb hP (fun i' q1 q2 => h i' j (by omega) hj hjs) i hc.1 hc.2
  · rw [hP.2.1 i (by omega)]; exact step i j hi hj hjs
theorem Run.perm {d d' : Array α} {s a b x : Nat} (h : Run tl E s d x) (hb : b ≤ d.size) (hP : PermIn a b d d') (hx : x + s ≤ a ∨ b ≤ x) : Run tl E s d' x := by
  have e := hP.1
  refine ⟨?_, h.2.perm hb hP (by omega)⟩
  rw [e]
  exact h.1.keep fun y h1 h2 => hP.2.1 y (by omega)
theorem dvd_apart {s x y : Nat} (h1 : s ∣ x) (h2 : s ∣ y) (h : x < y) : x + s ≤ y := by
  have : s ∣ y - x := Nat.dvd_sub h2 h1
  have := Nat.le_of_dvd (by omega) this
  omega

/-- a run more, laid in order at a -/
theorem Behind.add {d d' : Array α} {s a : Nat} (h : Behind tl E s a d) (hs : 0 < s) (ha : s ∣ a) (hc : Cut E d a) (hP : PermIn a (min (a + s) d.size) d d') (hS : Srt tl a (min (a + s) d.size) d') : Behind tl E s (a + s) d' := by
  intro x hx hxs hd
  rw [hP.1] at hxs
  rcases Nat.lt_trichotomy x a with hl | rfl | hg
  · have := dvd_apart hd ha hl
    exact (h x hl hxs hd).perm (Nat.min_le_right _ _) hP (.inl this)
  · exact ⟨by rw [hP.1]; exact hS, hc.perm (Nat.min_le_right _ _) hP (.inl (Nat.le_refl _))⟩
  · have := dvd_apart ha hd hg; omega
theorem Ahead.skip {d d' : Array α} {s a b : Nat} (h : Ahead tl E s a d) (hab : a ≤ b) (hP : PermIn a (min b d.size) d d') : Ahead tl E s b d' := by
  intro x hx hxs hd
  rw [hP.1] at hxs
  exact (h x (by omega) hxs hd).perm (Nat.min_le_right _ _) hP (.inr (by omega))
/-- two runs beside each other may be merged -/
theorem Ahead.mrg {d : Array α} {s a : Nat} (h : Ahead tl E s a d) (hs : 0 < s) (ha : s ∣ a) (hm : a + s < d.size) : Mrg tl E d a (a + s) (min (a + s + s) d.size) where
  l := by
    have := (h a (Nat.le_refl _) (by omega) ha).1
    rwa [Nat.min_eq_left (by omega)] at this
  r := (h (a + s) (by omega) hm (Nat.dvd_add ha (Nat.dvd_refl _))).1
  e := fun i j h1 h2 h3 h4 => (h (a + s) (by omega) hm (Nat.dvd_add ha (Nat.dvd_refl _))).2 i j h2 h3 (by omega)
theorem Ahead.cut {d : Array α} {s a : Nat} (h : Ahead tl E s a d) (ha : s ∣ a) (hm : a < d.size) : Cut E d a := (h a (Nat.le_refl _) hm ha).2
/-- nothing is left to merge: the last run stands alone -/
theorem Behind.last {d : Array α} {s a : Nat} (h : Behind tl E (2 * s) a d) (hA : Ahead tl E s a d) (hs : 0 < s) (ha : 2 * s ∣ a) (hz : d.size ≤ a + s) : Behind tl E (2 * s) d.size d := by
  intro x hx _ hd
  rcases Nat.lt_trichotomy x a with hl | rfl | hg
  · exact h x hl hx hd
  · have h2 := hA x (Nat.le_refl _) hx (Nat.dvd_trans ⟨2, by omega⟩ ha)
    refine ⟨?_, h2.2⟩
    have h3 := h2.1
    rw [Nat.min_eq_right hz] at h3
    rw [Nat.min_eq_right (by omega)]
    exact h3
  · have := dvd_apart ha hd hg; omega
theorem Behind.all {d : Array α} {s hi : Nat} (h : Behind tl E s hi d) (hz : d.size ≤ hi) : Behind tl E s d.size d := fun x h1 h2 h3 => h x (by omega) h2 h3
theorem Behind.ahead {d : Array α} {s : Nat} (h : Behind tl E s d.size d) : Ahead tl E s 0 d := fun x _ h2 h3 => h x h2 h2 h3
theorem Behind.whole {d : Array α} {s : Nat} (h : Behind tl E s d.size d) (hz : d.size ≤ s) : Srt tl 0 d.size d := by
  by_cases h0 : d.size = 0
  · intro i j h1 h2 h3; omega
  · have := (h 0 (by omega) (by omega) (Nat.dvd_zero _)).1
    rwa [Nat.min_eq_right (by omega)] at this
theorem Behind.none (tl E : α → α → Prop) (s : Nat) (d : Array α) : Behind tl E s 0 d := fun x h1 => by omega
end
end Go.Proofs.YtneggbhjekklhaaDoor.Stb
