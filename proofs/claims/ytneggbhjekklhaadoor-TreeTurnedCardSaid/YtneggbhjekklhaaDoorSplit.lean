/- The library's Split at one byte: what the document's Cut gives. -/
import Derived.Test.YtneggbhjekklhaaDoorTexts
namespace Go.Proofs.YtneggbhjekklhaaDoor
open Go Go.RowKit
set_option linter.unusedVariables false
set_option linter.unusedSimpArgs false
set_option maxHeartbeats 4000000
set_option maxRecDepth 100000

open Num in
theorem cutL_mem (b : UInt8) : ∀ (l : List UInt8) (x : List UInt8), x ∈ cutL b l → x.length ≤ l.length
  | [], x, h => by simp [cutL] at h; subst h; simp
  | c :: r, x, h => by
    unfold cutL at h
    split at h
    · rcases List.mem_cons.1 h with rfl | h
      · simp
      · have := cutL_mem b r x h; simp; omega
    · rcases List.mem_cons.1 h with rfl | h
      · cases hc : cutL b r with
        | nil => simp
        | cons y ys =>
          have := cutL_mem b r y (by rw [hc]; simp)
          simp
          omega
      · have := cutL_mem b r x (List.mem_of_mem_tail h); simp; omega
open Num in
theorem cutL_len (b : UInt8) : ∀ (l : List UInt8), (cutL b l).length ≤ l.length + 1
  | [] => by simp [cutL]
  | c :: r => by
    have := cutL_len b r
    unfold cutL
    split
    · simp; omega
    · simp
      omega

open Num Lib in
theorem cut_count (b : UInt8) : ∀ (n : Nat) (s : List UInt8), s.length ≤ n → (cutL b s).length = count s [b] + 1 := by
  intro n
  induction n with
  | zero =>
    intro s h
    have : s = [] := List.eq_nil_of_length_eq_zero (by omega)
    subst this
    have e : index [] [b] = -1 := index_none (fun j _ => by simp [occAt])
    rw [count_miss e]
    rfl
  | succ n ih =>
    intro s h
    rcases index_spec s [b] with ⟨e, hn⟩ | ⟨i, e, hi, ho, hno⟩
    · rw [count_miss e, cutL_none]
      · rfl
      · intro c hc hcb
        subst hcb
        obtain ⟨j, hj, hjc⟩ := List.mem_iff_getElem.1 hc
        have := hn j (by omega)
        have h2 : occAt s [c] j = true := (occ_one s c j).2 (by rw [List.getElem?_eq_getElem hj, hjc])
        rw [this] at h2
        cases h2
    · have hib := (occ_one s b i).1 ho
      have hlt : i < s.length := (List.getElem?_eq_some_iff.1 hib).1
      have hs : s = s.take i ++ b :: s.drop (i + 1) := by
        have h1 : s.drop i = b :: s.drop (i + 1) := by
          rw [List.drop_eq_getElem_cons hlt]
          congr 1
          exact (List.getElem?_eq_some_iff.1 hib).2
        rw [← h1, List.take_append_drop]
      have hp : ∀ c ∈ s.take i, c ≠ b := by
        intro c hc hcb
        subst hcb
        obtain ⟨j, hj, hjc⟩ := List.mem_iff_getElem.1 hc
        rw [List.length_take] at hj
        rw [List.getElem_take] at hjc
        have h2 : occAt s [c] j = true := (occ_one s c j).2 (by rw [List.getElem?_eq_getElem (by omega), hjc])
        rw [hno j (by omega)] at h2
        cases h2
      have hcut : cutL b s = s.take i :: cutL b (s.drop (i + 1)) := by
        have := cutL_hit b (s.take i) (s.drop (i + 1)) hp
        rwa [← hs] at this
      rw [hcut, List.length_cons, ih (s.drop (i + 1)) (by simp; omega), count_hit (by simp) e]
      simp only [List.length_singleton]
      omega

theorem split_gives {F : Nat → Bool} (ea : Nat → Addr) (s : ByteArray) (sep : ByteArray) (b : UInt8) (w : World) (hG : Gd F ea w) (f22 : F 22 = true) (hsep : sep = S [b]) (hs : s.size ≤ 100000) :
    Calls Tryd.prog 66 #[.string s, .string sep] w (GivesTexts (Num.cutL b s.data.toList) w) := by
  obtain ⟨m, hm⟩ := hG.len f22
  subst hsep
  refine (Tryd.strings_Split s (S [b]) m w (by omega) hm (by rw [S_size]; simp)).mono ?_
  rintro e w' ⟨rfl, rfl⟩
  have e1 : (Lib.splitB (S [b]) 0 (Lib.countB s (S [b])) s).map (·.data.toList) = Num.cutL b s.data.toList := by
    rw [Lib.splitB_data, ← Num.split_eq]
    rfl
  have e2 : (Lib.splitB (S [b]) 0 (Lib.countB s (S [b])) s).map Value.string = (Num.cutL b s.data.toList).map fun x => Value.string (S x) := by
    rw [← e1, List.map_map]
    refine List.map_congr_left fun x _ => ?_
    simp [S_of]
  have e3 : (Num.cutL b s.data.toList).length = Lib.countB s (S [b]) + 1 := by
    rw [cut_count b _ s.data.toList (Nat.le_refl _)]
    rfl
  have hlt : w.heap.size < (w.alloc (.cells ((Lib.splitB (S [b]) 0 (Lib.countB s (S [b])) s).map Value.string).toArray 9)).heap.size := by simp
  refine ⟨w.heap.size, Lib.countB s (S [b]) + 1, by rw [e3], Nat.le_refl _, hlt, by omega, ?_, (Below.refl _ _).alloc (Nat.le_refl _) _⟩
  intro j x hx
  rw [e2]
  rw [World.cell?_alloc_mark w _ _ (0, 0) j]
  simp [hx]
end Go.Proofs.YtneggbhjekklhaaDoor
