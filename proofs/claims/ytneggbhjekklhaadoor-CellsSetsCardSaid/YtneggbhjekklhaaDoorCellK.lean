/- Keys of marks, read as a map's keys. -/
import Derived.Test.YtneggbhjekklhaaDoorMapT
import Derived.Test.YtneggbhjekklhaaDoorKeys
import Derived.DeepKeys4
namespace Go.Proofs.YtneggbhjekklhaaDoor
open Go Go.RowKit Go.Maps
set_option linter.unusedVariables false
set_option linter.unusedSimpArgs false
set_option maxHeartbeats 1000000
set_option maxRecDepth 100000

theorem cellK_wide : (match Tryd.prog.underlying 88 with | some (.array _ _) | some (.struct _) => true | _ => false) = true := by kernel_rfl
theorem cellK : Keyed Tryd.prog 88 := Keyed.of_law (deep_law_laid (by kernel_rfl) (m := 3) (by omega) (of_decide_eq_true (by kernel_rfl)) (by kernel_rfl) cellK_wide)
/-- a key that a map may have -/
structure KeyOk (x : KeyT) : Prop where
  lo : -9223372036854775808 ≤ x.1
  hi : x.1 ≤ 9223372036854775807
  sz : x.2.size ≤ maxLen
theorem cellK_lits (n : Nat) (a b : Value) : Tryd.prog.keyLits (n + 2) 88 [a, b] = (do
    let x ← Tryd.prog.keyLits (n + 1) 3 [a]
    let y ← Tryd.prog.keyLits (n + 1) 9 [b]
    pure (x ++ y)) := by
  have k2 : Tryd.prog.cellsOf 88 = 2 := by kernel_rfl
  have k3 : Tryd.prog.cellsOf 3 = 1 := by kernel_rfl
  have k9 : Tryd.prog.cellsOf 9 = 1 := by kernel_rfl
  obtain ⟨A, hA⟩ : ∃ A, Tryd.prog.keyLits (n + 1) 3 [a] = A := ⟨_, rfl⟩
  obtain ⟨B, hB⟩ : ∃ B, Tryd.prog.keyLits (n + 1) 9 [b] = B := ⟨_, rfl⟩
  rw [hA, hB]
  unfold Program.keyLits
  rw [Tryd.underlying88]
  simp [k2, k3, k9, hA, hB, List.mapM_cons, List.mapM_nil, Option.bind_eq_bind]
  cases A <;> cases B <;> simp
theorem key_reads {x : KeyT} (h : KeyOk x) : ∃ kl, keyOf Tryd.prog 88 (keyV x) = some kl := by
  have hts : Tryd.prog.types.size = 290 := by kernel_rfl
  have hk : Tryd.prog.keyType 88 = true := by kernel_rfl
  have hf : (keyV x).formed Tryd.prog 88 = true := by
    have k2 : Tryd.prog.cellsOf 88 = 2 := by kernel_rfl
    simp [keyV, Value.formed, Tryd.underlying88, k2]
  have hi : Tryd.prog.keyLits (290 - 1 + 1) 3 [.int .i64 x.1] = some [.int .i64 x.1] := by
    unfold Program.keyLits
    rw [Tryd.underlying3]
    have : (Lit.int .i64 x.1).wf = true := by
      have h1 := h.lo
      have h2 := h.hi
      show (decide (-9223372036854775808 ≤ x.1) && decide (x.1 ≤ 9223372036854775807)) = true
      simp [h1, h2]
    simp [this]
  have hs : Tryd.prog.keyLits (290 - 1 + 1) 9 [.string x.2] = some [.string x.2.data.toList] := by
    unfold Program.keyLits
    rw [Tryd.underlying9]
    simp [h.sz]
  refine ⟨.string (keyBytes [.int .i64 x.1, .string x.2.data.toList]), ?_⟩
  unfold keyOf
  rw [Tryd.underlying88]
  simp only [hk, hf, Bool.and_self, if_true]
  rw [hts]
  have := cellK_lits (290 - 1) (.int .i64 x.1) (.string x.2)
  rw [hi, hs] at this
  show Option.map _ (Tryd.prog.keyLits (290 - 1 + 2) 88 [.int .i64 x.1, .string x.2]) = _
  rw [this]
  rfl
theorem key_shape (key : Value) (kl : Lit) (h : keyOf Tryd.prog 88 key = some kl) : ∃ x : KeyT, key = keyV x ∧ KeyOk x := by
  have hts : Tryd.prog.types.size = 290 := by kernel_rfl
  obtain ⟨xs, L, rfl, hl, rfl⟩ := keyOf_top cellK_wide h
  have hsz : xs.size = 2 := by
    have k2 : Tryd.prog.cellsOf 88 = 2 := by kernel_rfl
    unfold keyOf at h
    rw [Tryd.underlying88] at h
    dsimp only at h
    split at h
    · rename_i hf
      have := (Bool.and_eq_true_iff.1 hf).2
      simp [Value.formed, Tryd.underlying88, k2] at this
      exact this
    · cases h
  obtain ⟨l⟩ := xs
  match l, hsz with
  | [a, b], _ =>
    rw [hts] at hl
    have := cellK_lits (290 - 1) a b
    rw [show 290 - 1 + 2 = 290 + 1 by rfl] at this
    have hl2 : Tryd.prog.keyLits (290 + 1) 88 [a, b] = some L := hl
    rw [this] at hl2
    cases h1 : Tryd.prog.keyLits (290 - 1 + 1) 3 [a] with
    | none => rw [h1] at hl2; cases hl2
    | some la =>
      cases h2 : Tryd.prog.keyLits (290 - 1 + 1) 9 [b] with
      | none => rw [h1, h2] at hl2; cases hl2
      | some lb =>
        unfold Program.keyLits at h1 h2
        rw [Tryd.underlying3] at h1
        rw [Tryd.underlying9] at h2
        cases a <;> simp at h1
        cases b <;> simp at h2
        obtain ⟨⟨rfl, hw⟩, hz1⟩ := h1
        obtain ⟨hs, hz2⟩ := h2
        rename_i n s x0
        have hw2 : (decide (-9223372036854775808 ≤ n) && decide (n ≤ 9223372036854775807)) = true := hw
        simp at hw2
        exact ⟨(n, s), rfl, hw2.1, hw2.2, hs⟩
end Go.Proofs.YtneggbhjekklhaaDoor
