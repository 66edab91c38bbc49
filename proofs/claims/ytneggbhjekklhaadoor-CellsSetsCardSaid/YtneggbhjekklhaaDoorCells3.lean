/- Cells of marks: copied, joined. -/
import Derived.Test.YtneggbhjekklhaaDoorCells2
namespace Go.Proofs.YtneggbhjekklhaaDoor
open Go Go.RowKit Go.Maps
set_option linter.unusedVariables false
set_option linter.unusedSimpArgs false
set_option maxHeartbeats 4000000
set_option maxRecDepth 100000

theorem Fr.grown {X : Nat → Prop} {w0 w w' : World} {r : Nat} (h : Fr X w0 w) (hg : w.grownBy w' (some r)) (hr : w0.heap.size ≤ r ∨ X r) : Fr X w0 w' :=
  ⟨hg.os.trans h.os, hg.tape.trans h.tape, hg.output.trans h.output, Nat.le_trans h.size hg.size, fun k hk hx => (hg.block k (Nat.lt_of_lt_of_le hk h.size) (fun e => by cases e; rcases hr with h1 | h1; omega; exact hx h1)).trans (h.block k hk hx)⟩
theorem Fr.grown0 {X : Nat → Prop} {w0 w w' : World} (h : Fr X w0 w) (hg : w.grownBy w' none) : Fr X w0 w' :=
  ⟨hg.os.trans h.os, hg.tape.trans h.tape, hg.output.trans h.output, Nat.le_trans h.size hg.size, fun k hk hx => (hg.block k (Nat.lt_of_lt_of_le hk h.size) (by simp)).trans (h.block k hk hx)⟩
theorem Fr.alloc {X : Nat → Prop} {w0 w : World} (h : Fr X w0 w) (o : Obj) : Fr X w0 (w.alloc o) := h.grown0 (World.grownBy_alloc w o none)
theorem MT.grown {K V : Type} {P : Program} {kt : TypeId} {ek : K → Value} {ev : V → Value} {b n r : Nat} {m : K → Option V} {w w' : World} (h : MT P kt ek ev b n m w) (hg : w.grownBy w' (some r)) (hr : r ≠ b) : MT P kt ek ev b n m w' := h.block (hg.block b h.lt (fun e => hr (by cases e; rfl)))
abbrev MC (b n : Nat) (m : MapC) (w : World) : Prop := MT Tryd.prog 88 keyV cellV b n m w
abbrev RC (b r n : Nat) (m : MapC) (todo : KeyT → Prop) (cnt : Nat) (w : World) : Prop := RT Tryd.prog 88 keyV cellV b r n m todo cnt w
theorem shapeK (key : Value) (kl : Lit) (h : keyOf Tryd.prog 88 key = some kl) : ∃ x, key = keyV x := by obtain ⟨x, h, _⟩ := key_shape key kl h; exact ⟨x, h⟩
theorem keyOk_of {x : KeyT} (h : ∃ kl, keyOf Tryd.prog 88 (keyV x) = some kl) : KeyOk x := by
  obtain ⟨kl, h⟩ := h
  obtain ⟨y, e, h⟩ := key_shape _ kl h
  rw [keyV_inj _ _ e]; exact h

/-- in a copy under way: what is no longer to come has come -/
def CopyIs (m d : MapC) (todo : KeyT → Prop) : Prop := ∀ k, KeyOk k → (todo k → d k = none) ∧ (¬ todo k → d k = m k)
theorem CopyIs.step {m d : MapC} {todo : KeyT → Prop} {x : KeyT} {c : CellT} (h : CopyIs m d todo) (hx : m x = some c) : CopyIs m (updT d x (some c)) (fun y => todo y ∧ y ≠ x) := by
  intro k hk
  by_cases e : k = x
  · subst e
    exact ⟨fun h => absurd rfl h.2, fun _ => by rw [updT_same, hx]⟩
  · rw [updT_other d _ e]
    exact ⟨fun h' => (h k hk).1 h'.1, fun h' => (h k hk).2 (fun ht => h' ⟨ht, e⟩)⟩

theorem mapsCopy_any (b1 b2 n : Nat) (m : MapC) (w : World) (h1 : MC b1 0 (fun _ => none) w) (h2 : MC b2 n m w) (hne : b1 ≠ b2) (hn : n < maxLen) :
    Calls Tryd.prog 39 #[.map (some b1), .map (some b2)] w fun e w' =>
      e = .returned (.tuple #[]) ∧ MC b1 n m w' ∧ Fr (· = b1) w w' := by
  have H1 := Lib.hid h1
  have H2 := Lib.hid h2
  have hl1 := h1.lt
  clear h1
  go_enter Tryd.func39, Tryd.ntmps39
  go_wp2_with (at_range; refine wpList_rangeT _ rfl _ _ rfl 88 90 cellK Tryd.underlying83 keyV cellV b2 n m rfl h2 ?_; intro w0 cnt0 hrg0 hc0 hg0 hs0)
  have HM0 : Hid (MC b1 0 (fun _ => none) w0) := Lib.hid (H1.out.block (hg0.block b1 hl1 (by simp)))
  have HF0 : Hid (Fr (· = b1) w w0) := Lib.hid ((Fr.of_below (Below.refl _ w)).grown0 hg0)
  have HR0 := Lib.hid hrg0
  clear h2 hrg0 hg0 H1 H2
  go_frame
  go_loopw [4] (fun _ wr => ∃ (todo : KeyT → Prop) (cnt : Nat) (d : MapC), RC b2 w.heap.size n m todo cnt wr ∧ cnt ≤ n ∧ MC b1 (n - cnt) d wr ∧ Hid (CopyIs m d todo) ∧ Fr (· = b1) w wr) (fun _ wr => wr.rangeLeft b2 w.heap.size)
  case atStart =>
    refine ⟨_, cnt0, fun _ => none, HR0.out, hc0, HM0.out.mono (by omega), Lib.hid (fun k hk => ⟨fun _ => rfl, fun h => ?_⟩), HF0.out⟩
    cases hm : m k with
    | none => rfl
    | some c => exact absurd (show (m k).isSome = true by rw [hm]; rfl) h
  case round =>
    clear HM0 HF0 HR0
    obtain ⟨todo, cnt, d, hrg, hcn, hmd, HCo, hF⟩ := hrel
    have HRg := Lib.hid hrg
    have HMd := Lib.hid hmd
    have HF := Lib.hid hF
    clear hmd hF
    go_wp2_with (at_next; refine wpList_nextT _ rfl _ rfl 88 cellK keyV cellV keyV_inj shapeK b2 w.heap.size n m todo cnt rfl hrg ?_ ?_)
    · intro hdone
      go_wp2_with fail
      go_end0
      refine ⟨rfl, ?_, HF.out⟩
      exact (HMd.out.mono (by omega)).of_eq (fun k kl hk => ((HCo.out k (keyOk_of ⟨kl, hk⟩)).2 (hdone k.1 k.2 kl hk)).symm)
    · intro xn xs c w1 cnt1 kl hkey hmx htd hrg1 hlt hg1 hs1 hen
      have HKey := Lib.hid hkey
      have hrb := HRg.out.lt
      have hrne := hrg1.ne
      have HMd1 : Hid (MC b1 (n - cnt) d w1) := Lib.hid (HMd.out.grown hg1 (fun e => by rw [e] at hl1; omega))
      have HF1 : Hid (Fr (· = b1) w w1) := Lib.hid (HF.out.grown hg1 (.inl (Nat.le_refl _)))
      have HRg1 := Lib.hid hrg1
      have HCo1 := Lib.hid (HCo.out.step hmx)
      have hen2 : (Instr.entry (.pointer (some ⟨w.heap.size, 0, none⟩))).run Tryd.prog w1 = .ok (.tuple #[.agg #[.int .i64 xn, .string xs], .agg #[.string c.v, .int .i64 c.t, .int .i64 c.b]]) w1 := hen
      have HLe : Hid (wr.rangeLeft b2 w.heap.size = cnt) := Lib.hid hrg.left_eq
      clear hrg hrg1 hen hkey hg1 hmx htd HMd HF HRg HCo
      have hlt' : n - cnt < maxLen := by omega
      go_wp2_with (at_mapUpdate; refine wpList_putT _ rfl _ _ _ 83 rfl 88 90 cellK Tryd.underlying83 keyV cellV keyV_inj b1 (n - cnt) d rfl (((HMd1.out.below ((Below.refl _ _).alloc (Nat.le_refl _) _))).below ((Below.refl _ _).alloc (Nat.le_refl _) _)) hlt' (xn, xs) c rfl rfl ⟨kl, HKey.out⟩ ?_; intro w4 hm4 hg4)
      have hrg4 : RC b2 w.heap.size n m (fun y => todo y ∧ y ≠ (xn, xs)) cnt1 w4 := ((HRg1.out.grown (World.grownBy_alloc _ _ none) (by simp) (by simp)).grown (World.grownBy_alloc _ _ none) (by simp) (by simp)).grown hg4 (by simpa using fun e => hne e.symm) (by simp; omega)
      have hF4 : Fr (· = b1) w w4 := ((HF1.out.alloc _).alloc _).grown hg4 (.inr rfl)
      have HLe4 : Hid (w4.rangeLeft b2 w.heap.size = cnt1) := Lib.hid hrg4.left_eq
      have HRg4 := Lib.hid hrg4
      have HF4 := Lib.hid hF4
      have HM4 := Lib.hid hm4
      clear hrg4 hF4 hm4 hg4 hen2
      go_frame
      go_roundw
      case rel => exact ⟨_, cnt1, _, HRg4.out, by omega, HM4.out.mono (by omega), HCo1, HF4.out⟩
      case measure => rw [HLe4.out, HLe.out]; omega
/-- cells joined -/
noncomputable def joinC (m1 m2 : MapC) : MapC := fun k => match m1 k, m2 k with | some a, some b => some (if cLt a b = true then b else a) | some a, none => some a | none, r => r
end Go.Proofs.YtneggbhjekklhaaDoor
