/- A tree's log: a move taken back. -/
import Derived.Test.YtneggbhjekklhaaDoorTree
namespace Go.Proofs.YtneggbhjekklhaaDoor
open Go Go.RowKit Go.Maps Tree
set_option linter.unusedVariables false
set_option linter.unusedSimpArgs false
set_option maxHeartbeats 4000000
set_option maxRecDepth 100000

/-- what the log has of a move: the operation, where its node was, whether it was anywhere, whether it went -/
abbrev doneCells (o : OpT) (y : PlT) (is by' : Bool) : Array Value := #[.int .i64 o.t, .int .i64 o.b, .int .i64 o.n, .int .u8 o.k, .int .i64 o.nd, .int .i64 o.ot, .string o.nm, .string o.vl, .int .i64 y.nd, .int .i64 y.into, .string y.nm, .bool is, .bool by']
noncomputable def undoM (m : Int → Option PlT) (o : OpT) (y : PlT) (is by' : Bool) : Int → Option PlT := if by' then updT m o.nd (if is then some y else none) else m
theorem undo_any (TB b n : Nat) (m : Int → Option PlT) (o : OpT) (y : PlT) (is by' : Bool) (w : World) (hp : w.cell? ⟨TB, 0, none⟩ = some (.map (some b))) (hm : MT Tryd.prog 3 ekI evP b n m w) (hnd : I64 o.nd) (hn : n < maxLen) :
    Calls Tryd.prog 56 #[.pointer (some ⟨TB, 0, none⟩), .agg (doneCells o y is by')] w fun e w' =>
      e = .returned (.tuple #[]) ∧ MT Tryd.prog 3 ekI evP b (n + 1) (undoM m o y is by') w' ∧ Fr (· = b) w w' := by
  obtain ⟨W, hW⟩ : ∃ W, W = w.alloc (.cells (doneCells o y is by') 107) := ⟨_, rfl⟩
  have hbw : Below w.heap.size w W := by rw [hW]; exact (Below.refl _ w).alloc (Nat.le_refl _) _
  have hmW : MT Tryd.prog 3 ekI evP b n m W := hm.below hbw
  have p0 := cell_keep' hbw hp
  obtain ⟨x0, x1, x2, x3, x4, x5⟩ : W.cell? ⟨w.heap.size, 4, none⟩ = some (.int .i64 o.nd) ∧ W.cell? ⟨w.heap.size, 8, none⟩ = some (.int .i64 y.nd) ∧ W.cell? ⟨w.heap.size, 9, none⟩ = some (.int .i64 y.into) ∧ W.cell? ⟨w.heap.size, 10, none⟩ = some (.string y.nm) ∧ W.cell? ⟨w.heap.size, 11, none⟩ = some (.bool is) ∧ W.cell? ⟨w.heap.size, 12, none⟩ = some (.bool by') := by
    rw [hW]
    exact ⟨by simp [go_sem], by simp [go_sem], by simp [go_sem], by simp [go_sem], by simp [go_sem], by simp [go_sem]⟩
  have HB := Lib.hid hbw
  have HM := Lib.hid hmW
  have HK := Lib.hid (ekI_reads hnd)
  obtain ⟨R, hR⟩ : ∃ R, R = undoM m o y is by' := ⟨_, rfl⟩
  rw [← hR]
  have HR := Lib.hid hR
  clear hbw hmW hp hm hnd hR
  cases by' with
  | false =>
    have hr : R = m := HR.out.trans (by unfold undoM; rw [if_neg (by simp)])
    subst hr
    go_enter Tryd.func56, Tryd.ntmps56
    go_wp2_with fail
    rw [← hW]
    clear hW
    go_wp2_with fail
    go_end0
    exact ⟨rfl, HM.out.mono (by omega), Fr.of_below HB.out⟩
  | true =>
    cases is with
    | true =>
      have hr : R = updT m o.nd (some y) := HR.out.trans (by unfold undoM; simp)
      subst hr
      go_enter Tryd.func56, Tryd.ntmps56
      go_wp2_with fail
      rw [← hW]
      clear hW
      go_wp2_with fail
      go_still_tail 9, (by kernel_rfl)
      change wpList _ _ _ _ _ W.drew
      have HS3 := Lib.hid (HM.out.below (Below.refl _ W).drew)
      have HB3 := Lib.hid (HB.out.trans ((Below.refl _ W).drew.mono HB.out.size))
      clear p0 x0 x1 x2 x3 x4 x5
      generalize W.drew = W3 at *
      go_wp2_with (at_mapUpdate; refine wpList_putT _ rfl _ _ _ 102 rfl 3 53 treeK Tryd.underlying102 ekI evP ekI_inj b n m rfl HS3.out hn o.nd y rfl rfl HK.out ?_; intro w4 hm4 hg4)
      have HF4 := Lib.hid ((Fr.of_below (X := (· = b)) HB3.out).trans (fr_of_grown (X := (· = b)) hg4 rfl))
      have HM4 := Lib.hid hm4
      clear hm4 hg4
      go_wp2_with fail
      go_end0
      exact ⟨rfl, HM4.out, HF4.out⟩
    | false =>
      have hr : R = updT m o.nd none := HR.out.trans (by unfold undoM; simp)
      subst hr
      go_enter Tryd.func56, Tryd.ntmps56
      go_wp2_with fail
      rw [← hW]
      clear hW
      go_wp2_with fail
      go_still_tail 7, (by kernel_rfl)
      change wpList _ _ _ _ _ W.drew
      have HS3 := Lib.hid (HM.out.below (Below.refl _ W).drew)
      have HB3 := Lib.hid (HB.out.trans ((Below.refl _ W).drew.mono HB.out.size))
      clear p0 x0 x1 x2 x3 x4 x5
      generalize W.drew = W3 at *
      go_wp2_with (refine wpList_delT _ rfl _ _ 102 3 rfl 53 treeK Tryd.underlying102 ekI evP ekI_inj b n m rfl HS3.out o.nd rfl HK.out ?_; intro w4 hm4 hg4)
      have HF4 := Lib.hid ((Fr.of_below (X := (· = b)) HB3.out).trans (fr_of_grown (X := (· = b)) hg4 rfl))
      have HM4 := Lib.hid hm4
      clear hm4 hg4
      go_wp2_with fail
      go_end0
      exact ⟨rfl, HM4.out.mono (by omega), HF4.out⟩
end Go.Proofs.YtneggbhjekklhaaDoor
