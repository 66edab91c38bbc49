/- Operations: when are two the same; the closed fact on an operation's text. -/
import Derived.Test.YtbncfpljiihmnaaGreatDoorOpRd
namespace Go.Proofs.YtbncfpljiihmnaaGreatDoor
open Go Go.RowKit
set_option linter.unusedVariables false
set_option linter.unusedSimpArgs false
set_option maxHeartbeats 4000000
set_option maxRecDepth 100000

def opEqB (o p : OpT) : Bool := o.t == p.t && o.b == p.b && o.n == p.n && o.k == p.k && o.nd == p.nd && o.ot == p.ot && o.nm.toList == p.nm.toList && o.vl.toList == p.vl.toList
theorem str_eq (s u : ByteArray) : (s.toList == u.toList) = decide (s = u) := by
  rw [Bool.eq_iff_iff]
  simp only [beq_iff_eq, decide_eq_true_eq, ByteArray.toList_eq]
  constructor
  · intro h
    rw [← S_of s, ← S_of u, h]
  · rintro rfl
    rfl
theorem opEqB_iff (o p : OpT) : opEqB o p = true ↔ o = p := by
  unfold opEqB
  rw [str_eq, str_eq]
  obtain ⟨t, b, n, k, nd, ot, nm, vl⟩ := o
  obtain ⟨t', b', n', k', nd', ot', nm', vl'⟩ := p
  simp only [Bool.and_eq_true, beq_iff_eq, decide_eq_true_eq, OpT.mk.injEq]
  constructor
  · rintro ⟨⟨⟨⟨⟨⟨⟨h1, h2⟩, h3⟩, h4⟩, h5⟩, h6⟩, h7⟩, h8⟩
    exact ⟨h1, h2, h3, h4, h5, h6, h7, h8⟩
  · rintro ⟨h1, h2, h3, h4, h5, h6, h7, h8⟩
    exact ⟨⟨⟨⟨⟨⟨⟨h1, h2⟩, h3⟩, h4⟩, h5⟩, h6⟩, h7⟩, h8⟩
theorem opEqB_refl (o : OpT) : opEqB o o = true := (opEqB_iff o o).2 rfl
theorem opEqB_ne {o p : OpT} (h : o ≠ p) : opEqB o p = false := by
  cases he : opEqB o p with
  | false => rfl
  | true => exact absurd ((opEqB_iff o p).1 he) h

theorem eqOp_run (o p : OpT) (w : World) : (Op.equalIn 10000 38 (opV o) (opV p)).run Tryz.prog w = .ok (opEqB o p) w := by
  have u3 := Tryz.underlying3
  have a3 := Tryz.isAgg3
  have z3 := Tryz.sizeOf3
  have u5 := Tryz.underlying5
  have a5 := Tryz.isAgg5
  have z5 := Tryz.sizeOf5
  have u9 := Tryz.underlying9
  have a9 := Tryz.isAgg9
  have z9 := Tryz.sizeOf9
  have us := Tryz.underlying36
  have ag := Tryz.isAgg36
  have zs := Tryz.sizeOf36
  rw [show (10000 : Nat) = 9999 + 1 from rfl, Op.equalIn]
  simp only [Sem.run_bind, run_underlying Tryz.underlying38, Result.andThen_ok]
  go_simp
  unfold opEqB
  (repeat' split) <;> simp_all

/-- the operation of the closed fact -/
def wrOp : OpT := ⟨1, 0, 1, 109, 4, 0, S [97], ⟨#[]⟩⟩
theorem wr_ok : opErr wrOp = 0 := by decide
theorem wr_wf : wrOp.Wf := by
  refine ⟨?_, ?_, ?_, ?_, ?_, ?_, ?_, ?_, ?_, ?_, ?_, ?_, ?_, ?_⟩ <;> decide
theorem wr_text : opTextL wrOp = [109, 124, 49, 124, 48, 124, 49, 124, 52, 124, 48, 124, 97, 124] := by
  unfold opTextL opWords wrOp
  simp only
  rw [itoa_nonneg 1 (by omega), itoa_nonneg 0 (by omega), itoa_nonneg 4 (by omega)]
  rw [show (1 : Int).toNat = 1 from rfl, show (0 : Int).toNat = 0 from rfl, show (4 : Int).toNat = 4 from rfl]
  rw [Lib.decDigits_one (by omega : 1 < 10), Lib.decDigits_one (by omega : 0 < 10), Lib.decDigits_one (by omega : 4 < 10)]
  rfl



end Go.Proofs.YtbncfpljiihmnaaGreatDoor
