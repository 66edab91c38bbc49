/- Operations: when are two the same; the closed fact on an operation's text. -/
import Derived.Test.YtneggbhjekklhaaDoorOpRd
namespace Go.Proofs.YtneggbhjekklhaaDoor
open Go Go.RowKit
set_option linter.unusedVariables false
set_option linter.unusedSimpArgs false
set_option maxHeartbeats 4000000
set_option maxRecDepth 100000

def opEqB (o p : OpT) : Bool := o.t == p.t && o.b == p.b && o.n == p.n && o.k == p.k && o.nd == p.nd && o.ot == p.ot && o.nm.toList == p.nm.toList && o.vl.toList == p.vl.toList
theorem str_eq (s u : ByteArray) : (s.toList == u.toList) = decide (s = u) := by
  rw [Bool.eq_iff_iff]
  simp only [beq_iff_eq, decide_eq_true_eq, ByteArray.toList_eq]
  constructor
  · intro h
    rw [← S_of s, ← S_of u, h]
  · rintro rfl
    rfl
theorem opEqB_iff (o p : OpT) : opEqB o p = true ↔ o = p := by
  unfold opEqB
  rw [str_eq, str_eq]
  obtain ⟨t, b, n, k, nd, ot, nm, vl⟩ := o
  obtain ⟨t', b', n', k', nd', ot', nm', vl'⟩ := p
  simp only [Bool.and_eq_true, beq_iff_eq, decide_eq_true_eq, OpT.mk.injEq]
  constructor
  · rintro ⟨⟨⟨⟨⟨⟨⟨h1, h2⟩, h3⟩, h4⟩, h5⟩, h6⟩, h7⟩, h8⟩
    exact ⟨h1, h2, h3, h4, h5, h6, h7, h8⟩
  · rintro ⟨h1, h2, h3, h4, h5, h6, h7, h8⟩
    exact ⟨⟨⟨⟨⟨⟨⟨h1, h2⟩, h3⟩, h4⟩, h5⟩, h6⟩, h7⟩, h8⟩
theorem opEqB_refl (o : OpT) : opEqB o o = true := (opEqB_iff o o).2 rfl
theorem opEqB_ne {o p : OpT} (h : o ≠ p) : opEqB o p = false := by
  cases he : opEqB o p with
  | false => rfl
  | true => exact absurd ((opEqB_iff o p).1 he) h

theorem eqOp_run (o p : OpT) (w : World) : (Op.equalIn 10000 28 (opV o) (opV p)).run Tryd.prog w = .ok (opEqB o p) w := by
  have u3 := Tryd.underlying3
  have a3 := Tryd.isAgg3
  have z3 := Tryd.sizeOf3
  have u5 := Tryd.underlying5
  have a5 := Tryd.isAgg5
  have z5 := Tryd.sizeOf5
  have u9 := Tryd.underlying9
  have a9 := Tryd.isAgg9
  have z9 := Tryd.sizeOf9
  have us := Tryd.underlying26
  have ag := Tryd.isAgg26
  have zs := Tryd.sizeOf26
  rw [show (10000 : Nat) = 9999 + 1 from rfl, Op.equalIn]
  simp only [Sem.run_bind, run_underlying Tryd.underlying28, Result.andThen_ok]
  go_simp
  unfold opEqB
  (repeat' split) <;> simp_all

/-- the operation of the closed fact -/
def wrOp : OpT := ⟨1, 0, 1, 109, 4, 0, S [97], ⟨#[]⟩⟩
theorem wr_ok : opErr wrOp = 0 := by decide
theorem wr_wf : wrOp.Wf := by
  refine ⟨?_, ?_, ?_, ?_, ?_, ?_, ?_, ?_, ?_, ?_, ?_, ?_, ?_, ?_⟩ <;> decide
theorem wr_text : opTextL wrOp = [109, 124, 49, 124, 48, 124, 49, 124, 52, 124, 48, 124, 97, 124] := by
  unfold opTextL opWords wrOp
  simp only
  rw [itoa_nonneg 1 (by omega), itoa_nonneg 0 (by omega), itoa_nonneg 4 (by omega)]
  rw [show (1 : Int).toNat = 1 from rfl, show (0 : Int).toNat = 0 from rfl, show (4 : Int).toNat = 4 from rfl]
  rw [Lib.decDigits_one (by omega : 1 < 10), Lib.decDigits_one (by omega : 0 < 10), Lib.decDigits_one (by omega : 4 < 10)]
  rfl

theorem written_any {F : Nat → Bool} (ea : Nat → Addr) (w : World) (hG : Gd F ea w) (f2 : F 2 = true) (f3 : F 3 = true) (f4 : F 4 = true) (f5 : F 5 = true) (f21 : F 21 = true) :
    Calls Tryd.prog 15 #[] w fun r w' => r = .returned (.bool true) ∧ Below w.heap.size w w' := by
  have HC : Hid (∀ w, Gd F ea w → Calls Tryd.prog 35 #[.agg #[.int .i64 1, .int .i64 0, .int .i64 1, .int .u8 109, .int .i64 4, .int .i64 0, .string ⟨#[97]⟩, .string ⟨#[]⟩]] w fun e w' => e = .returned (.tuple #[.string (S [109, 124, 49, 124, 48, 124, 49, 124, 52, 124, 48, 124, 97, 124]), .nilIface]) ∧ Below w.heap.size w w') := Lib.hid fun w hG => by
    have := opText_ok ea wrOp w wr_wf hG f2 f3 f4 f5 f21 wr_ok
    rw [wr_text] at this
    exact this
  have HG := Lib.hid hG
  have heq : (S [109, 124, 49, 124, 48, 124, 49, 124, 52, 124, 48, 124, 97, 124]).toList = (ByteArray.mk #[109, 124, 49, 124, 48, 124, 49, 124, 52, 124, 48, 124, 97, 124]).toList := rfl
  clear hG
  go_enter Tryd.func15, Tryd.ntmps15
  go_wp2_with fail
  refine (HC.out _ HG.out).mono ?_
  rintro e w1 ⟨rfl, hb⟩
  have HB := Lib.hid hb
  clear hb
  go_wp2_with fail
  go_ret
  exact ⟨by simp, HB.out⟩


end Go.Proofs.YtneggbhjekklhaaDoor
