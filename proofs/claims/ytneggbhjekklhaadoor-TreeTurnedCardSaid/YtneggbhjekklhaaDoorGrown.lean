/- The closed fact on trees. -/
import Derived.Test.YtneggbhjekklhaaDoorTreeN
namespace Go.Proofs.YtneggbhjekklhaaDoor
open Go Go.RowKit Go.Maps Tree
set_option linter.unusedVariables false
set_option linter.unusedSimpArgs false
set_option maxHeartbeats 4000000
set_option maxRecDepth 100000

def groOp : OpT := ⟨1, 0, 1, 109, 4, 0, ⟨#[97]⟩, ⟨#[]⟩⟩
theorem gro_ok : opErr groOp = 0 := by decide
theorem gro_wf : groOp.Wf := by
  refine ⟨?_, ?_, ?_, ?_, ?_, ?_, ?_, ?_, ?_, ?_, ?_, ?_, ?_, ?_⟩ <;> decide
theorem gro_err : applyErr [] groOp = 0 := by
  unfold applyErr
  rw [if_neg (by rw [gro_ok]; simp), if_neg (by decide), if_neg (by simp)]
theorem gro_l : applyL [] groOp = [groOp] := by
  unfold applyL
  rw [if_pos gro_err]
  rfl
theorem gro_at : runO p00 [groOp] 4 = some (0, ⟨#[97]⟩) := by
  show Tree.move p00 (mvO groOp) 4 = _
  have hg : goes p00 (mvO groOp) = true := by
    unfold goes
    simp only [decide_eq_true_eq]
    exact ⟨by decide, Ins.none rfl⟩
  unfold Tree.move
  rw [if_pos hg]
  rfl
theorem LogOk.nil : LogOk [] := ⟨List.Pairwise.nil, fun o h => by cases h⟩
open Classical in
theorem grown_any {F : Nat → Bool} (ea : Nat → Addr) (w : World) (hG : Gd F ea w) (f2 : F 2 = true) (f3 : F 3 = true) (f4 : F 4 = true) (f5 : F 5 = true) (f7 : F 7 = true) :
    Calls Tryd.prog 20 #[] w fun e w' => e = .returned (.bool true) ∧ Below w.heap.size w w' := by
  have HN := Lib.hid treeNew_any
  have HG := Lib.hid hG
  clear hG
  go_enter Tryd.func20, Tryd.ntmps20
  go_wp2_with fail
  refine (HN.out w).mono ?_
  rintro e w1 ⟨TB, b, rfl, hS, hb⟩
  have HS1 := Lib.hid hS
  have HB1 := Lib.hid hb
  have HC : Hid (Calls Tryd.prog 23 #[.pointer (some ⟨TB, 0, none⟩), .agg #[.int .i64 1, .int .i64 0, .int .i64 1, .int .u8 109, .int .i64 4, .int .i64 0, .string ⟨#[97]⟩, .string ⟨#[]⟩]] w1 fun e w' => e = .returned .nilIface ∧ (∃ lv' n', TrS w.heap.size TB b n' lv' [groOp] w') ∧ Fr (fun k => k = TB ∨ k = b) w1 w') := Lib.hid (by
    have := apply_any ea w.heap.size TB b 0 _ [] groOp w1 gro_wf (HG.out.below hb) f2 f3 f4 f5 f7 hS LogOk.nil (by simp) (by unfold maxLen; simp)
    rw [gro_err, gro_l] at this
    exact this.mono fun e w' ⟨h1, lv', n', h2, _, h3⟩ => ⟨h1, ⟨lv', n', h2⟩, h3⟩)
  clear hS hb HN
  go_wp2_with fail
  refine HC.out.mono ?_
  rintro e w2 ⟨rfl, ⟨lv, n, hS2⟩, hF2⟩
  have HB2 := Lib.hid (HB1.out.trans (hF2.below HB1.out.size (fun k hk => by have := HS1.out.geT; have := HS1.out.geb; omega)))
  have HS2 := Lib.hid hS2
  have HI : Hid (Calls Tryd.prog 25 #[.pointer (some ⟨TB, 0, none⟩), .int .i64 4, .int .i64 0] w2 fun e w' => e = .returned (.bool true) ∧ Below w2.heap.size w2 w') := Lib.hid (by
    have := inside_any TB b n (runO p00 [groOp]) 4 0 w2 hS2.p0 hS2.mp (plOk_run (fun o ho => by rw [List.mem_singleton.1 ho]; constructor <;> constructor <;> decide)) (by constructor <;> decide)
    rw [decide_eq_true (show Ins (runO p00 [groOp]) 4 0 from Ins.here gro_at)] at this
    exact this)
  clear hS2 hF2 HC HS1 HB1
  go_wp2_with fail
  refine HI.out.mono ?_
  rintro e w3 ⟨rfl, hb3⟩
  have HM := Lib.hid (treeMoves_any w.heap.size TB b n lv [groOp] w3 (HS2.out.below hb3))
  have HB3 := Lib.hid (HB2.out.trans (hb3.mono HB2.out.size))
  clear hb3 HI HS2 HB2
  go_wp2_with fail
  refine HM.out.mono ?_
  rintro e w4 ⟨rfl, rfl⟩
  go_wp2_with fail
  go_ret
  exact ⟨rfl, HB3.out⟩
end Go.Proofs.YtneggbhjekklhaaDoor
