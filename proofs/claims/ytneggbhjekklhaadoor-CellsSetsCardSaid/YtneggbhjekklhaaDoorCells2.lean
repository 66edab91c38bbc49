/- Cells of marks: set, and read. -/
import Derived.Test.YtneggbhjekklhaaDoorCells
import Derived.BigQuiet
namespace Go.Proofs.YtneggbhjekklhaaDoor
open Go Go.RowKit Go.Maps
set_option linter.unusedVariables false
set_option linter.unusedSimpArgs false
set_option maxHeartbeats 4000000
set_option maxRecDepth 100000

/-- a mark set: the cells, whether it was laid, an error's number -/
noncomputable def setC (m : MapC) (o : OpT) : MapC × Bool × Nat :=
  if opErr o ≠ 0 then (m, false, opErr o) else if o.k ≠ 115 then (m, false, 5) else ((layC m (o.nd, o.nm) ⟨o.vl, o.t, o.b⟩).1, (layC m (o.nd, o.nm) ⟨o.vl, o.t, o.b⟩).2, 0)
theorem keyOk_op {o : OpT} (h : o.Wf) : KeyOk (o.nd, o.nm) := ⟨h.nd1, h.nd2, Nat.le_trans h.nm1 (by unfold maxLen; omega)⟩

theorem cset_any {F : Nat → Bool} (ea : Nat → Addr) (base CB b n : Nat) (m : MapC) (o : OpT) (w : World) (hw : o.Wf) (hG : Gd F ea w) (f2 : F 2 = true) (f3 : F 3 = true) (f4 : F 4 = true) (f5 : F 5 = true) (hst : CSt base CB b n m w) (hn : n < maxLen) :
    Calls Tryd.prog 12 #[.pointer (some ⟨CB, 0, none⟩), opV o] w fun e w' =>
      e = .returned (.tuple #[.bool (setC m o).2.1, errW ea (setC m o).2.2]) ∧ CSt base CB b (n + 1) (setC m o).1 w' ∧ Fr (· = b) w w' := by
  have HC : Hid (∀ w', Gd F ea w' → Calls Tryd.prog 37 #[opV o] w' fun e w'' => e = .returned (errW ea (opErr o)) ∧ Below w'.heap.size w' w'') := Lib.hid fun w' hg => check_any ea o w' hw hg f2 f3 f4 f5
  have HG := Lib.hid (hG.alloc (.cells o.cells 28))
  have HS := Lib.hid hst
  have HSt : Hid (setC m o = if opErr o ≠ 0 then (m, false, opErr o) else if o.k ≠ 115 then (m, false, 5) else ((layC m (o.nd, o.nm) ⟨o.vl, o.t, o.b⟩).1, (layC m (o.nd, o.nm) ⟨o.vl, o.t, o.b⟩).2, 0)) := Lib.hid rfl
  have HK := Lib.hid (keyOk_op hw)
  generalize setC m o = R at HSt ⊢
  by_cases he : opErr o ≠ 0
  · have hr := HSt.out
    rw [if_pos he] at hr
    subst hr
    have hE : errW ea (opErr o) = errV (ea (opErr o)) := by rw [errW, if_neg he]
    rw [hE] at HC
    have HE := Lib.hid hE
    clear hst hG hw he hE HSt
    generalize opErr o = k at HC HE
    go_enter Tryd.func12, Tryd.ntmps12
    go_wp2_with fail
    refine (HC.out _ HG.out).mono ?_
    rintro e w1 ⟨rfl, hb⟩
    have HB := Lib.hid (((Below.refl w.heap.size w).alloc (Nat.le_refl _) (.cells o.cells 28)).trans (hb.mono (by simp)))
    clear hb
    go_wp2_with fail
    go_ret2
    exact ⟨by rw [HE.out]; rfl, (HS.out.below HB.out).mono (by omega), Fr.of_below HB.out⟩
  · have he0 : opErr o = 0 := by omega
    have hr := HSt.out
    rw [if_neg he] at hr
    rw [he0] at HC
    have hk1 := hw.k1
    have hk2 := hw.k2
    have HGB := Lib.hid hG
    clear hst hG hw he he0 HSt
    go_enter Tryd.func12, Tryd.ntmps12
    go_wp2_with fail
    refine (HC.out _ HG.out).mono ?_
    rintro e w1 ⟨rfl, hb⟩
    have hO := (OpAt.start w o 28).below hb
    have HB := Lib.hid (((Below.refl w.heap.size w).alloc (Nat.le_refl _) (.cells o.cells 28)).trans (hb.mono (by simp)))
    obtain ⟨q0, q1, q2, q3, q4, q5, q6, q7⟩ := hO
    have hev : errW ea 0 = .nilIface := rfl
    rw [hev]
    clear hb hev HC HG
    by_cases hk : o.k ≠ 115
    · rw [if_pos hk] at hr
      subst hr
      have hkb : (o.k != 115) = true := by simpa using hk
      have g5 := ((HGB.out.below HB.out).errs 5 (by omega) (by omega) f5).var
      simp only [errG] at g5
      have HS1 := Lib.hid (HS.out.below HB.out)
      clear hk
      go_wp2_with fail
      go_quiet (fail)
      rename_i nq
      have HB2 := Lib.hid (HB.out.trans (below_drewN w.heap.size w1 nq))
      have HS2 := Lib.hid (HS1.out.below (below_drewN w1.heap.size w1 nq))
      go_wp2_with fail
      go_ret2
      exact ⟨rfl, HS2.out.mono (by omega), Fr.of_below HB2.out⟩
    · have hk' : o.k = 115 := by omega
      rw [if_neg hk] at hr
      have HR := Lib.hid hr
      clear hr
      have hkb : (o.k != 115) = false := by simp [hk']
      have HL := Lib.hid (lay_any base CB b n m (o.nd, o.nm) ⟨o.vl, o.t, o.b⟩ w1 (HS.out.below HB.out) HK.out hn)
      generalize layC m (o.nd, o.nm) ⟨o.vl, o.t, o.b⟩ = R2 at HL HR
      clear hk
      go_wp2_with fail
      refine HL.out.mono ?_
      rintro e w2 ⟨rfl, hS2, hF2⟩
      have HS2 := Lib.hid hS2
      have HF2 := Lib.hid ((Fr.of_below (X := (· = b)) HB.out).trans hF2)
      clear hS2 hF2 q0 q1 q2 q3 q4 q5 q6 q7 HL
      go_wp2_with fail
      go_ret2
      rw [HR.out]
      exact ⟨rfl, HS2.out, HF2.out⟩

theorem cget_any (base CB b n : Nat) (m : MapC) (k : KeyT) (w : World) (hst : CSt base CB b n m w) (hk : KeyOk k) :
    Calls Tryd.prog 29 #[.pointer (some ⟨CB, 0, none⟩), .int .i64 k.1, .string k.2] w fun e w' =>
      e = .returned (match m k with | some c => .tuple #[.string c.v, stampV c.t c.b, .bool true] | none => .tuple #[.string ⟨#[]⟩, stampV 0 0, .bool false]) ∧ Below w.heap.size w w' := by
  have HS := Lib.hid hst
  have HK := Lib.hid hk
  have p0 := hst.ptr
  have HL : Hid (∀ r, m k = r → ∀ w', w'.heap[b]? = w.heap[b]? → (Instr.lookup 83 (.map (some b)) (.agg #[.int .i64 k.1, .string k.2]) true).run Tryd.prog w' = .ok (.tuple #[(r.map cellV).getD (.agg #[.string ⟨#[]⟩, .int .i64 0, .int .i64 0]), .bool r.isSome]) w') := Lib.hid fun r hr w' hw => hst.look hk hr w' hw
  have hbl : b < w.heap.size := hst.mt.lt
  have hp1 : (w.alloc (.cells #[.int .i64 0, .int .i64 0] 26)).cell? ⟨CB, 0, none⟩ = some (.map (some b)) := cell_keep ((Below.refl w.heap.size _).alloc (Nat.le_refl _) _) p0
  clear hst hk
  cases hm : m k with
  | none =>
    have l1 : (Instr.lookup 83 (.map (some b)) (.agg #[.int .i64 k.1, .string k.2]) true).run Tryd.prog (w.alloc (.cells #[.int .i64 0, .int .i64 0] 26)) = .ok (.tuple #[.agg #[.string ⟨#[]⟩, .int .i64 0, .int .i64 0], .bool false]) (w.alloc (.cells #[.int .i64 0, .int .i64 0] 26)) := HL.out none hm _ (Below.heap_alloc _ _ b hbl)
    go_enter Tryd.func29, Tryd.ntmps29
    go_wp2_with fail
    go_region
    all_goals
      go_wp2_with fail
      refine bodyPost_ret (v := .tuple #[.string ⟨#[]⟩, .agg #[.int .i64 0, .int .i64 0], .bool false]) (by simp [results, Tryd.results29, go_sem]) rfl ⟨rfl, ?_⟩
      go_grown
  | some c =>
    have l1 : (Instr.lookup 83 (.map (some b)) (.agg #[.int .i64 k.1, .string k.2]) true).run Tryd.prog (w.alloc (.cells #[.int .i64 0, .int .i64 0] 26)) = .ok (.tuple #[.agg #[.string c.v, .int .i64 c.t, .int .i64 c.b], .bool true]) (w.alloc (.cells #[.int .i64 0, .int .i64 0] 26)) := HL.out (some c) hm _ (Below.heap_alloc _ _ b hbl)
    go_enter Tryd.func29, Tryd.ntmps29
    go_wp2_with fail
    go_region
    all_goals
      go_wp2_with fail
      refine bodyPost_ret (v := .tuple #[.string c.v, .agg #[.int .i64 c.t, .int .i64 c.b], .bool true]) (by simp [results, Tryd.results29, go_sem]) rfl ⟨rfl, ?_⟩
      go_grown
end Go.Proofs.YtneggbhjekklhaaDoor
