/- A tree of nodes: places in a map; does a node lie in another one. A tree's log: a move taken back. Keys of two numbers, read as a map's keys. -/
import Derived.StillTailTactics
import Derived.DeepKeys4
import Derived.Test.YtjekalilfhnpmaaGreatDoorM01
import Derived.Test.YtjekalilfhnpmaaGreatDoorM05
import Derived.Test.YtjekalilfhnpmaaGreatDoorM08
namespace Go.Proofs.YtjekalilfhnpmaaGreatDoor
open Go Go.RowKit Go.Maps Tree
set_option linter.unusedVariables false
set_option linter.unusedSimpArgs false
set_option maxHeartbeats 4000000
set_option maxRecDepth 100000
theorem cell_keep' {p : Addr} {u : Value} {w w' : World} (hb : Below w.heap.size w w') (h : w.cell? p = some u) : w'.cell? p = some u := (hb.cell (World.block_lt_of_cell? w _ h)).trans h
abbrev PlB := Pl ByteArray
structure PlT where
  nd : Int
  into : Int
  nm : ByteArray
@[reducible] def evP (x : PlT) : Value := .agg #[.int .i64 x.nd, .int .i64 x.into, .string x.nm]
def ekI (x : Int) : Value := .int .i64 x
theorem ekI_inj (x y : Int) (h : ekI x = ekI y) : x = y := by simpa [ekI] using h
def plM (p : PlB) : Int → Option PlT := fun x => (p x).map fun v => ⟨x, v.1, v.2⟩
theorem treeK : Keyed Tryz.prog 3 := int_keyed Tryz.underlying3
/-- a number of 64 bits -/
def I64 (x : Int) : Prop := -9223372036854775808 ≤ x ∧ x ≤ 9223372036854775807
theorem ekI_reads {x : Int} (h : I64 x) : ∃ kl, keyOf Tryz.prog 3 (ekI x) = some kl := ⟨_, keyOf_int_mk Tryz.underlying3 (by
  have h1 := h.1
  have h2 := h.2
  show (decide (-9223372036854775808 ≤ x) && decide (x ≤ 9223372036854775807)) = true
  simp [h1, h2])⟩
/-- where nodes lie, in a map of the call's own -/
abbrev MP (b n : Nat) (p : PlB) (w : World) : Prop := MT Tryz.prog 3 ekI evP b n (plM p) w
theorem zeroPl (w : World) : (zeroValue 81).run Tryz.prog w = .ok (.agg #[.int .i64 0, .int .i64 0, .string ⟨#[]⟩]) w := by kernel_rfl
/-- all that nodes lie in are numbers of 64 bits; nothing lies in itself -/
structure PlOk (p : PlB) : Prop where
  ac : Acyc p
  rg : ∀ x v, p x = some v → I64 v.1
open Classical in
theorem inside_any (TB b n : Nat) (p : PlB) (node of : Int) (w : World) (hp : w.cell? ⟨TB, 0, none⟩ = some (.map (some b))) (hm : MP b n p w) (hok : PlOk p) (hn : I64 node) :
    Calls Tryz.prog 83 #[.pointer (some ⟨TB, 0, none⟩), .int .i64 node, .int .i64 of] w fun e w' => e = .returned (.bool (decide (Ins p node of))) ∧ Below w.heap.size w w' := by
  obtain ⟨d, hd⟩ := hok.ac
  have HD := Lib.hid hd
  have HP := Lib.hid hp
  have HM := Lib.hid hm
  have HRg := Lib.hid hok.rg
  obtain ⟨R, hR⟩ : ∃ R, R = decide (Ins p node of) := ⟨_, rfl⟩
  rw [← hR]
  have HR : Hid (R = true ↔ Ins p node of) := Lib.hid (by rw [hR, decide_eq_true_iff])
  clear hd hp hm hok hR
  go_enter Tryz.func83, Tryz.ntmps83
  go_wp2_with fail
  go_loopw [1] (fun v1 wr => ∃ x : Int, v1 = .int .i64 x ∧ Hid (I64 x) ∧ Hid (R = true ↔ Ins p x of) ∧ Hid (Below w.heap.size w wr)) (fun v1 _ => d (intOf v1))
  case atStart => exact ⟨node, rfl, Lib.hid hn, HR, Lib.hid (Below.refl _ _)⟩
  case round =>
    obtain ⟨x, rfl, HX, HRx, HB⟩ := hrel
    have p0 := cell_keep' HB.out HP.out
    have hmr := HM.out.below HB.out
    cases hx : p x with
    | none =>
      have hR0 : R = false := by
        cases R with
        | false => rfl
        | true => exact absurd (HRx.out.1 rfl) (Ins.none hx)
      subst hR0
      have hlk : plM p x = none := by unfold plM; rw [hx]; rfl
      have HBa := Lib.hid (fun o => HB.out.alloc HB.out.size o)
      go_wp2_with (at_lookup; refine wpList_lookT_ok _ rfl _ _ _ rfl 3 81 treeK Tryz.underlying151 _ (zeroPl _) ekI evP b n (plM p) rfl hmr x rfl (ekI_reads HX.out) none hlk ?_)
      go_wp2_with fail
      go_ret
      exact ⟨rfl, HBa.out _⟩
    | some v =>
      have hlk : plM p x = some ⟨x, v.1, v.2⟩ := by unfold plM; rw [hx]; rfl
      have HBa := Lib.hid (fun o => HB.out.alloc HB.out.size o)
      by_cases hv : v.1 = of
      · have hR1 : R = true := HRx.out.2 ((Ins.some hx).2 (.inl hv))
        subst hR1
        have hvb : (v.1 == of) = true := by simp [hv]
        go_wp2_with (at_lookup; refine wpList_lookT_ok _ rfl _ _ _ rfl 3 81 treeK Tryz.underlying151 _ (zeroPl _) ekI evP b n (plM p) rfl hmr x rfl (ekI_reads HX.out) (some ⟨x, v.1, v.2⟩) hlk ?_)
        go_wp2_with fail
        go_ret
        exact ⟨rfl, HBa.out _⟩
      · have hvb : (v.1 == of) = false := by simp [hv]
        have HRn : Hid (R = true ↔ Ins p v.1 of) := Lib.hid (HRx.out.trans ((Ins.some hx).trans ⟨fun h => h.resolve_left hv, .inr⟩))
        have HXn := Lib.hid (HRg.out x v hx)
        have HDn := Lib.hid (HD.out x v hx)
        clear HRx
        go_wp2_with (at_lookup; refine wpList_lookT_ok _ rfl _ _ _ rfl 3 81 treeK Tryz.underlying151 _ (zeroPl _) ekI evP b n (plM p) rfl hmr x rfl (ekI_reads HX.out) (some ⟨x, v.1, v.2⟩) hlk ?_)
        go_wp2_with fail
        exact ⟨⟨_, rfl, HXn, HRn, Lib.hid (HBa.out _)⟩, HDn.out⟩
end Go.Proofs.YtjekalilfhnpmaaGreatDoor
namespace Go.Proofs.YtjekalilfhnpmaaGreatDoor
open Go Go.RowKit Go.Maps Tree
set_option linter.unusedVariables false
set_option linter.unusedSimpArgs false
set_option maxHeartbeats 4000000
set_option maxRecDepth 100000
/-- what the log has of a move: the operation, where its node was, whether it was anywhere, whether it went -/
abbrev doneCells (o : OpT) (y : PlT) (is by' : Bool) : Array Value := #[.int .i64 o.t, .int .i64 o.b, .int .i64 o.n, .int .u8 o.k, .int .i64 o.nd, .int .i64 o.ot, .string o.nm, .string o.vl, .int .i64 y.nd, .int .i64 y.into, .string y.nm, .bool is, .bool by']
noncomputable def undoM (m : Int → Option PlT) (o : OpT) (y : PlT) (is by' : Bool) : Int → Option PlT := if by' then updT m o.nd (if is then some y else none) else m
theorem undo_any (TB b n : Nat) (m : Int → Option PlT) (o : OpT) (y : PlT) (is by' : Bool) (w : World) (hp : w.cell? ⟨TB, 0, none⟩ = some (.map (some b))) (hm : MT Tryz.prog 3 ekI evP b n m w) (hnd : I64 o.nd) (hn : n < maxLen) :
    Calls Tryz.prog 158 #[.pointer (some ⟨TB, 0, none⟩), .agg (doneCells o y is by')] w fun e w' =>
      e = .returned (.tuple #[]) ∧ MT Tryz.prog 3 ekI evP b (n + 1) (undoM m o y is by') w' ∧ Fr (· = b) w w' := by
  obtain ⟨W, hW⟩ : ∃ W, W = w.alloc (.cells (doneCells o y is by') 251) := ⟨_, rfl⟩
  have hbw : Below w.heap.size w W := by rw [hW]; exact (Below.refl _ w).alloc (Nat.le_refl _) _
  have hmW : MT Tryz.prog 3 ekI evP b n m W := hm.below hbw
  have p0 := cell_keep' hbw hp
  obtain ⟨x0, x1, x2, x3, x4, x5⟩ : W.cell? ⟨w.heap.size, 4, none⟩ = some (.int .i64 o.nd) ∧ W.cell? ⟨w.heap.size, 8, none⟩ = some (.int .i64 y.nd) ∧ W.cell? ⟨w.heap.size, 9, none⟩ = some (.int .i64 y.into) ∧ W.cell? ⟨w.heap.size, 10, none⟩ = some (.string y.nm) ∧ W.cell? ⟨w.heap.size, 11, none⟩ = some (.bool is) ∧ W.cell? ⟨w.heap.size, 12, none⟩ = some (.bool by') := by
    rw [hW]
    exact ⟨by simp [go_sem], by simp [go_sem], by simp [go_sem], by simp [go_sem], by simp [go_sem], by simp [go_sem]⟩
  have HB := Lib.hid hbw
  have HM := Lib.hid hmW
  have HK := Lib.hid (ekI_reads hnd)
  obtain ⟨R, hR⟩ : ∃ R, R = undoM m o y is by' := ⟨_, rfl⟩
  rw [← hR]
  have HR := Lib.hid hR
  clear hbw hmW hp hm hnd hR
  cases by' with
  | false =>
    have hr : R = m := HR.out.trans (by unfold undoM; rw [if_neg (by simp)])
    subst hr
    go_enter Tryz.func158, Tryz.ntmps158
    go_wp2_with fail
    rw [← hW]
    clear hW
    go_wp2_with fail
    go_end0
    exact ⟨rfl, HM.out.mono (by omega), Fr.of_below HB.out⟩
  | true =>
    cases is with
    | true =>
      have hr : R = updT m o.nd (some y) := HR.out.trans (by unfold undoM; simp)
      subst hr
      go_enter Tryz.func158, Tryz.ntmps158
      go_wp2_with fail
      rw [← hW]
      clear hW
      go_wp2_with fail
      go_still_tail 9, (by kernel_rfl)
      change wpList _ _ _ _ _ W.drew
      have HS3 := Lib.hid (HM.out.below (Below.refl _ W).drew)
      have HB3 := Lib.hid (HB.out.trans ((Below.refl _ W).drew.mono HB.out.size))
      clear p0 x0 x1 x2 x3 x4 x5
      generalize W.drew = W3 at *
      go_wp2_with (at_mapUpdate; refine wpList_putT _ rfl _ _ _ 151 rfl 3 81 treeK Tryz.underlying151 ekI evP ekI_inj b n m rfl HS3.out hn o.nd y rfl rfl HK.out ?_; intro w4 hm4 hg4)
      have HF4 := Lib.hid ((Fr.of_below (X := (· = b)) HB3.out).trans (fr_of_grown (X := (· = b)) hg4 rfl))
      have HM4 := Lib.hid hm4
      clear hm4 hg4
      go_wp2_with fail
      go_end0
      exact ⟨rfl, HM4.out, HF4.out⟩
    | false =>
      have hr : R = updT m o.nd none := HR.out.trans (by unfold undoM; simp)
      subst hr
      go_enter Tryz.func158, Tryz.ntmps158
      go_wp2_with fail
      rw [← hW]
      clear hW
      go_wp2_with fail
      go_still_tail 7, (by kernel_rfl)
      change wpList _ _ _ _ _ W.drew
      have HS3 := Lib.hid (HM.out.below (Below.refl _ W).drew)
      have HB3 := Lib.hid (HB.out.trans ((Below.refl _ W).drew.mono HB.out.size))
      clear p0 x0 x1 x2 x3 x4 x5
      generalize W.drew = W3 at *
      go_wp2_with (refine wpList_delT _ rfl _ _ 151 3 rfl 81 treeK Tryz.underlying151 ekI evP ekI_inj b n m rfl HS3.out o.nd rfl HK.out ?_; intro w4 hm4 hg4)
      have HF4 := Lib.hid ((Fr.of_below (X := (· = b)) HB3.out).trans (fr_of_grown (X := (· = b)) hg4 rfl))
      have HM4 := Lib.hid hm4
      clear hm4 hg4
      go_wp2_with fail
      go_end0
      exact ⟨rfl, HM4.out.mono (by omega), HF4.out⟩
end Go.Proofs.YtjekalilfhnpmaaGreatDoor
namespace Go.Proofs.YtjekalilfhnpmaaGreatDoor
open Go Go.RowKit Go.Maps
set_option linter.unusedVariables false
set_option linter.unusedSimpArgs false
set_option maxHeartbeats 1000000
set_option maxRecDepth 100000
def pairV (x : Int × Int) : Value := .agg #[.int .i64 x.1, .int .i64 x.2]
theorem pairV_inj (x y : Int × Int) (h : pairV x = pairV y) : x = y := by
  obtain ⟨a, b⟩ := x
  obtain ⟨c, d⟩ := y
  simpa [pairV] using h
theorem ownK_wide : (match Tryz.prog.underlying 195 with | some (.array _ _) | some (.struct _) => true | _ => false) = true := by kernel_rfl
theorem ownK : Keyed Tryz.prog 195 := Keyed.of_law (deep_law_laid (by kernel_rfl) (m := 3) (by omega) (of_decide_eq_true (by kernel_rfl)) (by kernel_rfl) ownK_wide)
theorem ownK_lits (n : Nat) (a b : Value) : Tryz.prog.keyLits (n + 2) 195 [a, b] = (do
    let x ← Tryz.prog.keyLits (n + 1) 3 [a]
    let y ← Tryz.prog.keyLits (n + 1) 3 [b]
    pure (x ++ y)) := by
  have k2 : Tryz.prog.cellsOf 195 = 2 := by kernel_rfl
  have k3 : Tryz.prog.cellsOf 3 = 1 := by kernel_rfl
  obtain ⟨A, hA⟩ : ∃ A, Tryz.prog.keyLits (n + 1) 3 [a] = A := ⟨_, rfl⟩
  obtain ⟨B, hB⟩ : ∃ B, Tryz.prog.keyLits (n + 1) 3 [b] = B := ⟨_, rfl⟩
  rw [hA, hB]
  unfold Program.keyLits
  rw [Tryz.underlying195]
  simp [k2, k3, hA, hB, List.mapM_cons, List.mapM_nil, Option.bind_eq_bind]
  cases A <;> cases B <;> simp
theorem ownK_reads {x : Int × Int} (h1 : I64 x.1) (h2 : I64 x.2) : ∃ kl, keyOf Tryz.prog 195 (pairV x) = some kl := by
  have hts : Tryz.prog.types.size = 394 := by kernel_rfl
  have hk : Tryz.prog.keyType 195 = true := by kernel_rfl
  have hf : (pairV x).formed Tryz.prog 195 = true := by
    have k2 : Tryz.prog.cellsOf 195 = 2 := by kernel_rfl
    simp [pairV, Value.formed, Tryz.underlying195, k2]
  have hi : ∀ z : Int, I64 z → Tryz.prog.keyLits (394 - 1 + 1) 3 [.int .i64 z] = some [.int .i64 z] := fun z hz => by
    unfold Program.keyLits
    rw [Tryz.underlying3]
    have : (Lit.int .i64 z).wf = true := by
      have h1 := hz.1
      have h2 := hz.2
      show (decide (-9223372036854775808 ≤ z) && decide (z ≤ 9223372036854775807)) = true
      simp [h1, h2]
    simp [this]
  refine ⟨.string (keyBytes [.int .i64 x.1, .int .i64 x.2]), ?_⟩
  unfold keyOf
  rw [Tryz.underlying195]
  simp only [hk, hf, Bool.and_self, if_true]
  rw [hts]
  have := ownK_lits (394 - 1) (.int .i64 x.1) (.int .i64 x.2)
  rw [hi x.1 h1, hi x.2 h2] at this
  show Option.map _ (Tryz.prog.keyLits (394 - 1 + 2) 195 [.int .i64 x.1, .int .i64 x.2]) = _
  rw [this]
  rfl
theorem lofK_wide : (match Tryz.prog.underlying 200 with | some (.array _ _) | some (.struct _) => true | _ => false) = true := by kernel_rfl
theorem lofK : Keyed Tryz.prog 200 := Keyed.of_law (deep_law_laid (by kernel_rfl) (m := 3) (by omega) (of_decide_eq_true (by kernel_rfl)) (by kernel_rfl) lofK_wide)
theorem lofK_lits (n : Nat) (a b : Value) : Tryz.prog.keyLits (n + 2) 200 [a, b] = (do
    let x ← Tryz.prog.keyLits (n + 1) 3 [a]
    let y ← Tryz.prog.keyLits (n + 1) 3 [b]
    pure (x ++ y)) := by
  have k2 : Tryz.prog.cellsOf 200 = 2 := by kernel_rfl
  have k3 : Tryz.prog.cellsOf 3 = 1 := by kernel_rfl
  obtain ⟨A, hA⟩ : ∃ A, Tryz.prog.keyLits (n + 1) 3 [a] = A := ⟨_, rfl⟩
  obtain ⟨B, hB⟩ : ∃ B, Tryz.prog.keyLits (n + 1) 3 [b] = B := ⟨_, rfl⟩
  rw [hA, hB]
  unfold Program.keyLits
  rw [Tryz.underlying200]
  simp [k2, k3, hA, hB, List.mapM_cons, List.mapM_nil, Option.bind_eq_bind]
  cases A <;> cases B <;> simp
theorem lofK_reads {x : Int × Int} (h1 : I64 x.1) (h2 : I64 x.2) : ∃ kl, keyOf Tryz.prog 200 (pairV x) = some kl := by
  have hts : Tryz.prog.types.size = 394 := by kernel_rfl
  have hk : Tryz.prog.keyType 200 = true := by kernel_rfl
  have hf : (pairV x).formed Tryz.prog 200 = true := by
    have k2 : Tryz.prog.cellsOf 200 = 2 := by kernel_rfl
    simp [pairV, Value.formed, Tryz.underlying200, k2]
  have hi : ∀ z : Int, I64 z → Tryz.prog.keyLits (394 - 1 + 1) 3 [.int .i64 z] = some [.int .i64 z] := fun z hz => by
    unfold Program.keyLits
    rw [Tryz.underlying3]
    have : (Lit.int .i64 z).wf = true := by
      have h1 := hz.1
      have h2 := hz.2
      show (decide (-9223372036854775808 ≤ z) && decide (z ≤ 9223372036854775807)) = true
      simp [h1, h2]
    simp [this]
  refine ⟨.string (keyBytes [.int .i64 x.1, .int .i64 x.2]), ?_⟩
  unfold keyOf
  rw [Tryz.underlying200]
  simp only [hk, hf, Bool.and_self, if_true]
  rw [hts]
  have := lofK_lits (394 - 1) (.int .i64 x.1) (.int .i64 x.2)
  rw [hi x.1 h1, hi x.2 h2] at this
  show Option.map _ (Tryz.prog.keyLits (394 - 1 + 2) 200 [.int .i64 x.1, .int .i64 x.2]) = _
  rw [this]
  rfl
end Go.Proofs.YtjekalilfhnpmaaGreatDoor
