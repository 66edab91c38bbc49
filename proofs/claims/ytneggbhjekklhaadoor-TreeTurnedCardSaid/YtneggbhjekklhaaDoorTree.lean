/- A tree of nodes: places in a map; does a node lie in another one. -/
import Derived.Test.YtneggbhjekklhaaDoorTreeP
import Derived.Test.YtneggbhjekklhaaDoorMapT
import Derived.Test.YtneggbhjekklhaaDoorOps
import Derived.StillTailTactics
namespace Go.Proofs.YtneggbhjekklhaaDoor
open Go Go.RowKit Go.Maps Tree
set_option linter.unusedVariables false
set_option linter.unusedSimpArgs false
set_option maxHeartbeats 4000000
set_option maxRecDepth 100000

theorem cell_keep' {p : Addr} {u : Value} {w w' : World} (hb : Below w.heap.size w w') (h : w.cell? p = some u) : w'.cell? p = some u := (hb.cell (World.block_lt_of_cell? w _ h)).trans h
abbrev PlB := Pl ByteArray
structure PlT where
  nd : Int
  into : Int
  nm : ByteArray
@[reducible] def evP (x : PlT) : Value := .agg #[.int .i64 x.nd, .int .i64 x.into, .string x.nm]
def ekI (x : Int) : Value := .int .i64 x
theorem ekI_inj (x y : Int) (h : ekI x = ekI y) : x = y := by simpa [ekI] using h
def plM (p : PlB) : Int → Option PlT := fun x => (p x).map fun v => ⟨x, v.1, v.2⟩
theorem treeK : Keyed Tryd.prog 3 := int_keyed Tryd.underlying3
/-- a number of 64 bits -/
def I64 (x : Int) : Prop := -9223372036854775808 ≤ x ∧ x ≤ 9223372036854775807
theorem ekI_reads {x : Int} (h : I64 x) : ∃ kl, keyOf Tryd.prog 3 (ekI x) = some kl := ⟨_, keyOf_int_mk Tryd.underlying3 (by
  have h1 := h.1
  have h2 := h.2
  show (decide (-9223372036854775808 ≤ x) && decide (x ≤ 9223372036854775807)) = true
  simp [h1, h2])⟩
/-- where nodes lie, in a map of the call's own -/
abbrev MP (b n : Nat) (p : PlB) (w : World) : Prop := MT Tryd.prog 3 ekI evP b n (plM p) w
theorem zeroPl (w : World) : (zeroValue 53).run Tryd.prog w = .ok (.agg #[.int .i64 0, .int .i64 0, .string ⟨#[]⟩]) w := by kernel_rfl
/-- all that nodes lie in are numbers of 64 bits; nothing lies in itself -/
structure PlOk (p : PlB) : Prop where
  ac : Acyc p
  rg : ∀ x v, p x = some v → I64 v.1
open Classical in
theorem inside_any (TB b n : Nat) (p : PlB) (node of : Int) (w : World) (hp : w.cell? ⟨TB, 0, none⟩ = some (.map (some b))) (hm : MP b n p w) (hok : PlOk p) (hn : I64 node) :
    Calls Tryd.prog 25 #[.pointer (some ⟨TB, 0, none⟩), .int .i64 node, .int .i64 of] w fun e w' => e = .returned (.bool (decide (Ins p node of))) ∧ Below w.heap.size w w' := by
  obtain ⟨d, hd⟩ := hok.ac
  have HD := Lib.hid hd
  have HP := Lib.hid hp
  have HM := Lib.hid hm
  have HRg := Lib.hid hok.rg
  obtain ⟨R, hR⟩ : ∃ R, R = decide (Ins p node of) := ⟨_, rfl⟩
  rw [← hR]
  have HR : Hid (R = true ↔ Ins p node of) := Lib.hid (by rw [hR, decide_eq_true_iff])
  clear hd hp hm hok hR
  go_enter Tryd.func25, Tryd.ntmps25
  go_wp2_with fail
  go_loopw [1] (fun v1 wr => ∃ x : Int, v1 = .int .i64 x ∧ Hid (I64 x) ∧ Hid (R = true ↔ Ins p x of) ∧ Hid (Below w.heap.size w wr)) (fun v1 _ => d (intOf v1))
  case atStart => exact ⟨node, rfl, Lib.hid hn, HR, Lib.hid (Below.refl _ _)⟩
  case round =>
    obtain ⟨x, rfl, HX, HRx, HB⟩ := hrel
    have p0 := cell_keep' HB.out HP.out
    have hmr := HM.out.below HB.out
    cases hx : p x with
    | none =>
      have hR0 : R = false := by
        cases R with
        | false => rfl
        | true => exact absurd (HRx.out.1 rfl) (Ins.none hx)
      subst hR0
      have hlk : plM p x = none := by unfold plM; rw [hx]; rfl
      have HBa := Lib.hid (fun o => HB.out.alloc HB.out.size o)
      go_wp2_with (at_lookup; refine wpList_lookT_ok _ rfl _ _ _ rfl 3 53 treeK Tryd.underlying102 _ (zeroPl _) ekI evP b n (plM p) rfl hmr x rfl (ekI_reads HX.out) none hlk ?_)
      go_wp2_with fail
      go_ret
      exact ⟨rfl, HBa.out _⟩
    | some v =>
      have hlk : plM p x = some ⟨x, v.1, v.2⟩ := by unfold plM; rw [hx]; rfl
      have HBa := Lib.hid (fun o => HB.out.alloc HB.out.size o)
      by_cases hv : v.1 = of
      · have hR1 : R = true := HRx.out.2 ((Ins.some hx).2 (.inl hv))
        subst hR1
        have hvb : (v.1 == of) = true := by simp [hv]
        go_wp2_with (at_lookup; refine wpList_lookT_ok _ rfl _ _ _ rfl 3 53 treeK Tryd.underlying102 _ (zeroPl _) ekI evP b n (plM p) rfl hmr x rfl (ekI_reads HX.out) (some ⟨x, v.1, v.2⟩) hlk ?_)
        go_wp2_with fail
        go_ret
        exact ⟨rfl, HBa.out _⟩
      · have hvb : (v.1 == of) = false := by simp [hv]
        have HRn : Hid (R = true ↔ Ins p v.1 of) := Lib.hid (HRx.out.trans ((Ins.some hx).trans ⟨fun h => h.resolve_left hv, .inr⟩))
        have HXn := Lib.hid (HRg.out x v hx)
        have HDn := Lib.hid (HD.out x v hx)
        clear HRx
        go_wp2_with (at_lookup; refine wpList_lookT_ok _ rfl _ _ _ rfl 3 53 treeK Tryd.underlying102 _ (zeroPl _) ekI evP b n (plM p) rfl hmr x rfl (ekI_reads HX.out) (some ⟨x, v.1, v.2⟩) hlk ?_)
        go_wp2_with fail
        exact ⟨⟨_, rfl, HXn, HRn, Lib.hid (HBa.out _)⟩, HDn.out⟩
end Go.Proofs.YtneggbhjekklhaaDoor
