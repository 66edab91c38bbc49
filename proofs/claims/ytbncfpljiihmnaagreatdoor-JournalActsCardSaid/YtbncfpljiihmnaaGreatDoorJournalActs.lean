/- JournalActs is proved: any acts on a disk of any bytes answer as the document says. No condition but the card's own (the listed variables as the program's text lays them). -/
import Derived.Test.YtbncfpljiihmnaaGreatDoorJActsW
import Derived.Test.YtbncfpljiihmnaaGreatDoorLift
import Derived.Lay
import Derived.Lib.LaidIn
import Derived.ChangeMaps5
namespace Go.Proofs.YtbncfpljiihmnaaGreatDoor
open Go Go.ChangeShapes Go.WideShapes Go.ChangeAt Go.RowKit
namespace journalActs
set_option linter.unusedVariables false
set_option linter.unusedSimpArgs false
set_option maxHeartbeats 2000000

theorem laidErrs : ∀ k ∈ [1, 2, 3, 4, 5, 6, 7, 8, 9, 10, 11, 12], ErrVarOk k ∧ ErrLaid Rows.journalActsRow.laid k := by
  intro k hk
  simp only [List.mem_cons, List.not_mem_nil, or_false] at hk
  rcases hk with rfl | rfl | rfl | rfl | rfl | rfl | rfl | rfl | rfl | rfl | rfl | rfl
  · exact ⟨errVar1, by unfold ErrLaid; kernel_rfl⟩
  · exact ⟨errVar2, by unfold ErrLaid; kernel_rfl⟩
  · exact ⟨errVar3, by unfold ErrLaid; kernel_rfl⟩
  · exact ⟨errVar4, by unfold ErrLaid; kernel_rfl⟩
  · exact ⟨errVar5, by unfold ErrLaid; kernel_rfl⟩
  · exact ⟨errVar6, by unfold ErrLaid; kernel_rfl⟩
  · exact ⟨errVar7, by unfold ErrLaid; kernel_rfl⟩
  · exact ⟨errVar8, by unfold ErrLaid; kernel_rfl⟩
  · exact ⟨errVar9, by unfold ErrLaid; kernel_rfl⟩
  · exact ⟨errVar10, by unfold ErrLaid; kernel_rfl⟩
  · exact ⟨errVar11, by unfold ErrLaid; kernel_rfl⟩
  · exact ⟨errVar12, by unfold ErrLaid; kernel_rfl⟩

set_option maxRecDepth 100000 in
theorem walk_of {H : Type} {enc : TypeId × Value → H} {base : Nat} {v0 v1 : Value} {d0 d1 : DataW H} {p0 p1 : List MemPlace} (W : World) (hL : laidMetH Tryz.prog Rows.journalActsRow.laid W) (hS : W.ShapedOpen Tryz.prog)
    (o0 : Value.okWide Tryz.prog W .any base 9 v0) (h0 : DataW.Trod enc Tryz.prog W 0 (fun _ => true) true 9 v0 d0 p0)
    (o1 : Value.okWide Tryz.prog W .any base 46 v1) (h1 : DataW.Trod enc Tryz.prog W 0 (fun _ => true) true 46 v1 d1 p1)
    : Calls Tryz.prog 5 #[v0, v1] W fun e w' => e = .returned (.bool true) ∧ Below W.heap.size W w' := by
  obtain ⟨s0, rfl, _, _, ws0⟩ := Go.ChangeMaps.open_string Tryz.underlying9 o0 h0
  obtain ⟨A1, n1, c1, L1, rfl, e1, g1, cm1, pw1⟩ := open_dacts o1 h1
  obtain ⟨a, hE⟩ := errs_of_laid hL laidErrs
  have hT := typeVar_of_laid hL (by simp [Rows.journalActsRow])
  have hG : Gd (flagsOf [1, 2, 3, 4, 5, 6, 7, 8, 9, 10, 11, 12, 20, 21, 22, 23]) a W := {
    errs := fun k h1 h2 hf => hE k (by simp [flagsOf] at hf; simp; omega)
    tv := fun _ => hT
    tab := fun _ => tab_of_laid hL (by kernel_rfl)
    syn := fun _ => syn_of_laid hL (by kernel_rfl)
    rng := fun _ => rng_of_laid hL (by kernel_rfl)
    len := fun _ => len_of_shaped hS
    db := fun _ => db_of_laid hL (by kernel_rfl)
  }
  exact journalActs.walk a s0 A1 n1 c1 L1 W hG (fun k h1 h2 => by simp [flagsOf]; omega) (by decide) (by decide) (by decide) (by decide) g1 pw1

def greatNames : List String := ["unicode/utf8.first"]
def plainLaid : List (String × DataW Unit) := Rows.journalActsRow.laid.filter fun x => x.2.handleName?.isNone
def smallLaid : List (String × DataW Unit) := plainLaid.filter fun x => !greatNames.contains x.1
noncomputable def great (os : Os) : World := (World.doorLaid Tryz.prog 400 os).layVars Tryz.prog (plainLaid.filter fun x => greatNames.contains x.1)
theorem great_os (os : Os) : (great os).os = os := World.layVars_os _ _ _
noncomputable def smallBlocks (os : Os) : List Nat := ((DataW.laidRun Tryz.prog (World.doorLaid Tryz.prog 400 os) 8 (smallLaid.map (·.1))).map fun x => x.2.map (·.block)).getD []
theorem great_met (os : Os) : laidMet Tryz.prog plainLaid (great os) :=
  laidMet_layVars (w0 := World.doorLaid Tryz.prog 400 os) greatNames (smallBlocks os) rfl (by kernel_rfl) (by kernel_rfl)
    (LaidIn.of_run (smallBlocks os) 8 (by kernel_rfl) (by kernel_rfl) (by kernel_rfl) (by kernel_rfl))
theorem door_met (os : Os) (args : Array Value) : laidMetH Tryz.prog Rows.journalActsRow.laid ((great os).forCall (fun _ _ => 0) ⟨#[], args, []⟩).memory :=
  laidMetH_of_parts3 (fuel := 8) ((great_met os).of_heap (by simp [World.memory, World.forCall, Input.heap])) (by kernel_rfl) (by kernel_rfl)

set_option maxRecDepth 100000 in
theorem lifted (os : Os) (started : os.Started) (H : Type) (enc : TypeId × Value → H) :
    ReturnsInHanded {} Tryz.checked os 5 .any (fun w args => (Rows.journalActsSpec.pre enc Tryz.prog Tryz.f5 [] false w args ∧ laidMetH Tryz.prog Rows.journalActsRow.laid w) ∧ sizedMet enc Tryz.prog Tryz.f5 (OpenSpec.ofChange Rows.journalActsSpec) false w args)
      (Rows.journalActsSpec.post enc Tryz.prog Tryz.f5 false true false false) := by
  refine returns_shaped (C := Tryz.checked) (l := Rows.journalActsRow.laid) own started (by kernel_rfl) Tryz.func5
    (ChangeSpec.witness_shaped (enc := enc) (C := Tryz.checked) (os := os) (X := fun w _ => laidMetH Tryz.prog Rows.journalActsRow.laid w) false (great os) #[.string ⟨#[]⟩, .slice none 0 0] 8 (great_os os) (World.shaped_of_ZipB (by kernel_rfl) (by kernel_rfl)) (by kernel_rfl) (by kernel_rfl) (by kernel_rfl) (door_met os _)) ?_
  intro W base args ds gs before hval0 hW hL hS
  have hval : ∀ (j : Nat) t v, Tryz.f5.params[j]? = some t → args[j]? = some v → Value.okWide Tryz.prog W .any base t v := hval0
  have hW' := hW
  obtain ⟨p, q, hA0, hV, rfl, hfz, hnd⟩ := hW
  have hA : DataW.TrodAll enc Tryz.prog W 0 (fun _ => true) true Tryz.f5.params.toList args.toList ds p := hA0
  rw [Tryz.params5] at hA hval
  obtain ⟨v0, vs0, d0, ds0, p0, q0, hargs, rfl, rfl, h0, r0⟩ := trodAll_cons hA
  obtain ⟨v1, vs1, d1, ds1, p1, q1, rfl, rfl, rfl, h1, r1⟩ := trodAll_cons r0
  obtain ⟨rfl, rfl, rfl⟩ := trodAll_nil r1
  obtain rfl : args = #[v0, v1] := by cases args; simp_all
  obtain ⟨rfl, rfl⟩ := trodVars_none hV
  have k0 := h0
  have lt0 : ∀ x ∈ p0, x.block < W.heap.size := by obtain ⟨m, hm⟩ := k0; exact DataW.trod_lt m _ _ _ hm
  have k1 := h1
  have lt1 : ∀ x ∈ p1, x.block < W.heap.size := by obtain ⟨m, hm⟩ := k1; exact DataW.trod_lt m _ _ _ hm
  have hwalk := walk_of W (by exact hL) hS (hval 0 9 v0 rfl rfl) h0 (hval 1 46 v1 rfl rfl) h1
  clear hA0 hval0
  refine hwalk.mono fun e W' ⟨he, bel⟩ => ?_
  subst he
  exact ⟨_, rfl, _, _, _, [], _, [], hW', trodAll_mk1 (shut_bool Tryz.underlying4 _), (trodAll_cons_mk (Below.trod laidOut (by kernel_rfl) (of_decide_eq_true (by kernel_rfl)) k0 bel lt0) (trodAll_cons_mk (Below.trod laidOut (by kernel_rfl) (of_decide_eq_true (by kernel_rfl)) k1 bel lt1) trodAll_mk0)), rfl, bel.frame _, fun h => by cases h⟩

theorem said : Rows.JournalActsSaid :=
  OpenClaim.holds_of_wide 5 Tryz.f5 rfl rfl rfl rfl rfl rfl rfl ⟨rfl, rfl, rfl, rfl, rfl⟩ rfl rfl rfl rfl rfl (by kernel_rfl) Tryz.func5 (by kernel_rfl)
    (of_decide_eq_true (by kernel_rfl)) (by unfold Func.isWrapper; first | (rw [if_pos (by decide +kernel)]; kernel_rfl) | (rw [if_neg (by decide +kernel)]; exact ⟨rfl, rfl⟩))
    (fun os started H enc _ => lifted os started H enc)

theorem proved : Rows.JournalActsCardSaid :=
  Claim7.holds_tied_plain_at .later [] [.data, .data, .data, .data, .handle, .sentinel, .sentinel, .sentinel, .sentinel, .sentinel, .sentinel, .sentinel, .sentinel, .sentinel, .sentinel, .sentinel, .sentinel, .sentinel, .sentinel, .pinned] true (true, "1d537d3478ee3ca3c1cdd3afce6f36d88599412bf29f072523e5e5c9534e1ceb") true
    said (fun _ h => by cases h) (by kernel_rfl) (fun _ h => by cases h) journalActs_row_tie rfl ⟨rfl, rfl⟩ (by kernel_rfl) rfl
    (fun f fn hf hfn => by
      obtain rfl : f = 5 := Option.some.inj ((show Tryz.prog.funcNamed "concordat/concordatlaw2.JournalActs" = some 5 by kernel_rfl).symm.trans hf) |>.symm
      obtain rfl : fn = Tryz.f5 := (Option.some.inj (Tryz.func5.symm.trans hfn)).symm
      exact ⟨by kernel_rfl, fun j t ht => by
        rw [Tryz.params5] at ht
        have hm : t ∈ [46, 9] := by have := Array.mem_of_getElem? ht; simp at this; first | (simp [this]; done) | (rcases this with h | h <;> simp [h]; done) | (rcases this with h | h | h <;> simp [h])
        have hall : ([46, 9].all fun u => !Tryz.prog.wantsStandIn u) = true := by kernel_rfl
        exact (show Tryz.prog.wantsStandIn t = false by simpa using List.all_eq_true.1 hall t hm)⟩)
    (by kernel_rfl)
end journalActs
end Go.Proofs.YtbncfpljiihmnaaGreatDoor
