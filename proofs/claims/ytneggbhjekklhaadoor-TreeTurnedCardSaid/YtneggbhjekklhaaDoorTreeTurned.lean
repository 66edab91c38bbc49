/- TreeTurned is proved: in whatever order moves come, each once, the tree is the same, and nothing lies inside itself. No condition but the card's own (the listed variables as the program's text lays them). -/
import Derived.Test.YtneggbhjekklhaaDoorTreeTurnedW
import Derived.Test.YtneggbhjekklhaaDoorRowAt
import Derived.Test.YtneggbhjekklhaaDoorOpenR
import Derived.Test.YtneggbhjekklhaaDoorLift
namespace Go.Proofs.YtneggbhjekklhaaDoor
open Go Go.ChangeShapes Go.WideShapes Go.ChangeAt Go.RowKit
namespace treeTurned
set_option linter.unusedVariables false
set_option linter.unusedSimpArgs false
set_option maxHeartbeats 2000000

theorem laidErrs : ∀ k ∈ [2, 3, 4, 5, 7], ErrVarOk k ∧ ErrLaid Rows.treeTurnedRow.laid k := by
  intro k hk
  simp only [List.mem_cons, List.not_mem_nil, or_false] at hk
  rcases hk with rfl | rfl | rfl | rfl | rfl
  · exact ⟨errVar2, by unfold ErrLaid; kernel_rfl⟩
  · exact ⟨errVar3, by unfold ErrLaid; kernel_rfl⟩
  · exact ⟨errVar4, by unfold ErrLaid; kernel_rfl⟩
  · exact ⟨errVar5, by unfold ErrLaid; kernel_rfl⟩
  · exact ⟨errVar7, by unfold ErrLaid; kernel_rfl⟩

set_option maxRecDepth 100000 in
theorem walk_of {H : Type} {enc : TypeId × Value → H} {base : Nat} {v0 v1 : Value} {d0 d1 : DataW H} {p0 p1 : List MemPlace} (W : World) (hL : laidMetH Tryd.prog Rows.treeTurnedRow.laid W)
    (o0 : Value.okWide Tryd.prog W .any base 22 v0) (h0 : DataW.Trod enc Tryd.prog W 0 (fun _ => true) true 22 v0 d0 p0)
    (o1 : Value.okWide Tryd.prog W .any base 44 v1) (h1 : DataW.Trod enc Tryd.prog W 0 (fun _ => true) true 44 v1 d1 p1)
    : Calls Tryd.prog 5 #[v0, v1] W fun e w' => e = .returned (.bool true) ∧ Below W.heap.size W w' := by
  obtain ⟨A0, n0, c0, L0, rfl, e0, g0, cm0, pw0⟩ := open_opsP o0 h0
  obtain ⟨A1, n1, c1, xs1, rfl, e1, g1, cm1⟩ := open_intsR o1 h1
  obtain ⟨a, hE⟩ := errs_of_laid hL laidErrs
  have hG : Gd (flagsOf [2, 3, 4, 5, 7]) a W := {
    errs := fun k h1 h2 hf => hE k (by simp [flagsOf] at hf; simp; omega)
    tv := fun hf => absurd hf (by decide)
    tab := fun hf => absurd hf (by decide)
    syn := fun hf => absurd hf (by decide)
    rng := fun hf => absurd hf (by decide)
    len := fun hf => absurd hf (by decide)
    db := fun hf => absurd hf (by decide)
  }
  exact treeTurned.walk a A0 A1 n0 c0 n1 c1 L0 xs1 W hG (by decide) (by decide) (by decide) (by decide) (by decide) g0 cm0 pw0 e1 g1

theorem door_met (os : Os) (args : Array Value) : laidMetH Tryd.prog Rows.treeTurnedRow.laid ((World.doorLaid Tryd.prog 400 os).forCall (fun _ _ => 0) ⟨#[], args, []⟩).memory :=
  laidMetH_of_parts3 (fuel := 8) (laidMet_of_run' 8 (by kernel_rfl) (by kernel_rfl)) (by kernel_rfl) (by kernel_rfl)

set_option maxRecDepth 100000 in
theorem lifted (os : Os) (started : os.Started) (H : Type) (enc : TypeId × Value → H) :
    ReturnsInHanded {} Tryd.checked os 5 .any (fun w args => (Rows.treeTurnedSpec.pre enc Tryd.prog Tryd.f5 [] false w args ∧ laidMetH Tryd.prog Rows.treeTurnedRow.laid w) ∧ sizedMet enc Tryd.prog Tryd.f5 (OpenSpec.ofChange Rows.treeTurnedSpec) false w args)
      (Rows.treeTurnedSpec.post enc Tryd.prog Tryd.f5 false true false false) := by
  refine returnsInHanded_of_change_and (C := Tryd.checked) (X := fun w _ => laidMetH Tryd.prog Rows.treeTurnedRow.laid w) (fun _ _ _ hh h => h.of_heap hh) own started (by kernel_rfl) Tryd.func5
    (ChangeSpec.witness_shaped (enc := enc) (C := Tryd.checked) (os := os) (X := fun w _ => laidMetH Tryd.prog Rows.treeTurnedRow.laid w) false (World.doorLaid Tryd.prog 400 os) #[.slice none 0 0, .slice none 0 0] 8 rfl (World.shaped_of_RefB (by kernel_rfl) (by kernel_rfl)) (by kernel_rfl) (by kernel_rfl) (by kernel_rfl) (door_met os _)) ?_
  intro W base args ds gs before hval0 hW _ _ hL hsz0
  have hval : ∀ (j : Nat) t v, Tryd.f5.params[j]? = some t → args[j]? = some v → Value.okWide Tryd.prog W .any base t v := hval0
  have hW' := hW
  obtain ⟨p, q, hA0, hV, rfl, hfz, hnd⟩ := hW
  have hA : DataW.TrodAll enc Tryd.prog W 0 (fun _ => true) true Tryd.f5.params.toList args.toList ds p := hA0
  rw [Tryd.params5] at hA hval
  obtain ⟨v0, vs0, d0, ds0, p0, q0, hargs, rfl, rfl, h0, r0⟩ := trodAll_cons hA
  obtain ⟨v1, vs1, d1, ds1, p1, q1, rfl, rfl, rfl, h1, r1⟩ := trodAll_cons r0
  obtain ⟨rfl, rfl, rfl⟩ := trodAll_nil r1
  obtain rfl : args = #[v0, v1] := by cases args; simp_all
  obtain ⟨rfl, rfl⟩ := trodVars_none hV
  have k0 := h0
  have lt0 : ∀ x ∈ p0, x.block < W.heap.size := by obtain ⟨m, hm⟩ := k0; exact DataW.trod_lt m _ _ _ hm
  have k1 := h1
  have lt1 : ∀ x ∈ p1, x.block < W.heap.size := by obtain ⟨m, hm⟩ := k1; exact DataW.trod_lt m _ _ _ hm
  have hwalk := walk_of W (by exact hL) (hval 0 22 v0 rfl rfl) h0 (hval 1 44 v1 rfl rfl) h1
  clear hA0 hval0
  refine hwalk.mono fun e W' ⟨he, bel⟩ => ?_
  subst he
  exact ⟨_, rfl, _, _, _, [], _, [], hW', trodAll_mk1 (shut_bool Tryd.underlying4 _), (trodAll_cons_mk (Below.trod laidOut (by kernel_rfl) (of_decide_eq_true (by kernel_rfl)) k0 bel lt0) (trodAll_cons_mk (Below.trod laidOut (by kernel_rfl) (of_decide_eq_true (by kernel_rfl)) k1 bel lt1) trodAll_mk0)), rfl, bel.frame _, fun h => by cases h⟩

theorem said : Rows.TreeTurnedSaid :=
  OpenClaim.holds_of_wide 5 Tryd.f5 rfl rfl rfl rfl rfl rfl rfl ⟨rfl, rfl, rfl, rfl, rfl⟩ rfl rfl rfl rfl rfl (by kernel_rfl) Tryd.func5 (by kernel_rfl)
    (of_decide_eq_true (by kernel_rfl)) (by unfold Func.isWrapper; first | (rw [if_pos (by decide +kernel)]; kernel_rfl) | (rw [if_neg (by decide +kernel)]; exact ⟨rfl, rfl⟩))
    (fun os started H enc _ => lifted os started H enc)

theorem proved : Rows.TreeTurnedCardSaid :=
  Claim7.holds_tied_plain_at .later [] [.sentinel, .sentinel, .sentinel, .sentinel, .sentinel] true (true, "6e29d95bac3fdacb118784485abf5e4fadd2bc2676959162460873488ce902f2") true
    said (fun _ h => by cases h) (by kernel_rfl) (fun _ h => by cases h) treeTurned_row_tie rfl ⟨rfl, rfl⟩ (by kernel_rfl) rfl
    (fun f fn hf hfn => by
      obtain rfl : f = 5 := Option.some.inj ((show Tryd.prog.funcNamed "concordat/concordatlaw1.TreeTurned" = some 5 by kernel_rfl).symm.trans hf) |>.symm
      obtain rfl : fn = Tryd.f5 := (Option.some.inj (Tryd.func5.symm.trans hfn)).symm
      exact ⟨by kernel_rfl, fun j t ht => by
        rw [Tryd.params5] at ht
        have hm : t ∈ [22, 44] := by have := Array.mem_of_getElem? ht; simp at this; first | (simp [this]; done) | (rcases this with h | h <;> simp [h]; done) | (rcases this with h | h | h <;> simp [h])
        have hall : ([22, 44].all fun u => !Tryd.prog.wantsStandIn u) = true := by kernel_rfl
        exact (show Tryd.prog.wantsStandIn t = false by simpa using List.all_eq_true.1 hall t hm)⟩)
    (by kernel_rfl)
end treeTurned
end Go.Proofs.YtneggbhjekklhaaDoor
