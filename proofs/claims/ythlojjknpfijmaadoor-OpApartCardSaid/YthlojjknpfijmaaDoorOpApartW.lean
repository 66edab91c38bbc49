/- OpApart: the walk. -/
import Derived.Test.YthlojjknpfijmaaDoorOpEq
namespace Go.Proofs.YthlojjknpfijmaaDoor
open Go Go.RowKit
namespace opApart
set_option linter.unusedVariables false
set_option linter.unusedSimpArgs false
set_option maxHeartbeats 8000000
set_option maxRecDepth 100000

/-- the two operations in their blocks, the ground -/
structure Ow (F : Nat → Bool) (ea : Nat → Addr) (w0 : World) (a b : OpT) (w : World) : Prop where
  oa : OpAt w w0.heap.size a
  ob : OpAt w (w0.heap.size + 1) b
  gd : Gd F ea w
  bel : Below w0.heap.size w0 w
theorem Ow.below {F : Nat → Bool} {ea : Nat → Addr} {w0 w w' : World} {a b : OpT} (h : Ow F ea w0 a b w) (hb : Below w.heap.size w w') : Ow F ea w0 a b w' :=
  ⟨h.oa.below hb, h.ob.below hb, h.gd.below hb, h.bel.trans (hb.mono h.bel.size)⟩
theorem Ow.start {F : Nat → Bool} {ea : Nat → Addr} (w : World) (a b : OpT) (t : TypeId) (hG : Gd F ea w) : Ow F ea w a b ((w.alloc (.cells a.cells t)).alloc (.cells b.cells t)) :=
  ⟨(OpAt.start w a t).below ((Below.refl _ _).alloc (Nat.le_refl _) _), by have := OpAt.start (w.alloc (.cells a.cells t)) b t; simpa using this, (hG.alloc _).alloc _, ((Below.refl _ _).alloc (Nat.le_refl _) _).alloc (by simp) _⟩

theorem walk_off {F : Nat → Bool} (ea : Nat → Addr) (a b : OpT) (w : World) (hG : Gd F ea w) (f2 : F 2 = true) (f3 : F 3 = true) (f4 : F 4 = true) (f5 : F 5 = true) (f21 : F 21 = true)
    (hoff : 60 < a.nm.size ∨ (a.nm.size ≤ 60 ∧ 60 < a.vl.size) ∨ (a.nm.size ≤ 60 ∧ a.vl.size ≤ 60 ∧ 60 < b.nm.size) ∨ (a.nm.size ≤ 60 ∧ a.vl.size ≤ 60 ∧ b.nm.size ≤ 60 ∧ 60 < b.vl.size)) :
    Calls Tryd.prog 12 #[opV a, opV b] w fun r w' => r = .returned (.bool true) ∧ Below w.heap.size w w' := by
  have HO := Lib.hid (Ow.start w a b 61 hG)
  clear hG
  rcases hoff with h1 | ⟨h1, h2⟩ | ⟨h1, h2, h3⟩ | ⟨h1, h2, h3, h4⟩
  all_goals
    go_enter Tryd.func12, Tryd.ntmps12
    go_wp2_with fail
    refine (written_any ea _ HO.out.gd f2 f3 f4 f5 f21).mono ?_
    rintro r w1 ⟨rfl, hb⟩
    have hO := HO.out.below hb
    have HB := Lib.hid hO.bel
    obtain ⟨c0, c1, c2, c3, c4, c5, c6, c7⟩ := hO.oa
    obtain ⟨d0, d1, d2, d3, d4, d5, d6, d7⟩ := hO.ob
    clear hO hb HO
    go_wp2_with fail
    go_ret
    exact ⟨by simp, HB.out⟩

theorem text_eq {a b : OpT} (ha : opErr a = 0) (hb : opErr b = 0) (h : opTextL a = opTextL b) : a = b := by
  have h1 := op_back ha
  rw [h, op_back hb] at h1
  injection h1 with h1 h2
  exact h1.symm

theorem walk_on {F : Nat → Bool} (ea : Nat → Addr) (a b : OpT) (w : World) (hG : Gd F ea w) (f1 : F 1 = true) (f2 : F 2 = true) (f3 : F 3 = true) (f4 : F 4 = true) (f5 : F 5 = true) (f21 : F 21 = true) (f22 : F 22 = true)
    (h1 : a.nm.size ≤ 60) (h2 : a.vl.size ≤ 60) (h3 : b.nm.size ≤ 60) (h4 : b.vl.size ≤ 60) (wa : a.Wf) (wb : b.Wf) :
    Calls Tryd.prog 12 #[opV a, opV b] w fun r w' => r = .returned (.bool true) ∧ Below w.heap.size w w' := by
  have HO := Lib.hid (Ow.start w a b 61 hG)
  have hok : ∀ o : OpT, o.Wf → opErr o = 0 → ∀ w, Gd F ea w → Calls Tryd.prog 54 #[opV o] w fun e w' => e = .returned (.tuple #[.string (S (opTextL o)), .nilIface]) ∧ Below w.heap.size w w' := fun o ho he w hG => opText_ok ea o w ho hG f2 f3 f4 f5 f21 he
  have hbad : ∀ o : OpT, o.Wf → opErr o ≠ 0 → ∃ k, ∀ w, Gd F ea w → Calls Tryd.prog 54 #[opV o] w fun e w' => e = .returned (.tuple #[.string ⟨#[]⟩, errV (ea k)]) ∧ Below w.heap.size w w' := fun o ho he => ⟨opErr o, fun w hG => by
    have := opText_bad ea o w ho hG f2 f3 f4 f5 he
    unfold errW at this
    rwa [if_neg he] at this⟩
  clear hG
  by_cases ea0 : opErr a = 0
  · have HA := Lib.hid (hok a wa ea0)
    by_cases eb0 : opErr b = 0
    · have HB := Lib.hid (hok b wb eb0)
      have hsz : (S (opTextL a)).size ≤ 1000 := by
        rw [S_size, opTextL]
        have l1 := itoa_len20 a.t wa.t1 wa.t2
        have l2 := itoa_len20 a.b wa.b1 wa.b2
        have l3 := itoa_len20 a.n wa.n1 wa.n2
        have l4 := itoa_len20 a.nd wa.nd1 wa.nd2
        have l5 := itoa_len20 a.ot wa.ot1 wa.ot2
        rw [S_size] at l1 l2 l3 l4 l5
        have l6 : a.nm.data.toList.length ≤ 60 := h1
        have l7 : a.vl.data.toList.length ≤ 60 := h2
        have l8 := hexL_len a.vl.data.toList
        have l9 : a.nm.data.size ≤ 60 := h1
        simp only [opWords, Lib.join, List.intercalate, List.intersperse, List.flatten, List.length_append, List.length_cons, List.length_nil]
        simp
        omega
      have HR : Hid (∀ w, Gd F ea w → Calls Tryd.prog 55 #[.string (S (opTextL a))] w fun e w' => e = .returned (.tuple #[opV a, .nilIface]) ∧ Below w.heap.size w w') := Lib.hid fun w hG => by
        have := opRead_any ea (S (opTextL a)) w hG f1 f2 f3 f4 f5 f21 f22 hsz
        unfold RdOp at this
        rw [S_list, op_back ea0] at this
        exact this
      have HE := Lib.hid (fun w => (eqOp_run a a w).trans (by rw [opEqB_refl]))
      obtain ⟨x, hx⟩ : ∃ x, x = decide (opTextL a = opTextL b) := ⟨_, rfl⟩
      have HS : Hid (((S (opTextL a)).toList == (S (opTextL b)).toList) = x) := by
        rw [str_eq, hx]
        refine Lib.hid ?_
        rw [decide_eq_decide]
        exact ⟨fun h => S_inj h, fun h => by rw [h]⟩
      have HE2 : Hid (∀ w, (Op.equalIn 10000 61 (opV a) (opV b)).run Tryd.prog w = .ok x w) := Lib.hid fun w => by
        rw [eqOp_run, hx]
        congr 1
        rw [Bool.eq_iff_iff, opEqB_iff, decide_eq_true_eq]
        exact ⟨fun h => by rw [h], fun h => text_eq ea0 eb0 h⟩
      clear hok hbad ea0 eb0 wa wb hsz hx
      go_enter Tryd.func12, Tryd.ntmps12
      go_wp2_with fail
      refine (written_any ea _ HO.out.gd f2 f3 f4 f5 f21).mono ?_
      rintro r w1 ⟨rfl, hb⟩
      have hO := HO.out.below hb
      have HO1 := Lib.hid hO
      obtain ⟨c0, c1, c2, c3, c4, c5, c6, c7⟩ := hO.oa
      obtain ⟨d0, d1, d2, d3, d4, d5, d6, d7⟩ := hO.ob
      clear hO hb HO
      go_wp2_with fail
      refine (HA.out _ HO1.out.gd).mono ?_
      rintro r w2 ⟨rfl, hb⟩
      have hO := HO1.out.below hb
      have HO2 := Lib.hid hO
      clear c0 c1 c2 c3 c4 c5 c6 c7 d0 d1 d2 d3 d4 d5 d6 d7
      obtain ⟨c0, c1, c2, c3, c4, c5, c6, c7⟩ := hO.oa
      obtain ⟨d0, d1, d2, d3, d4, d5, d6, d7⟩ := hO.ob
      clear hO hb HO1
      go_wp2_with fail
      refine (HB.out _ HO2.out.gd).mono ?_
      rintro r w3 ⟨rfl, hb⟩
      have HO3 := Lib.hid (HO2.out.below hb)
      clear c0 c1 c2 c3 c4 c5 c6 c7 d0 d1 d2 d3 d4 d5 d6 d7 hb HO2
      go_wp2_with fail
      refine (HR.out _ HO3.out.gd).mono ?_
      rintro r w4 ⟨rfl, hb⟩
      have hO := HO3.out.below hb
      have HO4 := Lib.hid hO
      obtain ⟨c0, c1, c2, c3, c4, c5, c6, c7⟩ := hO.oa
      obtain ⟨d0, d1, d2, d3, d4, d5, d6, d7⟩ := hO.ob
      have hlt1 := hO.oa.lt
      have hlt2 := hO.ob.lt
      have hs := HS.out
      have he := HE.out
      have he2 := HE2.out
      clear hO hb HO3
      go_wp2_with fail
      go_ret
      exact ⟨by simp, HO4.out.bel.alloc HO4.out.bel.size _⟩
    · obtain ⟨k, hk⟩ := hbad b wb eb0
      have HB := Lib.hid hk
      clear hok hbad ea0 eb0 wa wb hk
      go_enter Tryd.func12, Tryd.ntmps12
      go_wp2_with fail
      refine (written_any ea _ HO.out.gd f2 f3 f4 f5 f21).mono ?_
      rintro r w1 ⟨rfl, hb⟩
      have hO := HO.out.below hb
      have HO1 := Lib.hid hO
      obtain ⟨c0, c1, c2, c3, c4, c5, c6, c7⟩ := hO.oa
      obtain ⟨d0, d1, d2, d3, d4, d5, d6, d7⟩ := hO.ob
      clear hO hb HO
      go_wp2_with fail
      refine (HA.out _ HO1.out.gd).mono ?_
      rintro r w2 ⟨rfl, hb⟩
      have hO := HO1.out.below hb
      have HO2 := Lib.hid hO
      clear c0 c1 c2 c3 c4 c5 c6 c7 d0 d1 d2 d3 d4 d5 d6 d7
      obtain ⟨c0, c1, c2, c3, c4, c5, c6, c7⟩ := hO.oa
      obtain ⟨d0, d1, d2, d3, d4, d5, d6, d7⟩ := hO.ob
      clear hO hb HO1
      go_wp2_with fail
      refine (HB.out _ HO2.out.gd).mono ?_
      rintro r w3 ⟨rfl, hb⟩
      have HO3 := Lib.hid (HO2.out.below hb)
      clear c0 c1 c2 c3 c4 c5 c6 c7 d0 d1 d2 d3 d4 d5 d6 d7 hb HO2
      go_wp2_with fail
      go_ret
      exact ⟨by simp, HO3.out.bel⟩
  · obtain ⟨k, hk⟩ := hbad a wa ea0
    have HA := Lib.hid hk
    obtain ⟨t, v, ht⟩ : ∃ t v, ∀ w, Gd F ea w → Calls Tryd.prog 54 #[opV b] w fun e w' => e = .returned (.tuple #[.string t, v]) ∧ Below w.heap.size w w' := by
      by_cases eb0 : opErr b = 0
      · exact ⟨_, _, hok b wb eb0⟩
      · obtain ⟨k, hk⟩ := hbad b wb eb0
        exact ⟨_, _, hk⟩
    have HB := Lib.hid ht
    clear hok hbad ea0 wa wb hk ht
    go_enter Tryd.func12, Tryd.ntmps12
    go_wp2_with fail
    refine (written_any ea _ HO.out.gd f2 f3 f4 f5 f21).mono ?_
    rintro r w1 ⟨rfl, hb⟩
    have hO := HO.out.below hb
    have HO1 := Lib.hid hO
    obtain ⟨c0, c1, c2, c3, c4, c5, c6, c7⟩ := hO.oa
    obtain ⟨d0, d1, d2, d3, d4, d5, d6, d7⟩ := hO.ob
    clear hO hb HO
    go_wp2_with fail
    refine (HA.out _ HO1.out.gd).mono ?_
    rintro r w2 ⟨rfl, hb⟩
    have hO := HO1.out.below hb
    have HO2 := Lib.hid hO
    clear c0 c1 c2 c3 c4 c5 c6 c7 d0 d1 d2 d3 d4 d5 d6 d7
    obtain ⟨c0, c1, c2, c3, c4, c5, c6, c7⟩ := hO.oa
    obtain ⟨d0, d1, d2, d3, d4, d5, d6, d7⟩ := hO.ob
    clear hO hb HO1
    go_wp2_with fail
    refine (HB.out _ HO2.out.gd).mono ?_
    rintro r w3 ⟨rfl, hb⟩
    have HO3 := Lib.hid (HO2.out.below hb)
    clear c0 c1 c2 c3 c4 c5 c6 c7 d0 d1 d2 d3 d4 d5 d6 d7 hb HO2
    go_wp2_with fail
    go_ret
    exact ⟨by simp, HO3.out.bel⟩

theorem walk {F : Nat → Bool} (ea : Nat → Addr) (a b : OpT) (w : World) (hG : Gd F ea w) (f1 : F 1 = true) (f2 : F 2 = true) (f3 : F 3 = true) (f4 : F 4 = true) (f5 : F 5 = true) (f21 : F 21 = true) (f22 : F 22 = true)
    (wa : a.nm.size ≤ 1000 → a.vl.size ≤ 1000 → a.Wf) (wb : b.nm.size ≤ 1000 → b.vl.size ≤ 1000 → b.Wf) :
    Calls Tryd.prog 12 #[opV a, opV b] w fun r w' => r = .returned (.bool true) ∧ Below w.heap.size w w' := by
  by_cases h : a.nm.size ≤ 60 ∧ a.vl.size ≤ 60 ∧ b.nm.size ≤ 60 ∧ b.vl.size ≤ 60
  · obtain ⟨h1, h2, h3, h4⟩ := h
    exact walk_on ea a b w hG f1 f2 f3 f4 f5 f21 f22 h1 h2 h3 h4 (wa (by omega) (by omega)) (wb (by omega) (by omega))
  · exact walk_off ea a b w hG f2 f3 f4 f5 f21 (by omega)
end opApart
end Go.Proofs.YthlojjknpfijmaaDoor
