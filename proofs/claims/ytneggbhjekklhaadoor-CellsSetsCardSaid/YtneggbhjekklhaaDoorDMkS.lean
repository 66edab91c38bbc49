/- The document's marks: set by an operation; held against the program's. -/
import Derived.Test.YtneggbhjekklhaaDoorDMkW
import Derived.Test.YtneggbhjekklhaaDoorOps2
namespace Go.Proofs.YtneggbhjekklhaaDoor
open Go Go.RowKit Go.Maps
set_option linter.unusedVariables false
set_option linter.unusedSimpArgs false
set_option maxHeartbeats 4000000
set_option maxRecDepth 100000

def mkOf (o : OpT) : DMk := ⟨o.nd, o.nm, o.vl, o.t, o.b⟩
/-- how a mark's setting ends -/
def DSEnds (base MB : Nat) (v : Value) (L : List DMk) (m : MapC) (o : OpT) (w : World) (e : Ending) (w' : World) : Prop :=
  ∃ v' L', e = .returned (.tuple #[.bool (setC m o).2.1, .int .i64 ((setC m o).2.2 : Int)]) ∧ Rep L' (setC m o).1 ∧ L'.length ≤ L.length + 1 ∧ DSt base MB v' L' w' ∧ Fr (Own MB v) w w' ∧ ∀ k, v'.ownBlock = some k → v.ownBlock = some k ∨ w.heap.size ≤ k
theorem dset_any (base MB : Nat) (v : Value) (L : List DMk) (m : MapC) (o : OpT) (w : World) (hw : o.Wf) (hb : base ≤ w.heap.size) (hn : L.length ≤ 1000) (h : DSt base MB v L w) (hR : Rep L m) :
    Calls Tryd.prog 26 #[.pointer (some ⟨MB, 0, none⟩), opV o] w (DSEnds base MB v L m o w) := by
  have HC : Hid (∀ w, Calls Tryd.prog 21 #[opV o] w fun e w' => e = .returned (.int .i64 (opErr o)) ∧ Below w.heap.size w w') := Lib.hid fun w => opError_any o w hw
  have HS := Lib.hid h
  have HRp := Lib.hid hR
  by_cases he : opErr o ≠ 0
  · have HSt : Hid (setC m o = (m, false, opErr o)) := Lib.hid (by rw [setC, if_pos he])
    obtain ⟨k, hk⟩ : ∃ k, opErr o = k := ⟨_, rfl⟩
    rw [hk] at HC HSt he
    have hkp : (0 : Int) < (k : Int) := by omega
    have hk0 : ((k : Int) == 0) = false := by simp; omega
    clear h hR hw hk he
    go_enter Tryd.func26, Tryd.ntmps26
    go_wp2_with fail
    refine (HC.out _).mono ?_
    rintro e w1 ⟨rfl, hb1⟩
    have HB := Lib.hid (((Below.refl w.heap.size w).alloc (Nat.le_refl _) (.cells o.cells 28)).trans (hb1.mono (by simp)))
    clear hb1
    go_wp2_with fail
    go_ret2
    exact ⟨v, L, by rw [HSt.out]; rfl, by rw [HSt.out]; exact HRp.out, by omega, HS.out.below HB.out, Fr.of_below HB.out, fun k hk => .inl hk⟩
  · have he0 : opErr o = 0 := by omega
    rw [he0] at HC
    have hk1 := hw.k1
    have hk2 := hw.k2
    have HKo := Lib.hid (keyOk_op hw)
    by_cases hk : o.k ≠ 115
    · have HSt : Hid (setC m o = (m, false, 5)) := Lib.hid (by rw [setC, if_neg he, if_pos hk])
      have hkb : (o.k != 115) = true := by simpa using hk
      clear h hR hw hk he he0
      go_enter Tryd.func26, Tryd.ntmps26
      go_wp2_with fail
      refine (HC.out _).mono ?_
      rintro e w1 ⟨rfl, hb1⟩
      obtain ⟨q0, q1, q2, q3, q4, q5, q6, q7⟩ := (OpAt.start w o 28).below hb1
      have HB := Lib.hid (((Below.refl w.heap.size w).alloc (Nat.le_refl _) (.cells o.cells 28)).trans (hb1.mono (by simp)))
      clear hb1
      go_wp2_with fail
      go_ret2
      exact ⟨v, L, by rw [HSt.out]; rfl, by rw [HSt.out]; exact HRp.out, by omega, HS.out.below HB.out, Fr.of_below HB.out, fun k hk => .inl hk⟩
    · have hk0 : o.k = 115 := by omega
      have HSt : Hid (setC m o = ((layC m (mkOf o).key (mkOf o).cell).1, (layC m (mkOf o).key (mkOf o).cell).2, 0)) := Lib.hid (by rw [setC, if_neg he, if_neg hk]; rfl)
      have hkb : (o.k != 115) = false := by simp [hk0]
      clear h hR hw hk he he0 hk0
      go_enter Tryd.func26, Tryd.ntmps26
      go_wp2_with fail
      refine (HC.out _).mono ?_
      rintro e w1 ⟨rfl, hb1⟩
      obtain ⟨q0, q1, q2, q3, q4, q5, q6, q7⟩ := (OpAt.start w o 28).below hb1
      have HB := Lib.hid (((Below.refl w.heap.size w).alloc (Nat.le_refl _) (.cells o.cells 28)).trans (hb1.mono (by simp)))
      have HL := Lib.hid (dlay_any base MB v (mkOf o) L w1 (Nat.le_trans hb HB.out.size) hn (HS.out.below HB.out))
      clear hb1
      go_wp2_with fail
      refine HL.out.mono ?_
      rintro e w2 ⟨v2, L2, is, rfl, hl2, hn2, hS2, hF2, hv2⟩
      have HS2 := Lib.hid hS2
      have HF2 := Lib.hid ((Fr.of_below (X := Own MB v) HB.out).trans hF2)
      have HV2 := Lib.hid hv2
      have HRs := Lib.hid (HRp.out.step hl2 HKo.out)
      have his := HRs.out.2
      subst his
      clear hl2 hS2 hF2 hv2 HL q0 q1 q2 q3 q4 q5 q6 q7
      go_wp2_with fail
      go_ret2
      exact ⟨v2, L2, by rw [HSt.out]; rfl, by rw [HSt.out]; exact HRs.out.1, hn2, HS2.out, HF2.out, fun k hk => (HV2.out k hk).imp id (fun h => Nat.le_trans HB.out.size h)⟩

def mkMark (x : DMk) : MarkT := ⟨x.nd, x.nm, x.vl⟩
theorem fullL_succ {L : List DMk} {i : Nat} {x : DMk} (hx : L[i]? = some x) : fullL (L.take (i + 1)) = if (x.vl.toList == []) = true then fullL (L.take i) else fullL (L.take i) ++ [x] := by
  rw [List.take_add_one, hx, Option.toList_some]
  unfold fullL
  rw [List.filter_append]
  by_cases h : (x.vl.toList == []) = true
  · rw [if_pos h, List.filter_cons, if_neg (by rw [h]; simp), List.filter_nil, List.append_nil]
  · rw [if_neg h, List.filter_cons, if_pos (by rw [(Bool.not_eq_true _).mp h]; rfl), List.filter_nil]
theorem fullL_at {L : List DMk} {i : Nat} {x : DMk} (hx : L[i]? = some x) (h : (x.vl.toList == []) = false) : (fullL L)[(fullL (L.take i)).length]? = some x := by
  have e : fullL L = fullL (L.take i) ++ fullL (L.drop i) := by unfold fullL; rw [← List.filter_append, List.take_append_drop]
  have e2 : fullL (L.drop i) = x :: fullL (L.drop (i + 1)) := by rw [drop_at' hx]; unfold fullL; rw [List.filter_cons, if_pos (by rw [h]; rfl)]
  rw [e, e2, List.getElem?_append_right (Nat.le_refl _), Nat.sub_self]
  rfl
theorem fullL_len (L : List DMk) : (fullL L).length ≤ L.length := List.length_filter_le _ _

theorem sameMarks_any (A : Option Addr) (q c base MB : Nat) (v : Value) (L : List DMk) (w : World) (hn : L.length ≤ 1000) (h : DSt base MB v L w) (hs : SlV markE w (.slice A q c) ((fullL L).map mkMark)) :
    Calls Tryd.prog 28 #[.slice A q c, .pointer (some ⟨MB, 0, none⟩)] w fun e w' => e = .returned (.bool true) ∧ Below w.heap.size w w' := by
  obtain ⟨n, hn1⟩ : ∃ n, n = L.length := ⟨_, rfl⟩
  have HN := Lib.hid hn1
  have HS := Lib.hid hs
  have hq : q = (fullL L).length := by rw [hs.len, List.length_map]
  have HQ := Lib.hid hq
  have hq2 : q ≤ 1000 := by have := fullL_len L; omega
  have hsl := h.own.sl
  obtain ⟨A2, c2, hv, hc2⟩ := hsl.form
  have HD : Hid (DSt base MB (.slice A2 n c2) L w) := Lib.hid (by rw [hn1, ← hv]; exact h)
  have hn2 : n ≤ 1000 := by omega
  clear h hs hsl hv hn hn1 hq hc2
  go_enter Tryd.func28, Tryd.ntmps28
  go_wp2_with fail
  go_loopw [5, 6] (fun v5 v6 wr => ∃ (i j : Nat), i ≤ n ∧ v6 = .int .i64 i ∧ v5 = .int .i64 j ∧ Hid (j = (fullL (L.take i)).length) ∧ Hid (Below w.heap.size w wr)) (fun _ v6 _ => n - (intOf v6).toNat)
  case atStart => exact ⟨0, 0, by omega, rfl, rfl, Lib.hid (by simp [fullL]), Lib.hid (Below.refl _ _)⟩
  case round =>
    obtain ⟨i, j, hi, rfl, rfl, HJ, HB⟩ := hrel
    have HDr := Lib.hid (HD.out.below HB.out)
    have p0 := HDr.out.ptr
    by_cases hlt : i < n
    · obtain ⟨x, hx⟩ : ∃ x, L[i]? = some x := ⟨_, List.getElem?_eq_getElem (by have := HN.out; omega)⟩
      obtain ⟨b, off, rfl, _, cc⟩ := HDr.out.own.sl.at' (by decide) hx
      have c0 := cc 0 (.int .i64 x.nd) rfl
      have c1 := cc 1 (.string x.nm) rfl
      have c3 := cc 2 (.string x.vl) rfl
      rw [show dmkE.k = 5 from rfl] at c0 c1 c3
      rw [Nat.add_zero] at c0
      rw [← Nat.add_assoc] at c1 c3
      have HX := Lib.hid hx
      have i1 : (0 : Int) ≤ (i : Int) := by omega
      have i2 : (i : Int) < (n : Int) := by omega
      clear hx cc
      obtain ⟨tb, htb⟩ : ∃ tb, (x.vl.toList == []) = tb := ⟨_, rfl⟩
      have HTb := Lib.hid htb
      have HSu := Lib.hid (fullL_succ HX.out)
      cases tb with
      | true =>
        have HJ1 : Hid (j = (fullL (L.take (i + 1))).length) := Lib.hid (by rw [HSu.out, if_pos HTb.out]; exact HJ.out)
        go_wp2_with fail
        go_roundw
        case rel => exact ⟨i + 1, j, by omega, by go_num, rfl, HJ1, HB⟩
        case measure => simp [intOf] <;> omega
      | false =>
        have HJ1 : Hid (j + 1 = (fullL (L.take (i + 1))).length) := Lib.hid (by rw [HSu.out, if_neg (by rw [HTb.out]; simp), List.length_append, ← HJ.out]; rfl)
        have hat := fullL_at HX.out HTb.out
        rw [← HJ.out] at hat
        have hjq : j < q := by rw [HQ.out]; exact (List.getElem?_eq_some_iff.1 hat).1
        obtain ⟨b2, o2, rfl, _, dd⟩ := (HS.out.below HB.out).at' (by decide) (i := j) (x := mkMark x) (by rw [List.getElem?_map, hat]; rfl)
        have d0 := dd 0 (.int .i64 x.nd) rfl
        have d1 := dd 1 (.string x.nm) rfl
        have d2 := dd 2 (.string x.vl) rfl
        rw [show markE.k = 3 from rfl] at d0 d1 d2
        rw [Nat.add_zero] at d0
        rw [← Nat.add_assoc] at d1 d2
        have j1 : (0 : Int) ≤ (j : Int) := by omega
        have j2 : (j : Int) < (q : Int) := by omega
        have j3 : decide (q ≤ j) = false := by simp; omega
        have j4 : ¬ (q : Int) ≤ (j : Int) := by omega
        have e1 : (x.nd != x.nd) = false := by simp
        have e2 : (x.nm.toList == x.nm.toList) = true := by simp
        have e3 : (x.vl.toList == x.vl.toList) = true := by simp
        have HBq := Lib.hid (fun nq => below_drawn HB.out nq)
        clear hat dd
        go_wp2_with fail
        go_quiet (fail)
        rename_i nq
        have HB2 := Lib.hid (HBq.out nq)
        go_wp2_with fail
        go_roundw
        case rel => exact ⟨i + 1, j + 1, by omega, by go_num, by go_num, HJ1, HB2⟩
        case measure => simp [intOf] <;> omega
    · have i2 : ¬ (i : Int) < (n : Int) := by omega
      have hjq : j = q := by have := HJ.out; rw [List.take_of_length_le (by have := HN.out; omega)] at this; rw [this, HQ.out]
      subst hjq
      have hjj : ((j : Int) == (j : Int)) = true := by simp
      go_wp2_with fail
      go_ret
      exact ⟨by simp, HB.out⟩
end Go.Proofs.YtneggbhjekklhaaDoor
