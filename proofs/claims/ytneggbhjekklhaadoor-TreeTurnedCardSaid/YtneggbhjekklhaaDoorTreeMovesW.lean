/- TreeMoves: the walk of the law. -/
import Derived.Test.YtneggbhjekklhaaDoorGrown
import Derived.Test.YtneggbhjekklhaaDoorTreeQ2
import Derived.Test.YtneggbhjekklhaaDoorOps2
import Derived.Deep.CutBlock
namespace Go.Proofs.YtneggbhjekklhaaDoor
open Go Go.RowKit Go.Maps Tree
set_option linter.unusedVariables false
set_option linter.unusedSimpArgs false
set_option maxHeartbeats 4000000
set_option maxRecDepth 100000

theorem coded1T {F : Nat → Bool} (ea : Nat → Addr) (k : Nat) (w : World) (hk : k ≤ 12) (hG : Gd F ea w) (hF : ∀ k, 1 ≤ k → k ≤ 12 → F k = true) (f20 : F 20 = true) :
    Calls Tryd.prog 27 #[errW ea k, .int .i64 k] w fun e w' => e = .returned (.bool true) ∧ Below w.heap.size w w' :=
  (coded1_any ea (errW ea k) k (-1) k w (errW_val ea k hk w) (hG.all hF) (hG.tv f20)).mono fun _ _ ⟨he, hb⟩ => ⟨by rw [he]; simp, hb⟩
theorem opErr_le (o : OpT) : opErr o ≤ 12 := by
  unfold opErr
  repeat' split
  all_goals omega
theorem applyErr_le (L : List OpT) (o : OpT) : applyErr L o ≤ 12 := by
  unfold applyErr
  split
  · exact opErr_le o
  · split
    · omega
    · split <;> omega
theorem mem_sortOps {M : List OpT} {y : OpT} : y ∈ sortOps M ↔ y ∈ M := (sortL_perm swo_opLt M).mem_iff
theorem ex_sort {M : List OpT} {x : OpT} : (∃ y, y ∈ sortOps M ∧ SameS y x) ↔ ∃ y, y ∈ M ∧ SameS y x := by
  constructor
  · rintro ⟨y, h1, h2⟩; exact ⟨y, mem_sortOps.1 h1, h2⟩
  · rintro ⟨y, h1, h2⟩; exact ⟨y, mem_sortOps.2 h1, h2⟩
/-- what is taken -/
noncomputable def takenM (M : List OpT) (x : OpT) : List OpT := if applyErr (sortOps M) x = 0 then M ++ [x] else M
theorem applyL_sort (M : List OpT) (x : OpT) : applyL (sortOps M) x = sortOps (takenM M x) := by
  unfold applyL takenM
  split
  · rw [sortOps_snoc]
  · rfl
theorem takenM_len (M : List OpT) (x : OpT) : (takenM M x).length ≤ M.length + 1 := by
  unfold takenM
  split <;> simp
theorem applyErr_zero {L : List OpT} {x : OpT} (h : applyErr L x = 0) : opErr x = 0 ∧ x.k = 109 ∧ ¬ ∃ y, y ∈ L ∧ SameS y x := by
  unfold applyErr at h
  split at h
  · rename_i h1; exact absurd h h1
  · rename_i h1
    split at h
    · omega
    · rename_i h2
      split at h
      · omega
      · rename_i h3
        exact ⟨by omega, by omega, h3⟩
theorem LogOk.taken {M : List OpT} {x : OpT} (h : LogOk (sortOps M)) (hx : x.Wf) : LogOk (sortOps (takenM M x)) := by
  unfold takenM
  split
  · rename_i h0
    obtain ⟨_, _, h3⟩ := applyErr_zero h0
    rw [sortOps_snoc]
    refine ⟨h.up.laid h3, fun o ho => ?_⟩
    rcases List.mem_cons.1 ((laidIn_perm (lt := opLt) (sortOps M) x).mem_iff.1 ho) with rfl | ho
    · exact ⟨⟨hx.nd1, hx.nd2⟩, ⟨hx.ot1, hx.ot2⟩⟩
    · exact h.nd o ho
  · exact h
theorem kinds_taken {M : List OpT} {x : OpT} (h : ∀ o ∈ M, o.k = 109) : ∀ o ∈ takenM M x, o.k = 109 := by
  unfold takenM
  split
  · rename_i h0
    intro o ho
    rcases List.mem_append.1 ho with ho | ho
    · exact h o ho
    · rw [List.mem_singleton.1 ho]; exact (applyErr_zero h0).2.1
  · exact h
theorem movesOf_all {M : List OpT} (h : ∀ o ∈ M, o.k = 109) : movesOf (sortOps M) = sortOps M := by
  unfold movesOf
  rw [List.filter_eq_self]
  intro o ho
  simp [h o (mem_sortOps.1 ho)]
theorem run_keys {L : List OpT} (h : ∀ o ∈ L, I64 o.nd ∧ I64 o.ot) : ∀ x v, runO p00 L x = some v → I64 x := by
  have : ∀ (p : PlB), (∀ x v, p x = some v → I64 x) → (∀ o ∈ L, I64 o.nd ∧ I64 o.ot) → ∀ x v, runO p L x = some v → I64 x := by
    clear h
    induction L with
    | nil => exact fun p hp _ => hp
    | cons o L ih =>
      intro p hp hL
      refine ih (Tree.move p (mvO o)) (fun x v hv => ?_) (fun o' ho' => hL o' (List.mem_cons_of_mem _ ho'))
      unfold Tree.move at hv
      split at hv
      · unfold put at hv
        split at hv
        · rename_i hx; rw [hx]; exact (hL o (List.mem_cons_self ..)).1
        · exact hp x v hv
      · exact hp x v hv
  exact this _ (fun x v hv => by cases hv) h
theorem eqPl_run (x y : PlT) (w : World) : (Op.equalIn 10000 53 (.agg #[.int .i64 x.nd, .int .i64 x.into, .string x.nm]) (.agg #[.int .i64 y.nd, .int .i64 y.into, .string y.nm])).run Tryd.prog w = .ok (x.nd == y.nd && x.into == y.into && x.nm.toList == y.nm.toList) w := by
  have u3 := Tryd.underlying3
  have a3 := Tryd.isAgg3
  have z3 := Tryd.sizeOf3
  have u9 := Tryd.underlying9
  have a9 := Tryd.isAgg9
  have z9 := Tryd.sizeOf9
  rw [show (10000 : Nat) = 9999 + 1 from rfl, Op.equalIn]
  simp only [Sem.run_bind, run_underlying Tryd.underlying53, Result.andThen_ok]
  go_simp
  (repeat' split) <;> simp_all
/-- a tree, and the moves that it took -/
structure MvS (w0 : World) (TB b n : Nat) (lv mv : Value) (M N : List OpT) (w : World) : Prop where
  t : TrS w0.heap.size TB b n lv (sortOps M) w
  m : Rw opE 28 w0.heap.size mv N w
  lo : LogOk (sortOps M)
  kd : ∀ o ∈ M, o.k = 109
  nm : ∀ k, mv.ownBlock = some k → k ≠ TB ∧ k ≠ b
  bel : Below w0.heap.size w0 w
section
variable {w0 w w1 : World} {TB b n n' : Nat} {lv lv' mv mv' : Value} {M N : List OpT} {x : OpT}
theorem MvS.below (h : MvS w0 TB b n lv mv M N w) (hb : Below w.heap.size w w1) : MvS w0 TB b n lv mv M N w1 := ⟨h.t.below hb, h.m.below hb, h.lo, h.kd, h.nm, h.bel.trans (hb.mono h.bel.size)⟩
theorem MvS.lenS (h : MvS w0 TB b n lv mv M N w) : (sortOps M).length = M.length := sortL_len swo_opLt M
/-- the rows of log and list are two -/
theorem MvS.two (h : MvS w0 TB b n lv mv M N w) : ∀ k, mv.ownBlock = some k → lv.ownBlock = some k → False := by
  intro k h1 h2
  rcases h.m.2 with ⟨e, _⟩ | ⟨g, c, cur, e, _, hg, _⟩
  · rw [e] at h1; cases h1
  · rcases h.t.row.2 with ⟨e', _⟩ | ⟨g', c', cur', e', _, hg', _⟩
    · rw [e'] at h2; cases h2
    · rw [e] at h1
      rw [e'] at h2
      have q1 : g = k := Option.some.inj h1
      have q2 : g' = k := Option.some.inj h2
      rw [q1] at hg
      rw [q2, hg] at hg'
      have h3 := Option.some.inj hg'
      injection h3 with _ h4 _
      exact absurd h4 (by decide)
/-- the list's row has grown -/
theorem MvS.more (h : MvS w0 TB b n lv mv M N w) (hr : Rw opE 28 w0.heap.size mv' (N ++ [x]) w1) (hg : w.grownBy w1 mv.ownBlock) (hat : mv'.ownBlock = mv.ownBlock ∨ mv'.ownBlock = some w.heap.size) : MvS w0 TB b n lv mv' M (N ++ [x]) w1 := by
  have hlT := h.t.lt
  have hlb := h.t.mp.lt
  have hF : Fr (fun k => mv.ownBlock = some k) w w1 := ⟨hg.os, hg.tape, hg.output, hg.size, fun k hk hx => hg.block k hk (fun e => hx e.symm)⟩
  refine ⟨h.t.fr hF (fun e => (h.nm _ e).1 rfl) (fun e => (h.nm _ e).2 rfl) (fun k hk e => h.two k e hk), hr, h.lo, h.kd, fun k hk => ?_, h.bel.trans (hF.below h.bel.size (fun k hk => (h.m.lt k hk).1))⟩
  rcases hat with e | e
  · exact h.nm k (by rw [← e]; exact hk)
  · rw [e] at hk
    have := Option.some.inj hk
    omega
/-- Apply has answered -/
theorem MvS.applied (h : MvS w0 TB b n lv mv M N w) (ht : TrS w0.heap.size TB b n' lv' (sortOps N) w1) (hF : Fr (fun k => k = TB ∨ k = b) w w1) (hlo : LogOk (sortOps N)) (hkd : ∀ o ∈ N, o.k = 109) : MvS w0 TB b n' lv' mv N N w1 :=
  ⟨ht, h.m.fr (X := fun k => k = TB ∨ k = b) (fun k hk hx => hF.block k hk hx) (fun k hk e => by have := h.nm k hk; omega), hlo, hkd, h.nm, h.bel.trans (hF.below h.bel.size (fun k hk => by have := h.t.geT; have := h.t.geb; omega))⟩
end

namespace treeMoves
theorem walk_early {F : Nat → Bool} (ea : Nat → Addr) (A : Option Addr) (n c : Nat) (L : List OpT) (nd of : Int) (w : World) (hG : Gd F ea w) (f2 : F 2 = true) (f3 : F 3 = true) (f4 : F 4 = true) (f5 : F 5 = true) (f7 : F 7 = true)
    (hs : SlV opE w (.slice A n c) L) (hc : c ≤ maxLen) (h : longOps 40 L = true) :
    Calls Tryd.prog 7 #[.slice A n c, .int .i64 nd, .int .i64 of] w fun e w' => e = .returned (.bool true) ∧ Below w.heap.size w w' := by
  have hcap := hs.cap
  have HC := Lib.hid (grown_any ea w hG f2 f3 f4 f5 f7)
  have HL : Hid (∀ w', Below w.heap.size w w' → Calls Tryd.prog 10 #[.slice A n c, .int .i64 (40 : Nat)] w' fun e w'' => e = .returned (.int .i64 1) ∧ w'' = w') := Lib.hid fun w' hb => by
    have := longOps_any A n c 40 L w' (hs.below hb) (by omega) (by omega)
    rw [h] at this
    exact this
  clear hG hs hcap
  go_enter Tryd.func7, Tryd.ntmps7
  go_wp2_with fail
  refine HC.out.mono ?_
  rintro r w1 ⟨rfl, hb⟩
  have HB1 := Lib.hid hb
  clear hb
  go_wp2_with fail
  refine (HL.out _ HB1.out).mono ?_
  rintro r w2 ⟨rfl, rfl⟩
  go_wp2_with fail
  go_ret
  exact ⟨rfl, HB1.out⟩

open Classical in
theorem walk {F : Nat → Bool} (ea : Nat → Addr) (A : Option Addr) (n c : Nat) (L : List OpT) (nd of : Int) (w : World) (hG : Gd F ea w) (hF : ∀ k, 1 ≤ k → k ≤ 12 → F k = true) (f20 : F 20 = true)
    (hs : SlV opE w (.slice A n c) L) (hc : c ≤ maxLen) (hwf : ∀ x ∈ L, (x.nm.size ≤ 100000 → x.vl.size ≤ 100000 → x.Wf)) (hnd : I64 nd) (hof : I64 of) :
    Calls Tryd.prog 7 #[.slice A n c, .int .i64 nd, .int .i64 of] w fun e w' => e = .returned (.bool true) ∧ Below w.heap.size w w' := by
  have f2 := hF 2 (by omega) (by omega)
  have f3 := hF 3 (by omega) (by omega)
  have f4 := hF 4 (by omega) (by omega)
  have f5 := hF 5 (by omega) (by omega)
  have f7 := hF 7 (by omega) (by omega)
  by_cases hE : longOps 40 L = true
  · exact walk_early ea A n c L nd of w hG f2 f3 f4 f5 f7 hs hc hE
  have hlo : longOps 40 L = false := by simpa using hE
  have hcap := hs.cap
  have HC := Lib.hid (grown_any ea w hG f2 f3 f4 f5 f7)
  have HLo : Hid (∀ w', Below w.heap.size w w' → Calls Tryd.prog 10 #[.slice A n c, .int .i64 (40 : Nat)] w' fun e w'' => e = .returned (.int .i64 0) ∧ w'' = w') := Lib.hid fun w' hb => by
    have := longOps_any A n c 40 L w' (hs.below hb) (by omega) (by omega)
    rw [hlo] at this
    exact this
  have hlen : n = L.length := hs.len
  have hno : L.length ≤ 40 ∧ ∀ x ∈ L, longOp x = false := by
    unfold longOps at hlo
    rw [Bool.or_eq_false_iff, decide_eq_false_iff_not, List.any_eq_false] at hlo
    exact ⟨by omega, fun x hx => by simpa using hlo.2 x hx⟩
  have HW : Hid (∀ x ∈ L, x.Wf) := Lib.hid fun x hx => by
    have h := hno.2 x hx
    simp only [longOp, Bool.or_eq_false_iff, decide_eq_false_iff_not] at h
    exact hwf x hx (by omega) (by omega)
  have hn40 : n ≤ 40 := by omega
  have HN := Lib.hid hlen
  have HS := Lib.hid hs
  have HG := Lib.hid hG
  have HFl := Lib.hid hF
  have HI64 : Hid (I64 nd ∧ I64 of) := Lib.hid ⟨hnd, hof⟩
  clear hG hs hlo hcap hE hwf hno hlen hF hnd hof
  go_enter Tryd.func7, Tryd.ntmps7
  go_wp2_with fail
  refine HC.out.mono ?_
  rintro r w1 ⟨rfl, hb⟩
  have HB1 := Lib.hid hb
  clear hb HC
  go_wp2_with fail
  refine (HLo.out _ HB1.out).mono ?_
  rintro r w2 ⟨rfl, rfl⟩
  clear HLo
  go_wp2_with fail
  refine (treeNew_any _).mono ?_
  rintro r w3 ⟨TB, b, rfl, hS, hb⟩
  have HM0 : Hid (MvS w TB b 0 (.slice none 0 0) (.slice none 0 0) [] [] w3) := Lib.hid
    ⟨⟨hS.p0, hS.p1, hS.f1, hS.mp, hS.row.lower HB1.out.size, Nat.le_trans HB1.out.size hS.geT, Nat.le_trans HB1.out.size hS.geb, hS.ne, hS.ner⟩, Rw.nil _ _ _ _, LogOk.nil, (fun o h => by cases h), (fun k hk => by cases hk), HB1.out.trans (hb.mono HB1.out.size)⟩
  clear hS hb HB1
  go_wp2_with fail
  go_loopw [9, 10] (fun v9 v10 wr => ∃ (i nn : Nat) (lv : Value) (M : List OpT), i ≤ n ∧ v10 = .int .i64 i ∧ Hid (MvS w TB b nn lv v9 M M wr) ∧ M.length ≤ i ∧ nn ≤ i * 100) (fun _ v10 _ => n - (intOf v10).toNat)
  case atStart => exact ⟨0, 0, _, [], by omega, rfl, HM0, by simp, by omega⟩
  case round =>
    clear HM0
    obtain ⟨i, nn, lv, M, hi, rfl, HM, hMi, hnn⟩ := hrel
    by_cases hlt : i < n
    · obtain ⟨x, hx⟩ : ∃ x, L[i]? = some x := ⟨_, List.getElem?_eq_getElem (by have := HN.out; omega)⟩
      have hxw := HW.out x (List.mem_of_getElem? hx)
      have HCx : Hid (∀ w', Below w.heap.size w w' → ∃ xb xo, A = some ⟨xb, xo, none⟩ ∧ w'.cell? ⟨xb, xo + i * 8, none⟩ = some (.int .i64 x.t) ∧ w'.cell? ⟨xb, xo + i * 8 + 1, none⟩ = some (.int .i64 x.b) ∧ w'.cell? ⟨xb, xo + i * 8 + 2, none⟩ = some (.int .i64 x.n) ∧ w'.cell? ⟨xb, xo + i * 8 + 3, none⟩ = some (.int .u8 x.k) ∧
          w'.cell? ⟨xb, xo + i * 8 + 4, none⟩ = some (.int .i64 x.nd) ∧ w'.cell? ⟨xb, xo + i * 8 + 5, none⟩ = some (.int .i64 x.ot) ∧ w'.cell? ⟨xb, xo + i * 8 + 6, none⟩ = some (.string x.nm) ∧ w'.cell? ⟨xb, xo + i * 8 + 7, none⟩ = some (.string x.vl)) := Lib.hid fun w' hb => by
        obtain ⟨xb, xo, e, _, h⟩ := ops_at (HS.out.below hb) hx
        exact ⟨xb, xo, e, h⟩
      obtain ⟨xb, xo, rfl, c0, c1, c2, c3, c4, c5, c6, c7⟩ := HCx.out wr HM.out.bel
      have HX := Lib.hid hx
      have HXw := Lib.hid hxw
      have i1 : (0 : Int) ≤ (i : Int) := by omega
      have i2 : (i : Int) < (n : Int) := by omega
      have HOE := Lib.hid (opError_any x wr hxw)
      obtain ⟨E, hE⟩ : ∃ E, E = applyErr (sortOps M) x := ⟨_, rfl⟩
      have HE := Lib.hid hE
      clear hx hxw hE
      go_wp2_with fail
      refine HOE.out.mono ?_
      rintro r w4 ⟨rfl, hb4⟩
      have HM4 := Lib.hid (HM.out.below hb4)
      clear hb4 HOE HM c0 c1 c2 c3 c4 c5 c6 c7
      obtain ⟨mA, mm, mc, rfl⟩ := HM4.out.m.slice
      have hmm : mm = M.length := HM4.out.m.sl.len
      have HMm := Lib.hid hmm
      have hmm40 : mm ≤ 40 := by omega
      obtain ⟨e0, he0⟩ : ∃ e0, e0 = opErr x := ⟨_, rfl⟩
      rw [← he0]
      have HE0 := Lib.hid he0
      obtain ⟨tb, htb⟩ : ∃ tb : Bool, (tb = true ↔ e0 = 0 ∧ x.k ≠ 109) := ⟨decide (e0 = 0 ∧ x.k ≠ 109), by simp⟩
      have HTb := Lib.hid htb
      have hM40 : M.length ≤ 40 := by omega
      clear hmm he0 htb
      go_upto_region 12 with fail
      go_cut [51] (fun v51 wc => v51 = .bool tb ∧ Hid (MvS w TB b nn lv (.slice mA mm mc) M M wc))
      case first =>
        obtain ⟨yb, yo, ey, c0, c1, c2, c3, c4, c5, c6, c7⟩ := HCx.out w4 HM4.out.bel
        cases ey
        clear c0 c1 c2 c4 c5 c6 c7
        by_cases h0 : e0 = 0
        · subst h0
          by_cases hk : x.k = 109
          · have hkb : (x.k != 109) = false := by simp [hk]
            obtain rfl : tb = false := by
              cases tb with
              | false => rfl
              | true => exact absurd hk (HTb.out.1 rfl).2
            clear hk
            go_wp2_with fail
            go_meet
            case rel => exact ⟨rfl, HM4⟩
          · have hkb : (x.k != 109) = true := by simp [hk]
            obtain rfl : tb = true := HTb.out.2 ⟨rfl, hk⟩
            clear hk
            go_wp2_with fail
            go_meet
            case rel => exact ⟨rfl, HM4⟩
        · have hb0 : ((e0 : Int) == 0) = false := by simp; omega
          obtain rfl : tb = false := by
            cases tb with
            | false => rfl
            | true => exact absurd (HTb.out.1 rfl).1 h0
          clear h0
          go_wp2_with fail
          go_meet
          case rel => exact ⟨rfl, HM4⟩
      case rest =>
        obtain ⟨rfl, HM5⟩ := hcut
        clear HM4
        go_upto_if 51 with fail
        go_cut [11] (fun v11 wc2 => ∃ e1 : Nat, v11 = .int .i64 e1 ∧ Hid (e1 ≠ 0 → E = e1) ∧ Hid (e1 = 0 → opErr x = 0 ∧ x.k = 109) ∧ Hid (MvS w TB b nn lv (.slice mA mm mc) M M wc2))
        case first =>
          cases tb with
          | true =>
            go_wp2_with fail
            go_meet
            case rel => exact ⟨5, rfl, Lib.hid (fun _ => by
              have h : e0 = 0 ∧ x.k ≠ 109 := by first | exact HTb.out.1 rfl | exact HTb.out.1 trivial
              rw [HE.out]
              unfold applyErr
              rw [if_neg (by rw [← HE0.out]; omega), if_pos h.2]), Lib.hid (fun h => by cases h), HM5⟩
          | false =>
            go_wp2_with fail
            go_meet
            case rel => exact ⟨e0, rfl, Lib.hid (fun h => by
              rw [HE.out]
              unfold applyErr
              rw [if_pos (by rw [← HE0.out]; exact h), HE0.out]), Lib.hid (fun h => ⟨by rw [← HE0.out]; exact h, by
                by_cases hk : x.k = 109
                · exact hk
                · cases HTb.out.2 ⟨h, hk⟩⟩), HM5⟩
        case rest =>
          obtain ⟨e1, rfl, HE1, HE2, HM6⟩ := hcut
          clear HM5 HTb HE0
          go_upto_block 2 with (fail)
          go_cut [11, 12] (fun v11 v12 wc3 => v11 = .int .i64 E ∧ Hid (MvS w TB b nn lv (.slice mA mm mc) M M wc3))
          case first =>
            go_wp2_with fail
            go_loopw [11, 12] (fun v11 v12 w5 => ∃ (k e : Nat), v11 = .int .i64 e ∧ v12 = .int .i64 k ∧ k ≤ mm ∧ Hid (e ≠ 0 → E = e) ∧ Hid (e = 0 → opErr x = 0 ∧ x.k = 109 ∧ ∀ j y, j < k → M[j]? = some y → ¬ SameS y x) ∧ Hid (MvS w TB b nn lv (.slice mA mm mc) M M w5)) (fun _ v12 _ => mm - (intOf v12).toNat)
            case atStart => exact ⟨0, e1, rfl, rfl, by omega, HE1, Lib.hid (fun h => ⟨(HE2.out h).1, (HE2.out h).2, fun j y h => by omega⟩), HM6⟩
            case round =>
              obtain ⟨k, e, rfl, rfl, hk, HEa, HEb, HMr⟩ := hrel
              have HMq : ∀ nq, Hid (MvS w TB b nn lv (.slice mA mm mc) M M (wr.drewN nq)) := fun nq => Lib.hid (HMr.out.below (below_drawn (Below.refl _ _) nq))
              by_cases hkm : k < mm
              · have k2 : (k : Int) < (mm : Int) := by omega
                have k1 : (0 : Int) ≤ (k : Int) := by omega
                by_cases h0 : e = 0
                · subst h0
                  obtain ⟨y, hy⟩ : ∃ y, M[k]? = some y := ⟨_, List.getElem?_eq_getElem (by have := HMm.out; omega)⟩
                  obtain ⟨gb, go, rfl, _, d0, d1, _, _, _, _, _, _⟩ := ops_at HMr.out.m.sl hy
                  obtain ⟨yb, yo, ey, c0, c1, c2, c3, c4, c5, c6, c7⟩ := HCx.out wr HMr.out.bel
                  cases ey
                  obtain ⟨ts, hts⟩ : ∃ ts, ts = (y.t == x.t && y.b == x.b) := ⟨_, rfl⟩
                  have hes : ∀ w, (Op.equalIn 10000 26 (.agg #[.int .i64 y.t, .int .i64 y.b]) (.agg #[.int .i64 x.t, .int .i64 x.b])).run Tryd.prog w = .ok ts w := fun w => by rw [eqStamp_run, hts]
                  have HTs : Hid (ts = true ↔ SameS y x) := Lib.hid (by rw [hts]; simp [SameS])
                  have HY := Lib.hid hy
                  clear hy hts c2 c3 c4 c5 c6 c7 hkm
                  cases ts with
                  | true =>
                    have HE7 : Hid (E = 7) := Lib.hid (by
                      have h := HEb.out rfl
                      rw [HE.out]
                      unfold applyErr
                      rw [if_neg (by omega), if_neg (by omega), if_pos]
                      exact ex_sort.2 ⟨y, List.mem_of_getElem? HY.out, by first | exact HTs.out.1 rfl | exact HTs.out.1 trivial⟩)
                    go_wp2_with fail
                    go_quiet (fail)
                    rename_i nq
                    have HM7 := HMq nq
                    clear HMq d0 d1 c0 c1 hes
                    generalize wr.drewN nq = wq at HM7 ⊢
                    go_wp2_with fail
                    go_roundw
                    case rel => exact ⟨k + 1, 7, rfl, by go_num, by omega, Lib.hid (fun _ => HE7.out), Lib.hid (fun h => by cases h), HM7⟩
                    case measure => simp [intOf] <;> omega
                  | false =>
                    have HEc : Hid (0 = 0 → opErr x = 0 ∧ x.k = 109 ∧ ∀ j y, j < k + 1 → M[j]? = some y → ¬ SameS y x) := Lib.hid (fun _ => by
                      have h := HEb.out rfl
                      refine ⟨h.1, h.2.1, fun j z h1 h2 => ?_⟩
                      by_cases hj : j = k
                      · subst hj
                        rw [HY.out] at h2
                        cases h2
                        intro h3
                        have := HTs.out.2 h3
                        cases this
                      · exact h.2.2 j z (by omega) h2)
                    go_wp2_with fail
                    go_quiet (fail)
                    rename_i nq
                    have HM7 := HMq nq
                    clear HMq d0 d1 c0 c1 hes
                    generalize wr.drewN nq = wq at HM7 ⊢
                    go_wp2_with fail
                    go_roundw
                    case rel => exact ⟨k + 1, 0, rfl, by go_num, by omega, Lib.hid (fun h => absurd rfl h), Lib.hid (fun _ => HEc.out (by first | rfl | trivial)), HM7⟩
                    case measure => simp [intOf] <;> omega
                · have hb0 : ((e : Int) == 0) = false := by simp; omega
                  have HEf : Hid (E = e) := Lib.hid (HEa.out h0)
                  clear h0
                  go_wp2_with fail
                  go_meet
                  case rel => exact ⟨by rw [HEf.out], HMr⟩
              · have hkm2 : ¬ (k : Int) < (mm : Int) := by omega
                have HEf : Hid (E = e) := Lib.hid (by
                  by_cases h0 : e = 0
                  · have h := HEb.out h0
                    rw [HE.out, h0]
                    unfold applyErr
                    rw [if_neg (by omega), if_neg (by omega), if_neg]
                    rintro ⟨y, h1, h2⟩
                    obtain ⟨j, hj, rfl⟩ := List.getElem_of_mem (mem_sortOps.1 h1)
                    exact h.2.2 j _ (by have := HMm.out; omega) (List.getElem?_eq_getElem hj) h2
                  · exact HEa.out h0)
                have kd : decide (k < mm) = false := by simp; omega
                clear hkm
                go_wp2_with fail
                go_meet
                case rel => exact ⟨by rw [HEf.out], HMr⟩
          case rest =>
            obtain ⟨rfl, HM7⟩ := hcut
            clear HM6 HE1 HE2
            go_upto_if 74 with fail
            go_cut [9] (fun v9 wc4 => ∃ (gA : Option Addr) (gm gc : Nat), v9 = .slice gA gm gc ∧ Hid (MvS w TB b nn lv (.slice gA gm gc) M (takenM M x) wc4))
            case first =>
              by_cases h0 : E = 0
              · have HTk : Hid (takenM M x = M ++ [x]) := Lib.hid (by unfold takenM; rw [← HE.out, if_pos h0])
                have hb0 : ((E : Int) == 0) = true := by simp [h0]
                obtain ⟨yb, yo, ey, c0, c1, c2, c3, c4, c5, c6, c7⟩ := HCx.out _ HM7.out.bel
                cases ey
                have hba := (Below.refl wc.heap.size wc).alloc (Nat.le_refl _) (.cells x.cells 28)
                have HMa := Lib.hid (HM7.out.below hba)
                have HO1 : Hid (SlV opE (wc.alloc (.cells x.cells 28)) (.slice (some ⟨wc.heap.size, 0, none⟩) 1 1) [x]) := Lib.hid (SlV.one wc x _ _ rfl)
                clear h0 hba
                go_wp2_with (at_builtin; refine wpList_append_rows_at rfl _ _ 22 rfl opE w.heap.size 28 (opV ⟨0, 0, 0, 0, 0, 0, ⟨#[]⟩, ⟨#[]⟩⟩) 80 Tryd.underlying22 infoOp rfl (by decide) _ _ M [x] rfl rfl HMa.out.m HO1.out ?za1 ?za2 ?za3 ?_)
                case za1 => unfold maxLen; simp <;> omega
                case za2 => simp <;> omega
                case za3 => exact HMa.out.bel.size
                intro v8 w8 hr8 hg8 hat8
                obtain ⟨gA, gm, gc, rfl⟩ := hr8.slice
                have HM8 : Hid (MvS w TB b nn lv (.slice gA gm gc) M (takenM M x) w8) := Lib.hid (by rw [HTk.out]; exact HMa.out.more hr8 hg8 (by rw [World.size_alloc]; exact hat8))
                clear hr8 hg8 hat8 c0 c1 c2 c3 c4 c5 c6 c7
                go_wp2_with fail
                go_meet
                case rel => exact ⟨gA, gm, gc, rfl, HM8⟩
              · have HTk : Hid (takenM M x = M) := Lib.hid (by unfold takenM; rw [← HE.out, if_neg h0])
                have hb0 : ((E : Int) == 0) = false := by simp; omega
                clear h0
                go_wp2_with fail
                go_meet
                case rel => exact ⟨_, _, _, rfl, by rw [HTk.out]; exact HM7⟩
            case rest =>
              obtain ⟨gA, gm, gc, rfl, HM8⟩ := hcut
              obtain ⟨N, hN⟩ : ∃ N, N = takenM M x := ⟨_, rfl⟩
              have HNm := Lib.hid hN
              have hNl : N.length ≤ i + 1 := by rw [hN]; have := takenM_len M x; omega
              rw [← hN] at HM8
              have HLo : Hid (LogOk (sortOps N) ∧ ∀ o ∈ N, o.k = 109) := Lib.hid (by rw [hN]; exact ⟨HM8.out.lo.taken HXw.out, kinds_taken HM8.out.kd⟩)
              have HLt : Hid (TB < wc.heap.size ∧ b < wc.heap.size ∧ w.heap.size ≤ wc.heap.size ∧ gm = N.length) := Lib.hid ⟨HM8.out.t.lt, HM8.out.t.mp.lt, HM8.out.bel.size, HM8.out.m.sl.len⟩
              have HPo := Lib.hid (placesOf_any gA gm gc N wc HM8.out.m.sl (by omega))
              rw [movesOf_all HLo.out.2] at HPo
              clear hN HM7
              go_wp2_with fail
              refine HPo.out.mono ?_
              rintro r w9 ⟨v13, Q, rfl, hr9, hp9, hq9, hb9⟩
              obtain ⟨pA, pm, pc, rfl⟩ := hr9.slice
              have HM9 := Lib.hid (HM8.out.below hb9)
              have HQr := Lib.hid hr9
              have HQp := Lib.hid hp9
              have hQ41 : Q.length ≤ 41 := by omega
              have HAp : Hid (Calls Tryd.prog 23 #[.pointer (some ⟨TB, 0, none⟩), opV x] w9 fun e w' => e = .returned (errW ea E) ∧ (∃ lv' n', TrS w.heap.size TB b n' lv' (sortOps N) w' ∧ n' ≤ (i + 1) * 100) ∧ Fr (fun k => k = TB ∨ k = b) w9 w') := Lib.hid (by
                have hl := sortL_len swo_opLt M
                have := apply_any ea w.heap.size TB b nn lv (sortOps M) x w9 HXw.out (HG.out.below HM9.out.bel) f2 f3 f4 f5 f7 HM9.out.t HM9.out.lo (by rw [hl]; omega) (by rw [hl]; unfold maxLen; omega)
                rw [applyL_sort, ← HNm.out, ← HE.out, hl] at this
                exact this.mono fun e w' ⟨h1, lv', n', h2, h3, h4⟩ => ⟨h1, ⟨lv', n', h2, by omega⟩, h4⟩)
              obtain ⟨yb, yo, ey, c0, c1, c2, c3, c4, c5, c6, c7⟩ := HCx.out w9 HM9.out.bel
              cases ey
              clear hr9 hp9 hq9 hb9 HPo HM8
              go_wp2_with fail
              refine HAp.out.mono ?_
              rintro r w10 ⟨rfl, ⟨lv2, n2, ht10, hn10⟩, hF10⟩
              have HM10 := Lib.hid (HM9.out.applied ht10 hF10 HLo.out.1 HLo.out.2)
              have HQr10 : Hid (Rw plE 76 wc.heap.size (.slice pA pm pc) Q w10) := Lib.hid (HQr.out.fr (X := fun k => k = TB ∨ k = b) (fun k hk hx => hF10.block k hk hx) (fun k hk e => by have := (HQr.out.lt k hk).1; have := HLt.out.1; have := HLt.out.2.1; omega))
              have HCo := Lib.hid (coded1T ea E w10 (by rw [HE.out]; exact applyErr_le _ _) (HG.out.below HM10.out.bel) HFl.out f20)
              clear ht10 hF10 HAp HM9 HQr c0 c1 c2 c3 c4 c5 c6 c7
              go_wp2_with fail
              refine HCo.out.mono ?_
              rintro r w11 ⟨rfl, hb11⟩
              have HM11 := Lib.hid (HM10.out.below hb11)
              have HQr11 := Lib.hid (HQr10.out.below hb11)
              have HPl := Lib.hid (treePlaces_any w.heap.size TB b n2 lv2 (sortOps N) w11 HM11.out.t (by omega) (run_keys HLo.out.1.nd))
              clear hb11 HCo HM10 HQr10
              go_wp2_with fail
              refine HPl.out.mono ?_
              rintro r w12 ⟨v14, Q2, rfl, hr12, hp12, hq12, hb12⟩
              obtain rfl : Q2 = Q := hp12.unique HQp.out
              obtain ⟨tA, tm, tc, rfl⟩ := hr12.slice
              have HM12 := Lib.hid (HM11.out.below hb12)
              have HQr12 := Lib.hid (HQr11.out.below hb12)
              have HSm := Lib.hid (samePlaces_any tA pA tm tc pm pc Q2 w12 hr12.sl HQr12.out.sl (by omega))
              clear hr12 hp12 hq12 hb12 HPl HM11 HQr11
              go_wp2_with fail
              refine HSm.out.mono ?_
              rintro r w13 ⟨rfl, hb13⟩
              have HM13 := Lib.hid (HM12.out.below hb13)
              have HQr13 := Lib.hid (HQr12.out.below hb13)
              have HMo := Lib.hid (treeMoves_any w.heap.size TB b n2 lv2 (sortOps N) w13 HM13.out.t)
              have hsl : (sortOps N).length = gm := by rw [HLt.out.2.2.2]; exact sortL_len swo_opLt N
              rw [hsl] at HMo
              have hne : ((gm : Int) != (gm : Int)) = false := by simp
              clear hb13 HSm HM12 HQr12 hsl
              go_wp2_with fail
              refine HMo.out.mono ?_
              rintro r w14 ⟨rfl, rfl⟩
              obtain ⟨RI, hRI⟩ : ∃ RI, RI = decide (Ins (runO p00 (sortOps N)) nd of) := ⟨_, rfl⟩
              have HIn := Lib.hid (inside_any TB b n2 (runO p00 (sortOps N)) nd of w14 HM13.out.t.p0 HM13.out.t.mp (plOk_run HLo.out.1.nd) HI64.out.1)
              have HIs : Hid (∀ w', Below w14.heap.size w14 w' → Calls Tryd.prog 33 #[.slice pA pm pc, .int .i64 nd, .int .i64 of] w' fun e w'' => e = .returned (.bool RI) ∧ w'' = w') := Lib.hid (fun w' hb => by
                rw [hRI]
                exact isInside_any pA pm pc nd of Q2 _ w' (HQr13.out.below hb).sl (by have := HQr13.out.sl.len; omega) HQp.out (Acyc.replay Acyc.empty _))
              rw [← hRI] at HIn
              have hri : (RI != RI) = false := by simp
              clear HMo hRI hne
              go_wp2_with fail
              refine HIn.out.mono ?_
              rintro r w15 ⟨rfl, hb15⟩
              have HM15 := Lib.hid (HM13.out.below hb15)
              have HQr15 := Lib.hid (HQr13.out.below hb15)
              have HB15 := Lib.hid hb15
              clear hb15 HIn
              go_wp2_with fail
              refine (HIs.out _ HB15.out).mono ?_
              rintro r w16 ⟨rfl, rfl⟩
              obtain ⟨yb, yo, ey, c0, c1, c2, c3, c4, c5, c6, c7⟩ := HCx.out w16 HM15.out.bel
              cases ey
              have HPc := Lib.hid (treePlace_any w.heap.size TB b n2 lv2 (sortOps N) x.nd w16 HM15.out.t ⟨HXw.out.nd1, HXw.out.nd2⟩)
              obtain ⟨y, hy⟩ : ∃ y, y = wasP (plM (runO p00 (sortOps N)) x.nd) := ⟨_, rfl⟩
              obtain ⟨is, his⟩ : ∃ is, is = (plM (runO p00 (sortOps N)) x.nd).isSome := ⟨_, rfl⟩
              rw [← hy, ← his] at HPc
              have HYs : Hid ((is = true → ∃ k, Q2[k]? = some y ∧ y.nd = x.nd) ∧ (is = false → y = ⟨0, 0, ⟨#[]⟩⟩ ∧ ∀ z ∈ Q2, z.nd ≠ x.nd)) := Lib.hid (by
                have hrep := HQp.out
                cases hp : runO p00 (sortOps N) x.nd with
                | none =>
                  have e : plM (runO p00 (sortOps N)) x.nd = none := by simp [plM, hp]
                  rw [e] at hy his
                  refine ⟨(fun h => by rw [his] at h; cases h), fun _ => ⟨hy, fun z hz hzn => ?_⟩⟩
                  have := (hrep.is z).1 hz
                  rw [hzn, hp] at this
                  cases this
                | some v =>
                  have e : plM (runO p00 (sortOps N)) x.nd = some ⟨x.nd, v.1, v.2⟩ := by simp [plM, hp]
                  rw [e] at hy his
                  refine ⟨fun _ => ?_, (fun h => by rw [his] at h; cases h)⟩
                  have hm : y ∈ Q2 := (hrep.is y).2 (by rw [hy]; simpa [wasP] using hp)
                  obtain ⟨k, hk, he⟩ := List.getElem_of_mem hm
                  exact ⟨k, by rw [← he]; exact List.getElem?_eq_getElem hk, by rw [hy]; rfl⟩)
              clear HIs HB15 hri hy his HM13 HQr13
              go_wp2_with fail
              refine HPc.out.mono ?_
              rintro r w17 ⟨rfl, hb17⟩
              have HM17 := Lib.hid (HM15.out.below hb17)
              have HQr17 := Lib.hid (HQr15.out.below hb17)
              clear hb17 HPc HM15 HQr15 c0 c1 c2 c3 c4 c5 c6 c7
              go_wp2_with fail
              obtain ⟨BX, hBX⟩ : ∃ BX, BX = w17.heap.size := ⟨_, rfl⟩
              obtain ⟨BW, hBW⟩ : ∃ BW, BW = w17.heap.size + 1 := ⟨_, rfl⟩
              obtain ⟨W0, hW0⟩ : ∃ W0, W0 = (w17.alloc (.cells #[.int .i64 y.nd, .int .i64 y.into, .string y.nm] 53)).alloc (.cells #[.int .i64 0, .int .i64 0, .string ⟨#[]⟩] 53) := ⟨_, rfl⟩
              have hsix : W0.cell? ⟨BX, 0, none⟩ = some (.int .i64 y.nd) ∧ W0.cell? ⟨BX, 1, none⟩ = some (.int .i64 y.into) ∧ W0.cell? ⟨BX, 2, none⟩ = some (.string y.nm) ∧ W0.cell? ⟨BW, 0, none⟩ = some (.int .i64 (⟨0, 0, ⟨#[]⟩⟩ : PlT).nd) ∧ W0.cell? ⟨BW, 1, none⟩ = some (.int .i64 (⟨0, 0, ⟨#[]⟩⟩ : PlT).into) ∧ W0.cell? ⟨BW, 2, none⟩ = some (.string (⟨0, 0, ⟨#[]⟩⟩ : PlT).nm) ∧ W0.frozen? ⟨BW, 0, none⟩ = false ∧ W0.frozen? ⟨BW, 1, none⟩ = false ∧ W0.frozen? ⟨BW, 2, none⟩ = false := by
                rw [hW0, hBX, hBW]
                exact ⟨by simp [go_sem], by simp [go_sem], by simp [go_sem], by simp [go_sem], by simp [go_sem], by simp [go_sem], by simp [go_sem], by simp [go_sem], by simp [go_sem]⟩
              have hbl0 : Below w17.heap.size w17 W0 := by rw [hW0]; exact ((Below.refl _ _).alloc (Nat.le_refl _) _).alloc (by simp) _
              have hbne : BX ≠ BW := by omega
              have hbge : w17.heap.size ≤ BW := by omega
              rw [← hW0, ← hBW, ← hBX]
              have HSix0 := Lib.hid hsix
              have HBl0 := Lib.hid hbl0
              have HBne := Lib.hid (⟨hbne, hbge⟩ : BX ≠ BW ∧ w17.heap.size ≤ BW)
              have hpm : pm = Q2.length := HQr17.out.sl.len
              have HPm := Lib.hid hpm
              have hpm41 : pm ≤ 41 := by omega
              clear hW0 hsix hbl0 hBX hBW hbne hbge hpm
              go_loopw [17, 18] (fun v17 v18 wr2 => ∃ (k : Nat) (fb : Bool) (z : PlT), v17 = .bool fb ∧ v18 = .int .i64 k ∧ k ≤ pm ∧ Hid (fb = true ↔ ∃ j y', j < k ∧ Q2[j]? = some y' ∧ y'.nd = x.nd) ∧ Hid (z = if fb then y else ⟨0, 0, ⟨#[]⟩⟩) ∧ Hid (Below w17.heap.size w17 wr2) ∧ Hid (wr2.cell? ⟨BX, 0, none⟩ = some (.int .i64 y.nd) ∧ wr2.cell? ⟨BX, 1, none⟩ = some (.int .i64 y.into) ∧ wr2.cell? ⟨BX, 2, none⟩ = some (.string y.nm) ∧ wr2.cell? ⟨BW, 0, none⟩ = some (.int .i64 z.nd) ∧ wr2.cell? ⟨BW, 1, none⟩ = some (.int .i64 z.into) ∧ wr2.cell? ⟨BW, 2, none⟩ = some (.string z.nm) ∧ wr2.frozen? ⟨BW, 0, none⟩ = false ∧ wr2.frozen? ⟨BW, 1, none⟩ = false ∧ wr2.frozen? ⟨BW, 2, none⟩ = false)) (fun _ v18 _ => pm - (intOf v18).toNat)
              case atStart => exact ⟨0, false, ⟨0, 0, ⟨#[]⟩⟩, rfl, rfl, by omega, Lib.hid ⟨(fun h => by cases h), fun ⟨j, _, h, _⟩ => by omega⟩, Lib.hid rfl, HBl0, HSix0⟩
              case round =>
                obtain ⟨k, fb, z, rfl, rfl, hk, HFb, HZ, HBl, HSix⟩ := hrel
                clear HBl0 HSix0
                by_cases hkp : k < pm
                · obtain ⟨y', hy'⟩ : ∃ y', Q2[k]? = some y' := ⟨_, List.getElem?_eq_getElem (by have := HPm.out; omega)⟩
                  obtain ⟨gb, go, rfl, _, d0, d1, d2⟩ := pl_at (HQr17.out.below HBl.out).sl hy'
                  obtain ⟨yb, yo, ey, c0, c1, c2, c3, c4, c5, c6, c7⟩ := HCx.out wr ((HM17.out.below HBl.out).bel)
                  cases ey
                  have HY := Lib.hid hy'
                  have k1 : (0 : Int) ≤ (k : Int) := by omega
                  have k2 : (k : Int) < (pm : Int) := by omega
                  have HBq : ∀ nq, Hid (Below w17.heap.size w17 (wr.drewN nq) ∧ ((wr.drewN nq).cell? ⟨BX, 0, none⟩ = some (.int .i64 y.nd) ∧ (wr.drewN nq).cell? ⟨BX, 1, none⟩ = some (.int .i64 y.into) ∧ (wr.drewN nq).cell? ⟨BX, 2, none⟩ = some (.string y.nm) ∧ (wr.drewN nq).cell? ⟨BW, 0, none⟩ = some (.int .i64 z.nd) ∧ (wr.drewN nq).cell? ⟨BW, 1, none⟩ = some (.int .i64 z.into) ∧ (wr.drewN nq).cell? ⟨BW, 2, none⟩ = some (.string z.nm) ∧ (wr.drewN nq).frozen? ⟨BW, 0, none⟩ = false ∧ (wr.drewN nq).frozen? ⟨BW, 1, none⟩ = false ∧ (wr.drewN nq).frozen? ⟨BW, 2, none⟩ = false) ∧ ((wr.drewN nq).cell? ⟨gb, go + k * 3, none⟩ = some (.int .i64 y'.nd) ∧ (wr.drewN nq).cell? ⟨gb, go + k * 3 + 1, none⟩ = some (.int .i64 y'.into) ∧ (wr.drewN nq).cell? ⟨gb, go + k * 3 + 2, none⟩ = some (.string y'.nm))) := fun nq => Lib.hid ⟨below_drawn HBl.out nq, HSix.out, d0, d1, d2⟩
                  clear hy' c0 c1 c2 c3 c5 c6 c7 hkp
                  by_cases he : y'.nd = x.nd
                  · have hb : (y'.nd == x.nd) = true := by simp [he]
                    have HE2 := Lib.hid he
                    clear he
                    go_wp2_with fail
                    go_quiet (fail)
                    rename_i nq
                    have HB2 := HBq nq
                    clear HBq d0 d1 d2 c4
                    generalize wr.drewN nq = wq at HB2 ⊢
                    obtain ⟨d0, d1, d2⟩ := HB2.out.2.2
                    obtain ⟨_, _, _, z0, z1, z2, f0, f1, f2⟩ := HB2.out.2.1
                    go_wp2_with fail
                    go_still_tail 16, (by kernel_rfl)
                    change wpList _ _ _ _ _ wq.drew
                    have hyy : y' = y := by
                      have his : is = true := by
                        cases is with
                        | true => rfl
                        | false => exact absurd HE2.out ((HYs.out.2 rfl).2 y' (List.mem_of_getElem? HY.out))
                      obtain ⟨k', h1, h2⟩ := HYs.out.1 his
                      have := HQp.out.idx HY.out h1 (HE2.out.trans h2.symm)
                      subst this
                      rw [HY.out] at h1
                      exact Option.some.inj h1
                    have HYY := Lib.hid hyy
                    have HB3 : Hid (Below w17.heap.size w17 wq.drew ∧ (wq.drew.cell? ⟨BX, 0, none⟩ = some (.int .i64 y.nd) ∧ wq.drew.cell? ⟨BX, 1, none⟩ = some (.int .i64 y.into) ∧ wq.drew.cell? ⟨BX, 2, none⟩ = some (.string y.nm) ∧ wq.drew.cell? ⟨BW, 0, none⟩ = some (.int .i64 z.nd) ∧ wq.drew.cell? ⟨BW, 1, none⟩ = some (.int .i64 z.into) ∧ wq.drew.cell? ⟨BW, 2, none⟩ = some (.string z.nm) ∧ wq.drew.frozen? ⟨BW, 0, none⟩ = false ∧ wq.drew.frozen? ⟨BW, 1, none⟩ = false ∧ wq.drew.frozen? ⟨BW, 2, none⟩ = false)) := Lib.hid ⟨HB2.out.1.drew, HB2.out.2.1⟩
                    clear d0 d1 d2 z0 z1 z2 f0 f1 f2 hyy HB2
                    generalize wq.drew = w8 at HB3 ⊢
                    obtain ⟨x0, x1, x2, z0, z1, z2, f0, f1, f2⟩ := HB3.out.2
                    have HS3 : Hid ((((w8.setCell ⟨BW, 0, none⟩ (.int .i64 y'.nd)).setCell ⟨BW, 1, none⟩ (.int .i64 y'.into)).setCell ⟨BW, 2, none⟩ (.string y'.nm)).cell? ⟨BX, 0, none⟩ = some (.int .i64 y.nd) ∧ (((w8.setCell ⟨BW, 0, none⟩ (.int .i64 y'.nd)).setCell ⟨BW, 1, none⟩ (.int .i64 y'.into)).setCell ⟨BW, 2, none⟩ (.string y'.nm)).cell? ⟨BX, 1, none⟩ = some (.int .i64 y.into) ∧ (((w8.setCell ⟨BW, 0, none⟩ (.int .i64 y'.nd)).setCell ⟨BW, 1, none⟩ (.int .i64 y'.into)).setCell ⟨BW, 2, none⟩ (.string y'.nm)).cell? ⟨BX, 2, none⟩ = some (.string y.nm) ∧ (((w8.setCell ⟨BW, 0, none⟩ (.int .i64 y'.nd)).setCell ⟨BW, 1, none⟩ (.int .i64 y'.into)).setCell ⟨BW, 2, none⟩ (.string y'.nm)).cell? ⟨BW, 0, none⟩ = some (.int .i64 y'.nd) ∧ (((w8.setCell ⟨BW, 0, none⟩ (.int .i64 y'.nd)).setCell ⟨BW, 1, none⟩ (.int .i64 y'.into)).setCell ⟨BW, 2, none⟩ (.string y'.nm)).cell? ⟨BW, 1, none⟩ = some (.int .i64 y'.into) ∧ (((w8.setCell ⟨BW, 0, none⟩ (.int .i64 y'.nd)).setCell ⟨BW, 1, none⟩ (.int .i64 y'.into)).setCell ⟨BW, 2, none⟩ (.string y'.nm)).cell? ⟨BW, 2, none⟩ = some (.string y'.nm) ∧ (((w8.setCell ⟨BW, 0, none⟩ (.int .i64 y'.nd)).setCell ⟨BW, 1, none⟩ (.int .i64 y'.into)).setCell ⟨BW, 2, none⟩ (.string y'.nm)).frozen? ⟨BW, 0, none⟩ = false ∧ (((w8.setCell ⟨BW, 0, none⟩ (.int .i64 y'.nd)).setCell ⟨BW, 1, none⟩ (.int .i64 y'.into)).setCell ⟨BW, 2, none⟩ (.string y'.nm)).frozen? ⟨BW, 1, none⟩ = false ∧ (((w8.setCell ⟨BW, 0, none⟩ (.int .i64 y'.nd)).setCell ⟨BW, 1, none⟩ (.int .i64 y'.into)).setCell ⟨BW, 2, none⟩ (.string y'.nm)).frozen? ⟨BW, 2, none⟩ = false) := Lib.hid (by
                      have hne := HBne.out.1
                      have hne2 := Ne.symm hne
                      exact ⟨by simp [go_sem, x0, hne, hne2], by simp [go_sem, x1, hne, hne2], by simp [go_sem, x2, hne, hne2], by simp [go_sem, z0, z1, z2], by simp [go_sem, z0, z1, z2], by simp [go_sem, z0, z1, z2], by simp [go_sem, f0, f1, f2], by simp [go_sem, f0, f1, f2], by simp [go_sem, f0, f1, f2]⟩)
                    have HBl3 : Hid (Below w17.heap.size w17 (((w8.setCell ⟨BW, 0, none⟩ (.int .i64 y'.nd)).setCell ⟨BW, 1, none⟩ (.int .i64 y'.into)).setCell ⟨BW, 2, none⟩ (.string y'.nm))) := Lib.hid (((HB3.out.1.setCell (p := ⟨BW, 0, none⟩) HBne.out.2 _).setCell (p := ⟨BW, 1, none⟩) HBne.out.2 _).setCell (p := ⟨BW, 2, none⟩) HBne.out.2 _)
                    have HFb2 : Hid (true = true ↔ ∃ j y', j < k + 1 ∧ Q2[j]? = some y' ∧ y'.nd = x.nd) := Lib.hid ⟨fun _ => ⟨k, y', by omega, HY.out, HE2.out⟩, fun _ => rfl⟩
                    clear x0 x1 x2 HB3
                    go_wp2_with fail
                    go_roundw
                    case rel => exact ⟨k + 1, true, y', rfl, by go_num, by omega, Lib.hid (by first | exact HFb2.out | simpa using HFb2.out), Lib.hid (by rw [HYY.out]; rfl), HBl3, HS3⟩
                    case measure => simp [intOf] <;> omega
                  · have hb : (y'.nd == x.nd) = false := by simp [he]
                    have HFb2 : Hid (fb = true ↔ ∃ j y', j < k + 1 ∧ Q2[j]? = some y' ∧ y'.nd = x.nd) := Lib.hid (HFb.out.trans ⟨fun ⟨j, y2, h1, h2⟩ => ⟨j, y2, by omega, h2⟩, fun ⟨j, y2, h1, h2, h3⟩ => by
                      by_cases hj : j = k
                      · subst hj; rw [HY.out] at h2; cases h2; exact absurd h3 he
                      · exact ⟨j, y2, by omega, h2, h3⟩⟩)
                    clear he
                    go_wp2_with fail
                    go_quiet (fail)
                    rename_i nq
                    have HB2 := HBq nq
                    clear HBq d0 d1 d2 c4
                    generalize wr.drewN nq = wq at HB2 ⊢
                    go_wp2_with fail
                    go_roundw
                    case rel => exact ⟨k + 1, fb, z, rfl, by go_num, by omega, HFb2, HZ, Lib.hid HB2.out.1, Lib.hid HB2.out.2.1⟩
                    case measure => simp [intOf] <;> omega
                · have k2 : ¬ (k : Int) < (pm : Int) := by omega
                  have hfi : fb = is := by
                    rw [Bool.eq_iff_iff, HFb.out]
                    constructor
                    · rintro ⟨j, y2, h1, h2, h3⟩
                      cases is with
                      | true => rfl
                      | false => exact absurd h3 ((HYs.out.2 rfl).2 y2 (List.mem_of_getElem? h2))
                    · intro h
                      obtain ⟨j, h1, h2⟩ := HYs.out.1 h
                      exact ⟨j, y, by have := (List.getElem?_eq_some_iff.1 h1).1; have := HPm.out; omega, h1, h2⟩
                  subst hfi
                  obtain rfl : z = y := by
                    rw [HZ.out]
                    cases fb with
                    | true => rfl
                    | false => exact (HYs.out.2 rfl).1.symm
                  have hbb : (fb != fb) = false := by simp
                  have heq : ∀ w, (Op.equalIn 10000 53 (.agg #[.int .i64 z.nd, .int .i64 z.into, .string z.nm]) (.agg #[.int .i64 z.nd, .int .i64 z.into, .string z.nm])).run Tryd.prog w = .ok true w := fun w => by rw [eqPl_run]; simp
                  obtain ⟨x0, x1, x2, z0, z1, z2, _, _, _⟩ := HSix.out
                  have HMr := Lib.hid (HM17.out.below HBl.out)
                  clear HBl HSix HFb HZ HYs
                  go_wp2_with fail
                  go_roundw
                  case rel => exact ⟨i + 1, n2, lv2, N, by omega, by go_num, HMr, hNl, by omega⟩
                  case measure => simp [intOf] <;> omega
    · have hlt2 : ¬ (i : Int) < (n : Int) := by omega
      go_wp2_with fail
      go_ret
      exact ⟨rfl, HM.out.bel⟩
end treeMoves
end Go.Proofs.YtneggbhjekklhaaDoor
