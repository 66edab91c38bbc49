/- CellsSets: the walk of the law. -/
import Derived.Test.YtneggbhjekklhaaDoorDMkS
import Derived.Test.YtneggbhjekklhaaDoorCellsJoinsW
namespace Go.Proofs.YtneggbhjekklhaaDoor
open Go Go.RowKit Go.Maps
set_option linter.unusedVariables false
set_option linter.unusedSimpArgs false
set_option maxHeartbeats 4000000
set_option maxRecDepth 100000

/-- cells, and the document's marks beside them -/
structure K2 (w0 : World) (C b n : Nat) (m : MapC) (MB : Nat) (v : Value) (L : List DMk) (w : World) : Prop where
  s : CSt w0.heap.size C b n m w
  d : DSt w0.heap.size MB v L w
  rep : Rep L m
  len : L.length ≤ n
  n1 : ¬ Own MB v C
  n2 : ¬ Own MB v b
  bel : Below w0.heap.size w0 w
section
variable {w0 w w1 w2 : World} {C b n MB : Nat} {m : MapC} {v v' : Value} {L L' : List DMk} {o : OpT}
theorem K2.below (h : K2 w0 C b n m MB v L w) (hb : Below w.heap.size w w1) : K2 w0 C b n m MB v L w1 := ⟨h.s.below hb, h.d.below hb, h.rep, h.len, h.n1, h.n2, h.bel.trans (hb.mono h.bel.size)⟩
theorem K2.mid (h : K2 w0 C b n m MB v L w) (hF : Fr (· = b) w w1) : DSt w0.heap.size MB v L w1 := h.d.fr hF (fun e => h.n2 (.inl e.symm)) (fun k hk e => h.n2 (.inr (by rw [hk, e])))
theorem K2.step {m' : MapC} {n' : Nat} (h : K2 w0 C b n m MB v L w) (hS : CSt w0.heap.size C b n' m' w1) (hF : Fr (· = b) w w1) (hD : DSt w0.heap.size MB v' L' w2) (hR : Rep L' m') (hl : L'.length ≤ n') (hG : Fr (Own MB v) w1 w2) (hv : ∀ k, v'.ownBlock = some k → v.ownBlock = some k ∨ w1.heap.size ≤ k) :
    K2 w0 C b n' m' MB v' L' w2 := by
  have hb1 : Below w0.heap.size w0 w1 := h.s.bel hF h.bel h.bel.size
  have hlC := hS.lt
  have hlb := hS.mt.lt
  have hd1 := h.mid hF
  refine ⟨hS.fr hG h.n1 h.n2, hD, hR, hl, ?_, ?_, hb1.trans (hG.below hb1.size (fun k hk => by
    rcases hk with hk | hk
    · rw [hk]; exact h.d.ge
    · exact (h.d.own.lt k hk).1))⟩
  · rintro (e | e)
    · exact h.n1 (.inl e)
    · rcases hv C e with e | e
      · exact h.n1 (.inr e)
      · omega
  · rintro (e | e)
    · exact h.n2 (.inl e)
    · rcases hv b e with e | e
      · exact h.n2 (.inr e)
      · omega
end
theorem coded1W {F : Nat → Bool} (ea : Nat → Addr) (k : Nat) (w : World) (hk : k ≤ 12) (hG : Gd F ea w) (hF : ∀ k, 1 ≤ k → k ≤ 12 → F k = true) (f20 : F 20 = true) :
    Calls Tryd.prog 27 #[errW ea k, .int .i64 k] w fun e w' => e = .returned (.bool true) ∧ Below w.heap.size w w' :=
  (coded1_any ea (errW ea k) k (-1) k w (errW_val ea k hk w) (hG.all hF) (hG.tv f20)).mono fun _ _ ⟨he, hb⟩ => ⟨by rw [he]; simp, hb⟩
theorem setC_le (m : MapC) (o : OpT) : (setC m o).2.2 ≤ 12 := by
  unfold setC
  split
  · show opErr o ≤ 12
    unfold opErr
    repeat' split
    all_goals omega
  · split
    · show 5 ≤ 12; omega
    · show 0 ≤ 12; omega

namespace cellsSets
theorem walk_early {F : Nat → Bool} (ea : Nat → Addr) (A : Option Addr) (n c : Nat) (L : List OpT) (nd : Int) (nm : ByteArray) (w : World) (hG : Gd F ea w) (f2 : F 2 = true) (f3 : F 3 = true) (f4 : F 4 = true) (f5 : F 5 = true)
    (hs : SlV opE w (.slice A n c) L) (hc : c ≤ maxLen) (h : longOps 60 L = true ∨ longOps 60 L = false ∧ (60 : Int) < (nm.size : Int)) :
    Calls Tryd.prog 6 #[.slice A n c, .int .i64 nd, .string nm] w fun e w' => e = .returned (.bool true) ∧ Below w.heap.size w w' := by
  have hcap := hs.cap
  have HC := Lib.hid (celled_any ea w hG f2 f3 f4 f5)
  have HL : Hid (∀ w', Below w.heap.size w w' → Calls Tryd.prog 10 #[.slice A n c, .int .i64 (60 : Nat)] w' fun e w'' => e = .returned (.int .i64 (if longOps 60 L then 1 else 0)) ∧ w'' = w') := Lib.hid fun w' hb => longOps_any A n c 60 L w' (hs.below hb) (by omega) (by omega)
  obtain ⟨lo, hlo⟩ : ∃ lo, longOps 60 L = lo := ⟨_, rfl⟩
  rw [hlo] at HL h
  clear hG hs hlo hcap
  rcases h with rfl | ⟨rfl, hn⟩
  all_goals
    go_enter Tryd.func6, Tryd.ntmps6
    go_wp2_with fail
    refine HC.out.mono ?_
    rintro r w1 ⟨rfl, hb⟩
    have HB1 := Lib.hid hb
    clear hb
    go_wp2_with fail
    refine (HL.out _ HB1.out).mono ?_
    rintro r w2 ⟨rfl, rfl⟩
    go_wp2_with fail
    go_ret
    exact ⟨rfl, HB1.out⟩

theorem walk {F : Nat → Bool} (ea : Nat → Addr) (A : Option Addr) (n c : Nat) (L : List OpT) (nd : Int) (nm : ByteArray) (w : World) (hG : Gd F ea w) (hF : ∀ k, 1 ≤ k → k ≤ 12 → F k = true) (f20 : F 20 = true)
    (hs : SlV opE w (.slice A n c) L) (hc : c ≤ maxLen) (hwf : ∀ x ∈ L, (x.nm.size ≤ 100000 → x.vl.size ≤ 100000 → x.Wf)) (hd1 : -9223372036854775808 ≤ nd) (hd2 : nd ≤ 9223372036854775807) :
    Calls Tryd.prog 6 #[.slice A n c, .int .i64 nd, .string nm] w fun e w' => e = .returned (.bool true) ∧ Below w.heap.size w w' := by
  have f2 := hF 2 (by omega) (by omega)
  have f3 := hF 3 (by omega) (by omega)
  have f4 := hF 4 (by omega) (by omega)
  have f5 := hF 5 (by omega) (by omega)
  by_cases hE : longOps 60 L = true ∨ longOps 60 L = false ∧ (60 : Int) < (nm.size : Int)
  · exact walk_early ea A n c L nd nm w hG f2 f3 f4 f5 hs hc hE
  obtain ⟨lo, hlo⟩ : ∃ lo, longOps 60 L = lo := ⟨_, rfl⟩
  have hlof : lo = false := by cases lo <;> simp_all
  subst hlof
  have hnm : ¬ (60 : Int) < (nm.size : Int) := fun h => hE (.inr ⟨hlo, h⟩)
  have HKk : Hid (KeyOk (nd, nm)) := Lib.hid ⟨hd1, hd2, by show nm.size ≤ maxLen; unfold maxLen; omega⟩
  have hcap := hs.cap
  have HC := Lib.hid (celled_any ea w hG f2 f3 f4 f5)
  have HLo : Hid (∀ w', Below w.heap.size w w' → Calls Tryd.prog 10 #[.slice A n c, .int .i64 (60 : Nat)] w' fun e w'' => e = .returned (.int .i64 0) ∧ w'' = w') := Lib.hid fun w' hb => by
    have := longOps_any A n c 60 L w' (hs.below hb) (by omega) (by omega)
    rw [hlo] at this
    exact this
  have hlen : n = L.length := hs.len
  have hno : L.length ≤ 60 ∧ ∀ x ∈ L, longOp x = false := by
    unfold longOps at hlo
    rw [Bool.or_eq_false_iff, decide_eq_false_iff_not, List.any_eq_false] at hlo
    exact ⟨by omega, fun x hx => by simpa using hlo.2 x hx⟩
  have HW : Hid (∀ x ∈ L, x.Wf) := Lib.hid fun x hx => by
    have h := hno.2 x hx
    simp only [longOp, Bool.or_eq_false_iff, decide_eq_false_iff_not] at h
    exact hwf x hx (by omega) (by omega)
  have hn60 : n ≤ 60 := by omega
  have HN := Lib.hid hlen
  have HS := Lib.hid hs
  have HG := Lib.hid hG
  have HFl := Lib.hid hF
  clear hG hs hlo hcap hE hwf hno hlen hF hd1 hd2
  go_enter Tryd.func6, Tryd.ntmps6
  go_wp2_with fail
  refine HC.out.mono ?_
  rintro r w1 ⟨rfl, hb⟩
  have HB1 := Lib.hid hb
  clear hb HC
  go_wp2_with fail
  refine (HLo.out _ HB1.out).mono ?_
  rintro r w2 ⟨rfl, rfl⟩
  clear HLo
  go_wp2_with fail
  refine (cellsNew_any _).mono ?_
  rintro r w2 ⟨C, b, rfl, hS, hb⟩
  have hB2 := HB1.out.trans (hb.mono HB1.out.size)
  have HK : Hid (K2 w C b 0 (fun _ => none) w2.heap.size (.slice none 0 0) [] (w2.alloc (.cells #[.slice none 0 0] 59))) := Lib.hid (by
    have hlC := hS.lt
    have hlb := hS.mt.lt
    have hba : ∀ o, Below w2.heap.size w2 (w2.alloc o) := fun o => (Below.refl _ _).alloc (Nat.le_refl _) o
    refine ⟨(hS.lower HB1.out.size).below (hba _), ⟨by simp [go_sem], fun o => by simp [go_sem], Rw.nil _ _ _ _, by simp [Value.ownBlock], hB2.size⟩, Rep.start, by simp, ?_, ?_, hB2.trans ((hba _).mono hB2.size)⟩
    · rintro (e | e)
      · omega
      · simp [Value.ownBlock] at e
    · rintro (e | e)
      · omega
      · simp [Value.ownBlock] at e)
  clear hS hb hB2
  go_wp2_with fail
  obtain ⟨MB, hMB⟩ : ∃ MB, MB = w2.heap.size := ⟨_, rfl⟩
  obtain ⟨W, hW⟩ : ∃ W, W = w2.alloc (.cells #[.slice none 0 0] 59) := ⟨_, rfl⟩
  rw [← hW, ← hMB] at HK
  rw [← hW, ← hMB]
  clear hW hMB
  go_loopw [10] (fun v10 wr => ∃ (i : Nat) (m : MapC) (v : Value) (D : List DMk), i ≤ n ∧ v10 = .int .i64 i ∧ K2 w C b i m MB v D wr) (fun v10 _ => n - (intOf v10).toNat)
  case atStart => exact ⟨0, _, _, _, by omega, rfl, HK.out⟩
  case round =>
    clear HK
    obtain ⟨i, m, v, D, hi, rfl, hK⟩ := hrel
    have HK := Lib.hid hK
    clear hK
    by_cases hlt : i < n
    · obtain ⟨x, hx⟩ : ∃ x, L[i]? = some x := ⟨_, List.getElem?_eq_getElem (by have := HN.out; omega)⟩
      have hxw := HW.out x (List.mem_of_getElem? hx)
      obtain ⟨xb, xo, rfl, hbl, c0, c1, c2, c3, c4, c5, c6, c7⟩ := ops_at (HS.out.below HK.out.bel) hx
      have HX := Lib.hid hx
      have i1 : (0 : Int) ≤ (i : Int) := by omega
      have i2 : (i : Int) < (n : Int) := by omega
      obtain ⟨R, hR⟩ : ∃ R, R = setC m x := ⟨_, rfl⟩
      have hRl : R.2.2 ≤ 12 := by rw [hR]; exact setC_le m x
      have HA : Hid (Calls Tryd.prog 12 #[.pointer (some ⟨C, 0, none⟩), opV x] wr fun e w' => e = .returned (.tuple #[.bool R.2.1, errW ea R.2.2]) ∧ CSt w.heap.size C b (i + 1) R.1 w' ∧ Fr (· = b) wr w') := Lib.hid (by
        rw [hR]; exact cset_any ea w.heap.size C b i m x wr hxw (HG.out.below HK.out.bel) f2 f3 f4 f5 HK.out.s (by unfold maxLen; omega))
      have HM : Hid (∀ w', Fr (· = b) wr w' → Calls Tryd.prog 26 #[.pointer (some ⟨MB, 0, none⟩), opV x] w' fun e w'' =>
          ∃ v' D', e = .returned (.tuple #[.bool R.2.1, .int .i64 (R.2.2 : Int)]) ∧ Rep D' R.1 ∧ D'.length ≤ D.length + 1 ∧ DSt w.heap.size MB v' D' w'' ∧ Fr (Own MB v) w' w'' ∧ ∀ k, v'.ownBlock = some k → v.ownBlock = some k ∨ w'.heap.size ≤ k) := Lib.hid fun w' hF => by
        have := dset_any w.heap.size MB v D m x w' hxw (Nat.le_trans HK.out.bel.size hF.size) (by have := HK.out.len; omega) (HK.out.mid hF) HK.out.rep
        rw [hR]; exact this
      have HCo : Hid (∀ w', Below w.heap.size w w' → Calls Tryd.prog 27 #[errW ea R.2.2, .int .i64 (R.2.2 : Int)] w' fun e w'' => e = .returned (.bool true) ∧ Below w'.heap.size w' w'') := Lib.hid fun w' hb => coded1W ea R.2.2 w' hRl (HG.out.below hb) HFl.out f20
      obtain ⟨m2, is, k2⟩ := R
      dsimp only at HA HM HCo
      generalize errW ea k2 = E at HA HCo
      clear hx hbl hR hRl hxw
      go_wp2_with fail
      refine HA.out.mono ?_
      rintro r w3 ⟨rfl, hS3, hF3⟩
      obtain ⟨_, _, he3, _, d0, d1, d2, d3, d4, d5, d6, d7⟩ := ops_at (HS.out.below (HK.out.s.bel hF3 HK.out.bel HK.out.bel.size)) HX.out
      cases he3
      have HS3 := Lib.hid hS3
      have HF3 := Lib.hid hF3
      clear hS3 hF3 HA c0 c1 c2 c3 c4 c5 c6 c7
      go_wp2_with fail
      refine (HM.out _ HF3.out).mono ?_
      rintro r w4 ⟨v4, D4, rfl, hr4, hl4, hD4, hF4, hv4⟩
      have hK4 := HK.out.step HS3.out HF3.out hD4 hr4 (by have := HK.out.len; omega) hF4 hv4
      have HK4 := Lib.hid hK4
      have hii : (is != is) = false := by simp
      clear hr4 hl4 hD4 hF4 hv4 hK4 HS3 HF3 HM HK d0 d1 d2 d3 d4 d5 d6 d7
      go_wp2_with fail
      refine (HCo.out _ HK4.out.bel).mono ?_
      rintro r w5 ⟨rfl, hb5⟩
      have HK5 := Lib.hid (HK4.out.below hb5)
      clear hb5 HK4 HCo
      go_wp2_with fail
      go_roundw
      case rel => exact ⟨i + 1, _, _, _, by omega, by go_num, HK5.out⟩
      case measure => simp [intOf] <;> omega
    · have hlt2 : ¬ (i : Int) < (n : Int) := by omega
      have hDl : D.length ≤ 60 := by have := HK.out.len; omega
      have HMa := Lib.hid (marks_any w.heap.size C b i m wr HK.out.s (by omega))
      go_wp2_with fail
      refine HMa.out.mono ?_
      rintro r w3 ⟨v3, ks, rfl, hR3, p3, q3, _, hb3⟩
      have hmk := HK.out.rep.marks p3 q3
      rw [hmk] at hR3
      obtain ⟨A3, m3, c3, rfl⟩ := hR3.slice
      have HK3 := Lib.hid (HK.out.below hb3)
      have HSm := Lib.hid (sameMarks_any A3 m3 c3 w.heap.size MB v D w3 (by omega) HK3.out.d hR3.sl)
      clear hR3 p3 q3 hb3 hmk HMa HK
      go_wp2_with fail
      refine HSm.out.mono ?_
      rintro r w4 ⟨rfl, hb4⟩
      have HK4 := Lib.hid (HK3.out.below hb4)
      have HGt := Lib.hid (cget_any w.heap.size C b i m (nd, nm) w4 HK4.out.s HKk.out)
      clear hb4 HSm HK3
      have hsl := HK4.out.d.own.sl
      obtain ⟨A2, cc2, hv2, _⟩ := hsl.form
      obtain ⟨q, hq⟩ : ∃ q, q = D.length := ⟨_, rfl⟩
      have HQ := Lib.hid hq
      have hq60 : q ≤ 60 := by omega
      rw [← hq] at hv2
      subst hv2
      clear hsl hq
      obtain ⟨mk, hmk⟩ : ∃ mk, m (nd, nm) = mk := ⟨_, rfl⟩
      rw [hmk] at HGt
      have HMk := Lib.hid hmk
      clear hmk
      cases mk with
      | none =>
        dsimp only at HGt
        have hno : Hid (∀ x ∈ D, x.key ≠ (nd, nm)) := Lib.hid fun x hx e => by have := HK4.out.rep.at' hx; rw [e, HMk.out] at this; cases this
        go_wp2_with fail
        refine HGt.out.mono ?_
        rintro r w5 ⟨rfl, hb5⟩
        have HK5 := Lib.hid ((HK4.out.below hb5).below ((Below.refl _ _).alloc (Nat.le_refl _) (.cells #[.int .i64 0, .int .i64 0] 26)))
        have hs0 : (w5.alloc (.cells #[.int .i64 0, .int .i64 0] 26)).cell? ⟨w5.heap.size, 0, none⟩ = some (.int .i64 0) ∧ (w5.alloc (.cells #[.int .i64 0, .int .i64 0] 26)).cell? ⟨w5.heap.size, 1, none⟩ = some (.int .i64 0) := ⟨by simp [go_sem], by simp [go_sem]⟩
        have hes : ∀ w, (Op.equalIn 10000 26 (.agg #[.int .i64 0, .int .i64 0]) (.agg #[.int .i64 0, .int .i64 0])).run Tryd.prog w = .ok true w := fun w => by rw [eqStamp_run]; simp
        clear hb5 HGt HK4
        go_wp2_with fail
        obtain ⟨SB, hSB⟩ : ∃ SB, SB = w5.heap.size := ⟨_, rfl⟩
        obtain ⟨W5, hW5⟩ : ∃ W5, W5 = w5.alloc (.cells #[.int .i64 0, .int .i64 0] 26) := ⟨_, rfl⟩
        rw [← hW5] at HK5 hs0
        rw [← hSB] at hs0
        rw [← hW5, ← hSB]
        have HS0 := Lib.hid hs0
        clear hW5 hSB hs0
        go_loopw [18] (fun v18 wr => ∃ j : Nat, j ≤ q ∧ v18 = .int .i64 j ∧ Hid (∀ p y, p < j → D[p]? = some y → y.key ≠ (nd, nm)) ∧ Hid (Below W5.heap.size W5 wr)) (fun v18 _ => q - (intOf v18).toNat)
        case atStart => exact ⟨0, by omega, rfl, Lib.hid (fun p y hp => by omega), Lib.hid (Below.refl _ _)⟩
        case round =>
          obtain ⟨j, hj, rfl, HNo, HB⟩ := hrel
          have HKr := Lib.hid (HK5.out.below HB.out)
          have p0 := HKr.out.d.ptr
          by_cases hlt3 : j < q
          · obtain ⟨y, hy⟩ : ∃ y, D[j]? = some y := ⟨_, List.getElem?_eq_getElem (by have := HQ.out; omega)⟩
            obtain ⟨yb, yo, rfl, _, cc⟩ := HKr.out.d.own.sl.at' (by decide) hy
            have c0 := cc 0 (.int .i64 y.nd) rfl
            have c1 := cc 1 (.string y.nm) rfl
            have c2 := cc 2 (.string y.vl) rfl
            have c3 := cc 3 (.int .i64 y.t) rfl
            have c4 := cc 4 (.int .i64 y.b) rfl
            rw [show dmkE.k = 5 from rfl] at c0 c1 c2 c3 c4
            rw [Nat.add_zero] at c0
            rw [← Nat.add_assoc] at c1 c2 c3 c4
            have HY := Lib.hid hy
            have j1 : (0 : Int) ≤ (j : Int) := by omega
            have j2 : (j : Int) < (q : Int) := by omega
            clear hy cc
            cases h1 : (y.nd == nd) with
            | false =>
              have HNo1 : Hid (∀ p z, p < j + 1 → D[p]? = some z → z.key ≠ (nd, nm)) := Lib.hid fun p z hp hz e => by
                by_cases hpj : p = j
                · subst hpj; rw [HY.out] at hz; cases hz
                  have e1 : y.nd = nd := congrArg Prod.fst e
                  rw [e1] at h1; simp at h1
                · exact HNo.out p z (by omega) hz e
              go_wp2_with fail
              go_roundw
              case rel => exact ⟨j + 1, by omega, by go_num, HNo1, HB⟩
              case measure => simp [intOf] <;> omega
            | true =>
              cases h2 : (y.nm.toList == nm.toList) with
              | false =>
                have HNo1 : Hid (∀ p z, p < j + 1 → D[p]? = some z → z.key ≠ (nd, nm)) := Lib.hid fun p z hp hz e => by
                  by_cases hpj : p = j
                  · subst hpj; rw [HY.out] at hz; cases hz
                    have e1 : y.nm = nm := congrArg Prod.snd e
                    rw [e1] at h2; simp at h2
                  · exact HNo.out p z (by omega) hz e
                go_wp2_with fail
                go_roundw
                case rel => exact ⟨j + 1, by omega, by go_num, HNo1, HB⟩
                case measure => simp [intOf] <;> omega
              | true =>
                have hkey : y.key = (nd, nm) := Prod.ext (beq_iff_eq.1 h1) (toList_inj (beq_iff_eq.1 h2))
                exact absurd hkey (hno.out y (List.mem_of_getElem? HY.out))
          · have j2 : ¬ (j : Int) < (q : Int) := by omega
            obtain ⟨s0, s1⟩ := HS0.out
            have s2 := cell_keep HB.out s0
            have s3 := cell_keep HB.out s1
            have HBf := Lib.hid HKr.out.bel
            go_wp2_with fail
            go_ret
            exact ⟨rfl, HBf.out⟩
      | some cl =>
        dsimp only at HGt
        have HGt2 : Hid (Calls Tryd.prog 29 #[.pointer (some ⟨C, 0, none⟩), .int .i64 nd, .string nm] w4 fun e w' => e = .returned (.tuple #[.string cl.v, .agg #[.int .i64 cl.t, .int .i64 cl.b], .bool true]) ∧ Below w4.heap.size w4 w') := Lib.hid HGt.out
        clear HGt
        go_wp2_with fail
        refine HGt2.out.mono ?_
        rintro r w5 ⟨rfl, hb5⟩
        have HK5 := Lib.hid ((HK4.out.below hb5).below ((Below.refl _ _).alloc (Nat.le_refl _) (.cells #[.int .i64 cl.t, .int .i64 cl.b] 26)))
        have hs0 : (w5.alloc (.cells #[.int .i64 cl.t, .int .i64 cl.b] 26)).cell? ⟨w5.heap.size, 0, none⟩ = some (.int .i64 cl.t) ∧ (w5.alloc (.cells #[.int .i64 cl.t, .int .i64 cl.b] 26)).cell? ⟨w5.heap.size, 1, none⟩ = some (.int .i64 cl.b) := ⟨by simp [go_sem], by simp [go_sem]⟩
        clear hb5 HGt2 HK4
        go_wp2_with fail
        obtain ⟨SB, hSB⟩ : ∃ SB, SB = w5.heap.size := ⟨_, rfl⟩
        obtain ⟨W5, hW5⟩ : ∃ W5, W5 = w5.alloc (.cells #[.int .i64 cl.t, .int .i64 cl.b] 26) := ⟨_, rfl⟩
        rw [← hW5] at HK5 hs0
        rw [← hSB] at hs0
        rw [← hW5, ← hSB]
        have HS0 := Lib.hid hs0
        clear hW5 hSB hs0
        go_loopw [18] (fun v18 wr => ∃ j : Nat, j ≤ q ∧ v18 = .int .i64 j ∧ Hid (∀ p y, p < j → D[p]? = some y → y.key ≠ (nd, nm)) ∧ Hid (Below W5.heap.size W5 wr)) (fun v18 _ => q - (intOf v18).toNat)
        case atStart => exact ⟨0, by omega, rfl, Lib.hid (fun p y hp => by omega), Lib.hid (Below.refl _ _)⟩
        case round =>
          obtain ⟨j, hj, rfl, HNo, HB⟩ := hrel
          have HKr := Lib.hid (HK5.out.below HB.out)
          have p0 := HKr.out.d.ptr
          by_cases hlt3 : j < q
          · obtain ⟨y, hy⟩ : ∃ y, D[j]? = some y := ⟨_, List.getElem?_eq_getElem (by have := HQ.out; omega)⟩
            obtain ⟨yb, yo, rfl, _, cc⟩ := HKr.out.d.own.sl.at' (by decide) hy
            have c0 := cc 0 (.int .i64 y.nd) rfl
            have c1 := cc 1 (.string y.nm) rfl
            have c2 := cc 2 (.string y.vl) rfl
            have c3 := cc 3 (.int .i64 y.t) rfl
            have c4 := cc 4 (.int .i64 y.b) rfl
            rw [show dmkE.k = 5 from rfl] at c0 c1 c2 c3 c4
            rw [Nat.add_zero] at c0
            rw [← Nat.add_assoc] at c1 c2 c3 c4
            have HY := Lib.hid hy
            have j1 : (0 : Int) ≤ (j : Int) := by omega
            have j2 : (j : Int) < (q : Int) := by omega
            clear hy cc
            cases h1 : (y.nd == nd) with
            | false =>
              have HNo1 : Hid (∀ p z, p < j + 1 → D[p]? = some z → z.key ≠ (nd, nm)) := Lib.hid fun p z hp hz e => by
                by_cases hpj : p = j
                · subst hpj; rw [HY.out] at hz; cases hz
                  have e1 : y.nd = nd := congrArg Prod.fst e
                  rw [e1] at h1; simp at h1
                · exact HNo.out p z (by omega) hz e
              go_wp2_with fail
              go_roundw
              case rel => exact ⟨j + 1, by omega, by go_num, HNo1, HB⟩
              case measure => simp [intOf] <;> omega
            | true =>
              cases h2 : (y.nm.toList == nm.toList) with
              | false =>
                have HNo1 : Hid (∀ p z, p < j + 1 → D[p]? = some z → z.key ≠ (nd, nm)) := Lib.hid fun p z hp hz e => by
                  by_cases hpj : p = j
                  · subst hpj; rw [HY.out] at hz; cases hz
                    have e1 : y.nm = nm := congrArg Prod.snd e
                    rw [e1] at h2; simp at h2
                  · exact HNo.out p z (by omega) hz e
                go_wp2_with fail
                go_roundw
                case rel => exact ⟨j + 1, by omega, by go_num, HNo1, HB⟩
                case measure => simp [intOf] <;> omega
              | true =>
                have hkey : y.key = (nd, nm) := Prod.ext (beq_iff_eq.1 h1) (toList_inj (beq_iff_eq.1 h2))
                have hcl : y.cell = cl := by
                  have := HKr.out.rep.at' (List.mem_of_getElem? HY.out)
                  rw [hkey, HMk.out] at this
                  exact (Option.some.inj this).symm
                have hv1 : y.vl = cl.v := congrArg CellT.v hcl
                have hv2 : y.t = cl.t := congrArg CellT.t hcl
                have hv3 : y.b = cl.b := congrArg CellT.b hcl
                rw [hv1] at c2
                rw [hv2] at c3
                rw [hv3] at c4
                obtain ⟨s0, s1⟩ := HS0.out
                have s2 := cell_keep HB.out s0
                have s3 := cell_keep HB.out s1
                have e3 : (cl.v.toList == cl.v.toList) = true := by simp
                have hes : ∀ w, (Op.equalIn 10000 26 (.agg #[.int .i64 cl.t, .int .i64 cl.b]) (.agg #[.int .i64 cl.t, .int .i64 cl.b])).run Tryd.prog w = .ok true w := fun w => by rw [eqStamp_run]; simp
                have HBq := Lib.hid (fun nq => below_drawn HKr.out.bel nq)
                clear hkey hcl hv1 hv2 hv3
                go_wp2_with fail
                go_quiet (fail)
                rename_i nq
                have HBf := Lib.hid (HBq.out nq)
                go_wp2_with fail
                go_ret
                exact ⟨rfl, HBf.out⟩
          · have j2 : ¬ (j : Int) < (q : Int) := by omega
            exact absurd ((HKr.out.rep.is (nd, nm) cl).1 HMk.out) (fun ⟨z, hz, hzk, _⟩ => by
              obtain ⟨p, hp⟩ := List.mem_iff_getElem?.1 hz
              have := (List.getElem?_eq_some_iff.1 hp).1
              exact HNo.out p z (by have := HQ.out; omega) hp hzk)
end cellsSets
end Go.Proofs.YtneggbhjekklhaaDoor
