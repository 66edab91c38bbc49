/- Operations: their texts, by the document, by the program. -/
import Derived.Test.YtneggbhjekklhaaDoorOps
import Derived.Test.YtneggbhjekklhaaDoorHex2
import Derived.Test.YtneggbhjekklhaaDoorDec
import Derived.Deep.AppendLies
import Derived.Deep.RegionHeldLaw
import Derived.Laws.OwnMore
namespace Go.Proofs.YtneggbhjekklhaaDoor
open Go Go.RowKit
set_option linter.unusedVariables false
set_option linter.unusedSimpArgs false
set_option maxHeartbeats 4000000
set_option maxRecDepth 100000

/-- the words of an operation's text -/
def opWords (o : OpT) : List (List UInt8) := [[UInt8.ofNat o.k.toNat], Lib.itoa o.t, Lib.itoa o.b, Lib.itoa o.n, Lib.itoa o.nd, Lib.itoa o.ot, o.nm.data.toList, hexL o.vl.data.toList]
def opTextL (o : OpT) : List UInt8 := Lib.join (opWords o) [124]

theorem kind_ok {o : OpT} (h : opErr o = 0) : o.k = 109 ∨ o.k = 105 ∨ o.k = 100 ∨ o.k = 115 := by
  unfold opErr at h
  split at h
  · cases h
  · split at h
    · cases h
    · next hk => exact Decidable.of_not_not hk
theorem kind_text {k : Int} (h : k = 109 ∨ k = 105 ∨ k = 100 ∨ k = 115) : Utf8.encode (wrap32 k) = S [UInt8.ofNat k.toNat] := by
  rcases h with rfl | rfl | rfl | rfl <;> decide +kernel

theorem opText_bad {F : Nat → Bool} (ea : Nat → Addr) (o : OpT) (w : World) (hw : o.Wf) (hG : Gd F ea w) (f2 : F 2 = true) (f3 : F 3 = true) (f4 : F 4 = true) (f5 : F 5 = true) (he : opErr o ≠ 0) :
    Calls Tryd.prog 35 #[opV o] w fun e w' => e = .returned (.tuple #[.string ⟨#[]⟩, errW ea (opErr o)]) ∧ Below w.heap.size w w' := by
  have HC : Hid (∀ w, Gd F ea w → Calls Tryd.prog 37 #[opV o] w fun e w' => e = .returned (errV (ea (opErr o))) ∧ Below w.heap.size w w') := Lib.hid fun w hG => by
    have := check_any ea o w hw hG f2 f3 f4 f5
    unfold errW at this
    rwa [if_neg he] at this
  have H : Hid (errW ea (opErr o) = errV (ea (opErr o))) := by unfold errW; rw [if_neg he]; exact Lib.hid rfl
  have HG := Lib.hid (hG.alloc (.cells o.cells 28))
  rw [H.out]
  clear hw hG he H
  generalize opErr o = k at HC
  go_enter Tryd.func35, Tryd.ntmps35
  go_wp2_with fail
  refine (HC.out _ HG.out).mono ?_
  rintro e w1 ⟨rfl, hb⟩
  have HB := Lib.hid (((Below.refl _ w).alloc (Nat.le_refl _) _).trans (hb.mono (by simp)))
  clear hb
  go_wp2_with fail
  go_ret2
  exact ⟨rfl, HB.out⟩

/-- the numbers of an operation's text -/
def opNums (o : OpT) : Nat → Int | 0 => o.t | 1 => o.b | 2 => o.n | 3 => o.nd | _ => o.ot
theorem opNums_range {o : OpT} (h : o.Wf) (j : Nat) : -9223372036854775808 ≤ opNums o j ∧ opNums o j ≤ 9223372036854775807 := by
  match j with
  | 0 => exact ⟨h.t1, h.t2⟩
  | 1 => exact ⟨h.b1, h.b2⟩
  | 2 => exact ⟨h.n1, h.n2⟩
  | 3 => exact ⟨h.nd1, h.nd2⟩
  | _ + 4 => exact ⟨h.ot1, h.ot2⟩
def opHead (o : OpT) : Nat → List (List UInt8) | 0 => [[UInt8.ofNat o.k.toNat]] | j + 1 => opHead o j ++ [Lib.itoa (opNums o j)]
theorem opHead_len (o : OpT) (j : Nat) : (opHead o j).length = j + 1 := by
  induction j with
  | zero => rfl
  | succ j ih => simp [opHead, ih]

/-- in op.Text's loop: the numbers' block, the words in the making -/
structure TxSt (w1 : World) (NB : Nat) (o : OpT) (v : Value) (xs : List (List UInt8)) (w : World) : Prop where
  nums : ∀ j, j < 5 → w.cell? ⟨NB, j, none⟩ = some (.int .i64 (opNums o j))
  lt : NB < w.heap.size
  ne : some NB ≠ v.ownBlock
  r : RSt w1 v xs w
theorem TxSt.below {w1 w w' : World} {NB : Nat} {o : OpT} {v : Value} {xs : List (List UInt8)} (h : TxSt w1 NB o v xs w) (hb : Below w.heap.size w w') : TxSt w1 NB o v xs w' :=
  ⟨fun j hj => (hb.cell h.lt).trans (h.nums j hj), Nat.lt_of_lt_of_le h.lt hb.size, h.ne, h.r.below hb⟩
theorem TxSt.app {w1 w w' : World} {NB g cap : Nat} {o : OpT} {v : Value} {xs : List (List UInt8)} {x : List UInt8} {ob : Obj} (h : TxSt w1 NB o v xs w)
    (hown : w'.ownsRow w1.heap.size 9 1 (.slice (some ⟨g, 0, none⟩) (xs.length + 1) cap) (xs.length + 1) (strsV xs ++ [.string (S x)])) (hg : (w.alloc ob).grownBy w' v.ownBlock)
    (hat : v.ownBlock = some g ∨ g = w.heap.size + 1) : TxSt w1 NB o (.slice (some ⟨g, 0, none⟩) (xs.length + 1) cap) (xs ++ [x]) w' := by
  have hl := h.lt
  refine ⟨fun j hj => ?_, ?_, ?_, h.r.app hown hg⟩
  · rw [hg.cell_far ⟨NB, j, none⟩ (by simp; omega) h.ne, World.cell?_alloc_lt _ _ ⟨NB, j, none⟩ hl]
    exact h.nums j hj
  · have := hg.size
    simp at this
    omega
  · intro e
    have e2 : NB = g := Option.some.inj e
    rcases hat with ha | ha
    · exact h.ne (by rw [ha, e2])
    · omega

theorem RSt.app2 {w0 w w' : World} {v v' : Value} {xs : List (List UInt8)} {x y : List UInt8} {o : Obj} (h : RSt w0 v xs w)
    (hown : w'.ownsRow w0.heap.size 9 1 v' (xs.length + 2) (strsV xs ++ [.string (S x), .string (S y)])) (hg : (w.alloc o).grownBy w' v.ownBlock) : RSt w0 v' (xs ++ [x, y]) w' := by
  have hb : Below w0.heap.size w0 w' := (h.bel.alloc h.bel.size o).grown hg (by have := h.bel.size; simp; omega) (fun k hk => (h.own.lt k hk).1)
  exact ⟨by simpa [strsV] using hown, hb⟩
theorem opText_len {o : OpT} (h : o.Wf) : (opTextL o).length ≤ 400000 := by
  have l0 := itoa_len20 o.t h.t1 h.t2
  have l1 := itoa_len20 o.b h.b1 h.b2
  have l2 := itoa_len20 o.n h.n1 h.n2
  have l3 := itoa_len20 o.nd h.nd1 h.nd2
  have l4 := itoa_len20 o.ot h.ot1 h.ot2
  rw [S_size] at l0 l1 l2 l3 l4
  have l5 : o.nm.size ≤ 100000 := h.nm1
  have l5' : o.nm.data.size ≤ 100000 := h.nm1
  have l6 : o.vl.data.toList.length ≤ 100000 := h.vl1
  have l7 := hexL_len o.vl.data.toList
  simp only [opTextL, opWords, Lib.join, List.intercalate, List.intersperse, List.flatten, List.length_append, List.length_cons, List.length_nil]
  simp
  omega
theorem RSt.texts {w0 w : World} {g n cap : Nat} {xs : List (List UInt8)} (h : RSt w0 (.slice (some ⟨g, 0, none⟩) n cap) xs w) : ∀ (j : Nat) (x : ByteArray), (xs.map S)[j]? = some x → w.cell? ⟨g, 0 + j, none⟩ = some (.string x) := by
  intro j x hx
  have := h.own.cells (g := g) rfl j (.string x) (by
    rw [strsV, List.getElem?_map]
    rw [List.getElem?_map] at hx
    cases hj : xs[j]? with
    | none => rw [hj] at hx; cases hx
    | some y => rw [hj] at hx; simp at hx; simp [hx])
  rw [Addr.add_lit] at this
  exact this

theorem RSt.cap {w0 w : World} {g n cap m : Nat} {xs : List (List UInt8)} (h : RSt w0 (.slice (some ⟨g, 0, none⟩) n cap) xs w) (hm : m = xs.length) : m ≤ cap := by
  rcases h.own.2 with ⟨h1, _⟩ | ⟨g', cap', cur, hv, _, _, hcap, _⟩
  · cases h1
  · cases hv
    omega
theorem opWords_join (o : OpT) : Lib.join (((opWords o).map S).map (·.data.toList)) [124] = opTextL o := by
  simp [opWords, opTextL, S_list]

theorem opText_ok {F : Nat → Bool} (ea : Nat → Addr) (o : OpT) (w : World) (hw : o.Wf) (hG : Gd F ea w) (f2 : F 2 = true) (f3 : F 3 = true) (f4 : F 4 = true) (f5 : F 5 = true) (f21 : F 21 = true) (he : opErr o = 0) :
    Calls Tryd.prog 35 #[opV o] w fun e w' => e = .returned (.tuple #[.string (S (opTextL o)), .nilIface]) ∧ Below w.heap.size w w' := by
  have HC : Hid (∀ w, Gd F ea w → Calls Tryd.prog 37 #[opV o] w fun e w' => e = .returned .nilIface ∧ Below w.heap.size w w') := Lib.hid fun w hG => by
    have := check_any ea o w hw hG f2 f3 f4 f5
    unfold errW at this
    rwa [if_pos he] at this
  have HG := Lib.hid (hG.alloc (.cells o.cells 28))
  have HO := Lib.hid (OpAt.start w o 28)
  have HW := Lib.hid hw
  have hke : Utf8.encode (wrap32 o.k) = S [UInt8.ofNat o.k.toNat] := kind_text (kind_ok he)
  clear hw hG he
  go_enter Tryd.func35, Tryd.ntmps35
  go_wp2_with fail
  refine (HC.out _ HG.out).mono ?_
  rintro e w1 ⟨rfl, hb⟩
  have HB := Lib.hid (((Below.refl _ w).alloc (Nat.le_refl _) _).trans (hb.mono (by simp)))
  have HG1 := Lib.hid (HG.out.below hb)
  have hO := HO.out.below hb
  have HO1 := Lib.hid hO
  have hlt := hO.lt
  have hne : w.heap.size ≠ w1.heap.size := by omega
  clear hb HO HG HC
  obtain ⟨c0, c1, c2, c3, c4, c5, c6, c7⟩ := hO
  go_wp2_with fail
  obtain ⟨W, hW⟩ : ∃ W, W = ((w1.alloc (.cells #[.string (S [UInt8.ofNat o.k.toNat])] 9)).alloc (.cells #[.int .i64 o.t, .int .i64 o.b, .int .i64 o.n, .int .i64 o.nd, .int .i64 o.ot] 3)) := ⟨_, rfl⟩
  have hT : TxSt w1 (w1.heap.size + 1) o (.slice (some ⟨w1.heap.size, 0, none⟩) 1 1) (opHead o 0) W := by
    have hb1 : Below w1.heap.size w1 (w1.alloc (.cells #[.string (S [UInt8.ofNat o.k.toNat])] 9)) := (Below.refl _ _).alloc (Nat.le_refl _) _
    have hb2 : Below w1.heap.size w1 W := by rw [hW]; exact hb1.alloc (by simp) _
    refine ⟨?_, by rw [hW]; simp, by simp [Value.ownBlock], ⟨?_, hb2⟩⟩
    · rw [hW]
      intro j hj
      match j, hj with
      | 0, _ => simp [go_sem, opNums]
      | 1, _ => simp [go_sem, opNums]
      | 2, _ => simp [go_sem, opNums]
      | 3, _ => simp [go_sem, opNums]
      | 4, _ => simp [go_sem, opNums]
    · rw [hW]
      exact (World.ownsRow_lit (base := w1.heap.size) (e := 9) (size := 1) w1 #[.string (S [UInt8.ofNat o.k.toNat])] 1 (Nat.le_refl _) (by decide) rfl).alloc _
  rw [← hW]
  obtain ⟨NB, hNB⟩ : ∃ NB, NB = w1.heap.size + 1 := ⟨_, rfl⟩
  rw [← hNB] at hT ⊢
  clear hW hNB hke c0 c1 c2 c3 c4 c5 c6 c7
  have HT := Lib.hid hT
  clear hT
  go_loopw [5, 7, 32] (fun v5 _ v32 wr => ∃ j : Nat, v32 = .int .i64 j ∧ j ≤ 5 ∧ TxSt w1 NB o v5 (opHead o j) wr) (fun _ _ v32 _ => 5 - (intOf v32).toNat)
  case atStart => exact ⟨0, rfl, by omega, HT.out⟩
  case round =>
    obtain ⟨j, rfl, hj, hT⟩ := hrel
    clear HT
    have HT := Lib.hid hT
    clear hT
    by_cases hlt5 : j < 5
    · have i0 : (0 : Int) ≤ (j : Int) := by omega
      have i1 : (j : Int) < 5 := by omega
      have q0 := HT.out.nums j hlt5
      have r1 := (opNums_range HW.out j).1
      have r2 := (opNums_range HW.out j).2
      go_wp2_with fail
      refine (itoa_any ea (opNums o j) _ (HG1.out.below HT.out.r.bel) f21 r1 r2).mono ?_
      rintro e w2 ⟨rfl, hb⟩
      have HT2 := Lib.hid (HT.out.below hb)
      clear HT hb q0
      have hsz := HT2.out.r.bel.size
      have hl := opHead_len o j
      obtain ⟨i0', hi, hz0, hz1, hz2⟩ := info_parts infoStr
      go_wp2_with (at_builtin; refine wpList_append_lies _ rfl _ _ 123 rfl w1.heap.size 9 i0' (.string ⟨#[]⟩) 1 16 Tryd.underlying123 hi hz0 hz1 hz2 rfl (by decide) _ _ _ rfl (HT2.out.r.own.alloc _) ⟨w2.heap.size, 0, none⟩ 1 1 [.string (S (Lib.itoa (opNums o j)))] rfl rfl ?a1 ?a2 (by decide) ?a3 ?a4 ?a5 (w2.heap.size + 1) (by simp) ?_)
      case a1 => intro jj u hjj; match jj, hjj with | 0, hjj => simp at hjj; subst hjj; simp [Addr.add]
      case a2 => intro u hu; simp at hu; subst hu; rfl
      case a3 => unfold maxLen; omega
      case a4 => omega
      case a5 => first | omega | (simp; omega)
      intro g cap wF hown' hgrow hat _
      have hT3 := HT2.out.app (by rw [hl]; exact hown') hgrow hat
      rw [hl] at hT3
      have HT3 := Lib.hid hT3
      clear hown' hgrow hat hT3 hi hz0 hz1 hz2 hsz
      go_wp2_with fail
      go_roundw
      case rel => exact ⟨j + 1, by go_num, by omega, HT3.out⟩
      case measure => simp [intOf]; omega
    · have hj5 : j = 5 := by omega
      subst hj5
      clear hlt5 hj
      have hO := HO1.out.below HT.out.r.bel
      have c6 := hO.c6
      have c7 := hO.c7
      clear hO
      have HM : Hid (∀ w', Below w1.heap.size w1 w' → Below w1.heap.size w1 w' ∧ w'.cell? ⟨w.heap.size, 6, none⟩ = some (.string (S o.nm.data.toList)) ∧ w'.cell? ⟨w.heap.size, 7, none⟩ = some (.string o.vl)) := Lib.hid fun w' hb => ⟨hb, by rw [S_of]; exact (HO1.out.below hb).c6, (HO1.out.below hb).c7⟩
      have HX : Hid (∀ w, Calls Tryd.prog 65 #[.string o.vl] w fun e w' => e = .returned (.string (S (hexL o.vl.data.toList))) ∧ Below w.heap.size w w') := Lib.hid fun w => opHex_any o.vl w HW.out.vl1
      have HR : Hid (RSt w1 u5 [[UInt8.ofNat o.k.toNat], Lib.itoa o.t, Lib.itoa o.b, Lib.itoa o.n, Lib.itoa o.nd, Lib.itoa o.ot] wr) := HT.out.r
      have hsz := HR.out.bel.size
      have HLen : Hid ((Lib.join (((opWords o).map S).map (·.data.toList)) ((⟨#[124]⟩ : ByteArray).data.toList)).length ≤ 140737488355328) := by
        have := opText_len HW.out
        have e := opWords_join o
        show (Lib.join (((opWords o).map S).map (·.data.toList)) [124]).length ≤ _
        rw [e]
        omega
      obtain ⟨i0', hi, hz0, hz1, hz2⟩ := info_parts infoStr
      clear HT
      go_wp2_with fail
      go_region_held_law (fun w' => Below w1.heap.size w1 w' ∧ w'.cell? ⟨w.heap.size, 6, none⟩ = some (.string (S o.nm.data.toList)) ∧ w'.cell? ⟨w.heap.size, 7, none⟩ = some (.string o.vl)) (first | exact HM.out _ HR.out.bel.drew | exact HM.out _ (by assumption) | exact HM.out _ (Below.alloc (by assumption) (Below.size (by assumption)) _))
        (first
          | (go_at_call 65; refine (HX.out _).mono ?_; rintro e w2 ⟨rfl, hb2⟩; have hR2 := (HR.out.below (Below.refl _ _).drew).below hb2; have hS2 := hR2.bel)
          | (refine step_append_lies _ (by rfl) _ _ _ (by rfl) w1.heap.size 9 i0' (.string ⟨#[]⟩) 1 16 Tryd.underlying123 hi hz0 hz1 hz2 rfl (by decide) _ _ _ (by rfl) (hR2.own.alloc _) ⟨w2.heap.size, 0, none⟩ 2 2 [.string (S o.nm.data.toList), .string (S (hexL o.vl.data.toList))] (by rfl) rfl (by intro jj u hjj; match jj, hjj with | 0, hjj => simp at hjj; subst hjj; simp [Addr.add] | 1, hjj => simp at hjj; subst hjj; simp [Addr.add]) (by intro u hu; simp at hu; rcases hu with rfl | rfl <;> rfl) (by decide) (by simp [maxLen]) (by simp) (by have := hS2.size; simp; omega) (w2.heap.size + 1) (by simp) ?_; intro g cap wF hown' hgrow hat hltg; have hR3 := hR2.app2 hown' hgrow; have hS3 := hR3.bel)
          | (go_at_call 64; refine (Tryd.strings_Join g 0 cap ((opWords o).map S) ⟨#[124]⟩ _ hR3.texts hltg (by simp [opWords]) (hR3.cap (by simp [opWords])) HLen.out).mono ?_; rintro e w5 ⟨rfl, hb5⟩; have hS5 := hR3.bel.trans (hb5.mono hR3.bel.size)))
      rename_i hH
      clear hH
      have hfin : Below w.heap.size w w5 := HB.out.trans (hS5.mono HB.out.size)
      have hstr : (⟨(Lib.join (((opWords o).map S).map (·.data.toList)) ((⟨#[124]⟩ : ByteArray).data.toList)).toArray⟩ : ByteArray) = S (opTextL o) := by
        rw [← opWords_join o]
        rfl
      have HF := Lib.hid hfin
      have HS := Lib.hid hstr
      clear hS5 hb5 hS3 hR3 hltg hat hgrow hown' hS2 hR2 hb2 hfin hstr hi hz0 hz1 hz2 HLen HM HX HR
      go_wp2_with fail
      go_ret2
      refine ⟨?_, HF.out⟩
      rw [← HS.out]
      rfl
end Go.Proofs.YtneggbhjekklhaaDoor
