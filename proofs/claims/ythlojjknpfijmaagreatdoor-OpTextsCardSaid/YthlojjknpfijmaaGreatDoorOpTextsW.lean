/- OpTexts: the walk. -/
import Derived.Test.YthlojjknpfijmaaGreatDoorOpEq
import Derived.Test.YthlojjknpfijmaaGreatDoorOpOf
import Derived.Test.YthlojjknpfijmaaGreatDoorOpTx2
namespace Go.Proofs.YthlojjknpfijmaaGreatDoor
open Go Go.RowKit
set_option linter.unusedVariables false
set_option linter.unusedSimpArgs false
set_option maxHeartbeats 8000000
set_option maxRecDepth 100000

theorem opOfW_wf {xs : List (List UInt8)} {o : OpT} (h : opOfW xs = some o) (hm : ∀ x ∈ xs, x.length ≤ 1000) : o.Wf := by
  unfold opOfW at h
  split at h
  · next hc =>
    obtain ⟨h8, h1, hn⟩ := hc
    have hn := (numsOk_iff _).1 hn
    have hwd : ∀ j, (wd xs j).length ≤ 1000 := fun j => by
      unfold wd
      rw [List.getD_eq_getElem?_getD]
      cases hx : xs[j]? with
      | none => simp
      | some x => exact hm x (List.mem_of_getElem? hx)
    have hb : ∀ j, j < 5 → 0 ≤ Num.numOf (wd xs (j + 1)) 10 ∧ Num.numOf (wd xs (j + 1)) 10 ≤ 9223372036854775807 := fun j hj => by
      have h3 := hn j hj
      have h4 := (Num.numOf_spec (wd xs (j + 1)) 10 (by omega) _).2 ⟨rfl, h3⟩
      have := atoi_range _ _ h4.1
      omega
    cases hu : unhexL (wd xs 7) with
    | none => rw [hu] at h; cases h
    | some v =>
      rw [hu] at h
      simp only [Option.map_some, Option.some.injEq] at h
      subst h
      have hv : v.length ≤ 1000 := by
        have h5 := hex_unhex _ v hu
        have h6 := hexL_len v
        have h7 := hwd 7
        rw [h5] at h6
        omega
      have b0 := hb 0 (by omega)
      have b1 := hb 1 (by omega)
      have b2 := hb 2 (by omega)
      have b3 := hb 3 (by omega)
      have b4 := hb 4 (by omega)
      have hcb := ((wd xs 0).headD 0).toNat_lt
      have h6 := hwd 6
      simp only [Nat.zero_add, Nat.reduceAdd] at b0 b1 b2 b3 b4
      refine ⟨?_, ?_, ?_, ?_, ?_, ?_, ?_, ?_, ?_, ?_, ?_, ?_, ?_, ?_⟩ <;> (try simp only [S_size]) <;> omega
  · cases h
theorem opRdW_wf {xs : List (List UInt8)} {o : OpT} (h : opRdW xs = (o, 0)) (hm : ∀ x ∈ xs, x.length ≤ 1000) : o.Wf := by
  unfold opRdW at h
  split at h
  · cases h
  · next o' ho =>
    split at h
    · injection h with h1 h2
      subst h1
      exact opOfW_wf ho hm
    · next he =>
      injection h with h1 h2
      exact (he h2).elim
theorem opErr_le (o : OpT) : opErr o ≤ 12 := by
  unfold opErr
  repeat' split
  all_goals omega
theorem opRdW_le (xs : List (List UInt8)) : (opRdW xs).2 ≤ 12 := by
  unfold opRdW
  split
  · show 1 ≤ 12; omega
  · split
    · show 0 ≤ 12; omega
    · exact opErr_le _
theorem codedW {F : Nat → Bool} (ea : Nat → Addr) (k : Nat) (w : World) (hk : k ≤ 12) (hG : Gd F ea w) (hF : ∀ k, 1 ≤ k → k ≤ 12 → F k = true) (f20 : F 20 = true) :
    Calls Tryz.prog 21 #[errW ea k, .int .i64 k] w fun e w' => e = .returned (.bool true) ∧ Below w.heap.size w w' :=
  (coded1_any ea (errW ea k) k (-1) k w (errW_val ea k hk w) (hG.all hF) (hG.tv f20)).mono fun _ _ ⟨he, hb⟩ => ⟨by rw [he]; simp, hb⟩
theorem idOf_any (t b : Int) (w : World) :
    Calls Tryz.prog 24 #[stampV t b] w fun e w' => e = .returned (.int .i64 (if StampOk t b then t * 4 + b else 0)) ∧ Below w.heap.size w w' := by
  by_cases h : StampOk t b
  · rw [if_pos h]; exact idOf_ok t b w h
  · rw [if_neg h]; exact idOf_bad t b w h

/-- the operation in its block, the ground -/
structure Ot (F : Nat → Bool) (ea : Nat → Addr) (w0 : World) (o : OpT) (w : World) : Prop where
  oa : OpAt w w0.heap.size o
  gd : Gd F ea w
  bel : Below w0.heap.size w0 w
theorem Ot.below {F : Nat → Bool} {ea : Nat → Addr} {w0 w w' : World} {o : OpT} (h : Ot F ea w0 o w) (hb : Below w.heap.size w w') : Ot F ea w0 o w' :=
  ⟨h.oa.below hb, h.gd.below hb, h.bel.trans (hb.mono h.bel.size)⟩
theorem Ot.start {F : Nat → Bool} {ea : Nat → Addr} (w : World) (o : OpT) (t : TypeId) (hG : Gd F ea w) : Ot F ea w o (w.alloc (.cells o.cells t)) :=
  ⟨OpAt.start w o t, hG.alloc _, (Below.refl _ _).alloc (Nat.le_refl _) _⟩
namespace opTexts

theorem walk_off {F : Nat → Bool} (ea : Nat → Addr) (o : OpT) (s : ByteArray) (w : World) (hG : Gd F ea w) (f2 : F 2 = true) (f3 : F 3 = true) (f4 : F 4 = true) (f5 : F 5 = true) (f21 : F 21 = true)
    (hoff : 60 < o.nm.size ∨ (o.nm.size ≤ 60 ∧ 60 < o.vl.size) ∨ (o.nm.size ≤ 60 ∧ o.vl.size ≤ 60 ∧ 300 < s.size)) :
    Calls Tryz.prog 4 #[opV o, .string s] w fun r w' => r = .returned (.bool true) ∧ Below w.heap.size w w' := by
  have HO := Lib.hid (Ot.start w o 46 hG)
  clear hG
  rcases hoff with h1 | ⟨h1, h2⟩ | ⟨h1, h2, h3⟩
  all_goals
    go_enter Tryz.func4, Tryz.ntmps4
    go_wp2_with fail
    refine (written_any ea _ HO.out.gd f2 f3 f4 f5 f21).mono ?_
    rintro r w1 ⟨rfl, hb⟩
    have hO := HO.out.below hb
    have HB := Lib.hid hO.bel
    obtain ⟨c0, c1, c2, c3, c4, c5, c6, c7⟩ := hO.oa
    clear hO hb HO
    go_wp2_with fail
    go_ret
    exact ⟨by simp, HB.out⟩

theorem walk_on {F : Nat → Bool} (ea : Nat → Addr) (o : OpT) (s : ByteArray) (w : World) (hG : Gd F ea w) (hF : ∀ k, 1 ≤ k → k ≤ 12 → F k = true) (f20 : F 20 = true) (f21 : F 21 = true) (f22 : F 22 = true)
    (h1 : o.nm.size ≤ 60) (h2 : o.vl.size ≤ 60) (h3 : s.size ≤ 300) (wo : o.Wf) :
    Calls Tryz.prog 4 #[opV o, .string s] w fun r w' => r = .returned (.bool true) ∧ Below w.heap.size w w' := by
  have f1 := hF 1 (by omega) (by omega)
  have f2 := hF 2 (by omega) (by omega)
  have f3 := hF 3 (by omega) (by omega)
  have f4 := hF 4 (by omega) (by omega)
  have f5 := hF 5 (by omega) (by omega)
  have HO := Lib.hid (Ot.start w o 46 hG)
  have HF := Lib.hid hF
  -- the operation's own part
  obtain ⟨k, hk⟩ : ∃ k, k = opErr o := ⟨_, rfl⟩
  have hk12 : k ≤ 12 := by rw [hk]; exact opErr_le o
  obtain ⟨ev, hev⟩ : ∃ ev, ev = errW ea k := ⟨_, rfl⟩
  obtain ⟨idv, hid⟩ : ∃ idv : Int, idv = if StampOk o.t o.b then o.t * 4 + o.b else 0 := ⟨_, rfl⟩
  obtain ⟨tx, htx⟩ : ∃ tx, tx = (if k = 0 then S (opTextL o) else ⟨#[]⟩) := ⟨_, rfl⟩
  have HErr : Hid (∀ w, Calls Tryz.prog 19 #[opV o] w fun e w' => e = .returned (.int .i64 k) ∧ Below w.heap.size w w') := Lib.hid fun w => by rw [hk]; exact opError_any o w wo
  have HText : Hid (∀ w, Gd F ea w → Calls Tryz.prog 20 #[opV o] w fun e w' => e = .returned (.tuple #[.string tx, ev]) ∧ Below w.heap.size w w') := Lib.hid fun w hg => by
    by_cases he : k = 0
    · rw [htx, if_pos he, hev, he]
      exact opText_ok ea o w wo hg f2 f3 f4 f5 f21 (by rw [← hk]; exact he)
    · rw [htx, if_neg he, hev, hk]
      exact opText_bad ea o w wo hg f2 f3 f4 f5 (by rw [← hk]; exact he)
  have CK : Hid (∀ w, Gd F ea w → Calls Tryz.prog 22 #[opV o] w fun e w' => e = .returned ev ∧ Below w.heap.size w w') := Lib.hid fun w hg => by
    rw [hev, hk]; exact check_any ea o w wo hg f2 f3 f4 f5
  have CC : Hid (∀ w, Gd F ea w → Calls Tryz.prog 21 #[ev, .int .i64 k] w fun e w' => e = .returned (.bool true) ∧ Below w.heap.size w w') := Lib.hid fun w hg => by
    rw [hev]; exact codedW ea k w hk12 hg HF.out f20
  have CI : Hid (∀ w, Gd F ea w → Calls Tryz.prog 23 #[opV o] w fun e w' => e = .returned (.int .i64 idv) ∧ Below w.heap.size w w') := Lib.hid fun w hg => by
    rw [hid]; exact opID_any ea o w hg f2
  have CR : Hid (∀ w, Calls Tryz.prog 24 #[stampV o.t o.b] w fun e w' => e = .returned (.int .i64 idv) ∧ Below w.heap.size w w') := Lib.hid fun w => by
    rw [hid]; exact idOf_any o.t o.b w
  have HEvn : Hid (k = 0 → ev = .nilIface) := Lib.hid fun h => by rw [hev, h]; rfl
  have HBack : Hid (k = 0 → ∀ w, Gd F ea w → Calls Tryz.prog 25 #[.string tx] w fun e w' => e = .returned (.tuple #[opV o, .nilIface]) ∧ Below w.heap.size w w') := Lib.hid fun he w hg => by
    have hsz : tx.size ≤ 1000 := by
      rw [htx, if_pos he, S_size, opTextL]
      have l1 := itoa_len20 o.t wo.t1 wo.t2
      have l2 := itoa_len20 o.b wo.b1 wo.b2
      have l3 := itoa_len20 o.n wo.n1 wo.n2
      have l4 := itoa_len20 o.nd wo.nd1 wo.nd2
      have l5 := itoa_len20 o.ot wo.ot1 wo.ot2
      rw [S_size] at l1 l2 l3 l4 l5
      have l6 : o.nm.data.toList.length ≤ 60 := h1
      have l7 : o.vl.data.toList.length ≤ 60 := h2
      have l8 := hexL_len o.vl.data.toList
      have l9 : o.nm.data.size ≤ 60 := h1
      simp only [opWords, Lib.join, List.intercalate, List.intersperse, List.flatten, List.length_append, List.length_cons, List.length_nil]
      simp
      omega
    have := opRead_any ea tx w hg f1 f2 f3 f4 f5 f21 f22 hsz
    unfold RdOp at this
    rw [htx, if_pos he, S_list, op_back (by rw [← hk]; exact he)] at this
    rw [htx, if_pos he]
    exact this
  have HRT : Hid (k = 0 → ∀ w, Calls Tryz.prog 26 #[opV o] w fun e w' => e = .returned (.string tx) ∧ Below w.heap.size w w') := Lib.hid fun he w => by
    rw [htx, if_pos he]
    exact refOpText_any o w wo
  have HTn : Hid (k ≠ 0 → tx = ⟨#[]⟩) := Lib.hid fun h => by rw [htx, if_neg h]
  have HE := Lib.hid (fun w => (eqOp_run o o w).trans (by rw [opEqB_refl]))
  -- the text's part
  have hsz : s.size ≤ 1000 := by omega
  have hm : ∀ x ∈ Num.cutL 124 s.data.toList, x.length ≤ 1000 := fun x hx => by
    have := cutL_mem 124 s.data.toList x hx
    have h4 : s.data.toList.length = s.size := rfl
    omega
  obtain ⟨ro, hro⟩ : ∃ ro, ro = (opRdW (Num.cutL 124 s.data.toList)).1 := ⟨_, rfl⟩
  obtain ⟨rk, hrk⟩ : ∃ rk, rk = (opRdW (Num.cutL 124 s.data.toList)).2 := ⟨_, rfl⟩
  obtain ⟨rv, hrv⟩ : ∃ rv, rv = errW ea rk := ⟨_, rfl⟩
  have hpair : opRdW (Num.cutL 124 s.data.toList) = (ro, rk) := by rw [hro, hrk]
  have SR : Hid (∀ w, Gd F ea w → Calls Tryz.prog 25 #[.string s] w fun e w' => e = .returned (.tuple #[opV ro, rv]) ∧ Below w.heap.size w w') := Lib.hid fun w hg => by
    have := opRead_any ea s w hg f1 f2 f3 f4 f5 f21 f22 hsz
    unfold RdOp at this
    rw [hpair] at this
    rw [hrv]
    exact this
  have SO : Hid (∀ w, Calls Tryz.prog 27 #[.string s] w fun e w' => e = .returned (.tuple #[opV ro, .int .i64 rk]) ∧ Below w.heap.size w w') := Lib.hid fun w => by
    have := opOf_any s w hsz
    unfold RfOp at this
    rw [hpair] at this
    exact this
  have SC : Hid (∀ w, Gd F ea w → Calls Tryz.prog 21 #[rv, .int .i64 rk] w fun e w' => e = .returned (.bool true) ∧ Below w.heap.size w w') := Lib.hid fun w hg => by
    rw [hrv]; exact codedW ea rk w (by rw [hrk]; exact opRdW_le _) hg HF.out f20
  have SE := Lib.hid (fun w => (eqOp_run ro ro w).trans (by rw [opEqB_refl]))
  have ST : Hid (rk = 0 → ∀ w, Gd F ea w → Calls Tryz.prog 20 #[opV ro] w fun e w' => e = .returned (.tuple #[.string s, .nilIface]) ∧ Below w.heap.size w w') := Lib.hid fun he w hg => by
    rw [he] at hpair
    have h5 := op_rd_ok hpair
    have h6 := opRdW_wf hpair hm
    have := opText_ok ea ro w h6 hg f2 f3 f4 f5 f21 h5.1
    rw [h5.2, S_of] at this
    exact this
  have lim : Hid (∀ w', Ot F ea w o w' → w'.cell? ⟨w.heap.size, 0, none⟩ = some (.int .i64 o.t) ∧ w'.cell? ⟨w.heap.size, 1, none⟩ = some (.int .i64 o.b) ∧ w'.cell? ⟨w.heap.size, 2, none⟩ = some (.int .i64 o.n) ∧ w'.cell? ⟨w.heap.size, 3, none⟩ = some (.int .u8 o.k) ∧ w'.cell? ⟨w.heap.size, 4, none⟩ = some (.int .i64 o.nd) ∧ w'.cell? ⟨w.heap.size, 5, none⟩ = some (.int .i64 o.ot) ∧ w'.cell? ⟨w.heap.size, 6, none⟩ = some (.string o.nm) ∧ w'.cell? ⟨w.heap.size, 7, none⟩ = some (.string o.vl) ∧ Ot F ea w o w') := Lib.hid fun w' h => ⟨h.oa.c0, h.oa.c1, h.oa.c2, h.oa.c3, h.oa.c4, h.oa.c5, h.oa.c6, h.oa.c7, h⟩
  have gd0 : Hid (∀ w', (w'.cell? ⟨w.heap.size, 0, none⟩ = some (.int .i64 o.t) ∧ w'.cell? ⟨w.heap.size, 1, none⟩ = some (.int .i64 o.b) ∧ w'.cell? ⟨w.heap.size, 2, none⟩ = some (.int .i64 o.n) ∧ w'.cell? ⟨w.heap.size, 3, none⟩ = some (.int .u8 o.k) ∧ w'.cell? ⟨w.heap.size, 4, none⟩ = some (.int .i64 o.nd) ∧ w'.cell? ⟨w.heap.size, 5, none⟩ = some (.int .i64 o.ot) ∧ w'.cell? ⟨w.heap.size, 6, none⟩ = some (.string o.nm) ∧ w'.cell? ⟨w.heap.size, 7, none⟩ = some (.string o.vl) ∧ Ot F ea w o w') → Gd F ea w') := Lib.hid fun w' h' => (And.right (And.right (And.right (And.right (And.right (And.right (And.right (And.right h')))))))).gd
  clear hk hev hid htx hro hrk hrv hpair hm hsz wo hG hF hk12
  go_enter Tryz.func4, Tryz.ntmps4
  go_wp2_with fail
  refine (written_any ea _ HO.out.gd f2 f3 f4 f5 f21).mono ?_
  rintro r w1 ⟨rfl, hb⟩
  have hO := HO.out.below hb
  have HO1 := Lib.hid hO
  obtain ⟨c0, c1, c2, c3, c4, c5, c6, c7⟩ := hO.oa
  clear hO hb HO
  go_wp2_with fail
  refine (HErr.out _).mono ?_
  rintro r w2 ⟨rfl, hb⟩
  have hO := HO1.out.below hb
  have HO2 := Lib.hid hO
  clear c0 c1 c2 c3 c4 c5 c6 c7
  obtain ⟨c0, c1, c2, c3, c4, c5, c6, c7⟩ := hO.oa
  clear hO hb HO1
  go_wp2_with fail
  refine (HText.out _ HO2.out.gd).mono ?_
  rintro r w3 ⟨rfl, hb⟩
  have hO := HO2.out.below hb
  have HO3 := Lib.hid hO
  clear c0 c1 c2 c3 c4 c5 c6 c7
  obtain ⟨c0, c1, c2, c3, c4, c5, c6, c7⟩ := hO.oa
  clear hO hb HO2
  go_wp2_with fail
  go_region_held3 (fun w' => w'.cell? ⟨w.heap.size, 0, none⟩ = some (.int .i64 o.t) ∧ w'.cell? ⟨w.heap.size, 1, none⟩ = some (.int .i64 o.b) ∧ w'.cell? ⟨w.heap.size, 2, none⟩ = some (.int .i64 o.n) ∧ w'.cell? ⟨w.heap.size, 3, none⟩ = some (.int .u8 o.k) ∧ w'.cell? ⟨w.heap.size, 4, none⟩ = some (.int .i64 o.nd) ∧ w'.cell? ⟨w.heap.size, 5, none⟩ = some (.int .i64 o.ot) ∧ w'.cell? ⟨w.heap.size, 6, none⟩ = some (.string o.nm) ∧ w'.cell? ⟨w.heap.size, 7, none⟩ = some (.string o.vl) ∧ Ot F ea w o w') (first | exact lim.out _ (HO3.out.below (Below.drew (Below.refl _ _))) | exact lim.out _ (Ot.below (And.right (And.right (And.right (And.right (And.right (And.right (And.right (And.right (by assumption))))))))) (by assumption)))
    (first
      | (go_at_call 22; refine (CK.out _ ?_).mono ?_; (exact gd0.out _ (by assumption)); rintro r wB ⟨rfl, hbB⟩)
      | (go_at_call 21; refine (CC.out _ ?_).mono ?_; (exact gd0.out _ (by assumption)); rintro r wB ⟨rfl, hbB⟩)
      | (go_at_call 23; refine (CI.out _ ?_).mono ?_; (exact gd0.out _ (by assumption)); rintro r wB ⟨rfl, hbB⟩)
      | (go_at_call 24; refine (CR.out _).mono ?_; rintro r wB ⟨rfl, hbB⟩))
  rename_i hH
  have hO := (And.right (And.right (And.right (And.right (And.right (And.right (And.right (And.right hH))))))))
  have HO5 := Lib.hid hO
  clear hH lim gd0 HO3 CK CC CI CR HErr HText c0 c1 c2 c3 c4 c5 c6 c7
  by_cases hk0 : k = 0
  · have HB0 := Lib.hid (HBack.out hk0)
    have HR0 := Lib.hid (HRT.out hk0)
    have hvn := HEvn.out hk0
    subst hk0 hvn
    clear HBack HRT HTn HEvn
    obtain ⟨c0, c1, c2, c3, c4, c5, c6, c7⟩ := hO.oa
    have he := HE.out
    clear hO
    go_wp2_with fail
    refine (HB0.out _ HO5.out.gd).mono ?_
    rintro r w6 ⟨rfl, hb⟩
    have hO := HO5.out.below hb
    have HO6 := Lib.hid hO
    have hlt6 := hO.oa.lt
    have HOX := Lib.hid (Ot.below hO ((Below.refl _ _).alloc (Nat.le_refl _) (.cells o.cells 46)))
    clear c0 c1 c2 c3 c4 c5 c6 c7
    obtain ⟨c0, c1, c2, c3, c4, c5, c6, c7⟩ := hO.oa
    clear hO hb HO5
    go_wp2_with fail
    refine (HR0.out _).mono ?_
    rintro r w8 ⟨rfl, hb⟩
    have hO := HOX.out.below hb
    have HO8 := Lib.hid hO
    have hX : OpAt w8 w6.heap.size o := (OpAt.start w6 o 46).below hb
    have hXl := hX.lt
    clear c0 c1 c2 c3 c4 c5 c6 c7
    obtain ⟨c0, c1, c2, c3, c4, c5, c6, c7⟩ := hO.oa
    obtain ⟨d0, d1, d2, d3, d4, d5, d6, d7⟩ := hX
    clear hO hb HO6 HOX
    go_wp2_with fail
    refine (SR.out _ HO8.out.gd).mono ?_
    rintro r w9 ⟨rfl, hb⟩
    have HO9 := Lib.hid (HO8.out.below hb)
    clear c0 c1 c2 c3 c4 c5 c6 c7 d0 d1 d2 d3 d4 d5 d6 d7 he hb HO8 HB0 HR0
    have HOX := Lib.hid (Ot.below HO9.out ((Below.refl _ _).alloc (Nat.le_refl _) (.cells ro.cells 46)))
    go_wp2_with fail
    refine (SO.out _).mono ?_
    rintro r w10 ⟨rfl, hb⟩
    have HO10 := Lib.hid (HOX.out.below hb)
    have hX : OpAt w10 w9.heap.size ro := (OpAt.start w9 ro 46).below hb
    have HOY := Lib.hid (Ot.below HO10.out ((Below.refl _ _).alloc (Nat.le_refl _) (.cells ro.cells 46)))
    have HX1 := Lib.hid (hX.below ((Below.refl _ _).alloc (Nat.le_refl _) (.cells ro.cells 46)))
    have HX2 := Lib.hid (OpAt.start w10 ro 46)
    clear hX hb HOX HO9
    go_wp2_with fail
    refine (SC.out _ HOY.out.gd).mono ?_
    rintro r w11 ⟨rfl, hb⟩
    have HO11 := Lib.hid (HOY.out.below hb)
    have hx1 := HX1.out.below hb
    have hx2 := HX2.out.below hb
    have HX3 := Lib.hid hx1
    obtain ⟨c0, c1, c2, c3, c4, c5, c6, c7⟩ := hx1
    obtain ⟨d0, d1, d2, d3, d4, d5, d6, d7⟩ := hx2
    have hse := SE.out
    clear hb HOY HX1 HX2 HO10
    by_cases hrk0 : rk = 0
    · have HST := Lib.hid (ST.out hrk0)
      subst hrk0
      clear ST
      go_wp2_with fail
      refine (HST.out _ HO11.out.gd).mono ?_
      rintro r w12 ⟨rfl, hb⟩
      have HB := Lib.hid (HO11.out.below hb).bel
      clear c0 c1 c2 c3 c4 c5 c6 c7 d0 d1 d2 d3 d4 d5 d6 d7 hse hb
      go_wp2_with fail
      go_ret
      exact ⟨by simp, HB.out⟩
    · have hrk1 : 0 < rk := by omega
      clear hrk0 ST
      go_wp2_with fail
      go_ret
      exact ⟨by simp, HO11.out.bel⟩
  · have htn := HTn.out hk0
    subst htn
    have hk1 : 0 < k := by omega
    clear HBack HRT HTn HEvn hk0 hO
    go_wp2_with fail
    refine (SR.out _ HO5.out.gd).mono ?_
    rintro r w9 ⟨rfl, hb⟩
    have HO9 := Lib.hid (HO5.out.below hb)
    clear hb HO5
    have HOX := Lib.hid (Ot.below HO9.out ((Below.refl _ _).alloc (Nat.le_refl _) (.cells ro.cells 46)))
    go_wp2_with fail
    refine (SO.out _).mono ?_
    rintro r w10 ⟨rfl, hb⟩
    have HO10 := Lib.hid (HOX.out.below hb)
    have hX : OpAt w10 w9.heap.size ro := (OpAt.start w9 ro 46).below hb
    have HOY := Lib.hid (Ot.below HO10.out ((Below.refl _ _).alloc (Nat.le_refl _) (.cells ro.cells 46)))
    have HX1 := Lib.hid (hX.below ((Below.refl _ _).alloc (Nat.le_refl _) (.cells ro.cells 46)))
    have HX2 := Lib.hid (OpAt.start w10 ro 46)
    clear hX hb HOX HO9
    go_wp2_with fail
    refine (SC.out _ HOY.out.gd).mono ?_
    rintro r w11 ⟨rfl, hb⟩
    have HO11 := Lib.hid (HOY.out.below hb)
    have hx1 := HX1.out.below hb
    have hx2 := HX2.out.below hb
    have HX3 := Lib.hid hx1
    obtain ⟨c0, c1, c2, c3, c4, c5, c6, c7⟩ := hx1
    obtain ⟨d0, d1, d2, d3, d4, d5, d6, d7⟩ := hx2
    have hse := SE.out
    clear hb HOY HX1 HX2 HO10
    by_cases hrk0 : rk = 0
    · have HST := Lib.hid (ST.out hrk0)
      subst hrk0
      clear ST
      go_wp2_with fail
      refine (HST.out _ HO11.out.gd).mono ?_
      rintro r w12 ⟨rfl, hb⟩
      have HB := Lib.hid (HO11.out.below hb).bel
      clear c0 c1 c2 c3 c4 c5 c6 c7 d0 d1 d2 d3 d4 d5 d6 d7 hse hb
      go_wp2_with fail
      go_ret
      exact ⟨by simp, HB.out⟩
    · have hrk1 : 0 < rk := by omega
      clear hrk0 ST
      go_wp2_with fail
      go_ret
      exact ⟨by simp, HO11.out.bel⟩
theorem walk {F : Nat → Bool} (ea : Nat → Addr) (o : OpT) (s : ByteArray) (w : World) (hG : Gd F ea w) (hF : ∀ k, 1 ≤ k → k ≤ 12 → F k = true) (f20 : F 20 = true) (f21 : F 21 = true) (f22 : F 22 = true)
    (wo : o.nm.size ≤ 1000 → o.vl.size ≤ 1000 → o.Wf) :
    Calls Tryz.prog 4 #[opV o, .string s] w fun r w' => r = .returned (.bool true) ∧ Below w.heap.size w w' := by
  by_cases h : o.nm.size ≤ 60 ∧ o.vl.size ≤ 60 ∧ s.size ≤ 300
  · obtain ⟨h1, h2, h3⟩ := h
    exact walk_on ea o s w hG hF f20 f21 f22 h1 h2 h3 (wo (by omega) (by omega))
  · exact walk_off ea o s w hG (hF 2 (by omega) (by omega)) (hF 3 (by omega) (by omega)) (hF 4 (by omega) (by omega)) (hF 5 (by omega) (by omega)) f21 (by omega)
end opTexts
end Go.Proofs.YthlojjknpfijmaaGreatDoor
