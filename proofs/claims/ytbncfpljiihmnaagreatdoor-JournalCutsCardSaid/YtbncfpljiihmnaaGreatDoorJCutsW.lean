/- JournalCuts: the walk of the law. -/
import Derived.Test.YtbncfpljiihmnaaGreatDoorJCutsL
import Derived.Test.YtbncfpljiihmnaaGreatDoorRowAt
namespace Go.Proofs.YtbncfpljiihmnaaGreatDoor
open Go Go.RowKit
set_option linter.unusedVariables false
set_option linter.unusedSimpArgs false
set_option maxHeartbeats 4000000
set_option maxRecDepth 100000

theorem longOps_le {most : Nat} {L : List OpT} (h : longOps most L = false) : L.length ≤ most ∧ ∀ x ∈ L, longOp x = false := by
  unfold longOps at h
  rw [Bool.or_eq_false_iff, decide_eq_false_iff_not, List.any_eq_false] at h
  exact ⟨by omega, fun x hx => by simpa using h.2 x hx⟩
theorem wf_of_short {o : OpT} (h : longOp o = false) (hw : o.nm.size ≤ 100000 → o.vl.size ≤ 100000 → o.Wf) : o.Wf := by
  simp only [longOp, Bool.or_eq_false_iff, decide_eq_false_iff_not] at h
  exact hw (by omega) (by omega)
/-- the disk, and the row of what was appended with no error -/
structure CSt (w0 : World) (D : Nat) (v : Value) (b : List UInt8) (off : Bool) (cut : Int) (vd : Value) (done : List OpT) (w : World) : Prop where
  d : DSt w0.heap.size D v b off cut w
  r : Rw opE 38 w0.heap.size vd done w
  n1 : ∀ k, vd.ownBlock = some k → ¬ Own D v k
  bel : Below w0.heap.size w0 w
theorem CSt.app1 {w0 w w' : World} {D : Nat} {v v' : Value} {b b' : List UInt8} {off off' : Bool} {cut cut' : Int} {vd : Value} {done : List OpT} (h : CSt w0 D v b off cut vd done w) (hD : DSt w0.heap.size D v' b' off' cut' w') (hF : Fr (Own D v) w w') (hN : NewRow v v' w.heap.size) : CSt w0 D v' b' off' cut' vd done w' :=
  ⟨hD, h.r.fr (fun k h1 h2 => hF.block k h1 h2) h.n1, fun k hk ho => by
    rcases hN.own k ho with h1 | h1
    · exact h.n1 k hk h1
    · have := (h.r.lt k hk).2; omega, h.d.fb hF h.bel⟩
theorem CSt.app2 {w0 w w1 w' : World} {D : Nat} {v : Value} {b : List UInt8} {off : Bool} {cut : Int} {vd vd' : Value} {done done' : List OpT} (h : CSt w0 D v b off cut vd done w) (hb : Below w.heap.size w w1)
    (hr : Rw opE 38 w0.heap.size vd' done' w') (hg : w1.grownBy w' vd.ownBlock) (hat : vd'.ownBlock = vd.ownBlock ∨ vd'.ownBlock = some w1.heap.size) : CSt w0 D v b off cut vd' done' w' := by
  have hd1 := h.d.below hb
  have hlt := h.d.lt
  have hsz := hb.size
  have hg2 := hg.size
  have hDb : w'.heap[D]? = w1.heap[D]? := hg.block D hd1.lt (fun e => h.n1 D e.symm (.inl rfl))
  have hV : ∀ k, v.ownBlock = some k → k < w1.heap.size ∧ some k ≠ vd.ownBlock := fun k hk => ⟨(hd1.row.lt k hk).2, fun e => h.n1 k e.symm (.inr hk)⟩
  refine ⟨⟨(World.cell?_of_block hDb).trans hd1.c0, (World.cell?_of_block (a := ⟨D, 1, none⟩) hDb).trans hd1.c1, (World.cell?_of_block (a := ⟨D, 2, none⟩) hDb).trans hd1.c2, fun o => (World.frozen?_of_block (a := ⟨D, o, none⟩) hDb).trans (hd1.fz o), ?_, hd1.ne, hd1.ge, hd1.lo, hd1.hi⟩, hr, ?_, ?_⟩
  · refine hd1.row.kept hg (fun e => ?_)
    cases hv : v.ownBlock with
    | none =>
      obtain ⟨g, cap, hvv, _⟩ := hd1.len
      rw [hvv] at hv
      simp [Value.ownBlock] at hv
    | some k => exact (hV k hv).2 (by rw [← hv]; exact e)
  · intro k hk ho
    rcases hat with e | e
    · exact h.n1 k (by rw [← e]; exact hk) ho
    · rw [e] at hk
      have hk' := Option.some.inj hk
      rcases ho with h1 | h1
      · omega
      · have := (hV k h1).1; omega
  · exact (h.bel.trans (hb.mono h.bel.size)).grown hg (by have := h.bel.size; omega) (fun k hk => (h.r.lt k hk).1)

namespace journalCuts
theorem walk {F : Nat → Bool} (ea : Nat → Addr) (A : Option Addr) (n c : Nat) (L : List OpT) (cut : Int) (w : World) (hG : Gd F ea w) (f1 : F 1 = true) (f2 : F 2 = true) (f3 : F 3 = true) (f4 : F 4 = true) (f5 : F 5 = true) (f8 : F 8 = true) (f11 : F 11 = true) (f21 : F 21 = true) (f22 : F 22 = true) (f23 : F 23 = true)
    (hs : SlV opE w (.slice A n c) L) (hc : c ≤ maxLen) (hcut : cut ≤ 9223372036854775807) (hwf : ∀ x ∈ L, (x.nm.size ≤ 100000 → x.vl.size ≤ 100000 → x.Wf)) :
    Calls Tryz.prog 4 #[.slice A n c, .int .i64 cut] w fun e w' => e = .returned (.bool true) ∧ Below w.heap.size w w' := by
  have HNo := Lib.hid (noted_any ea w hG f1 f2 f3 f4 f5 f8 f11 f21 f22 f23)
  have hcap := hs.cap
  have HS := Lib.hid hs
  have HL : Hid (∀ w', Below w.heap.size w w' → Calls Tryz.prog 13 #[.slice A n c, .int .i64 (60 : Nat)] w' fun e w'' => e = .returned (.int .i64 (if longOps 60 L then 1 else 0)) ∧ w'' = w') := Lib.hid fun w' hb => longOps_any A n c 60 L w' (hs.below hb) (by omega) (by omega)
  obtain ⟨lo, hlo⟩ : ∃ lo, longOps 60 L = lo := ⟨_, rfl⟩
  have HLo := Lib.hid hlo
  rw [hlo] at HL
  clear hs hcap hlo
  by_cases hbad : lo = true ∨ cut < 0
  · clear hG HS hwf
    have hb2 : lo = true ∨ (lo = false ∧ cut < 0) := by cases lo <;> simp_all
    clear hbad
    rcases hb2 with rfl | ⟨rfl, hneg⟩
    all_goals
      go_enter Tryz.func4, Tryz.ntmps4
      go_wp2_with fail
      refine HNo.out.mono ?_
      rintro e w1 ⟨rfl, hb⟩
      have HB := Lib.hid hb
      clear hb
      go_wp2_with fail
      refine (HL.out _ HB.out).mono ?_
      rintro e w2 ⟨rfl, rfl⟩
      go_wp2_with fail
      go_ret
      exact ⟨rfl, HB.out⟩
  · have hlo2 : lo = false := by cases lo <;> simp_all
    subst hlo2
    have hneg : ¬ cut < 0 := fun h => hbad (.inr h)
    obtain ⟨hL60, hLs⟩ := longOps_le HLo.out
    have hn : n = L.length := HS.out.len
    have HN := Lib.hid hn
    have hn60 : n ≤ 60 := by omega
    have HW : Hid (∀ x ∈ L, x.Wf ∧ longOp x = false) := Lib.hid fun x hx => ⟨wf_of_short (hLs x hx) (hwf x hx), hLs x hx⟩
    have HND := Lib.hid (fun w => newDisk_any ⟨#[]⟩ w (by decide))
    have HG := Lib.hid hG
    clear hG hbad hLs hL60 hn hwf
    go_enter Tryz.func4, Tryz.ntmps4
    go_wp2_with fail
    refine HNo.out.mono ?_
    rintro e w1 ⟨rfl, hb⟩
    have HB1 := Lib.hid hb
    clear hb HNo
    go_wp2_with fail
    refine (HL.out _ HB1.out).mono ?_
    rintro e wz ⟨rfl, rfl⟩
    clear HL
    go_wp2_with fail
    refine (HND.out _).mono ?_
    rintro e w2 ⟨D, v, rfl, hD, hb⟩
    have hB2 := HB1.out.trans (hb.mono HB1.out.size)
    have hD2 : DSt w.heap.size D v [] false (-1) w2 := ⟨hD.c0, hD.c1, hD.c2, hD.fz, by obtain ⟨g, cap, cur, fz, h1, h2, h3⟩ := hD.row; exact ⟨g, cap, cur, fz, h1, Nat.le_trans HB1.out.size h2, h3⟩, hD.ne, Nat.le_trans HB1.out.size hD.ge, hD.lo, hD.hi⟩
    have HCu : Hid (Calls Tryz.prog 14 #[.pointer (some ⟨D, 0, none⟩), .int .i64 cut] w2 fun e w' => e = .returned .nilIface ∧ DSt w.heap.size D v [] false cut w' ∧ Fr (Own D v) w2 w') := Lib.hid (by
      have := diskCut_any ea w.heap.size D v [] false (-1) cut w2 (HG.out.below hB2) f2 f11 hcut hD2
      refine this.mono fun e w' ⟨h1, h2, h3⟩ => ?_
      rw [if_neg (show ¬ cut < 0 by omega), if_neg (by simp)] at h1
      rw [if_neg (by rintro (h | h); omega; cases h)] at h2
      exact ⟨h1, h2, h3⟩)
    have HD2 := Lib.hid hD2
    have HB2 := Lib.hid hB2
    clear hb hB2 hD hD2 HND HB1
    go_wp2_with fail
    refine HCu.out.mono ?_
    rintro e w3 ⟨rfl, hD3, hF3⟩
    have hS3 : CSt w D v [] false cut (.slice none 0 0) [] w3 := ⟨hD3, Rw.nil _ _ _ _, fun k hk => by simp [Value.ownBlock] at hk, HD2.out.fb hF3 HB2.out⟩
    have HS3 := Lib.hid hS3
    obtain ⟨cn, hcn⟩ : ∃ cn : Nat, cut = (cn : Int) := ⟨cut.toNat, by omega⟩
    have HC3 : Hid (CutIs [] false cut [] 0) := Lib.hid (by rw [hcn]; exact CutIs.start cn)
    clear hD3 hF3 hS3 hcn HCu HD2 HB2
    go_wp2_with fail
    go_loopw [8, 9] (fun v8 v9 wr => ∃ (i : Nat) (v : Value) (b : List UInt8) (off : Bool) (cut : Int) (done : List OpT), v9 = .int .i64 i ∧ i ≤ n ∧ CutIs b off cut done i ∧ CSt w D v b off cut v8 done wr) (fun _ v9 _ => n - (intOf v9).toNat)
    case atStart => exact ⟨0, v, [], false, cut, [], rfl, by omega, HC3.out, HS3.out⟩
    case round =>
      obtain ⟨i, v', b, off, cut', done, rfl, hi, hC, hK⟩ := hrel
      have HC := Lib.hid hC
      have HK := Lib.hid hK
      by_cases hlt : i < n
      · obtain ⟨x, hx⟩ : ∃ x, L[i]? = some x := ⟨_, List.getElem?_eq_getElem (by have := HN.out; omega)⟩
        obtain ⟨bb, offb, rfl, hbl, c0, c1, c2, c3, c4, c5, c6, c7⟩ := ops_at (HS.out.below hK.bel) hx
        have i1 : (0 : Int) ≤ (i : Int) := by omega
        have i2 : (i : Int) < (n : Int) := by omega
        have hxw := HW.out x (List.mem_of_getElem? hx)
        have hlb := hC.len
        have HA := Lib.hid (append_any ea w D v' b off cut' x wr hxw.1 HG.out f2 f3 f4 f5 f8 f11 f21 f23 hK.bel hK.d (by omega))
        have HSt := Lib.hid (hC.step (o := x) (by omega) hxw.2)
        have HX := Lib.hid hx
        clear hx hbl hC hK hxw
        go_wp2_with fail
        refine HA.out.mono ?_
        rintro e w4 ⟨v4, rfl, hD4, hF4, hN4⟩
        have hK4 := HK.out.app1 hD4 hF4 hN4
        generalize apD b off cut' x = rr at hD4 HSt hK4
        obtain ⟨b4, off4, cut4, k4⟩ := rr
        dsimp only at HSt hK4 ⊢
        have HK4 := Lib.hid hK4
        have HB4 := Lib.hid hK4.bel
        clear hD4 hF4 hN4 hK4 HA c0 c1 c2 c3 c4 c5 c6 c7
        by_cases hk : k4 = 0
        · subst hk
          have HSt2 : Hid (CutIs b4 off4 cut4 (done ++ [x]) (i + 1)) := Lib.hid (by simpa using HSt.out)
          have hev : errW ea 0 = .nilIface := rfl
          rw [hev]
          obtain ⟨bb2, offb2, hbe, hbl, c0, c1, c2, c3, c4, c5, c6, c7⟩ := ops_at (HS.out.below HB4.out) HX.out
          cases hbe
          have HO5 : Hid (SlV opE (w4.alloc (.cells x.cells 38)) (.slice (some ⟨w4.heap.size, 0, none⟩) 1 1) [x]) := Lib.hid (SlV.one w4 x _ _ rfl)
          have HR5 := Lib.hid (HK4.out.r.below ((Below.refl _ _).alloc (Nat.le_refl _) (.cells x.cells 38)))
          have hdl := HSt2.out.dl
          rw [List.length_append, List.length_singleton] at hdl
          have hsz4 := HB4.out.size
          clear hbl
          go_wp2_with (at_builtin; refine wpList_append_rows_at rfl _ _ 28 rfl opE w.heap.size 38 (opV ⟨0, 0, 0, 0, 0, 0, ⟨#[]⟩, ⟨#[]⟩⟩) 80 Tryz.underlying28 infoOp rfl (by decide) _ _ done [x] rfl rfl HR5.out HO5.out ?za1 ?za2 ?za3 ?_)
          case za1 => unfold maxLen; have : [x].length = 1 := rfl; omega
          case za2 => have : [x].length = 1 := rfl; omega
          case za3 => first | omega | (simp; omega)
          intro v6 w6 hr6 hg6 hat6
          have HK6 := Lib.hid (HK4.out.app2 ((Below.refl _ w4).alloc (Nat.le_refl _) (.cells x.cells 38)) hr6 hg6 (by simpa using hat6))
          clear hr6 hg6 hat6 c0 c1 c2 c3 c4 c5 c6 c7
          go_wp2_with fail
          go_roundw
          case rel => exact ⟨i + 1, _, _, _, _, _, by go_num, by omega, HSt2.out, HK6.out⟩
          case measure => simp [intOf] <;> omega
        · have HSt2 : Hid (CutIs b4 off4 cut4 done (i + 1)) := Lib.hid (by have := HSt.out; rwa [if_neg hk] at this)
          have hev : errW ea k4 = errV (ea k4) := by rw [errW, if_neg hk]
          rw [hev]
          clear hk hev HSt
          go_wp2_with fail
          go_roundw
          case rel => exact ⟨i + 1, _, _, _, _, _, by go_num, by omega, HSt2.out, HK4.out⟩
          case measure => simp [intOf] <;> omega
      · have i2 : ¬ (i : Int) < (n : Int) := by omega
        have hlb := hC.len
        have HR := Lib.hid (recover_any ea w D v' b off cut' wr HG.out f1 f2 f3 f4 f5 f21 f22 f23 hK.bel hK.d (by omega))
        clear hC hK
        go_wp2_with fail
        refine HR.out.mono ?_
        rintro e w4 ⟨u, L4, n4, v4, rfl, hRw, hRd, hLn, hD4, hF4, hv4⟩
        obtain ⟨rfl, hn4, htk⟩ := HC.out.back hRd
        rw [htk] at hD4
        have hK := HK.out
        have hgood := HC.out.good
        have hB4 := hK.d.fb hF4 hK.bel
        have hDone := hK.r.fr (fun k h1 h2 => hF4.block k h1 h2) hK.n1
        have hU := hRw.sl
        obtain ⟨A4, m4, c4, rfl⟩ := hRw.slice
        obtain ⟨A8, m8, c8, rfl⟩ := hDone.slice
        have hdl := HC.out.dl
        have HSo := Lib.hid (sameOps_any A4 A8 m4 c4 m8 c8 L4 w4 hU hDone.sl (by omega))
        have HD4 := Lib.hid hD4
        have HB4 := Lib.hid hB4
        have hcl : (Jrn.cat recO L4).length ≤ 320 * 60 := by
          have h1 := HC.out.len
          have h2 := congrArg List.length htk
          rw [List.length_take] at h2
          omega
        have HM8 : Hid (m8 = L4.length) := Lib.hid hDone.sl.len
        have HGood := Lib.hid hgood
        clear hRw hRd hLn hD4 hF4 hv4 hn4 htk hK hgood hB4 hDone hU HR HK HC HS
        go_wp2_with fail
        refine HSo.out.mono ?_
        rintro e w5 ⟨rfl, hb5⟩
        have hD5 := HD4.out.below hb5
        have hB5 := HB4.out.trans (hb5.mono HB4.out.size)
        have HPo := Lib.hid (diskPower_any _ _ _ _ _ _ _ hD5)
        have hD6 := hD5.below ((Below.refl _ w5).alloc (Nat.le_refl _) (.cells lastOp.cells 38))
        have hB6 := hB5.alloc hB5.size (.cells lastOp.cells 38)
        have hO6 := OpAt.start w5 lastOp 38
        have HA : Hid (Calls Tryz.prog 15 #[.pointer (some ⟨D, 0, none⟩), .agg #[.int .i64 9, .int .i64 0, .int .i64 1, .int .u8 109, .int .i64 36, .int .i64 0, .string ⟨#[122]⟩, .string ⟨#[]⟩]] (w5.alloc (.cells lastOp.cells 38)) fun e w' => ∃ v', e = .returned .nilIface ∧ DSt w.heap.size D v' (Jrn.cat recO (L4 ++ [lastOp])) false (-1) w' ∧ Below w.heap.size w w' ∧ OpAt w' w5.heap.size lastOp) := Lib.hid (by
          have hfit : (Jrn.cat recO L4).length + (recO lastOp).length ≤ 65536 := by
            have := rec_short (o := lastOp) last_ok last_short
            omega
          refine (append_any ea w D v4 _ false (-1) lastOp _ last_wf HG.out f2 f3 f4 f5 f8 f11 f21 f23 hB6 hD6 (by omega)).mono ?_
          rintro e w7 ⟨v7, h1, h2, h3, h4⟩
          rw [apD_pos last_ok hfit] at h1 h2
          rw [cat_snoc]
          refine ⟨v7, h1, h2, hD6.fb h3 hB6, hO6.fr h3 ?_⟩
          rintro (h | h)
          · have := hD5.lt; omega
          · have := (hD5.row.lt _ h).2; omega)
        clear hb5 hD5 hB5 hD6 hB6 hO6 HSo HD4 HB4
        go_wp2_with fail
        refine HPo.out.mono ?_
        rintro e wp ⟨rfl, rfl⟩
        clear HPo
        go_wp2_with fail
        refine HA.out.mono ?_
        rintro e w7 ⟨v7, rfl, hD7, hB7, hO7⟩
        have hcl7 : (Jrn.cat recO (L4 ++ [lastOp])).length ≤ 65536 := by
          have := rec_short (o := lastOp) last_ok last_short
          rw [cat_snoc, List.length_append]
          omega
        have HBy := Lib.hid (diskBytes_any _ _ _ _ _ _ _ hD7)
        have HRe : Hid (Calls Tryz.prog 17 #[.string (S (Jrn.cat recO (L4 ++ [lastOp])))] w7 (ReadEnds (Jrn.cat recO (L4 ++ [lastOp])) w7)) := Lib.hid (by
          have := jread_any ea (S (Jrn.cat recO (L4 ++ [lastOp]))) w7 (HG.out.below hB7) f1 f2 f3 f4 f5 f21 f22 f23 (by rw [S_size]; exact hcl7)
          rwa [S_list] at this)
        have HD7 := Lib.hid hD7
        have HB7 := Lib.hid hB7
        have HO7 := Lib.hid hO7
        clear hD7 hB7 hO7 HA
        go_wp2_with fail
        refine HBy.out.mono ?_
        rintro e wq ⟨rfl, rfl⟩
        go_wp2_with fail
        refine HRe.out.mono ?_
        rintro e w8 ⟨u8, L8, n8, rfl, hRw8, hRd8, _, hb8⟩
        have hbk := read_back (L := L4 ++ [lastOp]) (r := []) (fun o ho => (List.mem_append.1 ho).elim (HGood.out o) (fun h => by rw [List.mem_singleton.1 h]; exact last_ok)) (by simp) (by rw [List.append_nil]; exact hRd8)
        obtain ⟨rfl, rfl⟩ := hbk
        have hD8 := HD7.out.below hb8
        have hO8 := HO7.out.below hb8
        have HB8 := Lib.hid (HB7.out.trans (hb8.mono HB7.out.size))
        have HBy8 : Hid (∀ w', Below w8.heap.size w8 w' → Calls Tryz.prog 9 #[.pointer (some ⟨D, 0, none⟩)] w' fun e w'' => e = .returned (.string (S (Jrn.cat recO (L4 ++ [lastOp])))) ∧ Below w'.heap.size w' w'') := Lib.hid fun w' hb => (diskBytes_any _ _ _ _ _ _ w' (hD8.below hb)).mono fun e w'' ⟨h1, h2⟩ => ⟨h1, h2 ▸ Below.refl _ _⟩
        obtain ⟨A9, m9, c9, rfl⟩ := hRw8.slice
        have hS9 := hRw8.sl
        have hm9 : m9 = L4.length + 1 := by rw [hS9.len, List.length_append]; rfl
        obtain ⟨g9, off9, rfl, hbl, c0, c1, c2, c3, c4', c5, c6, c7⟩ := ops_at hS9 (i := L4.length) (x := lastOp) (by simp)
        obtain ⟨q0, q1, q2, q3, q4, q5, q6, q7⟩ := hO8
        obtain ⟨T, hT⟩ : ∃ T, T = S (Jrn.cat recO (L4 ++ [lastOp])) := ⟨_, rfl⟩
        have hTs : T.size = (Jrn.cat recO (L4 ++ [lastOp])).length := by rw [hT, S_size]
        rw [← hT] at HBy8
        generalize (Jrn.cat recO (L4 ++ [lastOp])).length = nT at hTs ⊢
        have heq : ∀ w, (Op.equalIn 10000 38 (.agg #[.int .i64 9, .int .i64 0, .int .i64 1, .int .u8 109, .int .i64 36, .int .i64 0, .string ⟨#[122]⟩, .string ⟨#[]⟩]) (.agg #[.int .i64 9, .int .i64 0, .int .i64 1, .int .u8 109, .int .i64 36, .int .i64 0, .string ⟨#[122]⟩, .string ⟨#[]⟩])).run Tryz.prog w = .ok true w := fun w => (eqOp_run lastOp lastOp w).trans (by rw [opEqB_refl])
        have e0 : w8.cell? ⟨g9, off9 + L4.length * 8, none⟩ = some (.int .i64 9) := c0
        have e1 : w8.cell? ⟨g9, off9 + L4.length * 8 + 1, none⟩ = some (.int .i64 0) := c1
        have e2 : w8.cell? ⟨g9, off9 + L4.length * 8 + 2, none⟩ = some (.int .i64 1) := c2
        have e3 : w8.cell? ⟨g9, off9 + L4.length * 8 + 3, none⟩ = some (.int .u8 109) := c3
        have e4 : w8.cell? ⟨g9, off9 + L4.length * 8 + 4, none⟩ = some (.int .i64 36) := c4'
        have e5 : w8.cell? ⟨g9, off9 + L4.length * 8 + 5, none⟩ = some (.int .i64 0) := c5
        have e6 : w8.cell? ⟨g9, off9 + L4.length * 8 + 6, none⟩ = some (.string ⟨#[122]⟩) := c6
        have e7 : w8.cell? ⟨g9, off9 + L4.length * 8 + 7, none⟩ = some (.string ⟨#[]⟩) := c7
        have r0 : w8.cell? ⟨wp.heap.size, 0, none⟩ = some (.int .i64 9) := q0
        have r1 : w8.cell? ⟨wp.heap.size, 1, none⟩ = some (.int .i64 0) := q1
        have r2 : w8.cell? ⟨wp.heap.size, 2, none⟩ = some (.int .i64 1) := q2
        have r3 : w8.cell? ⟨wp.heap.size, 3, none⟩ = some (.int .u8 109) := q3
        have r4 : w8.cell? ⟨wp.heap.size, 4, none⟩ = some (.int .i64 36) := q4
        have r5 : w8.cell? ⟨wp.heap.size, 5, none⟩ = some (.int .i64 0) := q5
        have r6 : w8.cell? ⟨wp.heap.size, 6, none⟩ = some (.string ⟨#[122]⟩) := q6
        have r7 : w8.cell? ⟨wp.heap.size, 7, none⟩ = some (.string ⟨#[]⟩) := q7
        have HBq : ∀ nq, Hid (Below w.heap.size w (w8.drewN nq)) := fun nq => Lib.hid (below_drawn HB8.out nq)
        clear c0 c1 c2 c3 c4' c5 c6 c7 q0 q1 q2 q3 q4 q5 q6 q7 hRw8 hRd8 hb8 hD8 hS9 hbl hT HRe HBy HD7 HB7 HO7 HGood
        obtain ⟨l4, hl4⟩ : ∃ l4, l4 = L4.length := ⟨_, rfl⟩
        have hm8 := HM8.out
        rw [← hl4] at e0 e1 e2 e3 e4 e5 e6 e7 hm9 hm8
        have hm60 : m8 ≤ 100 := by omega
        subst hm8
        have hq1 : IntKind.i64.wrap ((m8 : Int) + 1) = (m9 : Int) := by rw [hm9]; simp [IntKind.wrap, IntKind.bits, IntKind.signed]; omega
        have l2 : (m8 : Int) < (m9 : Int) := by omega
        clear hm9
        clear hdl hcl hcl7 hl4
        have l1 : (0 : Int) ≤ (m8 : Int) := by omega
        have hg9 : g9 < w8.heap.size := World.block_lt_of_cell? _ _ e0
        have hwp : wp.heap.size < w8.heap.size := World.block_lt_of_cell? _ _ r0
        have lim : Hid (∀ w', Below w8.heap.size w8 w' → w'.cell? ⟨g9, off9 + m8 * 8, none⟩ = some (.int .i64 9) ∧ w'.cell? ⟨g9, off9 + m8 * 8 + 1, none⟩ = some (.int .i64 0) ∧ w'.cell? ⟨g9, off9 + m8 * 8 + 2, none⟩ = some (.int .i64 1) ∧ w'.cell? ⟨g9, off9 + m8 * 8 + 3, none⟩ = some (.int .u8 109) ∧ w'.cell? ⟨g9, off9 + m8 * 8 + 4, none⟩ = some (.int .i64 36) ∧ w'.cell? ⟨g9, off9 + m8 * 8 + 5, none⟩ = some (.int .i64 0) ∧ w'.cell? ⟨g9, off9 + m8 * 8 + 6, none⟩ = some (.string ⟨#[122]⟩) ∧ w'.cell? ⟨g9, off9 + m8 * 8 + 7, none⟩ = some (.string ⟨#[]⟩) ∧ w'.cell? ⟨wp.heap.size, 0, none⟩ = some (.int .i64 9) ∧ w'.cell? ⟨wp.heap.size, 1, none⟩ = some (.int .i64 0) ∧ w'.cell? ⟨wp.heap.size, 2, none⟩ = some (.int .i64 1) ∧ w'.cell? ⟨wp.heap.size, 3, none⟩ = some (.int .u8 109) ∧ w'.cell? ⟨wp.heap.size, 4, none⟩ = some (.int .i64 36) ∧ w'.cell? ⟨wp.heap.size, 5, none⟩ = some (.int .i64 0) ∧ w'.cell? ⟨wp.heap.size, 6, none⟩ = some (.string ⟨#[122]⟩) ∧ w'.cell? ⟨wp.heap.size, 7, none⟩ = some (.string ⟨#[]⟩) ∧ Below w8.heap.size w8 w') := Lib.hid fun w' h => ⟨(h.cell (p := ⟨g9, _, none⟩) hg9).trans e0, (h.cell (p := ⟨g9, _, none⟩) hg9).trans e1, (h.cell (p := ⟨g9, _, none⟩) hg9).trans e2, (h.cell (p := ⟨g9, _, none⟩) hg9).trans e3, (h.cell (p := ⟨g9, _, none⟩) hg9).trans e4, (h.cell (p := ⟨g9, _, none⟩) hg9).trans e5, (h.cell (p := ⟨g9, _, none⟩) hg9).trans e6, (h.cell (p := ⟨g9, _, none⟩) hg9).trans e7, (h.cell (p := ⟨wp.heap.size, _, none⟩) hwp).trans r0, (h.cell (p := ⟨wp.heap.size, _, none⟩) hwp).trans r1, (h.cell (p := ⟨wp.heap.size, _, none⟩) hwp).trans r2, (h.cell (p := ⟨wp.heap.size, _, none⟩) hwp).trans r3, (h.cell (p := ⟨wp.heap.size, _, none⟩) hwp).trans r4, (h.cell (p := ⟨wp.heap.size, _, none⟩) hwp).trans r5, (h.cell (p := ⟨wp.heap.size, _, none⟩) hwp).trans r6, (h.cell (p := ⟨wp.heap.size, _, none⟩) hwp).trans r7, h⟩
        have pr : Hid (∀ w', (w'.cell? ⟨g9, off9 + m8 * 8, none⟩ = some (.int .i64 9) ∧ w'.cell? ⟨g9, off9 + m8 * 8 + 1, none⟩ = some (.int .i64 0) ∧ w'.cell? ⟨g9, off9 + m8 * 8 + 2, none⟩ = some (.int .i64 1) ∧ w'.cell? ⟨g9, off9 + m8 * 8 + 3, none⟩ = some (.int .u8 109) ∧ w'.cell? ⟨g9, off9 + m8 * 8 + 4, none⟩ = some (.int .i64 36) ∧ w'.cell? ⟨g9, off9 + m8 * 8 + 5, none⟩ = some (.int .i64 0) ∧ w'.cell? ⟨g9, off9 + m8 * 8 + 6, none⟩ = some (.string ⟨#[122]⟩) ∧ w'.cell? ⟨g9, off9 + m8 * 8 + 7, none⟩ = some (.string ⟨#[]⟩) ∧ w'.cell? ⟨wp.heap.size, 0, none⟩ = some (.int .i64 9) ∧ w'.cell? ⟨wp.heap.size, 1, none⟩ = some (.int .i64 0) ∧ w'.cell? ⟨wp.heap.size, 2, none⟩ = some (.int .i64 1) ∧ w'.cell? ⟨wp.heap.size, 3, none⟩ = some (.int .u8 109) ∧ w'.cell? ⟨wp.heap.size, 4, none⟩ = some (.int .i64 36) ∧ w'.cell? ⟨wp.heap.size, 5, none⟩ = some (.int .i64 0) ∧ w'.cell? ⟨wp.heap.size, 6, none⟩ = some (.string ⟨#[122]⟩) ∧ w'.cell? ⟨wp.heap.size, 7, none⟩ = some (.string ⟨#[]⟩) ∧ Below w8.heap.size w8 w') → Below w8.heap.size w8 w') := Lib.hid fun w' h => ((((((((((((((((h.2).2).2).2).2).2).2).2).2).2).2).2).2).2).2).2)
        go_wp2_with fail
        go_region_held3 (fun w' => w'.cell? ⟨g9, off9 + m8 * 8, none⟩ = some (.int .i64 9) ∧ w'.cell? ⟨g9, off9 + m8 * 8 + 1, none⟩ = some (.int .i64 0) ∧ w'.cell? ⟨g9, off9 + m8 * 8 + 2, none⟩ = some (.int .i64 1) ∧ w'.cell? ⟨g9, off9 + m8 * 8 + 3, none⟩ = some (.int .u8 109) ∧ w'.cell? ⟨g9, off9 + m8 * 8 + 4, none⟩ = some (.int .i64 36) ∧ w'.cell? ⟨g9, off9 + m8 * 8 + 5, none⟩ = some (.int .i64 0) ∧ w'.cell? ⟨g9, off9 + m8 * 8 + 6, none⟩ = some (.string ⟨#[122]⟩) ∧ w'.cell? ⟨g9, off9 + m8 * 8 + 7, none⟩ = some (.string ⟨#[]⟩) ∧ w'.cell? ⟨wp.heap.size, 0, none⟩ = some (.int .i64 9) ∧ w'.cell? ⟨wp.heap.size, 1, none⟩ = some (.int .i64 0) ∧ w'.cell? ⟨wp.heap.size, 2, none⟩ = some (.int .i64 1) ∧ w'.cell? ⟨wp.heap.size, 3, none⟩ = some (.int .u8 109) ∧ w'.cell? ⟨wp.heap.size, 4, none⟩ = some (.int .i64 36) ∧ w'.cell? ⟨wp.heap.size, 5, none⟩ = some (.int .i64 0) ∧ w'.cell? ⟨wp.heap.size, 6, none⟩ = some (.string ⟨#[122]⟩) ∧ w'.cell? ⟨wp.heap.size, 7, none⟩ = some (.string ⟨#[]⟩) ∧ Below w8.heap.size w8 w')
          (first | exact lim.out _ (Below.drew (Below.refl _ _)) | exact lim.out _ (Below.trans (pr.out _ (by assumption)) (Below.mono (by assumption) (Below.size (pr.out _ (by assumption))))))
          ((go_at_call 9; refine (HBy8.out _ ?_).mono ?_; (exact pr.out _ (by assumption)); rintro r wB ⟨rfl, hbB⟩))
        rename_i hH
        have HF := Lib.hid (HB8.out.trans ((pr.out _ hH).mono HB8.out.size))
        clear hH lim pr e0 e1 e2 e3 e4 e5 e6 e7 r0 r1 r2 r3 r4 r5 r6 r7
        go_wp2_with fail
        go_ret
        exact ⟨rfl, HF.out⟩
end journalCuts
end Go.Proofs.YtbncfpljiihmnaaGreatDoor
