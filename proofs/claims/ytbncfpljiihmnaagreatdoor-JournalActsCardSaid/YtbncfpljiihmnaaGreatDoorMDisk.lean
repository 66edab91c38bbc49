/- The document's disk: the power cut, an operation appended, what is recovered. -/
import Derived.Test.YtbncfpljiihmnaaGreatDoorMRd
import Derived.Test.YtbncfpljiihmnaaGreatDoorJLaw
import Derived.Test.YtbncfpljiihmnaaGreatDoorOps2
import Derived.StillTailTactics
namespace Go.Proofs.YtbncfpljiihmnaaGreatDoor
open Go Go.RowKit
set_option linter.unusedVariables false
set_option linter.unusedSimpArgs false
set_option maxHeartbeats 4000000
set_option maxRecDepth 100000

/-- the document's disk -/
structure MSt (base M : Nat) (bs : List UInt8) (off : Bool) (cut : Int) (w : World) : Prop where
  c0 : w.cell? ⟨M, 0, none⟩ = some (.string (S bs))
  c1 : w.cell? ⟨M, 1, none⟩ = some (.bool off)
  c2 : w.cell? ⟨M, 2, none⟩ = some (.int .i64 cut)
  fz : ∀ o, w.frozen? ⟨M, o, none⟩ = false
  ge : base ≤ M
theorem MSt.lt {base M : Nat} {bs : List UInt8} {off : Bool} {cut : Int} {w : World} (h : MSt base M bs off cut w) : M < w.heap.size := World.block_lt_of_cell? w _ h.c0
theorem MSt.fr {X : Nat → Prop} {base M : Nat} {bs : List UInt8} {off : Bool} {cut : Int} {w w' : World} (h : MSt base M bs off cut w) (hF : Fr X w w') (hx : ¬ X M) : MSt base M bs off cut w' :=
  ⟨(hF.cell h.lt hx).trans h.c0, (hF.cell (p := ⟨M, 1, none⟩) h.lt hx).trans h.c1, (hF.cell (p := ⟨M, 2, none⟩) h.lt hx).trans h.c2, fun o => (hF.frozen (p := ⟨M, o, none⟩) h.lt hx).trans (h.fz o), h.ge⟩
theorem MSt.below {base M : Nat} {bs : List UInt8} {off : Bool} {cut : Int} {w w' : World} (h : MSt base M bs off cut w) (hb : Below w.heap.size w w') : MSt base M bs off cut w' := h.fr (X := fun _ => False) (Fr.of_below hb) (fun h => h)
theorem MSt.set0 {base M : Nat} {bs : List UInt8} {off : Bool} {cut : Int} {w : World} (h : MSt base M bs off cut w) (b : List UInt8) : MSt base M b off cut (w.setCell ⟨M, 0, none⟩ (.string (S b))) :=
  ⟨World.cell?_setCell_same _ _ _ h.c0, (World.cell?_setCell_other _ _ _ _ (by simp)).trans h.c1, (World.cell?_setCell_other _ _ _ _ (by simp)).trans h.c2, fun o => by simpa using h.fz o, h.ge⟩
theorem MSt.set1 {base M : Nat} {bs : List UInt8} {off : Bool} {cut : Int} {w : World} (h : MSt base M bs off cut w) (b : Bool) : MSt base M bs b cut (w.setCell ⟨M, 1, none⟩ (.bool b)) :=
  ⟨(World.cell?_setCell_other _ _ _ _ (by simp)).trans h.c0, World.cell?_setCell_same _ _ _ h.c1, (World.cell?_setCell_other _ _ _ _ (by simp)).trans h.c2, fun o => by simpa using h.fz o, h.ge⟩
theorem MSt.set2 {base M : Nat} {bs : List UInt8} {off : Bool} {cut : Int} {w : World} (h : MSt base M bs off cut w) (n : Int) : MSt base M bs off n (w.setCell ⟨M, 2, none⟩ (.int .i64 n)) :=
  ⟨(World.cell?_setCell_other _ _ _ _ (by simp)).trans h.c0, (World.cell?_setCell_other _ _ _ _ (by simp)).trans h.c1, World.cell?_setCell_same _ _ _ h.c2, fun o => by simpa using h.fz o, h.ge⟩
theorem frm_set (w : World) (M o : Nat) (x : Value) : Fr (· = M) w (w.setCell ⟨M, o, none⟩ x) :=
  ⟨rfl, rfl, rfl, by simp, fun k hk hk2 => heap_setCell_other w ⟨M, o, none⟩ k x hk2⟩

theorem msetcut_any (base M : Nat) (bs : List UInt8) (off : Bool) (cut n : Int) (w : World) (hst : MSt base M bs off cut w) :
    Calls Tryz.prog 20 #[.pointer (some ⟨M, 0, none⟩), .int .i64 n] w fun e w' =>
      e = .returned (.int .i64 (if n < 0 then 2 else if off = true then 11 else 0)) ∧ MSt base M bs off (if n < 0 ∨ off = true then cut else n) w' ∧ Fr (· = M) w w' := by
  have k1 := hst.c1
  have k2 := hst.c2
  have k2f := hst.fz 2
  have HS := Lib.hid hst
  have HF : Hid (Fr (· = M) w w) := Lib.hid (Fr.of_below (Below.refl _ _))
  have HS2 := Lib.hid (hst.set2 n)
  have HF2 := Lib.hid (frm_set w M 2 (.int .i64 n))
  clear hst
  by_cases hn0 : n < 0
  · rw [if_pos hn0, if_pos (.inl hn0)]
    go_enter Tryz.func20, Tryz.ntmps20
    go_wp2_with fail
    go_ret
    exact ⟨rfl, HS.out, HF.out⟩
  · rw [if_neg hn0]
    cases off with
    | true =>
      rw [if_pos rfl, if_pos (.inr rfl)]
      go_enter Tryz.func20, Tryz.ntmps20
      go_wp2_with fail
      go_ret
      exact ⟨rfl, HS.out, HF.out⟩
    | false =>
      rw [if_neg (by simp), if_neg (by simp [hn0])]
      go_enter Tryz.func20, Tryz.ntmps20
      go_wp2_with fail
      go_ret
      exact ⟨rfl, HS2.out, HF2.out⟩

/-- how the document's recovering ends -/
def MRecEnds (base M : Nat) (bs : List UInt8) (w : World) (e : Ending) (w' : World) : Prop :=
  ∃ u L n, e = .returned u ∧ Rw opE 38 w.heap.size u L w' ∧ Jrn.Rd GoodO recO bs L n ∧ L.length ≤ n ∧ MSt base M (bs.take n) false (-1) w' ∧ Fr (· = M) w w'
theorem mrecover_any (base M : Nat) (bs : List UInt8) (off : Bool) (cut : Int) (w : World) (hst : MSt base M bs off cut w) (hs : bs.length ≤ 65536) :
    Calls Tryz.prog 22 #[.pointer (some ⟨M, 0, none⟩)] w (MRecEnds base M bs w) := by
  have HS := Lib.hid hst
  have k0 := hst.c0
  have HR : Hid (Calls Tryz.prog 23 #[.string (S bs)] w (ReadEnds bs w)) := Lib.hid (by
    have := mread_any (S bs) w (by rw [S_size]; exact hs)
    rwa [S_list] at this)
  clear hst
  go_enter Tryz.func22, Tryz.ntmps22
  go_wp2_with fail
  refine HR.out.mono ?_
  rintro e w1 ⟨u, L, n, rfl, hRw, hRd, hLn, hb1⟩
  have h1 := HS.out.below hb1
  have h2 := h1.set0 (bs.take n)
  have h3 := h2.set1 false
  have h4 := h3.set2 (-1)
  have hne : u.ownBlock ≠ some M := fun e => by
    have := (hRw.lt M e).1
    have := HS.out.lt
    omega
  have hF := ((frm_set w1 M 0 (.string (S (bs.take n)))).trans (frm_set _ M 1 (.bool false))).trans (frm_set _ M 2 (.int .i64 (-1)))
  have HF := Lib.hid ((Fr.of_below (X := (· = M)) hb1).trans hF)
  have HRw := Lib.hid (hRw.fr (fun k a b => hF.block k a b) (fun k hk e => hne (by rw [hk, e])))
  have HS4 := Lib.hid h4
  have HRd := Lib.hid hRd
  have q0 := h1.c0
  have q1 := h2.c1
  have q2 := h3.c2
  have f0 := h1.fz 0
  have f1 := h2.fz 1
  have f2 := h3.fz 2
  have hn : n ≤ bs.length := hRd.le
  have hsz : (S bs).size = bs.length := S_size bs
  have hext : (S bs).extract 0 n = S (bs.take n) := by
    apply ByteArray.ext
    apply Array.toList_inj.1
    rw [ByteArray.data_extract, Array.toList_extract, List.extract]
    simp [S]
  have n1 : (n : Int) ≤ (bs.length : Int) := by omega
  clear h1 h2 h3 h4 hF hRw hRd hb1 k0 hne
  go_wp2_with fail
  go_ret
  exact ⟨u, L, n, rfl, HRw.out, HRd.out, hLn, HS4.out, HF.out⟩
/-- the document's appending: bytes, power, the cut, the error's number -/
def mAp (bs : List UInt8) (off : Bool) (cut : Int) (o : OpT) : List UInt8 × Bool × Int × Nat :=
  if opErr o ≠ 0 then (bs, off, cut, opErr o)
  else if 65536 < bs.length + (recO o).length then (bs, off, cut, 8)
  else if off = true then (bs, off, cut, 11)
  else if 0 ≤ cut ∧ cut < (recO o).length then (bs ++ (recO o).take cut.toNat, true, cut, 11)
  else (bs ++ recO o, off, if 0 ≤ cut then cut - (recO o).length else cut, 0)
def MApEnds (base M : Nat) (r : List UInt8 × Bool × Int × Nat) (w : World) (e : Ending) (w' : World) : Prop :=
  e = .returned (.int .i64 (r.2.2.2 : Int)) ∧ MSt base M r.1 r.2.1 r.2.2.1 w' ∧ Fr (· = M) w w'

theorem mappend_any (base M : Nat) (bs : List UInt8) (off : Bool) (cut : Int) (o : OpT) (w : World) (hw : o.Wf) (hst : MSt base M bs off cut w) (hs : bs.length ≤ 65536) (hcut : cut ≤ 9223372036854775807) (hcut2 : -1 ≤ cut) :
    Calls Tryz.prog 19 #[.pointer (some ⟨M, 0, none⟩), opV o] w (MApEnds base M (mAp bs off cut o) w) := by
  have HErr : Hid (∀ w, Calls Tryz.prog 34 #[opV o] w fun e w' => e = .returned (.int .i64 (opErr o)) ∧ Below w.heap.size w w') := Lib.hid fun w => opError_any o w hw
  have HS := Lib.hid hst
  by_cases he : opErr o ≠ 0
  · have HE : Hid (mAp bs off cut o = (bs, off, cut, opErr o)) := Lib.hid (by rw [mAp, if_pos he])
    obtain ⟨k, hk⟩ : ∃ k, opErr o = k := ⟨_, rfl⟩
    rw [hk] at HErr HE he
    have hkp : (0 : Int) < (k : Int) := by omega
    clear hst hw hk he
    rw [HE.out]
    go_enter Tryz.func19, Tryz.ntmps19
    go_wp2_with fail
    refine (HErr.out _).mono ?_
    rintro e w1 ⟨rfl, hb⟩
    have hb1 : Below w.heap.size w w1 := ((Below.refl _ w).alloc (Nat.le_refl _) _).trans (hb.mono (by simp))
    have HB := Lib.hid hb1
    clear hb hb1
    go_wp2_with fail
    go_ret
    exact ⟨rfl, HS.out.below HB.out, Fr.of_below HB.out⟩
  · have he0 : opErr o = 0 := by omega
    have hl := opText_len hw
    have hlr : (recO o).length = (opTextL o).length + 10 := by rw [recO, recL_len]
    have HX : Hid (∀ w, Calls Tryz.prog 12 #[opV o] w fun e w' => e = .returned (.string (S (opTextL o))) ∧ Below w.heap.size w w') := Lib.hid fun w => refOpText_any o w hw
    have HR : Hid (∀ w, Calls Tryz.prog 11 #[.string (S (opTextL o))] w fun e w' => e = .returned (.string (S (recO o))) ∧ Below w.heap.size w w') := Lib.hid fun w => by
      have := mrecord_any (S (opTextL o)) w (by rw [S_size]; omega)
      rwa [S_list] at this
    have hRs : (S (recO o)).size = (recO o).length := S_size _
    have hBs : (S bs).size = bs.length := S_size _
    obtain ⟨n, hn⟩ : ∃ n, (recO o).length = n := ⟨_, rfl⟩
    rw [hn] at hRs hlr
    have HN := Lib.hid hn
    have HE : Hid (mAp bs off cut o = if 65536 < bs.length + n then (bs, off, cut, 8) else if off = true then (bs, off, cut, 11) else if 0 ≤ cut ∧ cut < n then (bs ++ (recO o).take cut.toNat, true, cut, 11) else (bs ++ recO o, off, if 0 ≤ cut then cut - n else cut, 0)) := Lib.hid (by rw [mAp, if_neg (by omega), hn])
    rw [he0] at HErr
    have hnb : n ≤ 500000 := by omega
    have hBb : (S bs).size ≤ 65536 := by omega
    clear hst hw he hn hl he0 hlr
    generalize mAp bs off cut o = r at HE ⊢
    generalize recO o = R at HR HE HN hRs ⊢
    go_enter Tryz.func19, Tryz.ntmps19
    go_wp2_with fail
    refine (HErr.out _).mono ?_
    rintro e w1 ⟨rfl, hb⟩
    have HB := Lib.hid (((Below.refl w.heap.size w).alloc (Nat.le_refl _) (.cells o.cells 38)).trans (hb.mono (by simp)))
    obtain ⟨q0, q1, q2, q3, q4, q5, q6, q7⟩ := (OpAt.start w o 38).below hb
    clear hb HErr
    go_wp2_with fail
    clear q0 q1 q2 q3 q4 q5 q6 q7
    refine (HX.out _).mono ?_
    rintro e w2 ⟨rfl, hb⟩
    have HB2 := Lib.hid (HB.out.trans (hb.mono HB.out.size))
    clear hb HB HX
    go_wp2_with fail
    refine (HR.out _).mono ?_
    rintro e w3 ⟨rfl, hb⟩
    have HB3 := Lib.hid (HB2.out.trans (hb.mono HB2.out.size))
    have hS3 := HS.out.below HB3.out
    have HF3 : Hid (Fr (· = M) w w3) := Lib.hid (Fr.of_below HB3.out)
    clear hb HB2 HR
    have k0 := hS3.c0
    have k1 := hS3.c1
    have k2 := hS3.c2
    have f0 := hS3.fz 0
    have f1 := hS3.fz 1
    have f2 := hS3.fz 2
    have HS3 := Lib.hid hS3
    clear hS3 HS HB3
    have hr := HE.out
    clear HE
    by_cases hfull : 65536 < bs.length + n
    · have c1 : (65536 : Int) < (bs.length : Int) + (n : Int) := by omega
      rw [if_pos hfull] at hr
      subst hr
      go_wp2_with fail
      go_ret
      exact ⟨rfl, HS3.out, HF3.out⟩
    · have c1 : ¬ (65536 : Int) < (bs.length : Int) + (n : Int) := by omega
      rw [if_neg hfull] at hr
      cases off with
      | true =>
        rw [if_pos rfl] at hr
        subst hr
        go_wp2_with fail
        go_ret
        exact ⟨rfl, HS3.out, HF3.out⟩
      | false =>
        rw [if_neg (by simp)] at hr
        have HA := Lib.hid (S_app bs R)
        by_cases hc : 0 ≤ cut
        · by_cases hc2 : cut < n
          · rw [if_pos ⟨hc, hc2⟩] at hr
            subst hr
            obtain ⟨m, rfl⟩ : ∃ m : Nat, cut = m := ⟨cut.toNat, by omega⟩
            have hext : (S R).extract 0 m = S (R.take m) := by
              apply ByteArray.ext
              apply Array.toList_inj.1
              rw [ByteArray.data_extract, Array.toList_extract, List.extract]
              simp [S]
            have hm : m ≤ 65536 := by omega
            have hts : (S (R.take m)).size = m := by rw [S_size, List.length_take, HN.out]; omega
            have HA := Lib.hid (S_app bs (R.take m))
            have hm0 : (0 : Int) ≤ (m : Int) := by omega
            have hm1 : (m : Int) ≤ (n : Int) := by omega
            have hm3 : m ≤ n := by omega
            have z3 : ¬ 9223372036854775807 < bs.length + m := by omega
            rw [Int.toNat_natCast]
            go_wp2_with fail
            go_still_tail 14, (by kernel_rfl)
            change wpList _ _ _ _ _ w3.drew
            have hS4 := HS3.out.below (Below.refl _ w3).drew
            have hF4 : Fr (· = M) w w3.drew := HF3.out.trans (Fr.of_below (Below.refl _ w3).drew)
            clear k0 k1 k2 f0 f1 f2 HS3 HF3
            generalize w3.drew = w4 at hS4 hF4 ⊢
            have k0 := hS4.c0
            have k1 := hS4.c1
            have f0 := hS4.fz 0
            have f1 := hS4.fz 1
            have HS4 := Lib.hid ((hS4.set0 (bs ++ R.take m)).set1 true)
            have HF4 := Lib.hid (hF4.trans ((frm_set w4 M 0 (.string (S (bs ++ R.take m)))).trans (frm_set _ M 1 (.bool true))))
            rw [← S_app] at HS4 HF4
            clear hS4 hF4
            go_wp2_with fail
            go_ret
            exact ⟨rfl, HS4.out, HF4.out⟩
          · rw [if_neg (by omega), if_pos hc] at hr
            subst hr
            have HS4 := Lib.hid ((HS3.out.set2 (cut - n)).set0 (bs ++ R))
            have HF4 := Lib.hid (HF3.out.trans ((frm_set w3 M 2 (.int .i64 (cut - n))).trans (frm_set _ M 0 (.string (S (bs ++ R))))))
            rw [← S_app] at HS4 HF4
            go_wp2_with fail
            go_ret
            exact ⟨rfl, HS4.out, HF4.out⟩
        · rw [if_neg (by omega), if_neg hc] at hr
          subst hr
          have HS4 := Lib.hid (HS3.out.set0 (bs ++ R))
          have HF4 := Lib.hid (HF3.out.trans (frm_set w3 M 0 (.string (S (bs ++ R)))))
          rw [← S_app] at HS4 HF4
          go_wp2_with fail
          go_ret
          exact ⟨rfl, HS4.out, HF4.out⟩
end Go.Proofs.YtbncfpljiihmnaaGreatDoor
