/- The journal: a record; an operation appended. -/
import Derived.Test.YtbncfpljiihmnaaGreatDoorDisk
import Derived.Test.YtbncfpljiihmnaaGreatDoorSum
import Derived.Test.YtbncfpljiihmnaaGreatDoorJText
namespace Go.Proofs.YtbncfpljiihmnaaGreatDoor
open Go Go.RowKit
set_option linter.unusedVariables false
set_option linter.unusedSimpArgs false
set_option maxHeartbeats 4000000
set_option maxRecDepth 100000

theorem Gd.db15 {F : Nat → Bool} {ea : Nat → Addr} {w : World} (hG : Gd F ea w) (f23 : F 23 = true) : w.cell? ⟨20, 15, none⟩ = some (.int .u8 4) := by
  have h := World.var?_cell (P := Tryz.prog) (g := 20) (by kernel_rfl) (hG.db f23) 15
  simpa [dbTab] using h

theorem record_any {F : Nat → Bool} (ea : Nat → Addr) (s : ByteArray) (w : World) (hG : Gd F ea w) (f23 : F 23 = true) (hs : s.size ≤ 1000000) :
    Calls Tryz.prog 29 #[.string s] w fun e w' => e = .returned (.string (S (recL s.data.toList))) ∧ Below w.heap.size w w' := by
  have H : Hid (Calls Tryz.prog 41 #[.string s] w fun e w' => e = .returned (.string (S (sumL s.data.toList))) ∧ Below w.heap.size w w') := Lib.hid (sum_any s w hs (hG.db15 f23))
  have h8 : (S (sumL s.data.toList)).size = 8 := rfl
  have hs1 : (⟨#[35]⟩ : ByteArray).size = 1 := rfl
  have hs2 : (⟨#[10]⟩ : ByteArray).size = 1 := rfl
  have z1 : (s ++ (⟨#[35]⟩ : ByteArray)).size ≤ 1000001 := by rw [ByteArray.size_append]; omega
  have z2 : (s ++ (⟨#[35]⟩ : ByteArray) ++ S (sumL s.data.toList)).size ≤ 1000009 := by rw [ByteArray.size_append]; omega
  have HR : Hid (s ++ (⟨#[35]⟩ : ByteArray) ++ S (sumL s.data.toList) ++ (⟨#[10]⟩ : ByteArray) = S (recL s.data.toList)) := Lib.hid (by
    have e1 : s = S s.data.toList := rfl
    conv => lhs; rw [e1]
    show S _ ++ S [35] ++ S _ ++ S [10] = _
    rw [S_app, S_app, S_app]
    simp [recL, S_list])
  generalize sumL s.data.toList = sl at H h8 z2 HR
  clear hG
  go_enter Tryz.func29, Tryz.ntmps29
  go_wp2_with (go_at_call 41; refine H.out.mono ?_; rintro e w' ⟨rfl, hb⟩; have HB := Lib.hid hb; clear hb)
  go_ret
  refine ⟨?_, HB.out⟩
  rw [← HR.out]
  rfl

/-- the journal's appending: bytes, power, the cut, the error's number -/
def apD (bs : List UInt8) (off : Bool) (cut : Int) (o : OpT) : List UInt8 × Bool × Int × Nat :=
  if opErr o ≠ 0 then (bs, off, cut, opErr o)
  else if 65536 < bs.length + (recO o).length then (bs, off, cut, 8)
  else ((wrD bs off cut (recO o)).1, (wrD bs off cut (recO o)).2.1, (wrD bs off cut (recO o)).2.2.1, if (wrD bs off cut (recO o)).2.2.2 then 0 else 11)
def ApEnds (ea : Nat → Addr) (base D : Nat) (v : Value) (r : List UInt8 × Bool × Int × Nat) (w : World) (e : Ending) (w' : World) : Prop :=
  ∃ v', e = .returned (errW ea r.2.2.2) ∧ DSt base D v' r.1 r.2.1 r.2.2.1 w' ∧ Fr (Own D v) w w' ∧ NewRow v v' w.heap.size

theorem append_any {F : Nat → Bool} (ea : Nat → Addr) (w0 : World) (D : Nat) (v : Value) (bs : List UInt8) (off : Bool) (cut : Int) (o : OpT) (w : World) (hw : o.Wf) (hG : Gd F ea w0) (f2 : F 2 = true) (f3 : F 3 = true) (f4 : F 4 = true) (f5 : F 5 = true) (f8 : F 8 = true) (f11 : F 11 = true) (f21 : F 21 = true) (f23 : F 23 = true) (hbw : Below w0.heap.size w0 w)
    (hst : DSt w0.heap.size D v bs off cut w) (hs : bs.length ≤ 65536) :
    Calls Tryz.prog 15 #[.pointer (some ⟨D, 0, none⟩), opV o] w (ApEnds ea w0.heap.size D v (apD bs off cut o) w) := by
  by_cases he : opErr o ≠ 0
  · have HE : Hid (apD bs off cut o = (bs, off, cut, opErr o)) := Lib.hid (by rw [apD, if_pos he])
    have HX : Hid (∀ w', Gd F ea w' → Calls Tryz.prog 28 #[opV o] w' fun e w'' => e = .returned (.tuple #[.string ⟨#[]⟩, errV (ea (opErr o))]) ∧ Below w'.heap.size w' w'') := Lib.hid fun w' hg => by
      have := opText_bad ea o w' hw hg f2 f3 f4 f5 he
      rwa [errW, if_neg he] at this
    have HG := Lib.hid ((hG.below hbw).alloc (.cells o.cells 38))
    have HS := Lib.hid hst
    have HW : Hid (errW ea (opErr o) = errV (ea (opErr o))) := by rw [errW, if_neg he]; exact Lib.hid rfl
    clear hst hG hbw hw he
    rw [HE.out]
    generalize opErr o = k at HX HW
    go_enter Tryz.func15, Tryz.ntmps15
    go_wp2_with fail
    refine (HX.out _ HG.out).mono ?_
    rintro e w1 ⟨rfl, hb⟩
    have hb1 : Below w.heap.size w w1 := ((Below.refl _ w).alloc (Nat.le_refl _) _).trans (hb.mono (by simp))
    have HB := Lib.hid hb1
    clear hb hb1
    go_wp2_with fail
    go_ret
    exact ⟨v, by rw [HW.out]; rfl, HS.out.below HB.out, Fr.of_below HB.out, fun k hk => .inl hk⟩
  · have he0 : opErr o = 0 := by omega
    have hl := opText_len hw
    have hlr : (recO o).length = (opTextL o).length + 10 := by rw [recO, recL_len]
    have HX : Hid (∀ w', Gd F ea w' → Calls Tryz.prog 28 #[opV o] w' fun e w'' => e = .returned (.tuple #[.string (S (opTextL o)), .nilIface]) ∧ Below w'.heap.size w' w'') := Lib.hid fun w' hg => opText_ok ea o w' hw hg f2 f3 f4 f5 f21 he0
    have HR : Hid (∀ w', Gd F ea w' → Calls Tryz.prog 29 #[.string (S (opTextL o))] w' fun e w'' => e = .returned (.string (S (recO o))) ∧ Below w'.heap.size w' w'') := Lib.hid fun w' hg => by
      have := record_any ea (S (opTextL o)) w' hg f23 (by rw [S_size]; omega)
      rwa [S_list] at this
    have HG := Lib.hid hG
    have HBW := Lib.hid hbw
    have HG2 := Lib.hid ((hG.below hbw).alloc (.cells o.cells 38))
    have HS := Lib.hid hst
    obtain ⟨g, cap, rfl, hcap⟩ := hst.len
    have hRs : (S (recO o)).size = (recO o).length := S_size _
    obtain ⟨n, hn⟩ : ∃ n, (recO o).length = n := ⟨_, rfl⟩
    rw [hn] at hRs hlr
    have HN := Lib.hid hn
    have HE : Hid (apD bs off cut o = if 65536 < bs.length + n then (bs, off, cut, 8) else ((wrD bs off cut (recO o)).1, (wrD bs off cut (recO o)).2.1, (wrD bs off cut (recO o)).2.2.1, if (wrD bs off cut (recO o)).2.2.2 then 0 else 11)) := Lib.hid (by rw [apD, if_neg (by omega), hn])
    clear hst hG hbw hw he hcap hn hlr hl he0
    generalize apD bs off cut o = r at HE ⊢
    have HL2 : Hid ((S (recO o)).data.toList = recO o) := Lib.hid (S_list _)
    generalize recO o = R at HR HE HN HL2 hRs ⊢
    go_enter Tryz.func15, Tryz.ntmps15
    go_wp2_with fail
    refine (HX.out _ HG2.out).mono ?_
    rintro e w1 ⟨rfl, hb⟩
    have hb1 : Below w.heap.size w w1 := ((Below.refl _ w).alloc (Nat.le_refl _) _).trans (hb.mono (by simp))
    have HB := Lib.hid hb1
    have HG3 : Hid (Gd F ea w1) := Lib.hid (HG.out.below (HBW.out.trans (hb1.mono HBW.out.size)))
    clear hb hb1 HG2 HX
    go_wp2_with fail
    refine (HR.out _ HG3.out).mono ?_
    rintro e w2 ⟨rfl, hb⟩
    have hb2 : Below w.heap.size w w2 := HB.out.trans (hb.mono HB.out.size)
    have hS2 := HS.out.below hb2
    have hBW2 : Below w0.heap.size w0 w2 := HBW.out.trans (hb2.mono HBW.out.size)
    have k0 := hS2.c0
    have HS2 := Lib.hid hS2
    have HB2 := Lib.hid hb2
    have HBW2 := Lib.hid hBW2
    have g8 := ((HG.out.below hBW2).errs 8 (by omega) (by omega) f8).var
    simp only [errG] at g8
    clear hb hb2 hS2 hBW2 HR HG3 HB
    by_cases hfull : 65536 < bs.length + n
    · have c1 : (65536 : Int) - (bs.length : Int) < (n : Int) := by omega
      have hr := HE.out
      rw [if_pos hfull] at hr
      subst hr
      go_wp2_with fail
      go_ret
      exact ⟨_, rfl, HS2.out, Fr.of_below HB2.out, fun k hk => .inl hk⟩
    · have c1 : ¬ (65536 : Int) - (bs.length : Int) < (n : Int) := by omega
      have hr := HE.out
      rw [if_neg hfull] at hr
      have HE2 := Lib.hid hr
      clear hr HE
      have HW := Lib.hid (write_any ea w0 D _ bs off cut (S R) w2 HG.out f11 HBW2.out HS2.out (by omega))
      go_wp2_with fail
      refine HW.out.mono ?_
      rintro e w3 ⟨v3, rfl, hD3, hF3, hN3⟩
      rw [HL2.out] at hD3 ⊢
      have hr := HE2.out
      have HD3 := Lib.hid hD3
      have HF3 : Hid (Fr _ _ _) := Lib.hid ((Fr.of_below HB2.out).then (fun k hk => .inl hk) hF3)
      have HN3 : Hid (NewRow _ v3 w.heap.size) := Lib.hid (fun k hk => (hN3 k hk).imp id (fun h => Nat.le_trans HB2.out.size h))
      clear hD3 hF3 hN3 HW
      clear HE2
      cases hok : (wrD bs off cut R).2.2.2 with
      | true =>
        rw [hok, if_pos rfl] at hr
        subst hr
        clear hok
        go_wp2_with fail
        go_ret
        exact ⟨v3, rfl, HD3.out, HF3.out, HN3.out⟩
      | false =>
        rw [hok, if_neg (by simp)] at hr
        subst hr
        clear hok
        go_wp2_with fail
        go_ret
        exact ⟨v3, rfl, HD3.out, HF3.out, HN3.out⟩
end Go.Proofs.YtbncfpljiihmnaaGreatDoor
