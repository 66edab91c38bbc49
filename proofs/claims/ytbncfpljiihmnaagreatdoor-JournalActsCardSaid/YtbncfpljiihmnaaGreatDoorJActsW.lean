/- JournalActs: the walk of the law. -/
import Derived.Test.YtbncfpljiihmnaaGreatDoorJActsL
import Derived.Deep.CutBlock
namespace Go.Proofs.YtbncfpljiihmnaaGreatDoor
open Go Go.RowKit
set_option linter.unusedVariables false
set_option linter.unusedSimpArgs false
set_option maxHeartbeats 4000000
set_option maxRecDepth 100000

/-- what is known of the numbers -/
structure JP (bs : List UInt8) (off : Bool) (cut mcut : Int) : Prop where
  eq : off = false → cut = mcut
  lo : -1 ≤ mcut
  hi : mcut ≤ 9223372036854775807
  len : bs.length ≤ 65536
/-- an operation's cells in an act -/
abbrev OpC (AB : Nat) (o : OpT) (w : World) : Prop :=
  w.cell? ⟨AB, 1, none⟩ = some (.int .i64 o.t) ∧ w.cell? ⟨AB, 2, none⟩ = some (.int .i64 o.b) ∧ w.cell? ⟨AB, 3, none⟩ = some (.int .i64 o.n) ∧ w.cell? ⟨AB, 4, none⟩ = some (.int .u8 o.k) ∧
  w.cell? ⟨AB, 5, none⟩ = some (.int .i64 o.nd) ∧ w.cell? ⟨AB, 6, none⟩ = some (.int .i64 o.ot) ∧ w.cell? ⟨AB, 7, none⟩ = some (.string o.nm) ∧ w.cell? ⟨AB, 8, none⟩ = some (.string o.vl)
theorem OpC.fr {X : Nat → Prop} {AB : Nat} {o : OpT} {w w' : World} (hx : ¬ X AB) (hF : Fr X w w') (h : OpC AB o w) : OpC AB o w' := by
  have hl : AB < w.heap.size := World.block_lt_of_cell? w _ h.1
  exact ⟨(hF.cell (p := ⟨AB, _, none⟩) hl hx).trans h.1, (hF.cell (p := ⟨AB, _, none⟩) hl hx).trans h.2.1, (hF.cell (p := ⟨AB, _, none⟩) hl hx).trans h.2.2.1, (hF.cell (p := ⟨AB, _, none⟩) hl hx).trans h.2.2.2.1, (hF.cell (p := ⟨AB, _, none⟩) hl hx).trans h.2.2.2.2.1, (hF.cell (p := ⟨AB, _, none⟩) hl hx).trans h.2.2.2.2.2.1, (hF.cell (p := ⟨AB, _, none⟩) hl hx).trans h.2.2.2.2.2.2.1, (hF.cell (p := ⟨AB, _, none⟩) hl hx).trans h.2.2.2.2.2.2.2⟩
theorem OpC.below {AB : Nat} {o : OpT} {w w' : World} (hb : Below w.heap.size w w') (h : OpC AB o w) : OpC AB o w' := OpC.fr (X := fun _ => False) (fun h => h) (Fr.of_below hb) h
theorem cell_fr {X : Nat → Prop} {p : Addr} {u : Value} {w w' : World} (hx : ¬ X p.block) (hF : Fr X w w') (h : w.cell? p = some u) : w'.cell? p = some u := (hF.cell (World.block_lt_of_cell? w _ h) hx).trans h
theorem cell_below {p : Addr} {u : Value} {w w' : World} (hb : Below w.heap.size w w') (h : w.cell? p = some u) : w'.cell? p = some u := (hb.cell (World.block_lt_of_cell? w _ h)).trans h

namespace journalActs
theorem walk_long {F : Nat → Bool} (ea : Nat → Addr) (s : ByteArray) (A : Option Addr) (n c : Nat) (w : World) (hG : Gd F ea w) (hF : ∀ k, 1 ≤ k → k ≤ 12 → F k = true) (f21 : F 21 = true) (f22 : F 22 = true) (f23 : F 23 = true) (hbig : 3000 < s.size ∨ 60 < n) :
    Calls Tryz.prog 5 #[.string s, .slice A n c] w fun e w' => e = .returned (.bool true) ∧ Below w.heap.size w w' := by
  have HNo := Lib.hid (noted_any ea w hG (hF 1 (by omega) (by omega)) (hF 2 (by omega) (by omega)) (hF 3 (by omega) (by omega)) (hF 4 (by omega) (by omega)) (hF 5 (by omega) (by omega)) (hF 8 (by omega) (by omega)) (hF 11 (by omega) (by omega)) f21 f22 f23)
  have hb2 : (3000 : Int) < (s.size : Int) ∨ (¬ (3000 : Int) < (s.size : Int) ∧ (60 : Int) < (n : Int)) := by omega
  clear hG hF hbig
  rcases hb2 with h1 | ⟨h1, h2⟩
  all_goals
    go_enter Tryz.func5, Tryz.ntmps5
    go_wp2_with fail
    refine HNo.out.mono ?_
    rintro e w1 ⟨rfl, hb⟩
    have HB := Lib.hid hb
    clear hb
    go_wp2_with fail
    go_ret
    exact ⟨rfl, HB.out⟩
theorem walk {F : Nat → Bool} (ea : Nat → Addr) (s : ByteArray) (A : Option Addr) (n c : Nat) (L : List DActT) (w : World) (hG : Gd F ea w) (hF : ∀ k, 1 ≤ k → k ≤ 12 → F k = true) (f20 : F 20 = true) (f21 : F 21 = true) (f22 : F 22 = true) (f23 : F 23 = true)
    (hs : SlV dactE w (.slice A n c) L) (hwf : ∀ x ∈ L, (x.o.nm.size ≤ 100000 → x.o.vl.size ≤ 100000 → x.o.Wf) ∧ x.n ≤ 9223372036854775807) :
    Calls Tryz.prog 5 #[.string s, .slice A n c] w fun e w' => e = .returned (.bool true) ∧ Below w.heap.size w w' := by
  by_cases hbig : 3000 < s.size ∨ 60 < n
  · exact walk_long ea s A n c w hG hF f21 f22 f23 hbig
  have f1 := hF 1 (by omega) (by omega)
  have f2 := hF 2 (by omega) (by omega)
  have f3 := hF 3 (by omega) (by omega)
  have f4 := hF 4 (by omega) (by omega)
  have f5 := hF 5 (by omega) (by omega)
  have f8 := hF 8 (by omega) (by omega)
  have f11 := hF 11 (by omega) (by omega)
  have HNo := Lib.hid (noted_any ea w hG f1 f2 f3 f4 f5 f8 f11 f21 f22 f23)
  have b1 : ¬ (3000 : Int) < (s.size : Int) := by omega
  have b2 : ¬ (60 : Int) < (n : Int) := by omega
  have hs3 : s.size ≤ 3000 := by omega
  have hn60 : n ≤ 60 := by omega
  have HN : Hid (n = L.length) := Lib.hid hs.len
  have HS := Lib.hid hs
  have HW := Lib.hid hwf
  have HG := Lib.hid hG
  have HFl : Hid (∀ k, 1 ≤ k → k ≤ 12 → F k = true) := Lib.hid hF
  have HND := Lib.hid (fun w => newDisk_any s w (by omega))
  clear hG hF hs hwf hbig
  go_enter Tryz.func5, Tryz.ntmps5
  go_wp2_with fail
  refine HNo.out.mono ?_
  rintro e w1 ⟨rfl, hb⟩
  have HB1 := Lib.hid hb
  clear hb HNo
  go_wp2_with fail
  refine (HND.out _).mono ?_
  rintro e w2 ⟨D, v, rfl, hD, hb⟩
  have hB2 := HB1.out.trans (hb.mono HB1.out.size)
  have hD2 : DSt w.heap.size D v s.data.toList false (-1) w2 := ⟨hD.c0, hD.c1, hD.c2, hD.fz, by obtain ⟨g, cap, cur, fz, h1, h2, h3⟩ := hD.row; exact ⟨g, cap, cur, fz, h1, Nat.le_trans HB1.out.size h2, h3⟩, hD.ne, Nat.le_trans HB1.out.size hD.ge, hD.lo, hD.hi⟩
  have HJ : Hid (JA w D w2.heap.size v s.data.toList false (-1) (-1) (w2.alloc (.cells #[.string s, .bool false, .int .i64 (-1)] 49))) := Lib.hid (by
    refine ⟨hD2.below ((Below.refl _ _).alloc (Nat.le_refl _) _), ⟨by simp [go_sem]; rfl, by simp [go_sem], by simp [go_sem], fun o => by simp [go_sem], hB2.size⟩, ?_, hB2.alloc hB2.size _⟩
    rintro (h | h)
    · have := hD2.lt; omega
    · have := (hD2.row.lt _ h).2; omega)
  have HP : Hid (JP s.data.toList false (-1) (-1)) := Lib.hid ⟨fun _ => rfl, by omega, by omega, by have : s.data.toList.length = s.size := rfl; omega⟩
  clear hb hB2 hD hD2 HND HB1
  go_wp2_with fail
  obtain ⟨M, hM⟩ : ∃ M, M = w2.heap.size := ⟨_, rfl⟩
  obtain ⟨W, hW⟩ : ∃ W, W = w2.alloc (.cells #[.string s, .bool false, .int .i64 (-1)] 49) := ⟨_, rfl⟩
  rw [← hW, ← hM] at HJ
  rw [← hW, ← hM]
  clear hW hM
  go_loopw [9] (fun v9 wr => ∃ (i : Nat) (v : Value) (bs : List UInt8) (off : Bool) (cut mcut : Int), i ≤ n ∧ v9 = .int .i64 i ∧ JA w D M v bs off cut mcut wr ∧ Hid (JP bs off cut mcut)) (fun v9 _ => n - (intOf v9).toNat)
  case atStart => exact ⟨0, v, _, _, _, _, by omega, rfl, HJ.out, HP⟩
  case round =>
    clear HJ HP
    obtain ⟨i, v, bs, off, cut, mcut, hi, rfl, hJ, HP⟩ := hrel
    have HJ := Lib.hid hJ
    clear hJ
    by_cases hlt : i < n
    · obtain ⟨x, hx⟩ : ∃ x, L[i]? = some x := ⟨_, List.getElem?_eq_getElem (by have := HN.out; omega)⟩
      obtain ⟨b, ofs, rfl, hbl, hc⟩ := dacts_at (HS.out.below HJ.out.bel) hx
      have HX := Lib.hid (HW.out x (List.mem_of_getElem? hx))
      have e0 : wr.cell? ⟨b, ofs + i * 10, none⟩ = some (.string x.kind) := hc 0 _ rfl
      have e1 : wr.cell? ⟨b, ofs + i * 10 + 1, none⟩ = some (.int .i64 x.o.t) := hc 1 _ rfl
      have e2 : wr.cell? ⟨b, ofs + i * 10 + 2, none⟩ = some (.int .i64 x.o.b) := hc 2 _ rfl
      have e3 : wr.cell? ⟨b, ofs + i * 10 + 3, none⟩ = some (.int .i64 x.o.n) := hc 3 _ rfl
      have e4 : wr.cell? ⟨b, ofs + i * 10 + 4, none⟩ = some (.int .u8 x.o.k) := hc 4 _ rfl
      have e5 : wr.cell? ⟨b, ofs + i * 10 + 5, none⟩ = some (.int .i64 x.o.nd) := hc 5 _ rfl
      have e6 : wr.cell? ⟨b, ofs + i * 10 + 6, none⟩ = some (.int .i64 x.o.ot) := hc 6 _ rfl
      have e7 : wr.cell? ⟨b, ofs + i * 10 + 7, none⟩ = some (.string x.o.nm) := hc 7 _ rfl
      have e8 : wr.cell? ⟨b, ofs + i * 10 + 8, none⟩ = some (.string x.o.vl) := hc 8 _ rfl
      have e9 : wr.cell? ⟨b, ofs + i * 10 + 9, none⟩ = some (.int .i64 x.n) := hc 9 _ rfl
      clear hx hc hbl
      have i0 : (0 : Int) ≤ (i : Int) := by omega
      have i1 : (i : Int) < (n : Int) := by omega
      have HA0 : Hid (∀ o, Below w.heap.size w (wr.alloc o)) := Lib.hid fun o => HJ.out.bel.alloc HJ.out.bel.size o
      by_cases hlong : (60 : Int) < (x.o.nm.size : Int) ∨ (¬ (60 : Int) < (x.o.nm.size : Int) ∧ (60 : Int) < (x.o.vl.size : Int))
      · rcases hlong with l1 | ⟨l1, l2⟩
        all_goals
          go_wp2_with fail
          go_ret
          exact ⟨rfl, HA0.out _⟩
      · have l1 : ¬ (60 : Int) < (x.o.nm.size : Int) := by omega
        have l2 : ¬ (60 : Int) < (x.o.vl.size : Int) := by omega
        have HWf : Hid x.o.Wf := Lib.hid (HX.out.1 (by omega) (by omega))
        clear hlong HA0
        obtain ⟨ta, hta⟩ : ∃ ta, (x.kind.toList == [97, 112, 112, 101, 110, 100]) = ta := ⟨_, rfl⟩
        obtain ⟨tb, htb⟩ : ∃ tb, (x.kind.toList == [99, 117, 116]) = tb := ⟨_, rfl⟩
        obtain ⟨tc, htc⟩ : ∃ tc, (x.kind.toList == [111, 110]) = tc := ⟨_, rfl⟩
        go_upto_block 2 with (fail)
        clear e0 e1 e2 e3 e4 e5 e6 e7 e8 e9 l1 l2
        have HJ1 := Lib.hid (HJ.out.below ((Below.refl _ _).alloc (Nat.le_refl _) (.cells x.cells 51)))
        have HC1 : Hid (OpC wr.heap.size x.o (wr.alloc (.cells x.cells 51))) := Lib.hid ⟨by simp [go_sem, DActT.cells], by simp [go_sem, DActT.cells], by simp [go_sem, DActT.cells], by simp [go_sem, DActT.cells], by simp [go_sem, DActT.cells], by simp [go_sem, DActT.cells], by simp [go_sem, DActT.cells], by simp [go_sem, DActT.cells]⟩
        have HK0 : Hid ((wr.alloc (.cells x.cells 51)).cell? ⟨wr.heap.size, 0, none⟩ = some (.string x.kind)) := Lib.hid (by simp [go_sem, DActT.cells])
        have HN1 : Hid ((wr.alloc (.cells x.cells 51)).cell? ⟨wr.heap.size, 9, none⟩ = some (.int .i64 x.n)) := Lib.hid (by simp [go_sem, DActT.cells])
        have HXA : Hid (¬ Own D v wr.heap.size) := Lib.hid (by
          rintro (h | h)
          · have := HJ.out.d.lt; omega
          · have := (HJ.out.d.row.lt _ h).2; omega)
        have HXM : Hid (¬ wr.heap.size = M) := Lib.hid (fun e => by have := HJ.out.m.lt; omega)
        obtain ⟨AB, hAB⟩ : ∃ AB, AB = wr.heap.size := ⟨_, rfl⟩
        obtain ⟨W1, hW1⟩ : ∃ W1, W1 = wr.alloc (.cells x.cells 51) := ⟨_, rfl⟩
        rw [← hW1] at HJ1 HC1 HN1 HK0
        rw [← hAB] at HC1 HN1 HK0 HXA HXM
        have hW1' := hW1
        simp only [DActT.cells] at hW1'
        rw [← hW1', ← hAB]
        clear hW1 hW1' hAB HJ
        have HTA := Lib.hid hta
        have HTB := Lib.hid htb
        have HTC := Lib.hid htc
        clear hta htb htc
        go_cut [] (fun wc => ∃ (v' : Value) (bs' : List UInt8) (off' : Bool) (cut' mcut' : Int), JA w D M v' bs' off' cut' mcut' wc ∧ Hid (JP bs' off' cut' mcut'))
        case first =>
          have htb := HTB.out
          have htc := HTC.out
          have e0 := HK0.out
          cases ta with
          | true =>
            have hta := HTA.out
            obtain ⟨b', off', cut', mc', k, hap, hmp, q1, q2, q3, q4, hk⟩ := ap_same x.o HP.out.eq HP.out.lo HP.out.hi HP.out.len
            have HD : Hid (JA w D M v bs off cut mcut W1.drew) := Lib.hid (HJ1.out.below (Below.refl _ _).drew)
            obtain ⟨E, hE⟩ : ∃ E, E = errW ea k := ⟨_, rfl⟩
            have HA : Hid (Calls Tryz.prog 15 #[.pointer (some ⟨D, 0, none⟩), opV x.o] W1.drew fun e w' => ∃ v', e = .returned E ∧ DSt w.heap.size D v' b' off' cut' w' ∧ Fr (Own D v) W1.drew w' ∧ NewRow v v' W1.drew.heap.size) := Lib.hid (by
              have := append_any ea w D v bs off cut x.o W1.drew HWf.out HG.out f2 f3 f4 f5 f8 f11 f21 f23 HD.out.bel HD.out.d HP.out.len
              rw [hap] at this
              rw [hE]
              exact this)
            have HMA : Hid (∀ w', MSt w.heap.size M bs off mcut w' → Calls Tryz.prog 19 #[.pointer (some ⟨M, 0, none⟩), opV x.o] w' (MApEnds w.heap.size M (b', off', mc', k) w')) := Lib.hid fun w' hm => by
              have := mappend_any w.heap.size M bs off mcut x.o w' HWf.out hm HP.out.len HP.out.hi HP.out.lo
              rwa [hmp] at this
            have HP2 : Hid (JP b' off' cut' mc') := Lib.hid ⟨q1, q2, q3, q4⟩
            have HCo : Hid (∀ w', Below w.heap.size w w' → Calls Tryz.prog 18 #[E, .int .i64 (k : Int)] w' fun e w'' => e = .returned (.bool true) ∧ Below w'.heap.size w' w'') := Lib.hid fun w' hb => by rw [hE]; exact codedW2 ea k w' hk (HG.out.below hb) HFl.out f20
            have HK8 : Hid (OpC AB x.o W1.drew) := Lib.hid (HC1.out.below (Below.refl _ _).drew)
            clear hE hap hmp q1 q2 q3 q4
            go_wp2_with fail
            go_region_held3 (fun w' => w'.cell? ⟨AB, 1, none⟩ = some (.int .i64 x.o.t) ∧ w'.cell? ⟨AB, 2, none⟩ = some (.int .i64 x.o.b) ∧ w'.cell? ⟨AB, 3, none⟩ = some (.int .i64 x.o.n) ∧ w'.cell? ⟨AB, 4, none⟩ = some (.int .u8 x.o.k) ∧ w'.cell? ⟨AB, 5, none⟩ = some (.int .i64 x.o.nd) ∧ w'.cell? ⟨AB, 6, none⟩ = some (.int .i64 x.o.ot) ∧ w'.cell? ⟨AB, 7, none⟩ = some (.string x.o.nm) ∧ w'.cell? ⟨AB, 8, none⟩ = some (.string x.o.vl))
              ((first | exact HK8.out | exact OpC.fr HXA.out (by assumption) (by assumption) | exact OpC.fr HXM.out (by assumption) (by assumption) | exact OpC.below (by assumption) (by assumption)))
              (first
                | (go_at_call 15; refine HA.out.mono ?_; rintro e wA ⟨vA, rfl, hdA, hfA, hnA⟩)
                | (go_at_call 19; refine (HMA.out _ (HD.out.mid hfA)).mono ?_; rintro e wB ⟨rfl, hmB, hgB⟩; have hJB := HD.out.step hdA hfA hnA hmB hgB)
                | (go_at_call 18; refine (HCo.out _ hJB.bel).mono ?_; rintro e wC ⟨rfl, hbC⟩))
            have HJC := Lib.hid (hJB.below hbC)
            clear hJB hbC hdA hfA hnA hmB hgB HA HMA HCo HD HJ1 HK8
            go_wp2_with fail
            go_meet
            case rel => exact ⟨_, _, _, _, _, HJC.out, HP2⟩
          | false =>
            have hta := HTA.out
            cases tb with
            | true =>
              obtain ⟨k, hk⟩ : ∃ k : Nat, k = if x.n < 0 then 2 else if off = true then 11 else 0 := ⟨_, rfl⟩
              have HKL : k ≤ 12 := by rw [hk]; split; omega; split <;> omega
              have hkE : (if x.n < 0 then errV (ea 2) else if off = true then errV (ea 11) else .nilIface) = errW ea k := by
                rw [hk]
                split
                · rfl
                · split <;> rfl
              have hkN : (if x.n < 0 then (2 : Int) else if off = true then 11 else 0) = (k : Int) := by
                rw [hk]
                split
                · rfl
                · split <;> rfl
              have HD : Hid (JA w D M v bs off cut mcut W1.drew) := Lib.hid (HJ1.out.below (Below.refl _ _).drew)
              obtain ⟨E, hE⟩ : ∃ E, E = errW ea k := ⟨_, rfl⟩
              obtain ⟨cut', hc1⟩ : ∃ c, c = if x.n < 0 ∨ off = true then cut else x.n := ⟨_, rfl⟩
              obtain ⟨mc', hc2⟩ : ∃ c, c = if x.n < 0 ∨ off = true then mcut else x.n := ⟨_, rfl⟩
              have HA : Hid (Calls Tryz.prog 14 #[.pointer (some ⟨D, 0, none⟩), .int .i64 x.n] W1.drew fun e w' => e = .returned E ∧ DSt w.heap.size D v bs off cut' w' ∧ Fr (Own D v) W1.drew w') := Lib.hid (by
                have := diskCut_any ea w.heap.size D v bs off cut x.n W1.drew (HG.out.below HD.out.bel) f2 f11 HX.out.2 HD.out.d
                rwa [hkE, ← hE, ← hc1] at this)
              have HMA : Hid (∀ w', MSt w.heap.size M bs off mcut w' → Calls Tryz.prog 20 #[.pointer (some ⟨M, 0, none⟩), .int .i64 x.n] w' fun e w'' => e = .returned (.int .i64 (k : Int)) ∧ MSt w.heap.size M bs off mc' w'' ∧ Fr (· = M) w' w'') := Lib.hid fun w' hm => by
                have := msetcut_any w.heap.size M bs off mcut x.n w' hm
                rwa [hkN, ← hc2] at this
              have HP2 : Hid (JP bs off cut' mc') := Lib.hid (by
                have h1 := HP.out.lo
                have h2 := HP.out.hi
                have h3 := HX.out.2
                refine ⟨fun h => ?_, ?_, ?_, HP.out.len⟩
                · rw [hc1, hc2]
                  split
                  · exact HP.out.eq h
                  · rfl
                · rw [hc2]; split
                  · exact h1
                  · omega
                · rw [hc2]; split
                  · exact h2
                  · exact h3)
              have HCo : Hid (∀ w', Below w.heap.size w w' → Calls Tryz.prog 18 #[E, .int .i64 (k : Int)] w' fun e w'' => e = .returned (.bool true) ∧ Below w'.heap.size w' w'') := Lib.hid fun w' hb => by rw [hE]; exact codedW2 ea k w' HKL (HG.out.below hb) HFl.out f20
              have HK8 : Hid (W1.drew.cell? ⟨AB, 9, none⟩ = some (.int .i64 x.n)) := Lib.hid (cell_below (Below.refl _ _).drew HN1.out)
              have HXA' : Hid (¬ Own D v (Addr.block ⟨AB, 9, none⟩)) := Lib.hid HXA.out
              have HXM' : Hid (¬ (Addr.block ⟨AB, 9, none⟩) = M) := Lib.hid HXM.out
              clear hE hk hkE hkN hc1 hc2
              go_wp2_with fail
              go_region_held3 (fun w' => w'.cell? ⟨AB, 9, none⟩ = some (.int .i64 x.n))
                ((first | exact HK8.out | exact cell_fr HXA'.out (by assumption) (by assumption) | exact cell_fr HXM'.out (by assumption) (by assumption) | exact cell_below (by assumption) (by assumption)))
                (first
                  | (go_at_call 14; refine HA.out.mono ?_; rintro e wA ⟨rfl, hdA, hfA⟩)
                  | (go_at_call 20; refine (HMA.out _ (HD.out.mid hfA)).mono ?_; rintro e wB ⟨rfl, hmB, hgB⟩; have hJB := HD.out.step hdA hfA (fun k hk => .inl hk) hmB hgB)
                  | (go_at_call 18; refine (HCo.out _ hJB.bel).mono ?_; rintro e wC ⟨rfl, hbC⟩))
              have HJC := Lib.hid (hJB.below hbC)
              clear hJB hbC hdA hfA hmB hgB HA HMA HCo HD HJ1 HK8
              go_wp2_with fail
              go_meet
              case rel => exact ⟨_, _, _, _, _, HJC.out, HP2⟩
            | false =>
              cases tc with
              | true =>
                have HO := Lib.hid (diskOn_any w.heap.size D v bs off cut W1 HJ1.out.d)
                go_wp2_with fail
                refine HO.out.mono ?_
                rintro e w3 ⟨rfl, hD3, hF3⟩
                have hM3 := HJ1.out.mid hF3
                have hM4 := (hM3.set1 false).set2 (-1)
                have hJ5 := HJ1.out.step hD3 hF3 (fun k hk => .inl hk) hM4 ((frm_set w3 M 1 (.bool false)).trans (frm_set _ M 2 (.int .i64 (-1))))
                have HJ5 := Lib.hid hJ5
                have k1 := hM3.c1
                have g1 := hM3.fz 1
                have k2 := (hM3.set1 false).c2
                have g2 := (hM3.set1 false).fz 2
                clear hD3 hF3 hM3 hM4 hJ5 HO HJ1 e0
                go_wp2_with fail
                go_meet
                case rel => exact ⟨_, _, _, _, _, HJ5.out, Lib.hid ⟨fun _ => rfl, by omega, by omega, HP.out.len⟩⟩
              | false =>
                have HR := Lib.hid (recover_any ea w D v bs off cut W1 HG.out f1 f2 f3 f4 f5 f21 f22 f23 HJ1.out.bel HJ1.out.d HP.out.len)
                have hW1s := HJ1.out.m.lt
                go_wp2_with fail
                refine HR.out.mono ?_
                rintro e w3 ⟨u, L3, n3, v3, rfl, hRw, hRd, hLn, hD3, hF3, hv3⟩
                have HM3 := Lib.hid (HJ1.out.mid hF3)
                have HRw := Lib.hid hRw
                have HRd := Lib.hid hRd
                have HD3 := Lib.hid hD3
                have HF3 := Lib.hid hF3
                have HV3 := Lib.hid hv3
                have HMR := Lib.hid (mrecover_any w.heap.size M bs off mcut w3 HM3.out HP.out.len)
                clear hRw hRd hD3 hF3 hv3 HR e0
                go_wp2_with fail
                refine HMR.out.mono ?_
                rintro e w4 ⟨u4, L4, n4, rfl, hRw4, hRd4, hLn4, hM4, hF4⟩
                obtain ⟨rfl, rfl⟩ := HRd.out.unique recs hRd4
                have hRw34 := HRw.out.fr (X := (· = M)) (fun k h1 h2 => hF4.block k h1 h2) (fun k hk e => by have := (HRw.out.lt k hk).1; omega)
                have hJ4 := HJ1.out.step HD3.out HF3.out (fun k hk => .inl (by rw [← HV3.out]; exact hk)) hM4 hF4
                obtain ⟨A3, m3, c3, rfl⟩ := hRw34.slice
                obtain ⟨A4, m4, c4, rfl⟩ := hRw4.slice
                have hn3 := hRd4.le
                have HSo := Lib.hid (sameOps_any A3 A4 m3 c3 m4 c4 L3 w4 hRw34.sl hRw4.sl (by have := HP.out.len; omega))
                have HJ4 := Lib.hid hJ4
                have HPl : Hid ((bs.take n3).length ≤ 65536) := Lib.hid (by have := HP.out.len; rw [List.length_take]; omega)
                clear hRw4 hRd4 hLn4 hM4 hF4 hRw34 hJ4 hn3 HMR HRw HRd HD3 HF3 HV3 HM3 HJ1
                go_wp2_with fail
                refine HSo.out.mono ?_
                rintro e w5 ⟨rfl, hb5⟩
                have HJ5 := Lib.hid (HJ4.out.below hb5)
                clear hb5 HSo HJ4
                go_wp2_with fail
                go_meet
                case rel => exact ⟨_, _, _, _, _, HJ5.out, Lib.hid ⟨fun _ => rfl, by omega, by omega, HPl.out⟩⟩
        case rest =>
          obtain ⟨v', bs', off', cut', mc', hJ2, HP2⟩ := hcut
          have HJ2 := Lib.hid hJ2
          have k0 := hJ2.m.c0
          have k1 := hJ2.m.c1
          have HBy := Lib.hid (fun q => diskBytes_any w.heap.size D v' bs' off' cut' (wc.drewN q) (hJ2.d.below (below_drewN _ _ q)))
          have HPo := Lib.hid (fun q => diskPower_any w.heap.size D v' bs' off' cut' (wc.drewN q) (hJ2.d.below (below_drewN _ _ q)))
          clear hJ2 HJ1 HC1 HN1 HK0 HXA HXM HX HWf HTA HTB HTC
          go_wp2_with fail
          go_quiet (first | (go_at_call 9; refine Calls.quiet_of_same (HBy.out _)) | (go_at_call 16; refine Calls.quiet_of_same (HPo.out _)))
          rename_i nq
          have HJ3 := Lib.hid (HJ2.out.below (below_drewN _ _ nq))
          go_wp2_with fail
          go_roundw
          case rel => exact ⟨i + 1, _, _, _, _, _, by omega, by go_num, HJ3.out, HP2⟩
          case measure => simp [intOf]; omega
    · have i2 : ¬ (i : Int) < (n : Int) := by omega
      have hlb := HP.out.len
      have k0 := HJ.out.m.c0
      have HRe : Hid (Calls Tryz.prog 17 #[.string (S bs)] wr (ReadEnds bs wr)) := Lib.hid (by
        have := jread_any ea (S bs) wr (HG.out.below HJ.out.bel) f1 f2 f3 f4 f5 f21 f22 f23 (by rw [S_size]; exact hlb)
        rwa [S_list] at this)
      go_wp2_with fail
      refine HRe.out.mono ?_
      rintro e w8 ⟨u8, L8, n8, rfl, hRw8, hRd8, hL8, hb8⟩
      have HJ8 := Lib.hid (HJ.out.below hb8)
      have k8 := HJ8.out.m.c0
      have HMe : Hid (∀ w', Calls Tryz.prog 23 #[.string (S bs)] w' (ReadEnds bs w')) := Lib.hid fun w' => by
        have := mread_any (S bs) w' (by rw [S_size]; exact hlb)
        rwa [S_list] at this
      have HRw8 := Lib.hid hRw8
      have HRd8 := Lib.hid hRd8
      clear hRw8 hRd8 hb8 HRe k0 HJ
      go_wp2_with fail
      refine (HMe.out _).mono ?_
      rintro e w9 ⟨u9, L9, n9, rfl, hRw9, hRd9, hL9, hb9⟩
      obtain ⟨rfl, rfl⟩ := HRd8.out.unique recs hRd9
      have hRw89 := HRw8.out.below hb9
      obtain ⟨A8, m8, c8, rfl⟩ := hRw89.slice
      obtain ⟨A9, m9, c9, rfl⟩ := hRw9.slice
      have hn9 := hRd9.le
      have HSo := Lib.hid (sameOps_any A8 A9 m8 c8 m9 c9 L8 w9 hRw89.sl hRw9.sl (by omega))
      have HB9 := Lib.hid (HJ8.out.bel.trans (hb9.mono HJ8.out.bel.size))
      have hnn : ((n8 : Int) == (n8 : Int)) = true := by simp
      clear hRw89 hRw9 hRd9 hL9 hb9 hn9 HMe k8 HJ8
      go_wp2_with fail
      refine HSo.out.mono ?_
      rintro e w10 ⟨rfl, hb10⟩
      have HB10 := Lib.hid (HB9.out.trans (hb10.mono HB9.out.size))
      clear hb10
      go_wp2_with fail
      go_ret
      exact ⟨rfl, HB10.out⟩
end journalActs
end Go.Proofs.YtbncfpljiihmnaaGreatDoor
