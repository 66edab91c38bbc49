/- The journal's reading: records from the beginning. -/
import Derived.Test.YtbncfpljiihmnaaGreatDoorJApp
import Derived.Test.YtbncfpljiihmnaaGreatDoorOpRd
import Derived.Test.YtbncfpljiihmnaaGreatDoorOpE
import Derived.Laws.AppendOwn
namespace Go.Proofs.YtbncfpljiihmnaaGreatDoor
open Go Go.RowKit
set_option linter.unusedVariables false
set_option linter.unusedSimpArgs false
set_option maxHeartbeats 4000000
set_option maxRecDepth 100000

/-- where reading stands -/
structure RdIs (l : List UInt8) (L : List OpT) (at' : Nat) : Prop where
  le : at' ≤ l.length
  eq : l.take at' = Jrn.cat recO L
  all : ∀ o ∈ L, GoodO o
  len : L.length ≤ at'
theorem RdIs.start (l : List UInt8) : RdIs l [] 0 := ⟨Nat.zero_le _, rfl, by simp, Nat.le_refl _⟩
theorem RdIs.done {l : List UInt8} {L : List OpT} {at' : Nat} (h : RdIs l L at') (hn : ∀ o, GoodO o → ¬ recO o <+: l.drop at') : Jrn.Rd GoodO recO l L at' := ⟨h.le, h.eq, h.all, hn⟩
theorem RdIs.step {l p r : List UInt8} {L : List OpT} {at' : Nat} {o : OpT} (h : RdIs l L at') (hd : l.drop at' = p ++ 10 :: r) (ho : GoodO o) (hr : recO o = p ++ [10]) : RdIs l (L ++ [o]) (at' + (p.length + 1)) := by
  have hl := congrArg List.length hd
  rw [List.length_drop, List.length_append, List.length_cons] at hl
  have := h.le
  refine ⟨by omega, ?_, ?_, by rw [List.length_append]; have := h.len; simp; omega⟩
  · rw [List.take_add, h.eq, hd, Jrn.cat_append, Jrn.cat, Jrn.cat, hr, List.append_nil]
    congr 1
    rw [show p ++ 10 :: r = (p ++ [10]) ++ r by simp, List.take_left' (by simp)]
  · intro x hx
    rcases List.mem_append.1 hx with hx | hx
    · exact h.all x hx
    · rw [List.mem_singleton.1 hx]; exact ho
theorem extract_from (s : ByteArray) (i : Nat) (hi : i ≤ s.size) : (s.extract i s.size).data.toList = s.data.toList.drop i := by
  have h : s.data.toList.length = s.size := rfl
  rw [ByteArray.data_extract, Array.toList_extract, List.extract, ← h, List.take_of_length_le (by rw [List.length_drop]; omega)]
theorem strCut_any {F : Nat → Bool} (ea : Nat → Addr) (s : ByteArray) (b : UInt8) (sep : ByteArray) (w : World) (hG : Gd F ea w) (f22 : F 22 = true) (hsep : sep = S [b]) (hs : s.size ≤ 100000) :
    Calls Tryz.prog 31 #[.string s, .string sep] w fun e w' => e = .returned (.tuple #[.string (S (Lib.cut s.data.toList [b]).1), .string (S (Lib.cut s.data.toList [b]).2.1), .bool (Lib.cut s.data.toList [b]).2.2]) ∧ Below w.heap.size w w' := by
  obtain ⟨m, hm⟩ := hG.len f22
  subst hsep
  refine (Tryz.strings_Cut s (S [b]) m w (by omega) hm).mono ?_
  rintro e w' ⟨h1, n, rfl⟩
  exact ⟨h1, below_drewN _ _ _⟩
theorem cut_fst_len (l : List UInt8) (b : UInt8) : (Lib.cut l [b]).1.length ≤ l.length := by
  rcases split_first b l with h | ⟨p, r, rfl, h⟩
  · rw [cut_none1 h]; exact Nat.le_refl _
  · rw [cut_some1 h]; simp
/-- how reading ends -/
def ReadEnds (l : List UInt8) (w : World) (e : Ending) (w' : World) : Prop :=
  ∃ v L n, e = .returned (.tuple #[v, .int .i64 (n : Nat)]) ∧ Rw opE 38 w.heap.size v L w' ∧ Jrn.Rd GoodO recO l L n ∧ L.length ≤ n ∧ Below w.heap.size w w'

theorem jread_any {F : Nat → Bool} (ea : Nat → Addr) (s : ByteArray) (w : World) (hG : Gd F ea w) (f1 : F 1 = true) (f2 : F 2 = true) (f3 : F 3 = true) (f4 : F 4 = true) (f5 : F 5 = true) (f21 : F 21 = true) (f22 : F 22 = true) (f23 : F 23 = true) (hs : s.size ≤ 65536) :
    Calls Tryz.prog 17 #[.string s] w (ReadEnds s.data.toList w) := by
  have HRd : Hid (∀ t w', t.length ≤ 65536 → Gd F ea w' → Calls Tryz.prog 32 #[.string (S t)] w' fun e w'' => e = .returned (.tuple #[opV (opRdW (Num.cutL 124 t)).1, errW ea (opRdW (Num.cutL 124 t)).2]) ∧ Below w'.heap.size w' w'') := Lib.hid fun t w' ht hg => by
    have := opRead_any ea (S t) w' hg f1 f2 f3 f4 f5 f21 f22 (by rw [S_size]; omega)
    rwa [S_list] at this
  have HRc : Hid (∀ t w', t.length ≤ 65536 → Gd F ea w' → Calls Tryz.prog 29 #[.string (S t)] w' fun e w'' => e = .returned (.string (S (recL t))) ∧ Below w'.heap.size w' w'') := Lib.hid fun t w' ht hg => by
    have := record_any ea (S t) w' hg f23 (by rw [S_size]; omega)
    rwa [S_list] at this
  obtain ⟨n, hn⟩ : ∃ n, s.size = n := ⟨_, rfl⟩
  have hl : s.data.toList.length = n := by rw [← hn]; rfl
  have HN := Lib.hid hn
  have HL := Lib.hid hl
  have HG := Lib.hid hG
  have hs' : n ≤ 65536 := by omega
  clear hn hl hs hG
  go_enter Tryz.func17, Tryz.ntmps17
  go_wp2_with fail
  go_loopw [4, 5] (fun v4 v5 wr => ∃ (L : List OpT) (i : Nat), v5 = .int .i64 i ∧ RdIs s.data.toList L i ∧ Rw opE 38 w.heap.size v4 L wr ∧ Below w.heap.size w wr) (fun _ v5 _ => n - (intOf v5).toNat)
  case atStart => exact ⟨[], 0, rfl, RdIs.start _, Rw.nil _ _ _ _, Below.refl _ _⟩
  case round =>
    obtain ⟨L, i, rfl, hI, hR, hB⟩ := hrel
    have hi : i ≤ n := by have := hI.le; have := HL.out; omega
    have hLl := hI.len
    have HI := Lib.hid hI
    have HR := Lib.hid hR
    have HB := Lib.hid hB
    have hin : (i : Int) ≤ (s.size : Int) := by have := HN.out; omega
    have hsz := hB.size
    obtain ⟨x, hx⟩ : ∃ x, x = s.extract i s.size := ⟨_, rfl⟩
    have hxl : x.data.toList = s.data.toList.drop i := by rw [hx]; exact extract_from s i (by have := HN.out; omega)
    have hxs : x.size ≤ 65536 := by
      have h1 : x.data.toList.length = x.size := rfl
      rw [← h1, hxl, List.length_drop]
      have := HL.out
      omega
    have HC1 : Hid (∀ w', Gd F ea w' → Calls Tryz.prog 31 #[.string x, .string ⟨#[10]⟩] w' fun e w'' => e = .returned (.tuple #[.string (S (Lib.cut x.data.toList [10]).1), .string (S (Lib.cut x.data.toList [10]).2.1), .bool (Lib.cut x.data.toList [10]).2.2]) ∧ Below w'.heap.size w' w'') := Lib.hid fun w' hg => strCut_any ea x 10 _ w' hg f22 rfl (by omega)
    have HGw : Hid (Gd F ea wr) := Lib.hid (HG.out.below HB.out)
    rw [hxl] at HC1
    have HXl := Lib.hid hxl
    have HDl : Hid ((s.data.toList.drop i).length = n - i) := Lib.hid (by rw [List.length_drop, HL.out])
    clear hI hR hB hxl
    obtain ⟨p, r, is, hcut, hcase, hpl⟩ : ∃ p r is, Lib.cut (s.data.toList.drop i) [10] = (p, r, is) ∧ ((is = false ∧ Jrn.Rd GoodO recO s.data.toList L i) ∨ (is = true ∧ s.data.toList.drop i = p ++ 10 :: r ∧ ∀ c ∈ p, c ≠ 10)) ∧ p.length ≤ n - i := by
      rcases split_first 10 (s.data.toList.drop i) with hno | ⟨p, r, hd, hp⟩
      · exact ⟨_, _, _, cut_none1 hno, .inl ⟨rfl, HI.out.done (Jrn.no_rec recs hno)⟩, by rw [HDl.out]; exact Nat.le_refl _⟩
      · refine ⟨p, r, true, by rw [hd]; exact cut_some1 hp, .inr ⟨rfl, hd, hp⟩, ?_⟩
        have := HDl.out
        rw [hd] at this
        simp at this
        omega
    rw [hcut] at HC1
    dsimp only at HC1
    have HCase := Lib.hid hcase
    have ht : (Lib.cut p [35]).1.length ≤ 65536 := by have := cut_fst_len p 35; omega
    have HC2 : Hid (∀ w', Gd F ea w' → Calls Tryz.prog 31 #[.string (S p), .string ⟨#[35]⟩] w' fun e w'' => e = .returned (.tuple #[.string (S (Lib.cut p [35]).1), .string (S (Lib.cut p [35]).2.1), .bool (Lib.cut p [35]).2.2]) ∧ Below w'.heap.size w' w'') := Lib.hid fun w' hg => by
      have := strCut_any ea (S p) 35 _ w' hg f22 rfl (by rw [S_size]; omega)
      rwa [S_list] at this
    have HR1 := Lib.hid (fun w' => HRd.out _ w' ht)
    have HT2 := Lib.hid (fun w' => HRc.out _ w' ht)
    obtain ⟨t, hte⟩ : ∃ t, (Lib.cut p [35]).1 = t := ⟨_, rfl⟩
    rw [hte] at HC2 HR1 HT2 ht
    generalize (Lib.cut p [35]).2.1 = t' at HC2
    generalize (Lib.cut p [35]).2.2 = b' at HC2
    obtain ⟨o, k, hok⟩ : ∃ o k, opRdW (Num.cutL 124 t) = (o, k) := ⟨_, _, rfl⟩
    rw [hok] at HR1
    dsimp only at HR1
    have HTe := Lib.hid hte
    have HOk := Lib.hid hok
    have HPl := Lib.hid hpl
    obtain ⟨ev, hev⟩ : ∃ ev, errW ea k = ev := ⟨_, rfl⟩
    rw [hev] at HR1
    have HEv := Lib.hid hev
    clear hcut hcase hte hok hpl hev
    go_wp2_with fail
    rw [← hx]
    refine (HC1.out _ HGw.out).mono ?_
    rintro e w1 ⟨rfl, hb1⟩
    have HG1 := Lib.hid (HGw.out.below hb1)
    have HB1 := Lib.hid hb1
    clear hb1
    go_wp2_with fail
    refine (HC2.out _ HG1.out).mono ?_
    rintro e w2 ⟨rfl, hb2⟩
    have HG2 := Lib.hid (HG1.out.below hb2)
    have HB2 := Lib.hid (HB1.out.trans (hb2.mono HB1.out.size))
    clear hb2
    go_wp2_with fail
    refine (HR1.out _ HG2.out).mono ?_
    rintro e w3 ⟨rfl, hb3⟩
    have HG3 := Lib.hid (HG2.out.below hb3)
    have HB3 := Lib.hid (HB2.out.trans (hb3.mono HB2.out.size))
    have hb4 : Below w3.heap.size w3 (w3.alloc (.cells o.cells 38)) := (Below.refl _ _).alloc (Nat.le_refl _) _
    clear hb3
    have hG4 := HG3.out.below hb4
    have hB4 : Below w.heap.size w (w3.alloc (.cells o.cells 38)) := HB.out.trans ((HB3.out.trans (hb4.mono HB3.out.size)).mono hsz)
    have hR4 := HR.out.below (HB3.out.trans (hb4.mono HB3.out.size))
    have HG4 := Lib.hid hG4
    have HB4 := Lib.hid hB4
    have HR4 := Lib.hid hR4
    have hps : (S p).size ≤ 65536 := by rw [S_size]; have := HPl.out; omega
    clear hb4 hG4 hB4 hR4 HRd HRc HC1 HC2 HR1
    cases is with
    | false =>
      have hend : Jrn.Rd GoodO recO s.data.toList L i := by rcases HCase.out with h | h; exact h.2; cases h.1
      have HE := Lib.hid hend
      clear hend HCase
      go_wp2_with fail
      go_ret2
      exact ⟨_, L, i, rfl, HR4.out, HE.out, hLl, HB4.out⟩
    | true =>
      have hend : s.data.toList.drop i = p ++ 10 :: r ∧ ∀ c ∈ p, c ≠ 10 := by rcases HCase.out with h | h; cases h.1; exact h.2
      have HC := Lib.hid hend
      clear hend HCase
      by_cases hk : k = 0
      · subst hk
        have hev : ev = .nilIface := by rw [← HEv.out]; rfl
        subst hev
        go_wp2_with fail
        refine (HT2.out _ HG4.out).mono ?_
        rintro e w5 ⟨rfl, hb5⟩
        have HB5 := Lib.hid hb5
        clear hb5
        have hrs : (S (recL t)).size ≤ 1000000 := by rw [S_size, recL_len]; omega
        by_cases hq : recL t = p ++ [10]
        · have hcmp : S (recL t) = S p ++ (⟨#[10]⟩ : ByteArray) := by rw [hq, ← S_app]; rfl
          have hgood := jr_ok (p := p) HOk.out hq
          have HQ := Lib.hid (HI.out.step HC.out.1 hgood.1 hgood.2)
          have hR5 := HR4.out.below HB5.out
          have hB5 : Below w.heap.size w w5 := HB4.out.trans (HB5.out.mono HB4.out.size)
          have hO5 := (OpAt.start w3 o 38).below HB5.out
          obtain ⟨c0, c1, c2, c3, c4, c5, c6, c7⟩ := hO5
          have HR5 := Lib.hid (hR5.below ((Below.refl _ _).alloc (Nat.le_refl _) (.cells o.cells 38)))
          have HO5 : Hid (SlV opE (w5.alloc (.cells o.cells 38)) (.slice (some ⟨w5.heap.size, 0, none⟩) 1 1) [o]) := Lib.hid (SlV.one w5 o _ _ rfl)
          have HBa := Lib.hid (hB5.alloc hB5.size (.cells o.cells 38))
          have hpl := HPl.out
          have hLn : L.length ≤ 65536 := by omega
          have hs5 := hB5.size
          have HRl := Lib.hid hR5.lt
          clear hq hgood hR5 hB5
          go_wp2_with (at_builtin; refine wpList_append_rows rfl _ _ 28 rfl opE w.heap.size 38 (opV ⟨0, 0, 0, 0, 0, 0, ⟨#[]⟩, ⟨#[]⟩⟩) 80 Tryz.underlying28 infoOp rfl (by decide) _ _ L [o] rfl rfl HR5.out HO5.out ?za1 ?za2 ?za3 ?_)
          case za1 => unfold maxLen; simp; omega
          case za2 => simp; omega
          case za3 => simp; omega
          intro v6 w6 hr6 hg6
          have HB6 : Hid (Below w.heap.size w w6) := Lib.hid (HBa.out.grown hg6 (by have := HBa.out.size; omega) (fun k hk => (HRl.out k hk).1))
          have HR6 := Lib.hid hr6
          clear hr6 hg6 c0 c1 c2 c3 c4 c5 c6 c7
          have hpz : (S p).size = p.length := S_size _
          have hil : i + (p.length + 1) ≤ n := by
            have := HDl.out
            rw [HC.out.1] at this
            simp at this
            omega
          go_wp2_with fail
          go_roundw
          case rel => exact ⟨L ++ [o], i + (p.length + 1), by go_num, HQ.out, HR6.out, HB6.out⟩
          case measure => simp [intOf] <;> omega
        · have hcmp : ((S (recL t)).toList == (S p ++ (⟨#[10]⟩ : ByteArray)).toList) = false := by
            simp only [ByteArray.toList_eq]
            show ((recL t) == (p ++ [10])) = false
            simpa using hq
          have hend : Jrn.Rd GoodO recO s.data.toList L i := HI.out.done (by
            rw [HC.out.1]
            refine jr_no HC.out.2 (fun o' h' => ?_)
            rw [HTe.out]
            exact hq)
          have HE := Lib.hid hend
          clear hend hq
          go_wp2_with fail
          go_ret2
          exact ⟨_, L, i, rfl, HR4.out.below HB5.out, HE.out, hLl, HB4.out.trans (HB5.out.mono HB4.out.size)⟩
      · have hev : ev = errV (ea k) := by rw [← HEv.out, errW, if_neg hk]
        subst hev
        have hend : Jrn.Rd GoodO recO s.data.toList L i := HI.out.done (by
          rw [HC.out.1]
          refine jr_no HC.out.2 (fun o' h' => ?_)
          rw [HTe.out, HOk.out] at h'
          exact absurd (Prod.mk.inj h').2 hk)
        have HE := Lib.hid hend
        clear hend hk
        go_wp2_with fail
        go_ret2
        exact ⟨_, L, i, rfl, HR4.out, HE.out, hLl, HB4.out⟩

/-- how recovering ends -/
def RecEnds (base D : Nat) (v : Value) (bs : List UInt8) (w : World) (e : Ending) (w' : World) : Prop :=
  ∃ u L n v', e = .returned (.tuple #[u, .nilIface]) ∧ Rw opE 38 w.heap.size u L w' ∧ Jrn.Rd GoodO recO bs L n ∧ L.length ≤ n ∧ DSt base D v' (bs.take n) false (-1) w' ∧ Fr (Own D v) w w' ∧ v'.ownBlock = v.ownBlock

theorem recover_any {F : Nat → Bool} (ea : Nat → Addr) (w0 : World) (D : Nat) (v : Value) (bs : List UInt8) (off : Bool) (cut : Int) (w : World) (hG : Gd F ea w0) (f1 : F 1 = true) (f2 : F 2 = true) (f3 : F 3 = true) (f4 : F 4 = true) (f5 : F 5 = true) (f21 : F 21 = true) (f22 : F 22 = true) (f23 : F 23 = true) (hbw : Below w0.heap.size w0 w)
    (hst : DSt w0.heap.size D v bs off cut w) (hs : bs.length ≤ 65536) :
    Calls Tryz.prog 8 #[.pointer (some ⟨D, 0, none⟩)] w (RecEnds w0.heap.size D v bs w) := by
  have HG := Lib.hid hG
  have HBW := Lib.hid hbw
  have HO := Lib.hid (diskOn_any w0.heap.size D v bs off cut w hst)
  have HSt := Lib.hid hst
  clear hG hbw
  go_enter Tryz.func8, Tryz.ntmps8
  go_wp2_with fail
  refine HO.out.mono ?_
  rintro e w1 ⟨rfl, hD1, hF1⟩
  have hb1 : Below w0.heap.size w0 w1 := HBW.out.trans (hF1.below HBW.out.size (fun k hk => by
    rcases hk with h1 | h1
    · rw [h1]; exact hst.ge
    · exact (hst.row.lt k h1).1))
  have HD1 := Lib.hid hD1
  have HF1 := Lib.hid hF1
  have HG1 := Lib.hid (HG.out.below hb1)
  have k0 := hD1.c0
  have hc := @BRow.cells _ _ _ _ _ hD1.row
  obtain ⟨g, cap, rfl, hcap⟩ := hD1.len
  have kc := run_convert_bytes_back (P := Tryz.prog) w1 57 9 5 ⟨g, 0, none⟩ cap bs Tryz.underlying57 Tryz.underlying5 Tryz.underlying9 (by
    intro j hj
    exact hc rfl j (.int .u8 (bs[j].toNat : Int)) (by rw [bytesV, List.getElem?_map, List.getElem?_eq_getElem hj]; rfl))
  have HR : Hid (Calls Tryz.prog 17 #[.string (S bs)] w1 (ReadEnds bs w1)) := Lib.hid (by
    have := jread_any ea (S bs) w1 HG1.out f1 f2 f3 f4 f5 f21 f22 f23 (by rw [S_size]; exact hs)
    rwa [S_list] at this)
  clear hD1 hF1 hb1 hc hst HO HSt
  go_wp2_with fail
  refine HR.out.mono ?_
  rintro e w2 ⟨u, L, n, rfl, hRw, hRd, hLn, hb2⟩
  have hD2 := HD1.out.below hb2
  have hn := hRd.le
  have hrow : BRow w2 w0.heap.size 5 (.slice (some ⟨g, 0, none⟩) n n) (bytesV (bs.take n)) := by
    obtain ⟨g', cap', hv, _, h⟩ := hD2.row.cut
    rw [bytesV_len] at hv
    cases hv
    have := h n (by rw [bytesV_len]; exact hn)
    rwa [show bytesV (bs.take n) = (bytesV bs).take n by simp [bytesV, List.map_take]]
  have hD3 := hD2.set0 hrow (by simpa [Value.ownBlock] using hD2.ne)
  have hF3 := (HF1.out.then (fun k hk => .inl hk) ((Fr.of_below hb2).then (fun k hk => .inl hk) (fr_set w2 D 0 (.slice (some ⟨g, 0, none⟩) bs.length cap) (.slice (some ⟨g, 0, none⟩) n n))))
  have hne : u.ownBlock ≠ some D := fun e => by
    have := (hRw.lt D e).1
    have := HD1.out.lt
    omega
  have hRw3 : Rw opE 38 w.heap.size u L (w2.setCell ⟨D, 0, none⟩ (.slice (some ⟨g, 0, none⟩) n n)) := by
    have h := hRw.kept (w' := w2.setCell ⟨D, 0, none⟩ (.slice (some ⟨g, 0, none⟩) n n)) (fun k hk => heap_setCell_other w2 ⟨D, 0, none⟩ k _ (fun e => hne (hk.trans (congrArg some e))))
    refine ⟨h.1, ?_⟩
    rcases h.2 with h | ⟨g2, cap2, cur, hv, hg, rest⟩
    · exact .inl h
    · exact .inr ⟨g2, cap2, cur, hv, Nat.le_trans HF1.out.size hg, rest⟩
  have k2 := hD2.c0
  have k2f := hD2.fz 0
  have HD3 := Lib.hid hD3
  have HF3 := Lib.hid hF3
  have HRw := Lib.hid hRw3
  have HRd := Lib.hid hRd
  have n1 : (n : Int) ≤ (cap : Int) := by omega
  clear hD2 hrow hD3 hF3 hne hRw3 hRw hRd hb2 kc k0
  go_wp2_with fail
  go_ret2
  exact ⟨u, L, n, _, rfl, HRw.out, HRd.out, hLn, HD3.out, HF3.out, rfl⟩
end Go.Proofs.YtbncfpljiihmnaaGreatDoor
