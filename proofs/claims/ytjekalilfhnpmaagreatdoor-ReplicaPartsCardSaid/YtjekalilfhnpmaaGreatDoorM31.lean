/- A replica joins operations: the walk of Join. -/
import Derived.Handy
import Derived.Test.YtjekalilfhnpmaaGreatDoorM28
import Derived.Test.YtjekalilfhnpmaaGreatDoorM30
namespace Go.Proofs.YtjekalilfhnpmaaGreatDoor
open Go Go.RowKit Go.Maps Go.Shelf LineOrd
set_option linter.unusedVariables false
set_option linter.unusedSimpArgs false
set_option maxHeartbeats 2000000
set_option maxRecDepth 100000
/-- a replica of the call's own that holds these operations, by stamp -/
def RepD (col : Nat → Int) (RB : Nat) (b : Int) (K : List OpT) (w : World) : Prop := ∃ y s, RepL y col RB b s w ∧ Of K K s
/-- .. behind a call -/
def RepDTo (col : Nat → Int) (RB : Nat) (b : Int) (K : List OpT) (w w' : World) : Prop := ∃ col', RepD col' RB b K w' ∧ Grew col col' w ∧ Fr (InC col) w w'
/-- how Join ends -/
def JoEnds (ea : Nat → Addr) (col : Nat → Int) (RB : Nat) (b : Int) (K : List OpT) (R : (Nat × Int) ⊕ List OpT) (w : World) (e : Ending) (w' : World) : Prop :=
  match R with
  | .inl p => ∃ ev, e = .returned (.tuple #[.int .i64 0, ev]) ∧ ErrVal ea w' ev p.1 p.2 ∧ p.1 ≠ 0 ∧ Below w.heap.size w w'
  | .inr G => e = .returned (.tuple #[.int .i64 G.length, .nilIface]) ∧ RepDTo col RB b (sortOps (K ++ G)) w w'
theorem freshG_len (L : List OpT) : ∀ (l F : List OpT) (i : Nat) (R : List OpT), freshG L F i l = .inr R → R.length ≤ F.length + l.length
  | [], F, i, R, h => by
    have h := Sum.inr.inj h
    subst h
    simp
  | o :: l, F, i, R, h => by
    by_cases he : opErr o ≠ 0
    · rw [freshG_err he] at h; cases h
    · have he0 : opErr o = 0 := by omega
      cases hf : findOwn (L ++ F) o.b o.n with
      | some p =>
        by_cases hp : p = o
        · subst hp
          rw [freshG_same he0 hf] at h
          have := freshG_len L l F (i + 1) R h
          simp only [List.length_cons]; omega
        · rw [freshG_other he0 hf hp] at h; cases h
      | none =>
        rw [freshG_new he0 hf] at h
        have := freshG_len L l (F ++ [o]) (i + 1) R h
        simp only [List.length_cons, List.length_append, List.length_nil] at this ⊢
        omega
theorem errVal_ne {ea : Nat → Addr} {w : World} {v : Value} {k : Nat} {pl : Int} (h : ErrVal ea w v k pl) (h0 : k ≠ 0) : ∃ t u, v = .iface t u := by
  rcases h with ⟨_, h, _⟩ | ⟨_, _, rfl, _⟩ | ⟨_, _, pb, po, rfl, _⟩
  · exact absurd h h0
  · exact ⟨_, _, rfl⟩
  · exact ⟨_, _, rfl⟩
theorem join_any {F0 : Nat → Bool} (ea : Nat → Addr) (w0 : World) (col : Nat → Int) (RB : Nat) (b : Int) (K l : List OpT) (A : Option Addr) (n c : Nat) (w : World) (h : RepD col RB b K w) (hG : Gd F0 ea w0) (hb0 : Below w0.heap.size w0 w) (hge : ∀ k, col k ≠ 0 → w0.heap.size ≤ k)
    (f2 : F0 2 = true) (f3 : F0 3 = true) (f4 : F0 4 = true) (f5 : F0 5 = true) (f6 : F0 6 = true) (f7 : F0 7 = true) (f8 : F0 8 = true) (f9 : F0 9 = true)
    (hK : DOk K) (hup : Rising K) (hKl : K.length ≤ 400) (hs : SlV opE w (.slice A n c) l) (hln : l.length ≤ 90000) (hw : ∀ o ∈ l, o.Wf) :
    Calls Tryz.prog 12 #[ptrV RB, .slice A n c] w (JoEnds ea col RB b K (joinP K l) w) := by
  obtain ⟨y, s, hR, hO⟩ := h
  have hsK : s.K = K := hO.K
  have hv4 : ∀ x, s.v x ≤ 100000 := fun x => by rw [hO.v]; have := cnt_le K x; omega
  have HFr := Lib.hid (fresh_any ea RB y.OV K l s.v A n c w (hG.below hb0) f2 f3 f4 f5 f7 f9 hR.a.c2 hR.a.c3 hR.a.c4 hR.a.c5 hR.a.c6 (by have := hR.ops.sl; rwa [hsK] at this) hs hv4 (by omega) hw hK.wf)
  obtain ⟨R, hRd⟩ : ∃ R, joinP K l = R := ⟨_, rfl⟩
  obtain ⟨R1, hR1⟩ : ∃ R1, freshG K [] 0 l = R1 := ⟨_, rfl⟩
  rw [hR1] at HFr
  rw [hRd]
  have HRd := Lib.hid hRd
  have HR1 := Lib.hid hR1
  have HR := Lib.hid hR
  have HO := Lib.hid hO
  have HK := Lib.hid hK
  have HUp := Lib.hid hup
  have HG := Lib.hid hG
  have HB0 := Lib.hid hb0
  have HGe := Lib.hid hge
  have HW := Lib.hid hw
  have HKl := Lib.hid hKl
  have HRBl : Hid (RB < w.heap.size) := Lib.hid (hR.own_lt hR.co.o1 (by decide))
  have HLt : Hid (∀ k, col k ≠ 0 → k < w.heap.size) := Lib.hid hR.lt
  have HLn := Lib.hid hln
  unfold ptrV
  clear hRd hR1 hR hO hK hup hG hb0 hge hw hKl hs hsK hv4 hln
  go_enter Tryz.func12, Tryz.ntmps12
  go_wp2_with fail
  refine HFr.out.mono ?_
  rintro e w1 ⟨hb1, he⟩
  have HB1 := Lib.hid hb1
  clear hb1 HFr
  cases R1 with
  | inl p =>
    obtain ⟨ev, rfl, hev, hp0⟩ := he
    have HEv := Lib.hid hev
    have HP0 := Lib.hid hp0
    have HRi : Hid (R = .inl p) := Lib.hid (by rw [← HRd.out]; unfold joinP; rw [HR1.out])
    obtain ⟨t, u, rfl⟩ := errVal_ne hev hp0
    clear hev hp0
    go_wp2_with fail
    go_ret2
    rw [HRi.out]
    exact ⟨_, rfl, HEv.out, HP0.out, HB1.out⟩
  | inr F =>
    have HFresh := Lib.hid (fresh_of HR1.out)
    rcases he with ⟨hg, rfl⟩ | ⟨hg, hf, rfl⟩ | ⟨hg, hf, sv, rfl, hsv⟩
    · have HRi : Hid (R = .inl (9, -1)) := Lib.hid (by rw [← HRd.out]; unfold joinP; rw [HR1.out]; simp only; rw [if_pos (by rw [gapP_eq HO.out.v]; exact hg)])
      clear hg
      go_wp2_with fail
      go_ret2
      rw [HRi.out]
      exact ⟨_, rfl, .bare 9 (by decide) (by decide), by decide, HB1.out⟩
    · have HRi : Hid (R = .inl (3, -1)) := Lib.hid (by rw [← HRd.out]; unfold joinP; rw [HR1.out]; simp only; rw [if_neg (by rw [gapP_eq HO.out.v, hg]; simp), if_pos (by unfold fallsP; exact hf)])
      clear hg hf
      go_wp2_with fail
      go_ret2
      rw [HRi.out]
      exact ⟨_, rfl, .bare 3 (by decide) (by decide), by decide, HB1.out⟩
    · have HRj : Hid (joinP K l = if refersP [] (sortOps (K ++ sortOps F)) = false then .inl (6, -1) else if 400 < K.length + F.length then .inl (8, -1) else .inr (sortOps F)) := Lib.hid (by
        unfold joinP; rw [HR1.out]; simp only; rw [if_neg (by rw [gapP_eq HO.out.v, hg]; simp), if_neg (by unfold fallsP; rw [hf]; simp)])
      have HSv := Lib.hid hsv
      obtain ⟨A2, n2, c2, rfl⟩ := hsv.slice
      have hn2 : n2 = F.length := by rw [hsv.sl.len, (sortOps_perm F).length_eq]
      have hFl : F.length ≤ l.length := by
        have := freshG_len K l [] 0 F HR1.out
        simpa using this
      have HFf : Hid (∀ o ∈ K ++ sortOps F, OpFine o) := Lib.hid fun o ho => by
        rcases List.mem_append.1 ho with ho | ho
        · exact HK.out.fine ho
        · exact fine_of (HFresh.out.er o (sortOps_mem.1 ho))
      have HRe := Lib.hid (refers_any ea RB y.OV (.slice A2 n2 c2) K (sortOps F) w1 (HG.out.below (HB0.out.trans (HB1.out.mono HB0.out.size))) f2 f6 ((HB1.out.cell HRBl.out).trans HR.out.a.c6) (by have := (HR.out.below HB1.out).ops.sl; rwa [HO.out.K] at this) hsv.sl (by rw [(sortOps_perm F).length_eq]; have := HLn.out; have := HKl.out; omega) HFf.out)
      have hn5 : n2 ≤ 90000 := by have := HLn.out; omega
      have HN2 := Lib.hid hn2
      clear hg hf hsv hn2 hFl
      obtain ⟨rf, hrf⟩ : ∃ rf, refersP [] (sortOps (K ++ sortOps F)) = rf := ⟨_, rfl⟩
      rw [hrf] at HRe HRj
      have HRf := Lib.hid hrf
      clear hrf
      go_wp2_with fail
      refine HRe.out.mono ?_
      rintro e w2 ⟨rfl, hb2⟩
      have HB2 := Lib.hid (HB1.out.trans (hb2.mono HB1.out.size))
      have HSv2 := Lib.hid (HSv.out.below hb2)
      clear hb2 HRe
      cases rf with
      | false =>
        have HRi : Hid (R = .inl (6, -1)) := Lib.hid (by rw [← HRd.out, HRj.out, if_pos rfl])
        simp only [Bool.false_eq_true, if_false]
        go_wp2_with fail
        go_ret2
        rw [HRi.out]
        exact ⟨_, rfl, .bare 6 (by decide) (by decide), by decide, HB2.out⟩
      | true =>
        simp only [if_true]
        obtain ⟨A0, nk, kc, hOV⟩ := HR.out.ops.slice
        have hnk : nk = K.length := by have := HR.out.ops.sl; rw [hOV, HO.out.K] at this; exact this.len
        have c6 : w2.cell? ⟨RB, 6, none⟩ = some (.slice A0 nk kc) := by rw [← hOV]; exact (HB2.out.cell HRBl.out).trans HR.out.a.c6
        have HOV := Lib.hid hOV
        have HNk := Lib.hid hnk
        have hk4 : nk ≤ 400 := by have := HKl.out; omega
        clear hOV hnk
        by_cases hfull : 400 < nk + n2
        · have HRi : Hid (R = .inl (8, -1)) := Lib.hid (by rw [← HRd.out, HRj.out, if_neg (by simp), if_pos (by have := HNk.out; have := HN2.out; omega)])
          have g8 := ((HG.out.below (HB0.out.trans (HB2.out.mono HB0.out.size))).errs 8 (by omega) (by omega) f8).var
          simp only [errG] at g8
          have z1 : (400 : Int) < (nk : Int) + (n2 : Int) := by omega
          clear hfull
          go_wp2_with fail
          go_quiet (fail)
          go_wp2_with fail
          go_ret2
          rw [HRi.out]
          exact ⟨_, rfl, .bare 8 (by decide) (by decide), by decide, below_drawn HB2.out _⟩
        · have hRi : R = .inr (sortOps F) := by rw [← HRd.out, HRj.out, if_neg (by simp), if_neg (by have := HNk.out; have := HN2.out; omega)]
          have HRi := Lib.hid hRi
          have HJ := Lib.hid (join_ok HK.out HUp.out HW.out (HRd.out.trans hRi))
          obtain ⟨G, hG⟩ : ∃ G, sortOps F = G := ⟨_, rfl⟩
          have HNG : Hid (n2 = G.length) := Lib.hid (by rw [← hG, (sortOps_perm F).length_eq]; exact HN2.out)
          rw [hG] at HJ HSv2 HRi
          have z1 : ¬ (400 : Int) < (nk : Int) + (n2 : Int) := by omega
          clear hfull hRi hG HSv HRj HFf HFresh
          go_wp2_with fail
          go_loopw [38] (fun v38 wr => ∃ i : Nat, i ≤ n2 ∧ v38 = .int .i64 i ∧ Hid (∃ s' y' col', RepL y' col' RB b s' wr ∧ Of (K ++ G.take i) K s' ∧ Grew col col' w2 ∧ Fr (InC col) w2 wr)) (fun v38 _ => n2 - (intOf v38).toNat)
          case atStart => exact ⟨0, by omega, rfl, Lib.hid ⟨s, y, col, HR.out.below HB2.out, by rw [List.take_zero, List.append_nil]; exact HO.out, Grew.refl _ _, Fr.of_below (Below.refl _ _)⟩⟩
          case round =>
            obtain ⟨i, hi, rfl, HI⟩ := hrel
            have HSr : Hid (Rw opE 31 w.heap.size (.slice A2 n2 c2) G wr) := Lib.hid (by
              obtain ⟨s', y', col', _, _, _, h4⟩ := HI.out
              exact HSv2.out.fr (X := InC col) (fun k h1 h2 => h4.block k h1 h2) (fun k hk hc => by have := (HSv2.out.lt k hk).1; have := HLt.out k hc; omega))
            by_cases hlt : i < n2
            · obtain ⟨x, hx⟩ : ∃ x, G[i]? = some x := ⟨_, List.getElem?_eq_getElem (by have := HNG.out; omega)⟩
              obtain ⟨bb, off, rfl, hbl, c0, c1, c2', c3, c4, c5, c6', c7⟩ := ops_at HSr.out.sl hx
              have i1 : (0 : Int) ≤ (i : Int) := by omega
              have i2 : (i : Int) < (n2 : Int) := by omega
              obtain ⟨s', y', col', h1, h2, h3, h4⟩ := HI.out
              have hTk : K ++ G.take (i + 1) = K ++ G.take i ++ [x] := by
                obtain ⟨e1, e2⟩ := List.getElem?_eq_some_iff.1 hx
                rw [← List.take_append_getElem e1, e2, List.append_assoc]
              have hD := HK.out.cut HJ.out.1 HJ.out.2.1 i
              have hD' := HK.out.cut HJ.out.1 HJ.out.2.1 (i + 1)
              rw [hTk] at hD'
              have hDl : (K ++ G.take i).length ≤ 1000 := by rw [List.length_append, List.length_take]; have := HKl.out; have := HJ.out.2.2.1; omega
              have hba := (Below.refl wr.heap.size wr).alloc (Nat.le_refl _) (.cells x.cells 31)
              have hB0w : Below w0.heap.size w0 wr := (HB0.out.trans (HB2.out.mono HB0.out.size)).trans (h4.below (Nat.le_trans HB0.out.size HB2.out.size) HGe.out)
              have HAp := Lib.hid (apply1_any ea w0 (h1.below hba) x HG.out (hB0w.trans (hba.mono hB0w.size)) (fun k hk => by
                rcases Nat.lt_or_ge k w2.heap.size with hk2 | hk2
                · exact HGe.out k (h3.old k hk2 hk)
                · have := HB0.out.size; have := HB2.out.size; omega) f2 f3 f4 f5 f6 f7 (h2.apok hD hD' hDl))
              have HNx : Hid (∀ w'', RepTo col' RB b (apS s' x) (wr.alloc (.cells x.cells 31)) w'' → ∃ s' y' col', RepL y' col' RB b s' w'' ∧ Of (K ++ G.take (i + 1)) K s' ∧ Grew col col' w2 ∧ Fr (InC col) w2 w'') := Lib.hid fun w'' ⟨y2, col2, k1, k2, k3⟩ => by
                refine ⟨_, y2, col2, k1, ?_, ⟨fun k hk hc => h3.old k hk (k2.old k (by have := h4.size; simp; omega) hc)⟩, ?_⟩
                · rw [hTk]; exact h2.apply hD hD'
                · exact h3.fr h4 ((Fr.of_below hba).trans k3)
              unfold ptrV at HAp
              clear hx hlt hbl h1 h2 h3 h4 hTk hD hD' hDl hba hB0w HI
              go_wp2_with fail
              refine HAp.out.mono ?_
              rintro e w5 ⟨rfl, hto⟩
              have HI5 := Lib.hid (HNx.out w5 hto)
              clear hto HNx HAp c0 c1 c2' c3 c4 c5 c6' c7
              go_wp2_with fail
              go_roundw
              case rel => exact ⟨i + 1, by omega, by go_num, HI5⟩
              case measure => simp [intOf] <;> omega
            · have i2 : ¬ (i : Int) < (n2 : Int) := by omega
              obtain rfl : n2 = i := by omega
              obtain ⟨s', y', col', h1, h2, h3, h4⟩ := HI.out
              have hTk : G.take n2 = G := List.take_of_length_le (by have := HNG.out; omega)
              rw [hTk] at h2
              have H1 := Lib.hid h1
              have H2 := Lib.hid h2
              have H3 := Lib.hid h3
              have H4 := Lib.hid h4
              have d6 := h1.a.c6
              obtain ⟨A9, n9, c9, hOV9⟩ := h1.ops.slice
              rw [hOV9] at d6
              have hsK9 : SlV opE wr (.slice A9 n9 c9) K := by have := h1.ops.sl; rwa [hOV9, h2.K] at this
              have HCat : Hid (∀ w' g, Below wr.heap.size wr w' → w'.cell? ⟨g, 0, none⟩ = some (.slice A9 n9 c9) → w'.cell? ⟨g, 1, none⟩ = some (.slice A2 n2 c2) → Calls Tryz.prog 59 #[.slice (some ⟨g, 0, none⟩) 2 2] w' fun e w'' => ∃ v', e = .returned v' ∧ Rw opE 31 w'.heap.size v' (K ++ G) w'' ∧ Below w'.heap.size w' w'') :=
                Lib.hid fun w' g hb e1 e2 => opsConcat_any g _ _ K G w' (hsK9.below hb) (HSr.out.sl.below hb) e1 e2 (by have := HJ.out.2.2.1; omega)
              have HSo : Hid (∀ w' v, SlV opE w' v (K ++ G) → Calls Tryz.prog 58 #[v] w' fun e w'' => ∃ v', e = .returned v' ∧ Rw opE 31 w'.heap.size v' (sortOps (K ++ G)) w'' ∧ Below w'.heap.size w' w'') := Lib.hid fun w' v h => opSort_any v (K ++ G) w' h (by rw [List.length_append]; have := HJ.out.2.2.1; omega)
              have hRBr : RB < wr.heap.size := World.block_lt_of_cell? wr _ d6
              clear h1 h2 h3 h4 hTk hOV9 hsK9 HI c6
              go_wp2_with fail
              refine (HCat.out _ _ ((Below.refl wr.heap.size wr).alloc (Nat.le_refl _) _) (by simp [go_sem]) (by simp [go_sem])).mono ?_
              rintro e w6 ⟨v6, rfl, hr6, hb6⟩
              have HR6 := Lib.hid hr6
              have HB6 : Hid (Below wr.heap.size wr w6) := Lib.hid (((Below.refl wr.heap.size wr).alloc (Nat.le_refl _) _).trans (hb6.mono (by simp)))
              clear hr6 hb6 HCat
              go_wp2_with fail
              refine (HSo.out _ _ HR6.out.sl).mono ?_
              rintro e w7 ⟨v7, rfl, hr7, hb7⟩
              obtain ⟨A7, n7, c7, rfl⟩ := hr7.slice
              have HR7 := Lib.hid hr7
              have HB7 : Hid (Below wr.heap.size wr w7) := Lib.hid (HB6.out.trans (hb7.mono HB6.out.size))
              have hset := (H1.out.below HB7.out).setOps (K' := sortOps (K ++ G)) (rw_low HR7.out (Nat.zero_le _)) wr.heap.size HB7.out.size (fun k hk => Nat.le_trans HB6.out.size (HR7.out.lt k hk).1) (fun k hk => Classical.byContradiction fun hc => by have := H1.out.lt k hc; omega)
              have HSet := Lib.hid hset
              have d67 := (HB7.out.cell hRBr).trans d6
              have f67 : w7.frozen? ⟨RB, 6, none⟩ = false := (H1.out.below HB7.out).a.fz 6
              clear hr7 hb7 HSo hset d6
              go_wp2_with fail
              go_ret2
              rw [HRi.out]
              refine ⟨by rw [← HNG.out]; rfl, _, ⟨_, _, HSet.out.1, H2.out.sorted HJ.out.1⟩, ⟨fun k hk hc => ?_⟩, ?_⟩
              · rw [HSet.out.2.2 k (by have := HB2.out.size; have := H4.out.size; omega)] at hc
                exact H3.out.old k (Nat.lt_of_lt_of_le hk HB2.out.size) hc
              · exact (Fr.of_below HB2.out).trans (H3.out.fr H4.out ((Fr.of_below HB7.out).trans HSet.out.2.1))
end Go.Proofs.YtjekalilfhnpmaaGreatDoor
