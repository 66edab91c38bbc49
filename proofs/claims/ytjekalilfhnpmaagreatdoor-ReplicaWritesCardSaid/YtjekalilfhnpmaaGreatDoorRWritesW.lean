/- ReplicaWrites is walked: what one writes stands where it was written; what others wrote meanwhile keeps its order. -/
import Derived.Test.YtjekalilfhnpmaaGreatDoorM37
import Derived.Test.YtjekalilfhnpmaaGreatDoorPlayed
namespace Go.Proofs.YtjekalilfhnpmaaGreatDoor
open Go Go.RowKit Go.Maps Go.Shelf LineOrd Tree
set_option linter.unusedVariables false
set_option linter.unusedSimpArgs false
set_option maxHeartbeats 20000000
set_option maxRecDepth 100000

/-- the text that a replica shows of a node -/
theorem textD_any {col : Nat → Int} {RB : Nat} {b : Int} {K : List OpT} {w : World} (h : RepD col RB b K w) (hD : DOk K) (hl : K.length ≤ 400) {nd : Int} (hnd : I64 nd) (hkn : Known K nd) {L : List Lt} (hL : LineOf K nd L) :
    Calls Tryz.prog 15 #[ptrV RB, .int .i64 nd] w fun e w' => e = .returned (.string (S (txtL L))) ∧ Below w.heap.size w w' := by
  obtain ⟨y, s, hR, hO⟩ := h
  obtain ⟨h1, h2⟩ := hO.ll nd hkn
  obtain rfl := LineOf.unique hD.lines (fun _ => Iff.rfl) hL h1
  have := repText_any hR nd hnd true ⟨fun _ => (hO.kn nd).2 hkn, fun _ => rfl⟩ (by omega)
  exact this
theorem RepsW.opsA {m : Nat} {ids : Nat → Int} {cs : Nat → Nat → Int} {RBs : Nat → Nat} {Ks : Nat → List OpT} {w0 w : World} (h : RepsW m ids cs RBs Ks w0 w) {b : Nat} (hb : b < m) (hl : (Ks b).length ≤ 400) :
    Calls Tryz.prog 14 #[.pointer (some ⟨RBs b, 0, none⟩)] w fun e w' => ∃ A n c, e = .returned (.slice A n c) ∧ SlV opE w' (.slice A n c) (Ks b) ∧ Below w.heap.size w w' := by
  refine (repOps_any _ _ _ _ w (h.rep b hb) (by omega)).mono ?_
  rintro e w' ⟨v, rfl, hr, hbl⟩
  obtain ⟨A, n, c, rfl⟩ := hr.slice
  exact ⟨A, n, c, rfl, hr.sl, hbl⟩
theorem RepsW.joinA {F0 : Nat → Bool} {ea : Nat → Addr} {m : Nat} {ids : Nat → Int} {cs : Nat → Nat → Int} {RBs : Nat → Nat} {Ks : Nat → List OpT} {w0 w : World} (h : RepsW m ids cs RBs Ks w0 w) (hG : Gd F0 ea w0) (f2 : F0 2 = true) (f3 : F0 3 = true) (f4 : F0 4 = true) (f5 : F0 5 = true) (f6 : F0 6 = true) (f7 : F0 7 = true) (f8 : F0 8 = true) (f9 : F0 9 = true)
    {a : Nat} (ha : a < m) {A : Option Addr} {n c : Nat} {l K : List OpT} (hs : SlV opE w (.slice A n c) l) (hk : DOk (Ks a)) (hkr : Rising (Ks a)) (hkl : (Ks a).length ≤ 400) (hK : DOk K) (hKr : Rising K) (hKl : K.length ≤ 400) (hm : ∀ o, o ∈ K ↔ o ∈ Ks a ∨ o ∈ l) (hll : l.length ≤ 90000) :
    Calls Tryz.prog 12 #[.pointer (some ⟨RBs a, 0, none⟩), .slice A n c] w fun e w' => ∃ k : Nat, e = .returned (.tuple #[.int .i64 k, .nilIface]) ∧ ∃ cs', RepsW m ids cs' RBs (putT Ks a K) w0 w' := by
  obtain ⟨G, g1, g2, _⟩ := join_more hk hkr hK hKr hm hKl
  have HJ := join_any ea w0 (cs a) (RBs a) (ids a) (Ks a) l A n c w (h.rep a ha) hG h.bel (fun k hk => h.ge a k ha hk) f2 f3 f4 f5 f6 f7 f8 f9 hk hkr hkl hs hll (fun o ho => hK.wf o ((hm o).2 (.inr ho)))
  rw [g1] at HJ
  refine Calls.mono HJ ?_
  rintro e w' ⟨rfl, hRT⟩
  rw [g2] at hRT
  obtain ⟨c', hW, _, _⟩ := h.join ha hRT
  exact ⟨_, rfl, _, hW⟩
theorem txtL_app2 (A B : List Lt) : txtL (A ++ B) = txtL A ++ txtL B := by unfold txtL; simp
theorem S_app2 (a b : List UInt8) : S a ++ S b = S (a ++ b) := by
  apply ByteArray.ext
  simp [S, ByteArray.data_append]
theorem S_pre (s : ByteArray) (p : Nat) : s.extract 0 p = S (s.data.toList.take p) := by
  apply ByteArray.ext
  apply Array.toList_inj.1
  simp [S, ByteArray.data_extract]
theorem S_suf (s : ByteArray) (p : Nat) : s.extract p s.size = S (s.data.toList.drop p) := by
  apply ByteArray.ext
  apply Array.toList_inj.1
  rw [ByteArray.data_extract, Array.toList_extract]
  unfold List.extract
  rw [List.take_of_length_le (by rw [List.length_drop, Array.length_toList]; exact Nat.le_refl _)]
  simp [S]
theorem words_text {F M : List OpT} {s0 s1 : ByteArray} {p : Nat} (h0 : F.map (fun x => x.vl.data.toList.headD 0) = s0.data.toList) (h1 : M.map (fun x => x.vl.data.toList.headD 0) = s1.data.toList) :
    S (txtL (lets (F.take p) ++ lets M ++ lets (F.drop p))) = s0.extract 0 p ++ s1 ++ s0.extract p s0.size := by
  rw [txtL_app2, txtL_app2, txt_lets, txt_lets, txt_lets, List.map_take, List.map_drop, h0, h1, S_pre, S_suf, ← S_app2, ← S_app2, S_of]
theorem words_text2 {F M T : List OpT} {s0 s1 s2 : ByteArray} {p : Nat} (h0 : F.map (fun x => x.vl.data.toList.headD 0) = s0.data.toList) (h1 : M.map (fun x => x.vl.data.toList.headD 0) = s1.data.toList) (h2 : T.map (fun x => x.vl.data.toList.headD 0) = s2.data.toList) :
    S (txtL (lets (F.take p) ++ lets T ++ (lets M ++ lets (F.drop p)))) = s0.extract 0 p ++ s2 ++ s1 ++ s0.extract p s0.size := by
  rw [← List.append_assoc, txtL_app2, txtL_app2, txtL_app2, txt_lets, txt_lets, txt_lets, txt_lets, List.map_take, List.map_drop, h0, h1, h2, S_pre, S_suf, ← S_app2, ← S_app2, ← S_app2, S_of, S_of]
abbrev o4 : OpT := ⟨1, 0, 1, 109, 4, 0, ⟨#[102]⟩, ⟨#[]⟩⟩
theorem next4 : nextP 0 [] true ⟨0, 0, 0, 109, 0, 0, ⟨#[102]⟩, ⟨#[]⟩⟩ = (o4, 0) := by rfl
theorem made4 : MadeOk 0 [] o4 := next_made next4 DOk.nil (by omega) (by omega) (by simp) (by simp) i64_0 i64_0 (show (1 : Nat) ≤ 100000 by omega) nil_le fun _ =>
  ⟨fun _ => ⟨.inl rfl, .inl rfl⟩, fun h => (by cases h), fun h => (by cases h), fun h => (by cases h)⟩
theorem known4 : Known [o4] 4 := ⟨o4, by simp, rfl, rfl, rfl⟩
theorem line4 : LineOf [o4] 4 [] := LineOf.nil 4 fun z ⟨o, ho, hk, _⟩ => by
  rw [List.mem_singleton.1 ho] at hk
  cases hk
theorem i64_4 : I64 4 := by constructor <;> omega
theorem replicaWrites_any {F0 : Nat → Bool} (ea : Nat → Addr) (s0 s1 s2 : ByteArray) (at' : Int) (w : World) (hG : Gd F0 ea w) (f2 : F0 2 = true) (f3 : F0 3 = true) (f4 : F0 4 = true) (f5 : F0 5 = true) (f6 : F0 6 = true) (f7 : F0 7 = true) (f8 : F0 8 = true) (f9 : F0 9 = true) (f21 : F0 21 = true)
    (hs0 : s0.size ≤ 9223372036854775807) (hs1 : s1.size ≤ 9223372036854775807) (hs2 : s2.size ≤ 9223372036854775807) (hat : I64 at') :
    Calls Tryz.prog 3 #[.string s0, .string s1, .string s2, .int .i64 at'] w fun e w' => e = .returned (.bool true) ∧ Below w.heap.size w w' := by
  have HG := Lib.hid hG
  have HBg := Lib.hid (begun_any ea w hG f2 f3 f4 f5 f6 f7 f8 f9 f21)
  obtain ⟨a1, a2⟩ := hat
  clear hG
  go_enter Tryz.func3, Tryz.ntmps3
  go_wp2_with fail
  refine HBg.out.mono ?_
  rintro e w1 ⟨rfl, hb1⟩
  have HB1 := Lib.hid hb1
  have HG1 := Lib.hid (HG.out.below hb1)
  clear hb1 HBg
  by_cases h0 : 12 < s0.size
  · have i0 : (12 : Int) < (s0.size : Int) := by omega
    go_wp2_with fail
    go_ret
    exact ⟨rfl, HB1.out⟩
  have i0 : ¬ (12 : Int) < (s0.size : Int) := by omega
  by_cases h1 : 8 < s1.size
  · have i1 : (8 : Int) < (s1.size : Int) := by omega
    go_wp2_with fail
    go_ret
    exact ⟨rfl, HB1.out⟩
  have i1 : ¬ (8 : Int) < (s1.size : Int) := by omega
  by_cases h2 : 8 < s2.size
  · have i2 : (8 : Int) < (s2.size : Int) := by omega
    go_wp2_with fail
    go_ret
    exact ⟨rfl, HB1.out⟩
  have i2 : ¬ (8 : Int) < (s2.size : Int) := by omega
  by_cases h3 : at' < 0
  · go_wp2_with fail
    go_ret
    exact ⟨rfl, HB1.out⟩
  obtain ⟨p, rfl⟩ : ∃ p : Nat, at' = p := ⟨at'.toNat, by omega⟩
  by_cases h4 : s0.size < p
  · have i4 : (s0.size : Int) < (p : Int) := by omega
    go_wp2_with fail
    go_ret
    exact ⟨rfl, HB1.out⟩
  have i4 : ¬ (s0.size : Int) < (p : Int) := by omega
  have HNA := Lib.hid (newB_any ea 0 w1 HG1.out f2 (by constructor <;> omega))
  go_wp2_with fail
  refine HNA.out.mono ?_
  rintro e w2 hN
  obtain ⟨cA, RA, rfl, hRA, hb2, hgA⟩ : ∃ col RB, e = .returned (.tuple #[ptrV RB, .nilIface]) ∧ RepD col RB 0 [] w2 ∧ Below w1.heap.size w1 w2 ∧ ∀ k, col k ≠ 0 → w1.heap.size ≤ k := by
    rcases hN with ⟨_, h⟩ | ⟨h, _⟩
    · exact h
    · exact absurd ⟨by omega, by omega⟩ h
  have HRA := Lib.hid hRA
  have HB2 := Lib.hid hb2
  have HgA := Lib.hid hgA
  have HNB := Lib.hid (newB_any ea 1 w2 (HG1.out.below hb2) f2 (by constructor <;> omega))
  clear hN hRA hb2 hgA HNA
  unfold ptrV
  go_wp2_with fail
  refine HNB.out.mono ?_
  rintro e w3 hN
  obtain ⟨cB, RB, rfl, hRB, hb3, hgB⟩ : ∃ col RB, e = .returned (.tuple #[ptrV RB, .nilIface]) ∧ RepD col RB 1 [] w3 ∧ Below w2.heap.size w2 w3 ∧ ∀ k, col k ≠ 0 → w2.heap.size ≤ k := by
    rcases hN with ⟨_, h⟩ | ⟨h, _⟩
    · exact h
    · exact absurd ⟨by omega, by omega⟩ h
  obtain ⟨RBs, cs3, Ks3, eA, eB, k0, k1, HR3⟩ : ∃ (RBs : Nat → Nat) (cs : Nat → Nat → Int) (Ks : Nat → List OpT), RA = RBs 0 ∧ RB = RBs 1 ∧ Ks 0 = [] ∧ Ks 1 = [] ∧ Hid (RepsW 2 (fun b => (b : Int)) cs RBs Ks w1 w3) := by
    have q0 := RepsW.start (fun b => (b : Int)) (fun _ _ => 0) (fun _ => 0) (fun _ => []) w1
    have q1 := q0.more' HRA.out HB2.out HgA.out
    have q2 := q1.more' hRB hb3 hgB
    exact ⟨_, _, _, rfl, rfl, rfl, rfl, Lib.hid q2⟩
  subst eA eB
  clear hN hRB hb3 hgB HNB HRA HB2 HgA
  have hr0 := HR3.out.rep 0 (by omega)
  rw [k0] at hr0
  have HMk := Lib.hid (make_any ea (cs3 0) (RBs 0) 0 [] 0 ⟨#[102]⟩ w3 hr0 (HG1.out.below HR3.out.bel) f2 f3 f4 f5 f6 f8 DOk.nil (by simp) (by omega) (by omega) i64_0 (show (1 : Nat) ≤ 100000 by omega) true ⟨fun _ => .inl rfl, fun _ => rfl⟩)
  rw [next4] at HMk
  clear hr0
  unfold ptrV at *
  go_wp2_with fail
  refine HMk.out.mono ?_
  rintro e w4 ⟨rfl, hb4⟩
  have HR4 := Lib.hid (HR3.out.below hb4)
  have he : errW ea ((o4, 0) : OpT × Nat).2 = .nilIface := rfl
  simp only [he]
  clear hb4 HMk HR3 he
  go_upto_region 11 with (fail)
  obtain ⟨W, hW⟩ : ∃ W, W = w4.alloc (.cells #[.int .i64 1, .int .i64 0, .int .i64 1, .int .u8 109, .int .i64 4, .int .i64 0, .string ⟨#[102]⟩, .string ⟨#[]⟩] 31) := ⟨_, rfl⟩
  have hbW : Below w4.heap.size w4 W := by rw [hW]; exact (Below.refl _ _).alloc (Nat.le_refl _) _
  have hOW : OpAt W w4.heap.size o4 := by rw [hW]; exact OpAt.start w4 o4 _
  rw [show _ = W from hW.symm]
  have HOW := Lib.hid hOW
  have HRW := Lib.hid (HR4.out.below hbW)
  have HZ : Hid (cs3 0 w4.heap.size = 0) := Lib.hid (Classical.byContradiction fun hn => by
    have := (HR4.out.rep 0 (by omega)).lt _ hn
    omega)
  clear hW hbW HR4
  obtain ⟨j0, j1, j2, j3, j4, j5, j6, j7⟩ := hOW
  simp only at j0 j1 j2 j3 j4 j5 j6 j7
  have hr0 := HRW.out.rep 0 (by omega)
  rw [k0] at hr0
  have HRr := Lib.hid hr0
  have HJn := Lib.hid (fun W' (hb : Below W.heap.size W W') A (hs : SlV opE W' (.slice A 1 1) [o4]) => join_any ea w1 (cs3 0) (RBs 0) 0 [] [o4] A 1 1 W' (HRr.out.below hb) HG1.out (bel2 HRW.out.bel hb) (fun k hk => HRW.out.ge 0 k (by omega) hk) f2 f3 f4 f5 f6 f7 f8 f9 DOk.nil List.Pairwise.nil (by simp) hs (by simp) (fun o ho => by rw [List.mem_singleton.1 ho]; exact made4.ok.wf o4 (by simp)))
  obtain ⟨jn1, jn2⟩ := join_one DOk.nil made4.ok (List.pairwise_singleton _ _) (by simp)
  rw [jn1] at HJn
  have HJe := Lib.hid jn2
  unfold ptrV at HJn
  clear jn1 jn2 hr0
  go_wp2_with fail
  refine (HJn.out _ ((Below.refl _ _).alloc (Nat.le_refl _) _) _ (SlV.one W o4 _ _ rfl)).mono ?_
  rintro e w5 ⟨rfl, hRT⟩
  rw [HJe.out] at hRT
  have hRT' : RepDTo (cs3 0) (RBs 0) 0 [o4] _ w5 := hRT
  obtain ⟨cs5, Ks5, k50, k51, HR5⟩ : ∃ cs5 Ks5, Ks5 0 = [o4] ∧ Ks5 1 = [] ∧ Hid (RepsW 2 (fun b => (b : Int)) cs5 RBs Ks5 w1 w5) := by
    obtain ⟨c', hW5, _, _⟩ := (HRW.out.below ((Below.refl W.heap.size W).alloc (Nat.le_refl _) _)).join (b := 0) (by omega) hRT'
    exact ⟨_, _, putT_self _ _ _, (putT_other (by omega)).trans k1, Lib.hid hW5⟩
  have HO5 : Hid (OpAt w5 w4.heap.size o4) := Lib.hid (by
    obtain ⟨c', h1, h2, h3⟩ := hRT'
    exact (HOW.out.below ((Below.refl _ _).alloc (Nat.le_refl _) _)).fr h3 (fun hn => hn HZ.out))
  have c4 := HO5.out.c4
  simp only at c4
  clear hRT hRT' HJn HRr HRW HOW HZ j0 j1 j2 j3 j4 j5 j6 j7 HJe k0 k1
  have HTy : Hid (Calls Tryz.prog 13 #[.pointer (some ⟨RBs 0, 0, none⟩), .int .i64 4, .int .i64 0, .string s0] w5 (TypesEnds 0 [o4] 4 [] [] s0.data.toList RBs Ks5 w1)) := Lib.hid (types_any ea 0 [o4] 4 [] [] s0 cs5 RBs Ks5 w1 w5 HG1.out f2 f3 f4 f5 f6 f7 f8 f9 (by omega) HR5.out k50 made4.ok (List.pairwise_singleton _ _) (by simp) (by omega) (by simp) known4 i64_4 line4 (by simp))
  go_wp2_with fail
  refine HTy.out.mono ?_
  rintro e w6 hE
  rcases hE with ⟨rfl, hb6⟩ | ⟨rfl, cs6, Fs, hR6, hT6⟩
  · have HB6 := Lib.hid hb6
    clear hb6 HTy
    go_wp2_with fail
    go_ret
    exact ⟨rfl, bel2 HB1.out HB6.out⟩
  have HT6 := Lib.hid hT6
  obtain ⟨K1, hK1⟩ : ∃ K1, K1 = [o4] ++ Fs := ⟨_, rfl⟩
  obtain ⟨Ks6, k60, k61, HR6⟩ : ∃ Ks6, Ks6 0 = K1 ∧ Ks6 1 = [] ∧ Hid (RepsW 2 (fun b => (b : Int)) cs6 RBs Ks6 w1 w6) := ⟨_, (putT_self _ _ _).trans hK1.symm, (putT_other (by omega)).trans k51, Lib.hid hR6⟩
  have hFl : Fs.length = s0.size := by
    have := congrArg List.length hT6.ch
    rw [List.length_map, Array.length_toList] at this
    exact this
  have HK1 : Hid (DOk K1 ∧ Rising K1 ∧ K1.length ≤ 13 ∧ Known K1 4) := Lib.hid (by
    rw [hK1]
    refine ⟨hT6.ok, hT6.rise, ?_, known4.mono fun o ho => List.mem_append.2 (.inl ho)⟩
    rw [List.length_append]
    simp
    omega)
  have HL1 : Hid (LineOf K1 4 (lets (Fs.take p) ++ lets (Fs.drop p))) := Lib.hid (by
    rw [hK1, ← lets_app, List.take_append_drop]
    have := hT6.line
    simpa using this)
  have HFl := Lib.hid hFl
  have HFc := Lib.hid hT6.ch
  clear hR6 hT6 HTy HR5 k50 k51 c4 HO5 hFl HT6 hK1
  as_aux_lemma =>
    have HO := Lib.hid (HR6.out.opsA (b := 0) (by omega) (by rw [k60]; have := HK1.out.2.2.1; omega))
    rw [k60] at HO
    go_wp2_with fail
    refine HO.out.mono ?_
    rintro e w7 ⟨A7, n7, c7, rfl, hs7, hb7⟩
    have HR7 := Lib.hid (HR6.out.below hb7)
    have HJ := Lib.hid (HR7.out.joinA HG1.out f2 f3 f4 f5 f6 f7 f8 f9 (a := 1) (K := K1) (by omega) hs7 (by rw [k61]; exact DOk.nil) (by rw [k61]; exact List.Pairwise.nil) (by rw [k61]; simp) HK1.out.1 HK1.out.2.1 (by have := HK1.out.2.2.1; omega) (fun o => by rw [k61]; simp) (by have := HK1.out.2.2.1; omega))
    clear hs7 hb7 HO HR6
    go_wp2_with fail
    refine HJ.out.mono ?_
    rintro e w8 ⟨k8, rfl, cs8, hR8⟩
    obtain ⟨Ks8, k80, k81, HR8⟩ : ∃ Ks8, Ks8 0 = K1 ∧ Ks8 1 = K1 ∧ Hid (RepsW 2 (fun b => (b : Int)) cs8 RBs Ks8 w1 w8) := ⟨_, (putT_other (by omega)).trans k60, putT_self _ _ _, Lib.hid hR8⟩
    have hAl : (lets (Fs.take p)).length = p := by
      unfold lets
      rw [List.length_map, List.length_take]
      have := HFl.out
      omega
    have HAl := Lib.hid hAl
    have HTm : Hid (Calls Tryz.prog 13 #[.pointer (some ⟨RBs 0, 0, none⟩), .int .i64 4, .int .i64 (p : Int), .string s1] w8 (TypesEnds 0 K1 4 (lets (Fs.take p)) (lets (Fs.drop p)) s1.data.toList RBs Ks8 w1)) := Lib.hid (by
      have := types_any ea 0 K1 4 (lets (Fs.take p)) (lets (Fs.drop p)) s1 cs8 RBs Ks8 w1 w8 HG1.out f2 f3 f4 f5 f6 f7 f8 f9 (by omega) HR8.out k80 HK1.out.1 HK1.out.2.1 (by have := HK1.out.2.2.1; omega) (by omega) (by omega) HK1.out.2.2.2 i64_4 HL1.out (fun x hx => lets_seen Fs x (by rw [← List.take_append_drop p Fs, lets_app]; exact hx))
      rwa [hAl] at this)
    clear hR8 HJ HR7 k60 k61 hAl
    go_wp2_with fail
    refine HTm.out.mono ?_
    rintro e w9 hE
    rcases hE with ⟨rfl, hb9⟩ | ⟨rfl, cs9, M, hR9, hT9⟩
    · have HB9 := Lib.hid hb9
      clear hb9 HTm
      go_wp2_with fail
      go_ret
      exact ⟨rfl, bel2 HB1.out HB9.out⟩
    obtain ⟨Ks9, k90, k91, HR9⟩ : ∃ Ks9, Ks9 0 = K1 ++ M ∧ Ks9 1 = K1 ∧ Hid (RepsW 2 (fun b => (b : Int)) cs9 RBs Ks9 w1 w9) := ⟨_, putT_self _ _ _, (putT_other (by omega)).trans k81, Lib.hid hR9⟩
    have HTa := Lib.hid hT9
    have HTt : Hid (Calls Tryz.prog 13 #[.pointer (some ⟨RBs 1, 0, none⟩), .int .i64 4, .int .i64 (p : Int), .string s2] w9 (TypesEnds 1 K1 4 (lets (Fs.take p)) (lets (Fs.drop p)) s2.data.toList RBs Ks9 w1)) := Lib.hid (by
      have := types_any ea 1 K1 4 (lets (Fs.take p)) (lets (Fs.drop p)) s2 cs9 RBs Ks9 w1 w9 HG1.out f2 f3 f4 f5 f6 f7 f8 f9 (by omega) HR9.out k91 HK1.out.1 HK1.out.2.1 (by have := HK1.out.2.2.1; omega) (by omega) (by have := HAl.out; omega) HK1.out.2.2.2 i64_4 HL1.out (fun x hx => lets_seen Fs x (by rw [← List.take_append_drop p Fs, lets_app]; exact hx))
      rwa [HAl.out] at this)
    clear hR9 hT9 HTm HR8 k80 k81
    go_wp2_with fail
    refine HTt.out.mono ?_
    rintro e w10 hE
    rcases hE with ⟨rfl, hb10⟩ | ⟨rfl, cs10, T, hR10, hT10⟩
    · have HB10 := Lib.hid hb10
      clear hb10 HTt
      go_wp2_with fail
      go_ret
      exact ⟨rfl, bel2 HB1.out HB10.out⟩
    obtain ⟨Ks10, k100, k101, HR10⟩ : ∃ Ks10, Ks10 0 = K1 ++ M ∧ Ks10 1 = K1 ++ T ∧ Hid (RepsW 2 (fun b => (b : Int)) cs10 RBs Ks10 w1 w10) := ⟨_, (putT_other (by omega)).trans k90, putT_self _ _ _, Lib.hid hR10⟩
    have HTb := Lib.hid hT10
    clear hR10 hT10 HTt HR9 k90 k91
    have HKa : Hid (DOk (K1 ++ M) ∧ Rising (K1 ++ M) ∧ (K1 ++ M).length ≤ 21 ∧ Known (K1 ++ M) 4) := Lib.hid ⟨HTa.out.ok, HTa.out.rise, by
      have hMl : M.length = s1.size := by
        have := congrArg List.length HTa.out.ch
        rw [List.length_map, Array.length_toList] at this
        exact this
      rw [List.length_append]
      have := HK1.out.2.2.1
      omega, HK1.out.2.2.2.mono fun o ho => List.mem_append.2 (.inl ho)⟩
    have HKb : Hid (DOk (K1 ++ T) ∧ Rising (K1 ++ T) ∧ (K1 ++ T).length ≤ 21 ∧ Known (K1 ++ T) 4) := Lib.hid ⟨HTb.out.ok, HTb.out.rise, by
      have hMl : T.length = s2.size := by
        have := congrArg List.length HTb.out.ch
        rw [List.length_map, Array.length_toList] at this
        exact this
      rw [List.length_append]
      have := HK1.out.2.2.1
      omega, HK1.out.2.2.2.mono fun o ho => List.mem_append.2 (.inl ho)⟩
    have hp0 : p ≤ s0.size := by omega
    obtain ⟨PA, hPA⟩ : ∃ PA, PA = s0.extract 0 p := ⟨_, rfl⟩
    obtain ⟨PB, hPB⟩ : ∃ PB, PB = s0.extract p s0.size := ⟨_, rfl⟩
    have sl1 : ∀ w, (Instr.slice 9 (.string s0) none (some (.int .i64 (p : Int))) none).run Tryz.prog w = .ok (.string PA) w := fun w => by rw [hPA]; go_simp
    have sl2 : ∀ w, (Instr.slice 9 (.string s0) (some (.int .i64 (p : Int))) none none).run Tryz.prog w = .ok (.string PB) w := fun w => by rw [hPB]; go_simp
    have zA : PA.size ≤ 12 := by rw [hPA, ByteArray.size_extract]; omega
    have zB : PB.size ≤ 12 := by rw [hPB, ByteArray.size_extract]; omega
    obtain ⟨U1, hU1⟩ : ∃ U1, U1 = PA ++ s1 := ⟨_, rfl⟩
    obtain ⟨U2, hU2⟩ : ∃ U2, U2 = U1 ++ PB := ⟨_, rfl⟩
    obtain ⟨V1, hV1⟩ : ∃ V1, V1 = PA ++ s2 := ⟨_, rfl⟩
    obtain ⟨V2, hV2⟩ : ∃ V2, V2 = V1 ++ PB := ⟨_, rfl⟩
    obtain ⟨W1, hW1⟩ : ∃ W1, W1 = U1 ++ s2 := ⟨_, rfl⟩
    obtain ⟨W2, hW2⟩ : ∃ W2, W2 = W1 ++ PB := ⟨_, rfl⟩
    obtain ⟨Y1, hY1⟩ : ∃ Y1, Y1 = V1 ++ s1 := ⟨_, rfl⟩
    obtain ⟨Y2, hY2⟩ : ∃ Y2, Y2 = Y1 ++ PB := ⟨_, rfl⟩
    have zU : U1.size ≤ 20 := by rw [hU1, ByteArray.size_append]; omega
    have zV : V1.size ≤ 20 := by rw [hV1, ByteArray.size_append]; omega
    have zW : W1.size ≤ 28 := by rw [hW1, ByteArray.size_append]; omega
    have zY : Y1.size ≤ 28 := by rw [hY1, ByteArray.size_append]; omega
    have ad1 : ∀ w, (Op.stringOp .add PA s1).run Tryz.prog w = .ok (.string U1) w := fun w => by rw [hU1]; exact run_string_add_sum (P := Tryz.prog) (w := w) _ _ (by omega)
    have ad2 : ∀ w, (Op.stringOp .add U1 PB).run Tryz.prog w = .ok (.string U2) w := fun w => by rw [hU2]; exact run_string_add_sum (P := Tryz.prog) (w := w) _ _ (by omega)
    have ad3 : ∀ w, (Op.stringOp .add PA s2).run Tryz.prog w = .ok (.string V1) w := fun w => by rw [hV1]; exact run_string_add_sum (P := Tryz.prog) (w := w) _ _ (by omega)
    have ad4 : ∀ w, (Op.stringOp .add V1 PB).run Tryz.prog w = .ok (.string V2) w := fun w => by rw [hV2]; exact run_string_add_sum (P := Tryz.prog) (w := w) _ _ (by omega)
    have ad5 : ∀ w, (Op.stringOp .add U1 s2).run Tryz.prog w = .ok (.string W1) w := fun w => by rw [hW1]; exact run_string_add_sum (P := Tryz.prog) (w := w) _ _ (by omega)
    have ad6 : ∀ w, (Op.stringOp .add W1 PB).run Tryz.prog w = .ok (.string W2) w := fun w => by rw [hW2]; exact run_string_add_sum (P := Tryz.prog) (w := w) _ _ (by omega)
    have ad7 : ∀ w, (Op.stringOp .add V1 s1).run Tryz.prog w = .ok (.string Y1) w := fun w => by rw [hY1]; exact run_string_add_sum (P := Tryz.prog) (w := w) _ _ (by omega)
    have ad8 : ∀ w, (Op.stringOp .add Y1 PB).run Tryz.prog w = .ok (.string Y2) w := fun w => by rw [hY2]; exact run_string_add_sum (P := Tryz.prog) (w := w) _ _ (by omega)
    have HtU := Lib.hid (show S (txtL (lets (Fs.take p) ++ lets M ++ lets (Fs.drop p))) = U2 by rw [hU2, hU1, hPA, hPB]; exact words_text HFc.out HTa.out.ch)
    have HtV := Lib.hid (show S (txtL (lets (Fs.take p) ++ lets T ++ lets (Fs.drop p))) = V2 by rw [hV2, hV1, hPA, hPB]; exact words_text HFc.out HTb.out.ch)
    have HtY := Lib.hid (show S (txtL (lets (Fs.take p) ++ lets T ++ (lets M ++ lets (Fs.drop p)))) = Y2 by rw [hY2, hY1, hV1, hPA, hPB]; exact words_text2 HFc.out HTa.out.ch HTb.out.ch)
    clear hPA hPB hU1 hU2 hV1 hV2 hW1 hW2 hY1 hY2 zA zB zU zV zW zY
    have HTxA : Hid (∀ w', Below w10.heap.size w10 w' → Calls Tryz.prog 15 #[.pointer (some ⟨RBs 0, 0, none⟩), .int .i64 4] w' fun e w'' => e = .returned (.string U2) ∧ Below w'.heap.size w' w'') := Lib.hid fun w' hb => by
      have := (HR10.out.below hb).rep 0 (by omega)
      rw [k100] at this
      have h1 := textD_any this HKa.out.1 (by have := HKa.out.2.2.1; omega) i64_4 HKa.out.2.2.2 HTa.out.line
      rwa [HtU.out] at h1
    have HTxB : Hid (∀ w', Below w10.heap.size w10 w' → Calls Tryz.prog 15 #[.pointer (some ⟨RBs 1, 0, none⟩), .int .i64 4] w' fun e w'' => e = .returned (.string V2) ∧ Below w'.heap.size w' w'') := Lib.hid fun w' hb => by
      have := (HR10.out.below hb).rep 1 (by omega)
      rw [k101] at this
      have h1 := textD_any this HKb.out.1 (by have := HKb.out.2.2.1; omega) i64_4 HKb.out.2.2.2 HTb.out.line
      rwa [HtV.out] at h1
    go_upto_region 20 with (fail)
    go_cut [144] (fun v wd => v = .bool false ∧ Hid (Below w10.heap.size w10 wd))
    case first =>
      as_aux_lemma =>
        go_region_held_law (fun w' => Below w10.heap.size w10 w') (go_grown)
          (first
            | (go_at_call 15; with_reducible refine (HTxA.out _ (by go_grown)).mono ?_; rintro e wA ⟨rfl, hbA⟩; have hA := bel2 (w0 := w10) (by go_grown) hbA; have sA := hA.size)
            | (go_at_call 15; with_reducible refine (HTxB.out _ (by go_grown)).mono ?_; rintro e wA ⟨rfl, hbA⟩; have hA := bel2 (w0 := w10) (by go_grown) hbA; have sA := hA.size))
        all_goals
          rename_i hH
          clear hH
          go_wp2_with fail
          go_meet
          case rel => exact ⟨rfl, Lib.hid (by assumption)⟩
    case rest =>
      as_aux_lemma =>
        obtain ⟨rfl, HBd⟩ := hcut
        have HR11 := Lib.hid (HR10.out.below HBd.out)
        obtain ⟨Kf, HKf⟩ : ∃ Kf, Hid (DOk Kf ∧ Rising Kf ∧ Kf.length ≤ 42 ∧ Known Kf 4 ∧ ∀ o, o ∈ Kf ↔ o ∈ K1 ++ M ∨ o ∈ T) := by
          obtain ⟨D, d1, d2, d3⟩ := HKa.out.1.union HKb.out.1 fun o ho q hq e1 e2 => by
            rcases List.mem_append.1 ho with h1 | h1
            · exact HKb.out.1.num o (List.mem_append.2 (.inl h1)) q hq e1 e2
            · rcases List.mem_append.1 hq with h2 | h2
              · exact HKa.out.1.num o ho q (List.mem_append.2 (.inl h2)) e1 e2
              · have := (HTa.out.k o h1).2.2
                have := (HTb.out.k q h2).2.2
                omega
          have hmem : ∀ o, o ∈ D ↔ o ∈ K1 ++ M ∨ o ∈ T := fun o => by
            rw [d2]
            constructor
            · rintro (h | h)
              · exact .inl h
              · rcases List.mem_append.1 h with h | h
                · exact .inl (List.mem_append.2 (.inl h))
                · exact .inr h
            · rintro (h | h)
              · exact .inl h
              · exact .inr (List.mem_append.2 (.inr h))
          have hlen : D.length ≤ 42 := by
            have h1 := HKa.out.2.2.1
            have h2 := HKb.out.2.2.1
            have h3 := nodup_le d1.nod (H := (K1 ++ M) ++ (K1 ++ T)) fun o ho => by
              rcases (d2 o).1 ho with h | h
              · exact List.mem_append.2 (.inl h)
              · exact List.mem_append.2 (.inr h)
            rw [List.length_append] at h3
            omega
          exact ⟨sortOps D, Lib.hid ⟨d1.sorted, d1.rising, by rw [(sortOps_perm D).length_eq]; exact hlen, HKa.out.2.2.2.mono fun o ho => sortOps_mem.2 ((hmem o).2 (.inl ho)), fun o => by rw [sortOps_mem]; exact hmem o⟩⟩
        have HO1 := Lib.hid (HR11.out.opsA (b := 1) (by omega) (by rw [k101]; have := HKb.out.2.2.1; omega))
        rw [k101] at HO1
        clear HTxA HTxB
        go_upto_region 22 with (fail)
        go_wp2_with fail
        refine HO1.out.mono ?_
        rintro e w12 ⟨A12, n12, c12, rfl, hs12, hb12⟩
        have HR12 := Lib.hid (HR11.out.below hb12)
        have HJ := Lib.hid (HR12.out.joinA HG1.out f2 f3 f4 f5 f6 f7 f8 f9 (a := 0) (K := Kf) (by omega) hs12 (by rw [k100]; exact HKa.out.1) (by rw [k100]; exact HKa.out.2.1) (by rw [k100]; have := HKa.out.2.2.1; omega) HKf.out.1 HKf.out.2.1 (by have := HKf.out.2.2.1; omega) (fun o => by
          rw [k100, HKf.out.2.2.2.2]
          constructor
          · rintro (h | h)
            · exact .inl h
            · exact .inr (List.mem_append.2 (.inr h))
          · rintro (h | h)
            · exact .inl h
            · rcases List.mem_append.1 h with h | h
              · exact .inl (List.mem_append.2 (.inl h))
              · exact .inr h) (by have := HKb.out.2.2.1; omega))
        clear hs12 hb12 HO1
        go_wp2_with fail
        refine HJ.out.mono ?_
        rintro e w13 ⟨k13, rfl, cs13, hR13⟩
        obtain ⟨Ks13, k130, k131, HR13⟩ : ∃ Ks13, Ks13 0 = Kf ∧ Ks13 1 = K1 ++ T ∧ Hid (RepsW 2 (fun b => (b : Int)) cs13 RBs Ks13 w1 w13) := ⟨_, putT_self _ _ _, (putT_other (by omega)).trans k101, Lib.hid hR13⟩
        have HO2 := Lib.hid (HR13.out.opsA (b := 0) (by omega) (by rw [k130]; have := HKf.out.2.2.1; omega))
        rw [k130] at HO2
        clear hR13 HJ HR12 k100 k101
        go_wp2_with fail
        refine HO2.out.mono ?_
        rintro e w14 ⟨A14, n14, c14, rfl, hs14, hb14⟩
        have HR14 := Lib.hid (HR13.out.below hb14)
        have HJ := Lib.hid (HR14.out.joinA HG1.out f2 f3 f4 f5 f6 f7 f8 f9 (a := 1) (K := Kf) (by omega) hs14 (by rw [k131]; exact HKb.out.1) (by rw [k131]; exact HKb.out.2.1) (by rw [k131]; have := HKb.out.2.2.1; omega) HKf.out.1 HKf.out.2.1 (by have := HKf.out.2.2.1; omega) (fun o => by
          rw [k131]
          constructor
          · exact .inr
          · rintro (h | h)
            · rw [HKf.out.2.2.2.2]
              rcases List.mem_append.1 h with h | h
              · exact .inl (List.mem_append.2 (.inl h))
              · exact .inr h
            · exact h) (by have := HKf.out.2.2.1; omega))
        clear hs14 hb14 HO2
        go_wp2_with fail
        refine HJ.out.mono ?_
        rintro e w15 ⟨k15, rfl, cs15, hR15⟩
        obtain ⟨Ks15, k150, k151, HR15⟩ : ∃ Ks15, Ks15 0 = Kf ∧ Ks15 1 = Kf ∧ Hid (RepsW 2 (fun b => (b : Int)) cs15 RBs Ks15 w1 w15) := ⟨_, (putT_other (by omega)).trans k130, putT_self _ _ _, Lib.hid hR15⟩
        clear hR15 HJ HR14 k130 k131
        have HTxA : Hid (∀ w', Below w15.heap.size w15 w' → Calls Tryz.prog 15 #[.pointer (some ⟨RBs 0, 0, none⟩), .int .i64 4] w' fun e w'' => e = .returned (.string Y2) ∧ Below w'.heap.size w' w'') := Lib.hid fun w' hb => by
          have := (HR15.out.below hb).rep 0 (by omega)
          rw [k150] at this
          obtain ⟨y, st, hR, hO⟩ := this
          obtain ⟨h1, h2⟩ := hO.ll 4 HKf.out.2.2.2.1
          have h3 := repText_any hR 4 i64_4 true ⟨fun _ => (hO.kn 4).2 HKf.out.2.2.2.1, fun _ => rfl⟩ (by have := HKf.out.2.2.1; omega)
          have h4 := HTa.out.both HTb.out HKf.out.1 HKf.out.2.2.2.2 h1
          have h5 : S (txtO true (st.ll 4)) = Y2 := by show S (txtL (st.ll 4)) = Y2; rw [h4]; exact HtY.out
          rwa [h5] at h3
        have HTxB : Hid (∀ w', Below w15.heap.size w15 w' → Calls Tryz.prog 15 #[.pointer (some ⟨RBs 1, 0, none⟩), .int .i64 4] w' fun e w'' => e = .returned (.string Y2) ∧ Below w'.heap.size w' w'') := Lib.hid fun w' hb => by
          have := (HR15.out.below hb).rep 1 (by omega)
          rw [k151] at this
          obtain ⟨y, st, hR, hO⟩ := this
          obtain ⟨h1, h2⟩ := hO.ll 4 HKf.out.2.2.2.1
          have h3 := repText_any hR 4 i64_4 true ⟨fun _ => (hO.kn 4).2 HKf.out.2.2.2.1, fun _ => rfl⟩ (by have := HKf.out.2.2.1; omega)
          have h4 := HTa.out.both HTb.out HKf.out.1 HKf.out.2.2.2.2 h1
          have h5 : S (txtO true (st.ll 4)) = Y2 := by show S (txtL (st.ll 4)) = Y2; rw [h4]; exact HtY.out
          rwa [h5] at h3
        go_wp2_with fail
        refine (HTxA.out _ (Below.refl _ _)).mono ?_
        rintro e w16 ⟨rfl, hb16⟩
        have HB16 := Lib.hid hb16
        clear hb16
        go_wp2_with fail
        refine (HTxB.out _ HB16.out).mono ?_
        rintro e w17 ⟨rfl, hb17⟩
        have HB17 := Lib.hid (bel2 HB16.out hb17)
        clear hb17
        go_wp2_with fail
        refine (HTxA.out _ HB17.out).mono ?_
        rintro e w18 ⟨rfl, hb18⟩
        have HB18 := Lib.hid (bel2 HB17.out hb18)
        clear hb18
        clear HTxA HTxB HtU HtV HtY HKf HKa HKb HTa HTb
        obtain ⟨tb, htb⟩ : ∃ tb, (Y2.toList == W2.toList) = tb := ⟨_, rfl⟩
        cases tb with
        | true =>
          as_aux_lemma =>
            have HW : ∀ nq, Hid (Below w18.heap.size w18 (w18.drewN nq)) := fun nq => Lib.hid (below_drawn (Below.refl _ _) nq)
            go_upto_region 27 with (fail)
            go_quiet (fail)
            rename_i nq
            have HH := HW nq
            generalize w18.drewN nq = wq at HH ⊢
            go_wp2_with fail
            go_ret
            exact ⟨rfl, bel2 HB1.out (bel2 HR15.out.bel (bel2 HB18.out HH.out))⟩
        | false =>
          as_aux_lemma =>
            have HW : ∀ nq, Hid (Below w18.heap.size w18 (w18.drewN nq)) := fun nq => Lib.hid (below_drawn (Below.refl _ _) nq)
            go_upto_region 27 with (fail)
            go_quiet (fail)
            rename_i nq
            have HH := HW nq
            generalize w18.drewN nq = wq at HH ⊢
            go_wp2_with fail
            go_ret
            exact ⟨rfl, bel2 HB1.out (bel2 HR15.out.bel (bel2 HB18.out HH.out))⟩
end Go.Proofs.YtjekalilfhnpmaaGreatDoor
