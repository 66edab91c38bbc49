/- The document's reading of an operation. -/
import Derived.Test.YtbncfpljiihmnaaGreatDoorOpRd
import Derived.Test.YtbncfpljiihmnaaGreatDoorNumOf
import Derived.Test.YtbncfpljiihmnaaGreatDoorOps2
import Derived.Test.YtbncfpljiihmnaaGreatDoorISt
namespace Go.Proofs.YtbncfpljiihmnaaGreatDoor
open Go Go.RowKit
set_option linter.unusedVariables false
set_option linter.unusedSimpArgs false
set_option maxHeartbeats 4000000
set_option maxRecDepth 100000

theorem hexDigit_any (c : UInt8) (w : World) :
    Calls Tryz.prog 54 #[.int .u8 c.toNat] w fun e w' => e = .returned (.int .i64 (unD c)) ∧ w' = w := by
  have H : Hid (unD c = if 48 ≤ c.toNat ∧ c.toNat ≤ 57 then (c.toNat : Int) - 48 else if 97 ≤ c.toNat ∧ c.toNat ≤ 102 then (c.toNat : Int) - 87 else -1) := rfl
  generalize unD c = r at H ⊢
  have hb : c.toNat < 256 := c.toNat_lt
  generalize c.toNat = x at H hb ⊢
  have hb1 : (0 : Int) ≤ (x : Int) := by omega
  have hb2 : (x : Int) < 256 := by omega
  go_enter Tryz.func54, Tryz.ntmps54
  go_wp2_with fail
  all_goals
    go_ret
    refine ⟨ret_int ?_, rfl⟩
    rw [H.out]
    clear H
    (try simp at *)
    (try split)
    all_goals (try split)
    all_goals (try omega)

def nsL (xs : List (List UInt8)) (i : Nat) : List Int := (List.range (i - 1)).map fun t => Num.numOf (wd xs (t + 1)) 10
theorem nsL_len (xs : List (List UInt8)) (i : Nat) : (nsL xs i).length = i - 1 := by simp [nsL]
theorem nsL_succ (xs : List (List UInt8)) (i : Nat) (h : 1 ≤ i) : nsL xs (i + 1) = nsL xs i ++ [Num.numOf (wd xs i) 10] := by
  obtain ⟨k, rfl⟩ : ∃ k, i = k + 1 := ⟨i - 1, by omega⟩
  unfold nsL
  rw [show k + 1 + 1 - 1 = k + 1 by omega, show k + 1 - 1 = k by omega, List.range_succ, List.map_append]
  rfl
theorem nsL_at (xs : List (List UInt8)) (t : Nat) (h : t < 5) : (nsL xs 6)[t]? = some (Num.numOf (wd xs (t + 1)) 10) := by
  unfold nsL
  rw [List.getElem?_map, List.getElem?_range (by omega)]
  rfl
theorem opOfW_numb {xs : List (List UInt8)} {i : Nat} (h1 : 1 ≤ i) (h2 : i < 6) (h : Num.numOf (wd xs i) 10 < 0) : opRdW xs = (zeroOp, 1) := by
  unfold opRdW opOfW
  rw [if_neg]
  rintro ⟨_, _, hn⟩
  have := (numsOk_iff _).1 hn (i - 1) (by omega)
  rw [show i - 1 + 1 = i by omega] at this
  omega

/-- how the document's reading ends -/
def RfOp (xs : List (List UInt8)) (w : World) (e : Ending) (w' : World) : Prop :=
  e = .returned (.tuple #[opV (opRdW xs).1, .int .i64 ((opRdW xs).2 : Int)]) ∧ Below w.heap.size w w'

theorem opOf_short (s : ByteArray) (xs : List (List UInt8)) (w : World) (hxl : xs.length ≤ 100001)
    (hx : xs.length ≠ 8 ∨ (xs.length = 8 ∧ ((wd xs 0).length ≠ 1 ∨ ((wd xs 0).length = 1 ∧ (wd xs 7).length % 2 = 1 ∧ (wd xs 7).length ≤ 100000))))
    (hcut : ∀ w, Calls Tryz.prog 52 #[.string s, .int .u8 124] w (GivesTexts xs w)) :
    Calls Tryz.prog 35 #[.string s] w (RfOp xs w) := by
  have HC := Lib.hid hcut
  clear hcut
  rcases hx with hx | ⟨hx, hx2 | ⟨hx2, hx3, hx4⟩⟩
  · have H := Lib.hid (opOfW_len hx)
    have hne : ((xs.length : Int) == 8) = false := by rw [beq_eq_false_iff_ne]; omega
    have hne2 : ((xs.length : Int) != 8) = true := by rw [bne_iff_ne]; omega
    clear hx
    go_enter Tryz.func35, Tryz.ntmps35
    go_wp2_with fail
    refine (HC.out _).mono ?_
    rintro e w1 ⟨g, cap, rfl, hg1, hg2, hcap, ht, hb⟩
    have hR : ResO w zeroOp w1 := (ResO.start w _).below hb
    have HR := Lib.hid hR
    clear hb ht hg1 hg2
    obtain ⟨⟨a0, a1, a2, a3, a4, a5, a6, a7⟩, fa, hlt, hbel⟩ := hR
    go_wp2_with fail
    have hO := HR.out.put zeroOp
    simp only [putOp, zeroOp] at hO
    exact bodyPost_ret (v := .tuple #[opV zeroOp, .int .i64 1]) (by simp [zeroOp, results, Tryz.results35, go_sem, hO.o.c0, hO.o.c1, hO.o.c2, hO.o.c3, hO.o.c4, hO.o.c5, hO.o.c6, hO.o.c7]) rfl ⟨by rw [H.out]; rfl, hO.bel⟩
  · have H := Lib.hid (opOfW_kind hx2)
    have hne : ((xs.length : Int) == 8) = true := by rw [beq_iff_eq]; omega
    have hne2 : ((xs.length : Int) != 8) = false := by rw [bne_eq_false_iff_eq]; omega
    obtain ⟨x, hx0⟩ : ∃ x, xs[0]? = some x := ⟨_, List.getElem?_eq_getElem (by omega)⟩
    have hk1 : (((S x).size : Int) == 1) = false := by rw [beq_eq_false_iff_ne, S_size]; rw [wd_at hx0] at hx2; omega
    have hk2 : (((S x).size : Int) != 1) = true := by rw [bne_iff_ne, S_size]; rw [wd_at hx0] at hx2; omega
    have i1 : 0 < xs.length := by omega
    have HX0 := Lib.hid hx0
    clear hx hx0 hx2
    go_enter Tryz.func35, Tryz.ntmps35
    go_wp2_with fail
    refine (HC.out _).mono ?_
    rintro e w1 ⟨g, cap, rfl, hg1, hg2, hcap, ht, hb⟩
    have hR : ResO w zeroOp w1 := (ResO.start w _).below hb
    have HR := Lib.hid hR
    have t0 := ht 0 x HX0.out
    clear hb ht hg1 hg2
    obtain ⟨⟨a0, a1, a2, a3, a4, a5, a6, a7⟩, fa, hlt, hbel⟩ := hR
    go_wp2_with fail
    have hO := HR.out.put zeroOp
    simp only [putOp, zeroOp] at hO
    exact bodyPost_ret (v := .tuple #[opV zeroOp, .int .i64 1]) (by simp [zeroOp, results, Tryz.results35, go_sem, hO.o.c0, hO.o.c1, hO.o.c2, hO.o.c3, hO.o.c4, hO.o.c5, hO.o.c6, hO.o.c7]) rfl ⟨by rw [H.out]; rfl, hO.bel⟩
  · have H := Lib.hid (opOfW_hex (unhex_odd _ hx3))
    have hne : ((xs.length : Int) == 8) = true := by rw [beq_iff_eq]; omega
    have hne2 : ((xs.length : Int) != 8) = false := by rw [bne_eq_false_iff_eq]; omega
    obtain ⟨x, hx0⟩ : ∃ x, xs[0]? = some x := ⟨_, List.getElem?_eq_getElem (by omega)⟩
    obtain ⟨x7, hx7⟩ : ∃ x, xs[7]? = some x := ⟨_, List.getElem?_eq_getElem (by omega)⟩
    have hk1 : (((S x).size : Int) == 1) = true := by rw [beq_iff_eq, S_size]; rw [wd_at hx0] at hx2; omega
    have hk2 : (((S x).size : Int) != 1) = false := by rw [bne_eq_false_iff_eq, S_size]; rw [wd_at hx0] at hx2; omega
    have hm : ((S x7).size : Int) % 2 = 1 := by rw [S_size]; rw [wd_at hx7] at hx3; omega
    have i1 : 0 < xs.length := by omega
    have i7 : (7 : Int) < (xs.length : Int) := by omega
    have HX0 := Lib.hid hx0
    have HX7 := Lib.hid hx7
    clear hx hx0 hx2 hx7 hx3 hx4
    go_enter Tryz.func35, Tryz.ntmps35
    go_wp2_with fail
    refine (HC.out _).mono ?_
    rintro e w1 ⟨g, cap, rfl, hg1, hg2, hcap, ht, hb⟩
    have hR : ResO w zeroOp w1 := (ResO.start w _).below hb
    have HR := Lib.hid hR
    have t0 := ht 0 x HX0.out
    have t7 := ht 7 x7 HX7.out
    clear hb ht hg1 hg2
    obtain ⟨⟨a0, a1, a2, a3, a4, a5, a6, a7⟩, fa, hlt, hbel⟩ := hR
    go_wp2_with fail
    have hO := HR.out.put zeroOp
    simp only [putOp, zeroOp] at hO
    exact bodyPost_ret (v := .tuple #[opV zeroOp, .int .i64 1]) (by simp [zeroOp, results, Tryz.results35, go_sem, hO.o.c0, hO.o.c1, hO.o.c2, hO.o.c3, hO.o.c4, hO.o.c5, hO.o.c6, hO.o.c7]) rfl ⟨by rw [H.out]; rfl, hO.bel⟩

/-- the end of OpOf where a word is none: what is known of the result's own cells -/
theorem opOf_eight (s : ByteArray) (xs : List (List UInt8)) (w : World) (hx : xs.length = 8) (hk : (wd xs 0).length = 1) (hev : (wd xs 7).length % 2 = 0) (hm : ∀ x ∈ xs, x.length ≤ 100000)
    (hcut : ∀ w, Calls Tryz.prog 52 #[.string s, .int .u8 124] w (GivesTexts xs w)) :
    Calls Tryz.prog 35 #[.string s] w (RfOp xs w) := by
  have HC := Lib.hid hcut
  have hne : ((xs.length : Int) == 8) = true := by rw [beq_iff_eq]; omega
  have hne2 : ((xs.length : Int) != 8) = false := by rw [bne_eq_false_iff_eq]; omega
  have HX := Lib.hid hx
  have HK := Lib.hid hk
  have HM := Lib.hid hm
  have HEv := Lib.hid hev
  obtain ⟨x, hx0⟩ : ∃ x, xs[0]? = some x := ⟨_, List.getElem?_eq_getElem (by omega)⟩
  obtain ⟨x6, hx6⟩ : ∃ x, xs[6]? = some x := ⟨_, List.getElem?_eq_getElem (by omega)⟩
  obtain ⟨x7, hx7⟩ : ∃ x, xs[7]? = some x := ⟨_, List.getElem?_eq_getElem (by omega)⟩
  obtain ⟨c, hc⟩ : ∃ c, x = [c] := by
    have h1 := hk
    rw [wd_at hx0] at h1
    match x, h1 with
    | [c], _ => exact ⟨c, rfl⟩
  subst hc
  have hk1 : (((S [c]).size : Int) == 1) = true := by rw [beq_iff_eq, S_size]; rfl
  have hk2 : (((S [c]).size : Int) != 1) = false := by rw [bne_eq_false_iff_eq, S_size]; rfl
  have hm7 : ((S x7).size : Int) % 2 = 0 := by rw [S_size]; rw [wd_at hx7] at hev; omega
  have i1 : 0 < xs.length := by omega
  have i7 : (7 : Int) < (xs.length : Int) := by omega
  have HX0 := Lib.hid hx0
  have HX6 := Lib.hid hx6
  have HX7 := Lib.hid hx7
  clear hx hx0 hx6 hx7 hk hev hm hcut
  go_enter Tryz.func35, Tryz.ntmps35
  go_wp2_with fail
  refine (HC.out _).mono ?_
  rintro e w1 ⟨g, cap, rfl, hg1, hg2, hcap, ht, hb⟩
  have hR : ResO w zeroOp w1 := (ResO.start w _).below hb
  have HR := Lib.hid hR
  have HT := Lib.hid ht
  have HG := Lib.hid hg2
  have t0 := ht 0 _ HX0.out
  have t7 := ht 7 x7 HX7.out
  clear hb ht hg1 hg2 hR
  go_wp2_with fail
  clear hne hne2 hk1 hk2 hm7 HC t0 t7
  go_loopw [5, 6] (fun v5 v6 wr => ∃ i : Nat, v6 = .int .i64 i ∧ 1 ≤ i ∧ i ≤ 6 ∧ ISt w1 v5 (nsL xs i) wr ∧ ∀ t, 1 ≤ t → t < i → 0 ≤ Num.numOf (wd xs t) 10) (fun _ v6 _ => 6 - (intOf v6).toNat)
  case atStart => exact ⟨1, rfl, by omega, by omega, ISt.start _, fun t h1 h2 => by omega⟩
  case round =>
    obtain ⟨i, rfl, hi1, hi, hI, hall⟩ := hrel
    have HA := Lib.hid hall
    have HI := Lib.hid hI
    clear hall hI
    by_cases hlt : i < 6
    · obtain ⟨y, hy⟩ : ∃ y, xs[i]? = some y := ⟨_, List.getElem?_eq_getElem (by have := HX.out; omega)⟩
      have tx := (HT.out.below HG.out HI.out.bel) i y hy
      have hwy := wd_at hy
      have hsy : (S y).size ≤ 100000 := by rw [S_size]; exact HM.out y (List.mem_of_getElem? hy)
      have HWY := Lib.hid hwy
      have j0 : (0 : Int) ≤ (i : Int) := by omega
      have j1 : (i : Int) < (xs.length : Int) := by have := HX.out; omega
      have j2 : (i : Int) < 6 := by omega
      have HLT := Lib.hid hlt
      have hnum := fun w => numberOf_any (S y) 10 w hsy (by omega)
      rw [S_list] at hnum
      have HNum := Lib.hid hnum
      have hn18 : Num.numOf y 10 ≤ 9223372036854775807 := by
        unfold Num.numOf
        split
        · omega
        · next hnn =>
          split
          · next hd =>
            have h1 := Num.digVal_lt y 0 hd
            have h3 : 10 ^ y.length ≤ 10 ^ 10 := Nat.pow_le_pow_right (by omega) (by omega)
            omega
          · omega
      clear hy hwy hlt hnum
      by_cases hbad : Num.numOf y 10 < 0
      · have H := Lib.hid (opOfW_numb hi1 HLT.out (by rw [HWY.out]; exact hbad))
        generalize Num.numOf y 10 = k at HNum hbad hn18
        go_wp2_with fail
        refine (HNum.out _).mono ?_
        rintro e w2 ⟨rfl, rfl⟩
        have hR := HR.out.below HI.out.bel
        have HR2 := Lib.hid hR
        obtain ⟨⟨a0, a1, a2, a3, a4, a5, a6, a7⟩, fa, hlt, hbel⟩ := hR
        clear tx
        go_wp2_with fail
        have hO := HR2.out.put zeroOp
        simp only [putOp, zeroOp] at hO
        exact bodyPost_ret (v := .tuple #[opV zeroOp, .int .i64 1]) (by simp [zeroOp, results, Tryz.results35, go_sem, hO.o.c0, hO.o.c1, hO.o.c2, hO.o.c3, hO.o.c4, hO.o.c5, hO.o.c6, hO.o.c7]) rfl ⟨by rw [H.out]; rfl, hO.bel⟩
      · have hge : ¬ Num.numOf y 10 < 0 := hbad
        have HS := Lib.hid (nsL_succ xs i hi1)
        have HGE := Lib.hid hge
        have hsz := HI.out.bel.size
        have hln := nsL_len xs i
        have HLn := Lib.hid hln
        obtain ⟨k, hk⟩ : ∃ k, k = Num.numOf y 10 := ⟨_, rfl⟩
        rw [← hk] at HNum hge
        have HKY := Lib.hid hk
        clear hk hbad hn18 hln
        obtain ⟨i0', hi0, hz0, hz1, hz2⟩ := info_parts infoInt
        go_wp2_with fail
        refine (HNum.out _).mono ?_
        rintro e w2 ⟨rfl, rfl⟩
        go_wp2_with (at_builtin; refine wpList_append_own _ rfl _ _ 61 rfl w1.heap.size 3 i0' (.int .i64 0) 1 8 Tryz.underlying61 hi0 hz0 hz1 hz2 rfl (by decide) _ _ _ rfl (HI.out.own.alloc _) ⟨w2.heap.size, 0, none⟩ 1 1 [.int .i64 k] rfl rfl ?a1 ?a2 ?a3 ?a4 ?a5 ?_)
        case a1 => intro jj u hjj; match jj, hjj with | 0, hjj => simp at hjj; subst hjj; simp [Addr.add]
        case a2 => intro u hu; simp at hu; subst hu; rfl
        case a3 => have := HLn.out; unfold maxLen; omega
        case a4 => have := HLn.out; omega
        case a5 => simp; omega
        intro v' wF hown' hgrow _
        have hI2 := HI.out.app hown' hgrow
        have hI3 : ISt w1 v' (nsL xs (i + 1)) wF := by rw [HS.out, HWY.out, ← HKY.out]; exact hI2
        have HI3 := Lib.hid hI3
        clear hown' hgrow hI2 hI3 hi0 hz0 hz1 hz2
        go_wp2_with fail
        go_roundw
        case rel => exact ⟨i + 1, by go_num, by omega, by have := HLT.out; omega, HI3.out, fun t h1 h2 => by
          by_cases e : t = i
          · subst e; rw [HWY.out, ← HKY.out]; omega
          · exact HA.out t h1 (by omega)⟩
        case measure => simp [intOf]; omega
    · have hi6 : i = 6 := by omega
      subst hi6
      obtain ⟨gn, cn, hv5, hgn1, hgn2, hcn, hcell⟩ := HI.out.at (by rw [nsL_len]; omega)
      rw [nsL_len, show 6 - 1 = 5 from rfl] at hv5 hcn
      subst hv5
      rw [show ((6 : Nat) : Int) = 6 from rfl]
      have HCell := Lib.hid hcell
      have hbr := HI.out.bel
      have t7 := (HT.out.below HG.out hbr) 7 x7 HX7.out
      have HBr := Lib.hid hbr
      clear hcell hbr hlt HI
      have hsx7 : (S x7).size ≤ 100000 := by rw [S_size]; exact HM.out x7 (List.mem_of_getElem? HX7.out)
      obtain ⟨n7, hn7⟩ : ∃ n, (S x7).size = n := ⟨_, rfl⟩
      have HN7 := Lib.hid hn7
      have hs7' : n7 ≤ 100000 := by omega
      have HEv7 : Hid (n7 % 2 = 0) := Lib.hid (by have := HEv.out; rw [wd_at HX7.out] at this; rw [← hn7, S_size]; exact this)
      clear hn7 hsx7
      have j5 : (5 : Int) < 6 := by omega
      go_wp2_with fail
      go_loopw [8, 9] (fun v8 v9 wq => ∃ (i : Nat) (done : List UInt8), v9 = .int .i64 i ∧ i ≤ n7 ∧ UnIs x7 done i ∧ v8 = .string (S done) ∧ Below wr.heap.size wr wq) (fun _ v9 _ => n7 - (intOf v9).toNat)
      case atStart => exact ⟨0, [], rfl, by omega, UnIs.start _, rfl, Below.refl _ _⟩
      case round =>
        obtain ⟨i, done, rfl, hi, hU, rfl, hB⟩ := hrel
        have HB := Lib.hid hB
        have HU := Lib.hid hU
        clear hB hU t7
        have t7 := (HT.out.below HG.out (HBr.out.trans (HB.out.mono HBr.out.size))) 7 x7 HX7.out
        by_cases hlt : i < n7
        · have hlt1 : i + 1 < (S x7).size := by have := HN7.out; have := HEv7.out; have := HU.out.len; omega
          have hlt0 : i < (S x7).size := by omega
          have hc1 : (i : Int) + 1 < ((S x7).size : Int) := by omega
          have hc0 : (0 : Int) ≤ (i : Int) + 1 := by omega
          have ha := byte_at (S x7) i hlt0
          have hb := byte_at (S x7) (i + 1) hlt1
          rw [S_list] at ha hb
          have HA1 := Lib.hid (fun w => hexDigit_any (S x7)[i] w)
          have HD1 := Lib.hid (fun w => hexDigit_any (S x7)[i+1] w)
          have HXb := Lib.hid (HU.out.bad ha hb)
          have HY := Lib.hid (HU.out.step ha hb)
          have ra := unD_range (S x7)[i]
          have rb := unD_range (S x7)[i+1]
          have hdl := HU.out.len
          clear ha hb
          generalize unD (S x7)[i] = a at HA1 HXb HY ra
          generalize unD (S x7)[i+1] = b at HD1 HXb HY rb
          by_cases hx : a < 0 ∨ b < 0
          · have H := Lib.hid (opOfW_hex (show unhexL (wd xs 7) = none by rw [wd_at HX7.out]; exact HXb.out hx))
            have hcc : a < 0 ∨ (¬ a < 0 ∧ b < 0) := by omega
            clear hx
            rcases hcc with hcc | ⟨hcc, hcc'⟩
            all_goals
              go_wp2_with fail
              refine (HA1.out _).mono ?_
              rintro e w2 ⟨rfl, rfl⟩
              go_wp2_with fail
              refine (HD1.out _).mono ?_
              rintro e w3 ⟨rfl, rfl⟩
              have hR := HR.out.below (HBr.out.trans (HB.out.mono HBr.out.size))
              have HR2 := Lib.hid hR
              obtain ⟨⟨a0, a1, a2, a3, a4, a5, a6, a7⟩, fa, hlt, hbel⟩ := hR
              clear t7
              go_wp2_with fail
              have hO := HR2.out.put zeroOp
              simp only [putOp, zeroOp] at hO
              exact bodyPost_ret (v := .tuple #[opV zeroOp, .int .i64 1]) (by simp [zeroOp, results, Tryz.results35, go_sem, hO.o.c0, hO.o.c1, hO.o.c2, hO.o.c3, hO.o.c4, hO.o.c5, hO.o.c6, hO.o.c7]) rfl ⟨by rw [H.out]; rfl, hO.bel⟩
          · have hx1 : ¬ a < 0 := by omega
            have hx2 : ¬ b < 0 := by omega
            have hx3 : 0 ≤ a := by omega
            have hx4 : 0 ≤ b := by omega
            have hx5 : 0 ≤ 16 * a + b := by omega
            have hx6 : 16 * a + b < 256 := by omega
            have hS := HY.out hx
            have hds : (S done).size ≤ 100000 := by rw [S_size]; omega
            rw [show UInt8.ofNat (16 * a.toNat + b.toNat) = UInt8.ofNat (16 * a + b).toNat by congr 1; omega] at hS
            have HS := Lib.hid hS
            have h1s : (S [UInt8.ofNat (16 * a + b).toNat]).size ≤ 1 := Nat.le_refl _
            have HBy := Lib.hid (fun w => byte_any (16 * a + b) w ⟨hx5, hx6⟩)
            clear hx hS HY HXb hdl
            go_wp2_with fail
            refine (HA1.out _).mono ?_
            rintro e w2 ⟨rfl, rfl⟩
            go_wp2_with fail
            refine (HD1.out _).mono ?_
            rintro e w3 ⟨rfl, rfl⟩
            go_wp2_with fail
            refine (HBy.out _).mono ?_
            rintro e w4 ⟨rfl, hb4⟩
            have HB2 := Lib.hid (HB.out.trans (hb4.mono HB.out.size))
            clear hb4 t7
            go_wp2_with fail
            go_roundw
            case rel => exact ⟨i + 2, _, by go_num, by have := HN7.out; omega, HS.out, by rw [S_app], HB2.out⟩
            case measure => simp [intOf]; omega
        · have hge : ¬ i < (S x7).size := by have := HN7.out; omega
          have hun := HU.out.done (by have := HN7.out; rw [S_size] at this; omega)
          have hval : opOfW xs = some ⟨Num.numOf (wd xs 1) 10, Num.numOf (wd xs 2) 10, Num.numOf (wd xs 3) 10, c.toNat, Num.numOf (wd xs 4) 10, Num.numOf (wd xs 5) 10, S x6, S done⟩ := by
            unfold opOfW
            have hn : numsOk xs = true := (numsOk_iff xs).2 fun j hj => HA.out (j + 1) (by omega) (by omega)
            rw [if_pos ⟨HX.out, HK.out, hn⟩, wd_at HX7.out, hun, wd_at HX0.out, wd_at HX6.out]
            rfl
          have hb : ∀ t, 1 ≤ t → t < 6 → 0 ≤ Num.numOf (wd xs t) 10 ∧ Num.numOf (wd xs t) 10 ≤ 9223372036854775807 := fun t h1 h2 => by
            have h3 := HA.out t h1 h2
            have h4 := (Num.numOf_spec (wd xs t) 10 (by omega) _).2 ⟨rfl, h3⟩
            have := atoi_range _ _ h4.1
            omega
          have q0 := (HB.out.cell hgn2).trans (HCell.out 0 _ (nsL_at xs 0 (by omega)))
          have q1 := (HB.out.cell hgn2).trans (HCell.out 1 _ (nsL_at xs 1 (by omega)))
          have q2 := (HB.out.cell hgn2).trans (HCell.out 2 _ (nsL_at xs 2 (by omega)))
          have q3 := (HB.out.cell hgn2).trans (HCell.out 3 _ (nsL_at xs 3 (by omega)))
          have q4 := (HB.out.cell hgn2).trans (HCell.out 4 _ (nsL_at xs 4 (by omega)))
          have b1 := hb 1 (by omega) (by omega)
          have b2 := hb 2 (by omega) (by omega)
          have b3 := hb 3 (by omega) (by omega)
          have b4 := hb 4 (by omega) (by omega)
          have b5 := hb 5 (by omega) (by omega)
          simp only [Nat.zero_add] at q0 q1 q2 q3 q4
          generalize Num.numOf (wd xs 1) 10 = f0 at hval b1 q0
          generalize Num.numOf (wd xs (1 + 1)) 10 = f1 at hval b2 q1
          generalize Num.numOf (wd xs (2 + 1)) 10 = f2 at hval b3 q2
          generalize Num.numOf (wd xs (3 + 1)) 10 = f3 at hval b4 q3
          generalize Num.numOf (wd xs (4 + 1)) 10 = f4 at hval b5 q4
          have hwf : OpT.Wf ⟨f0, f1, f2, c.toNat, f3, f4, S x6, S done⟩ := by
            have hcb := c.toNat_lt
            have hdl := HU.out.len
            refine ⟨?_, ?_, ?_, ?_, ?_, ?_, ?_, ?_, ?_, ?_, ?_, ?_, ?_, ?_⟩
            · show _ ≤ f0; omega
            · show f0 ≤ _; omega
            · show _ ≤ f1; omega
            · show f1 ≤ _; omega
            · show _ ≤ f2; omega
            · show f2 ≤ _; omega
            · show (0 : Int) ≤ (c.toNat : Int); omega
            · show (c.toNat : Int) ≤ 255; omega
            · show _ ≤ f3; omega
            · show f3 ≤ _; omega
            · show _ ≤ f4; omega
            · show f4 ≤ _; omega
            · rw [S_size]; exact HM.out x6 (List.mem_of_getElem? HX6.out)
            · rw [S_size]; omega
          have HVal := Lib.hid hval
          have HWf := Lib.hid hwf
          have hbq := HBr.out.trans (HB.out.mono HBr.out.size)
          have HS2 := Lib.hid (HR.out.below hbq)
          have t0 := (HT.out.below HG.out hbq) 0 _ HX0.out
          have t6 := (HT.out.below HG.out hbq) 6 x6 HX6.out
          have hs0 : 0 < (S [c]).size := by rw [S_size]; exact Nat.one_pos
          have hs1 : (0 : Int) < ((S [c]).size : Int) := by rw [S_size]; exact Int.one_pos
          have j0 : (0 : Int) < (xs.length : Int) := by have := HX.out; omega
          have j6 : (6 : Int) < (xs.length : Int) := by have := HX.out; omega
          clear hval hwf hb b1 b2 b3 b4 b5 hun hbq hlt
          go_wp2_with fail
          clear hge t7
          go_region_held3 (fun w' => w'.cell? ⟨gn, 0, none⟩ = some (.int .i64 f0) ∧ w'.cell? ⟨gn, 1, none⟩ = some (.int .i64 f1) ∧ w'.cell? ⟨gn, 2, none⟩ = some (.int .i64 f2) ∧ w'.cell? ⟨gn, 3, none⟩ = some (.int .i64 f3) ∧ w'.cell? ⟨gn, 4, none⟩ = some (.int .i64 f4) ∧ w'.cell? ⟨g, 0, none⟩ = some (.string (S [c])) ∧ w'.cell? ⟨g, 6, none⟩ = some (.string (S x6))) (first | go_keep) (fail)
          all_goals
            rename_i hH
            clear hH
            rw [show (S [c])[0]'hs0 = c from rfl]
            obtain ⟨W3, hW3⟩ : ∃ W3, W3 = (wr.alloc (.cells #[.int .i64 f0, .int .i64 f1, .int .i64 f2, .int .u8 c.toNat, .int .i64 f3, .int .i64 f4, .string (S x6), .string (S done)] 38)).drew := ⟨_, rfl⟩
            have hb3 : Below wr.heap.size wr W3 := by rw [hW3]; exact ((Below.refl _ _).alloc (Nat.le_refl _) _).drew
            have hO3 : OpAt W3 wr.heap.size ⟨f0, f1, f2, c.toNat, f3, f4, S x6, S done⟩ := by
              rw [hW3]
              exact (OpAt.start wr ⟨f0, f1, f2, c.toNat, f3, f4, S x6, S done⟩ _).below ((Below.refl _ _).drew)
            rw [← hW3]
            have hS3 := HS2.out.below hb3
            have HR3 := Lib.hid hS3
            have HO3 := Lib.hid hO3
            have hrl2 := hO3.lt
            have hrl3 := HS2.out.lt
            have hne3 : w.heap.size ≠ wr.heap.size := by omega
            obtain ⟨OB, hOB⟩ : ∃ OB, OB = wr.heap.size := ⟨_, rfl⟩
            rw [← hOB] at HO3 hO3 hne3 hrl2 ⊢
            have hne4 := Ne.symm hne3
            have hck := fun w => opError_any ⟨f0, f1, f2, c.toNat, f3, f4, S x6, S done⟩ w HWf.out
            obtain ⟨k, hk⟩ : ∃ k, k = opErr ⟨f0, f1, f2, c.toNat, f3, f4, S x6, S done⟩ := ⟨_, rfl⟩
            rw [← hk] at hck
            have HKe := Lib.hid hk
            clear hk
            by_cases he : k = 0
            · have H := Lib.hid (show opRdW xs = (⟨f0, f1, f2, c.toNat, f3, f4, S x6, S done⟩, 0) by
                unfold opRdW
                rw [HVal.out]
                simp [← HKe.out, he])
              subst he
              have HCk : Hid (∀ w, Calls Tryz.prog 34 #[.agg #[.int .i64 f0, .int .i64 f1, .int .i64 f2, .int .u8 c.toNat, .int .i64 f3, .int .i64 f4, .string (S x6), .string (S done)]] w fun e w' => e = .returned (.int .i64 0) ∧ Below w.heap.size w w') := hck
              clear hck HVal hW3 hb3 hOB hS3 t0 t6 q0 q1 q2 q3 q4 j0 j6 hs0 hs1 HS2
              obtain ⟨c0, c1, c2, c3, c4, c5, c6, c7⟩ := hO3
              go_wp2_with fail
              refine (HCk.out _).mono ?_
              rintro e W4 ⟨rfl, hb4⟩
              have hO4 := HO3.out.below hb4
              have hR4 := HR3.out.below hb4
              have HR4 := Lib.hid hR4
              clear c0 c1 c2 c3 c4 c5 c6 c7 hb4
              obtain ⟨c0, c1, c2, c3, c4, c5, c6, c7⟩ := hO4
              obtain ⟨⟨a0, a1, a2, a3, a4, a5, a6, a7⟩, fa, hl4, hbel4⟩ := hR4
              go_wp2_with fail
              have hO := HR4.out.put ⟨f0, f1, f2, c.toNat, f3, f4, S x6, S done⟩
              simp only [putOp] at hO
              exact bodyPost_ret (v := .tuple #[opV ⟨f0, f1, f2, c.toNat, f3, f4, S x6, S done⟩, .int .i64 0]) (by simp [results, Tryz.results35, go_sem, hO.o.c0, hO.o.c1, hO.o.c2, hO.o.c3, hO.o.c4, hO.o.c5, hO.o.c6, hO.o.c7]) rfl ⟨by rw [H.out]; rfl, hO.bel⟩
            · have H := Lib.hid (show opRdW xs = (zeroOp, k) by
                unfold opRdW
                rw [HVal.out]
                simp [← HKe.out, he])
              have HCk : Hid (∀ w, Calls Tryz.prog 34 #[.agg #[.int .i64 f0, .int .i64 f1, .int .i64 f2, .int .u8 c.toNat, .int .i64 f3, .int .i64 f4, .string (S x6), .string (S done)]] w fun e w' => e = .returned (.int .i64 k) ∧ Below w.heap.size w w') := hck
              have hkp : 0 < k := by omega
              clear hck he HVal hW3 hb3 hOB hS3 t0 t6 q0 q1 q2 q3 q4 j0 j6 hs0 hs1 HS2
              obtain ⟨c0, c1, c2, c3, c4, c5, c6, c7⟩ := hO3
              go_wp2_with fail
              refine (HCk.out _).mono ?_
              rintro e W4 ⟨rfl, hb4⟩
              have hR4 := HR3.out.below hb4
              have HR4 := Lib.hid hR4
              clear c0 c1 c2 c3 c4 c5 c6 c7 hb4
              obtain ⟨⟨a0, a1, a2, a3, a4, a5, a6, a7⟩, fa, hl4, hbel4⟩ := hR4
              go_wp2_with fail
              have hO := HR4.out.put zeroOp
              simp only [putOp, zeroOp] at hO
              exact bodyPost_ret (v := .tuple #[opV zeroOp, .int .i64 k]) (by simp [zeroOp, results, Tryz.results35, go_sem, hO.o.c0, hO.o.c1, hO.o.c2, hO.o.c3, hO.o.c4, hO.o.c5, hO.o.c6, hO.o.c7]) rfl ⟨by rw [H.out], hO.bel⟩

theorem opOf_any (s : ByteArray) (w : World) (hs : s.size ≤ 100000) :
    Calls Tryz.prog 35 #[.string s] w (RfOp (Num.cutL 124 s.data.toList) w) := by
  have hcut : ∀ w, Calls Tryz.prog 52 #[.string s, .int .u8 124] w (GivesTexts (Num.cutL 124 s.data.toList) w) := fun w => cut_any 124 124 s w rfl hs
  have hl := cutL_len 124 s.data.toList
  have hm := cutL_mem 124 s.data.toList
  have hsz : s.data.toList.length = s.size := rfl
  by_cases h8 : (Num.cutL 124 s.data.toList).length = 8
  · obtain ⟨x7, hx7⟩ : ∃ x, (Num.cutL 124 s.data.toList)[7]? = some x := ⟨_, List.getElem?_eq_getElem (by omega)⟩
    have h7 := hm x7 (List.mem_of_getElem? hx7)
    rw [← wd_at hx7] at h7
    by_cases hk : (wd (Num.cutL 124 s.data.toList) 0).length = 1
    · by_cases hev : (wd (Num.cutL 124 s.data.toList) 7).length % 2 = 0
      · exact opOf_eight s _ w h8 hk hev (fun x hx => by have := hm x hx; omega) hcut
      · exact opOf_short s _ w (by omega) (.inr ⟨h8, .inr ⟨hk, by omega, by omega⟩⟩) hcut
    · exact opOf_short s _ w (by omega) (.inr ⟨h8, .inl hk⟩) hcut
  · exact opOf_short s _ w (by omega) (.inl h8) hcut

end Go.Proofs.YtbncfpljiihmnaaGreatDoor
