/- The document's Cut: a text cut by one byte. -/
import Derived.Test.YtbncfpljiihmnaaGreatDoorTexts
namespace Go.Proofs.YtbncfpljiihmnaaGreatDoor
open Go Go.RowKit
set_option linter.unusedVariables false
set_option linter.unusedSimpArgs false
set_option maxHeartbeats 4000000
set_option maxRecDepth 100000

open Num in
/-- where the document's Cut stands -/
structure CutIs (b : UInt8) (s : List UInt8) (done : List (List UInt8)) (fr i : Nat) : Prop where
  le : fr ≤ i
  lt : i ≤ s.length
  eq : done ++ cutL b (s.drop fr) = cutL b s
  no : ∀ c ∈ (s.drop fr).take (i - fr), c ≠ b
open Num in
theorem CutIs.start (b : UInt8) (s : List UInt8) : CutIs b s [] 0 0 := ⟨by omega, by omega, by simp, by simp⟩
open Num in
theorem CutIs.step {b : UInt8} {s : List UInt8} {done : List (List UInt8)} {fr i : Nat} (h : CutIs b s done fr i) {c : UInt8} (hc : s[i]? = some c) (hne : c ≠ b) : CutIs b s done fr (i + 1) := by
  have hlt : i < s.length := (List.getElem?_eq_some_iff.1 hc).1
  refine ⟨by have := h.le; omega, hlt, h.eq, ?_⟩
  intro d hd
  have hle := h.le
  rw [show i + 1 - fr = (i - fr) + 1 by omega, List.take_add_one, List.getElem?_drop, show fr + (i - fr) = i by omega, hc] at hd
  rcases List.mem_append.1 hd with hd | hd
  · exact h.no d hd
  · simp at hd; subst hd; exact hne
open Num in
theorem CutIs.hit {b : UInt8} {s : List UInt8} {done : List (List UInt8)} {fr i : Nat} (h : CutIs b s done fr i) (hc : s[i]? = some b) : CutIs b s (done ++ [(s.drop fr).take (i - fr)]) (i + 1) (i + 1) := by
  have hlt : i < s.length := (List.getElem?_eq_some_iff.1 hc).1
  have hle := h.le
  refine ⟨Nat.le_refl _, hlt, ?_, by simp⟩
  have e : s.drop fr = (s.drop fr).take (i - fr) ++ b :: s.drop (i + 1) := by
    have h1 : s.drop i = b :: s.drop (i + 1) := by
      rw [List.drop_eq_getElem_cons hlt]
      congr 1
      exact (List.getElem?_eq_some_iff.1 hc).2
    have h2 : (s.drop fr).drop (i - fr) = b :: s.drop (i + 1) := by rw [List.drop_drop, show fr + (i - fr) = i by omega, h1]
    rw [← h2, List.take_append_drop]
  have := cutL_hit b _ (s.drop (i + 1)) h.no
  rw [← e] at this
  rw [← h.eq, this]
  simp
open Num in
theorem CutIs.done {b : UInt8} {s : List UInt8} {done : List (List UInt8)} {fr : Nat} (h : CutIs b s done fr s.length) : done ++ [s.drop fr] = cutL b s := by
  have hle := h.le
  rw [← h.eq, cutL_none]
  intro c hc
  refine h.no c ?_
  rwa [List.take_of_length_le (by simp)]
open Num in
theorem CutIs.len {b : UInt8} {s : List UInt8} {done : List (List UInt8)} {fr i : Nat} (h : CutIs b s done fr i) (hd : done.length ≤ i) : True := trivial

open Num in
theorem cut_any (b : UInt8) (bn : Int) (s : ByteArray) (w : World) (hbn : bn = (b.toNat : Int)) (hs : s.size ≤ 100000) :
    Calls Tryz.prog 52 #[.string s, .int .u8 bn] w (GivesTexts (cutL b s.data.toList) w) := by
  obtain ⟨n, hn⟩ : ∃ n, s.size = n := ⟨_, rfl⟩
  have hl : s.data.toList.length = n := by rw [← hn]; rfl
  have HN := Lib.hid hn
  have HL := Lib.hid hl
  have HB := Lib.hid hbn
  have hs' : n ≤ 100000 := by omega
  clear hn hl hbn hs
  go_enter Tryz.func52, Tryz.ntmps52
  go_wp2_with fail
  go_loopw [5, 6, 7] (fun v5 v6 v7 wr => ∃ (i fr : Nat) (done : List (List UInt8)), v7 = .int .i64 i ∧ v6 = .int .i64 fr ∧ i ≤ n ∧ fr ≤ i ∧ done.length ≤ i ∧ CutIs b s.data.toList done fr i ∧ RSt w v5 done wr) (fun _ _ v7 _ => n - (intOf v7).toNat)
  case atStart => exact ⟨0, 0, [], rfl, rfl, by omega, by omega, by simp, CutIs.start _ _, RSt.start _⟩
  case round =>
    obtain ⟨i, fr, done, rfl, rfl, hi, hfr, hdl, hC, hR⟩ := hrel
    have HC := Lib.hid hC
    have HR := Lib.hid hR
    clear hC hR
    by_cases hlt : i < n
    · have hlt2 : i < s.size := by have := HN.out; omega
      by_cases hc : s[i] = b
      · have hce : ((s[i].toNat : Int) == bn) = true := by rw [HB.out, hc]; simp
        have h1 : s.data.toList[i]? = some b := by
          rw [Array.getElem?_toList, ← hc]
          exact Array.getElem?_eq_getElem hlt2
        have HS := Lib.hid (HC.out.hit h1)
        have hsz := HR.out.bel.size
        clear h1 hc
        obtain ⟨i0', hi, hz0, hz1, hz2⟩ := info_parts infoStr
        go_wp2_with (at_builtin; refine wpList_append_own _ rfl _ _ 75 rfl w.heap.size 9 i0' (.string ⟨#[]⟩) 1 16 Tryz.underlying75 hi hz0 hz1 hz2 rfl (by decide) _ _ _ rfl (HR.out.own.alloc _) ⟨wr.heap.size, 0, none⟩ 1 1 [.string (s.extract fr i)] rfl rfl ?a1 ?a2 ?a3 ?a4 ?a5 ?_)
        case a1 => intro jj u hjj; match jj, hjj with | 0, hjj => simp at hjj; subst hjj; simp [Addr.add]
        case a2 => intro u hu; simp at hu; subst hu; rfl
        case a3 => unfold maxLen; omega
        case a4 => omega
        case a5 => simp; omega
        intro v' wF hown' hgrow _
        rw [extract_S s fr i (by omega)] at hown'
        have hR2 := HR.out.app hown' hgrow
        clear hown' hgrow hi hz0 hz1 hz2 hsz
        go_wp2_with fail
        go_roundw
        case rel => exact ⟨i + 1, i + 1, _, by go_num, by go_num, by omega, by omega, by simp; omega, HS.out, hR2⟩
        case measure => simp [intOf]; omega
      · have hce : ((s[i].toNat : Int) == bn) = false := by
          rw [HB.out, beq_eq_false_iff_ne]
          intro e
          exact hc (UInt8.toNat_inj.1 (by omega))
        have h1 : s.data.toList[i]? = some s[i] := by
          rw [Array.getElem?_toList]
          exact Array.getElem?_eq_getElem hlt2
        have HS := Lib.hid (HC.out.step h1 hc)
        clear hc h1
        go_wp2_with fail
        go_roundw
        case rel => exact ⟨i + 1, fr, done, by go_num, rfl, by omega, by omega, by omega, HS.out, HR.out⟩
        case measure => simp [intOf]; omega
    · have hie : i = n := by omega
      have HI := Lib.hid hie
      clear hie
      have hsz := HR.out.bel.size
      have hnn : n = s.size := HN.out.symm
      have hfs : fr ≤ s.size := by omega
      have hge : ¬ i < s.size := by omega
      clear hnn
      obtain ⟨i0', hi, hz0, hz1, hz2⟩ := info_parts infoStr
      go_wp2_with (at_builtin; refine wpList_append_own _ rfl _ _ 75 rfl w.heap.size 9 i0' (.string ⟨#[]⟩) 1 16 Tryz.underlying75 hi hz0 hz1 hz2 rfl (by decide) _ _ _ rfl (HR.out.own.alloc _) ⟨wr.heap.size, 0, none⟩ 1 1 [.string (s.extract fr s.size)] rfl rfl ?b1 ?b2 ?b3 ?b4 ?b5 ?_)
      case b1 => intro jj u hjj; match jj, hjj with | 0, hjj => simp at hjj; subst hjj; simp [Addr.add]
      case b2 => intro u hu; simp at hu; subst hu; rfl
      case b3 => unfold maxLen; omega
      case b4 => omega
      case b5 => simp; omega
      intro v' wF hown' hgrow _
      rw [extract_S s fr s.size (by omega), List.take_of_length_le (by rw [List.length_drop, HL.out]; have := HN.out; omega)] at hown'
      have hR2 := HR.out.app hown' hgrow
      have hC2 := HC.out
      rw [HI.out, ← HL.out] at hC2
      rw [hC2.done] at hR2
      have HR2 := Lib.hid hR2
      clear hown' hgrow hi hz0 hz1 hz2 hsz hR2 hC2
      go_wp2_with fail
      go_ret
      exact HR2.out.gives (List.length_pos_iff.2 (cutL_ne _ _))
end Go.Proofs.YtbncfpljiihmnaaGreatDoor
