/- JournalCuts: the plain law: what is on the disk, wherever the power is cut. -/
import Derived.Test.YtbncfpljiihmnaaGreatDoorJTwiceW
namespace Go.Proofs.YtbncfpljiihmnaaGreatDoor
open Go Go.RowKit
set_option linter.unusedVariables false
set_option linter.unusedSimpArgs false
set_option maxHeartbeats 4000000
set_option maxRecDepth 100000

theorem rec_short {o : OpT} (h : GoodO o) (hs : longOp o = false) : (recO o).length ≤ 320 := by
  have hN := op_nums h
  have l : ∀ n : Int, 0 ≤ n → n < 10000000000 → (Lib.itoa n).length ≤ 21 := fun n h1 h2 => by
    have := itoa_len20 n (by omega) (by omega)
    rwa [S_size] at this
  have l0 := l o.t (hN 0).1 (hN 0).2
  have l1 := l o.b (hN 1).1 (hN 1).2
  have l2 := l o.n (hN 2).1 (hN 2).2
  have l3 := l o.nd (hN 3).1 (hN 3).2
  have l4 := l o.ot (hN 4).1 (hN 4).2
  simp only [longOp, Bool.or_eq_false_iff, decide_eq_false_iff_not] at hs
  have l5 : o.nm.data.toList.length = o.nm.size := rfl
  have l6 : o.vl.data.toList.length = o.vl.size := rfl
  have l7 := hexL_len o.vl.data.toList
  rw [recO, recL_len]
  simp only [opTextL, opWords, Lib.join, List.intercalate, List.intersperse, List.flatten, List.length_append, List.length_cons, List.length_nil]
  simp
  omega

/-- what is on the disk, and what was appended with no error -/
structure CutIs (b : List UInt8) (off : Bool) (cut : Int) (done : List OpT) (i : Nat) : Prop where
  good : ∀ o ∈ done, GoodO o
  sp : ∃ part, b = Jrn.cat recO done ++ part ∧ (∀ c ∈ part, c ≠ 10) ∧ (off = false → part = [] ∧ ∃ c : Nat, cut = (c : Int))
  len : b.length ≤ 320 * i
  dl : done.length ≤ i
theorem CutIs.start (cut : Nat) : CutIs [] false cut [] 0 := ⟨by simp, ⟨[], rfl, by simp, fun _ => ⟨rfl, cut, rfl⟩⟩, by simp, by simp⟩
theorem CutIs.step {b : List UInt8} {off : Bool} {cut : Int} {done : List OpT} {i : Nat} {o : OpT} (h : CutIs b off cut done i) (hi : i < 100) (ho : longOp o = false) :
    CutIs (apD b off cut o).1 (apD b off cut o).2.1 (apD b off cut o).2.2.1 (if (apD b off cut o).2.2.2 = 0 then done ++ [o] else done) (i + 1) := by
  have hl := h.len
  have hd := h.dl
  by_cases he : opErr o = 0
  · have hr := rec_short he ho
    have hfit : b.length + (recO o).length ≤ 65536 := by omega
    obtain ⟨part, hb, hp, hoff⟩ := h.sp
    cases off with
    | true =>
      rw [apD_off he hfit, if_neg (by simp)]
      exact ⟨h.good, ⟨part, hb, hp, fun h => by cases h⟩, by simp; omega, by omega⟩
    | false =>
      obtain ⟨rfl, c, rfl⟩ := hoff rfl
      rw [List.append_nil] at hb
      by_cases hc : (recO o).length ≤ c
      · rw [apD_in he hfit hc, if_pos rfl]
        refine ⟨fun x hx => ?_, ⟨[], by rw [hb, cat_snoc, List.append_nil], by simp, fun _ => ⟨rfl, _, rfl⟩⟩, by simp; omega, by simp; omega⟩
        rcases List.mem_append.1 hx with hx | hx
        · exact h.good x hx
        · rw [List.mem_singleton.1 hx]; exact he
      · rw [apD_cut he hfit (by omega), if_neg (by simp)]
        refine ⟨h.good, ⟨(recO o).take c, by rw [hb], Jrn.part_no recs he (by omega), fun h => by cases h⟩, ?_, by omega⟩
        simp only [List.length_append, List.length_take]
        omega
  · rw [apD_bad he, if_neg he]
    exact ⟨h.good, h.sp, by simp; omega, by omega⟩
theorem CutIs.back {b : List UInt8} {off : Bool} {cut : Int} {done L : List OpT} {i n : Nat} (h : CutIs b off cut done i) (hr : Jrn.Rd GoodO recO b L n) : L = done ∧ n = (Jrn.cat recO done).length ∧ b.take n = Jrn.cat recO done := by
  obtain ⟨part, hb, hp, _⟩ := h.sp
  rw [hb] at hr
  obtain ⟨h1, h2⟩ := read_back h.good hp hr
  refine ⟨h1, h2, ?_⟩
  rw [hb, h2, List.take_left]
/-- the operation that is appended last -/
def lastOp : OpT := ⟨9, 0, 1, 109, 36, 0, S [122], ⟨#[]⟩⟩
theorem last_ok : opErr lastOp = 0 := by decide
theorem last_wf : lastOp.Wf := by
  refine ⟨?_, ?_, ?_, ?_, ?_, ?_, ?_, ?_, ?_, ?_, ?_, ?_, ?_, ?_⟩ <;> decide
theorem last_short : longOp lastOp = false := by decide
end Go.Proofs.YtbncfpljiihmnaaGreatDoor
