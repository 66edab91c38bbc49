/- Records of operations: their texts have no byte 10 and no byte 35; a record ends with its only byte 10, and tells its operation. Plain lemmas. -/
import Derived.Test.YtbncfpljiihmnaaGreatDoorOpLaw
import Derived.Test.YtbncfpljiihmnaaGreatDoorCrc
import Derived.Test.YtbncfpljiihmnaaGreatDoorJrn
import Derived.Lib.IndexMore
namespace Go.Proofs.YtbncfpljiihmnaaGreatDoor
open Go Go.RowKit
set_option linter.unusedVariables false
set_option linter.unusedSimpArgs false
set_option maxHeartbeats 4000000
set_option maxRecDepth 100000

/-- a byte that an operation's text may hold -/
def txtB (c : UInt8) : Prop := c ≠ 10 ∧ c ≠ 35
theorem txt_dig {c : UInt8} (h : Num.isDig c = true) : txtB c := by constructor <;> (rintro rfl; revert h; decide)
theorem txt_name {c : UInt8} (h : nameB c = true) : txtB c := by constructor <;> (rintro rfl; revert h; decide)
theorem txt_hexD : ∀ n : Nat, n < 16 → hexD n ≠ 10 ∧ hexD n ≠ 35 := by decide +kernel
theorem txt_hexL : ∀ (l : List UInt8), ∀ c ∈ hexL l, txtB c
  | [], c, h => by simp [hexL] at h
  | d :: r, c, h => by
    have hd := d.toNat_lt
    rw [hexL_cons] at h
    rcases List.mem_cons.1 h with rfl | h
    · exact txt_hexD _ (by omega)
    · rcases List.mem_cons.1 h with rfl | h
      · exact txt_hexD _ (by omega)
      · exact txt_hexL r c h
theorem mem_join {b : UInt8} : ∀ (ws : List (List UInt8)) (c : UInt8), c ∈ Lib.join ws [b] → c = b ∨ ∃ w ∈ ws, c ∈ w
  | [], c, h => by simp [Lib.join] at h
  | [w], c, h => by simp [Lib.join] at h; exact .inr ⟨w, by simp, h⟩
  | w :: v :: r, c, h => by
    rw [join_two] at h
    rcases List.mem_append.1 h with h | h
    · exact .inr ⟨w, by simp, h⟩
    · rcases List.mem_cons.1 h with h | h
      · exact .inl h
      · rcases mem_join (v :: r) c h with h | ⟨x, hx, h⟩
        · exact .inl h
        · exact .inr ⟨x, by simp at hx ⊢; exact .inr hx, h⟩
theorem text_chars {o : OpT} (h : opErr o = 0) : ∀ c ∈ opTextL o, txtB c := by
  obtain ⟨_, _, hk, _, hM, _⟩ := op_good h
  have hN := op_nums h
  intro c hc
  have hnum : ∀ n : Int, 0 ≤ n → c ∈ Lib.itoa n → txtB c := fun n hn hc => txt_dig (List.all_eq_true.1 (itoa_dig n hn) c hc)
  rcases mem_join _ _ hc with rfl | ⟨w, hw, hc⟩
  · constructor <;> decide
  · simp only [opWords, List.mem_cons, List.not_mem_nil, or_false] at hw
    rcases hw with rfl | rfl | rfl | rfl | rfl | rfl | rfl | rfl
    · simp only [List.mem_cons, List.not_mem_nil, or_false] at hc
      subst hc
      rcases hk with hk | hk | hk | hk <;> rw [hk] <;> (constructor <;> decide)
    · exact hnum o.t (hN 0).1 hc
    · exact hnum o.b (hN 1).1 hc
    · exact hnum o.n (hN 2).1 hc
    · exact hnum o.nd (hN 3).1 hc
    · exact hnum o.ot (hN 4).1 hc
    · unfold nmB at hM
      split at hM
      · unfold isNmB at hM
        rw [Bool.and_eq_true] at hM
        exact txt_name (List.all_eq_true.1 hM.2 c hc)
      · have h0 : o.nm.size = 0 := by simpa using hM
        rw [List.eq_nil_of_length_eq_zero (show o.nm.data.toList.length = 0 from h0)] at hc
        cases hc
    · exact txt_hexL _ c hc
/-- the sum's eight digits -/
def sumL (l : List UInt8) : List UInt8 := Crc.hex8 (Crc.reg l ^^^ 4294967295)
/-- a record -/
def recL (l : List UInt8) : List UInt8 := l ++ 35 :: (sumL l ++ [10])
theorem sumL_len (l : List UInt8) : (sumL l).length = 8 := rfl
theorem recL_len (l : List UInt8) : (recL l).length = l.length + 10 := by simp [recL, sumL_len]
theorem crcD_lt : ∀ n : Nat, n < 16 → Crc.hexD n ≠ 10 ∧ Crc.hexD n ≠ 35 := by decide +kernel
theorem sumL_chars (l : List UInt8) : ∀ c ∈ sumL l, txtB c := by
  intro c hc
  simp only [sumL, Crc.hex8, List.mem_cons, List.not_mem_nil, or_false] at hc
  rcases hc with rfl | rfl | rfl | rfl | rfl | rfl | rfl | rfl <;> exact crcD_lt _ (by omega)
/-- a right operation -/
def GoodO (o : OpT) : Prop := opErr o = 0
def recO (o : OpT) : List UInt8 := recL (opTextL o)
/-- the first byte 35 of a record parts it -/
theorem first35 {p q r r' : List UInt8} (hp : ∀ c ∈ p, c ≠ 35) (hq : ∀ c ∈ q, c ≠ 35) (h : p ++ 35 :: r = q ++ 35 :: r') : p = q ∧ r = r' := by
  induction p generalizing q with
  | nil =>
    cases q with
    | nil => simpa using h
    | cons c q => simp at h; exact (hq c (by simp) h.1.symm).elim
  | cons a p ih =>
    cases q with
    | nil => simp at h; exact (hp a (by simp) h.1).elim
    | cons c q =>
      simp at h
      obtain ⟨h1, h2⟩ := ih (fun c hc => hp c (by simp [hc])) (fun c hc => hq c (by simp [hc])) h.2
      exact ⟨by rw [h.1, h1], h2⟩
theorem recs : Jrn.Recs GoodO recO where
  ends := fun o h => ⟨opTextL o ++ 35 :: sumL (opTextL o), by simp [recO, recL], by
    intro c hc
    simp only [List.mem_append, List.mem_cons] at hc
    rcases hc with hc | rfl | hc
    · exact (text_chars h c hc).1
    · decide
    · exact (sumL_chars _ c hc).1⟩
  inj := fun o o' h h' he => by
    have e := (first35 (fun c hc => (text_chars h c hc).2) (fun c hc => (text_chars h' c hc).2) he).1
    have h1 := op_back h
    rw [e, op_back h'] at h1
    exact (Prod.mk.inj h1).1.symm
theorem index_none1 {b : UInt8} : ∀ {l : List UInt8}, (∀ c ∈ l, c ≠ b) → Lib.index l [b] = -1
  | [], _ => rfl
  | c :: l, h => by
    have h1 : c ≠ b := h c (by simp)
    rw [Lib.index, if_neg (by simp [List.isPrefixOf, Ne.symm h1]), index_none1 (fun c hc => h c (by simp [hc]))]
    rfl
theorem index_some1 {b : UInt8} : ∀ {p r : List UInt8}, (∀ c ∈ p, c ≠ b) → Lib.index (p ++ b :: r) [b] = p.length
  | [], r, _ => by simp [Lib.index, List.isPrefixOf]
  | c :: p, r, h => by
    have h1 : c ≠ b := h c (by simp)
    rw [List.cons_append, Lib.index, if_neg (by simp [List.isPrefixOf, Ne.symm h1]), index_some1 (fun c hc => h c (by simp [hc])), if_neg (by simp <;> omega)]
    simp
theorem cut_none1 {b : UInt8} {l : List UInt8} (h : ∀ c ∈ l, c ≠ b) : Lib.cut l [b] = (l, [], false) := by
  rw [Lib.cut, index_none1 h]; rfl
theorem cut_some1 {b : UInt8} {p r : List UInt8} (h : ∀ c ∈ p, c ≠ b) : Lib.cut (p ++ b :: r) [b] = (p, r, true) := by
  rw [Lib.cut, index_some1 h, if_pos (by omega)]
  simp
theorem split_first (b : UInt8) : ∀ l : List UInt8, (∀ c ∈ l, c ≠ b) ∨ ∃ p r, l = p ++ b :: r ∧ ∀ c ∈ p, c ≠ b
  | [] => .inl (by simp)
  | c :: l => by
    by_cases h : c = b
    · exact .inr ⟨[], l, by simp [h], by simp⟩
    · rcases split_first b l with h1 | ⟨p, r, h1, h2⟩
      · exact .inl (by intro x hx; rcases List.mem_cons.1 hx with rfl | hx; exact h; exact h1 x hx)
      · exact .inr ⟨c :: p, r, by simp [h1], by intro x hx; rcases List.mem_cons.1 hx with rfl | hx; exact h; exact h2 x hx⟩
/-- a line that the journal's reading takes is the record of an operation -/
theorem jr_ok {p t : List UInt8} {o : OpT} (h : opRdW (Num.cutL 124 t) = (o, 0)) (hr : recL t = p ++ [10]) : GoodO o ∧ recO o = p ++ [10] := by
  obtain ⟨h1, h2⟩ := op_rd_ok h
  exact ⟨h1, by rw [recO, h2, hr]⟩
theorem recO_eq (o : OpT) : recO o = (opTextL o ++ 35 :: sumL (opTextL o)) ++ [10] := by simp [recO, recL]
/-- a line that it does not take is none -/
theorem jr_no {p r : List UInt8} (np : ∀ c ∈ p, c ≠ 10) (h : ∀ o, opRdW (Num.cutL 124 (Lib.cut p [35]).1) = (o, 0) → recL (Lib.cut p [35]).1 ≠ p ++ [10]) : ∀ o, GoodO o → ¬ recO o <+: p ++ 10 :: r := by
  intro o ho ⟨t, ht⟩
  obtain ⟨q, hq, nq⟩ := recs.ends o ho
  have hq2 := hq
  rw [recO_eq] at hq2
  have hq3 := List.append_cancel_right hq2
  rw [hq] at ht
  simp only [List.append_assoc, List.cons_append, List.nil_append] at ht
  obtain ⟨rfl, _⟩ := Jrn.first10 nq np ht
  have hc : (Lib.cut q [35]).1 = opTextL o := by rw [← hq3, cut_some1 (fun c hc => (text_chars ho c hc).2)]
  refine h o ?_ ?_
  · rw [hc, op_back ho]
  · rw [hc]; exact hq
/-- the document's reading: a line shorter than nine bytes is none -/
theorem md_short {p r : List UInt8} (np : ∀ c ∈ p, c ≠ 10) (h : p.length < 9) : ∀ o, GoodO o → ¬ recO o <+: p ++ 10 :: r := by
  intro o ho ⟨t, ht⟩
  obtain ⟨q, hq, nq⟩ := recs.ends o ho
  have hl := congrArg List.length hq
  rw [recO, recL_len, List.length_append, List.length_singleton] at hl
  rw [hq] at ht
  simp only [List.append_assoc, List.cons_append, List.nil_append] at ht
  obtain ⟨rfl, _⟩ := Jrn.first10 nq np ht
  omega
theorem md_no {p r : List UInt8} (np : ∀ c ∈ p, c ≠ 10) (h9 : 9 ≤ p.length) (h : ∀ o, opRdW (Num.cutL 124 (p.take (p.length - 9))) = (o, 0) → recL (p.take (p.length - 9)) ≠ p ++ [10]) : ∀ o, GoodO o → ¬ recO o <+: p ++ 10 :: r := by
  intro o ho ⟨t, ht⟩
  obtain ⟨q, hq, nq⟩ := recs.ends o ho
  have hq2 := hq
  rw [recO_eq] at hq2
  have hq3 := List.append_cancel_right hq2
  rw [hq] at ht
  simp only [List.append_assoc, List.cons_append, List.nil_append] at ht
  obtain ⟨rfl, _⟩ := Jrn.first10 nq np ht
  have hc : q.take (q.length - 9) = opTextL o := by
    rw [← hq3, List.length_append, List.length_cons, sumL_len, Nat.add_sub_cancel, List.take_left]
  refine h o ?_ ?_
  · rw [hc, op_back ho]
  · rw [hc]; exact hq
end Go.Proofs.YtbncfpljiihmnaaGreatDoor
