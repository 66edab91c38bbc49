/- The journal's plain laws: what is written, until power fails; what is read back. -/
import Derived.Test.YtbncfpljiihmnaaGreatDoorJRd
namespace Go.Proofs.YtbncfpljiihmnaaGreatDoor
open Go Go.RowKit
set_option linter.unusedVariables false
set_option linter.unusedSimpArgs false
set_option maxHeartbeats 1000000
set_option maxRecDepth 100000

theorem wrD_pos : ∀ (l bs : List UInt8), wrD bs false (-1) l = (bs ++ l, false, -1, true)
  | [], bs => by simp [wrD]
  | c :: r, bs => by
    rw [wrD, if_neg (by simp), show max (-1 : Int) (-1 - 1) = -1 by omega, wrD_pos r (bs ++ [c])]
    simp
theorem wrD_off (c : UInt8) (r bs : List UInt8) (cut : Int) : wrD bs true cut (c :: r) = (bs, true, cut, false) := by rw [wrD, if_pos (.inl rfl)]
theorem wrD_cut : ∀ (l bs : List UInt8) (c : Nat), wrD bs false (c : Int) l = if l.length ≤ c then (bs ++ l, false, ((c - l.length : Nat) : Int), true) else (bs ++ l.take c, true, 0, false)
  | [], bs, c => by simp [wrD]
  | x :: r, bs, 0 => by
    rw [wrD, if_pos (.inr rfl), if_neg (by simp)]
    simp
  | x :: r, bs, c + 1 => by
    rw [wrD, if_neg (by simp; omega), show max (-1 : Int) (((c + 1 : Nat) : Int) - 1) = (c : Int) by omega, wrD_cut r (bs ++ [x]) c]
    by_cases h : r.length ≤ c
    · rw [if_pos h, if_pos (by simp; omega)]
      simp
    · rw [if_neg h, if_neg (by simp; omega)]
      simp
theorem recO_pos (o : OpT) : ∃ c r, recO o = c :: r := by
  cases h : recO o with
  | nil => have := congrArg List.length h; rw [recO, recL_len] at this; simp at this
  | cons c r => exact ⟨c, r, rfl⟩
theorem apD_bad {bs : List UInt8} {off : Bool} {cut : Int} {o : OpT} (h : opErr o ≠ 0) : apD bs off cut o = (bs, off, cut, opErr o) := by rw [apD, if_pos h]
theorem apD_full {bs : List UInt8} {off : Bool} {cut : Int} {o : OpT} (h : opErr o = 0) (hl : 65536 < bs.length + (recO o).length) : apD bs off cut o = (bs, off, cut, 8) := by rw [apD, if_neg (by omega), if_pos hl]
theorem apD_pos {bs : List UInt8} {o : OpT} (h : opErr o = 0) (hl : bs.length + (recO o).length ≤ 65536) : apD bs false (-1) o = (bs ++ recO o, false, -1, 0) := by
  rw [apD, if_neg (by omega), if_neg (by omega), wrD_pos]; rfl
theorem apD_off {bs : List UInt8} {cut : Int} {o : OpT} (h : opErr o = 0) (hl : bs.length + (recO o).length ≤ 65536) : apD bs true cut o = (bs, true, cut, 11) := by
  obtain ⟨c, r, e⟩ := recO_pos o
  rw [apD, if_neg (by omega), if_neg (by omega), e, wrD_off]; rfl
theorem apD_in {bs : List UInt8} {c : Nat} {o : OpT} (h : opErr o = 0) (hl : bs.length + (recO o).length ≤ 65536) (hc : (recO o).length ≤ c) : apD bs false (c : Int) o = (bs ++ recO o, false, ((c - (recO o).length : Nat) : Int), 0) := by
  rw [apD, if_neg (by omega), if_neg (by omega), wrD_cut, if_pos hc]; rfl
theorem apD_cut {bs : List UInt8} {c : Nat} {o : OpT} (h : opErr o = 0) (hl : bs.length + (recO o).length ≤ 65536) (hc : c < (recO o).length) : apD bs false (c : Int) o = (bs ++ (recO o).take c, true, 0, 11) := by
  rw [apD, if_neg (by omega), if_neg (by omega), wrD_cut, if_neg (by omega)]; rfl
theorem DSt.fb {w0 : World} {D : Nat} {v : Value} {bs : List UInt8} {off : Bool} {cut : Int} {w w' : World} (h : DSt w0.heap.size D v bs off cut w) (hF : Fr (Own D v) w w') (hb : Below w0.heap.size w0 w) : Below w0.heap.size w0 w' :=
  hb.trans (hF.below hb.size (fun k hk => by
    rcases hk with h1 | h1
    · rw [h1]; exact h.ge
    · exact (h.row.lt k h1).1))
theorem OpAt.fr {X : Nat → Prop} {w w' : World} {B : Nat} {o : OpT} (h : OpAt w B o) (hF : Fr X w w') (hx : ¬ X B) : OpAt w' B o :=
  have hl := h.lt
  ⟨(hF.cell (p := ⟨B, _, none⟩) hl hx).trans h.c0, (hF.cell (p := ⟨B, _, none⟩) hl hx).trans h.c1, (hF.cell (p := ⟨B, _, none⟩) hl hx).trans h.c2, (hF.cell (p := ⟨B, _, none⟩) hl hx).trans h.c3, (hF.cell (p := ⟨B, _, none⟩) hl hx).trans h.c4, (hF.cell (p := ⟨B, _, none⟩) hl hx).trans h.c5, (hF.cell (p := ⟨B, _, none⟩) hl hx).trans h.c6, (hF.cell (p := ⟨B, _, none⟩) hl hx).trans h.c7⟩
/-- the records of these, and then no byte 10: read back, just these -/
theorem read_back {L : List OpT} {r : List UInt8} (hL : ∀ o ∈ L, GoodO o) (h : ∀ c ∈ r, c ≠ 10) {L' : List OpT} {n : Nat} (hr : Jrn.Rd GoodO recO (Jrn.cat recO L ++ r) L' n) : L' = L ∧ n = (Jrn.cat recO L).length :=
  hr.unique recs (Jrn.Rd.of recs hL h)
theorem cat_one (o : OpT) : Jrn.cat recO [o] = recO o := by simp [Jrn.cat]
theorem cat_snoc (L : List OpT) (o : OpT) : Jrn.cat recO (L ++ [o]) = Jrn.cat recO L ++ recO o := by rw [Jrn.cat_append, cat_one]
end Go.Proofs.YtbncfpljiihmnaaGreatDoor
