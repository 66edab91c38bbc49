/- LineActs: two lines side by side, led through acts. -/
import Derived.Test.YthlojjknpfijmaaDoorLineAt
import Derived.Test.YthlojjknpfijmaaDoorLineK
import Derived.Test.YthlojjknpfijmaaDoorActs
namespace Go.Proofs.YthlojjknpfijmaaDoor
open Go Go.RowKit Go.Shelf
set_option linter.unusedVariables false
set_option linter.unusedSimpArgs false
set_option maxHeartbeats 4000000
set_option maxRecDepth 100000
namespace lineActs

/-- the program's line and the document's -/
structure Two (w0 : World) (LB MB : Nat) (v mv : Value) (L : List Lt) (w : World) : Prop where
  k : LK w0 LB v L w
  m : MSt w0.heap.size MB mv L w
  ap : ∀ k, Own LB v k → ¬ Own MB mv k
theorem Two.below {w0 w w' : World} {LB MB : Nat} {v mv : Value} {L : List Lt} (h : Two w0 LB MB v mv L w) (hb : Below w.heap.size w w') : Two w0 LB MB v mv L w' := ⟨h.k.below hb, h.m.below hb, h.ap⟩
theorem Two.m_lt {w0 w : World} {LB MB : Nat} {v mv : Value} {L : List Lt} (h : Two w0 LB MB v mv L w) : ∀ k, Own MB mv k → w0.heap.size ≤ k ∧ k < w.heap.size := fun k hk => by
  rcases hk with rfl | hk
  · exact ⟨h.m.ge, h.m.lt⟩
  · exact h.m.own.lt k hk
/-- one line is turned, then the other -/
theorem Two.step {w0 w wA wB : World} {LB MB : Nat} {v mv v' mv' : Value} {L L' : List Lt} (h : Two w0 LB MB v mv L w) (hk : LK w0 LB v' L' wA) (hf : Fr (Own LB v) w wA) (hn : ∀ k, v'.ownBlock = some k → v.ownBlock = some k ∨ w.heap.size ≤ k)
    (hm : MSt w0.heap.size MB mv' L' wB) (hg : Fr (Own MB mv) wA wB) (hn2 : ∀ k, mv'.ownBlock = some k → mv.ownBlock = some k ∨ wA.heap.size ≤ k) : Two w0 LB MB v' mv' L' wB := by
  have ap1 : ∀ k, Own LB v' k → ¬ Own MB mv k := fun k h1 h2 => by
    have h3 : Own LB v k ∨ w.heap.size ≤ k := by
      rcases h1 with h1 | h1
      · exact .inl (.inl h1)
      · rcases hn k h1 with h1 | h1
        · exact .inl (.inr h1)
        · exact .inr h1
    rcases h3 with h3 | h3
    · exact h.ap k h3 h2
    · have := (h.m_lt k h2).2; omega
  refine ⟨⟨hg.line hk.st (ap1 LB (.inl rfl)) (fun k e => ap1 k (.inr e)), hk.bel.trans (hg.below hk.bel.size (fun k hk => (h.m_lt k hk).1))⟩, hm, fun k h1 h2 => ?_⟩
  have h3 : Own MB mv k ∨ wA.heap.size ≤ k := by
    rcases h2 with h2 | h2
    · exact .inl (.inl h2)
    · rcases hn2 k h2 with h2 | h2
      · exact .inl (.inr h2)
      · exact .inr h2
  rcases h3 with h3 | h3
  · exact ap1 k h1 h3
  · have := (hk.own_lt k h1).2; omega
theorem Two.mid {w0 w wA : World} {LB MB : Nat} {v mv : Value} {L : List Lt} (h : Two w0 LB MB v mv L w) (hf : Fr (Own LB v) w wA) : MSt w0.heap.size MB mv L wA :=
  h.m.fr hf (fun hx => h.ap MB hx (.inl rfl)) (fun k e hx => h.ap k hx (.inr e))

/-- the act's own cells -/
def Cl (AB : Nat) (x : ActT) (w : World) : Prop := w.cell? ⟨AB, 1, none⟩ = some (.int .i64 x.id) ∧ w.cell? ⟨AB, 2, none⟩ = some (.int .i64 x.behind) ∧ w.cell? ⟨AB, 3, none⟩ = some (.int .u8 x.c.toNat)
theorem Cl.fr {X : Nat → Prop} {AB : Nat} {x : ActT} {w w' : World} (hx : ∀ k, X k → k ≠ AB) (hf : Fr X w w') (h : w.cell? ⟨AB, 1, none⟩ = some (.int .i64 x.id) ∧ w.cell? ⟨AB, 2, none⟩ = some (.int .i64 x.behind) ∧ w.cell? ⟨AB, 3, none⟩ = some (.int .u8 x.c.toNat)) :
    w'.cell? ⟨AB, 1, none⟩ = some (.int .i64 x.id) ∧ w'.cell? ⟨AB, 2, none⟩ = some (.int .i64 x.behind) ∧ w'.cell? ⟨AB, 3, none⟩ = some (.int .u8 x.c.toNat) := by
  have hl := World.block_lt_of_cell? w _ h.1
  exact ⟨(hf.cell (p := ⟨AB, 1, none⟩) hl (fun e => hx _ e rfl)).trans h.1, (hf.cell (p := ⟨AB, 2, none⟩) hl (fun e => hx _ e rfl)).trans h.2.1, (hf.cell (p := ⟨AB, 3, none⟩) hl (fun e => hx _ e rfl)).trans h.2.2⟩
theorem Cl.below {AB : Nat} {x : ActT} {w w' : World} (hf : Below w.heap.size w w') (h : w.cell? ⟨AB, 1, none⟩ = some (.int .i64 x.id) ∧ w.cell? ⟨AB, 2, none⟩ = some (.int .i64 x.behind) ∧ w.cell? ⟨AB, 3, none⟩ = some (.int .u8 x.c.toNat)) :
    w'.cell? ⟨AB, 1, none⟩ = some (.int .i64 x.id) ∧ w'.cell? ⟨AB, 2, none⟩ = some (.int .i64 x.behind) ∧ w'.cell? ⟨AB, 3, none⟩ = some (.int .u8 x.c.toNat) :=
  Cl.fr (X := fun _ => False) (fun _ h => h.elim) (Fr.of_below hf) h

/-- an error as a value -/
def errOf (a : Nat → Addr) (k : Nat) : Value := if k = 0 then .nilIface else errV (a k)
theorem errOf_val (a : Nat → Addr) (k : Nat) (w : World) (hk : k ≤ 12) : ErrVal a w (errOf a k) k (-1) := by
  unfold errOf
  split
  · subst_vars; exact .nil
  · exact .bare k (by omega) hk
theorem coded_same (a : Nat → Addr) (k : Nat) (w : World) (hk : k ≤ 12) (hE : Errs a allErrs w) (hT : TypeVar w) :
    Calls Tryd.prog 23 #[errOf a k, .int .i64 (k : Int)] w fun e w' => e = .returned (.bool true) ∧ Below w.heap.size w w' :=
  (coded1_any a (errOf a k) k (-1) k w (errOf_val a k w hk) hE hT).mono fun e w' ⟨h1, h2⟩ => ⟨by rw [h1]; simp, h2⟩
theorem insErr_le (id behind : Int) (L : List Lt) : insErr id behind L ≤ 12 := by unfold insErr; split; omega; split; omega; split <;> omega

theorem lineInsert_err3 {F : Nat → Bool} (ea : Nat → Addr) (w0 : World) (LB : Nat) (v : Value) (id behind : Int) (c : UInt8) (L : List Lt) (w : World) (hG : Gd F ea w0) (f3 : F 3 = true) (f6 : F 6 = true) (f7 : F 7 = true) (h : LK w0 LB v L w) (hn2 : L.length ≤ 1000) :
    Calls Tryd.prog 15 #[.pointer (some ⟨LB, 0, none⟩), .int .i64 id, .int .i64 behind, .int .u8 c.toNat] w fun e w' => e = .returned (errOf ea (insErr id behind L)) ∧ ∃ v', LK w0 LB v' (insAfter id behind c L) w' ∧ Fr (Own LB v) w w' ∧ ∀ k, v'.ownBlock = some k → v.ownBlock = some k ∨ w.heap.size ≤ k :=
  (lineInsert_any ea w0.heap.size LB v id behind c L w (hG.below h.bel) f3 f6 f7 h.st hn2 h.bel.size).mono fun e w' ⟨h1, v', h2, h3, h4⟩ => ⟨h1, v', h.fr h2 h3, h3, h4⟩
theorem lineDelete_err3 {F : Nat → Bool} (ea : Nat → Addr) (w0 : World) (LB : Nat) (v : Value) (id : Int) (L : List Lt) (w : World) (hG : Gd F ea w0) (f6 : F 6 = true) (h : LK w0 LB v L w) (hn2 : L.length ≤ 1000) :
    Calls Tryd.prog 19 #[.pointer (some ⟨LB, 0, none⟩), .int .i64 id] w fun e w' => e = .returned (errOf ea (if ixOf id L < 0 then 6 else 0)) ∧ LK w0 LB v (delL id L) w' ∧ Fr (Own LB v) w w' :=
  (line_delete ea w0.heap.size LB v id L w (hG.below h.bel) f6 h.st hn2).mono fun e w' ⟨h1, h2, h3⟩ => ⟨by rw [h1]; unfold errOf; by_cases hx : ixOf id L < 0 <;> simp [hx], h.fr h2 h3, h3⟩
end lineActs
end Go.Proofs.YthlojjknpfijmaaDoor
