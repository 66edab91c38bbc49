/- The program's line: a new one, a letter inserted. -/
import Derived.Test.YthlojjknpfijmaaDoorIns
import Derived.Test.YthlojjknpfijmaaDoorGd
namespace Go.Proofs.YthlojjknpfijmaaDoor
open Go Go.RowKit Go.Shelf
set_option linter.unusedVariables false
set_option linter.unusedSimpArgs false
set_option maxHeartbeats 4000000
set_option maxRecDepth 100000

/-- a line of the call's own: its block, its row, its letters -/
structure LineSt (base LB : Nat) (v : Value) (L : List Lt) (w : World) : Prop where
  ptr : w.cell? ⟨LB, 0, none⟩ = some v
  fz : ∀ o, w.frozen? ⟨LB, o, none⟩ = false
  own : w.ownsRow base 115 3 v L.length (lts L)
  ne : v.ownBlock ≠ some LB
  ge : base ≤ LB
theorem LineSt.lt {base LB : Nat} {v : Value} {L : List Lt} {w : World} (h : LineSt base LB v L w) : LB < w.heap.size := World.block_lt_of_cell? w _ h.ptr
theorem LineSt.below {base LB : Nat} {v : Value} {L : List Lt} {w w' : World} (h : LineSt base LB v L w) (hb : Below w.heap.size w w') : LineSt base LB v L w' :=
  ⟨(hb.cell h.lt).trans h.ptr, fun o => (hb.frozen h.lt).trans (h.fz o), h.own.kept (row := none) ⟨hb.os, hb.tape, hb.output, hb.size, fun k hk _ => hb.block k hk⟩ (by cases hv : v.ownBlock <;> simp), h.ne, h.ge⟩
theorem LineSt.sl {base LB : Nat} {v : Value} {L : List Lt} {w : World} (h : LineSt base LB v L w) : LtSl w v L := by
  have hown := h.own
  rcases h.own.2 with ⟨hv, h0⟩ | ⟨g, cap, cur, hv, hg, hh, hcap, hm, hsz, hcs⟩
  · exact .inl ⟨hv, List.eq_nil_of_length_eq_zero h0⟩
  · refine .inr ⟨g, cap, hv, hcap, (Array.getElem?_eq_some_iff.1 hh).1, fun j x hx => ?_⟩
    obtain ⟨a0, a1, a2⟩ := lts_at L j x hx
    have c := hown.cells (g := g) (by rw [hv]; rfl)
    have c0 := c _ _ a0
    have c1 := c _ _ a1
    have c2 := c _ _ a2
    rw [Addr.add_lit] at c0 c1 c2
    simp only [Nat.zero_add] at c0 c1 c2
    exact ⟨c0, c1, c2⟩
theorem LineSt.at' {base LB : Nat} {v : Value} {L : List Lt} {w : World} (h : LineSt base LB v L w) : LineAt w LB L := ⟨⟨v, h.ptr, h.sl⟩⟩

/-- what stays: all blocks but these -/
structure Fr (X : Nat → Prop) (w w' : World) : Prop where
  os : w'.os = w.os
  tape : w'.tape = w.tape
  output : w'.output = w.output
  size : w.heap.size ≤ w'.heap.size
  block : ∀ k, k < w.heap.size → ¬ X k → w'.heap[k]? = w.heap[k]?
theorem Fr.of_below {X : Nat → Prop} {w w' : World} (h : Below w.heap.size w w') : Fr X w w' := ⟨h.os, h.tape, h.output, h.size, fun k hk _ => h.block k hk⟩
theorem Fr.trans {X : Nat → Prop} {w w' w'' : World} (h : Fr X w w') (h' : Fr X w' w'') : Fr X w w'' :=
  ⟨h'.os.trans h.os, h'.tape.trans h.tape, h'.output.trans h.output, Nat.le_trans h.size h'.size, fun k hk hx => (h'.block k (Nat.lt_of_lt_of_le hk h.size) hx).trans (h.block k hk hx)⟩
theorem Fr.mono {X Y : Nat → Prop} {w w' : World} (h : Fr X w w') (hs : ∀ k, X k → Y k) : Fr Y w w' := ⟨h.os, h.tape, h.output, h.size, fun k hk hx => h.block k hk (fun hx' => hx (hs k hx'))⟩
theorem Fr.below {X : Nat → Prop} {base : Nat} {w w' : World} (h : Fr X w w') (hb : base ≤ w.heap.size) (hx : ∀ k, X k → base ≤ k) : Below base w w' :=
  ⟨h.os, h.tape, h.output, h.size, fun k hk => h.block k (by omega) (fun hk' => by have := hx k hk'; omega)⟩
theorem Fr.cell {X : Nat → Prop} {w w' : World} (h : Fr X w w') {p : Addr} (hp : p.block < w.heap.size) (hx : ¬ X p.block) : w'.cell? p = w.cell? p := World.cell?_of_block (h.block _ hp hx)
theorem Fr.frozen {X : Nat → Prop} {w w' : World} (h : Fr X w w') {p : Addr} (hp : p.block < w.heap.size) (hx : ¬ X p.block) : w'.frozen? p = w.frozen? p := World.frozen?_of_block (h.block _ hp hx)
theorem Fr.line {X : Nat → Prop} {base LB : Nat} {v : Value} {L : List Lt} {w w' : World} (h : Fr X w w') (hl : LineSt base LB v L w) (h1 : ¬ X LB) (h2 : ∀ k, v.ownBlock = some k → ¬ X k) : LineSt base LB v L w' := by
  refine ⟨(h.cell hl.lt h1).trans hl.ptr, fun o => (h.frozen (p := ⟨LB, o, none⟩) hl.lt h1).trans (hl.fz o), ?_, hl.ne, hl.ge⟩
  refine ⟨hl.own.1, ?_⟩
  rcases hl.own.2 with hn | ⟨g, cap, cur, rfl, hb, hgg, rest⟩
  · exact .inl hn
  · refine .inr ⟨g, cap, cur, rfl, hb, ?_, rest⟩
    rw [h.block g (Array.getElem?_eq_some_iff.1 hgg).1 (h2 g rfl)]
    exact hgg
/-- a line's own blocks -/
def Own (LB : Nat) (v : Value) (k : Nat) : Prop := k = LB ∨ v.ownBlock = some k

theorem line_new (w : World) :
    Calls Tryd.prog 14 #[] w fun e w' => e = .returned (.pointer (some ⟨w.heap.size, 0, none⟩)) ∧ w' = w.alloc (.cells #[.slice none 0 0] 113) := by
  go_enter Tryd.func14, Tryd.ntmps14
  go_wp2_with fail
  go_ret
  exact ⟨rfl, rfl⟩
theorem LineSt.new (base : Nat) (w : World) (h : base ≤ w.heap.size) : LineSt base w.heap.size (.slice none 0 0) [] (w.alloc (.cells #[.slice none 0 0] 113)) :=
  ⟨by simp [go_sem], fun o => by simp [go_sem], World.ownsRow_nil _ _ _ _, by simp [Value.ownBlock], h⟩

theorem ins_bad {F : Nat → Bool} (ea : Nat → Addr) (base LB : Nat) (v : Value) (id behind : Int) (c : UInt8) (L : List Lt) (w : World) (hG : Gd F ea w) (f3 : F 3 = true)
    (hb : id < 4 ∨ 4294967300 ≤ id ∨ behind < 0 ∨ id ≤ behind) :
    Calls Tryd.prog 15 #[.pointer (some ⟨LB, 0, none⟩), .int .i64 id, .int .i64 behind, .int .u8 c.toNat] w fun e w' => e = .returned (errV (ea 3)) ∧ Below w.heap.size w w' := by
  have gv := (hG.errs 3 (by omega) (by omega) f3).var
  simp only [errG] at gv
  clear hG
  rcases (show id < 4 ∨ (¬ id < 4 ∧ 4294967300 ≤ id) ∨ (¬ id < 4 ∧ ¬ 4294967300 ≤ id ∧ behind < 0) ∨ (¬ id < 4 ∧ ¬ 4294967300 ≤ id ∧ ¬ behind < 0 ∧ id ≤ behind) by omega) with h1 | ⟨h1, h2⟩ | ⟨h1, h2, h3⟩ | ⟨h1, h2, h3, h4⟩
  all_goals
    clear hb
    go_enter Tryd.func15, Tryd.ntmps15
    go_wp2_with fail
    go_ret
    exact ⟨rfl, Below.refl _ _⟩

theorem ins_exist {F : Nat → Bool} (ea : Nat → Addr) (base LB : Nat) (v : Value) (id behind : Int) (c : UInt8) (L : List Lt) (w : World) (hG : Gd F ea w) (f7 : F 7 = true) (hn : L.length ≤ 1000)
    (hst : LineSt base LB v L w) (h1 : ¬ id < 4) (h2 : ¬ 4294967300 ≤ id) (h3 : ¬ behind < 0) (h4 : ¬ id ≤ behind) (hx : 0 ≤ ixOf id L) :
    Calls Tryd.prog 15 #[.pointer (some ⟨LB, 0, none⟩), .int .i64 id, .int .i64 behind, .int .u8 c.toNat] w fun e w' => e = .returned (errV (ea 7)) ∧ Below w.heap.size w w' := by
  have HF := Lib.hid (find_any id LB L w hn hst.at')
  have HG := Lib.hid hG
  clear hG hst hn
  generalize ixOf id L = k at HF hx
  go_enter Tryd.func15, Tryd.ntmps15
  go_wp2_with fail
  refine HF.out.mono ?_
  rintro e w1 ⟨rfl, hb⟩
  have gv := ((HG.out.below hb).errs 7 (by omega) (by omega) f7).var
  simp only [errG] at gv
  have HB := Lib.hid hb
  clear hb
  go_wp2_with fail
  go_ret
  exact ⟨rfl, HB.out⟩

theorem ins_none {F : Nat → Bool} (ea : Nat → Addr) (base LB : Nat) (v : Value) (id behind : Int) (c : UInt8) (L : List Lt) (w : World) (hG : Gd F ea w) (f6 : F 6 = true) (hn : L.length ≤ 1000)
    (hst : LineSt base LB v L w) (h1 : ¬ id < 4) (h2 : ¬ 4294967300 ≤ id) (h3 : 0 < behind) (h4 : ¬ id ≤ behind) (hx : ixOf id L < 0) (hy : ixOf behind L < 0) :
    Calls Tryd.prog 15 #[.pointer (some ⟨LB, 0, none⟩), .int .i64 id, .int .i64 behind, .int .u8 c.toNat] w fun e w' => e = .returned (errV (ea 6)) ∧ Below w.heap.size w w' := by
  have HF := Lib.hid (find_any id LB L w hn hst.at')
  have hm := (ixOf_lt behind L).2
  have hy2 : ixOf behind L = -1 := by omega
  have HF2 : Hid (∀ w, LineSt base LB v L w → Calls Tryd.prog 56 #[.pointer (some ⟨LB, 0, none⟩), .int .i64 behind] w fun e w' => e = .returned (.int .i64 (-1)) ∧ Below w.heap.size w w') := Lib.hid fun w hst => by rw [← hy2]; exact find_any behind LB L w hn hst.at'
  have HG := Lib.hid hG
  have HS := Lib.hid hst
  have h3' : ¬ behind < 0 := by omega
  clear hG hst hn hy hy2 hm
  generalize ixOf id L = k at HF hx
  have hx' : ¬ 0 ≤ k := by omega
  go_enter Tryd.func15, Tryd.ntmps15
  go_wp2_with fail
  refine HF.out.mono ?_
  rintro e w1 ⟨rfl, hb⟩
  have HS1 := Lib.hid (HS.out.below hb)
  have HG1 := Lib.hid (HG.out.below hb)
  have HB := Lib.hid hb
  clear hb
  go_wp2_with fail
  refine (HF2.out _ HS1.out).mono ?_
  rintro e w2 ⟨rfl, hb⟩
  have gv := ((HG1.out.below hb).errs 6 (by omega) (by omega) f6).var
  simp only [errG] at gv
  have HB2 := Lib.hid (HB.out.trans (hb.mono HB.out.size))
  clear hb
  go_wp2_with fail
  go_ret
  exact ⟨rfl, HB2.out⟩
theorem LineSt.append {base LB : Nat} {v v' : Value} {L L' : List Lt} {w w1 w2 : World} (hst : LineSt base LB v L w) (hb : base ≤ w.heap.size) (hown : w2.ownsRow base 115 3 v' L'.length (lts L')) (hg : w1.grownBy w2 v.ownBlock) (hb1 : Below w.heap.size w w1) (hnew : ∀ k, v'.ownBlock = some k → v.ownBlock = some k ∨ w1.heap.size ≤ k) :
    LineSt base LB v' L' (w2.setCell ⟨LB, 0, none⟩ v') ∧ Fr (Own LB v) w (w2.setCell ⟨LB, 0, none⟩ v') := by
  have h1 := hst.below hb1
  have hlt1 := h1.lt
  have hlt2 : LB < w2.heap.size := Nat.lt_of_lt_of_le hlt1 hg.size
  have hc : w2.cell? ⟨LB, 0, none⟩ = some v := hg.cell h1.ptr (fun e => h1.ne e.symm)
  have hne : v'.ownBlock ≠ some LB := fun e => by
    rcases hnew LB e with h | h
    · exact h1.ne h
    · omega
  refine ⟨⟨World.cell?_setCell_same _ _ _ hc, fun o => ?_, ?_, hne, hst.ge⟩, ?_⟩
  · have : w2.frozen? ⟨LB, o, none⟩ = w1.frozen? ⟨LB, o, none⟩ := World.frozen?_of_block (hg.block LB hlt1 (fun e => h1.ne e.symm))
    simpa [this] using h1.fz o
  · refine hown.kept (row := some LB) ⟨rfl, rfl, rfl, by simp, fun k hk hk2 => ?_⟩ (.inr hne)
    exact heap_setCell_other w2 ⟨LB, 0, none⟩ k v' (fun e => hk2 (by rw [e]))
  · refine ⟨hg.os.trans hb1.os, hg.tape.trans hb1.tape, hg.output.trans hb1.output, by have := hb1.size; have := hg.size; simp; omega, fun k hk hx => ?_⟩
    have k1 : k ≠ LB := fun e => hx (.inl e)
    have k2 : some k ≠ v.ownBlock := fun e => hx (.inr e.symm)
    have : (w2.setCell ⟨LB, 0, none⟩ v').heap[k]? = w2.heap[k]? := heap_setCell_other w2 ⟨LB, 0, none⟩ k v' k1
    rw [this, hg.block k (Nat.lt_of_lt_of_le hk hb1.size) k2]
    exact hb1.block k hk

theorem ins_nil (base LB : Nat) (id : Int) (c : UInt8) (w : World) (hst : LineSt base LB (.slice none 0 0) [] w) (hb : base ≤ w.heap.size) (h1 : ¬ id < 4) (h2 : ¬ 4294967300 ≤ id) :
    Calls Tryd.prog 15 #[.pointer (some ⟨LB, 0, none⟩), .int .i64 id, .int .i64 0, .int .u8 c.toNat] w fun e w' => e = .returned .nilIface ∧ ∃ v', LineSt base LB v' [⟨id, c, false⟩] w' ∧ Fr (Own LB (.slice none 0 0)) w w' ∧ ∀ k, v'.ownBlock = some k → w.heap.size ≤ k := by
  have HF := Lib.hid (find_any id LB [] w (by simp) hst.at')
  have HS := Lib.hid hst
  have h4 : ¬ id ≤ 0 := by omega
  clear hst
  go_enter Tryd.func15, Tryd.ntmps15
  go_wp2_with fail
  refine HF.out.mono ?_
  rintro e w1 ⟨he, hb1⟩
  rw [show ixOf id [] = -1 from rfl] at he
  subst he
  have hS1 := HS.out.below hb1
  have HS1 := Lib.hid hS1
  have q := hS1.ptr
  have HB := Lib.hid hb1
  have hlt := hS1.lt
  clear hS1 hb1
  go_wp2_with fail
  go_loop [9] (fun v9 => v9 = .int .i64 0) (fun _ => 0)
  case atStart => rfl
  case round =>
    obtain rfl := hrel
    have HI := Lib.hid (insert_any base (.slice none 0 0) 0 w1.heap.size [] ⟨id, c, false⟩ (w1.alloc (.cells #[.int .i64 id, .int .u8 c.toNat, .bool false] 115)) (by simp) (by simp) (World.ownsRow_nil _ _ _ _) (by have := HB.out.size; simp; omega) (heap_alloc_new w1 _) (by simp [Value.ownBlock]))
    go_wp2_with fail
    refine HI.out.mono ?_
    rintro e w2 ⟨v', rfl, hown, hgr, hnew⟩
    obtain ⟨g2, cap2, rfl⟩ : ∃ g2 cap2, v' = .slice (some ⟨g2, 0, none⟩) 1 cap2 := by
      rcases hown.2 with ⟨_, h0⟩ | ⟨g2, cap2, _, hv, _⟩
      · simp at h0
      · exact ⟨g2, cap2, hv⟩
    have hap := HS.out.append (L' := [⟨id, c, false⟩]) hb hown hgr (HB.out.trans (((Below.refl _ w1).alloc (Nat.le_refl _) _).mono HB.out.size)) (fun k hk => (hnew k hk).imp (fun h => h) (fun h => h))
    have hcell : w2.cell? ⟨LB, 0, none⟩ = some (.slice none 0 0) := hgr.cell (a := ⟨LB, 0, none⟩) ((World.cell?_of_block (heap_alloc_old w1 _ hlt)).trans q) (by simp [Value.ownBlock])
    have hfz : w2.frozen? ⟨LB, 0, none⟩ = false := (World.frozen?_of_block (hgr.block LB (by simp; omega) (by simp [Value.ownBlock]))).trans ((World.frozen?_of_block (a := ⟨LB, 0, none⟩) (heap_alloc_old w1 _ hlt)).trans (HS1.out.fz 0))
    have HA := Lib.hid hap
    have HNw := Lib.hid hnew
    clear hap hown hgr hnew HI
    go_wp2_with fail
    go_ret
    exact ⟨rfl, _, HA.out.1, HA.out.2, fun k hk => by
      rcases HNw.out k hk with h | h
      · simp [Value.ownBlock] at h
      · have := HB.out.size
        simp at h
        omega⟩

end Go.Proofs.YthlojjknpfijmaaDoor
