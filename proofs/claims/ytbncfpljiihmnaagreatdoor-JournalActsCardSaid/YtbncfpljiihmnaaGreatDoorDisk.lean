/- A disk of bytes: made, cut, on, its bytes; bytes written to it, until power fails. -/
import Derived.Test.YtbncfpljiihmnaaGreatDoorGd
import Derived.Test.YtbncfpljiihmnaaGreatDoorFr
import Derived.Test.YtbncfpljiihmnaaGreatDoorBRow
import Derived.Test.YtbncfpljiihmnaaGreatDoorHex
import Derived.Deep.RegionLaw
namespace Go.Proofs.YtbncfpljiihmnaaGreatDoor
open Go Go.RowKit
set_option linter.unusedVariables false
set_option linter.unusedSimpArgs false
set_option maxHeartbeats 4000000
set_option maxRecDepth 100000

/-- a disk of the call's own -/
structure DSt (base D : Nat) (v : Value) (bs : List UInt8) (off : Bool) (cut : Int) (w : World) : Prop where
  c0 : w.cell? ⟨D, 0, none⟩ = some v
  c1 : w.cell? ⟨D, 1, none⟩ = some (.bool off)
  c2 : w.cell? ⟨D, 2, none⟩ = some (.int .i64 cut)
  fz : ∀ o, w.frozen? ⟨D, o, none⟩ = false
  row : BRow w base 5 v (bytesV bs)
  ne : v.ownBlock ≠ some D
  ge : base ≤ D
  lo : -1 ≤ cut
  hi : cut ≤ 9223372036854775807
theorem DSt.lt {base D : Nat} {v : Value} {bs : List UInt8} {off : Bool} {cut : Int} {w : World} (h : DSt base D v bs off cut w) : D < w.heap.size := World.block_lt_of_cell? w _ h.c0
theorem DSt.below {base D : Nat} {v : Value} {bs : List UInt8} {off : Bool} {cut : Int} {w w' : World} (h : DSt base D v bs off cut w) (hb : Below w.heap.size w w') : DSt base D v bs off cut w' :=
  ⟨(hb.cell h.lt).trans h.c0, (hb.cell (p := ⟨D, 1, none⟩) h.lt).trans h.c1, (hb.cell (p := ⟨D, 2, none⟩) h.lt).trans h.c2, fun o => (hb.frozen h.lt).trans (h.fz o), h.row.below hb (fun k hk => (h.row.lt k hk).2), h.ne, h.ge, h.lo, h.hi⟩
theorem bytesV_len (l : List UInt8) : (bytesV l).length = l.length := by simp [bytesV]
theorem DSt.len {base D : Nat} {v : Value} {bs : List UInt8} {off : Bool} {cut : Int} {w : World} (h : DSt base D v bs off cut w) : ∃ g cap, v = .slice (some ⟨g, 0, none⟩) bs.length cap ∧ bs.length ≤ cap := by
  obtain ⟨g, cap, cur, fz, hv, _, _, _, hl, _⟩ := h.row
  rw [bytesV_len] at hv hl
  exact ⟨g, cap, hv, hl⟩
theorem row_set {w : World} {base : Nat} {e : TypeId} {v : Value} {xs : List Value} (h : BRow w base e v xs) (D o : Nat) (x : Value) (hne : v.ownBlock ≠ some D) : BRow (w.setCell ⟨D, o, none⟩ x) base e v xs :=
  h.kept (row := some D) ⟨rfl, rfl, rfl, by simp, fun k hk hk2 => heap_setCell_other w ⟨D, o, none⟩ k x (fun e => hk2 (by rw [e]))⟩ hne
theorem fr_set (w : World) (D o : Nat) (v x : Value) : Fr (Own D v) w (w.setCell ⟨D, o, none⟩ x) :=
  ⟨rfl, rfl, rfl, by simp, fun k hk hk2 => heap_setCell_other w ⟨D, o, none⟩ k x (fun e => hk2 (.inl e))⟩
theorem DSt.set1 {base D : Nat} {v : Value} {bs : List UInt8} {off : Bool} {cut : Int} {w : World} (h : DSt base D v bs off cut w) (b : Bool) : DSt base D v bs b cut (w.setCell ⟨D, 1, none⟩ (.bool b)) :=
  ⟨(World.cell?_setCell_other _ _ _ _ (by simp)).trans h.c0, World.cell?_setCell_same _ _ _ h.c1, (World.cell?_setCell_other _ _ _ _ (by simp)).trans h.c2, fun o => by simpa using h.fz o, row_set h.row D 1 _ h.ne, h.ne, h.ge, h.lo, h.hi⟩
theorem DSt.set2 {base D : Nat} {v : Value} {bs : List UInt8} {off : Bool} {cut : Int} {w : World} (h : DSt base D v bs off cut w) (n : Int) (h1 : -1 ≤ n) (h2 : n ≤ 9223372036854775807) : DSt base D v bs off n (w.setCell ⟨D, 2, none⟩ (.int .i64 n)) :=
  ⟨(World.cell?_setCell_other _ _ _ _ (by simp)).trans h.c0, (World.cell?_setCell_other _ _ _ _ (by simp)).trans h.c1, World.cell?_setCell_same _ _ _ h.c2, fun o => by simpa using h.fz o, row_set h.row D 2 _ h.ne, h.ne, h.ge, h1, h2⟩
theorem DSt.set0 {base D : Nat} {v v' : Value} {bs bs' : List UInt8} {off : Bool} {cut : Int} {w : World} (h : DSt base D v bs off cut w) (hr : BRow w base 5 v' (bytesV bs')) (hne : v'.ownBlock ≠ some D) : DSt base D v' bs' off cut (w.setCell ⟨D, 0, none⟩ v') :=
  ⟨World.cell?_setCell_same _ _ _ h.c0, (World.cell?_setCell_other _ _ _ _ (by simp)).trans h.c1, (World.cell?_setCell_other _ _ _ _ (by simp)).trans h.c2, fun o => by simpa using h.fz o, row_set hr D 0 _ hne, hne, h.ge, h.lo, h.hi⟩
/-- where a row may lie behind a step -/
def NewRow (v v' : Value) (n : Nat) : Prop := ∀ k, v'.ownBlock = some k → v.ownBlock = some k ∨ n ≤ k
theorem NewRow.trans {v v' v'' : Value} {n m : Nat} (h : NewRow v v' n) (h' : NewRow v' v'' m) (hm : n ≤ m) : NewRow v v'' n := fun k hk => by
  rcases h' k hk with h1 | h1
  · exact h k h1
  · exact .inr (by omega)
theorem NewRow.own {v v' : Value} {n D : Nat} (h : NewRow v v' n) (k : Nat) (hk : Own D v' k) : Own D v k ∨ n ≤ k := by
  rcases hk with h1 | h1
  · exact .inl (.inl h1)
  · rcases h k h1 with h2 | h2
    · exact .inl (.inr h2)
    · exact .inr h2
theorem Fr.then {w w1 w2 : World} {D : Nat} {v v' : Value} (h : Fr (Own D v) w w1) (hn : NewRow v v' w.heap.size) (h' : Fr (Own D v') w1 w2) : Fr (Own D v) w w2 :=
  ⟨h'.os.trans h.os, h'.tape.trans h.tape, h'.output.trans h.output, Nat.le_trans h.size h'.size, fun k hk hx => by
    refine (h'.block k (Nat.lt_of_lt_of_le hk h.size) fun ho => ?_).trans (h.block k hk hx)
    rcases hn.own k ho with h1 | h1
    · exact hx h1
    · omega⟩
/-- an append behind a draw and a block that was laid -/
theorem DSt.app {base D : Nat} {v v' : Value} {bs : List UInt8} {c : UInt8} {off : Bool} {cut : Int} {w w1 w2 : World} (h : DSt base D v bs off cut w) (hb : Below w.heap.size w w1)
    (hr : BRow w2 base 5 v' (bytesV bs ++ [.int .u8 c.toNat])) (hg : w1.grownBy w2 v.ownBlock) (hat : v'.ownBlock = v.ownBlock ∨ v'.ownBlock = some w1.heap.size) :
    DSt base D v' (bs ++ [c]) off cut (w2.setCell ⟨D, 0, none⟩ v') ∧ Fr (Own D v) w (w2.setCell ⟨D, 0, none⟩ v') ∧ NewRow v v' w.heap.size := by
  have h1 := h.below hb
  have hlt := h.lt
  have hlt1 := h1.lt
  have hsz := hb.size
  have hne : v'.ownBlock ≠ some D := by
    rcases hat with e | e
    · rw [e]; exact h.ne
    · rw [e]; intro e2; have := Option.some.inj e2; omega
  have hDb : w2.heap[D]? = w1.heap[D]? := hg.block D hlt1 (fun e => h.ne e.symm)
  have hb2 : bytesV (bs ++ [c]) = bytesV bs ++ [.int .u8 c.toNat] := by simp [bytesV]
  refine ⟨⟨World.cell?_setCell_same _ _ _ ((World.cell?_of_block hDb).trans h1.c0), ?_, ?_, fun o => ?_, ?_, hne, h.ge, h.lo, h.hi⟩, ?_, ?_⟩
  · exact (World.cell?_setCell_other _ _ _ _ (by simp)).trans ((World.cell?_of_block (a := ⟨D, 1, none⟩) hDb).trans h1.c1)
  · exact (World.cell?_setCell_other _ _ _ _ (by simp)).trans ((World.cell?_of_block (a := ⟨D, 2, none⟩) hDb).trans h1.c2)
  · have : w2.frozen? ⟨D, o, none⟩ = w1.frozen? ⟨D, o, none⟩ := World.frozen?_of_block hDb
    simpa [this] using h1.fz o
  · rw [hb2]; exact row_set hr D 0 _ hne
  · refine ⟨hg.os.trans hb.os, hg.tape.trans hb.tape, hg.output.trans hb.output, by have := hg.size; simp; omega, fun k hk hx => ?_⟩
    have h3 : (w2.setCell ⟨D, 0, none⟩ v').heap[k]? = w2.heap[k]? := heap_setCell_other w2 ⟨D, 0, none⟩ k v' (fun e => hx (.inl e))
    exact h3.trans ((hg.block k (by omega) (fun e => hx (.inr e.symm))).trans (hb.block k hk))
  · intro k hk
    rcases hat with e | e
    · exact .inl (by rw [← e]; exact hk)
    · rw [e] at hk; have := Option.some.inj hk; exact .inr (by omega)

/-- bytes written, one by one -/
def wrD : List UInt8 → Bool → Int → List UInt8 → List UInt8 × Bool × Int × Bool
  | bs, off, cut, [] => (bs, off, cut, true)
  | bs, off, cut, c :: r => if off = true ∨ cut = 0 then (bs, true, cut, false) else wrD (bs ++ [c]) off (max (-1) (cut - 1)) r
structure WrIs (bs : List UInt8) (off : Bool) (cut : Int) (l : List UInt8) (i : Nat) (b' : List UInt8) (o' : Bool) (c' : Int) : Prop where
  eq : wrD bs off cut l = wrD b' o' c' (l.drop i)
  len : b'.length = bs.length + i
theorem WrIs.start (bs : List UInt8) (off : Bool) (cut : Int) (l : List UInt8) : WrIs bs off cut l 0 bs off cut := ⟨rfl, rfl⟩
theorem WrIs.bad {bs : List UInt8} {off : Bool} {cut : Int} {l : List UInt8} {i : Nat} {b' : List UInt8} {o' : Bool} {c' : Int} (h : WrIs bs off cut l i b' o' c') (hi : i < l.length) (hx : o' = true ∨ c' = 0) : wrD bs off cut l = (b', true, c', false) := by
  rw [h.eq, List.drop_eq_getElem_cons hi, wrD, if_pos hx]
theorem WrIs.step {bs : List UInt8} {off : Bool} {cut : Int} {l : List UInt8} {i : Nat} {b' : List UInt8} {o' : Bool} {c' : Int} {x : UInt8} (h : WrIs bs off cut l i b' o' c') (hx : l[i]? = some x) (hn : ¬ (o' = true ∨ c' = 0)) : WrIs bs off cut l (i + 1) (b' ++ [x]) o' (max (-1) (c' - 1)) := by
  obtain ⟨hi, he⟩ := List.getElem?_eq_some_iff.1 hx
  refine ⟨?_, by rw [List.length_append, h.len]; rfl⟩
  rw [h.eq, List.drop_eq_getElem_cons hi, wrD, if_neg hn, he]
theorem WrIs.done {bs : List UInt8} {off : Bool} {cut : Int} {l : List UInt8} {i : Nat} {b' : List UInt8} {o' : Bool} {c' : Int} (h : WrIs bs off cut l i b' o' c') (hi : l.length ≤ i) : wrD bs off cut l = (b', o', c', true) := by
  rw [h.eq, List.drop_eq_nil_of_le hi, wrD]

/-- how a disk's write ends -/
def WrEnds (ea : Nat → Addr) (base D : Nat) (v : Value) (r : List UInt8 × Bool × Int × Bool) (w : World) (e : Ending) (w' : World) : Prop :=
  ∃ v', e = .returned (if r.2.2.2 then .nilIface else errV (ea 11)) ∧ DSt base D v' r.1 r.2.1 r.2.2.1 w' ∧ Fr (Own D v) w w' ∧ NewRow v v' w.heap.size

theorem write_any {F : Nat → Bool} (ea : Nat → Addr) (w0 : World) (D : Nat) (v : Value) (bs : List UInt8) (off : Bool) (cut : Int) (s : ByteArray) (w : World) (hG : Gd F ea w0) (f11 : F 11 = true) (hbw : Below w0.heap.size w0 w)
    (hst : DSt w0.heap.size D v bs off cut w) (hs : bs.length + s.size ≤ 65536) :
    Calls Tryz.prog 30 #[.pointer (some ⟨D, 0, none⟩), .string s] w (WrEnds ea w0.heap.size D v (wrD bs off cut s.data.toList) w) := by
  obtain ⟨n, hn⟩ : ∃ n, s.size = n := ⟨_, rfl⟩
  have hl : s.data.toList.length = n := by rw [← hn]; rfl
  have HN := Lib.hid hn
  have HL := Lib.hid hl
  have HG := Lib.hid hG
  have HBW := Lib.hid hbw
  have HS := Lib.hid hst
  have hs' : bs.length + n ≤ 65536 := by omega
  clear hn hl hs hG hbw hst
  go_enter Tryz.func30, Tryz.ntmps30
  go_wp2_with fail
  go_loopw [8] (fun v8 wr => ∃ (i : Nat) (v' : Value) (b' : List UInt8) (o' : Bool) (c' : Int), v8 = .int .i64 i ∧ i ≤ n ∧ WrIs bs off cut s.data.toList i b' o' c' ∧ DSt w0.heap.size D v' b' o' c' wr ∧ Fr (Own D v) w wr ∧ NewRow v v' w.heap.size) (fun v8 _ => n - (intOf v8).toNat)
  case atStart => exact ⟨0, v, bs, off, cut, rfl, by omega, WrIs.start _ _ _ _, HS.out, Fr.of_below (Below.refl _ _), fun k hk => .inl hk⟩
  case round =>
    obtain ⟨i, v', b', o', c', rfl, hi, hW, hD, hF, hR⟩ := hrel
    have HW := Lib.hid hW
    have HD := Lib.hid hD
    have HF := Lib.hid hF
    have HR := Lib.hid hR
    have HBr : Hid (Below w0.heap.size w0 wr) := Lib.hid (HBW.out.trans (hF.below HBW.out.size (fun k hk => by
      rcases hk with h1 | h1
      · rw [h1]; exact HS.out.ge
      · exact (HS.out.row.lt k h1).1)))
    have hgr := HBr.out.size
    obtain ⟨k0, k1, k2, kfz, krow, kne, kge, klo, khi⟩ := hD
    have hDlt := HD.out.lt
    have hbl := HW.out.len
    clear hW hF hR krow
    by_cases hlt : i < n
    · have hlt2 : i < s.size := by have := HN.out; omega
      have i1 : (0 : Int) ≤ (i : Int) := by omega
      have i2 : (i : Int) < (s.size : Int) := by omega
      have i3 : i < s.data.toList.length := by have := HL.out; omega
      by_cases hx : o' = true ∨ c' = 0
      · have HE := Lib.hid (HW.out.bad i3 hx)
        have hS := HD.out.set1 true
        have hB2 : Below w0.heap.size w0 (wr.setCell ⟨D, 1, none⟩ (.bool true)) := HBr.out.setCell (p := ⟨D, 1, none⟩) HD.out.ge _
        have gv := ((HG.out.below hB2).errs 11 (by omega) (by omega) f11).var
        simp only [errG] at gv
        have HS2 := Lib.hid hS
        have HF2 := Lib.hid (HF.out.then HR.out (fr_set wr D 1 v' (.bool true)))
        have f1 := kfz 1
        clear hS hB2
        have hx2 : o' = true ∨ (o' = false ∧ c' = 0) := by
          cases o' with
          | true => exact .inl rfl
          | false => exact .inr ⟨rfl, by simpa using hx⟩
        clear hx
        rcases hx2 with rfl | ⟨rfl, rfl⟩
        all_goals
          go_wp2_with fail
          go_ret
          refine ⟨v', ?_, ?_⟩
          · rw [HE.out]; rfl
          · rw [HE.out]; exact ⟨HS2.out, HF2.out, HR.out⟩
      · have hx1 : o' = false := by cases o' <;> simp_all
        have hx2 : ¬ c' = 0 := fun e => hx (.inr e)
        have HSt := Lib.hid (HW.out.step (x := s[i]) (byte_at s i hlt2) hx)
        clear hx
        subst hx1
        go_wp2_with fail
        have HNl : Hid ((bytesV b').length + 1 ≤ 1000000) := Lib.hid (by rw [bytesV_len]; omega)
        have HRw : Hid (∀ w', Below wr.heap.size wr w' → BRow w' w0.heap.size 5 v' (bytesV b')) := Lib.hid fun w' hb => (HD.out.below hb).row
        have HBd : Hid (∀ o, Below wr.heap.size wr (wr.drew.alloc o)) := Lib.hid fun o => (Below.refl _ _).drew.alloc (Nat.le_refl _) o
        have HAp : Hid (∀ w1 v1 w2, Below wr.heap.size wr w1 → BRow w2 w0.heap.size 5 v1 (bytesV b' ++ [.int .u8 s[i].toNat]) → w1.grownBy w2 v'.ownBlock → (v1.ownBlock = v'.ownBlock ∨ v1.ownBlock = some w1.heap.size) → w2.cell? ⟨D, 0, none⟩ = some v' ∧ w2.frozen? ⟨D, 0, none⟩ = false) := Lib.hid fun w1 v1 w2 hb _ hg _ => by
          have h1 := HD.out.below hb
          have hDb : w2.heap[D]? = w1.heap[D]? := hg.block D h1.lt (fun e => h1.ne e.symm)
          exact ⟨(World.cell?_of_block hDb).trans h1.c0, (World.frozen?_of_block (a := ⟨D, 0, none⟩) hDb).trans (h1.fz 0)⟩
        have f0 := kfz 0
        obtain ⟨i0', hi0, hz0, hz1, hz2⟩ := info_parts infoByte
        clear k1 k2 kfz
        have HC : Hid (∀ w', Below wr.heap.size wr w' → w'.cell? ⟨D, 0, none⟩ = some v' ∧ w'.frozen? ⟨D, 0, none⟩ = false) := Lib.hid fun w' hb => ⟨(HD.out.below hb).c0, (HD.out.below hb).fz 0⟩
        go_region_law
          ((refine step_append_brow _ (by rfl) _ _ _ (by rfl) w0.heap.size 5 i0' (.int .u8 0) Tryz.underlying57 hi0 hz0 hz1 hz2 rfl v' (bytesV b') (by rfl) (HRw.out _ (HBd.out _)) ⟨wr.heap.size, 0, none⟩ 1 1 [.int .u8 s[i].toNat] (by rfl) rfl (by intro jj u hjj; match jj, hjj with | 0, hjj => simp at hjj; subst hjj; simp [Addr.add]) (by intro u hu; simp at hu; subst hu; rfl) HNl.out (by simp; omega) ?_; intro v1 w2 hr1 hg1 hat1; obtain ⟨hSw1, hSw2⟩ := HAp.out _ _ _ (HBd.out _) hr1 hg1 hat1; obtain ⟨g1, cap1, rfl, _⟩ := hr1.cut))
        all_goals
          rw [List.length_append, List.length_singleton] at hr1 hat1
          obtain ⟨hD3, hF3, hN3⟩ := HD.out.app (HBd.out _) hr1 hg1 hat1
          have HF3 := Lib.hid (HF.out.then HR.out hF3)
          have HN3 := Lib.hid (HR.out.trans hN3 HF.out.size)
          clear hF3 hN3 hr1 hg1 hat1 HAp HC HBd HRw hSw1 hSw2 f0 k0
          generalize w2.setCell ⟨D, 0, none⟩ (.slice (some ⟨g1, 0, none⟩) ((bytesV b').length + 1) cap1) = W at hD3 HF3 ⊢
          have HD4 := Lib.hid (hD3.set2 (max (-1) (c' - 1)) (by omega) (by omega))
          have HF4 := Lib.hid (HF3.out.then HN3.out (fr_set W D 2 _ (.int .i64 (max (-1) (c' - 1)))))
          have e2 := hD3.c2
          have f2 := hD3.fz 2
          clear hD3
          go_wp2_with fail
          go_roundw
          case rel => exact ⟨i + 1, _, _, _, _, by go_num, by omega, HSt.out, HD4.out, HF4.out, HN3.out⟩
          case measure => simp [intOf] <;> omega
    · have i2 : ¬ (i : Int) < (s.size : Int) := by have := HN.out; omega
      have HE := Lib.hid (HW.out.done (by have := HL.out; omega))
      clear k0 k1 k2 kfz
      go_wp2_with fail
      go_ret
      refine ⟨v', ?_, ?_⟩
      · rw [HE.out]; rfl
      · rw [HE.out]; exact ⟨HD.out, HF.out, HR.out⟩

theorem newDisk_any (s : ByteArray) (w : World) (hs : s.size ≤ 65536) :
    Calls Tryz.prog 7 #[.string s] w fun e w' => ∃ D v, e = .returned (.tuple #[.pointer (some ⟨D, 0, none⟩), .nilIface]) ∧ DSt w.heap.size D v s.data.toList false (-1) w' ∧ Below w.heap.size w w' := by
  have kc := fun w => Lib.run_convert_string_bytes (P := Tryz.prog) w 9 57 5 s Tryz.underlying9 Tryz.underlying57 Tryz.underlying5
  have hr := BRow.made w w.heap.size 5 s (Nat.le_refl _) (by omega)
  have hb := below_bytesWorld w 5 s
  have HR := Lib.hid hr
  have HB := Lib.hid hb
  have hs2 : ¬ (65536 : Int) < (s.size : Int) := by omega
  clear hr hb hs
  go_enter Tryz.func7, Tryz.ntmps7
  go_wp2_with fail
  go_ret2
  have hb := HB.out
  have hr := HR.out
  have hsz := hb.size
  have hb2 : Below w.heap.size w ((Lib.bytesWorld w 5 s).alloc (.cells #[.slice (some ⟨w.heap.size, 0, none⟩) s.size (grownCap w s.size 0 5), .bool false, .int .i64 (-1)] 59)) := hb.alloc hsz _
  have hlt : w.heap.size < (Lib.bytesWorld w 5 s).heap.size := (hr.lt w.heap.size rfl).2
  refine ⟨(Lib.bytesWorld w 5 s).heap.size, rfl, ⟨.slice (some ⟨w.heap.size, 0, none⟩) s.size (grownCap w s.size 0 5), ⟨?_, ?_, ?_, ?_, ?_, ?_, hsz, by omega, by omega⟩⟩, hb2⟩
  · simp [go_sem]
  · simp [go_sem]
  · simp [go_sem]
  · intro o; simp [go_sem]
  · exact hr.below ((Below.refl _ _).alloc (Nat.le_refl _) _) (fun k hk => (hr.lt k hk).2)
  · intro e; have := Option.some.inj e; simp at this; omega
theorem diskBytes_any (base D : Nat) (v : Value) (bs : List UInt8) (off : Bool) (cut : Int) (w : World) (hst : DSt base D v bs off cut w) :
    Calls Tryz.prog 9 #[.pointer (some ⟨D, 0, none⟩)] w fun e w' => e = .returned (.string (S bs)) ∧ w' = w := by
  obtain ⟨k0, k1, k2, kfz, krow, kne, kge, klo, khi⟩ := hst
  have hc := @BRow.cells _ _ _ _ _ krow
  obtain ⟨g, cap, cur, fz, rfl, hbg, hg, hf, hl, _⟩ := krow
  rw [bytesV_len] at k0
  have kc := run_convert_bytes_back (P := Tryz.prog) w 57 9 5 ⟨g, 0, none⟩ cap bs Tryz.underlying57 Tryz.underlying5 Tryz.underlying9 (by
    intro j hj
    exact hc rfl j (.int .u8 (bs[j].toNat : Int)) (by rw [bytesV, List.getElem?_map, List.getElem?_eq_getElem hj]; rfl))
  clear hc hg hf hl k1 k2 kfz kne hbg
  go_enter Tryz.func9, Tryz.ntmps9
  go_wp2_with fail
  go_ret
  exact ⟨rfl, rfl⟩
theorem diskPower_any (base D : Nat) (v : Value) (bs : List UInt8) (off : Bool) (cut : Int) (w : World) (hst : DSt base D v bs off cut w) :
    Calls Tryz.prog 16 #[.pointer (some ⟨D, 0, none⟩)] w fun e w' => e = .returned (.bool (!off)) ∧ w' = w := by
  have k1 := hst.c1
  clear hst
  go_enter Tryz.func16, Tryz.ntmps16
  go_wp2_with fail
  go_ret
  exact ⟨rfl, rfl⟩
theorem diskOn_any (base D : Nat) (v : Value) (bs : List UInt8) (off : Bool) (cut : Int) (w : World) (hst : DSt base D v bs off cut w) :
    Calls Tryz.prog 21 #[.pointer (some ⟨D, 0, none⟩)] w fun e w' => e = .returned (.tuple #[]) ∧ DSt base D v bs false (-1) w' ∧ Fr (Own D v) w w' := by
  have h1 := hst.set1 false
  have h2 := h1.set2 (-1) (by omega) (by omega)
  have HS := Lib.hid h2
  have HF := Lib.hid ((fr_set w D 1 v (.bool false)).then (fun k hk => .inl hk) (fr_set _ D 2 v (.int .i64 (-1))))
  have k1 := hst.c1
  have k1f := hst.fz 1
  have k2 := h1.c2
  have k2f := h1.fz 2
  clear hst h1 h2
  go_enter Tryz.func21, Tryz.ntmps21
  go_wp2_with fail
  go_end0
  exact ⟨rfl, HS.out, HF.out⟩
theorem diskCut_any {F : Nat → Bool} (ea : Nat → Addr) (base D : Nat) (v : Value) (bs : List UInt8) (off : Bool) (cut n : Int) (w : World) (hG : Gd F ea w) (f2 : F 2 = true) (f11 : F 11 = true) (hn : n ≤ 9223372036854775807) (hst : DSt base D v bs off cut w) :
    Calls Tryz.prog 14 #[.pointer (some ⟨D, 0, none⟩), .int .i64 n] w fun e w' =>
      e = .returned (if n < 0 then errV (ea 2) else if off = true then errV (ea 11) else .nilIface) ∧ DSt base D v bs off (if n < 0 ∨ off = true then cut else n) w' ∧ Fr (Own D v) w w' := by
  have g2 := (hG.errs 2 (by omega) (by omega) f2).var
  have g11 := (hG.errs 11 (by omega) (by omega) f11).var
  simp only [errG] at g2 g11
  clear hG
  have k1 := hst.c1
  have k2 := hst.c2
  have k2f := hst.fz 2
  have HS := Lib.hid hst
  have HF : Hid (Fr (Own D v) w w) := Lib.hid (Fr.of_below (Below.refl _ _))
  by_cases hn0 : n < 0
  · clear hst
    rw [if_pos hn0, if_pos (.inl hn0)]
    go_enter Tryz.func14, Tryz.ntmps14
    go_wp2_with fail
    go_ret
    exact ⟨rfl, HS.out, HF.out⟩
  · have HS2 := Lib.hid (hst.set2 n (by omega) hn)
    have HF2 := Lib.hid (fr_set w D 2 v (.int .i64 n))
    clear hst
    rw [if_neg hn0]
    cases off with
    | true =>
      rw [if_pos rfl, if_pos (.inr rfl)]
      go_enter Tryz.func14, Tryz.ntmps14
      go_wp2_with fail
      go_ret
      exact ⟨rfl, HS.out, HF.out⟩
    | false =>
      rw [if_neg (by simp), if_neg (by simp [hn0])]
      go_enter Tryz.func14, Tryz.ntmps14
      go_wp2_with fail
      go_ret
      exact ⟨rfl, HS2.out, HF2.out⟩
end Go.Proofs.YtbncfpljiihmnaaGreatDoor
