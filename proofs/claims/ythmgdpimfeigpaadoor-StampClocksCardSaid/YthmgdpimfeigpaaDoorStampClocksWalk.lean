/- StampClocks: the walk of the law. -/
import Derived.Test.YthmgdpimfeigpaaDoorClock
import Derived.Test.YthmgdpimfeigpaaDoorCode
namespace Go.Proofs.YthmgdpimfeigpaaDoor
open Go Go.RowKit
namespace stampClocks
set_option linter.unusedVariables false
set_option linter.unusedSimpArgs false
set_option maxHeartbeats 4000000
set_option maxRecDepth 100000

/-- stamps that lie one behind the other -/
def StampsAt (w : World) (b off : Nat) (xs : List (Int × Int)) : Prop :=
  ∀ i x, xs[i]? = some x → w.cell? ⟨b, off + i * 2, none⟩ = some (.int .i64 x.1) ∧ w.cell? ⟨b, off + i * 2 + 1, none⟩ = some (.int .i64 x.2)

theorem StampsAt.keep {w w' : World} {b off : Nat} {xs : List (Int × Int)} (h : StampsAt w b off xs) (hk : w'.heap[b]? = w.heap[b]?) : StampsAt w' b off xs :=
  fun i x hx => ⟨(World.cell?_of_block (w := w) hk).trans (h i x hx).1, (World.cell?_of_block (w := w) hk).trans (h i x hx).2⟩

/-- what stands all along: the errors, what came in, whose the clock is -/
structure Ba (a : Nat → Addr) (w0 : World) (C b off : Nat) (xs : List (Int × Int)) (by' : Int) (w : World) : Prop where
  errs : Errs a allErrs w
  tv : TypeVar w
  bel : Below w0.heap.size w0 w
  lt : C < w.heap.size
  low : w0.heap.size ≤ C
  k1 : w.cell? ⟨C, 1, none⟩ = some (.int .i64 by')
  kf : w.frozen? ⟨C, 0, none⟩ = false
  st : StampsAt w b off xs
  bl : b < w0.heap.size
  er0 : Errs a allErrs w0
  tv0 : TypeVar w0
theorem Ba.below {a : Nat → Addr} {w0 w w' : World} {C b off : Nat} {xs : List (Int × Int)} {by' : Int} (h : Ba a w0 C b off xs by' w) (hb : Below w.heap.size w w') : Ba a w0 C b off xs by' w' :=
  have hl := h.low
  have hl2 := h.lt
  have hb2 := h.bl
  ⟨h.errs.below hb, h.tv.below hb, h.bel.trans (hb.mono (by omega)), by have := hb.size; omega, hl, (hb.cell h.lt).trans h.k1, (hb.frozen h.lt).trans h.kf, h.st.keep (hb.block b (by omega)), h.bl, h.er0, h.tv0⟩
theorem Ba.set {a : Nat → Addr} {w0 w w' : World} {C b off : Nat} {xs : List (Int × Int)} {by' : Int} (h : Ba a w0 C b off xs by' w) (T : Int) (hb : Below w.heap.size (w.setCell ⟨C, 0, none⟩ (.int .i64 T)) w') : Ba a w0 C b off xs by' w' := by
  have hl := h.low
  have hl2 := h.lt
  have hb2 := h.bl
  have h1 : Below w0.heap.size w0 (w.setCell ⟨C, 0, none⟩ (.int .i64 T)) := h.bel.setCell hl _
  have h2 : Below w0.heap.size w0 w' := h1.trans (hb.mono (by omega))
  have hsz : (w.setCell ⟨C, 0, none⟩ (.int .i64 T)).heap.size = w.heap.size := by simp
  refine ⟨h.er0.below h2, h.tv0.below h2, h2, by have := hb.size; omega, hl, ?_, ?_, ?_, h.bl, h.er0, h.tv0⟩
  · exact (hb.cell hl2).trans ((World.cell?_setCell_other _ _ _ _ (by simp)).trans h.k1)
  · refine (hb.frozen hl2).trans ?_
    have := h.kf
    simpa using this
  · exact h.st.keep ((hb.block b (by omega)).trans (Below.heap_setCell _ _ _ _ (by show b ≠ C; omega)))

def cellsOf (all : List (Int × Int)) : List Value := all.flatMap fun x => [.int .i64 x.1, .int .i64 x.2]

/-- what stands at a round's head -/
structure Inv (a : Nat → Addr) (w0 : World) (C b off : Nat) (xs : List (Int × Int)) (by' : Int) (j : Nat) (T : Int) (v : Value) (all : List (Int × Int)) (w : World) : Prop where
  ba : Ba a w0 C b off xs by' w
  k0 : w.cell? ⟨C, 0, none⟩ = some (.int .i64 T)
  own : w.ownsRow (C + 1) 23 2 v all.length (cellsOf all)
  t0 : 0 ≤ T
  t1 : T ≤ 1073741824
  le : ∀ x ∈ all, x.1 ≤ T
  len : all.length ≤ j

theorem Ba.keep3 {a : Nat → Addr} {w0 w w' : World} {C b off : Nat} {xs : List (Int × Int)} {by' : Int} {p1 p2 : Prop} {i : Nat} {x : Int × Int} (hx : xs[i]? = some x) (hb : Below w.heap.size w w') (h : p1 ∧ p2 ∧ Ba a w0 C b off xs by' w) :
    w'.cell? ⟨b, off + i * 2, none⟩ = some (.int .i64 x.1) ∧ w'.cell? ⟨b, off + i * 2 + 1, none⟩ = some (.int .i64 x.2) ∧ Ba a w0 C b off xs by' w' :=
  ⟨((h.2.2.below hb).st i x hx).1, ((h.2.2.below hb).st i x hx).2, h.2.2.below hb⟩
theorem Ba.start3 {a : Nat → Addr} {w0 w : World} {C b off : Nat} {xs : List (Int × Int)} {by' : Int} {i : Nat} {x : Int × Int} (hx : xs[i]? = some x) (h : Ba a w0 C b off xs by' w) :
    w.drew.cell? ⟨b, off + i * 2, none⟩ = some (.int .i64 x.1) ∧ w.drew.cell? ⟨b, off + i * 2 + 1, none⟩ = some (.int .i64 x.2) ∧ Ba a w0 C b off xs by' w.drew :=
  have h' := h.below (Below.drew (Below.refl w.heap.size w))
  ⟨(h'.st i x hx).1, (h'.st i x hx).2, h'⟩
theorem Ba.set3 {a : Nat → Addr} {w0 w w' : World} {C b off : Nat} {xs : List (Int × Int)} {by' : Int} {p1 p2 : Prop} {i : Nat} {x : Int × Int} {T : Int} (hx : xs[i]? = some x) (hb : Below w.heap.size (w.setCell ⟨C, 0, none⟩ (.int .i64 T)) w') (h : p1 ∧ p2 ∧ Ba a w0 C b off xs by' w) :
    w'.cell? ⟨b, off + i * 2, none⟩ = some (.int .i64 x.1) ∧ w'.cell? ⟨b, off + i * 2 + 1, none⟩ = some (.int .i64 x.2) ∧ Ba a w0 C b off xs by' w' :=
  ⟨((h.2.2.set T hb).st i x hx).1, ((h.2.2.set T hb).st i x hx).2, h.2.2.set T hb⟩
theorem Inv.below {a : Nat → Addr} {w0 w w' : World} {C b off : Nat} {xs : List (Int × Int)} {by' : Int} {j : Nat} {T : Int} {v : Value} {all : List (Int × Int)} (h : Inv a w0 C b off xs by' j T v all w) (hb : Below w.heap.size w w') : Inv a w0 C b off xs by' j T v all w' :=
  ⟨h.ba.below hb, (hb.cell h.ba.lt).trans h.k0, h.own.kept (row := none) ⟨hb.os, hb.tape, hb.output, hb.size, fun k hk _ => hb.block k hk⟩ (by cases hv : v.ownBlock <;> simp), h.t0, h.t1, h.le, h.len⟩

theorem Inv.set {a : Nat → Addr} {w0 w w' : World} {C b off : Nat} {xs : List (Int × Int)} {by' : Int} {j : Nat} {T : Int} {v : Value} {all : List (Int × Int)} (h : Inv a w0 C b off xs by' j T v all w) (T' : Int) (h1 : T ≤ T') (h2 : T' ≤ 1073741824) (hb : Below w.heap.size (w.setCell ⟨C, 0, none⟩ (.int .i64 T')) w') : Inv a w0 C b off xs by' j T' v all w' := by
  have hlt := h.ba.lt
  refine ⟨h.ba.set T' hb, (hb.cell hlt).trans (World.cell?_setCell_same _ _ _ h.k0), ?_, by have := h.t0; omega, h2, fun x hx => Int.le_trans (h.le x hx) h1, h.len⟩
  refine h.own.kept (row := some C) ⟨hb.os, hb.tape, hb.output, by have := hb.size; simpa using this, fun k hk hne => (hb.block k hk).trans (Below.heap_setCell _ _ _ _ (fun e => hne (by rw [e])))⟩ ?_
  rcases hv : v.ownBlock with _ | g
  · exact .inl rfl
  · refine .inr (fun e => ?_)
    have := (h.own.lt g hv).1
    cases e
    omega
theorem infoStamp : (Tryd.prog.info? 23).map (fun i => (i.zero, i.size, i.bytes)) = some (some (.agg #[.int .i64 0, .int .i64 0]), 2, 16) := by kernel_rfl

theorem Ba.mid {a : Nat → Addr} {w0 w w' : World} {C b off : Nat} {xs : List (Int × Int)} {by' : Int} (h : Ba a w0 C b off xs by' w) (hb : Below (C + 1) w w') : Ba a w0 C b off xs by' w' := by
  have hl := h.low
  have hl2 := h.lt
  have hb2 := h.bl
  have h2 : Below w0.heap.size w0 w' := h.bel.trans (hb.mono (by omega))
  exact ⟨h.er0.below h2, h.tv0.below h2, h2, by have := hb.size; omega, hl, (hb.cell (by show C < _; omega)).trans h.k1, (hb.frozen (by show C < _; omega)).trans h.kf, h.st.keep (hb.block b (by omega)), h.bl, h.er0, h.tv0⟩

theorem Inv.app {a : Nat → Addr} {w0 w w' : World} {C b off : Nat} {xs : List (Int × Int)} {by' : Int} {j : Nat} {T : Int} {v v' : Value} {all : List (Int × Int)} (h : Inv a w0 C b off xs by' j T v all w) (t bb : Int) (ht : t ≤ T) {o : Obj}
    (hown : w'.ownsRow (C + 1) 23 2 v' (all.length + 1) (cellsOf all ++ [.int .i64 t, .int .i64 bb])) (hg : (w.alloc o).grownBy w' v.ownBlock) : Inv a w0 C b off xs by' (j + 1) T v' (all ++ [(t, bb)]) w' := by
  have hlt := h.ba.lt
  have hb : Below (C + 1) w w' := ((Below.refl (C + 1) w).alloc (by omega) o).grown hg (by simp; omega) (fun k hk => (h.own.lt k hk).1)
  refine ⟨h.ba.mid hb, (hb.cell (by show C < _; omega)).trans h.k0, ?_, h.t0, h.t1, ?_, by have := h.len; simp; omega⟩
  · simpa [cellsOf] using hown
  · intro x hx
    rcases List.mem_append.1 hx with hx | hx
    · exact h.le x hx
    · simp at hx; subst hx; exact ht

theorem isLess_true (t b t' b' : Int) (w : World) (h : t < t') :
    Calls Tryd.prog 28 #[stampV t b, stampV t' b'] w fun e w' => e = .returned (.bool true) ∧ Below w.heap.size w w' :=
  (isLess_any t b t' b' w).mono fun _ _ ⟨he, hb⟩ => ⟨by rw [he]; simp [h], hb⟩

theorem cellsOf_at (all : List (Int × Int)) (k : Nat) (x : Int × Int) (h : all[k]? = some x) : (cellsOf all)[k * 2]? = some (.int .i64 x.1) ∧ (cellsOf all)[k * 2 + 1]? = some (.int .i64 x.2) := by
  induction all generalizing k with
  | nil => simp at h
  | cons y ys ih =>
    cases k with
    | zero => simp at h; subst h; exact ⟨rfl, rfl⟩
    | succ k =>
      have := ih k (by simpa using h)
      rw [show (k + 1) * 2 = k * 2 + 1 + 1 by omega]
      exact this

/-- what stands in the inner loop: the new stamp's own variable too -/
structure Inn (a : Nat → Addr) (w0 : World) (C b off : Nat) (xs : List (Int × Int)) (by' : Int) (j : Nat) (T : Int) (v : Value) (all : List (Int × Int)) (S : Nat) (w : World) : Prop where
  inv : Inv a w0 C b off xs by' j T v all w
  s1 : w.cell? ⟨S, 0, none⟩ = some (.int .i64 T)
  s2 : w.cell? ⟨S, 1, none⟩ = some (.int .i64 by')
  sl : S < w.heap.size
theorem Inn.below {a : Nat → Addr} {w0 w w' : World} {C b off : Nat} {xs : List (Int × Int)} {by' : Int} {j : Nat} {T : Int} {v : Value} {all : List (Int × Int)} {S : Nat} (h : Inn a w0 C b off xs by' j T v all S w) (hb : Below w.heap.size w w') : Inn a w0 C b off xs by' j T v all S w' :=
  ⟨h.inv.below hb, (hb.cell h.sl).trans h.s1, (hb.cell h.sl).trans h.s2, Nat.lt_of_lt_of_le h.sl hb.size⟩
theorem Inn.five {a : Nat → Addr} {w0 w : World} {C b off : Nat} {xs : List (Int × Int)} {by' : Int} {j : Nat} {T : Int} {v : Value} {all : List (Int × Int)} {S : Nat} (h : Inn a w0 C b off xs by' j T v all S w) {g : Nat} (hg : v.ownBlock = some g) {k : Nat} {x : Int × Int} (hx : all[k]? = some x) :
    w.cell? ⟨g, k * 2, none⟩ = some (.int .i64 x.1) ∧ w.cell? ⟨g, k * 2 + 1, none⟩ = some (.int .i64 x.2) ∧ w.cell? ⟨S, 0, none⟩ = some (.int .i64 T) ∧ w.cell? ⟨S, 1, none⟩ = some (.int .i64 by') ∧ Inn a w0 C b off xs by' j T v all S w := by
  have h1 := h.inv.own.cells hg (k * 2) _ (cellsOf_at all k x hx).1
  have h2 := h.inv.own.cells hg (k * 2 + 1) _ (cellsOf_at all k x hx).2
  rw [Addr.add_lit] at h1 h2
  simp only [Nat.zero_add] at h1 h2
  exact ⟨h1, h2, h.s1, h.s2, h⟩
theorem Inn.next {a : Nat → Addr} {w0 w w' : World} {C b off : Nat} {xs : List (Int × Int)} {by' : Int} {j : Nat} {T : Int} {v : Value} {all : List (Int × Int)} {S : Nat} {g : Nat} (hg : v.ownBlock = some g) {k : Nat} {x : Int × Int} (hx : all[k]? = some x) {p1 p2 p3 p4 : Prop} (hb : Below w.heap.size w w') (h : p1 ∧ p2 ∧ p3 ∧ p4 ∧ Inn a w0 C b off xs by' j T v all S w) :
    w'.cell? ⟨g, k * 2, none⟩ = some (.int .i64 x.1) ∧ w'.cell? ⟨g, k * 2 + 1, none⟩ = some (.int .i64 x.2) ∧ w'.cell? ⟨S, 0, none⟩ = some (.int .i64 T) ∧ w'.cell? ⟨S, 1, none⟩ = some (.int .i64 by') ∧ Inn a w0 C b off xs by' j T v all S w' :=
  (h.2.2.2.2.below hb).five hg hx
theorem Inv.form {a : Nat → Addr} {w0 w : World} {C b off : Nat} {xs : List (Int × Int)} {by' : Int} {j : Nat} {T : Int} {v : Value} {all : List (Int × Int)} (h : Inv a w0 C b off xs by' j T v all w) : (v = .slice none 0 0 ∧ all = []) ∨ ∃ g cp, v = .slice (some ⟨g, 0, none⟩) all.length cp := by
  rcases h.own.2 with ⟨h1, h2⟩ | ⟨g, cp, cur, h1, _⟩
  · exact .inl ⟨h1, List.eq_nil_of_length_eq_zero h2⟩
  · exact .inr ⟨g, cp, h1⟩

theorem walk (a : Nat → Addr) (by' : Int) (b off n c : Nat) (xs : List (Int × Int)) (w : World) (hE : Errs a allErrs w) (hT : TypeVar w) (h1 : 0 ≤ by') (h2 : by' < 4) (hn : xs.length = n) (hn1 : n ≤ 100) (hb : b < w.heap.size) (hx : StampsAt w b off xs) :
    Calls Tryd.prog 8 #[.int .i64 by', .slice (some ⟨b, off, none⟩) n c] w fun e w' => e = .returned (.bool true) ∧ Below w.heap.size w w' := by
  have HE := Lib.hid hE
  have HT := Lib.hid hT
  have HN := Lib.hid hn
  clear hE hT hn
  go_enter Tryd.func8, Tryd.ntmps8
  go_wp2_with fail
  refine (stamped_any _).mono ?_
  rintro e w1 ⟨rfl, hb1⟩
  have E1 := HE.out.below hb1
  have T1 := HT.out.below hb1
  go_wp2_with fail
  refine (clockNew_ok by' _ h1 h2).mono ?_
  rintro e w2 ⟨rfl, rfl⟩
  go_wp2_with fail
  have hl1 : w.heap.size ≤ w1.heap.size := hb1.size
  have hInv : Inv a w w1.heap.size b off xs by' 0 0 (.slice none 0 0) [] (w1.alloc (.cells #[.int .i64 0, .int .i64 by'] 121)) := by
    refine ⟨⟨E1.alloc _, T1.alloc _, hb1.alloc hl1 _, by simp, hl1, by simp [go_sem], by simp [go_sem], ?_, hb, HE.out, HT.out⟩, by simp [go_sem], World.ownsRow_nil _ _ _ _, by omega, by omega, by simp, by simp⟩
    exact hx.keep ((Below.heap_alloc _ _ b (by omega)).trans (hb1.block b hb))
  clear E1 T1 hb1 HE HT hx
  have HI := Lib.hid hInv
  clear hInv
  go_loopw [8, 9, 10] (fun v8 v9 v10 wr => ∃ (j : Nat) (T : Int) (all : List (Int × Int)), j ≤ n ∧ v8 = .int .i64 T ∧ v10 = .int .i64 j ∧ Inv a w w1.heap.size b off xs by' j T v9 all wr) (fun _ _ v10 _ => n - (intOf v10).toNat)
  case atStart => exact ⟨0, 0, [], by omega, rfl, rfl, HI.out⟩
  case round =>
    clear HI
    obtain ⟨j, T, all, hj, rfl, rfl, hI⟩ := hrel
    by_cases hlt : j < n
    · have hjx : j < xs.length := by have := HN.out; omega
      obtain ⟨⟨t, bb⟩, hx⟩ : ∃ x, xs[j]? = some x := ⟨_, List.getElem?_eq_getElem hjx⟩
      have HX := Lib.hid hx
      clear hx hjx
      have c1 := (hI.ba.st j (t, bb) HX.out).1
      have c2 := (hI.ba.st j (t, bb) HX.out).2
      simp only at c1 c2
      have i0 : (0 : Int) ≤ (j : Int) := by omega
      have i1 : (j : Int) < (n : Int) := by omega
      by_cases ht : t = 0
      · subst ht
        have k0 := hI.k0
        have k1 := hI.ba.k1
        have kf := hI.ba.kf
        have hsz := hI.ba.lt
        have ht0 := hI.t0
        by_cases hT : T < 1073741824
        · go_wp2_with fail
          refine (clockTick_ok w1.heap.size T by' _ k0 k1 kf hsz ht0 hT).mono ?_
          rintro e wA ⟨rfl, hbA⟩
          have hle := hI.le
          have hI1 := hI.set (T + 1) (by omega) (by omega) hbA
          clear hI k0 k1 kf hsz c1 c2 hbA
          go_wp2_with fail
          have hI2 := hI1.below ((Below.refl _ _).alloc (Nat.le_refl _) (.cells #[.int .i64 (T + 1), .int .i64 by'] 23))
          have s1 : (wA.alloc (.cells #[.int .i64 (T + 1), .int .i64 by'] 23)).cell? ⟨wA.heap.size, 0, none⟩ = some (.int .i64 (T + 1)) := by simp [go_sem]
          have s2 : (wA.alloc (.cells #[.int .i64 (T + 1), .int .i64 by'] 23)).cell? ⟨wA.heap.size, 1, none⟩ = some (.int .i64 by') := by simp [go_sem]
          have hs3 : (wA.alloc (.cells #[.int .i64 (T + 1), .int .i64 by'] 23)).heap.size = wA.heap.size + 1 := by simp
          obtain ⟨W, hW⟩ : ∃ W, W = wA.alloc (.cells #[.int .i64 (T + 1), .int .i64 by'] 23) := ⟨_, rfl⟩
          rw [← hW] at hI2 s1 s2 hs3 ⊢
          clear hW hI1
          have hN : Inn a w w1.heap.size b off xs by' j (T + 1) u9 all wA.heap.size W := ⟨hI2, s1, s2, by omega⟩
          clear hI2 s1 s2 hs3
          have HNN := Lib.hid hN
          have hal := hN.inv.len
          clear hN
          rcases HNN.out.inv.form with ⟨hv, hall⟩ | ⟨g, cp, hv⟩
          · subst hv hall
            have hN := HNN.out
            go_loopw [13] (fun v13 wq => v13 = .int .i64 0 ∧ Inn a w w1.heap.size b off xs by' j (T + 1) (.slice none 0 0) [] wA.heap.size wq) (fun _ _ => 0)
            case atStart => exact ⟨rfl, hN⟩
            case round =>
              clear hN HNN
              obtain ⟨rfl, hN⟩ := hrel
              obtain ⟨i0', hi, hz0, hz1, hz2⟩ := info_parts infoStamp
              have hsz2 : w1.heap.size < wr.heap.size := hN.inv.ba.lt
              have s1 := hN.s1
              have s2 := hN.s2
              have hI2 := hN.inv
              have hal2 := hI2.len
              have ht0 := hI2.t0
              go_wp2_with (at_builtin; refine wpList_append_own _ rfl _ _ 56 rfl (w1.heap.size + 1) 23 i0' (.agg #[.int .i64 0, .int .i64 0]) 2 16 Tryd.underlying56 hi hz0 hz1 hz2 rfl (by decide) _ _ _ rfl (hI2.own.alloc _) ⟨wr.heap.size, 0, none⟩ 1 1 [.int .i64 (T + 1), .int .i64 by'] rfl rfl ?f1 ?f2 ?f3 ?f4 ?f5 ?_)
              case f1 =>
                intro jj u hjj
                match jj, hjj with
                | 0, hjj => simp at hjj; subst hjj; simp [Addr.add]
                | 1, hjj => simp at hjj; subst hjj; simp [Addr.add]
              case f2 => intro u hu; simp at hu; rcases hu with rfl | rfl <;> rfl
              case f3 => unfold maxLen; (try simp only [List.length_nil] at *); omega
              case f4 => omega
              case f5 => simp; omega
              intro v' wF hown' hgrow _
              have hI3 := hI2.app (T + 1) by' (by omega) hown' hgrow
              clear hI2 s1 s2 hown' hgrow hi hz0 hz1 hz2 hsz2
              have k0 := hI3.k0
              go_wp2_with (go_at_call 35; refine (clockTime_any w1.heap.size _ _ k0).mono ?_; rintro e wE ⟨rfl, rfl⟩)
              go_roundw
              case rel => exact ⟨j + 1, _, _, by omega, rfl, by go_num, hI3⟩
              case measure => simp [intOf]; omega
          · subst hv
            go_loopw [13] (fun v13 wq => ∃ k : Nat, k ≤ all.length ∧ v13 = .int .i64 k ∧ Inn a w w1.heap.size b off xs by' j (T + 1) (.slice (some ⟨g, 0, none⟩) all.length cp) all wA.heap.size wq) (fun v13 _ => all.length - (intOf v13).toNat)
            case atStart => exact ⟨0, by omega, rfl, HNN.out⟩
            case round =>
              clear HNN
              obtain ⟨k, hk, rfl, hN⟩ := hrel
              by_cases hkl : k < all.length
              · obtain ⟨⟨x1, x2⟩, hx⟩ : ∃ x, all[k]? = some x := ⟨_, List.getElem?_eq_getElem hkl⟩
                have hxT : x1 < T + 1 := by
                  have := hle (x1, x2) (List.mem_of_getElem? hx)
                  simp only at this
                  omega
                have q0 : (0 : Int) ≤ (k : Int) := by omega
                have q1 : (k : Int) < (all.length : Int) := by omega
                have HXX := Lib.hid hx
                clear hx
                go_wp2_with fail
                go_region_held3 (fun w' => w'.cell? ⟨g, k * 2, none⟩ = some (.int .i64 x1) ∧ w'.cell? ⟨g, k * 2 + 1, none⟩ = some (.int .i64 x2) ∧ w'.cell? ⟨wA.heap.size, 0, none⟩ = some (.int .i64 (T + 1)) ∧ w'.cell? ⟨wA.heap.size, 1, none⟩ = some (.int .i64 by') ∧ Inn a w w1.heap.size b off xs by' j (T + 1) (.slice (some ⟨g, 0, none⟩) all.length cp) all wA.heap.size w')
                  ((first | exact (hN.below (Below.drew (Below.refl _ _))).five rfl HXX.out | exact Inn.next rfl HXX.out (by assumption) (by assumption)))
                  (first | (go_at_call 28; refine (isLess_true x1 x2 (T + 1) by' _ hxT).mono ?_; rintro e wB ⟨rfl, hbB⟩))
                have hN2 := hN.below ((Below.drew (Below.refl _ _)).trans (hbB.mono (Nat.le_refl _)))
                clear hN hbB
                go_wp2
                go_roundw
                case rel => exact ⟨k + 1, by omega, by go_num, hN2⟩
                case measure => simp [intOf]; omega
              · obtain rfl : k = all.length := by omega
                obtain ⟨i0', hi, hz0, hz1, hz2⟩ := info_parts infoStamp
                have hsz2 : w1.heap.size < wr.heap.size := hN.inv.ba.lt
                have s1 := hN.s1
                have s2 := hN.s2
                have hI2 := hN.inv
                have hal2 := hI2.len
                have ht0 := hI2.t0
                go_wp2_with (at_builtin; refine wpList_append_own _ rfl _ _ 56 rfl (w1.heap.size + 1) 23 i0' (.agg #[.int .i64 0, .int .i64 0]) 2 16 Tryd.underlying56 hi hz0 hz1 hz2 rfl (by decide) _ _ _ rfl (hI2.own.alloc _) ⟨wr.heap.size, 0, none⟩ 1 1 [.int .i64 (T + 1), .int .i64 by'] rfl rfl ?e1 ?e2 ?e3 ?e4 ?e5 ?_)
                case e1 =>
                  intro jj u hjj
                  match jj, hjj with
                  | 0, hjj => simp at hjj; subst hjj; simp [Addr.add]
                  | 1, hjj => simp at hjj; subst hjj; simp [Addr.add]
                case e2 => intro u hu; simp at hu; rcases hu with rfl | rfl <;> rfl
                case e3 => unfold maxLen; (try simp only [List.length_nil] at *); omega
                case e4 => omega
                case e5 => simp; omega
                intro v' wF hown' hgrow _
                have hI3 := hI2.app (T + 1) by' (by omega) hown' hgrow
                clear hI2 s1 s2 hown' hgrow hi hz0 hz1 hz2 hsz2
                have k0 := hI3.k0
                go_wp2_with (go_at_call 35; refine (clockTime_any w1.heap.size _ _ k0).mono ?_; rintro e wE ⟨rfl, rfl⟩)
                go_roundw
                case rel => exact ⟨j + 1, _, _, by omega, rfl, by go_num, hI3⟩
                case measure => simp [intOf]; omega
        · have hT1 : T = 1073741824 := by have := hI.t1; omega
          subst hT1
          go_wp2_with fail
          refine (clockTick_full w1.heap.size 1073741824 _ (a 8) (hI.ba.errs 8 (by simp)) k0 (by omega)).mono ?_
          rintro e wA ⟨rfl, hbA⟩
          have hI1 := hI.below hbA
          clear hI k0 k1 kf hsz c1 c2 hbA
          go_wp2_with fail
          have hI2 := hI1.below ((Below.refl _ _).alloc (Nat.le_refl _) (.cells #[.int .i64 0, .int .i64 0] 23))
          have s1 : (wA.alloc (.cells #[.int .i64 0, .int .i64 0] 23)).cell? ⟨wA.heap.size, 0, none⟩ = some (.int .i64 0) := by simp [go_sem]
          have s2 : (wA.alloc (.cells #[.int .i64 0, .int .i64 0] 23)).cell? ⟨wA.heap.size, 1, none⟩ = some (.int .i64 0) := by simp [go_sem]
          have hs3 : (wA.alloc (.cells #[.int .i64 0, .int .i64 0] 23)).heap.size = wA.heap.size + 1 := by simp
          obtain ⟨W, hW⟩ : ∃ W, W = wA.alloc (.cells #[.int .i64 0, .int .i64 0] 23) := ⟨_, rfl⟩
          rw [← hW] at hI2 s1 s2 hs3 ⊢
          clear hW hI1
          refine (coded1_any a (errV (a 8)) 8 (-1) 8 _ (.bare 8 (by omega) (by omega)) hI2.ba.errs hI2.ba.tv).mono ?_
          rintro e wB ⟨rfl, hbB⟩
          have hI3 := hI2.below hbB
          have hsl : wA.heap.size < W.heap.size := by omega
          have c1 : wB.cell? ⟨wA.heap.size, 0, none⟩ = some (.int .i64 0) := (hbB.cell hsl).trans s1
          have c2 : wB.cell? ⟨wA.heap.size, 1, none⟩ = some (.int .i64 0) := (hbB.cell hsl).trans s2
          clear hI2 s1 s2 hs3 hsl hbB
          go_wp2_with fail
          go_roundw
          case rel => exact ⟨j + 1, _, _, by omega, rfl, by go_num, ⟨hI3.ba, hI3.k0, hI3.own, hI3.t0, hI3.t1, hI3.le, by have := hI3.len; omega⟩⟩
          case measure => simp [intOf]; omega
      · have ht' : (t != 0) = true := by simp [ht]
        by_cases hok : StampOk t bb
        · go_wp2_with fail
          go_region_held3 (fun w' => w'.cell? ⟨b, off + j * 2, none⟩ = some (.int .i64 t) ∧ w'.cell? ⟨b, off + j * 2 + 1, none⟩ = some (.int .i64 bb) ∧ Ba a w w1.heap.size b off xs by' w')
            ((first | exact Ba.start3 HX.out hI.ba | exact Ba.keep3 HX.out (by assumption) (by assumption) | exact Ba.set3 HX.out (by assumption) (by assumption)))
            (first
              | (go_at_call 33; refine (clockHear_ok w1.heap.size T t bb _ ?_ ?_ hok).mono ?_; (exact hI.k0); (exact hI.ba.kf); rintro e wA ⟨rfl, hbA⟩)
              | (go_at_call 30; refine (stampError_ok t bb _ hok).mono ?_; rintro e wB ⟨rfl, hbB⟩)
              | (go_at_call 26; refine (coded1_any a .nilIface 0 (-1) 0 _ .nil ?_ ?_).mono ?_; (exact (And.right (And.right (by assumption : _ ∧ _ ∧ Ba a w w1.heap.size b off xs by' _))).errs); (exact (And.right (And.right (by assumption : _ ∧ _ ∧ Ba a w w1.heap.size b off xs by' _))).tv); rintro e wC ⟨rfl, hbC⟩))
          have hm1 : max T t ≤ 1073741824 := by have := hI.t1; have := hok.2.1; omega
          have hbA' : Below wr.heap.size (wr.setCell ⟨w1.heap.size, 0, none⟩ (.int .i64 (max T t))) wA := ⟨hbA.os, hbA.tape, hbA.output, hbA.size, hbA.block⟩
          have hI1 : Inv a w w1.heap.size b off xs by' j (max T t) u9 all wC := hI.set (max T t) (by omega) hm1 (hbA'.trans ((hbB.mono (by have := hbA'.size; simpa using this)).trans (hbC.mono (by have := hbA'.size; have := hbB.size; simp at *; omega))))
          by_cases htT : t ≤ T
          · rw [show max T t = T by omega] at hI1
            clear hI c1 c2 hbA hbA' hbB hbC
            have c1 := (hI1.ba.st j (t, bb) HX.out).1
            have c2 := (hI1.ba.st j (t, bb) HX.out).2
            simp only at c1 c2
            go_wp2_with fail
            refine (stampError_ok t bb _ hok).mono ?_
            rintro e wD ⟨rfl, hbD⟩
            have hI2 := hI1.below hbD
            clear hI1 c1 c2 hbD
            have c1 := (hI2.ba.st j (t, bb) HX.out).1
            have c2 := (hI2.ba.st j (t, bb) HX.out).2
            simp only at c1 c2
            obtain ⟨i0', hi, hz0, hz1, hz2⟩ := info_parts infoStamp
            have hal := hI2.len
            have hsz2 : w1.heap.size < wD.heap.size := hI2.ba.lt
            go_wp2_with (at_builtin; refine wpList_append_own _ rfl _ _ 56 rfl (w1.heap.size + 1) 23 i0' (.agg #[.int .i64 0, .int .i64 0]) 2 16 Tryd.underlying56 hi hz0 hz1 hz2 rfl (by decide) _ _ _ rfl (hI2.own.alloc _) ⟨wD.heap.size, 0, none⟩ 1 1 [.int .i64 t, .int .i64 bb] rfl rfl ?c1 ?c2 ?c3 ?c4 ?c5 ?_)
            case c1 =>
              intro jj u hjj
              match jj, hjj with
              | 0, hjj => simp at hjj; subst hjj; simp [Addr.add]
              | 1, hjj => simp at hjj; subst hjj; simp [Addr.add]
            case c2 => intro u hu; simp at hu; rcases hu with rfl | rfl <;> rfl
            case c3 => unfold maxLen; omega
            case c4 => omega
            case c5 => simp; omega
            intro v' wF hown' hgrow _
            have hI3 := hI2.app t bb (by omega) hown' hgrow
            clear hI2 c1 c2 hown' hgrow hi hz0 hz1 hz2 hal hsz2
            have c1 := (hI3.ba.st j (t, bb) HX.out).1
            have c2 := (hI3.ba.st j (t, bb) HX.out).2
            have k0 := hI3.k0
            simp only at c1 c2
            go_wp2_with (go_at_call 35; refine (clockTime_any w1.heap.size _ _ k0).mono ?_; rintro e wE ⟨rfl, rfl⟩)
            go_roundw
            case rel => exact ⟨j + 1, _, all ++ [(t, bb)], by omega, rfl, by go_num, hI3⟩
            case measure => simp [intOf]; omega
          · rw [show max T t = t by omega] at hI1
            clear hI c1 c2 hbA hbA' hbB hbC
            have c1 := (hI1.ba.st j (t, bb) HX.out).1
            have c2 := (hI1.ba.st j (t, bb) HX.out).2
            simp only at c1 c2
            go_wp2_with fail
            refine (stampError_ok t bb _ hok).mono ?_
            rintro e wD ⟨rfl, hbD⟩
            have hI2 := hI1.below hbD
            clear hI1 c1 c2 hbD
            have c1 := (hI2.ba.st j (t, bb) HX.out).1
            have c2 := (hI2.ba.st j (t, bb) HX.out).2
            simp only at c1 c2
            obtain ⟨i0', hi, hz0, hz1, hz2⟩ := info_parts infoStamp
            have hal := hI2.len
            have hsz2 : w1.heap.size < wD.heap.size := hI2.ba.lt
            go_wp2_with (at_builtin; refine wpList_append_own _ rfl _ _ 56 rfl (w1.heap.size + 1) 23 i0' (.agg #[.int .i64 0, .int .i64 0]) 2 16 Tryd.underlying56 hi hz0 hz1 hz2 rfl (by decide) _ _ _ rfl (hI2.own.alloc _) ⟨wD.heap.size, 0, none⟩ 1 1 [.int .i64 t, .int .i64 bb] rfl rfl ?d1 ?d2 ?d3 ?d4 ?d5 ?_)
            case d1 =>
              intro jj u hjj
              match jj, hjj with
              | 0, hjj => simp at hjj; subst hjj; simp [Addr.add]
              | 1, hjj => simp at hjj; subst hjj; simp [Addr.add]
            case d2 => intro u hu; simp at hu; rcases hu with rfl | rfl <;> rfl
            case d3 => unfold maxLen; omega
            case d4 => omega
            case d5 => simp; omega
            intro v' wF hown' hgrow _
            have hI3 := hI2.app t bb (by omega) hown' hgrow
            clear hI2 c1 c2 hown' hgrow hi hz0 hz1 hz2 hal hsz2
            have c1 := (hI3.ba.st j (t, bb) HX.out).1
            have c2 := (hI3.ba.st j (t, bb) HX.out).2
            have k0 := hI3.k0
            simp only at c1 c2
            go_wp2_with (go_at_call 35; refine (clockTime_any w1.heap.size _ _ k0).mono ?_; rintro e wE ⟨rfl, rfl⟩)
            go_roundw
            case rel => exact ⟨j + 1, _, all ++ [(t, bb)], by omega, rfl, by go_num, hI3⟩
            case measure => simp [intOf]; omega
        · go_wp2_with fail
          go_region_held3 (fun w' => w'.cell? ⟨b, off + j * 2, none⟩ = some (.int .i64 t) ∧ w'.cell? ⟨b, off + j * 2 + 1, none⟩ = some (.int .i64 bb) ∧ Ba a w w1.heap.size b off xs by' w')
            ((first | exact Ba.start3 HX.out hI.ba | exact Ba.keep3 HX.out (by assumption) (by assumption)))
            (first
              | (go_at_call 33; refine (clockHear_bad w1.heap.size t bb _ (a 2) ?_ hok).mono ?_; (exact (And.right (And.right (by assumption : _ ∧ _ ∧ Ba a w w1.heap.size b off xs by' _))).errs 2 (by simp)); rintro e wA ⟨rfl, hbA⟩)
              | (go_at_call 30; refine (stampError_bad t bb _ hok).mono ?_; rintro e wB ⟨rfl, hbB⟩)
              | (go_at_call 26; refine (coded1_any a (errV (a 2)) 2 (-1) 2 _ (.bare 2 (by omega) (by omega)) ?_ ?_).mono ?_; (exact (And.right (And.right (by assumption : _ ∧ _ ∧ Ba a w w1.heap.size b off xs by' _))).errs); (exact (And.right (And.right (by assumption : _ ∧ _ ∧ Ba a w w1.heap.size b off xs by' _))).tv); rintro e wC ⟨rfl, hbC⟩))
          have hI1 := hI.below ((((Below.refl _ wr).drew).trans (hbA.mono (by simp))).trans ((hbB.mono (by have := hbA.size; simpa using this)).trans (hbC.mono (by have := hbA.size; have := hbB.size; simp at *; omega))))
          clear hI c1 c2 hbA hbB hbC
          have c1 := (hI1.ba.st j (t, bb) HX.out).1
          have c2 := (hI1.ba.st j (t, bb) HX.out).2
          simp only at c1 c2
          go_wp2_with (go_at_call 30; refine (stampError_bad t bb _ hok).mono ?_; rintro e wD ⟨rfl, hbD⟩)
          have hI2 := hI1.below hbD
          clear hI1 c1 c2 hbD
          have k0 := hI2.k0
          go_wp2_with (go_at_call 35; refine (clockTime_any w1.heap.size T _ k0).mono ?_; rintro e wE ⟨rfl, rfl⟩)
          go_roundw
          case rel => exact ⟨j + 1, T, all, by omega, rfl, by go_num, ⟨hI2.ba, hI2.k0, hI2.own, hI2.t0, hI2.t1, hI2.le, by have := hI2.len; omega⟩⟩
          case measure => simp [intOf]; omega
    · have hbel := hI.ba.bel
      have i1 : ¬ (j : Int) < (n : Int) := by omega
      clear hI
      go_wp2
      go_ret
      exact ⟨by simp, hbel⟩
end stampClocks
end Go.Proofs.YthmgdpimfeigpaaDoor
