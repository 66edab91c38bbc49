/- StampClocks: the walks outside the document's bounds, and the argument opened. -/
import Derived.Test.YthmgdpimfeigpaaDoorStampClocksWalk
import Derived.Deep.SlicePairs
namespace Go.Proofs.YthmgdpimfeigpaaDoor
open Go Go.RowKit Go.WideShapes
namespace stampClocks
set_option linter.unusedVariables false
set_option linter.unusedSimpArgs false
set_option maxHeartbeats 4000000
set_option maxRecDepth 100000

theorem walk_long (by' : Int) (p : Option Addr) (n c : Nat) (w : World) (hn : 100 < n) :
    Calls Tryd.prog 8 #[.int .i64 by', .slice p n c] w fun e w' => e = .returned (.bool true) ∧ Below w.heap.size w w' := by
  go_enter Tryd.func8, Tryd.ntmps8
  have i1 : (100 : Int) < (n : Int) := by omega
  go_wp2_with fail
  refine (stamped_any _).mono ?_
  rintro e w1 ⟨rfl, hb1⟩
  go_wp2
  go_ret
  exact ⟨by simp, hb1⟩

theorem walk_bad (a : Nat → Addr) (by' : Int) (p : Option Addr) (n c : Nat) (w : World) (hE : Errs a allErrs w) (hT : TypeVar w) (h : by' < 0 ∨ 4 ≤ by') (hn : n ≤ 100) :
    Calls Tryd.prog 8 #[.int .i64 by', .slice p n c] w fun e w' => e = .returned (.bool true) ∧ Below w.heap.size w w' := by
  have HE := Lib.hid hE
  have HT := Lib.hid hT
  clear hE hT
  have HH := Lib.hid h
  rcases h with h | h <;>
  · go_enter Tryd.func8, Tryd.ntmps8
    have i1 : ¬ (100 : Int) < (n : Int) := by omega
    go_wp2_with fail
    refine (stamped_any _).mono ?_
    rintro e w1 ⟨rfl, hb1⟩
    have E1 := HE.out.below hb1
    have T1 := HT.out.below hb1
    go_wp2_with fail
    refine (clockNew_bad by' _ (a 2) (E1 2 (by simp)) HH.out).mono ?_
    rintro e w2 ⟨rfl, hb2⟩
    have E2 := E1.below hb2
    have T2 := T1.below hb2
    have hbb := hb1.trans (hb2.mono hb1.size)
    clear E1 T1 hb1 hb2
    go_wp2_with fail
    refine (coded1_any a (errV (a 2)) 2 (-1) 2 _ (.bare 2 (by omega) (by omega)) E2 T2).mono ?_
    rintro e w3 ⟨rfl, hb3⟩
    have hB := hbb.trans (hb3.mono hbb.size)
    clear E2 T2 hbb hb3
    go_wp2
    go_ret
    exact ⟨by simp, hB⟩

theorem walk_zero (a : Nat → Addr) (by' : Int) (p : Option Addr) (c : Nat) (w : World) (h1 : 0 ≤ by') (h2 : by' < 4) :
    Calls Tryd.prog 8 #[.int .i64 by', .slice p 0 c] w fun e w' => e = .returned (.bool true) ∧ Below w.heap.size w w' := by
  go_enter Tryd.func8, Tryd.ntmps8
  go_wp2_with fail
  refine (stamped_any _).mono ?_
  rintro e w1 ⟨rfl, hb1⟩
  go_wp2_with fail
  refine (clockNew_ok by' _ h1 h2).mono ?_
  rintro e w2 ⟨rfl, rfl⟩
  have hB := hb1.alloc hb1.size (.cells #[.int .i64 0, .int .i64 by'] 121)
  go_wp2_with fail
  go_loopw [10] (fun v10 wr => v10 = .int .i64 0 ∧ Below w.heap.size w wr) (fun _ _ => 0)
  case atStart => exact ⟨rfl, hB⟩
  case round =>
    obtain ⟨rfl, hB'⟩ := hrel
    clear hB hb1
    go_wp2
    go_ret
    exact ⟨by simp, hB'⟩

theorem open_stamps {H : Type} {enc : TypeId × Value → H} {W : World} {r : Reach} {b0 base : Nat} {v : Value} {d : DataW H} {p : List MemPlace}
    (o : Value.okWide Tryd.prog W r b0 56 v) (h : DataW.Trod enc Tryd.prog W base (fun _ => true) true 56 v d p) :
    ∃ A n c, v = .slice A n c ∧ (n = 0 ∨ ∃ b off xs, A = some ⟨b, off, none⟩ ∧ xs.length = n ∧ b < W.heap.size ∧ StampsAt W b off xs) := by
  obtain ⟨A, n, c, rfl⟩ := okWide_slice Tryd.underlying56 o
  refine ⟨A, n, c, rfl, ?_⟩
  obtain ⟨fuel, hf⟩ := h
  rcases Deep.open_slice_pairs Tryd.underlying56 Tryd.underlying23 (by kernel_rfl) rfl rfl (by kernel_rfl) (by kernel_rfl) hf with ⟨e, _⟩ | ⟨⟨b, off, s⟩, len, cap, m, k, V0, V1, D0, D1, P0, P1, e, _, hl, hc, hm, _, hx⟩
  · simp [Value.cells] at e
    exact .inl e.2.1
  · simp [Value.cells] at e
    obtain ⟨rfl, rfl, rfl⟩ := e
    simp only [if_true] at hm
    subst hm
    rcases Nat.eq_zero_or_pos n with h0 | h0
    · exact .inl h0
    right
    have hs : s = none := by
      have := (hx 0 (by omega)).1
      cases s with
      | none => rfl
      | some _ => simp [World.cell?, Addr.add] at this; split at this <;> simp_all
    subst hs
    refine ⟨b, off, (List.range n).map fun i => ((match V0 i with | .int _ t => t | _ => 0), (match V1 i with | .int _ t => t | _ => 0)), rfl, by simp, ?_, ?_⟩
    · have := World.block_lt_of_cell? W _ (hx 0 (by omega)).1
      simpa [Addr.add] using this
    · intro i x hi
      rw [List.getElem?_map] at hi
      obtain ⟨y, hy, rfl⟩ := Option.map_eq_some_iff.1 hi
      obtain ⟨hin, rfl⟩ : i < n ∧ i = y := by
        rcases Nat.lt_or_ge i n with hlt | hge
        · rw [List.getElem?_range hlt] at hy
          exact ⟨hlt, Option.some.inj hy⟩
        · rw [List.getElem?_eq_none (by simp; omega)] at hy
          exact absurd hy (by simp)
      obtain ⟨e0, e1, t0, t1⟩ := hx i (by omega)
      obtain ⟨z0, q0, _, _⟩ := DataW.trod_int Tryd.underlying3 t0
      obtain ⟨z1, q1, _, _⟩ := DataW.trod_int Tryd.underlying3 t1
      simp at q0 q1
      rw [Addr.add_lit] at e0 e1
      rw [q0] at e0 ⊢
      rw [q1] at e1 ⊢
      exact ⟨e0, by rw [Nat.add_assoc]; exact e1⟩

theorem whole (a : Nat → Addr) (by' : Int) (A : Option Addr) (n c : Nat) (w : World) (hE : Errs a allErrs w) (hT : TypeVar w)
    (h : n = 0 ∨ ∃ b off xs, A = some ⟨b, off, none⟩ ∧ xs.length = n ∧ b < w.heap.size ∧ StampsAt w b off xs) :
    Calls Tryd.prog 8 #[.int .i64 by', .slice A n c] w fun e w' => e = .returned (.bool true) ∧ Below w.heap.size w w' := by
  by_cases hn : 100 < n
  · exact walk_long by' A n c w hn
  by_cases hb : 0 ≤ by' ∧ by' < 4
  · rcases h with rfl | ⟨b, off, xs, rfl, hx, hl, hs⟩
    · exact walk_zero a by' A c w hb.1 hb.2
    · exact walk a by' b off n c xs w hE hT hb.1 hb.2 hx (by omega) hl hs
  · exact walk_bad a by' A n c w hE hT (by omega) (by omega)
end stampClocks
end Go.Proofs.YthmgdpimfeigpaaDoor
