/- A tree's log: a range over it from behind. -/
import Derived.Test.YtneggbhjekklhaaDoorTreeDo2
import Derived.RangeFuncNested
import Derived.RangeFuncBound
import Derived.RangeFuncCalls
import Derived.RangeFuncLeaves
import Derived.RangeFuncWrites
import Derived.Shelf.Abstract
import Derived.Shelf.RegionOpen
import Derived.WalkKit
import Derived.OwnWalkIn
import Derived.TacticsInMore
import Derived.LoopNIn
import Derived.LoopIn
namespace Go.Proofs.YtneggbhjekklhaaDoor
open Go Go.RowKit Go.Shelf
set_option linter.unusedVariables false
set_option linter.unusedSimpArgs false
set_option maxHeartbeats 4000000
set_option maxRecDepth 100000

attribute [local go_sem] Oper.semAt_some
/-- a note of a number that Go's int holds -/
abbrev DoneS := { d : DoneT // I64 d.o.nd }
/-- what has come when so many rounds are over: from behind -/
def backF (L : List DoneS) (j : Nat)   : Int × DoneS := (((L.length - 1 - j : Nat) : Int), L[L.length - 1 - j]?.getD ⟨⟨⟨0, 0, 0, 0, 0, 0, ⟨#[]⟩, ⟨#[]⟩⟩, ⟨0, 0, ⟨#[]⟩⟩, false, false⟩, by constructor <;> decide⟩)
def cameB (L : List DoneS) (k : Nat) : List (Int × DoneS) := (List.range k).map (backF L)
theorem cameB_succ (L : List DoneS) (k : Nat) : cameB L (k + 1) = cameB L k ++ [backF L k] := by simp [cameB, List.range_succ]
theorem cameB_len (L : List DoneS) (k : Nat) : (cameB L k).length = k := by simp [cameB]
theorem backF_at {L : List DoneS} {m : Nat} {d : DoneS} (h : L[m]? = some d) : backF L (L.length - 1 - m) = ((m : Int), d) := by
  have hm := (List.getElem?_eq_some_iff.1 h).1
  unfold backF
  rw [show L.length - 1 - (L.length - 1 - m) = m by omega, h]
  rfl
/-- what a round keeps -/
abbrev KpB (mb n₀ : Nat) : World → World → Prop := Fr (fun k => k = mb ∨ n₀ ≤ k)
theorem back_in (w : World) (v : Value) (hv : v.oneCell' = true) : Calls Tryd.prog 55 #[v] w fun e w' => e = .returned (.func (.func 79) #[] #[.pointer (some ⟨w.heap.size, 0, none⟩)]) ∧ w' = w.alloc (.cells #[v] 103) := by
  go_enter Tryd.func55, Tryd.ntmps55
  go_wp2_with fail
  go_ret
  exact ⟨rfl, rfl⟩
theorem back1_in (F : Fence) (n : Nat) (hf : F.fn 79) (hro : F.round = none) (hn : 1 ≤ n) (l Bs n₀ mb b off cap : Nat) (L : List DoneS) (hreach : L.length ≤ 100000) (hb : b < n₀) (hbm : b ≠ mb) (hBs : Bs < n₀) (hBm : Bs ≠ mb) (J Jx : List (Int × DoneS) → World → Prop)
    (hY : ∀ pre x W, J pre W → pre.length < L.length → YieldAt F (n - 1) Tryd.prog l #[.int .i64 x.1, .agg x.2.1.cells] W fun e W' =>
      (e = .returned (.bool true) ∧ J (pre ++ [x]) W' ∧ KpB mb n₀ W W') ∨ (e = .returned (.bool false) ∧ Jx (pre ++ [x]) W'))
    (W : World) (hBs' : W.cell? ⟨Bs, 0, none⟩ = some (.slice (some ⟨b, off, none⟩) L.length cap)) (hc : ∀ i d, L[i]? = some d → DnC b (off + i * 13) d.1 W) (h0 : J [] W) :
    CallsIn F n Tryd.prog 79 #[.func (.yield l) #[] #[], .pointer (some ⟨Bs, 0, none⟩)] W fun e W' => (∃ v, e = .returned v) ∧
      ((∃ ys, ys = cameB L L.length ∧ J ys W') ∨ (∃ pre, True ∧ Jx pre W')) := by
  have HY := Lib.hid hY
  have HC := Lib.hid hc
  have HB0 : Hid (∀ wr, KpB mb n₀ W wr → wr.cell? ⟨Bs, 0, none⟩ = some (.slice (some ⟨b, off, none⟩) L.length cap)) := Lib.hid fun wr h => (h.cell (World.block_lt_of_cell? W _ hBs') (by simp; omega)).trans hBs'
  have HJ0 := Lib.hid h0
  obtain ⟨N, hN⟩ : ∃ N, N = L.length := ⟨_, rfl⟩
  have HN := Lib.hid hN
  rw [← hN] at hBs' hreach HB0 ⊢
  clear hY hc h0 hN
  refine callsIn_of_wp Tryd.func79 rfl hf ?_ hro
  simp only [Tryd.ntmps79, List.size_toArray, List.length_cons, List.length_nil, Nat.reduceAdd, Nat.reduceSub, Array.replicate_succ, Array.replicate_zero, List.push_toArray, List.append_toArray, List.nil_append, List.cons_append]
  have hw0 : IntKind.i64.wrap ((N : Int) - 1) = (N : Int) - 1 := by rw [IntKind.wrap_i64]; omega
  gi_wp2
  gi_loopw [3] (fun i wr => ∃ j : Int, -1 ≤ j ∧ j < (N : Int) ∧ i = .int .i64 j ∧ Hid (J (cameB L (N - 1 - j).toNat) wr) ∧ Hid (KpB mb n₀ W wr))
    (fun i _ => (intOf i + 1).toNat)
  case atStart => exact ⟨(N : Int) - 1, by omega, by omega, by first | done | rfl | go_num, Lib.hid (by rw [show ((N : Int) - 1 - ((N : Int) - 1)).toNat = 0 by omega]; exact HJ0.out), Lib.hid (Fr.of_below (Below.refl _ _))⟩
  case round =>
    obtain ⟨j, hj1, hj2, rfl, HJ, HK⟩ := hrel
    have hb1 := HB0.out wr HK.out
    rcases Int.lt_or_le j 0 with hneg | hpos
    · have hx : j = -1 := by omega
      subst hx
      gi_wp2
      go_end0
      refine ⟨⟨_, rfl⟩, .inl ⟨_, rfl, ?_⟩⟩
      have := HJ.out
      rw [show ((N : Int) - 1 - (-1)).toNat = N by omega] at this
      first | exact this | (rw [HN.out] at this ⊢; exact this) | (rw [← HN.out]; exact this)
    · obtain ⟨m, rfl⟩ := Int.eq_ofNat_of_zero_le hpos
      have hm : m < N := by omega
      obtain ⟨d, hd⟩ : ∃ d, L[m]? = some d := ⟨_, List.getElem?_eq_getElem (by rw [← HN.out]; exact hm)⟩
      have hF := backF_at hd
      have hdc : DnC b (off + m * 13) d.1 wr := (HC.out m d hd).fr HK.out (by omega)
      obtain ⟨c0, c1, c2, c3, c4, c5, c6, c7, c8, c9, c10, c11, c12⟩ := hdc.all
      obtain ⟨fn, tmps, assign, body, hy, hR⟩ := HY.out _ ((m : Int), d) wr HJ.out (by rw [cameB_len, ← HN.out]; omega)
      simp only [DoneT.cells, doneCells] at hy
      have i1 : (0 : Int) ≤ (m : Int) := by omega
      have i2 : (m : Int) < (N : Int) := by omega
      have hw1 : IntKind.i64.wrap ((m : Int) - 1) = (m : Int) - 1 := by rw [IntKind.wrap_i64]; omega
      have HF := Lib.hid hF
      clear hd hF hdc
      gi_wp2
      refine hR.mono ?_
      rintro e W3 (⟨rfl, hJ3, hk3⟩ | ⟨rfl, hJx3⟩)
      · gi_wp2
        go_roundw
        case rel => exact ⟨(m : Int) - 1, by omega, by omega, by first | done | rfl | go_num, Lib.hid (by
          rw [show ((N : Int) - 1 - ((m : Int) - 1)).toNat = (N - 1 - m) + 1 by omega, cameB_succ]
          rw [show ((N : Int) - 1 - (m : Int)).toNat = N - 1 - m by omega] at hJ3
          rw [HN.out, HF.out, ← HN.out]
          exact hJ3), Lib.hid (HK.out.trans hk3)⟩
        case measure => simp [intOf] <;> omega
      · gi_wp2
        refine bodyPost_ret (results_none rfl _ _ _) rfl ?_
        exact ⟨⟨_, rfl⟩, .inr ⟨_, trivial, hJx3⟩⟩
/-- the slice that is walked: whole, below n₀, apart from the map -/
structure LaterC (n₀ mb : Nat) (v : Value) (L : List DoneS) (w : World) : Prop where
  at' : (v = .slice none 0 0 ∧ L = []) ∨ ∃ b off cap, v = .slice (some ⟨b, off, none⟩) L.length cap ∧ b < n₀ ∧ b ≠ mb ∧ ∀ i d, L[i]? = some d → DnC b (off + i * 13) d.1 w
theorem back1_nil (F : Fence) (n : Nat) (hf : F.fn 79) (hro : F.round = none) (l Bs : Nat) (J : List (Int × DoneS) → World → Prop) (W : World) (hBs' : W.cell? ⟨Bs, 0, none⟩ = some (.slice none 0 0)) (h0 : J [] W) :
    CallsIn F n Tryd.prog 79 #[.func (.yield l) #[] #[], .pointer (some ⟨Bs, 0, none⟩)] W fun e W' => (∃ v, e = .returned v) ∧ J [] W' := by
  refine callsIn_of_wp Tryd.func79 rfl hf ?_ hro
  simp only [Tryd.ntmps79, List.size_toArray, List.length_cons, List.length_nil, Nat.reduceAdd, Nat.reduceSub, Array.replicate_succ, Array.replicate_zero, List.push_toArray, List.append_toArray, List.nil_append, List.cons_append]
  gi_wp2
  gi_loopw [3] (fun i wr => i = .int .i64 (-1) ∧ J [] wr) (fun _ _ => 0)
  case atStart => exact ⟨by first | done | rfl, h0⟩
  case round =>
    obtain ⟨rfl, hJs⟩ := hrel
    gi_wp2
    go_end0
    exact ⟨⟨_, rfl⟩, hJs⟩
/-- a range over it from behind -/
theorem back_stops (F : Fence) (n : Nat) (hf : F.fn 79) (hro : F.round = none) (hn : 1 ≤ n) (Bs n₀ mb : Nat) (v : Value) (L : List DoneS) (hreach : L.length ≤ 100000) (w : World) (hBs : Bs < n₀) (hBm : Bs ≠ mb) (hn₀ : n₀ ≤ w.heap.size)
    (hc : w.cell? ⟨Bs, 0, none⟩ = some v) (hL : LaterC n₀ mb v L w) :
    SeqStopsK F n Tryd.prog 79 #[.pointer (some ⟨Bs, 0, none⟩)] (fun x   : Int × DoneS => #[Value.int .i64 x.1, .agg x.2.1.cells]) (KpB mb n₀) (fun ys => ys = cameB L L.length) (fun _ => True) L.length w := fun l J Jx W hW _ _ hY h0 => by
  have hc' := (hW.cell (p := ⟨Bs, 0, none⟩) (by show Bs < _; omega)).trans hc
  rcases hL.at' with ⟨rfl, rfl⟩ | ⟨b, off, cap, rfl, hb, hbm, hcs⟩
  · exact (back1_nil F n hf hro l Bs J W hc' h0).mono fun e W' ⟨he, hj⟩ => ⟨he, .inl ⟨_, rfl, hj⟩⟩
  · exact back1_in F n hf hro hn l Bs n₀ mb b off cap L hreach hb hbm hBs hBm J Jx hY W hc' (fun i d hi => (hcs i d hi).below hW) h0
theorem kpB_t {mb n₀ : Nat} {A B C : World} (h : KpB mb n₀ A B) (h' : KpB mb n₀ B C) : KpB mb n₀ A C := h.trans h'
theorem kpB_b {mb n₀ n₁ : Nat} (hn : n₀ ≤ n₁) (W : World) (l : Nat) (o o' : Obj) (hl : n₁ ≤ l) (_ : W.heap[l]? = some o) (_ : o.isCells = false) (_ : o.isWalk = false) : KpB mb n₀ W (W.putObj l o') :=
  ⟨rfl, rfl, rfl, by simp [World.putObj], fun k hk hx => World.putObj_heap_other (by intro e; apply hx; right; omega)⟩
end Go.Proofs.YtneggbhjekklhaaDoor
