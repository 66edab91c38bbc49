/- Turns: what they are, whether they are long; a replica of operations that are joined in one. -/
import Derived.Test.YtjekalilfhnpmaaGreatDoorMeet
namespace Go.Proofs.YtjekalilfhnpmaaGreatDoor
open Go Go.RowKit Go.Maps Go.Shelf LineOrd Tree
set_option linter.unusedVariables false
set_option linter.unusedSimpArgs false
set_option maxHeartbeats 2000000
set_option maxRecDepth 100000

/-- a turn -/
structure TurnT where
  b : Int
  f : Int
  o : OpT
def TurnT.cells (x : TurnT) : Array Value := #[.int .i64 x.b, .int .i64 x.f, .int .i64 x.o.t, .int .i64 x.o.b, .int .i64 x.o.n, .int .u8 x.o.k, .int .i64 x.o.nd, .int .i64 x.o.ot, .string x.o.nm, .string x.o.vl]
def turnE : Enc TurnT := ⟨fun x => x.cells.toList, 10, fun _ => rfl, fun x v hv => by
  simp [TurnT.cells] at hv
  rcases hv with rfl | rfl | rfl | rfl | rfl | rfl | rfl | rfl | rfl | rfl <;> rfl⟩
structure TurnT.Wf (x : TurnT) : Prop where
  b1 : I64 x.b
  f1 : I64 x.f
  o1 : x.o.Wf
theorem turns_at {w : World} {A : Option Addr} {n c : Nat} {L : List TurnT} (h : SlV turnE w (.slice A n c) L) {i : Nat} {x : TurnT} (hx : L[i]? = some x) :
    ∃ b off, A = some ⟨b, off, none⟩ ∧ ∀ q u, (turnE.cells x)[q]? = some u → w.cell? ⟨b, off + i * 10 + q, none⟩ = some u := by
  obtain ⟨b, off, e, hb, hc⟩ := h.at' (by decide) hx
  exact ⟨b, off, e, fun q u hu => by rw [Nat.add_assoc]; exact hc q u hu⟩
def shortTurn (x : TurnT) : Prop := x.o.nm.size ≤ 60 ∧ x.o.vl.size ≤ 60
/-- how longTurns ends -/
def LongEnds (n : Nat) (L : List TurnT) (w : World) (e : Ending) (w' : World) : Prop := ∃ b, e = .returned (.bool b) ∧ w' = w ∧ (b = false → n ≤ 60 ∧ ∀ x ∈ L, shortTurn x)
theorem longTurns_any (A : Option Addr) (n c : Nat) (L : List TurnT) (w : World) (hs : SlV turnE w (.slice A n c) L) (hc : n ≤ maxLen) :
    Calls Tryz.prog 16 #[.slice A n c] w (LongEnds n L w) := by
  have HN := Lib.hid hs.len
  have HS := Lib.hid hs
  have hmx : n ≤ 9223372036854775807 := by unfold maxLen at hc; omega
  clear hs hc
  by_cases hlong : 60 < n
  · have i0 : (60 : Int) < (n : Int) := by omega
    go_enter Tryz.func16, Tryz.ntmps16
    go_wp2_with fail
    go_ret
    exact ⟨true, rfl, rfl, fun h => (by cases h)⟩
  · have i0 : ¬ (60 : Int) < (n : Int) := by omega
    go_enter Tryz.func16, Tryz.ntmps16
    go_wp2_with fail
    go_loopw [3] (fun v3 wr => ∃ j : Nat, j ≤ n ∧ v3 = .int .i64 j ∧ wr = w ∧ Hid (∀ i x, i < j → L[i]? = some x → shortTurn x)) (fun v3 _ => n - (RowKit.intOf v3).toNat)
    case atStart => exact ⟨0, by omega, rfl, rfl, Lib.hid (fun i x h => by omega)⟩
    case round =>
      obtain ⟨j, hj, rfl, rfl, HA⟩ := hrel
      by_cases hlt : j < n
      · obtain ⟨x, hx⟩ : ∃ x, L[j]? = some x := ⟨_, List.getElem?_eq_getElem (by have := HN.out; omega)⟩
        obtain ⟨b, off, rfl, hc⟩ := turns_at HS.out hx
        have c8 : wr.cell? ⟨b, off + j * 10 + 8, none⟩ = some (.string x.o.nm) := hc 8 _ rfl
        have c9 : wr.cell? ⟨b, off + j * 10 + 9, none⟩ = some (.string x.o.vl) := hc 9 _ rfl
        have HX := Lib.hid hx
        clear hx hc
        have i1 : (0 : Int) ≤ (j : Int) := by omega
        have i2 : (j : Int) < (n : Int) := by omega
        by_cases h6 : 60 < x.o.nm.size
        · have k6 : (60 : Int) < (x.o.nm.size : Int) := by omega
          go_wp2_with fail
          go_ret
          exact ⟨true, rfl, rfl, fun h => (by cases h)⟩
        · have k6 : ¬ (60 : Int) < (x.o.nm.size : Int) := by omega
          by_cases h7 : 60 < x.o.vl.size
          · have k7 : (60 : Int) < (x.o.vl.size : Int) := by omega
            go_wp2_with fail
            go_ret
            exact ⟨true, rfl, rfl, fun h => (by cases h)⟩
          · have k7 : ¬ (60 : Int) < (x.o.vl.size : Int) := by omega
            have HL : Hid (shortTurn x) := Lib.hid ⟨by omega, by omega⟩
            go_wp2_with fail
            go_roundw
            case rel => exact ⟨j + 1, by omega, by go_num, trivial, Lib.hid (fun i y h1 h2 => by
              by_cases he : i = j
              · subst he; rw [HX.out] at h2; cases h2; exact HL.out
              · exact HA.out i y (by omega) h2)⟩
            case measure => simp [RowKit.intOf]; omega
      · have i2 : ¬ (j : Int) < (n : Int) := by omega
        go_wp2_with fail
        go_ret
        refine ⟨false, rfl, rfl, fun _ => ⟨by omega, fun x hx => ?_⟩⟩
        obtain ⟨i, hi, rfl⟩ := List.getElem_of_mem hx
        exact HA.out i _ (by have := HN.out; omega) (List.getElem?_eq_getElem hi)
/-- how replicaOf ends -/
def OfEnds (i : Int) (R : (Nat × Int) ⊕ List OpT) (w : World) (e : Ending) (w' : World) : Prop :=
  match R with
  | .inl _ => e = .returned (.pointer none) ∧ Below w.heap.size w w'
  | .inr G => ∃ col RB, e = .returned (ptrV RB) ∧ RepD col RB i (sortOps G) w' ∧ Below w.heap.size w w'
theorem replicaOf_any {F0 : Nat → Bool} (ea : Nat → Addr) (i : Int) (l : List OpT) (A : Option Addr) (n c : Nat) (w : World) (hG : Gd F0 ea w) (f2 : F0 2 = true) (f3 : F0 3 = true) (f4 : F0 4 = true) (f5 : F0 5 = true) (f6 : F0 6 = true) (f7 : F0 7 = true) (f8 : F0 8 = true) (f9 : F0 9 = true)
    (i0 : 0 ≤ i) (i4 : i < 4) (hs : SlV opE w (.slice A n c) l) (hln : l.length ≤ 90000) (hw : ∀ o ∈ l, o.Wf) :
    Calls Tryz.prog 21 #[.int .i64 i, .slice A n c] w (OfEnds i (joinP [] l) w) := by
  have HG := Lib.hid hG
  have HS := Lib.hid hs
  have HL := Lib.hid hln
  have HW := Lib.hid hw
  have HNw := Lib.hid (newB_any ea i w hG f2 (by constructor <;> omega))
  obtain ⟨R, hR⟩ : ∃ R, joinP [] l = R := ⟨_, rfl⟩
  rw [hR]
  have HR := Lib.hid hR
  clear hG hs hln hw hR
  go_enter Tryz.func21, Tryz.ntmps21
  go_wp2_with fail
  refine HNw.out.mono ?_
  rintro e w1 hN
  obtain ⟨col, RB, rfl, hR1, hb1, hge⟩ : ∃ col RB, e = .returned (.tuple #[ptrV RB, .nilIface]) ∧ RepD col RB i [] w1 ∧ Below w.heap.size w w1 ∧ ∀ k, col k ≠ 0 → w.heap.size ≤ k := by
    rcases hN with ⟨_, h⟩ | ⟨h, _⟩
    · exact h
    · exact absurd ⟨by omega, by omega⟩ h
  have HR1 := Lib.hid hR1
  have HB1 := Lib.hid hb1
  have HGe := Lib.hid hge
  have HO := Lib.hid (ownOps_any A n c l w1 (HS.out.below hb1) (by have := HL.out; omega))
  clear hR1 hb1 hge hN HNw
  unfold ptrV
  go_wp2_with fail
  refine HO.out.mono ?_
  rintro e w2 ⟨v2, rfl, hr2, hb2⟩
  obtain ⟨A2, n2, c2, rfl⟩ := hr2.slice
  have hB2 := HB1.out.trans (hb2.mono HB1.out.size)
  have HB2 := Lib.hid hB2
  have HJ := Lib.hid (join_any ea w col RB i [] l A2 n2 c2 w2 (HR1.out.below hb2) HG.out hB2 (fun k hk => HGe.out k hk) f2 f3 f4 f5 f6 f7 f8 f9 DOk.nil List.Pairwise.nil (by simp) hr2.sl HL.out HW.out)
  rw [HR.out] at HJ
  unfold ptrV at HJ
  clear hr2 hb2 hB2 HO
  cases R with
  | inl p =>
    go_wp2_with fail
    refine HJ.out.mono ?_
    rintro e w3 ⟨ev, rfl, hev, hp0, hb3⟩
    obtain ⟨t, u, rfl⟩ := errVal_ne hev hp0
    have HB3 := Lib.hid (HB2.out.trans (hb3.mono HB2.out.size))
    clear hev hb3 HJ
    go_wp2_with fail
    go_ret
    exact ⟨rfl, HB3.out⟩
  | inr G =>
    go_wp2_with fail
    refine HJ.out.mono ?_
    rintro e w3 ⟨rfl, col', hR3, hgr, hF⟩
    have HR3 := Lib.hid hR3
    have HB3 := Lib.hid (HB2.out.trans (hF.below HB2.out.size (fun k hk => HGe.out k hk)))
    clear hR3 hgr hF HJ
    go_wp2_with fail
    go_ret
    exact ⟨col', RB, rfl, HR3.out, HB3.out⟩
end Go.Proofs.YtjekalilfhnpmaaGreatDoor
