/- The document's places: where a node stands; does a node lie in another one; are two lists the same. -/
import Derived.Test.YtneggbhjekklhaaDoorTreeL
import Derived.Test.YtneggbhjekklhaaDoorOpSorted
import Derived.BigQuiet
namespace Go.Proofs.YtneggbhjekklhaaDoor
open Go Go.RowKit Go.Maps Tree
set_option linter.unusedVariables false
set_option linter.unusedSimpArgs false
set_option maxHeartbeats 4000000
set_option maxRecDepth 100000

/-- places in rows -/
def plE : Enc PlT := ⟨fun y => [.int .i64 y.nd, .int .i64 y.into, .string y.nm], 3, fun _ => rfl, fun x v hv => by
  simp at hv
  rcases hv with rfl | rfl | rfl <;> rfl⟩
theorem infoPlR : (Tryd.prog.info? 76).map (fun i => (i.zero, i.size, i.bytes)) = some (some (.agg #[.int .i64 0, .int .i64 0, .string ⟨#[]⟩]), 3, 32) := by kernel_rfl
theorem infoPlT : (Tryd.prog.info? 53).map (fun i => (i.zero, i.size, i.bytes)) = some (some (.agg #[.int .i64 0, .int .i64 0, .string ⟨#[]⟩]), 3, 32) := by kernel_rfl
theorem pl_at {w : World} {A : Option Addr} {n c : Nat} {Q : List PlT} (h : SlV plE w (.slice A n c) Q) {i : Nat} {y : PlT} (hy : Q[i]? = some y) :
    ∃ b off, A = some ⟨b, off, none⟩ ∧ b < w.heap.size ∧ w.cell? ⟨b, off + i * 3, none⟩ = some (.int .i64 y.nd) ∧ w.cell? ⟨b, off + i * 3 + 1, none⟩ = some (.int .i64 y.into) ∧ w.cell? ⟨b, off + i * 3 + 2, none⟩ = some (.string y.nm) := by
  obtain ⟨b, off, e, hb, hc⟩ := h.at' (by decide) hy
  refine ⟨b, off, e, hb, ?_⟩
  have g : ∀ j u, (plE.cells y)[j]? = some u → w.cell? ⟨b, off + i * 3 + j, none⟩ = some u := fun j u hu => by rw [Nat.add_assoc]; exact hc j u hu
  exact ⟨g 0 _ rfl, g 1 _ rfl, g 2 _ rfl⟩
/-- how a list of places comes -/
def PlEnds (ty : TypeId) (p : PlB) (n : Nat) (w : World) (e : Ending) (w' : World) : Prop := ∃ v Q, e = .returned v ∧ Rw plE ty w.heap.size v Q w' ∧ RepP Q p ∧ Q.length ≤ n ∧ Below w.heap.size w w'
/-- where a node stands in a list -/
def PlaceAt (Q : List PlT) (x r : Int) : Prop := (∃ (k : Nat) (y : PlT), r = (k : Int) ∧ Q[k]? = some y ∧ y.nd = x) ∨ (r = -1 ∧ ∀ y ∈ Q, y.nd ≠ x)

theorem placeOf_any (A : Option Addr) (n c : Nat) (x : Int) (Q : List PlT) (w : World) (hs : SlV plE w (.slice A n c) Q) (hn : n ≤ 100000) :
    Calls Tryd.prog 62 #[.slice A n c, .int .i64 x] w fun e w' => ∃ r, e = .returned (.int .i64 r) ∧ PlaceAt Q x r ∧ w' = w := by
  have HN := Lib.hid hs.len
  have HS := Lib.hid hs
  clear hs
  go_enter Tryd.func62, Tryd.ntmps62
  go_wp2_with fail
  go_loopw [5] (fun v5 wr => ∃ i : Nat, i ≤ n ∧ v5 = .int .i64 i ∧ wr = w ∧ Hid (∀ j y, j < i → Q[j]? = some y → y.nd ≠ x)) (fun v5 _ => n - (intOf v5).toNat)
  case atStart => exact ⟨0, by omega, rfl, rfl, Lib.hid (fun j y h => by omega)⟩
  case round =>
    obtain ⟨i, hi, rfl, rfl, HP⟩ := hrel
    by_cases hlt : i < n
    · obtain ⟨y, hy⟩ : ∃ y, Q[i]? = some y := ⟨_, List.getElem?_eq_getElem (by have := HN.out; omega)⟩
      obtain ⟨b, off, rfl, _, c0, _, _⟩ := pl_at HS.out hy
      have HY := Lib.hid hy
      have i1 : (0 : Int) ≤ (i : Int) := by omega
      have i2 : (i : Int) < (n : Int) := by omega
      clear hy
      by_cases he : y.nd = x
      · have hb : (y.nd == x) = true := by simp [he]
        have HE := Lib.hid he
        clear he
        go_wp2_with fail
        go_ret
        exact ⟨_, rfl, .inl ⟨i, y, rfl, HY.out, HE.out⟩, rfl⟩
      · have hb : (y.nd == x) = false := by simp [he]
        have HE := Lib.hid he
        clear he
        go_wp2_with fail
        go_roundw
        case rel => exact ⟨i + 1, by omega, by go_num, trivial, Lib.hid (fun j z h1 h2 => by
          by_cases hj : j = i
          · subst hj; rw [HY.out] at h2; cases h2; exact HE.out
          · exact HP.out j z (by omega) h2)⟩
        case measure => simp [intOf] <;> omega
    · have i2 : ¬ (i : Int) < (n : Int) := by omega
      go_wp2_with fail
      go_ret
      refine ⟨_, rfl, .inr ⟨rfl, fun y hy => ?_⟩, rfl⟩
      obtain ⟨j, hj, rfl⟩ := List.getElem_of_mem hy
      exact HP.out j _ (by have := HN.out; omega) (List.getElem?_eq_getElem hj)

open Classical in
theorem isInside_any (A : Option Addr) (n c : Nat) (x o : Int) (Q : List PlT) (p : PlB) (w : World) (hs : SlV plE w (.slice A n c) Q) (hn : n ≤ 100000) (hQ : RepP Q p) (hac : Acyc p) :
    Calls Tryd.prog 33 #[.slice A n c, .int .i64 x, .int .i64 o] w fun e w' => e = .returned (.bool (decide (Ins p x o))) ∧ w' = w := by
  obtain ⟨R, hR⟩ : ∃ R, R = decide (Ins p x o) := ⟨_, rfl⟩
  rw [← hR]
  have HR : Hid (R = true ↔ Ins p x o) := Lib.hid (by rw [hR, decide_eq_true_iff])
  obtain ⟨d, hd⟩ := hac
  have HD := Lib.hid hd
  have HN := Lib.hid hs.len
  have HS := Lib.hid hs
  have HQ := Lib.hid hQ
  have HC : Hid (∀ x, Calls Tryd.prog 62 #[.slice A n c, .int .i64 x] w fun e w' => ∃ r, e = .returned (.int .i64 r) ∧ PlaceAt Q x r ∧ w' = w) := Lib.hid fun x => placeOf_any A n c x Q w hs hn
  have HK0 : Hid (rankP d Q x + 0 ≤ n) := Lib.hid (by have := rankP_le d Q x; have := hs.len; omega)
  clear hs hQ hd hR
  go_enter Tryd.func33, Tryd.ntmps33
  go_wp2_with fail
  go_loopw [1, 7] (fun v1 v7 wr => ∃ (i : Nat) (z : Int), v1 = .int .i64 z ∧ v7 = .int .i64 i ∧ wr = w ∧ Hid (rankP d Q z + i ≤ n) ∧ Hid (R = true ↔ Ins p z o)) (fun _ v7 _ => n + 1 - (intOf v7).toNat)
  case atStart => exact ⟨0, x, rfl, rfl, rfl, HK0, HR⟩
  case round =>
    obtain ⟨i, z, rfl, rfl, rfl, HKz, HRz⟩ := hrel
    clear HR HK0
    have hin : i ≤ n := by have := HKz.out; omega
    have i2 : (i : Int) ≤ (n : Int) := by omega
    go_wp2_with fail
    refine (HC.out z).mono ?_
    rintro e w1 ⟨r, rfl, hr, rfl⟩
    rcases hr with ⟨k, y, rfl, hy, hyz⟩ | ⟨rfl, hno⟩
    · obtain ⟨b, off, rfl, _, _, c1, _⟩ := pl_at HS.out hy
      have hk : k < n := by have := HN.out; have := (List.getElem?_eq_some_iff.1 hy).1; omega
      have hp : p z = some (y.into, y.nm) := by rw [← hyz]; exact HQ.out.have' hy
      have hdd : d y.into < d y.nd := by have := HD.out z _ hp; rw [hyz]; exact this
      have hrk := rankP_lt (List.mem_of_getElem? hy) hdd
      rw [hyz] at hrk
      have HRk := Lib.hid hrk
      have HPz := Lib.hid hp
      have k1 : (0 : Int) ≤ (k : Int) := by omega
      have k2 : (k : Int) < (n : Int) := by omega
      clear hy hyz hp hdd hrk
      by_cases he : y.into = o
      · have hb : (y.into == o) = true := by simp [he]
        obtain rfl : R = true := HRz.out.2 ((Ins.some HPz.out).2 (.inl he))
        clear he
        go_wp2_with fail
        go_ret
        exact ⟨rfl, rfl⟩
      · have hb : (y.into == o) = false := by simp [he]
        have HR2 : Hid (R = true ↔ Ins p y.into o) := Lib.hid (HRz.out.trans ((Ins.some HPz.out).trans ⟨fun h => h.resolve_left he, .inr⟩))
        clear he
        go_wp2_with fail
        go_roundw
        case rel => exact ⟨i + 1, y.into, rfl, by go_num, trivial, Lib.hid (by have := HKz.out; have := HRk.out; omega), HR2⟩
        case measure => simp [intOf] <;> omega
    · have hR0 : R = false := by
        cases R with
        | false => rfl
        | true => exact absurd (HRz.out.1 rfl) (Ins.none (HQ.out.lack hno))
      subst hR0
      clear hno
      go_wp2_with fail
      go_ret
      exact ⟨rfl, rfl⟩

theorem samePlaces_any (A A' : Option Addr) (n c n' c' : Nat) (Q : List PlT) (w : World) (hs : SlV plE w (.slice A n c) Q) (hs' : SlV plE w (.slice A' n' c') Q) (hn : Q.length ≤ 100000) :
    Calls Tryd.prog 31 #[.slice A n c, .slice A' n' c'] w fun e w' => e = .returned (.bool true) ∧ Below w.heap.size w w' := by
  obtain rfl : n = n' := hs.len.trans hs'.len.symm
  have hl := hs.len
  rw [← hl] at hn
  have HN := Lib.hid hl
  have HS := Lib.hid hs
  have HS' := Lib.hid hs'
  clear hs hs' hl
  go_enter Tryd.func31, Tryd.ntmps31
  go_wp2_with fail
  go_loopw [5] (fun v5 wr => ∃ j : Nat, j ≤ n ∧ v5 = .int .i64 j ∧ Hid (Below w.heap.size w wr)) (fun v5 _ => n - (RowKit.intOf v5).toNat)
  case atStart => exact ⟨0, by omega, rfl, Lib.hid (Below.refl _ _)⟩
  case round =>
    obtain ⟨j, hj, rfl, HB⟩ := hrel
    by_cases hlt : j < n
    · obtain ⟨x, hx⟩ : ∃ x, Q[j]? = some x := ⟨_, List.getElem?_eq_getElem (by have := HN.out; omega)⟩
      obtain ⟨b, off, rfl, hbl, c0, c1, c2⟩ := pl_at (HS.out.below HB.out) hx
      obtain ⟨b', off', rfl, hbl', d0, d1, d2⟩ := pl_at (HS'.out.below HB.out) hx
      have i1 : (0 : Int) ≤ (j : Int) := by omega
      have i2 : (j : Int) < (n : Int) := by omega
      clear hx hbl hbl'
      have e0 : (x.nd != x.nd) = false := by simp
      have e1 : (x.into != x.into) = false := by simp
      have e2 : (x.nm.toList != x.nm.toList) = false := by simp
      have HW : ∀ nq, Hid (Below w.heap.size w (wr.drewN nq)) := fun nq => Lib.hid (below_drawn HB.out nq)
      go_wp2_with fail
      go_quiet (fail)
      rename_i nq
      have HB2 := HW nq
      clear c0 c1 c2 d0 d1 d2 e0 e1 e2 HW
      generalize wr.drewN nq = wq at HB2 ⊢
      go_wp2_with fail
      go_roundw
      case rel => exact ⟨j + 1, by omega, by go_num, HB2⟩
      case measure => simp [RowKit.intOf]; omega
    · have i2 : ¬ (j : Int) < (n : Int) := by omega
      go_wp2_with fail
      go_ret
      exact ⟨rfl, HB.out⟩
end Go.Proofs.YtneggbhjekklhaaDoor
