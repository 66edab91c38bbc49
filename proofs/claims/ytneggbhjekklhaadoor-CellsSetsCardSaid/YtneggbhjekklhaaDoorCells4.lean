/- Cells of marks: joined. -/
import Derived.Test.YtneggbhjekklhaaDoorCells3
namespace Go.Proofs.YtneggbhjekklhaaDoor
open Go Go.RowKit Go.Maps
set_option linter.unusedVariables false
set_option linter.unusedSimpArgs false
set_option maxHeartbeats 4000000
set_option maxRecDepth 100000

/-- in a join under way -/
def JoinIs (ma mb d : MapC) (todo : KeyT → Prop) : Prop := ∀ k, KeyOk k → (todo k → d k = ma k) ∧ (¬ todo k → d k = joinC ma mb k)
theorem layC_other {m : MapC} {k k' : KeyT} {x : CellT} (h : k' ≠ k) : (layC m k x).1 k' = m k' := by
  unfold layC
  cases hm : m k with
  | none => exact updT_other m _ h
  | some was =>
    show (if cLt was x = true then (updT m k (some x), true) else (m, false)).1 k' = _
    split
    · exact updT_other m _ h
    · rfl
theorem layC_same (m : MapC) (k : KeyT) (x : CellT) : (layC m k x).1 k = some (match m k with | some was => if cLt was x = true then x else was | none => x) := by
  unfold layC
  cases hm : m k with
  | none => exact updT_same m _ _
  | some was =>
    show (if cLt was x = true then (updT m k (some x), true) else (m, false)).1 k = some (if cLt was x = true then x else was)
    split
    · exact updT_same m _ _
    · exact hm
theorem JoinIs.step {ma mb d : MapC} {todo : KeyT → Prop} {x : KeyT} {c : CellT} (h : JoinIs ma mb d todo) (hx : mb x = some c) (ht : todo x) (hk : KeyOk x) : JoinIs ma mb (layC d x c).1 (fun y => todo y ∧ y ≠ x) := by
  intro k hkk
  by_cases e : k = x
  · subst e
    refine ⟨fun h => absurd rfl h.2, fun _ => ?_⟩
    rw [layC_same, (h k hk).1 ht]
    unfold joinC
    rw [hx]
    cases ma k with
    | none => rfl
    | some a => rfl
  · rw [layC_other e]
    exact ⟨fun h' => (h k hkk).1 h'.1, fun h' => (h k hkk).2 (fun ht => h' ⟨ht, e⟩)⟩
theorem CSt.eq {base CB b n : Nat} {m m' : MapC} {w : World} (h : CSt base CB b n m w) (e : ∀ k, KeyOk k → m' k = m k) : CSt base CB b n m' w := ⟨h.ptr, h.mt.of_eq (fun k kl hk => e k (keyOk_of ⟨kl, hk⟩)), h.ge, h.geb, h.ne⟩

/-- how a join ends -/
def JnEnds (m : MapC) (n : Nat) (w : World) (e : Ending) (w' : World) : Prop :=
  ∃ CB b, e = .returned (.pointer (some ⟨CB, 0, none⟩)) ∧ CSt w.heap.size CB b n m w' ∧ Below w.heap.size w w'
theorem join1_any (base CBa ba na : Nat) (ma : MapC) (w : World) (ha : CSt base CBa ba na ma w) (hn : na < maxLen) :
    Calls Tryd.prog 13 #[.pointer (some ⟨CBa, 0, none⟩), .pointer none] w (JnEnds ma na w) := by
  have HA := Lib.hid ha
  have hba : ba < w.heap.size := ha.mt.lt
  have HN := Lib.hid cellsNew_any
  clear ha
  go_enter Tryd.func13, Tryd.ntmps13
  go_wp2_with fail
  refine (HN.out w).mono ?_
  rintro e w1 ⟨CB, b, rfl, hS, hb⟩
  have hA1 := HA.out.below hb
  have p1 := hS.ptr
  have p2 := hA1.ptr
  have HS := Lib.hid hS
  have HB := Lib.hid hb
  have HA1 := Lib.hid hA1
  clear hS hb hA1 HN HA
  go_wp2_with fail
  go_still_tail 8, (by kernel_rfl)
  change wpList _ _ _ _ _ w1.drew
  have hd : Below w1.heap.size w1 w1.drew := (Below.refl _ w1).drew
  have HS2 := Lib.hid (HS.out.below hd)
  have HA2 := Lib.hid (HA1.out.below hd)
  have HB2 := Lib.hid (HB.out.trans (hd.mono HB.out.size))
  have hne : b ≠ ba := fun e => by have := HS.out.geb; omega
  clear hd HS HA1 HB p1 p2
  generalize w1.drew = W at *
  have HCp := Lib.hid (mapsCopy_any b ba na ma W HS2.out.mt HA2.out.mt hne hn)
  go_wp2_with fail
  refine HCp.out.mono ?_
  rintro e w2 ⟨rfl, hm2, hF2⟩
  have HS3 := Lib.hid (HS2.out.put hm2 hF2)
  have HB3 := Lib.hid (HB2.out.trans (hF2.below HB2.out.size (fun k hk => by rw [hk]; exact HS2.out.geb)))
  clear hm2 hF2 HCp
  go_wp2_with fail
  go_ret
  exact ⟨CB, b, rfl, HS3.out, HB3.out⟩

theorem join2_any (base CBa ba na CBb bb nb : Nat) (ma mb : MapC) (w : World) (ha : CSt base CBa ba na ma w) (hb : CSt base CBb bb nb mb w) (hn : na + nb < maxLen) :
    Calls Tryd.prog 13 #[.pointer (some ⟨CBa, 0, none⟩), .pointer (some ⟨CBb, 0, none⟩)] w (JnEnds (joinC ma mb) (na + nb) w) := by
  have HA := Lib.hid ha
  have HBb := Lib.hid hb
  have hba : ba < w.heap.size := ha.mt.lt
  have hbb : bb < w.heap.size := hb.mt.lt
  have hlb : CBb < w.heap.size := hb.lt
  have HN := Lib.hid cellsNew_any
  clear ha hb
  go_enter Tryd.func13, Tryd.ntmps13
  go_wp2_with fail
  refine (HN.out w).mono ?_
  rintro e w1 ⟨CB, b, rfl, hS, hb⟩
  have hA1 := HA.out.below hb
  have p1 := hS.ptr
  have p2 := hA1.ptr
  have HS := Lib.hid hS
  have HB := Lib.hid hb
  have HA1 := Lib.hid hA1
  have HBb1 := Lib.hid (HBb.out.below hb)
  clear hS hb hA1 HN HA HBb
  go_wp2_with fail
  go_still_tail 8, (by kernel_rfl)
  change wpList _ _ _ _ _ w1.drew
  have hd : Below w1.heap.size w1 w1.drew := (Below.refl _ w1).drew
  have HS2 := Lib.hid (HS.out.below hd)
  have HA2 := Lib.hid (HA1.out.below hd)
  have HBb2 := Lib.hid (HBb1.out.below hd)
  have HB2 := Lib.hid (HB.out.trans (hd.mono HB.out.size))
  have hgb := HS.out.geb
  have hne : b ≠ ba := fun e => by omega
  clear hd HS HA1 HB HBb1 p1 p2
  generalize w1.drew = W at *
  have HCp := Lib.hid (mapsCopy_any b ba na ma W HS2.out.mt HA2.out.mt hne (by omega))
  go_wp2_with fail
  refine HCp.out.mono ?_
  rintro e w2 ⟨rfl, hm2, hF2⟩
  have HS3 := Lib.hid (HS2.out.put hm2 hF2)
  have HB3 := Lib.hid (HB2.out.trans (hF2.below HB2.out.size (fun k hk => by rw [hk]; exact HS2.out.geb)))
  have hBb3 := HBb2.out.fr hF2 (fun e => by have := HBb2.out.lt; have h2 := HBb2.out.ge; have := HS2.out.geb; have : CBb < w.heap.size := hlb; omega) (fun e => by omega)
  have p3 := hBb3.ptr
  have hm3 := hBb3.mt
  have HBb3 := Lib.hid hBb3
  clear hm2 hF2 HCp hBb3 HS2 HB2 HA2 HBb2
  go_wp2_with (at_range; refine wpList_rangeT _ rfl _ _ rfl 88 90 cellK Tryd.underlying83 keyV cellV bb nb mb rfl hm3 ?_; intro w0 cnt0 hrg0 hc0 hg0 hs0)
  have HF0 : Hid (Fr (fun _ => False) w2 w0) := Lib.hid ((Fr.of_below (Below.refl _ w2)).grown0 hg0)
  have hS0 := HS3.out.fr HF0.out (fun h => h) (fun h => h)
  have hB0 : Below w.heap.size w w0 := HB3.out.trans (HF0.out.below HB3.out.size (fun _ h => h.elim))
  have hCr : CB < w2.heap.size := HS3.out.lt
  have hbr : b < w2.heap.size := HS3.out.mt.lt
  have hrw : w.heap.size ≤ w2.heap.size := HB3.out.size
  have HS0 := Lib.hid hS0
  have HB0 := Lib.hid hB0
  have HR0 := Lib.hid hrg0
  go_frame
  obtain ⟨r, hr⟩ : ∃ r, r = w2.heap.size := ⟨_, rfl⟩
  rw [← hr] at HR0 hCr hbr hrw ⊢
  clear hm3 hrg0 hg0 hS0 hB0 HS3 HB3 HF0 hs0 p3 HBb3 hr
  go_loopw [6] (fun _ wr => ∃ (todo : KeyT → Prop) (cnt : Nat) (d : MapC), RC bb r nb mb todo cnt wr ∧ cnt ≤ nb ∧ CSt w.heap.size CB b (na + (nb - cnt)) d wr ∧ Hid (JoinIs ma mb d todo) ∧ Below w.heap.size w wr) (fun _ wr => wr.rangeLeft bb r)
  case atStart =>
    refine ⟨_, cnt0, ma, HR0.out, hc0, HS0.out.mono (by omega), Lib.hid (fun k hk => ⟨fun _ => rfl, fun h => ?_⟩), HB0.out⟩
    unfold joinC
    cases hm : mb k with
    | none => cases ma k <;> rfl
    | some c => exact absurd (show (mb k).isSome = true by rw [hm]; rfl) h
  case round =>
    clear HS0 HB0 HR0
    obtain ⟨todo, cnt, d, hrg, hcn, hsd, HJ, hB⟩ := hrel
    have HRg := Lib.hid hrg
    have HSd := Lib.hid hsd
    have HB := Lib.hid hB
    clear hsd hB
    go_wp2_with (at_next; refine wpList_nextT _ rfl _ rfl 88 cellK keyV cellV keyV_inj shapeK bb r nb mb todo cnt rfl hrg ?_ ?_)
    · intro hdone
      go_wp2_with fail
      go_ret
      exact ⟨CB, b, rfl, (HSd.out.mono (by omega)).eq (fun k hk => by obtain ⟨kl, hkl⟩ := key_reads hk; exact ((HJ.out k hk).2 (hdone k.1 k.2 kl hkl)).symm), HB.out⟩
    · intro xn xs c w1 cnt1 kl hkey hmx htd hrg1 hlt hg1 hs1 hen
      have HK := Lib.hid (keyOk_of ⟨kl, hkey⟩)
      have hF1 : Fr (· = r) wr w1 := fr_of_grown hg1 rfl
      have HS1 := Lib.hid (HSd.out.fr hF1 (by omega) (by omega))
      have HB1 := Lib.hid (HB.out.trans (hF1.below HB.out.size (fun k hk => by rw [hk]; exact hrw)))
      have HRg1 := Lib.hid hrg1
      have HJ1 := Lib.hid (HJ.out.step hmx htd HK.out)
      have hen2 : (Instr.entry (.pointer (some ⟨r, 0, none⟩))).run Tryd.prog w1 = .ok (.tuple #[.agg #[.int .i64 xn, .string xs], .agg #[.string c.v, .int .i64 c.t, .int .i64 c.b]]) w1 := hen
      have HLe : Hid (wr.rangeLeft bb r = cnt) := Lib.hid hrg.left_eq
      clear hrg hrg1 hen hkey hg1 hF1 hmx htd HSd HB HRg HJ
      have hba2 : ∀ o1 o2, Below w1.heap.size w1 ((w1.alloc o1).alloc o2) := fun o1 o2 => ((Below.refl _ w1).alloc (Nat.le_refl _) o1).alloc (by simp) o2
      have HL := Lib.hid (fun o1 o2 => lay_any w.heap.size CB b (na + (nb - cnt)) d (xn, xs) c ((w1.alloc o1).alloc o2) (HS1.out.below (hba2 o1 o2)) HK.out (by omega))
      have HBa := Lib.hid (fun o1 o2 => HB1.out.trans ((hba2 o1 o2).mono HB1.out.size))
      clear hba2
      go_wp2_with fail
      refine (HL.out _ _).mono ?_
      rintro e w4 ⟨rfl, hS4, hF4⟩
      have hrg4 : RC bb r nb mb (fun y => todo y ∧ y ≠ (xn, xs)) cnt1 w4 := (((HRg1.out.grown (World.grownBy_alloc _ _ none) (by simp) (by simp)).grown (World.grownBy_alloc _ _ none) (by simp) (by simp))).fr hF4 (by omega) (by omega)
      have hB4 := (HBa.out _ _).trans (hF4.below (HBa.out _ _).size (fun k hk => by rw [hk]; exact hgb))
      have HLe4 : Hid (w4.rangeLeft bb r = cnt1) := Lib.hid hrg4.left_eq
      have HRg4 := Lib.hid hrg4
      have HS4 := Lib.hid hS4
      have HB4 := Lib.hid hB4
      clear hrg4 hS4 hF4 hB4 hen2 HL HBa
      go_wp2_with fail
      go_roundw
      case rel => exact ⟨_, cnt1, _, HRg4.out, by omega, HS4.out.mono (by omega), HJ1, HB4.out⟩
      case measure => rw [HLe4.out, HLe.out]; omega
end Go.Proofs.YtneggbhjekklhaaDoor
