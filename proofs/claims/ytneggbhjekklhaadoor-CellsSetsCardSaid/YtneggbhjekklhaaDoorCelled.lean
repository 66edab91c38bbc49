/- The closed fact on cells. -/
import Derived.Test.YtneggbhjekklhaaDoorCellLaw
namespace Go.Proofs.YtneggbhjekklhaaDoor
open Go Go.RowKit Go.Maps
set_option linter.unusedVariables false
set_option linter.unusedSimpArgs false
set_option maxHeartbeats 4000000
set_option maxRecDepth 100000

def celOp : OpT := ⟨5, 0, 1, 115, 4, 0, ⟨#[97]⟩, ⟨#[120]⟩⟩
theorem cel_ok : opErr celOp = 0 := by decide
theorem cel_wf : celOp.Wf := by
  refine ⟨?_, ?_, ?_, ?_, ?_, ?_, ?_, ?_, ?_, ?_, ?_, ?_, ?_, ?_⟩ <;> decide
def celK : KeyT := (4, ⟨#[97]⟩)
noncomputable def celM : MapC := updT (fun _ => none) celK (some ⟨⟨#[120]⟩, 5, 0⟩)
theorem cel_set : setC (fun _ => none) celOp = (celM, true, 0) := by
  unfold setC
  rw [if_neg (by rw [cel_ok]; simp), if_neg (by decide)]
  rfl
theorem celK_ok : KeyOk celK := ⟨by decide, by decide, by decide⟩
theorem cel_at : celM celK = some ⟨⟨#[120]⟩, 5, 0⟩ := updT_same _ _ _
theorem cel_len {ks : List KeyT} (h1 : ks.Pairwise (fun x y => kLt x y = true)) (h2 : ∀ k, k ∈ ks ↔ (KeyOk k ∧ ∃ c, celM k = some c ∧ c.v.size ≠ 0)) : ks.length = 1 := by
  have h3 : [celK].Pairwise (fun x y => kLt x y = true) := by simp
  rw [eq_of_rising h1 h3 (fun k => ?_)]
  · rfl
  · rw [h2, List.mem_singleton]
    constructor
    · rintro ⟨_, c, hc, _⟩
      by_cases e : k = celK
      · exact e
      · unfold celM at hc; rw [updT_other _ _ e] at hc; cases hc
    · rintro rfl
      exact ⟨celK_ok, _, cel_at, by decide⟩

theorem celled_any {F : Nat → Bool} (ea : Nat → Addr) (w : World) (hG : Gd F ea w) (f2 : F 2 = true) (f3 : F 3 = true) (f4 : F 4 = true) (f5 : F 5 = true) :
    Calls Tryd.prog 9 #[] w fun e w' => e = .returned (.bool true) ∧ Below w.heap.size w w' := by
  have HN := Lib.hid cellsNew_any
  have HG := Lib.hid hG
  clear hG
  go_enter Tryd.func9, Tryd.ntmps9
  go_wp2_with fail
  refine (HN.out w).mono ?_
  rintro e w1 ⟨CB, b, rfl, hS, hb⟩
  have HS1 := Lib.hid hS
  have HB1 := Lib.hid hb
  have HC : Hid (Calls Tryd.prog 12 #[.pointer (some ⟨CB, 0, none⟩), .agg #[.int .i64 5, .int .i64 0, .int .i64 1, .int .u8 115, .int .i64 4, .int .i64 0, .string ⟨#[97]⟩, .string ⟨#[120]⟩]] w1 fun e w' => e = .returned (.tuple #[.bool true, .nilIface]) ∧ CSt w.heap.size CB b 1 celM w' ∧ Fr (· = b) w1 w') := Lib.hid (by
    have := cset_any ea w.heap.size CB b 0 (fun _ => none) celOp w1 cel_wf (HG.out.below hb) f2 f3 f4 f5 hS (by unfold maxLen; omega)
    rw [cel_set] at this
    exact this)
  clear hS hb HN
  go_wp2_with fail
  refine HC.out.mono ?_
  rintro e w2 ⟨rfl, hS2, hF2⟩
  have HB2 := Lib.hid (HB1.out.trans (hF2.below HB1.out.size (fun k hk => by rw [hk]; exact HS1.out.geb)))
  have HS2 := Lib.hid hS2
  have HGt : Hid (Calls Tryd.prog 29 #[.pointer (some ⟨CB, 0, none⟩), .int .i64 4, .string ⟨#[97]⟩] w2 fun e w' => e = .returned (.tuple #[.string ⟨#[120]⟩, .agg #[.int .i64 5, .int .i64 0], .bool true]) ∧ Below w2.heap.size w2 w') := Lib.hid (by
    have := cget_any w.heap.size CB b 1 celM celK w2 hS2 celK_ok
    rw [cel_at] at this
    exact this)
  clear hS2 hF2 HC HS1 HB1
  go_wp2_with fail
  refine HGt.out.mono ?_
  rintro e w3 ⟨rfl, hb3⟩
  have hba : ∀ o, Below w3.heap.size w3 (w3.alloc o) := fun o => (Below.refl _ _).alloc (Nat.le_refl _) o
  have HM := Lib.hid (fun o => marks_any w.heap.size CB b 1 celM (w3.alloc o) ((HS2.out.below hb3).below (hba o)) (by omega))
  have HB3 := Lib.hid (fun o => (HB2.out.trans (hb3.mono HB2.out.size)).alloc (Nat.le_trans HB2.out.size hb3.size) o)
  clear hb3 hba HGt HS2 HB2
  go_wp2_with fail
  refine (HM.out _).mono ?_
  rintro e w4 ⟨v4, ks, rfl, hR4, h4, h5, _, hb4⟩
  have hl := cel_len h4 h5
  obtain ⟨A4, m4, c4, rfl⟩ := hR4.slice
  have hm4 : m4 = 1 := by rw [hR4.sl.len, List.length_map, hl]
  subst hm4
  have HB4 := Lib.hid ((HB3.out _).trans (hb4.mono (HB3.out _).size))
  clear hR4 h4 h5 hb4 hl HM
  go_wp2_with fail
  go_ret
  exact ⟨rfl, HB4.out⟩
end Go.Proofs.YtneggbhjekklhaaDoor
