/- Vectors: Check, and as texts. -/
import Derived.Test.YthlojjknpfijmaaGreatDoorVecT
import Derived.LoopN
namespace Go.Proofs.YthlojjknpfijmaaGreatDoor
open Go Go.RowKit
set_option linter.unusedVariables false
set_option linter.unusedSimpArgs false
set_option maxHeartbeats 4000000
set_option maxRecDepth 100000

/-- what Check answers -/
def ChkEnds (ea : Nat → Addr) (k : Nat) (at' : Int) (w : World) (r : Ending) (w' : World) : Prop := ∃ v, r = .returned v ∧ ErrVal ea w' v k at' ∧ Below w.heap.size w w' ∧ ∀ pb po, v = faultV ⟨pb, po, none⟩ → w.heap.size ≤ pb
theorem ChkEnds.no {ea : Nat → Addr} {a b c d : Int} {w w' : World} (h : vfAt a b c d = -1) (hb : Below w.heap.size w w') : ChkEnds ea (vfK a b c d) (vfAt a b c d) w (.returned .nilIface) w' :=
  ⟨_, rfl, by unfold vfK; rw [h, if_pos (by omega)]; exact .nil, hb, fun _ _ e => by cases e⟩
theorem ChkEnds.yes {ea : Nat → Addr} {a b c d j : Int} {w w' : World} (pb : Nat) (hpb : w.heap.size ≤ pb) (h : vfAt a b c d = j) (hj : 0 ≤ j) (h0 : w'.cell? ⟨pb, 0, none⟩ = some (.int .i64 j)) (h1 : w'.cell? ⟨pb, 1, none⟩ = some (errV (ea 2))) (hb : Below w.heap.size w w') : ChkEnds ea (vfK a b c d) (vfAt a b c d) w (.returned (faultV ⟨pb, 0, none⟩)) w' :=
  ⟨_, rfl, .inr (.inr ⟨by unfold vfK; rw [h, if_neg (by omega)]; omega, by unfold vfK; split <;> omega, pb, 0, rfl, by rw [h]; exact h0, by unfold vfK; rw [h, if_neg (by omega)]; exact h1⟩), hb, fun _ _ e => by cases e; exact hpb⟩

theorem check_any {F : Nat → Bool} (ea : Nat → Addr) (a b c d : Int) (w : World) (hG : Gd F ea w) (f2 : F 2 = true) :
    Calls Tryz.prog 13 #[vecV a b c d] w (ChkEnds ea (vfK a b c d) (vfAt a b c d) w) := by
  have g2 := (hG.errs 2 (by omega) (by omega) f2).var
  have gl := World.block_lt_of_cell? _ _ g2
  simp only [errG] at g2 gl
  clear hG f2
  go_enter Tryz.func13, Tryz.ntmps13
  go_wp2_with fail
  have i0 : ∀ w, (Instr.index 25 (vecV a b c d) (.int .i64 0)).run Tryz.prog w = .ok (.int .i64 a) w := fun _ => by kernel_rfl
  have i1 : ∀ w, (Instr.index 25 (vecV a b c d) (.int .i64 1)).run Tryz.prog w = .ok (.int .i64 b) w := fun _ => by kernel_rfl
  have i2 : ∀ w, (Instr.index 25 (vecV a b c d) (.int .i64 2)).run Tryz.prog w = .ok (.int .i64 c) w := fun _ => by kernel_rfl
  have i3 : ∀ w, (Instr.index 25 (vecV a b c d) (.int .i64 3)).run Tryz.prog w = .ok (.int .i64 d) w := fun _ => by kernel_rfl
  refine wp_loop_rounds 5 ?_
  rw [rounds_succ]
  go_wp2_with fail
  any_goals (rw [rounds_succ]; go_wp2_with fail)
  any_goals (rw [rounds_succ]; go_wp2_with fail)
  any_goals (rw [rounds_succ]; go_wp2_with fail)
  any_goals (rw [rounds_succ]; go_wp2_with fail)
  all_goals go_ret
  · exact ChkEnds.yes (w.heap.size + 1) (by omega) (vfAt_0 (by omega)) (by omega) (by simp [go_sem]) (by simp [go_sem]) (((Below.refl _ w).alloc (Nat.le_refl _) _).alloc (by simp) _)
  · exact ChkEnds.yes (w.heap.size + 1) (by omega) (vfAt_1 (by omega) (by omega)) (by omega) (by simp [go_sem]) (by simp [go_sem]) (((Below.refl _ w).alloc (Nat.le_refl _) _).alloc (by simp) _)
  · exact ChkEnds.yes (w.heap.size + 1) (by omega) (vfAt_2 (by omega) (by omega) (by omega)) (by omega) (by simp [go_sem]) (by simp [go_sem]) (((Below.refl _ w).alloc (Nat.le_refl _) _).alloc (by simp) _)
  · exact ChkEnds.yes (w.heap.size + 1) (by omega) (vfAt_3 (by omega) (by omega) (by omega) (by omega)) (by omega) (by simp [go_sem]) (by simp [go_sem]) (((Below.refl _ w).alloc (Nat.le_refl _) _).alloc (by simp) _)
  · exact ChkEnds.no (vfAt_n (by omega) (by omega) (by omega) (by omega)) ((Below.refl _ w).alloc (Nat.le_refl _) _)
  · exact ChkEnds.yes (w.heap.size + 1) (by omega) (vfAt_3 (by omega) (by omega) (by omega) (by omega)) (by omega) (by simp [go_sem]) (by simp [go_sem]) (((Below.refl _ w).alloc (Nat.le_refl _) _).alloc (by simp) _)
  · exact ChkEnds.yes (w.heap.size + 1) (by omega) (vfAt_2 (by omega) (by omega) (by omega)) (by omega) (by simp [go_sem]) (by simp [go_sem]) (((Below.refl _ w).alloc (Nat.le_refl _) _).alloc (by simp) _)
  · exact ChkEnds.yes (w.heap.size + 1) (by omega) (vfAt_1 (by omega) (by omega)) (by omega) (by simp [go_sem]) (by simp [go_sem]) (((Below.refl _ w).alloc (Nat.le_refl _) _).alloc (by simp) _)
  · exact ChkEnds.yes (w.heap.size + 1) (by omega) (vfAt_0 (by omega)) (by omega) (by simp [go_sem]) (by simp [go_sem]) (((Below.refl _ w).alloc (Nat.le_refl _) _).alloc (by simp) _)
theorem infoString : (Tryz.prog.info? 9).map (fun i => (i.zero, i.size, i.bytes)) = some (some (.string ⟨#[]⟩), 1, 16) := by kernel_rfl

def txts (a b c d : Int) : List ByteArray := [S (Lib.itoa a), S (Lib.itoa b), S (Lib.itoa c), S (Lib.itoa d)]
def strV (xs : List ByteArray) : List Value := xs.map Value.string
def vecT (a b c d : Int) : List UInt8 := Lib.join [Lib.itoa a, Lib.itoa b, Lib.itoa c, Lib.itoa d] [46]

/-- a list of texts of the call's own, in the making -/
structure TSt (F : Nat → Bool) (ea : Nat → Addr) (w0 : World) (v : Value) (xs : List ByteArray) (w : World) : Prop where
  own : w.ownsRow w0.heap.size 9 1 v xs.length (strV xs)
  gd : Gd F ea w
  bel : Below w0.heap.size w0 w
theorem TSt.below {F : Nat → Bool} {ea : Nat → Addr} {w0 w w' : World} {v : Value} {xs : List ByteArray} (h : TSt F ea w0 v xs w) (hb : Below w.heap.size w w') : TSt F ea w0 v xs w' :=
  ⟨h.own.kept (row := none) ⟨hb.os, hb.tape, hb.output, hb.size, fun k hk _ => hb.block k hk⟩ (by cases hv : v.ownBlock <;> simp), h.gd.below hb, h.bel.trans (hb.mono h.bel.size)⟩
theorem TSt.app {F : Nat → Bool} {ea : Nat → Addr} {w0 w w' : World} {v v' : Value} {xs : List ByteArray} {x : ByteArray} {o : Obj} (h : TSt F ea w0 v xs w) (hG0 : Gd F ea w0)
    (hown : w'.ownsRow w0.heap.size 9 1 v' (xs.length + 1) (strV xs ++ [.string x])) (hg : (w.alloc o).grownBy w' v.ownBlock) : TSt F ea w0 v' (xs ++ [x]) w' := by
  have hb : Below w0.heap.size w0 w' := (h.bel.alloc h.bel.size o).grown hg (by have := h.bel.size; simp; omega) (fun k hk => (h.own.lt k hk).1)
  exact ⟨by simpa [strV] using hown, hG0.below hb, hb⟩

theorem text_any {F : Nat → Bool} (ea : Nat → Addr) (a b c d : Int) (w : World) (hG : Gd F ea w) (f21 : F 21 = true) (ha : -9223372036854775808 ≤ a ∧ a ≤ 9223372036854775807) (hb : -9223372036854775808 ≤ b ∧ b ≤ 9223372036854775807) (hc : -9223372036854775808 ≤ c ∧ c ≤ 9223372036854775807) (hd : -9223372036854775808 ≤ d ∧ d ≤ 9223372036854775807) :
    Calls Tryz.prog 14 #[vecV a b c d] w fun r w' => r = .returned (.string (S (vecT a b c d))) ∧ Below w.heap.size w w' := by
  have HG := Lib.hid hG
  have HA := Lib.hid ha
  have HB := Lib.hid hb
  have HC := Lib.hid hc
  have HD := Lib.hid hd
  clear hG ha hb hc hd
  go_enter Tryz.func14, Tryz.ntmps14
  go_wp2_with fail
  obtain ⟨W, hW⟩ : ∃ W, W = w.alloc (.cells #[.int .i64 a, .int .i64 b, .int .i64 c, .int .i64 d] 25) := ⟨_, rfl⟩
  have hS : TSt F ea w (.slice none 0 0) [] W := by
    subst hW
    exact ⟨World.ownsRow_nil _ _ _ _, HG.out.alloc _, (Below.refl _ _).alloc (Nat.le_refl _) _⟩
  rw [← hW]
  clear hW
  have HS := Lib.hid hS
  clear hS
  have i0 : ∀ w, (Instr.index 25 (vecV a b c d) (.int .i64 0)).run Tryz.prog w = .ok (.int .i64 a) w := fun _ => by kernel_rfl
  have i1 : ∀ w, (Instr.index 25 (vecV a b c d) (.int .i64 1)).run Tryz.prog w = .ok (.int .i64 b) w := fun _ => by kernel_rfl
  have i2 : ∀ w, (Instr.index 25 (vecV a b c d) (.int .i64 2)).run Tryz.prog w = .ok (.int .i64 c) w := fun _ => by kernel_rfl
  have i3 : ∀ w, (Instr.index 25 (vecV a b c d) (.int .i64 3)).run Tryz.prog w = .ok (.int .i64 d) w := fun _ => by kernel_rfl
  go_loopw [3, 7] (fun v3 v7 wr => ∃ j : Nat, j ≤ 4 ∧ v7 = .int .i64 j ∧ TSt F ea w v3 ((txts a b c d).take j) wr) (fun _ v7 _ => 4 - (intOf v7).toNat)
  case atStart => exact ⟨0, by omega, rfl, HS.out⟩
  case round =>
    clear HS
    obtain ⟨j, hj, rfl, hS⟩ := hrel
    have hcases : j = 0 ∨ j = 1 ∨ j = 2 ∨ j = 3 ∨ j = 4 := by omega
    rcases hcases with rfl | rfl | rfl | rfl | rfl
    · go_wp2_with fail
      refine (itoa_any ea a _ hS.gd f21 HA.out.1 HA.out.2).mono ?_
      rintro r w1 ⟨rfl, hb1⟩
      have hS1 := hS.below hb1
      clear hS hb1
      have HS := Lib.hid hS1
      have hsz := hS1.bel.size
      clear hS1
      obtain ⟨i0', hi, hz0, hz1, hz2⟩ := info_parts infoString
      go_wp2_with (at_builtin; refine wpList_append_own _ rfl _ _ 65 rfl w.heap.size 9 i0' (.string ⟨#[]⟩) 1 16 Tryz.underlying65 hi hz0 hz1 hz2 rfl (by decide) _ _ _ rfl (HS.out.own.alloc _) ⟨w1.heap.size, 0, none⟩ 1 1 [.string (S (Lib.itoa a))] rfl rfl ?a1 ?a2 ?a3 ?a4 ?a5 ?_)
      case a1 => intro jj u hjj; match jj, hjj with | 0, hjj => simp at hjj; subst hjj; simp [Addr.add]
      case a2 => intro u hu; simp at hu; subst hu; rfl
      case a3 => unfold maxLen; simp [txts]
      case a4 => simp [txts]
      case a5 => simp; omega
      intro v' wF hown' hgrow _
      have hS2 := HS.out.app (x := S (Lib.itoa a)) HG.out hown' hgrow
      clear hown' hgrow hi hz0 hz1 hz2 hsz
      go_wp2_with fail
      go_roundw
      case rel => exact ⟨1, by omega, by go_num, hS2⟩
      case measure => simp [intOf]
    · go_wp2_with fail
      refine (itoa_any ea b _ hS.gd f21 HB.out.1 HB.out.2).mono ?_
      rintro r w1 ⟨rfl, hb1⟩
      have hS1 := hS.below hb1
      clear hS hb1
      have HS := Lib.hid hS1
      have hsz := hS1.bel.size
      clear hS1
      obtain ⟨i0', hi, hz0, hz1, hz2⟩ := info_parts infoString
      go_wp2_with (at_builtin; refine wpList_append_own _ rfl _ _ 65 rfl w.heap.size 9 i0' (.string ⟨#[]⟩) 1 16 Tryz.underlying65 hi hz0 hz1 hz2 rfl (by decide) _ _ _ rfl (HS.out.own.alloc _) ⟨w1.heap.size, 0, none⟩ 1 1 [.string (S (Lib.itoa b))] rfl rfl ?b1 ?b2 ?b3 ?b4 ?b5 ?_)
      case b1 => intro jj u hjj; match jj, hjj with | 0, hjj => simp at hjj; subst hjj; simp [Addr.add]
      case b2 => intro u hu; simp at hu; subst hu; rfl
      case b3 => unfold maxLen; simp [txts]
      case b4 => simp [txts]
      case b5 => simp; omega
      intro v' wF hown' hgrow _
      have hS2 := HS.out.app (x := S (Lib.itoa b)) HG.out hown' hgrow
      clear hown' hgrow hi hz0 hz1 hz2 hsz
      go_wp2_with fail
      go_roundw
      case rel => exact ⟨2, by omega, by go_num, hS2⟩
      case measure => simp [intOf]
    · go_wp2_with fail
      refine (itoa_any ea c _ hS.gd f21 HC.out.1 HC.out.2).mono ?_
      rintro r w1 ⟨rfl, hb1⟩
      have hS1 := hS.below hb1
      clear hS hb1
      have HS := Lib.hid hS1
      have hsz := hS1.bel.size
      clear hS1
      obtain ⟨i0', hi, hz0, hz1, hz2⟩ := info_parts infoString
      go_wp2_with (at_builtin; refine wpList_append_own _ rfl _ _ 65 rfl w.heap.size 9 i0' (.string ⟨#[]⟩) 1 16 Tryz.underlying65 hi hz0 hz1 hz2 rfl (by decide) _ _ _ rfl (HS.out.own.alloc _) ⟨w1.heap.size, 0, none⟩ 1 1 [.string (S (Lib.itoa c))] rfl rfl ?c1 ?c2 ?c3 ?c4 ?c5 ?_)
      case c1 => intro jj u hjj; match jj, hjj with | 0, hjj => simp at hjj; subst hjj; simp [Addr.add]
      case c2 => intro u hu; simp at hu; subst hu; rfl
      case c3 => unfold maxLen; simp [txts]
      case c4 => simp [txts]
      case c5 => simp; omega
      intro v' wF hown' hgrow _
      have hS2 := HS.out.app (x := S (Lib.itoa c)) HG.out hown' hgrow
      clear hown' hgrow hi hz0 hz1 hz2 hsz
      go_wp2_with fail
      go_roundw
      case rel => exact ⟨3, by omega, by go_num, hS2⟩
      case measure => simp [intOf]
    · go_wp2_with fail
      refine (itoa_any ea d _ hS.gd f21 HD.out.1 HD.out.2).mono ?_
      rintro r w1 ⟨rfl, hb1⟩
      have hS1 := hS.below hb1
      clear hS hb1
      have HS := Lib.hid hS1
      have hsz := hS1.bel.size
      clear hS1
      obtain ⟨i0', hi, hz0, hz1, hz2⟩ := info_parts infoString
      go_wp2_with (at_builtin; refine wpList_append_own _ rfl _ _ 65 rfl w.heap.size 9 i0' (.string ⟨#[]⟩) 1 16 Tryz.underlying65 hi hz0 hz1 hz2 rfl (by decide) _ _ _ rfl (HS.out.own.alloc _) ⟨w1.heap.size, 0, none⟩ 1 1 [.string (S (Lib.itoa d))] rfl rfl ?d1 ?d2 ?d3 ?d4 ?d5 ?_)
      case d1 => intro jj u hjj; match jj, hjj with | 0, hjj => simp at hjj; subst hjj; simp [Addr.add]
      case d2 => intro u hu; simp at hu; subst hu; rfl
      case d3 => unfold maxLen; simp [txts]
      case d4 => simp [txts]
      case d5 => simp; omega
      intro v' wF hown' hgrow _
      have hS2 := HS.out.app (x := S (Lib.itoa d)) HG.out hown' hgrow
      clear hown' hgrow hi hz0 hz1 hz2 hsz
      go_wp2_with fail
      go_roundw
      case rel => exact ⟨4, by omega, by go_num, hS2⟩
      case measure => simp [intOf]
    · have hown := hS.own
      rcases hown.2 with ⟨_, h0⟩ | ⟨g, cap, cur, hv, hg, hh, hcap, hm, hsz, hcs⟩
      · simp [txts] at h0
      · have hcell : ∀ (j : Nat) x, (txts a b c d)[j]? = some x → wr.cell? ⟨g, 0 + j, none⟩ = some (.string x) := by
          intro j x hx
          have := hown.cells (g := g) (by rw [hv]; rfl) j (.string x) (by rw [strV, List.getElem?_map, show ((txts a b c d).take 4)[j]? = some x by simpa [txts] using hx]; rfl)
          rwa [Addr.add_lit] at this
        have hgl := World.block_lt_of_cell? _ _ (hcell 0 _ rfl)
        have hbel := hS.bel
        have la := itoa_len20 a HA.out.1 HA.out.2
        have lb := itoa_len20 b HB.out.1 HB.out.2
        have lc := itoa_len20 c HC.out.1 HC.out.2
        have ld := itoa_len20 d HD.out.1 HD.out.2
        rw [S_size] at la lb lc ld
        have hlen : (Lib.join ((txts a b c d).map (·.data.toList)) [46]).length ≤ 140737488355328 := by
          simp [txts, Lib.join, S_list, List.intercalate]
          omega
        have HC1 := Lib.hid hcell
        have HL := Lib.hid hlen
        have HV := Lib.hid hv
        have hcap' : 4 ≤ cap := by simpa [txts] using hcap
        clear hown hh hsz hcs hcell hlen hv hcap la lb lc ld hS hm
        subst u3
        go_wp2_with fail
        refine (Tryz.strings_Join g 0 cap (txts a b c d) ⟨#[46]⟩ _ HC1.out hgl (by simp [txts]) hcap' HL.out).mono ?_
        rintro r w1 ⟨rfl, hb1⟩
        go_wp2_with fail
        go_ret
        exact ⟨ret_str rfl, hbel.trans (hb1.mono hbel.size)⟩
end Go.Proofs.YthlojjknpfijmaaGreatDoor
