/- A letter deleted; a letter by its number. -/
import Derived.Test.YthlojjknpfijmaaDoorLineR
import Derived.Laws.OwnMore
namespace Go.Proofs.YthlojjknpfijmaaDoor
open Go Go.RowKit Go.Shelf
set_option linter.unusedVariables false
set_option linter.unusedSimpArgs false
set_option maxHeartbeats 4000000
set_option maxRecDepth 100000

theorem lts_del {id : Int} {L : List Lt} {k : Nat} (h : ixOf id L = k) : lts (delL id L) = (lts L).set (k * 3 + 2) (.bool true) := by
  obtain ⟨A, x, B, rfl, h2, h3, h4⟩ := ixOf_at (id := id) (L := L) (by omega)
  have hk : k = A.length := by omega
  rw [delL_at h2 h4, lts_app, lts_app, List.set_append_right _ _ (by rw [lts_len]; omega), lts_len, hk, show A.length * 3 + 2 - A.length * 3 = 2 by omega]
  rfl

def DelEnd (ea : Nat → Addr) (base LB : Nat) (v : Value) (id : Int) (L : List Lt) (w : World) (e : Ending) (w' : World) : Prop :=
  e = .returned (if ixOf id L < 0 then errV (ea 6) else .nilIface) ∧ LineSt base LB v (delL id L) w' ∧ Fr (Own LB v) w w'

theorem line_delete {F : Nat → Bool} (ea : Nat → Addr) (base LB : Nat) (v : Value) (id : Int) (L : List Lt) (w : World) (hG : Gd F ea w) (f6 : F 6 = true) (hst : LineSt base LB v L w) (hn : L.length ≤ 1000) :
    Calls Tryd.prog 19 #[.pointer (some ⟨LB, 0, none⟩), .int .i64 id] w (DelEnd ea base LB v id L w) := by
  have HF := Lib.hid (find_any id LB L w hn hst.at')
  have hlb := ixOf_lt id L
  obtain ⟨k, hk⟩ : ∃ k, ixOf id L = k := ⟨_, rfl⟩
  have HK := Lib.hid hk
  rw [hk] at HF hlb
  have HG := Lib.hid hG
  have HS := Lib.hid hst
  clear hG hst hk
  by_cases hx : k < 0
  · go_enter Tryd.func19, Tryd.ntmps19
    go_wp2_with fail
    refine HF.out.mono ?_
    rintro e w1 ⟨rfl, hb⟩
    have gv := ((HG.out.below hb).errs 6 (by omega) (by omega) f6).var
    simp only [errG] at gv
    have HB := Lib.hid hb
    clear hb
    go_wp2_with fail
    go_ret
    refine ⟨by rw [HK.out, if_pos hx]; rfl, ?_, Fr.of_below HB.out⟩
    rw [delL_none (by rw [HK.out]; exact hx)]
    exact HS.out.below HB.out
  · obtain ⟨n, rfl⟩ : ∃ n : Nat, k = n := ⟨k.toNat, by omega⟩
    have hnl : n < L.length := by omega
    rcases HS.out.own.2 with ⟨_, h0⟩ | ⟨g, cap, cur, hv, hg0, hgg, hcap, hcm, hcs, htk⟩
    · omega
    subst hv
    obtain ⟨m, hm⟩ : ∃ m, m = L.length := ⟨_, rfl⟩
    rw [← hm] at hlb hnl hcap HS
    have HM := Lib.hid hm
    have hm2 : m ≤ 1000 := by omega
    clear hm hgg hcs htk hcm hn
    go_enter Tryd.func19, Tryd.ntmps19
    go_wp2_with fail
    refine HF.out.mono ?_
    rintro e w1 ⟨rfl, hb⟩
    have hS1 := HS.out.below hb
    have HS1 := Lib.hid hS1
    have q := hS1.ptr
    have own1 := hS1.own
    rw [← HM.out] at own1
    have HO := Lib.hid own1
    have st := own1.stored (n * 3 + 2) (.bool true)
    have fz := own1.frozenAt (n * 3 + 2)
    have cc := own1.cellAt (n * 3 + 2) (by omega)
    rw [List.getElem?_eq_getElem (by rw [lts_len, ← HM.out]; omega)] at cc
    generalize (lts L)[n * 3 + 2]'_ = old at cc
    have HST := Lib.hid st
    have HB := Lib.hid hb
    have i0 : (0 : Int) ≤ (n : Int) := by omega
    have i1 : (n : Int) < (m : Int) := by omega
    clear st own1 hS1 hb
    go_wp2_with fail
    go_ret
    have hgne : g ≠ LB := fun e => HS1.out.ne (by rw [e]; rfl)
    have hm := HM.out
    subst hm
    refine ⟨by rw [HK.out, if_neg (by omega)]; rfl, ⟨(World.cell?_setCell_other _ _ _ _ (by simp [Ne.symm hgne])).trans HS1.out.ptr, fun o => by have := HS1.out.fz o; simpa using this, ?_, HS1.out.ne, HS1.out.ge⟩, ?_⟩
    · rw [lts_del HK.out, delL_len, ← HM.out]
      exact HST.out.1
    · refine ⟨HB.out.os, HB.out.tape, HB.out.output, by have := HB.out.size; simpa using this, fun j hj hne => ?_⟩
      exact (heap_setCell_other w1 ⟨g, n * 3 + 2, none⟩ j _ (fun e => hne (.inr (by rw [e]; rfl)))).trans (HB.out.block j hj)
end Go.Proofs.YthlojjknpfijmaaDoor
