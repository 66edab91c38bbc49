/- The document's line: what is seen, its text, a letter deleted. -/
import Derived.Test.YthlojjknpfijmaaDoorMLine2
import Derived.Test.YthlojjknpfijmaaDoorLineD
import Derived.StillTailTactics
namespace Go.Proofs.YthlojjknpfijmaaDoor
open Go Go.RowKit Go.Shelf
set_option linter.unusedVariables false
set_option linter.unusedSimpArgs false
set_option maxHeartbeats 4000000
set_option maxRecDepth 100000

def seenL (L : List Lt) : List Lt := L.filter fun x => !x.gone
theorem seenL_len (L : List Lt) : (seenL L).length ≤ L.length := List.length_filter_le _ _
theorem seenL_take (L : List Lt) (j : Nat) (x : Lt) (h : L[j]? = some x) : seenL (L.take (j + 1)) = seenL (L.take j) ++ if x.gone then [] else [x] := by
  unfold seenL
  rw [List.take_add_one, h]
  cases hg : x.gone <;> simp [hg]

/-- letters that a call hands back -/
def GivesLets (xs : List Lt) (w : World) (e : Ending) (w' : World) : Prop := ∃ v, e = .returned v ∧ Rw letE 51 w.heap.size v xs w' ∧ Below w.heap.size w w'

theorem mseen_any (base MB : Nat) (v : Value) (L : List Lt) (w : World) (hn : L.length ≤ 1000) (h : MSt base MB v L w) :
    Calls Tryd.prog 27 #[.pointer (some ⟨MB, 0, none⟩)] w (GivesLets (seenL L) w) := by
  have hlt := h.lt
  obtain ⟨n, hn1⟩ : ∃ n, n = L.length := ⟨_, rfl⟩
  have hs := h.own.sl
  obtain ⟨A, cp, hv, hc⟩ := hs.form
  have hp := h.ptr
  rw [hv] at hp hs
  rw [← hn1] at hp hs hn
  have HN := Lib.hid hn1
  have HS := Lib.hid hs
  have HP : Hid (∀ w', Below w.heap.size w w' → w'.cell? ⟨MB, 0, none⟩ = some (.slice A n cp) ∧ SlV letE w' (.slice A n cp) L) := Lib.hid fun w' hb => ⟨(hb.cell (p := ⟨MB, 0, none⟩) hlt).trans hp, hs.below hb⟩
  clear h hs hv hn1 hp hc
  go_enter Tryd.func27, Tryd.ntmps27
  go_wp2_with fail
  go_loopw [3, 4] (fun v3 v4 wr => ∃ j : Nat, v4 = .int .i64 j ∧ j ≤ n ∧ Rw letE 51 w.heap.size v3 (seenL (L.take j)) wr ∧ Below w.heap.size w wr) (fun _ v4 _ => n - (intOf v4).toNat)
  case atStart => exact ⟨0, rfl, by omega, Rw.nil _ _ _ _, Below.refl _ _⟩
  case round =>
    obtain ⟨j, rfl, hj, hR, hb⟩ := hrel
    obtain ⟨p1, hs1⟩ := HP.out wr hb
    have HS1 := Lib.hid hs1
    have HR := Lib.hid hR
    have HB := Lib.hid hb
    clear hs1 hR hb
    by_cases hlt2 : j < n
    · obtain ⟨x, hx⟩ : ∃ x, L[j]? = some x := ⟨_, List.getElem?_eq_getElem (by have := HN.out; omega)⟩
      obtain ⟨b, off, rfl, hbl, hcc⟩ := HS1.out.at' (by decide) hx
      have q0 : wr.cell? ⟨b, off + j * 3, none⟩ = some (.int .i64 x.id) := hcc 0 _ rfl
      have q1 : wr.cell? ⟨b, off + j * 3 + 1, none⟩ = some (.int .u8 x.c.toNat) := hcc 1 _ rfl
      have q2 : wr.cell? ⟨b, off + j * 3 + 2, none⟩ = some (.bool x.gone) := hcc 2 _ rfl
      have HX := Lib.hid (seenL_take L j x hx)
      have i0 : (0 : Int) ≤ (j : Int) := by omega
      have i1 : (j : Int) < (n : Int) := by omega
      have hsz := HB.out.size
      have hln := seenL_len (L.take j)
      rw [List.length_take] at hln
      clear hx hcc
      cases hgn : x.gone with
      | true =>
        rw [hgn] at q2 HX
        have HX2 : Hid (seenL (L.take (j + 1)) = seenL (L.take j)) := Lib.hid (by rw [HX.out]; simp)
        clear HX q0 q1
        go_wp2_with fail
        go_roundw
        case rel => exact ⟨j + 1, by go_num, by omega, by rw [HX2.out]; exact HR.out, HB.out⟩
        case measure => simp [intOf]; omega
      | false =>
        rw [hgn] at q2 HX
        have HX2 : Hid (seenL (L.take (j + 1)) = seenL (L.take j) ++ [x]) := Lib.hid (by rw [HX.out]; simp)
        have HO : Hid (SlV letE (wr.alloc (.cells #[.int .i64 x.id, .int .u8 x.c.toNat, .bool false] 51)) (.slice (some ⟨wr.heap.size, 0, none⟩) 1 1) [x]) := Lib.hid (SlV.one wr x _ _ (by show _ = Lt.cells x; rw [Lt.cells, hgn]))
        clear HX hgn
        go_wp2_with (at_builtin; refine wpList_append_rows rfl _ _ 44 rfl letE w.heap.size 51 (.agg #[.int .i64 0, .int .u8 0, .bool false]) 16 Tryd.underlying44 infoMLet rfl (by decide) _ _ (seenL (L.take j)) [x] rfl rfl (HR.out.below ((Below.refl _ _).alloc (Nat.le_refl _) _)) HO.out ?a1 ?a2 ?a3 ?_)
        case a1 => unfold maxLen; simp; omega
        case a2 => simp; omega
        case a3 => simp; omega
        intro v' wF hr' hg'
        have HR2 := Lib.hid hr'
        have HB2 : Hid (Below w.heap.size w wF) := Lib.hid ((HB.out.alloc HB.out.size _).grown hg' (by simp; omega) (fun k hk => (HR.out.lt k hk).1))
        clear hr' hg' HO
        go_wp2_with fail
        go_roundw
        case rel => exact ⟨j + 1, by go_num, by omega, by rw [HX2.out]; exact HR2.out, HB2.out⟩
        case measure => simp [intOf]; omega
    · have hge : ¬ (j : Int) < (n : Int) := by omega
      have HE : Hid (L.take j = L) := Lib.hid (List.take_of_length_le (by have := HN.out; omega))
      clear hlt2
      go_wp2_with fail
      go_ret
      exact ⟨_, rfl, by have := HR.out; rw [HE.out] at this; exact this, HB.out⟩

theorem txt_seen (L : List Lt) : txtL L = (seenL L).map (·.c) := rfl

theorem mtext_any (base MB : Nat) (v : Value) (L : List Lt) (w : World) (hn : L.length ≤ 1000) (h : MSt base MB v L w) :
    Calls Tryd.prog 26 #[.pointer (some ⟨MB, 0, none⟩)] w fun e w' => e = .returned (.string (S (txtL L))) ∧ Below w.heap.size w w' := by
  have HSe := Lib.hid (mseen_any base MB v L w hn h)
  obtain ⟨M, hM⟩ : ∃ M, M = seenL L := ⟨_, rfl⟩
  have hml : M.length ≤ 1000 := by have := seenL_len L; rw [hM]; omega
  have HTx : Hid (txtL L = M.map (·.c)) := Lib.hid (by rw [hM]; rfl)
  rw [← hM] at HSe
  clear hM h hn
  go_enter Tryd.func26, Tryd.ntmps26
  go_wp2_with fail
  refine HSe.out.mono ?_
  rintro e w1 ⟨v1, rfl, hR, hb⟩
  have hs := hR.sl
  obtain ⟨A, cp, hv, hc⟩ := hs.form
  subst hv
  obtain ⟨m, hm⟩ : ∃ m, m = M.length := ⟨_, rfl⟩
  rw [← hm] at hs hml
  rw [← hm]
  have HM := Lib.hid hm
  have HS := Lib.hid hs
  have HB := Lib.hid hb
  clear hs hb hR hm hc HSe
  go_wp2_with fail
  go_loopw [3, 5] (fun v3 v5 wr => ∃ j : Nat, v5 = .int .i64 j ∧ j ≤ m ∧ v3 = .string (S ((M.map (·.c)).take j)) ∧ Below w1.heap.size w1 wr) (fun _ v5 _ => m - (intOf v5).toNat)
  case atStart => exact ⟨0, rfl, by omega, rfl, Below.refl _ _⟩
  case round =>
    obtain ⟨j, rfl, hj, rfl, hb⟩ := hrel
    have HB1 := Lib.hid hb
    clear hb
    by_cases hlt2 : j < m
    · obtain ⟨x, hx⟩ : ∃ x, M[j]? = some x := ⟨_, List.getElem?_eq_getElem (by have := HM.out; omega)⟩
      obtain ⟨b, off, rfl, hbl, hcc⟩ := (HS.out.below HB1.out).at' (by decide) hx
      have q1 : wr.cell? ⟨b, off + j * 3 + 1, none⟩ = some (.int .u8 x.c.toNat) := hcc 1 _ rfl
      have i0 : (0 : Int) ≤ (j : Int) := by omega
      have i1 : (j : Int) < (m : Int) := by omega
      have HX : Hid ((M.map (·.c)).take (j + 1) = (M.map (·.c)).take j ++ [x.c]) := Lib.hid (by rw [List.take_add_one, List.getElem?_map, hx]; rfl)
      have HBy := Lib.hid (fun w => byte_any (x.c.toNat : Int) w ⟨by omega, by have := x.c.toNat_lt; omega⟩)
      have e8 : UInt8.ofNat ((x.c.toNat : Int)).toNat = x.c := by simp
      rw [e8] at HBy
      have b0 : (0 : Int) ≤ (x.c.toNat : Int) := by omega
      have b1 : (x.c.toNat : Int) ≤ 255 := by have := x.c.toNat_lt; omega
      have hsz1 : (S ((M.map (·.c)).take j)).size ≤ 1000 := by rw [S_size, List.length_take]; omega
      have hsz2 : (S [x.c]).size = 1 := rfl
      clear hx hcc e8
      go_wp2_with fail
      refine (HBy.out _).mono ?_
      rintro e w2 ⟨rfl, hb2⟩
      have HB2 := Lib.hid (HB1.out.trans (hb2.mono HB1.out.size))
      clear hb2 HBy
      go_wp2_with fail
      go_roundw
      case rel => exact ⟨j + 1, by go_num, by omega, by rw [HX.out, ← S_app], HB2.out⟩
      case measure => simp [intOf]; omega
    · have hge : ¬ (j : Int) < (m : Int) := by omega
      have HE : Hid ((M.map (·.c)).take j = M.map (·.c)) := Lib.hid (List.take_of_length_le (by rw [List.length_map]; have := HM.out; omega))
      clear hlt2
      go_wp2_with fail
      go_ret
      exact ⟨by rw [HTx.out, HE.out]; rfl, HB.out.trans (HB1.out.mono HB.out.size)⟩

theorem info3 : (Tryd.prog.info? 51).map (·.size) = some 3 := by kernel_rfl
def MDelEnd (base MB : Nat) (v : Value) (id : Int) (L : List Lt) (w : World) (e : Ending) (w' : World) : Prop :=
  e = .returned (.int .i64 (if ixOf id L < 0 then 6 else 0)) ∧ MSt base MB v (delL id L) w' ∧ Fr (fun k => k = MB ∨ v.ownBlock = some k) w w'

theorem set_same {L : List Value} {i : Nat} {v : Value} (h : L[i]? = some v) : L.set i v = L := by
  obtain ⟨hl, rfl⟩ := List.getElem?_eq_some_iff.1 h
  exact List.set_getElem_self hl
theorem ixOf_id {id : Int} {L : List Lt} {n : Nat} {x : Lt} (h : ixOf id L = n) (hx : L[n]? = some x) : x.id = id := by
  obtain ⟨A, y, B, rfl, h2, h3, h4⟩ := ixOf_at (id := id) (L := L) (by omega)
  have hk : n = A.length := by omega
  rw [hk, List.getElem?_append_right (by omega)] at hx
  simp at hx
  rw [← hx]; exact h2
theorem mdel_end {base MB g m cap n : Nat} {id : Int} {L : List Lt} {x : Lt} {w : World} (h : MSt base MB (.slice (some ⟨g, 0, none⟩) m cap) L w) (hm : m = L.length) (hk : ixOf id L = n) (hx : L[n]? = some x) :
    MSt base MB (.slice (some ⟨g, 0, none⟩) m cap) (delL id L) (((w.drew.setCell ⟨g, n * 3, none⟩ (.int .i64 id)).setCell ⟨g, n * 3 + 1, none⟩ (.int .u8 x.c.toNat)).setCell ⟨g, n * 3 + 2, none⟩ (.bool true)) ∧
      Fr (fun k => k = MB ∨ some g = some k) w (((w.drew.setCell ⟨g, n * 3, none⟩ (.int .i64 id)).setCell ⟨g, n * 3 + 1, none⟩ (.int .u8 x.c.toNat)).setCell ⟨g, n * 3 + 2, none⟩ (.bool true)) := by
  have hid := ixOf_id hk hx
  have h0 := h.below (Below.refl _ w).drew
  have o0 : w.drew.ownsRow base 51 3 (.slice (some ⟨g, 0, none⟩) m cap) m (lts L) := by have := h0.own; unfold Rw at this; rw [← hm] at this; exact this
  obtain ⟨o1, g1⟩ := o0.stored (n * 3) (.int .i64 id)
  obtain ⟨o2, g2⟩ := o1.stored (n * 3 + 1) (.int .u8 x.c.toNat)
  obtain ⟨o3, g3⟩ := o2.stored (n * 3 + 2) (.bool true)
  obtain ⟨a0, a1, a2⟩ := lts_at L n x hx
  rw [hid] at a0
  rw [set_same a0, set_same a1] at o3
  have hgne : g ≠ MB := fun e => h.ne (by rw [e]; rfl)
  have hne2 : ∀ (j : Nat) (k : Nat), k ≠ g → k ≠ (⟨g, j, none⟩ : Addr).block := fun j k hk => hk
  refine ⟨⟨?_, fun o => by have := h0.fz o; simpa using this, ?_, h.ne, h.ge⟩, ⟨rfl, rfl, rfl, by simp, fun k hk hne => ?_⟩⟩
  · refine (World.cell?_setCell_other _ _ _ _ (by simp [Ne.symm hgne])).trans ((World.cell?_setCell_other _ _ _ _ (by simp [Ne.symm hgne])).trans ((World.cell?_setCell_other _ _ _ _ (by simp [Ne.symm hgne])).trans h0.ptr))
  · unfold Rw
    rw [delL_len, ← hm, letsOf, lts_del hk]
    exact o3
  · have hkg : k ≠ g := fun e => hne (.inr (by rw [e]))
    exact (heap_setCell_other _ ⟨g, n * 3 + 2, none⟩ k _ hkg).trans ((heap_setCell_other _ ⟨g, n * 3 + 1, none⟩ k _ hkg).trans (heap_setCell_other w.drew ⟨g, n * 3, none⟩ k _ hkg))

theorem mdelete_any (base MB : Nat) (v : Value) (id : Int) (L : List Lt) (w : World) (hb : base ≤ w.heap.size) (hn : L.length ≤ 1000) (h : MSt base MB v L w) :
    Calls Tryd.prog 25 #[.pointer (some ⟨MB, 0, none⟩), .int .i64 id] w (MDelEnd base MB v id L w) := by
  have HF := Lib.hid (mfind_any id base MB v L w hn h)
  have hlb := ixOf_lt id L
  obtain ⟨k, hk⟩ : ∃ k, ixOf id L = k := ⟨_, rfl⟩
  have HK := Lib.hid hk
  rw [hk] at HF hlb
  have HS := Lib.hid h
  clear h hk
  by_cases hx : k < 0
  · go_enter Tryd.func25, Tryd.ntmps25
    go_wp2_with fail
    refine HF.out.mono ?_
    rintro e w1 ⟨rfl, hb⟩
    have HB := Lib.hid hb
    clear hb
    go_wp2_with fail
    go_ret
    refine ⟨by rw [HK.out, if_pos hx]; rfl, ?_, Fr.of_below HB.out⟩
    rw [delL_none (by rw [HK.out]; exact hx)]
    exact HS.out.below HB.out
  · obtain ⟨n, rfl⟩ : ∃ n : Nat, k = n := ⟨k.toNat, by omega⟩
    have hnl : n < L.length := by omega
    rcases HS.out.own.form with ⟨_, h0⟩ | ⟨g, cap, hv, hcap, hcm, hbg, hgl⟩
    · rw [h0] at hnl; simp at hnl
    subst hv
    obtain ⟨m, hm⟩ : ∃ m, m = L.length := ⟨_, rfl⟩
    rw [← hm] at hlb hnl hcap HS
    have HM := Lib.hid hm
    have hm2 : m ≤ 1000 := by omega
    obtain ⟨x, hx0⟩ : ∃ x, L[n]? = some x := ⟨_, List.getElem?_eq_getElem (by omega)⟩
    have HX := Lib.hid hx0
    clear hm hcm hn hx0
    go_enter Tryd.func25, Tryd.ntmps25
    go_wp2_with fail
    refine HF.out.mono ?_
    rintro e w1 ⟨rfl, hb⟩
    have hS1 := HS.out.below hb
    have HS1 := Lib.hid hS1
    have q := hS1.ptr
    have q0 : w1.cell? ⟨g, n * 3, none⟩ = some (.int .i64 x.id) := hS1.own.at' rfl HX.out (j := 0) rfl
    have q1 : w1.cell? ⟨g, n * 3 + 1, none⟩ = some (.int .u8 x.c.toNat) := hS1.own.at' rfl HX.out (j := 1) rfl
    have q2 : w1.cell? ⟨g, n * 3 + 2, none⟩ = some (.bool x.gone) := hS1.own.at' rfl HX.out (j := 2) rfl
    have z0 := hS1.own.fz (n * 3)
    have z1 := hS1.own.fz (n * 3 + 1)
    have z2 := hS1.own.fz (n * 3 + 2)
    have HB := Lib.hid hb
    have i0 : (0 : Int) ≤ (n : Int) := by omega
    have i1 : (n : Int) < (m : Int) := by omega
    clear hS1 hb
    go_wp2_with fail
    go_still_tail 16, (by kernel_rfl)
    change wpList _ _ _ _ _ w1.drew
    go_wp2_with fail
    go_ret
    have he := mdel_end HS1.out HM.out HK.out HX.out
    have hm := HM.out
    subst hm
    exact ⟨by rw [HK.out, if_neg (by omega)]; rfl, he.1, (Fr.of_below HB.out).trans he.2⟩
end Go.Proofs.YthlojjknpfijmaaDoor
