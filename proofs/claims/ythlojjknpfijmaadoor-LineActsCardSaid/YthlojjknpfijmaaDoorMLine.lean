/- The document's line: a letter found, laid in, deleted. -/
import Derived.Test.YthlojjknpfijmaaDoorRow
import Derived.Test.YthlojjknpfijmaaDoorLine
namespace Go.Proofs.YthlojjknpfijmaaDoor
open Go Go.RowKit Go.Shelf
set_option linter.unusedVariables false
set_option linter.unusedSimpArgs false
set_option maxHeartbeats 4000000
set_option maxRecDepth 100000

def letE : Enc Lt := ⟨Lt.cells, 3, fun _ => rfl, fun x v hv => by simp only [Lt.cells, List.mem_cons, List.not_mem_nil, or_false] at hv; rcases hv with rfl | rfl | rfl <;> rfl⟩
theorem infoMLet : (Tryd.prog.info? 51).map (fun i => (i.zero, i.size, i.bytes)) = some (some (.agg #[.int .i64 0, .int .u8 0, .bool false]), 3, 16) := by kernel_rfl

/-- the document's line, of the call's own -/
structure MSt (base MB : Nat) (v : Value) (L : List Lt) (w : World) : Prop where
  ptr : w.cell? ⟨MB, 0, none⟩ = some v
  fz : ∀ o, w.frozen? ⟨MB, o, none⟩ = false
  own : Rw letE 51 base v L w
  ne : v.ownBlock ≠ some MB
  ge : base ≤ MB
theorem MSt.lt {base MB : Nat} {v : Value} {L : List Lt} {w : World} (h : MSt base MB v L w) : MB < w.heap.size := World.block_lt_of_cell? w _ h.ptr
theorem MSt.fr {X : Nat → Prop} {base MB : Nat} {v : Value} {L : List Lt} {w w' : World} (hl : MSt base MB v L w) (h : Fr X w w') (h1 : ¬ X MB) (h2 : ∀ k, v.ownBlock = some k → ¬ X k) : MSt base MB v L w' :=
  ⟨(h.cell hl.lt h1).trans hl.ptr, fun o => (h.frozen (p := ⟨MB, o, none⟩) hl.lt h1).trans (hl.fz o), hl.own.kept (fun k hk => h.block k (hl.own.lt k hk).2 (h2 k hk)), hl.ne, hl.ge⟩
theorem MSt.below {base MB : Nat} {v : Value} {L : List Lt} {w w' : World} (h : MSt base MB v L w) (hb : Below w.heap.size w w') : MSt base MB v L w' :=
  h.fr (X := fun _ => False) (Fr.of_below hb) (fun h => h) (fun _ _ h => h)

theorem mfind_any (id : Int) (base MB : Nat) (v : Value) (L : List Lt) (w : World) (hn : L.length ≤ 1000) (h : MSt base MB v L w) :
    Calls Tryd.prog 61 #[.pointer (some ⟨MB, 0, none⟩), .int .i64 id] w fun e w' => e = .returned (.int .i64 (ixOf id L)) ∧ Below w.heap.size w w' := by
  have hs := h.own.sl
  obtain ⟨A, c, hv, hc⟩ := hs.form
  have hp := h.ptr
  rw [hv] at hp hs
  obtain ⟨n, hn1⟩ : ∃ n, n = L.length := ⟨_, rfl⟩
  rw [← hn1] at hp hs hc
  have HN := Lib.hid hn1
  have HS := Lib.hid hs
  have hn2 : n ≤ 1000 := by omega
  clear h hs hv hn1 hn
  go_enter Tryd.func61, Tryd.ntmps61
  go_wp2_with fail
  go_loop [5] (fun v5 => ∃ j : Nat, j ≤ n ∧ v5 = .int .i64 j ∧ ∀ i y, i < j → L[i]? = some y → y.id ≠ id) (fun v5 => n - (intOf v5).toNat)
  case atStart => exact ⟨0, by omega, rfl, fun i y hi => by omega⟩
  case round =>
    obtain ⟨j, hj, rfl, hno⟩ := hrel
    have HNo := Lib.hid hno
    clear hno
    by_cases hlt : j < n
    · obtain ⟨x, hx⟩ : ∃ x, L[j]? = some x := ⟨_, List.getElem?_eq_getElem (by have := HN.out; omega)⟩
      obtain ⟨b, off, rfl, hb, hcc⟩ := HS.out.at' (by decide) hx
      have q0 : w.cell? ⟨b, off + j * 3, none⟩ = some (.int .i64 x.id) := hcc 0 _ rfl
      have HX := Lib.hid hx
      have i0 : (0 : Int) ≤ (j : Int) := by omega
      have i1 : (j : Int) < (n : Int) := by omega
      clear hx hcc hb
      by_cases he : x.id = id
      · have he2 : (x.id == id) = true := by simp [he]
        have HE := Lib.hid he
        clear he
        go_wp2_with fail
        go_ret
        exact ⟨by rw [ixOf_some HX.out HE.out HNo.out]; rfl, Below.refl _ _⟩
      · have he2 : (x.id == id) = false := by simp [he]
        have HE := Lib.hid he
        clear he
        go_wp2_with fail
        go_round
        case rel => exact ⟨j + 1, by omega, by go_num, fun i y hi hy => by
          by_cases e : i = j
          · subst e; rw [HX.out] at hy; cases hy; exact HE.out
          · exact HNo.out i y (by omega) hy⟩
        case measure => simp [intOf]; omega
    · have hge : ¬ (j : Int) < (n : Int) := by omega
      have hjn : n ≤ j := by omega
      clear hlt
      go_wp2_with fail
      go_ret
      exact ⟨by rw [ixOf_none (fun y hy => by
        obtain ⟨i, hi⟩ := List.mem_iff_getElem?.1 hy
        have hlt : i < L.length := (List.getElem?_eq_some_iff.1 hi).1
        exact HNo.out i y (by have := HN.out; omega) hi)]; rfl, Below.refl _ _⟩

theorem letsOf (L : List Lt) : letE.row L = lts L := rfl

theorem mlay_end {base MB : Nat} {v v2 v3 : Value} {L L' : List Lt} {w w2 w3 : World} (hb : base ≤ w.heap.size) (h : MSt base MB v L w) (hb2 : Below w.heap.size w w2) (hr : Rw letE 51 w.heap.size v3 L' w3) (hg : w2.grownBy w3 v2.ownBlock) (h2 : ∀ k, v2.ownBlock = some k → w.heap.size ≤ k ∧ k < w2.heap.size) :
    MSt base MB v3 L' (w3.setCell ⟨MB, 0, none⟩ v3) ∧ Fr (fun k => k = MB) w (w3.setCell ⟨MB, 0, none⟩ v3) ∧ ∀ k, v3.ownBlock = some k → w.heap.size ≤ k := by
  have hlt := h.lt
  have hsz2 := hb2.size
  have hne2 : ∀ k, k < w.heap.size → some k ≠ v2.ownBlock := fun k hk e => by have := (h2 k e.symm).1; omega
  have hb3 : Below w.heap.size w w3 := hb2.grown hg hsz2 (fun k hk => (h2 k hk).1)
  have hc : w3.cell? ⟨MB, 0, none⟩ = some v := (hb3.cell (p := ⟨MB, 0, none⟩) hlt).trans h.ptr
  refine ⟨⟨World.cell?_setCell_same _ _ _ hc, fun o => ?_, ?_, fun e => by have := (hr.lt MB e).1; omega, h.ge⟩, ⟨hb3.os, hb3.tape, hb3.output, by have := hb3.size; simpa using this, fun k hk hx => ?_⟩, fun k hk => (hr.lt k hk).1⟩
  · have := (hb3.frozen (p := ⟨MB, o, none⟩) hlt).trans (h.fz o)
    simpa using this
  · have h4 : Rw letE 51 w.heap.size v3 L' (w3.setCell ⟨MB, 0, none⟩ v3) := hr.kept (fun k hk => heap_setCell_other w3 ⟨MB, 0, none⟩ k v3 (fun e => by have := (hr.lt k hk).1; simp at e; omega))
    exact ⟨h4.1, by
      rcases h4.2 with hn | ⟨g, cap, cur, e1, e2, e3⟩
      · exact .inl hn
      · exact .inr ⟨g, cap, cur, e1, by omega, e3⟩⟩
  · exact (heap_setCell_other w3 ⟨MB, 0, none⟩ k v3 hx).trans (hb3.block k hk)

theorem mlay_any (base MB : Nat) (v : Value) (at' : Nat) (x : Lt) (L : List Lt) (w : World) (hb : base ≤ w.heap.size) (hn : L.length ≤ 1000) (ha : at' ≤ L.length) (h : MSt base MB v L w) :
    Calls Tryd.prog 62 #[.pointer (some ⟨MB, 0, none⟩), .int .i64 at', ltV x] w fun e w' => e = .returned (.tuple #[]) ∧ ∃ v', MSt base MB v' (L.take at' ++ x :: L.drop at') w' ∧ Fr (fun k => k = MB) w w' ∧ ∀ k, v'.ownBlock = some k → w.heap.size ≤ k := by
  obtain ⟨n, hn1⟩ : ∃ n, n = L.length := ⟨_, rfl⟩
  have hlt := h.lt
  have hs := h.own.sl
  have hp := h.ptr
  have hform := h.own.form
  have H := Lib.hid h
  have hn2 : n ≤ 1000 := by omega
  rw [← hn1] at ha hform
  have HN := Lib.hid hn1
  have i0 : (0 : Int) ≤ (at' : Int) := by omega
  have i1 : (at' : Int) ≤ (n : Int) := by omega
  have hfz := h.fz 0
  clear h hn hn1
  rcases hform with ⟨rfl, rfl⟩ | ⟨g, c, rfl, hc, hcm, hbg, hgl⟩
  · have h0 : at' = 0 := by have := HN.out; simp at this; omega
    subst h0
    have hn0 : n = 0 := by have := HN.out; simpa using this
    clear hs
    go_enter Tryd.func62, Tryd.ntmps62
    go_wp2_with (at_builtin; refine wpList_append_rows rfl _ _ 44 rfl letE w.heap.size 51 (.agg #[.int .i64 0, .int .u8 0, .bool false]) 16 Tryd.underlying44 infoMLet rfl (by decide) _ _ [] [] rfl rfl (Rw.nil _ _ _ _) SlV.nil ?e1 ?e2 ?e3 ?_)
    case e1 => unfold maxLen; simp
    case e2 => simp
    case e3 => simp
    intro v1 w1 hr1 hg1
    obtain ⟨BX, hBX⟩ : ∃ BX, BX = w.heap.size := ⟨_, rfl⟩
    have q0 : w1.cell? ⟨BX, 0, none⟩ = some (.int .i64 x.id) := by rw [hBX]; exact hg1.cell (by simp [go_sem]) (by simp [Value.ownBlock])
    have q1 : w1.cell? ⟨BX, 1, none⟩ = some (.int .u8 x.c.toNat) := by rw [hBX]; exact hg1.cell (by simp [go_sem]) (by simp [Value.ownBlock])
    have q2 : w1.cell? ⟨BX, 2, none⟩ = some (.bool x.gone) := by rw [hBX]; exact hg1.cell (by simp [go_sem]) (by simp [Value.ownBlock])
    have HB1 : Hid (Below w.heap.size w w1) := Lib.hid (((Below.refl _ _).alloc (Nat.le_refl _) _).grown hg1 (by simp) (fun k hk => by simp [Value.ownBlock] at hk))
    have hsz1 : w.heap.size + 1 ≤ w1.heap.size := by have := hg1.size; simpa using this
    have HR1 := Lib.hid (hr1.below ((Below.refl _ _).alloc (Nat.le_refl _) (.cells #[.int .i64 x.id, .int .u8 x.c.toNat, .bool x.gone] 51)))
    have HO1 : Hid (SlV letE (w1.alloc (.cells #[.int .i64 x.id, .int .u8 x.c.toNat, .bool x.gone] 51)) (.slice (some ⟨w1.heap.size, 0, none⟩) 1 1) [x]) := Lib.hid (SlV.one w1 x _ _ rfl)
    have hv1l := hr1.lt
    have HV1 := Lib.hid hv1l
    rw [← hBX]
    clear hr1 hg1 hBX hv1l
    go_wp2_with (at_builtin; refine wpList_append_rows rfl _ _ 44 rfl letE w.heap.size 51 (.agg #[.int .i64 0, .int .u8 0, .bool false]) 16 Tryd.underlying44 infoMLet rfl (by decide) _ _ [] [x] rfl rfl HR1.out HO1.out ?f1 ?f2 ?f3 ?_)
    case f1 => unfold maxLen; simp
    case f2 => simp
    case f3 => simp; omega
    intro v2 w2 hr2 hg2
    have HB2 : Hid (Below w.heap.size w w2) := Lib.hid ((HB1.out.alloc HB1.out.size _).grown hg2 (by simp; omega) (fun k hk => (HV1.out k hk).1))
    have HR2 := Lib.hid hr2
    have HV2 := Lib.hid hr2.lt
    have p2 : w2.cell? ⟨MB, 0, none⟩ = some (.slice none 0 0) := (HB2.out.cell (p := ⟨MB, 0, none⟩) hlt).trans hp
    have fz2 : w2.frozen? ⟨MB, 0, none⟩ = false := (HB2.out.frozen (p := ⟨MB, 0, none⟩) hlt).trans hfz
    have hsz2 := HB2.out.size
    clear hr2 hg2 q0 q1 q2 hp hfz
    have HS2 : Hid (SlV letE w2 (.slice none 0 0) []) := Lib.hid SlV.nil
    clear HR1 HO1 HV1
    go_wp2_with (at_builtin; refine wpList_append_rows rfl _ _ 44 rfl letE w.heap.size 51 (.agg #[.int .i64 0, .int .u8 0, .bool false]) 16 Tryd.underlying44 infoMLet rfl (by decide) _ _ [x] [] rfl rfl HR2.out HS2.out ?g1 ?g2 ?g3 ?_)
    case g1 => unfold maxLen; simp
    case g2 => simp
    case g3 => omega
    intro v3 w3 hr3 hg3
    obtain ⟨A3, m3, c3, rfl⟩ := hr3.slice
    have HE := Lib.hid (mlay_end hb H.out HB2.out hr3 hg3 HV2.out)
    have p3 : w3.cell? ⟨MB, 0, none⟩ = some (.slice none 0 0) := hg3.cell p2 (fun e => by have := (HV2.out MB e.symm).1; omega)
    have fz3 : w3.frozen? ⟨MB, 0, none⟩ = false := (World.frozen?_of_block (hg3.block MB (World.block_lt_of_cell? _ _ p2) (fun e => by have := (HV2.out MB e.symm).1; omega))).trans fz2
    clear hr3 hg3 HR2 HS2
    go_wp2_with fail
    go_end0
    exact ⟨rfl, _, by simpa using HE.out.1, HE.out.2.1, HE.out.2.2⟩
  · have HS := Lib.hid hs
    have i2 : (at' : Int) ≤ (c : Int) := by omega
    have HSa : Hid (SlV letE (w.alloc (.cells x.cells.toArray 51)) (.slice (some ⟨g, 0, none⟩) at' c) (L.take at')) := Lib.hid ((HS.out.take ha c (by omega)).below ((Below.refl _ _).alloc (Nat.le_refl _) _))
    clear hs hbg hcm
    go_enter Tryd.func62, Tryd.ntmps62
    go_wp2_with (at_builtin; refine wpList_append_rows rfl _ _ 44 rfl letE w.heap.size 51 (.agg #[.int .i64 0, .int .u8 0, .bool false]) 16 Tryd.underlying44 infoMLet rfl (by decide) _ _ [] (L.take at') rfl rfl (Rw.nil _ _ _ _) HSa.out ?a1 ?a2 ?a3 ?_)
    case a1 => unfold maxLen; rw [List.length_take]; simp; omega
    case a2 => rw [List.length_take]; simp; omega
    case a3 => simp
    intro v1 w1 hr1 hg1
    obtain ⟨BX, hBX⟩ : ∃ BX, BX = w.heap.size := ⟨_, rfl⟩
    have q0 : w1.cell? ⟨BX, 0, none⟩ = some (.int .i64 x.id) := by rw [hBX]; exact hg1.cell (by simp [go_sem]) (by simp [Value.ownBlock])
    have q1 : w1.cell? ⟨BX, 1, none⟩ = some (.int .u8 x.c.toNat) := by rw [hBX]; exact hg1.cell (by simp [go_sem]) (by simp [Value.ownBlock])
    have q2 : w1.cell? ⟨BX, 2, none⟩ = some (.bool x.gone) := by rw [hBX]; exact hg1.cell (by simp [go_sem]) (by simp [Value.ownBlock])
    have HB1 : Hid (Below w.heap.size w w1) := Lib.hid (((Below.refl _ _).alloc (Nat.le_refl _) _).grown hg1 (by simp) (fun k hk => by simp [Value.ownBlock] at hk))
    have hsz1 : w.heap.size + 1 ≤ w1.heap.size := by have := hg1.size; simpa using this
    have HR1 := Lib.hid (hr1.below ((Below.refl _ _).alloc (Nat.le_refl _) (.cells #[.int .i64 x.id, .int .u8 x.c.toNat, .bool x.gone] 51)))
    have HO1 : Hid (SlV letE (w1.alloc (.cells #[.int .i64 x.id, .int .u8 x.c.toNat, .bool x.gone] 51)) (.slice (some ⟨w1.heap.size, 0, none⟩) 1 1) [x]) := Lib.hid (SlV.one w1 x _ _ rfl)
    have hv1l := hr1.lt
    have HV1 := Lib.hid hv1l
    rw [← hBX]
    clear hr1 hg1 HSa hBX hv1l
    go_wp2_with (at_builtin; refine wpList_append_rows rfl _ _ 44 rfl letE w.heap.size 51 (.agg #[.int .i64 0, .int .u8 0, .bool false]) 16 Tryd.underlying44 infoMLet rfl (by decide) _ _ (L.take at') [x] rfl rfl HR1.out HO1.out ?b1 ?b2 ?b3 ?_)
    case b1 => unfold maxLen; rw [List.length_take]; simp; omega
    case b2 => rw [List.length_take]; simp; omega
    case b3 => simp; omega
    intro v2 w2 hr2 hg2
    have HB2 : Hid (Below w.heap.size w w2) := Lib.hid ((HB1.out.alloc HB1.out.size _).grown hg2 (by simp; omega) (fun k hk => (HV1.out k hk).1))
    have HR2 := Lib.hid hr2
    have HV2 := Lib.hid hr2.lt
    have p2 : w2.cell? ⟨MB, 0, none⟩ = some (.slice (some ⟨g, 0, none⟩) n c) := (HB2.out.cell (p := ⟨MB, 0, none⟩) hlt).trans hp
    have fz2 : w2.frozen? ⟨MB, 0, none⟩ = false := (HB2.out.frozen (p := ⟨MB, 0, none⟩) hlt).trans hfz
    have hsz2 := HB2.out.size
    clear hr2 hg2 q0 q1 q2 hp hfz
    by_cases hac : at' = c
    · obtain rfl : n = at' := by omega
      obtain rfl : n = c := by omega
      have HS2 : Hid (SlV letE w2 (.slice (some ⟨g, 0, none⟩) 0 0) (L.drop n)) := Lib.hid (by rw [List.drop_eq_nil_of_le (by have := HN.out; omega)]; exact SlV.empty _ _)
      clear HR1 HO1 HV1
      go_wp2_with (at_builtin; refine wpList_append_rows rfl _ _ 44 rfl letE w.heap.size 51 (.agg #[.int .i64 0, .int .u8 0, .bool false]) 16 Tryd.underlying44 infoMLet rfl (by decide) _ _ (L.take n ++ [x]) (L.drop n) rfl rfl HR2.out HS2.out ?c1 ?c2 ?c3 ?_)
      case c1 => unfold maxLen; have := HN.out; simp; omega
      case c2 => have := HN.out; simp; omega
      intro v3 w3 hr3 hg3
      obtain ⟨A3, m3, c3, rfl⟩ := hr3.slice
      have HE := Lib.hid (mlay_end hb H.out HB2.out hr3 hg3 HV2.out)
      have p3 : w3.cell? ⟨MB, 0, none⟩ = some (.slice (some ⟨g, 0, none⟩) n n) := hg3.cell p2 (fun e => by have := (HV2.out MB e.symm).1; omega)
      have fz3 : w3.frozen? ⟨MB, 0, none⟩ = false := (World.frozen?_of_block (hg3.block MB (World.block_lt_of_cell? _ _ p2) (fun e => by have := (HV2.out MB e.symm).1; omega))).trans fz2
      clear hr3 hg3 HR2 HS2
      go_wp2_with fail
      go_end0
      exact ⟨rfl, _, by simpa using HE.out.1, HE.out.2.1, HE.out.2.2⟩
    · have hac2 : at' < c := by omega
      have HS2 : Hid (SlV letE w2 (.slice (some ⟨g, at' * 3, none⟩) (n - at') (c - at')) (L.drop at')) := Lib.hid (by have h3 := (HS.out.drop ha (c - at') (by omega)).below HB2.out; rw [Nat.zero_add] at h3; exact h3)
      clear HR1 HO1 HV1
      go_wp2_with (at_builtin; refine wpList_append_rows rfl _ _ 44 rfl letE w.heap.size 51 (.agg #[.int .i64 0, .int .u8 0, .bool false]) 16 Tryd.underlying44 infoMLet rfl (by decide) _ _ (L.take at' ++ [x]) (L.drop at') rfl rfl HR2.out HS2.out ?d1 ?d2 ?d3 ?_)
      case d1 => unfold maxLen; have := HN.out; simp; omega
      case d2 => have := HN.out; simp; omega
      case d3 => omega
      intro v3 w3 hr3 hg3
      obtain ⟨A3, m3, c3, rfl⟩ := hr3.slice
      have HE := Lib.hid (mlay_end hb H.out HB2.out hr3 hg3 HV2.out)
      have p3 : w3.cell? ⟨MB, 0, none⟩ = some (.slice (some ⟨g, 0, none⟩) n c) := hg3.cell p2 (fun e => by have := (HV2.out MB e.symm).1; omega)
      have fz3 : w3.frozen? ⟨MB, 0, none⟩ = false := (World.frozen?_of_block (hg3.block MB (World.block_lt_of_cell? _ _ p2) (fun e => by have := (HV2.out MB e.symm).1; omega))).trans fz2
      clear hr3 hg3 HR2 HS2
      go_wp2_with fail
      go_end0
      exact ⟨rfl, _, by simpa using HE.out.1, HE.out.2.1, HE.out.2.2⟩
end Go.Proofs.YthlojjknpfijmaaDoor
