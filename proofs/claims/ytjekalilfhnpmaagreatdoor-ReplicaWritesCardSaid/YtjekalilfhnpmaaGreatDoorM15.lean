/- Cells of marks: those that are not empty, in their order. Cells of marks: the walk of Marks. Cells of marks: the plain law: whoever sets and joins, in whatever order, the newest one stays. Operations sorted: the walk of op.Sort. -/
import Derived.Test.YtjekalilfhnpmaaGreatDoorSortL
import Derived.Shelf.SlSortCmp.NoneTotal
import Derived.Lib.SliceRun
import Derived.Test.YtjekalilfhnpmaaGreatDoorM04
import Derived.Test.YtjekalilfhnpmaaGreatDoorM06
import Derived.Test.YtjekalilfhnpmaaGreatDoorM08
import Derived.Test.YtjekalilfhnpmaaGreatDoorM11
import Derived.Test.YtjekalilfhnpmaaGreatDoorM14
namespace Go.Proofs.YtjekalilfhnpmaaGreatDoor
open Go Go.RowKit Go.Maps Go.Shelf Go.Lib Go.Sort
set_option linter.unusedVariables false
set_option linter.unusedSimpArgs false
set_option maxHeartbeats 4000000
set_option maxRecDepth 1000000
structure MarkT where
  nd : Int
  nm : ByteArray
  vl : ByteArray
def MarkT.key (x : MarkT) : KeyT := (x.nd, x.nm)
def MarkT.cells (x : MarkT) : Array Value := #[.int .i64 x.nd, .string x.nm, .string x.vl]
def markE : Enc MarkT := ⟨fun x => x.cells.toList, 3, fun _ => rfl, fun x v hv => by
  simp [MarkT.cells] at hv
  rcases hv with rfl | rfl | rfl <;> rfl⟩
theorem infoMark : (Tryz.prog.info? 130).map (fun i => (i.zero, i.size, i.bytes)) = some (some (.agg #[.int .i64 0, .string ⟨#[]⟩, .string ⟨#[]⟩]), 3, 40) := by kernel_rfl
def markOf (m : MapC) (k : KeyT) : MarkT := ⟨k.1, k.2, match m k with | some c => c.v | none => ⟨#[]⟩⟩
theorem markCmp_any (x y : MarkT) (W : World) : Calls Tryz.prog 127 #[.agg x.cells, .agg y.cells] W fun e w' => e = .returned (.int .i64 (kCmp x.key y.key)) ∧ ∃ q os', w' = grow (W.drewN q) os' := by
  have HI := Lib.hid (fun w => cmpI_any x.nd y.nd w)
  have HSc := Lib.hid (fun w => cmpS_any x.nm y.nm w)
  have HE : Hid (kCmp x.key y.key = if iCmp x.nd y.nd = 0 then sCmp x.nm y.nm else iCmp x.nd y.nd) := Lib.hid (kCmp_eq _ _)
  have HO := Lib.hid orI_any
  generalize kCmp x.key y.key = R at HE ⊢
  generalize iCmp x.nd y.nd = c1 at HI HE
  generalize sCmp x.nm y.nm = c2 at HSc HE
  obtain ⟨W1, hW1⟩ : ∃ W1, W1 = (W.alloc (.cells x.cells 130)).alloc (.cells y.cells 130) := ⟨_, rfl⟩
  have x0 : W1.cell? ⟨W.heap.size, 0, none⟩ = some (.int .i64 x.nd) := by rw [hW1]; simp [go_sem, MarkT.cells]
  have x1 : W1.cell? ⟨W.heap.size, 1, none⟩ = some (.string x.nm) := by rw [hW1]; simp [go_sem, MarkT.cells]
  have y0 : W1.cell? ⟨W.heap.size + 1, 0, none⟩ = some (.int .i64 y.nd) := by rw [hW1]; simp [go_sem, MarkT.cells]
  have y1 : W1.cell? ⟨W.heap.size + 1, 1, none⟩ = some (.string y.nm) := by rw [hW1]; simp [go_sem, MarkT.cells]
  go_enter Tryz.func127, Tryz.ntmps127
  go_wp2_with fail
  rw [← hW1]
  have HW1 := Lib.hid hW1
  clear hW1
  go_still_tail 10, (by kernel_rfl)
  still_call (HI.out _)
  repeat still_step
  still_call (HSc.out _)
  refine wpStill_nil ?_
  change wpList _ _ _ _ _ W1.drew
  have HW2 : Hid (W1.drew = grow (W.drewN 1) (#[.cells x.cells 130] ++ #[.cells y.cells 130])) := Lib.hid (by rw [HW1.out, alloc_eq_grow, alloc_eq_grow, grow_grow]; rfl)
  clear x0 x1 y0 y1 HW1
  generalize W1.drew = W2 at HW2 ⊢
  have HO2 : Hid (∀ o, o = Obj.cells #[.int .i64 c1, .int .i64 c2] 3 → Calls Tryz.prog 72 #[.slice (some ⟨W2.heap.size, 0, none⟩) 2 2] (W2.alloc o) fun e w' => e = .returned (.int .i64 R) ∧ w' = W2.alloc o) := Lib.hid fun o ho => by
    rw [HE.out]
    refine HO.out W2.heap.size c1 c2 (W2.alloc o) ?_ ?_ 2
    · rw [ho]; simp [go_sem]
    · rw [ho]; simp [go_sem]
  go_wp2_with fail
  refine (HO2.out _ rfl).mono ?_
  rintro e w3 ⟨rfl, rfl⟩
  go_wp2_with fail
  go_ret
  exact ⟨rfl, 1, _, by rw [HW2.out, alloc_eq_grow, grow_grow]⟩
theorem ltOf_kCmp : ltOf kCmp = kLt := by
  funext x y
  unfold ltOf kCmp
  cases e1 : kLt x y <;> cases e2 : kLt y x <;> simp
abbrev sortK (ks : List KeyT) : List KeyT := ks.mergeSort fun x y => !kLt y x
theorem sortK_perm (ks : List KeyT) : (sortK ks).Perm ks := List.mergeSort_perm _ _
theorem sortK_sorted {ks : List KeyT} (h : ks.Pairwise (· ≠ ·)) : (sortK ks).Pairwise (fun x y => kLt x y = true) := by
  have h1 : (sortK ks).Pairwise (fun x y => (!kLt y x) = true) := List.pairwise_mergeSort (fun a b c h1 h2 => by
    simp only [Bool.not_eq_true'] at *
    exact swo_kLt.ntrans c b a h2 h1) (fun a b => by
    simp only [Bool.or_eq_true, Bool.not_eq_true']
    cases h : kLt b a with
    | false => exact .inl rfl
    | true => exact .inr (kLt_asymm h)) ks
  have h2 : (sortK ks).Pairwise (· ≠ ·) := ((sortK_perm ks).symm.pairwise_iff (fun {a b} h => Ne.symm h)).1 h
  refine (h1.and h2).imp fun {a b} ⟨ha, hb⟩ => ?_
  simp only [Bool.not_eq_true'] at ha
  cases h : kLt a b with
  | true => rfl
  | false => exact absurd (kLt_tri h ha) hb
theorem marksSort_any (base g n cap : Nat) (m : MapC) (ks : List KeyT) (w : World) (h : Rw markE 130 base (.slice (some ⟨g, 0, none⟩) n cap) (ks.map (markOf m)) w) (hb : base ≤ w.heap.size) (hl : ks.length ≤ 100000) :
    Calls Tryz.prog 126 #[.slice (some ⟨g, 0, none⟩) n cap, .func (.func 127) #[] #[]] w fun e w' =>
      e = .returned (.tuple #[]) ∧ Rw markE 130 base (.slice (some ⟨g, 0, none⟩) n cap) ((sortK ks).map (markOf m)) w' ∧ Below base w w' := by
  have hn : n = ks.toArray.size := by rw [h.sl.len]; simp
  have hd : ks.toArray.toList.map (markOf m) = ks.map (markOf m) := by simp
  have hcmp : CmpLays Tryz.prog 127 #[] (encBy markE (markOf m)) 3 kCmp g 0 ks.toArray.size w := fun q os dk _ x y => by
    have := markCmp_any (markOf m x) (markOf m y) (sortWorldK (encBy markE (markOf m)) 3 w g 0 q dk os)
    exact this
  have := AnyQ.slices_SortFunc_total Tryz.sortMark 3 (fun w => by kernel_rfl) (fun w => by kernel_rfl) (encBy markE (markOf m)) (fun x => rfl) (fun x => markE.one _) kCmp (by rw [ltOf_kCmp]; exact swo_kLt) 127 #[] g 0 cap ks.toArray w
    (fun args w => by kernel_rfl) hcmp (h.holdsK hd) (h.lt g rfl).2 (by simp; omega) (by rw [ltOf_kCmp]; exact fun x y => kLt_tri)
  rw [← hn] at this
  refine Calls.mono (show Calls Tryz.prog 126 #[.slice (some ⟨g, 0, none⟩) n cap, .func (.func 127) #[] #[]] w _ from this) fun e w' ⟨he, q, os, hw⟩ => ?_
  rw [ltOf_kCmp] at hw
  have hS := h.sorted (d := ks.toArray) (d' := (sortK ks).toArray) hd (by simp [List.length_mergeSort]) ⟨q, os, hw⟩
  exact ⟨he, by simpa using hS.1, hS.2 hb⟩
end Go.Proofs.YtjekalilfhnpmaaGreatDoor
namespace Go.Proofs.YtjekalilfhnpmaaGreatDoor
open Go Go.RowKit Go.Maps Go.Shelf Go.Lib Go.Sort
set_option linter.unusedVariables false
set_option linter.unusedSimpArgs false
set_option maxHeartbeats 4000000
set_option maxRecDepth 1000000
/-- what has been collected -/
structure CollIs (m : MapC) (ks : List KeyT) (todo : KeyT → Prop) : Prop where
  nod : ks.Pairwise (· ≠ ·)
  mem : ∀ k, k ∈ ks ↔ (KeyOk k ∧ ¬ todo k ∧ ∃ c, m k = some c ∧ c.v.size ≠ 0)
theorem CollIs.start (m : MapC) : CollIs m [] (fun k => (m k).isSome = true) := ⟨List.Pairwise.nil, fun k => ⟨fun h => by simp at h, fun ⟨_, h, c, hc, _⟩ => absurd (by rw [hc]; rfl) h⟩⟩
theorem CollIs.skip {m : MapC} {ks : List KeyT} {todo : KeyT → Prop} {x : KeyT} {c : CellT} (h : CollIs m ks todo) (hx : m x = some c) (he : c.v.size = 0) : CollIs m ks (fun y => todo y ∧ y ≠ x) := by
  refine ⟨h.nod, fun k => ⟨fun hk => ?_, fun ⟨h1, h2, c', hc', h3⟩ => ?_⟩⟩
  · obtain ⟨h1, h2, h3⟩ := (h.mem k).1 hk
    exact ⟨h1, fun h => h2 h.1, h3⟩
  · refine (h.mem k).2 ⟨h1, fun ht => ?_, c', hc', h3⟩
    refine h2 ⟨ht, fun e => ?_⟩
    rw [e, hx] at hc'
    cases hc'
    exact h3 he
theorem CollIs.take {m : MapC} {ks : List KeyT} {todo : KeyT → Prop} {x : KeyT} {c : CellT} (h : CollIs m ks todo) (hx : m x = some c) (ht : todo x) (hk : KeyOk x) (he : c.v.size ≠ 0) : CollIs m (ks ++ [x]) (fun y => todo y ∧ y ≠ x) := by
  refine ⟨List.pairwise_append.2 ⟨h.nod, by simp, fun a ha b hb e => ?_⟩, fun k => ⟨fun h' => ?_, fun ⟨h1, h2, c', hc', h3⟩ => ?_⟩⟩
  · rw [List.mem_singleton] at hb
    rw [e, hb] at ha
    exact ((h.mem x).1 ha).2.1 ht
  · rcases List.mem_append.1 h' with h' | h'
    · obtain ⟨h1, h2, h3⟩ := (h.mem k).1 h'
      exact ⟨h1, fun h => h2 h.1, h3⟩
    · rw [List.mem_singleton.1 h']
      exact ⟨hk, fun h => h.2 rfl, c, hx, he⟩
  · by_cases e : k = x
    · exact List.mem_append.2 (.inr (by simp [e]))
    · exact List.mem_append.2 (.inl ((h.mem k).2 ⟨h1, fun h => h2 ⟨h, e⟩, c', hc', h3⟩))
/-- how the marks come -/
def MarksEnds (m : MapC) (n : Nat) (w : World) (e : Ending) (w' : World) : Prop :=
  ∃ (v : Value) (ks : List KeyT), e = .returned v ∧ Rw markE 130 w.heap.size v (ks.map (markOf m)) w' ∧ ks.Pairwise (fun x y => kLt x y = true) ∧ (∀ k, k ∈ ks ↔ (KeyOk k ∧ ∃ c, m k = some c ∧ c.v.size ≠ 0)) ∧ ks.length ≤ n ∧ Below w.heap.size w w'
theorem marks_any (base CB b n : Nat) (m : MapC) (w : World) (hst : CSt base CB b n m w) (hn : n ≤ 10000) :
    Calls Tryz.prog 66 #[.pointer (some ⟨CB, 0, none⟩)] w (MarksEnds m n w) := by
  have p0 := hst.ptr
  have hm := hst.mt
  have hbl := hm.lt
  go_enter Tryz.func66, Tryz.ntmps66
  go_wp2_with (at_range; refine wpList_rangeT _ rfl _ _ rfl 220 222 cellK Tryz.underlying185 keyV cellV b n m rfl hm ?_; intro w0 cnt0 hrg0 hc0 hg0 hs0)
  have HF0 : Hid (Fr (fun _ => False) w w0) := Lib.hid ((Fr.of_below (Below.refl _ w)).grown0 hg0)
  have HB0 : Hid (Below w.heap.size w w0) := Lib.hid (HF0.out.below (Nat.le_refl _) (fun _ h => h.elim))
  have HR0 := Lib.hid hrg0
  go_frame
  obtain ⟨r, hr⟩ : ∃ r, r = w.heap.size := ⟨_, rfl⟩
  have hrw : w.heap.size ≤ r := by omega
  rw [← hr] at HR0 ⊢
  clear hst p0 hm hrg0 hg0 HF0 hr
  go_loopw [3] (fun v3 wr => ∃ (todo : KeyT → Prop) (cnt : Nat) (ks : List KeyT), RC b r n m todo cnt wr ∧ ks.length + cnt ≤ n ∧ Rw markE 130 w.heap.size v3 (ks.map (markOf m)) wr ∧ (∀ k, v3.ownBlock = some k → r < k) ∧ Hid (CollIs m ks todo) ∧ Below w.heap.size w wr) (fun _ wr => wr.rangeLeft b r)
  case atStart => exact ⟨_, cnt0, [], HR0.out, by simpa using hc0, Rw.nil _ _ _ _, fun k hk => by simp [Value.ownBlock] at hk, Lib.hid (CollIs.start m), HB0.out⟩
  case round =>
    clear HB0 HR0
    obtain ⟨todo, cnt, ks, hrg, hkn, hrow, hvr, HC, hB⟩ := hrel
    have HRg := Lib.hid hrg
    have HRow := Lib.hid hrow
    have HV := Lib.hid hvr
    have HB := Lib.hid hB
    clear hrow hvr hB
    go_wp2_with (at_next; refine wpList_nextT _ rfl _ rfl 220 cellK keyV cellV keyV_inj shapeK b r n m todo cnt rfl hrg ?_ ?_)
    · intro hdone
      have HMem : Hid (∀ k, k ∈ ks ↔ (KeyOk k ∧ ∃ c, m k = some c ∧ c.v.size ≠ 0)) := Lib.hid fun k => by
        rw [HC.out.mem k]
        refine ⟨fun ⟨h1, h2, h3⟩ => ⟨h1, h3⟩, fun ⟨h1, h3⟩ => ⟨h1, ?_, h3⟩⟩
        obtain ⟨kl, hkl⟩ := key_reads h1
        exact hdone k.1 k.2 kl hkl
      clear hdone hrg
      rcases HRow.out.form with ⟨rfl, hnil⟩ | ⟨g, cap, rfl, hcap, _, hg1, hg2⟩
      · have hks : ks = [] := by simpa using hnil
        subst hks
        have HN := Lib.hid (fun W => AnyF.slices_SortFunc_none (ρ := Tryz.sortMark_ren) Tryz.sortMark none 0 (.func (.func 127) #[] #[]) W)
        have HN2 : Hid (∀ W, Calls Tryz.prog 126 #[.slice none 0 0, .func (.func 127) #[] #[]] W fun e w' => e = .returned (.tuple #[]) ∧ w' = W) := Lib.hid fun W => HN.out W
        clear hnil HN
        go_wp2_with fail
        refine (HN2.out _).mono ?_
        rintro e w2 ⟨rfl, rfl⟩
        go_wp2_with fail
        go_ret
        exact ⟨_, [], rfl, HRow.out, List.Pairwise.nil, HMem.out, by simp, HB.out⟩
      · have HS := Lib.hid (marksSort_any w.heap.size g (ks.map (markOf m)).length cap m ks wr HRow.out HB.out.size (by omega))
        clear hcap hg1 hg2
        obtain ⟨q, hq⟩ : ∃ q, (ks.map (markOf m)).length = q := ⟨_, rfl⟩
        rw [hq] at HS ⊢
        clear hq
        go_wp2_with fail
        refine HS.out.mono ?_
        rintro e w2 ⟨rfl, hr2, hb2⟩
        have HR2 := Lib.hid hr2
        have HB2 := Lib.hid (HB.out.trans hb2)
        clear hr2 hb2 HS
        go_wp2_with fail
        go_ret
        exact ⟨_, sortK ks, rfl, HR2.out, sortK_sorted HC.out.nod, fun k => by rw [(sortK_perm ks).mem_iff]; exact HMem.out k, by rw [(sortK_perm ks).length_eq]; omega, HB2.out⟩
    · intro xn xs c w1 cnt1 kl hkey hmx htd hrg1 hlt hg1 hs1 hen
      have HK := Lib.hid (keyOk_of ⟨kl, hkey⟩)
      have hF1 : Fr (· = r) wr w1 := fr_of_grown hg1 rfl
      have HRow1 : Hid (Rw markE 130 w.heap.size _ (ks.map (markOf m)) w1) := Lib.hid (HRow.out.fr (X := (· = r)) (fun k h1 h2 => hF1.block k h1 h2) (fun k hk e => by have := HV.out k hk; omega))
      have HB1 := Lib.hid (HB.out.trans (hF1.below HB.out.size (fun k hk => by rw [hk]; exact hrw)))
      have HRg1 := Lib.hid hrg1
      have hrl := hrg1.lt
      have hen2 : (Instr.entry (.pointer (some ⟨r, 0, none⟩))).run Tryz.prog w1 = .ok (.tuple #[.agg #[.int .i64 xn, .string xs], .agg #[.string c.v, .int .i64 c.t, .int .i64 c.b]]) w1 := hen
      have HLe : Hid (wr.rangeLeft b r = cnt) := Lib.hid hrg.left_eq
      have HMx := Lib.hid hmx
      have HTd := Lib.hid htd
      clear hrg hrg1 hen hkey hg1 hF1 hmx htd HB HRg HRow
      obtain ⟨tb, htb⟩ : ∃ tb, (c.v.toList == []) = tb := ⟨_, rfl⟩
      have HTb := Lib.hid htb
      cases tb with
      | true =>
        have HC1 := Lib.hid (HC.out.skip HMx.out (by
          have := HTb.out
          rw [beq_iff_eq, ByteArray.toList_eq] at this
          show c.v.data.size = 0
          rw [← Array.length_toList, this]; rfl))
        have hba2 : ∀ o1 o2, Below w1.heap.size w1 ((w1.alloc o1).alloc o2) := fun o1 o2 => ((Below.refl _ w1).alloc (Nat.le_refl _) o1).alloc (by simp) o2
        have HRow2 := Lib.hid (fun o1 o2 => HRow1.out.below (hba2 o1 o2))
        have HB2 := Lib.hid (fun o1 o2 => HB1.out.trans ((hba2 o1 o2).mono HB1.out.size))
        have HRg2 := Lib.hid (fun o1 o2 => (HRg1.out.grown (World.grownBy_alloc w1 o1 none) (by simp) (by simp)).grown (World.grownBy_alloc _ o2 none) (by simp) (by simp))
        have HLe2 : Hid (∀ o1 o2, ((w1.alloc o1).alloc o2).rangeLeft b r = cnt1) := Lib.hid fun o1 o2 => (HRg2.out o1 o2).left_eq
        clear hba2
        go_wp2_with fail
        go_roundw
        case rel => exact ⟨_, cnt1, ks, HRg2.out _ _, by omega, HRow2.out _ _, HV.out, HC1, HB2.out _ _⟩
        case measure => rw [HLe2.out, HLe.out]; omega
      | false =>
        have HC1 := Lib.hid (HC.out.take HMx.out HTd.out HK.out (by
          intro h
          have h2 := HTb.out
          rw [beq_eq_false_iff_ne, ByteArray.toList_eq] at h2
          exact h2 (List.eq_nil_of_length_eq_zero (by rw [Array.length_toList]; exact h))))
        have HMk : Hid ((⟨xn, xs, c.v⟩ : MarkT) = markOf m (xn, xs)) := Lib.hid (by unfold markOf; rw [HMx.out])
        have hba3 : ∀ o1 o2 o3, Below w1.heap.size w1 (((w1.alloc o1).alloc o2).alloc o3) := fun o1 o2 o3 => (((Below.refl _ w1).alloc (Nat.le_refl _) o1).alloc (by simp) o2).alloc (by simp; omega) o3
        have HRow3 := Lib.hid (fun o1 o2 o3 => HRow1.out.below (hba3 o1 o2 o3))
        have HB3 := Lib.hid (fun o1 o2 o3 => HB1.out.trans ((hba3 o1 o2 o3).mono HB1.out.size))
        have HRg3 := Lib.hid (fun o1 o2 o3 => ((HRg1.out.grown (World.grownBy_alloc w1 o1 none) (by simp) (by simp)).grown (World.grownBy_alloc _ o2 none) (by simp) (by simp)).grown (World.grownBy_alloc _ o3 none) (by simp) (by simp))
        have HO3 : Hid (∀ o1 o2, SlV markE (((w1.alloc o1).alloc o2).alloc (.cells #[.int .i64 xn, .string xs, .string c.v] 130)) (.slice (some ⟨w1.heap.size + 1 + 1, 0, none⟩) 1 1) [⟨xn, xs, c.v⟩]) := Lib.hid fun o1 o2 => by
          have e : w1.heap.size + 1 + 1 = ((w1.alloc o1).alloc o2).heap.size := by simp
          rw [e]
          exact SlV.one ((w1.alloc o1).alloc o2) (⟨xn, xs, c.v⟩ : MarkT) 130 #[.int .i64 xn, .string xs, .string c.v] rfl
        clear hs1
        have hl3 : (ks.map (markOf m)).length + 1 ≤ 10001 := by rw [List.length_map]; omega
        have hsz3 := HB1.out.size
        clear hba3
        go_wp2_with (at_builtin; refine wpList_append_rows_at rfl _ _ 127 rfl markE w.heap.size 130 (.agg #[.int .i64 0, .string ⟨#[]⟩, .string ⟨#[]⟩]) 40 Tryz.underlying127 infoMark rfl (by decide) _ _ (ks.map (markOf m)) [⟨xn, xs, c.v⟩] rfl rfl (HRow3.out _ _ _) (HO3.out _ _) ?za1 ?za2 ?za3 ?_)
        case za1 => unfold maxLen; have : [(⟨xn, xs, c.v⟩ : MarkT)].length = 1 := rfl; omega
        case za2 => have : [(⟨xn, xs, c.v⟩ : MarkT)].length = 1 := rfl; omega
        case za3 => simp; omega
        intro v6 w6 hr6 hg6 hat6
        have hr6' : Rw markE 130 w.heap.size v6 ((ks ++ [(xn, xs)]).map (markOf m)) w6 := by
          rw [List.map_append, List.map_singleton, ← HMk.out]; exact hr6
        have hrg6 : RC b r n m (fun y => todo y ∧ y ≠ (xn, xs)) cnt1 w6 := (HRg3.out _ _ _).grown hg6 (fun e => by have := HV.out b e.symm; omega) (fun e => by have := HV.out r e.symm; omega)
        have hv6 : ∀ k, v6.ownBlock = some k → r < k := fun k hk => by
          rcases hat6 with e | e
          · exact HV.out k (by rw [← e]; exact hk)
          · rw [e] at hk; have := Option.some.inj hk; omega
        have hb6 : Below w.heap.size w w6 := (HB3.out _ _ _).grown hg6 (by simp; omega) (fun k hk => by have := HV.out k hk; omega)
        have HLe6 : Hid (w6.rangeLeft b r = cnt1) := Lib.hid hrg6.left_eq
        have HR6 := Lib.hid hr6'
        have HRg6 := Lib.hid hrg6
        have HV6 := Lib.hid hv6
        have HB6 := Lib.hid hb6
        have HL6 : Hid ((ks ++ [(xn, xs)]).length + cnt1 ≤ n) := Lib.hid (by rw [List.length_append]; simp; omega)
        clear hr6 hr6' hg6 hat6 hrg6 hv6 hb6 hen2
        go_wp2_with fail
        go_roundw
        case rel => exact ⟨_, cnt1, _, HRg6.out, HL6.out, HR6.out, HV6.out, HC1, HB6.out⟩
        case measure => rw [HLe6.out, HLe.out]; omega
end Go.Proofs.YtjekalilfhnpmaaGreatDoor
namespace Go.Proofs.YtjekalilfhnpmaaGreatDoor
open Go Go.RowKit Go.Maps
set_option linter.unusedVariables false
set_option linter.unusedSimpArgs false
set_option maxHeartbeats 1000000
set_option maxRecDepth 100000
/-- a cell that an operation of a list lays at a key -/
def InL (L : List OpT) (k : KeyT) (c : CellT) : Prop := ∃ o ∈ L, opErr o = 0 ∧ o.k = 115 ∧ (o.nd, o.nm) = k ∧ c = ⟨o.vl, o.t, o.b⟩
theorem InL.nil (k : KeyT) (c : CellT) : ¬ InL [] k c := fun ⟨o, h, _⟩ => by simp at h
theorem InL.app (L M : List OpT) (k : KeyT) (c : CellT) : InL (L ++ M) k c ↔ InL L k c ∨ InL M k c := by
  constructor
  · rintro ⟨o, h, r⟩
    rcases List.mem_append.1 h with h | h
    · exact .inl ⟨o, h, r⟩
    · exact .inr ⟨o, h, r⟩
  · rintro (⟨o, h, r⟩ | ⟨o, h, r⟩)
    · exact ⟨o, List.mem_append.2 (.inl h), r⟩
    · exact ⟨o, List.mem_append.2 (.inr h), r⟩
/-- the newest of these -/
structure Best (S : CellT → Prop) (r : Option CellT) : Prop where
  no : r = none → ∀ c, ¬ S c
  is : ∀ c, r = some c → S c ∧ ∀ c', S c' → cLt c c' = false
theorem cLt_iff (a b : CellT) : cLt a b = true ↔ a.t < b.t ∨ a.t = b.t ∧ a.b < b.b := by simp [cLt]
theorem cLt_not (a b : CellT) : cLt a b = false ↔ ¬ (a.t < b.t ∨ a.t = b.t ∧ a.b < b.b) := by simp [cLt]
theorem Best.one {S : CellT → Prop} (hu : ∀ c c', S c → S c' → c.t = c'.t → c.b = c'.b → c = c') {r r' : Option CellT} (h : Best S r) (h' : Best S r') : r = r' := by
  cases hr : r with
  | none =>
    cases hr' : r' with
    | none => rfl
    | some c => exact absurd (h'.is c hr').1 (h.no hr c)
  | some c =>
    cases hr' : r' with
    | none => exact absurd (h.is c hr).1 (h'.no hr' c)
    | some c' =>
      obtain ⟨h1, h2⟩ := h.is c hr
      obtain ⟨h3, h4⟩ := h'.is c' hr'
      have e1 := (cLt_not _ _).1 (h2 c' h3)
      have e2 := (cLt_not _ _).1 (h4 c h1)
      rw [hu c c' h1 h3 (by omega) (by omega)]
/-- at all keys -/
def BestAll (S : KeyT → CellT → Prop) (m : MapC) : Prop := ∀ k, KeyOk k → Best (S k) (m k)
theorem BestAll.congr {S S' : KeyT → CellT → Prop} {m : MapC} (h : BestAll S m) (e : ∀ k c, S' k c ↔ S k c) : BestAll S' m := fun k hk =>
  ⟨fun hn c hc => (h k hk).no hn c ((e k c).1 hc), fun c hc => ⟨(e k c).2 ((h k hk).is c hc).1, fun c' hc' => ((h k hk).is c hc).2 c' ((e k c').1 hc')⟩⟩
theorem BestAll.start : BestAll (InL []) (fun _ => none) := fun k _ => ⟨fun _ c => InL.nil k c, fun c h => (by cases h)⟩
theorem BestAll.join {S T : KeyT → CellT → Prop} {m m' : MapC} (h : BestAll S m) (h' : BestAll T m') : BestAll (fun k c => S k c ∨ T k c) (joinC m m') := by
  intro k hk
  have b1 := h k hk
  have b2 := h' k hk
  unfold joinC
  cases h1 : m k with
  | none =>
    cases h2 : m' k with
    | none => exact ⟨fun _ c hc => hc.elim (b1.no h1 c) (b2.no h2 c), fun c hc => by cases hc⟩
    | some c2 =>
      obtain ⟨i1, i2⟩ := b2.is c2 h2
      exact ⟨fun e => (by cases e), fun c hc => by cases hc; exact ⟨.inr i1, fun c' hc' => hc'.elim (fun h => absurd h (b1.no h1 c')) (i2 c')⟩⟩
  | some c1 =>
    obtain ⟨j1, j2⟩ := b1.is c1 h1
    cases h2 : m' k with
    | none => exact ⟨fun e => (by cases e), fun c hc => by cases hc; exact ⟨.inl j1, fun c' hc' => hc'.elim (j2 c') (fun h => absurd h (b2.no h2 c'))⟩⟩
    | some c2 =>
      obtain ⟨i1, i2⟩ := b2.is c2 h2
      refine ⟨fun e => (by cases e), fun c hc => ?_⟩
      have hc' : (if cLt c1 c2 = true then c2 else c1) = c := Option.some.inj hc
      by_cases hl : cLt c1 c2 = true
      · rw [if_pos hl] at hc'
        subst hc'
        refine ⟨.inr i1, fun c' hc' => hc'.elim (fun h => ?_) (i2 c')⟩
        have := (cLt_not _ _).1 (j2 c' h)
        have := (cLt_iff _ _).1 hl
        rw [cLt_not]
        omega
      · rw [if_neg hl] at hc'
        subst hc'
        refine ⟨.inl j1, fun c' hc' => hc'.elim (j2 c') (fun h => ?_)⟩
        have := (cLt_not _ _).1 (i2 c' h)
        have := mt (cLt_iff c1 c2).2 hl
        rw [cLt_not]
        omega
theorem BestAll.set {S : KeyT → CellT → Prop} {m : MapC} {o : OpT} (h : BestAll S m) : BestAll (fun k c => S k c ∨ InL [o] k c) (setC m o).1 := by
  unfold setC
  by_cases he : opErr o ≠ 0
  · rw [if_pos he]
    exact h.congr (fun k c => ⟨fun hc => hc.elim id (fun ⟨x, hx, h1, _⟩ => by rw [List.mem_singleton.1 hx] at h1; exact absurd h1 he), .inl⟩)
  · rw [if_neg he]
    have he0 : opErr o = 0 := by omega
    by_cases hk : o.k ≠ 115
    · rw [if_pos hk]
      exact h.congr (fun k c => ⟨fun hc => hc.elim id (fun ⟨x, hx, _, h2, _⟩ => by rw [List.mem_singleton.1 hx] at h2; exact absurd h2 hk), .inl⟩)
    · rw [if_neg hk]
      have hk0 : o.k = 115 := by omega
      intro k hkk
      have b1 := h k hkk
      have hin : ∀ c, InL [o] (o.nd, o.nm) c ↔ c = ⟨o.vl, o.t, o.b⟩ := fun c => ⟨fun ⟨x, hx, _, _, _, hc⟩ => by rw [List.mem_singleton.1 hx] at hc; exact hc, fun hc => ⟨o, by simp, he0, hk0, rfl, hc⟩⟩
      by_cases e : k = (o.nd, o.nm)
      · subst e
        show Best _ ((layC m (o.nd, o.nm) ⟨o.vl, o.t, o.b⟩).1 (o.nd, o.nm))
        rw [layC_same]
        refine ⟨fun e => (by cases e), fun c hc => ?_⟩
        have hc := Option.some.inj hc
        cases hm : m (o.nd, o.nm) with
        | none =>
          rw [hm] at hc
          subst hc
          exact ⟨.inr ((hin _).2 rfl), fun c' hc' => hc'.elim (fun h => absurd h (b1.no hm c')) (fun h => by rw [(hin c').1 h, cLt_not]; simp)⟩
        | some was =>
          rw [hm] at hc
          obtain ⟨i1, i2⟩ := b1.is was hm
          have hc' : (if cLt was ⟨o.vl, o.t, o.b⟩ = true then (⟨o.vl, o.t, o.b⟩ : CellT) else was) = c := hc
          by_cases hl : cLt was ⟨o.vl, o.t, o.b⟩ = true
          · rw [if_pos hl] at hc'
            subst hc'
            refine ⟨.inr ((hin _).2 rfl), fun c' hc' => hc'.elim (fun h => ?_) (fun h => by rw [(hin c').1 h, cLt_not]; simp)⟩
            have h1 := (cLt_not _ _).1 (i2 c' h)
            have h2 := (cLt_iff _ _).1 hl
            rw [cLt_not]
            dsimp only at h2 ⊢
            omega
          · rw [if_neg hl] at hc'
            subst hc'
            refine ⟨.inl i1, fun c' hc' => hc'.elim (i2 c') (fun h => ?_)⟩
            rw [(hin c').1 h]
            cases hh : cLt was ⟨o.vl, o.t, o.b⟩ with
            | false => rfl
            | true => exact absurd hh hl
      · show Best _ ((layC m (o.nd, o.nm) ⟨o.vl, o.t, o.b⟩).1 k)
        rw [layC_other e]
        exact ⟨fun hn c hc => hc.elim (b1.no hn c) (fun ⟨x, hx, _, _, h3, _⟩ => by rw [List.mem_singleton.1 hx] at h3; exact e h3.symm), fun c hc => ⟨.inl (b1.is c hc).1, fun c' hc' => hc'.elim ((b1.is c hc).2 c') (fun ⟨x, hx, _, _, h3, _⟩ => by rw [List.mem_singleton.1 hx] at h3; exact absurd h3.symm e)⟩⟩
theorem eq_of_rising : ∀ {l l' : List KeyT}, l.Pairwise (fun x y => kLt x y = true) → l'.Pairwise (fun x y => kLt x y = true) → (∀ k, k ∈ l ↔ k ∈ l') → l = l'
  | [], [], _, _, _ => rfl
  | [], b :: s, _, _, h => by have := (h b).2 (by simp); simp at this
  | a :: r, [], _, _, h => by have := (h a).1 (by simp); simp at this
  | a :: r, b :: s, h1, h2, h => by
    obtain ⟨a1, a2⟩ := List.pairwise_cons.1 h1
    obtain ⟨b1, b2⟩ := List.pairwise_cons.1 h2
    have hab : a = b := by
      rcases List.mem_cons.1 ((h a).1 (by simp)) with e | ha
      · exact e
      · rcases List.mem_cons.1 ((h b).2 (by simp)) with e | hb
        · exact e.symm
        · have := kLt_trans (a1 b hb) (b1 a ha)
          rw [kLt_irrefl] at this
          cases this
    subst hab
    rw [eq_of_rising a2 b2 (fun p => ⟨fun hp => by
      rcases List.mem_cons.1 ((h p).1 (by simp [hp])) with e | hp'
      · have := a1 p hp
        rw [e, kLt_irrefl] at this
        cases this
      · exact hp', fun hp => by
      rcases List.mem_cons.1 ((h p).2 (by simp [hp])) with e | hp'
      · have := b1 p hp
        rw [e, kLt_irrefl] at this
        cases this
      · exact hp'⟩)]
/-- marks of the same cells are the same -/
theorem marks_same {m m' : MapC} {ks ks' : List KeyT} (he : ∀ k, KeyOk k → m k = m' k) (h1 : ks.Pairwise (fun x y => kLt x y = true)) (h2 : ∀ k, k ∈ ks ↔ (KeyOk k ∧ ∃ c, m k = some c ∧ c.v.size ≠ 0))
    (h3 : ks'.Pairwise (fun x y => kLt x y = true)) (h4 : ∀ k, k ∈ ks' ↔ (KeyOk k ∧ ∃ c, m' k = some c ∧ c.v.size ≠ 0)) : ks'.map (markOf m') = ks.map (markOf m) := by
  have e : ks' = ks := eq_of_rising h3 h1 (fun k => by
    rw [h2, h4]
    exact ⟨fun ⟨a, b⟩ => ⟨a, by rw [he k a]; exact b⟩, fun ⟨a, b⟩ => ⟨a, by rw [← he k a]; exact b⟩⟩)
  subst e
  refine List.map_congr_left fun k hk => ?_
  unfold markOf
  rw [he k ((h2 k).1 hk).1]
/-- of those with one stamp there is one -/
def OneStamp (L : List OpT) : Prop := ∀ x ∈ L, ∀ y ∈ L, x.t = y.t → x.b = y.b → x = y
theorem OneStamp.inl {L : List OpT} (h : OneStamp L) (k : KeyT) (c c' : CellT) (h1 : InL L k c) (h2 : InL L k c') (e1 : c.t = c'.t) (e2 : c.b = c'.b) : c = c' := by
  obtain ⟨o, ho, _, _, _, rfl⟩ := h1
  obtain ⟨o', ho', _, _, _, rfl⟩ := h2
  rw [h o ho o' ho' e1 e2]
end Go.Proofs.YtjekalilfhnpmaaGreatDoor
namespace Go.Proofs.YtjekalilfhnpmaaGreatDoor
open Go Go.RowKit Go.Shelf Go.Lib Go.Sort Stb
set_option linter.unusedVariables false
set_option linter.unusedSimpArgs false
set_option maxHeartbeats 4000000
set_option maxRecDepth 1000000
theorem less_grow (t b t' b' : Int) (w : World) :
    Calls Tryz.prog 119 #[stampV t b, stampV t' b'] w fun e w' => e = .returned (.bool (decide (t < t' ∨ t = t' ∧ b < b'))) ∧ ∃ q os', w' = grow (w.drewN q) os' := by
  by_cases h1 : t = t'
  · subst h1
    go_enter Tryz.func119, Tryz.ntmps119
    go_wp2
    go_ret
    exact ⟨by simp, 0, _, by rw [alloc_eq_grow, alloc_eq_grow, grow_grow]; rfl⟩
  · go_enter Tryz.func119, Tryz.ntmps119
    go_wp2
    go_ret
    exact ⟨by simp [h1], 0, _, by rw [alloc_eq_grow, alloc_eq_grow, grow_grow]; rfl⟩
theorem grow_drewN (w : World) (os : Array Obj) (q : Nat) : (grow w os).drewN q = grow (w.drewN q) os := rfl
theorem drewN_drewN (w : World) (q r : Nat) : (w.drewN q).drewN r = w.drewN (q + r) := by unfold World.drewN; simp [Nat.add_assoc]
theorem opCmp_any (x y : OpT) (W : World) : Calls Tryz.prog 118 #[opV x, opV y] W fun e w' => e = .returned (.int .i64 (opCmp x y)) ∧ ∃ q os', w' = grow (W.drewN q) os' := by
  obtain ⟨R, hR⟩ : ∃ R, opCmp x y = R := ⟨_, rfl⟩
  have HR := Lib.hid hR
  have HL1 : Hid (∀ w, Calls Tryz.prog 119 #[stampV x.t x.b, stampV y.t y.b] w fun e w' => e = .returned (.bool (opLt x y)) ∧ ∃ q os', w' = grow (w.drewN q) os') := Lib.hid fun w => less_grow _ _ _ _ w
  have HL2 : Hid (∀ w, Calls Tryz.prog 119 #[stampV y.t y.b, stampV x.t x.b] w fun e w' => e = .returned (.bool (opLt y x)) ∧ ∃ q os', w' = grow (w.drewN q) os') := Lib.hid fun w => less_grow _ _ _ _ w
  rw [hR]
  obtain ⟨l1, h1⟩ : ∃ l1, opLt x y = l1 := ⟨_, rfl⟩
  obtain ⟨l2, h2⟩ : ∃ l2, opLt y x = l2 := ⟨_, rfl⟩
  have hR2 : R = if l1 then -1 else if l2 then 1 else 0 := by rw [← hR, ← h1, ← h2]; rfl
  have HR2 := Lib.hid hR2
  rw [h1] at HL1
  rw [h2] at HL2
  clear h1 h2 hR hR2
  have HQ : Hid (∀ q os, (grow (((W.alloc (.cells x.cells 31)).alloc (.cells y.cells 31)).drewN q) os).cell? ⟨W.heap.size, 0, none⟩ = some (.int .i64 x.t) ∧ (grow (((W.alloc (.cells x.cells 31)).alloc (.cells y.cells 31)).drewN q) os).cell? ⟨W.heap.size, 1, none⟩ = some (.int .i64 x.b) ∧
      (grow (((W.alloc (.cells x.cells 31)).alloc (.cells y.cells 31)).drewN q) os).cell? ⟨W.heap.size + 1, 0, none⟩ = some (.int .i64 y.t) ∧ (grow (((W.alloc (.cells x.cells 31)).alloc (.cells y.cells 31)).drewN q) os).cell? ⟨W.heap.size + 1, 1, none⟩ = some (.int .i64 y.b)) := Lib.hid fun q os => by
    obtain ⟨W1, hW1⟩ : ∃ W1, W1 = (W.alloc (.cells x.cells 31)).alloc (.cells y.cells 31) := ⟨_, rfl⟩
    have hs : W1.heap.size = W.heap.size + 2 := by rw [hW1]; simp
    rw [← hW1]
    have g : ∀ a : Addr, a.block < W1.heap.size → (grow (W1.drewN q) os).cell? a = W1.cell? a := fun a ha => (cell?_grow (W1.drewN q) os a ha).trans rfl
    rw [g _ (by simp; omega), g _ (by simp; omega), g _ (by simp; omega), g _ (by simp; omega), hW1]
    simp [go_sem]
  cases l1 with
  | true =>
    go_enter Tryz.func118, Tryz.ntmps118
    go_wp2_with fail
    refine (HL1.out _).mono ?_
    rintro e w1 ⟨rfl, q, os, rfl⟩
    go_wp2_with fail
    go_ret
    exact ⟨by rw [HR2.out]; rfl, q, _, by rw [alloc_eq_grow, alloc_eq_grow, grow_grow, grow_drewN, grow_grow]⟩
  | false =>
    cases l2 with
    | true =>
      go_enter Tryz.func118, Tryz.ntmps118
      go_wp2_with fail
      refine (HL1.out _).mono ?_
      rintro e w1 ⟨rfl, q, os, hw1⟩
      have cc := HQ.out q os
      rw [← hw1] at cc
      obtain ⟨c0, c1, c2, c3⟩ := cc
      have HW1 := Lib.hid hw1
      clear hw1
      go_wp2_with fail
      refine (HL2.out _).mono ?_
      rintro e w2 ⟨rfl, q', os', hw2⟩
      have HW2 := Lib.hid hw2
      clear hw2 c0 c1 c2 c3
      go_wp2_with fail
      go_ret
      exact ⟨by rw [HR2.out]; rfl, q + q', #[.cells x.cells 31] ++ #[.cells y.cells 31] ++ os ++ os', by rw [HW2.out, HW1.out]; simp only [alloc_eq_grow, grow_grow, grow_drewN, drewN_drewN, Array.append_assoc]⟩
    | false =>
      go_enter Tryz.func118, Tryz.ntmps118
      go_wp2_with fail
      refine (HL1.out _).mono ?_
      rintro e w1 ⟨rfl, q, os, hw1⟩
      have cc := HQ.out q os
      rw [← hw1] at cc
      obtain ⟨c0, c1, c2, c3⟩ := cc
      have HW1 := Lib.hid hw1
      clear hw1
      go_wp2_with fail
      refine (HL2.out _).mono ?_
      rintro e w2 ⟨rfl, q', os', hw2⟩
      have HW2 := Lib.hid hw2
      clear hw2 c0 c1 c2 c3
      go_wp2_with fail
      go_ret
      exact ⟨by rw [HR2.out]; rfl, q + q', #[.cells x.cells 31] ++ #[.cells y.cells 31] ++ os ++ os', by rw [HW2.out, HW1.out]; simp only [alloc_eq_grow, grow_grow, grow_drewN, drewN_drewN, Array.append_assoc]⟩
theorem opsClone_any (v : Value) (L : List OpT) (w : World) (hs : SlV opE w v L) (hn : L.length ≤ 100000) :
    Calls Tryz.prog 61 #[v] w fun e w' => ∃ v', e = .returned v' ∧ Rw opE 31 w.heap.size v' L w' ∧ Below w.heap.size w w' := by
  have q22 : ∀ (w : World) (a : Option Addr) (n c n' c' : Nat), (binOp .eql 36 (.slice a n c) (.slice none n' c')).run Tryz.prog w = .ok (.bool a.isNone) w := fun w a n c n' c' => Lib.run_eql_slice_nil w _ _ a n c n' c' Tryz.underlying36
  rcases hs with ⟨rfl, rfl⟩ | ⟨p, c, rfl, h1, h3⟩
  · go_enter Tryz.func61, Tryz.ntmps61
    go_wp2_with fail
    go_ret
    exact ⟨_, rfl, Rw.nil _ _ _ _, by go_grown⟩
  · obtain ⟨n, hn1⟩ : ∃ n, n = L.length := ⟨_, rfl⟩
    have HN := Lib.hid hn1
    have hs : SlV opE w (.slice (some p) n c) L := .inr ⟨p, c, by rw [hn1], h1, h3⟩
    have HS := Lib.hid hs
    rw [← hn1] at hn h1 ⊢
    clear h3 hs hn1
    go_enter Tryz.func61, Tryz.ntmps61
    go_wp2_with (at_builtin; refine wpList_append_rows rfl _ _ 36 rfl opE w.heap.size 31 (opV ⟨0, 0, 0, 0, 0, 0, ⟨#[]⟩, ⟨#[]⟩⟩) 80 Tryz.underlying36 infoOp rfl (by decide) _ _ [] L rfl rfl (World.ownsRow_made w #[] 0 (Nat.le_refl _) (Nat.zero_le _) (by simp)) (HS.out.below ((Below.refl _ _).alloc (Nat.le_refl _) _)) ?e1 ?e2 ?e3 ?_)
    case e1 => have := HN.out; simp [maxLen]; omega
    case e2 => have := HN.out; simp; omega
    case e3 => simp
    intro v1 w1 hr1 hg1
    have HR1 := Lib.hid hr1
    have HB1 : Hid (Below w.heap.size w w1) := Lib.hid (((Below.refl _ _).alloc (Nat.le_refl _) _).grown hg1 (by simp) (fun k hk => by simp [Value.ownBlock] at hk; omega))
    clear hr1 hg1 q22
    go_wp2_with fail
    go_ret
    exact ⟨_, rfl, by have := HR1.out; simpa using this, HB1.out⟩
theorem rw_addr {T : Type} {E : Enc T} {ty : TypeId} {base : Nat} {v : Value} {L : List T} {w : World} (h : Rw E ty base v L w) : (v = .slice none 0 0 ∧ L = []) ∨ ∃ g cap, v = .slice (some ⟨g, 0, none⟩) L.length cap ∧ base ≤ g := by
  rcases h.form with h | ⟨g, cap, h1, _, _, h2, _⟩
  · exact .inl h
  · exact .inr ⟨g, cap, h1, h2⟩
theorem opStable_nil (w : World) (fv : Value) : Calls Tryz.prog 164 #[.slice none 0 0, .int .i64 0, fv] w fun e w' => e = .returned (.tuple #[]) ∧ w' = w := by
  have HC : Hid (∀ w, Calls Tryz.prog 201 #[.slice none 0 0, .int .i64 0, .int .i64 0, fv] w fun e w' => e = .returned (.tuple #[]) ∧ w' = w) := Lib.hid fun w => AnyF.insertionSortCmpFunc_none stbL.ins none 0 fv w
  go_enter Tryz.func164, Tryz.ntmps164
  go_wp2_with fail
  go_loopw [7, 8] (fun v7 v8 wr => v7 = .int .i64 0 ∧ v8 = .int .i64 20 ∧ wr = w) (fun _ _ _ => 0)
  case atStart => exact ⟨rfl, rfl, rfl⟩
  case round =>
    obtain ⟨rfl, rfl, rfl⟩ := hrel
    go_wp2_with fail
    refine (HC.out _).mono ?_
    rintro e w1 ⟨rfl, rfl⟩
    go_wp2_with fail
    go_loopw [6] (fun v6 wr => v6 = .int .i64 20 ∧ wr = w1) (fun _ _ => 0)
    case atStart => exact ⟨rfl, rfl⟩
    case round =>
      obtain ⟨rfl, rfl⟩ := hrel
      go_wp2_with fail
      go_end0
      exact ⟨rfl, rfl⟩
/-- the library's stable sort at operations -/
theorem opsStable_any (base : Nat) (v : Value) (L : List OpT) (w : World) (h : Rw opE 31 base v L w) (hb : base ≤ w.heap.size) (hn : L.length ≤ 100000) :
    Calls Tryz.prog 164 #[v, .int .i64 L.length, .func (.func 118) #[] #[]] w fun e w' => e = .returned (.tuple #[]) ∧ Rw opE 31 base v (sortOps L) w' ∧ Below base w w' := by
  rcases rw_addr h with ⟨rfl, rfl⟩ | ⟨g, cap, rfl, hg⟩
  · refine (opStable_nil w _).mono ?_
    rintro e w' ⟨rfl, rfl⟩
    exact ⟨rfl, h, Below.refl _ _⟩
  · obtain ⟨d, hd⟩ : ∃ d : Array (OpT × Nat), d = L.zipIdx.toArray := ⟨_, rfl⟩
    have hdl : d.toList.map Prod.fst = L := by rw [hd]; simp
    have hds : d.size = L.length := by rw [hd]; simp
    have R := h.rowK (f := Prod.fst) hdl
    have hS : SWO (ltOf cmpTag) := by rw [ltOf_cmpTag]; exact swo_fst swo_opLt
    have eg : ∀ args w, (callFunc 118 args).run Tryz.prog w = .ok (.enter 118 args) w := enters_of Tryz.func118 (by kernel_rfl) rfl
    have hC : CmpLays Tryz.prog 118 #[] (encBy opE Prod.fst) 8 cmpTag g 0 d.size w := fun m os dk hk x y => opCmp_any x.1 y.1 _
    have hE : ∀ p q, p < q → q < d.size → Ear Prod.snd d[p]! d[q]! := fun p q h1 h2 => by
      unfold Ear
      rw [getElem!_pos d p (by omega), getElem!_pos d q h2]
      have h3 : q < L.length := by omega
      subst hd
      simpa using h1
    have := stable_any stbL cmpTag hS Prod.snd 118 #[] g 0 cap d w R eg hC (by omega) hE
    rw [hds] at this
    refine this.mono ?_
    rintro e w' ⟨rfl, d', hp, ht, hW⟩
    have hs' := hp.1
    obtain ⟨hr, hbb⟩ := h.sorted (f := Prod.fst) hdl hs' hW
    have hst : StS opLt L (d'.toList.map Prod.fst) := by
      refine ⟨d'.toList, rfl, ?_, ?_⟩
      · have := hp.2.2
        rw [show L.length = d'.size by omega, Array.extract_size, show d'.size = d.size by omega, Array.extract_size, hd] at this
        simpa using this
      · rw [List.pairwise_iff_getElem]
        intro i j hi hj hij
        simp at hi hj
        have := ht i j (by omega) hij (by omega)
        rw [getElem!_pos d' i hi, getElem!_pos d' j hj] at this
        unfold TL at this
        rw [ltOf_cmpTag] at this
        simpa using this
    have e := StS.unique swo_opLt hst (sortL_sts swo_opLt L)
    rw [e] at hr
    exact ⟨rfl, hr, hbb hb⟩
theorem opsSortStable_any (base : Nat) (v : Value) (L : List OpT) (w : World) (h : Rw opE 31 base v L w) (hb : base ≤ w.heap.size) (hn : L.length ≤ 100000) :
    Calls Tryz.prog 117 #[v, .func (.func 118) #[] #[]] w fun e w' => e = .returned (.tuple #[]) ∧ Rw opE 31 base v (sortOps L) w' ∧ Below base w w' := by
  have HC := Lib.hid (opsStable_any base v L w h hb hn)
  obtain ⟨A, m, c, rfl⟩ := h.slice
  obtain rfl : m = L.length := h.sl.len
  clear h
  go_enter Tryz.func117, Tryz.ntmps117
  go_wp2_with fail
  refine HC.out.mono ?_
  rintro e w1 ⟨rfl, h1, h2⟩
  go_wp2_with fail
  go_end0
  exact ⟨rfl, h1, h2⟩
/-- op.Sort -/
theorem opSort_any (v : Value) (L : List OpT) (w : World) (hs : SlV opE w v L) (hn : L.length ≤ 100000) :
    Calls Tryz.prog 58 #[v] w fun e w' => ∃ v', e = .returned v' ∧ Rw opE 31 w.heap.size v' (sortOps L) w' ∧ Below w.heap.size w w' := by
  have HC := Lib.hid (opsClone_any v L w hs hn)
  clear hs
  go_enter Tryz.func58, Tryz.ntmps58
  go_wp2_with fail
  refine HC.out.mono ?_
  rintro e w1 ⟨v1, rfl, h1, h2⟩
  have HS := Lib.hid (opsSortStable_any w.heap.size v1 L w1 h1 h2.size hn)
  have HB := Lib.hid h2
  clear h1 h2 HC
  go_wp2_with fail
  refine HS.out.mono ?_
  rintro e w2 ⟨rfl, h3, h4⟩
  have HR := Lib.hid h3
  have HB2 := Lib.hid h4
  clear h3 h4 HS
  go_wp2_with fail
  go_ret
  exact ⟨_, rfl, HR.out, HB.out.trans HB2.out⟩
end Go.Proofs.YtjekalilfhnpmaaGreatDoor
