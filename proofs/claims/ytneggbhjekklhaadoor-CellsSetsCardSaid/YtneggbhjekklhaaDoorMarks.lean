/- Cells of marks: those that are not empty, in their order. -/
import Derived.Test.YtneggbhjekklhaaDoorCells4
import Derived.Test.YtneggbhjekklhaaDoorRowAt
import Derived.Test.YtneggbhjekklhaaDoorSortW
import Derived.Test.YtneggbhjekklhaaDoorSortL
import Derived.Shelf.SlSortCmp.NoneTotal
import Derived.Lib.SliceRun
namespace Go.Proofs.YtneggbhjekklhaaDoor
open Go Go.RowKit Go.Maps Go.Shelf Go.Lib Go.Sort
set_option linter.unusedVariables false
set_option linter.unusedSimpArgs false
set_option maxHeartbeats 4000000
set_option maxRecDepth 1000000

structure MarkT where
  nd : Int
  nm : ByteArray
  vl : ByteArray
def MarkT.key (x : MarkT) : KeyT := (x.nd, x.nm)
def MarkT.cells (x : MarkT) : Array Value := #[.int .i64 x.nd, .string x.nm, .string x.vl]
def markE : Enc MarkT := ⟨fun x => x.cells.toList, 3, fun _ => rfl, fun x v hv => by
  simp [MarkT.cells] at hv
  rcases hv with rfl | rfl | rfl <;> rfl⟩
theorem infoMark : (Tryd.prog.info? 39).map (fun i => (i.zero, i.size, i.bytes)) = some (some (.agg #[.int .i64 0, .string ⟨#[]⟩, .string ⟨#[]⟩]), 3, 40) := by kernel_rfl
def markOf (m : MapC) (k : KeyT) : MarkT := ⟨k.1, k.2, match m k with | some c => c.v | none => ⟨#[]⟩⟩

theorem markCmp_any (x y : MarkT) (W : World) : Calls Tryd.prog 41 #[.agg x.cells, .agg y.cells] W fun e w' => e = .returned (.int .i64 (kCmp x.key y.key)) ∧ ∃ q os', w' = grow (W.drewN q) os' := by
  have HI := Lib.hid (fun w => cmpI_any x.nd y.nd w)
  have HSc := Lib.hid (fun w => cmpS_any x.nm y.nm w)
  have HE : Hid (kCmp x.key y.key = if iCmp x.nd y.nd = 0 then sCmp x.nm y.nm else iCmp x.nd y.nd) := Lib.hid (kCmp_eq _ _)
  have HO := Lib.hid orI_any
  generalize kCmp x.key y.key = R at HE ⊢
  generalize iCmp x.nd y.nd = c1 at HI HE
  generalize sCmp x.nm y.nm = c2 at HSc HE
  obtain ⟨W1, hW1⟩ : ∃ W1, W1 = (W.alloc (.cells x.cells 39)).alloc (.cells y.cells 39) := ⟨_, rfl⟩
  have x0 : W1.cell? ⟨W.heap.size, 0, none⟩ = some (.int .i64 x.nd) := by rw [hW1]; simp [go_sem, MarkT.cells]
  have x1 : W1.cell? ⟨W.heap.size, 1, none⟩ = some (.string x.nm) := by rw [hW1]; simp [go_sem, MarkT.cells]
  have y0 : W1.cell? ⟨W.heap.size + 1, 0, none⟩ = some (.int .i64 y.nd) := by rw [hW1]; simp [go_sem, MarkT.cells]
  have y1 : W1.cell? ⟨W.heap.size + 1, 1, none⟩ = some (.string y.nm) := by rw [hW1]; simp [go_sem, MarkT.cells]
  go_enter Tryd.func41, Tryd.ntmps41
  go_wp2_with fail
  rw [← hW1]
  have HW1 := Lib.hid hW1
  clear hW1
  go_still_tail 10, (by kernel_rfl)
  still_call (HI.out _)
  repeat still_step
  still_call (HSc.out _)
  refine wpStill_nil ?_
  change wpList _ _ _ _ _ W1.drew
  have HW2 : Hid (W1.drew = grow (W.drewN 1) (#[.cells x.cells 39] ++ #[.cells y.cells 39])) := Lib.hid (by rw [HW1.out, alloc_eq_grow, alloc_eq_grow, grow_grow]; rfl)
  clear x0 x1 y0 y1 HW1
  generalize W1.drew = W2 at HW2 ⊢
  have HO2 : Hid (∀ o, o = Obj.cells #[.int .i64 c1, .int .i64 c2] 3 → Calls Tryd.prog 42 #[.slice (some ⟨W2.heap.size, 0, none⟩) 2 2] (W2.alloc o) fun e w' => e = .returned (.int .i64 R) ∧ w' = W2.alloc o) := Lib.hid fun o ho => by
    rw [HE.out]
    refine HO.out W2.heap.size c1 c2 (W2.alloc o) ?_ ?_ 2
    · rw [ho]; simp [go_sem]
    · rw [ho]; simp [go_sem]
  go_wp2_with fail
  refine (HO2.out _ rfl).mono ?_
  rintro e w3 ⟨rfl, rfl⟩
  go_wp2_with fail
  go_ret
  exact ⟨rfl, 1, _, by rw [HW2.out, alloc_eq_grow, grow_grow]⟩

theorem ltOf_kCmp : ltOf kCmp = kLt := by
  funext x y
  unfold ltOf kCmp
  cases e1 : kLt x y <;> cases e2 : kLt y x <;> simp
abbrev sortK (ks : List KeyT) : List KeyT := ks.mergeSort fun x y => !kLt y x
theorem sortK_perm (ks : List KeyT) : (sortK ks).Perm ks := List.mergeSort_perm _ _
theorem sortK_sorted {ks : List KeyT} (h : ks.Pairwise (· ≠ ·)) : (sortK ks).Pairwise (fun x y => kLt x y = true) := by
  have h1 : (sortK ks).Pairwise (fun x y => (!kLt y x) = true) := List.pairwise_mergeSort (fun a b c h1 h2 => by
    simp only [Bool.not_eq_true'] at *
    exact swo_kLt.ntrans c b a h2 h1) (fun a b => by
    simp only [Bool.or_eq_true, Bool.not_eq_true']
    cases h : kLt b a with
    | false => exact .inl rfl
    | true => exact .inr (kLt_asymm h)) ks
  have h2 : (sortK ks).Pairwise (· ≠ ·) := ((sortK_perm ks).symm.pairwise_iff (fun {a b} h => Ne.symm h)).1 h
  refine (h1.and h2).imp fun {a b} ⟨ha, hb⟩ => ?_
  simp only [Bool.not_eq_true'] at ha
  cases h : kLt a b with
  | true => rfl
  | false => exact absurd (kLt_tri h ha) hb

theorem marksSort_any (base g n cap : Nat) (m : MapC) (ks : List KeyT) (w : World) (h : Rw markE 39 base (.slice (some ⟨g, 0, none⟩) n cap) (ks.map (markOf m)) w) (hb : base ≤ w.heap.size) (hl : ks.length ≤ 100000) :
    Calls Tryd.prog 40 #[.slice (some ⟨g, 0, none⟩) n cap, .func (.func 41) #[] #[]] w fun e w' =>
      e = .returned (.tuple #[]) ∧ Rw markE 39 base (.slice (some ⟨g, 0, none⟩) n cap) ((sortK ks).map (markOf m)) w' ∧ Below base w w' := by
  have hn : n = ks.toArray.size := by rw [h.sl.len]; simp
  have hd : ks.toArray.toList.map (markOf m) = ks.map (markOf m) := by simp
  have hcmp : CmpLays Tryd.prog 41 #[] (encBy markE (markOf m)) 3 kCmp g 0 ks.toArray.size w := fun q os dk _ x y => by
    have := markCmp_any (markOf m x) (markOf m y) (sortWorldK (encBy markE (markOf m)) 3 w g 0 q dk os)
    exact this
  have := AnyQ.slices_SortFunc_total Tryd.sortMark 3 (fun w => by kernel_rfl) (fun w => by kernel_rfl) (encBy markE (markOf m)) (fun x => rfl) (fun x => markE.one _) kCmp (by rw [ltOf_kCmp]; exact swo_kLt) 41 #[] g 0 cap ks.toArray w
    (fun args w => by kernel_rfl) hcmp (h.holdsK hd) (h.lt g rfl).2 (by simp; omega) (by rw [ltOf_kCmp]; exact fun x y => kLt_tri)
  rw [← hn] at this
  refine Calls.mono (show Calls Tryd.prog 40 #[.slice (some ⟨g, 0, none⟩) n cap, .func (.func 41) #[] #[]] w _ from this) fun e w' ⟨he, q, os, hw⟩ => ?_
  rw [ltOf_kCmp] at hw
  have hS := h.sorted (d := ks.toArray) (d' := (sortK ks).toArray) hd (by simp [List.length_mergeSort]) ⟨q, os, hw⟩
  exact ⟨he, by simpa using hS.1, hS.2 hb⟩
end Go.Proofs.YtneggbhjekklhaaDoor
