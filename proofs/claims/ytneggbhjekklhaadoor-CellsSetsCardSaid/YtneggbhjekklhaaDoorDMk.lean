/- The document's marks: plain law: a mark laid in; they tell the cells. -/
import Derived.Test.YtneggbhjekklhaaDoorCelled
namespace Go.Proofs.YtneggbhjekklhaaDoor
open Go Go.RowKit Go.Maps
set_option linter.unusedVariables false
set_option linter.unusedSimpArgs false
set_option maxHeartbeats 1000000
set_option maxRecDepth 100000

structure DMk where
  nd : Int
  nm : ByteArray
  vl : ByteArray
  t : Int
  b : Int
def DMk.key (x : DMk) : KeyT := (x.nd, x.nm)
def DMk.cell (x : DMk) : CellT := ⟨x.vl, x.t, x.b⟩
def DMk.cells (x : DMk) : Array Value := #[.int .i64 x.nd, .string x.nm, .string x.vl, .int .i64 x.t, .int .i64 x.b]
def dmkE : Enc DMk := ⟨fun x => x.cells.toList, 5, fun _ => rfl, fun x v hv => by
  simp [DMk.cells] at hv
  rcases hv with rfl | rfl | rfl | rfl | rfl <;> rfl⟩
theorem infoDMk : (Tryd.prog.info? 67).map (fun i => (i.zero, i.size, i.bytes)) = some (some (.agg #[.int .i64 0, .string ⟨#[]⟩, .string ⟨#[]⟩, .int .i64 0, .int .i64 0]), 5, 56) := by kernel_rfl

/-- a mark laid in -/
inductive LayR (L : List DMk) (x : DMk) : List DMk → Bool → Prop
  | newer {A B : List DMk} {y : DMk} : L = A ++ y :: B → y.key = x.key → cLt y.cell x.cell = true → LayR L x (A ++ x :: B) true
  | older {A B : List DMk} {y : DMk} : L = A ++ y :: B → y.key = x.key → cLt y.cell x.cell = false → LayR L x L false
  | fresh {A B : List DMk} : L = A ++ B → (∀ a ∈ A, kLt a.key x.key = true) → (∀ b, B.head? = some b → kLt x.key b.key = true) → LayR L x (A ++ x :: B) true
/-- marks tell cells -/
structure Rep (L : List DMk) (m : MapC) : Prop where
  so : (L.map DMk.key).Pairwise (fun x y => kLt x y = true)
  ok : ∀ x ∈ L, KeyOk x.key
  is : ∀ k c, m k = some c ↔ ∃ y ∈ L, y.key = k ∧ y.cell = c
theorem Rep.start : Rep [] (fun _ => none) := ⟨List.Pairwise.nil, by simp, by simp⟩
theorem Rep.at' {L : List DMk} {m : MapC} (h : Rep L m) {y : DMk} (hy : y ∈ L) : m y.key = some y.cell := (h.is _ _).2 ⟨y, hy, rfl, rfl⟩
theorem Rep.one {L : List DMk} {m : MapC} (h : Rep L m) {y z : DMk} (hy : y ∈ L) (hz : z ∈ L) (e : y.key = z.key) : y.cell = z.cell := by
  have h1 := h.at' hy
  rw [e, h.at' hz] at h1
  exact (Option.some.inj h1).symm
theorem Rep.step {L L' : List DMk} {m : MapC} {x : DMk} {is : Bool} (h : Rep L m) (hl : LayR L x L' is) (hk : KeyOk x.key) : Rep L' (layC m x.key x.cell).1 ∧ is = (layC m x.key x.cell).2 := by
  cases hl with
  | @newer A B y e ek el =>
    have hy : y ∈ L := by rw [e]; simp
    have hm : m x.key = some y.cell := by rw [← ek]; exact h.at' hy
    have hc : layC m x.key x.cell = (updT m x.key (some x.cell), true) := by unfold layC; rw [hm]; simp [el]
    rw [hc]
    refine ⟨⟨?_, ?_, fun k c => ?_⟩, rfl⟩
    · have := h.so
      rw [e] at this
      simpa [ek] using this
    · intro z hz
      rcases List.mem_append.1 hz with hz | hz
      · exact h.ok z (by rw [e]; simp [hz])
      · rcases List.mem_cons.1 hz with rfl | hz
        · exact hk
        · exact h.ok z (by rw [e]; simp [hz])
    · have hs := h.so
      rw [e, List.map_append, List.map_cons, List.pairwise_append, List.pairwise_cons] at hs
      obtain ⟨_, ⟨hb, _⟩, hab⟩ := hs
      by_cases ekx : k = x.key
      · subst ekx
        show updT m x.key (some x.cell) x.key = some c ↔ _
        rw [updT_same]
        constructor
        · intro hcc; cases hcc; exact ⟨x, by simp, rfl, rfl⟩
        · rintro ⟨z, hz, hzk, rfl⟩
          rcases List.mem_append.1 hz with hz | hz
          · have := hab z.key (List.mem_map_of_mem hz) y.key (by simp)
            rw [hzk, ek, kLt_irrefl] at this; cases this
          · rcases List.mem_cons.1 hz with rfl | hz
            · rfl
            · have := hb z.key (List.mem_map_of_mem hz)
              rw [hzk, ek, kLt_irrefl] at this; cases this
      · show updT m x.key (some x.cell) k = some c ↔ _
        rw [updT_other m _ ekx, h.is k c]
        constructor
        · rintro ⟨z, hz, hzk, hzc⟩
          rw [e] at hz
          refine ⟨z, ?_, hzk, hzc⟩
          rcases List.mem_append.1 hz with hz | hz
          · simp [hz]
          · rcases List.mem_cons.1 hz with rfl | hz
            · exact absurd (hzk.symm.trans ek) ekx
            · simp [hz]
        · rintro ⟨z, hz, hzk, hzc⟩
          refine ⟨z, ?_, hzk, hzc⟩
          rw [e]
          rcases List.mem_append.1 hz with hz | hz
          · simp [hz]
          · rcases List.mem_cons.1 hz with rfl | hz
            · exact absurd hzk.symm ekx
            · simp [hz]
  | @older A B y e ek el =>
    have hy : y ∈ L := by rw [e]; simp
    have hm : m x.key = some y.cell := by rw [← ek]; exact h.at' hy
    have hc : layC m x.key x.cell = (m, false) := by unfold layC; rw [hm]; simp [el]
    rw [hc]
    exact ⟨h, rfl⟩
  | @fresh A B e ha hb =>
    have hs := h.so
    rw [e, List.map_append, List.pairwise_append] at hs
    obtain ⟨sA, sB, sAB⟩ := hs
    have hB : ∀ z ∈ B, kLt x.key z.key = true := by
      cases B with
      | nil => intro z hz; simp at hz
      | cons b B =>
        have h0 := hb b rfl
        rw [List.map_cons, List.pairwise_cons] at sB
        intro z hz
        rcases List.mem_cons.1 hz with rfl | hz
        · exact h0
        · exact kLt_trans h0 (sB.1 z.key (List.mem_map_of_mem hz))
    have hne : ∀ z ∈ L, z.key ≠ x.key := by
      intro z hz ez
      rw [e] at hz
      rcases List.mem_append.1 hz with hz | hz
      · have := ha z hz; rw [ez, kLt_irrefl] at this; cases this
      · have := hB z hz; rw [ez, kLt_irrefl] at this; cases this
    have hm : m x.key = none := by
      cases hmm : m x.key with
      | none => rfl
      | some c =>
        obtain ⟨z, hz, hzk, _⟩ := (h.is _ _).1 hmm
        exact absurd hzk (hne z hz)
    have hc : layC m x.key x.cell = (updT m x.key (some x.cell), true) := by unfold layC; rw [hm]
    rw [hc]
    refine ⟨⟨?_, ?_, fun k c => ?_⟩, rfl⟩
    · rw [List.map_append, List.map_cons, List.pairwise_append, List.pairwise_cons]
      refine ⟨sA, ⟨fun k hk => ?_, sB⟩, fun k hk k' hk' => ?_⟩
      · obtain ⟨z, hz, rfl⟩ := List.mem_map.1 hk
        exact hB z hz
      · obtain ⟨a, ha', rfl⟩ := List.mem_map.1 hk
        rcases List.mem_cons.1 hk' with rfl | hk'
        · exact ha a ha'
        · exact sAB _ hk _ hk'
    · intro z hz
      rcases List.mem_append.1 hz with hz | hz
      · exact h.ok z (by rw [e]; simp [hz])
      · rcases List.mem_cons.1 hz with rfl | hz
        · exact hk
        · exact h.ok z (by rw [e]; simp [hz])
    · have hmem : ∀ z, z ∈ A ++ x :: B ↔ z = x ∨ z ∈ L := by
        intro z
        rw [e]
        simp only [List.mem_append, List.mem_cons]
        constructor
        · rintro (h1 | h1 | h1)
          · exact .inr (.inl h1)
          · exact .inl h1
          · exact .inr (.inr h1)
        · rintro (h1 | h1 | h1)
          · exact .inr (.inl h1)
          · exact .inl h1
          · exact .inr (.inr h1)
      by_cases ekx : k = x.key
      · subst ekx
        show updT m x.key (some x.cell) x.key = some c ↔ _
        rw [updT_same]
        constructor
        · intro hcc; cases hcc; exact ⟨x, by simp, rfl, rfl⟩
        · rintro ⟨z, hz, hzk, rfl⟩
          rcases (hmem z).1 hz with rfl | hz
          · rfl
          · exact absurd hzk (hne z hz)
      · show updT m x.key (some x.cell) k = some c ↔ _
        rw [updT_other m _ ekx, h.is k c]
        constructor
        · rintro ⟨z, hz, hzk, hzc⟩
          exact ⟨z, (hmem z).2 (.inr hz), hzk, hzc⟩
        · rintro ⟨z, hz, hzk, hzc⟩
          rcases (hmem z).1 hz with rfl | hz
          · exact absurd hzk.symm ekx
          · exact ⟨z, hz, hzk, hzc⟩
/-- those that are not empty -/
def fullL (L : List DMk) : List DMk := L.filter fun x => !(x.vl.toList == [])
theorem empty_iff (s : ByteArray) : (s.toList == []) = true ↔ s.size = 0 := by
  rw [beq_iff_eq, ByteArray.toList_eq]
  show s.data.toList = [] ↔ s.data.size = 0
  rw [← Array.length_toList, List.length_eq_zero_iff]
theorem Rep.marks {L : List DMk} {m : MapC} {ks : List KeyT} (h : Rep L m) (h1 : ks.Pairwise (fun x y => kLt x y = true)) (h2 : ∀ k, k ∈ ks ↔ (KeyOk k ∧ ∃ c, m k = some c ∧ c.v.size ≠ 0)) :
    ks.map (markOf m) = (fullL L).map fun x => ⟨x.nd, x.nm, x.vl⟩ := by
  have hs : ((fullL L).map DMk.key).Pairwise (fun x y => kLt x y = true) := h.so.sublist ((List.filter_sublist).map _)
  have e : ks = (fullL L).map DMk.key := eq_of_rising h1 hs (fun k => by
    rw [h2, List.mem_map]
    constructor
    · rintro ⟨hk, c, hc, hv⟩
      obtain ⟨y, hy, hyk, rfl⟩ := (h.is k c).1 hc
      refine ⟨y, List.mem_filter.2 ⟨hy, ?_⟩, hyk⟩
      simp only [Bool.not_eq_true']
      cases hh : (y.vl.toList == []) with
      | false => rfl
      | true => exact absurd ((empty_iff _).1 hh) hv
    · rintro ⟨y, hy, rfl⟩
      obtain ⟨hy, hv⟩ := List.mem_filter.1 hy
      refine ⟨h.ok y hy, y.cell, h.at' hy, fun h0 => ?_⟩
      have := (empty_iff y.vl).2 h0
      rw [this] at hv; cases hv)
  rw [e, List.map_map]
  refine List.map_congr_left fun y hy => ?_
  have hy := (List.mem_filter.1 hy).1
  show markOf m y.key = _
  unfold markOf
  rw [h.at' hy]
  rfl
end Go.Proofs.YtneggbhjekklhaaDoor
