/- Operations sorted: the walk of op.Sort. -/
import Derived.Test.YthlojjknpfijmaaDoorStbF
import Derived.Test.YthlojjknpfijmaaDoorSortW
import Derived.Test.YthlojjknpfijmaaDoorOpE
import Derived.Lib.SliceRun
import Derived.Shelf.SlSortCmp.NoneTotal
namespace Go.Proofs.YthlojjknpfijmaaDoor
open Go Go.RowKit Go.Shelf Go.Lib Go.Sort Stb
set_option linter.unusedVariables false
set_option linter.unusedSimpArgs false
set_option maxHeartbeats 4000000
set_option maxRecDepth 1000000

def opLt (x y : OpT) : Bool := decide (x.t < y.t ∨ x.t = y.t ∧ x.b < y.b)
def opCmp (x y : OpT) : Int := if opLt x y then -1 else if opLt y x then 1 else 0
theorem swo_opLt : SWO opLt where
  irrefl x := by unfold opLt; simp
  trans x y z h1 h2 := by unfold opLt at *; simp at *; omega
  ntrans x y z h1 h2 := by unfold opLt at *; simp at *; omega
/-- .. with marks -/
def cmpTag (x y : OpT × Nat) : Int := opCmp x.1 y.1
theorem ltOf_cmpTag : ltOf cmpTag = fun x y : OpT × Nat => opLt x.1 y.1 := by
  funext x y
  unfold ltOf cmpTag opCmp
  cases e1 : opLt x.1 y.1 <;> cases e2 : opLt y.1 x.1 <;> simp
abbrev sortOps (L : List OpT) : List OpT := sortL opLt L

theorem less_grow (t b t' b' : Int) (w : World) :
    Calls Tryd.prog 75 #[stampV t b, stampV t' b'] w fun e w' => e = .returned (.bool (decide (t < t' ∨ t = t' ∧ b < b'))) ∧ ∃ q os', w' = grow (w.drewN q) os' := by
  by_cases h1 : t = t'
  · subst h1
    go_enter Tryd.func75, Tryd.ntmps75
    go_wp2
    go_ret
    exact ⟨by simp, 0, _, by rw [alloc_eq_grow, alloc_eq_grow, grow_grow]; rfl⟩
  · go_enter Tryd.func75, Tryd.ntmps75
    go_wp2
    go_ret
    exact ⟨by simp [h1], 0, _, by rw [alloc_eq_grow, alloc_eq_grow, grow_grow]; rfl⟩

theorem grow_drewN (w : World) (os : Array Obj) (q : Nat) : (grow w os).drewN q = grow (w.drewN q) os := rfl
theorem drewN_drewN (w : World) (q r : Nat) : (w.drewN q).drewN r = w.drewN (q + r) := by unfold World.drewN; simp [Nat.add_assoc]

theorem opCmp_any (x y : OpT) (W : World) : Calls Tryd.prog 74 #[opV x, opV y] W fun e w' => e = .returned (.int .i64 (opCmp x y)) ∧ ∃ q os', w' = grow (W.drewN q) os' := by
  obtain ⟨R, hR⟩ : ∃ R, opCmp x y = R := ⟨_, rfl⟩
  have HR := Lib.hid hR
  have HL1 : Hid (∀ w, Calls Tryd.prog 75 #[stampV x.t x.b, stampV y.t y.b] w fun e w' => e = .returned (.bool (opLt x y)) ∧ ∃ q os', w' = grow (w.drewN q) os') := Lib.hid fun w => less_grow _ _ _ _ w
  have HL2 : Hid (∀ w, Calls Tryd.prog 75 #[stampV y.t y.b, stampV x.t x.b] w fun e w' => e = .returned (.bool (opLt y x)) ∧ ∃ q os', w' = grow (w.drewN q) os') := Lib.hid fun w => less_grow _ _ _ _ w
  rw [hR]
  obtain ⟨l1, h1⟩ : ∃ l1, opLt x y = l1 := ⟨_, rfl⟩
  obtain ⟨l2, h2⟩ : ∃ l2, opLt y x = l2 := ⟨_, rfl⟩
  have hR2 : R = if l1 then -1 else if l2 then 1 else 0 := by rw [← hR, ← h1, ← h2]; rfl
  have HR2 := Lib.hid hR2
  rw [h1] at HL1
  rw [h2] at HL2
  clear h1 h2 hR hR2
  have HQ : Hid (∀ q os, (grow (((W.alloc (.cells x.cells 61)).alloc (.cells y.cells 61)).drewN q) os).cell? ⟨W.heap.size, 0, none⟩ = some (.int .i64 x.t) ∧ (grow (((W.alloc (.cells x.cells 61)).alloc (.cells y.cells 61)).drewN q) os).cell? ⟨W.heap.size, 1, none⟩ = some (.int .i64 x.b) ∧
      (grow (((W.alloc (.cells x.cells 61)).alloc (.cells y.cells 61)).drewN q) os).cell? ⟨W.heap.size + 1, 0, none⟩ = some (.int .i64 y.t) ∧ (grow (((W.alloc (.cells x.cells 61)).alloc (.cells y.cells 61)).drewN q) os).cell? ⟨W.heap.size + 1, 1, none⟩ = some (.int .i64 y.b)) := Lib.hid fun q os => by
    obtain ⟨W1, hW1⟩ : ∃ W1, W1 = (W.alloc (.cells x.cells 61)).alloc (.cells y.cells 61) := ⟨_, rfl⟩
    have hs : W1.heap.size = W.heap.size + 2 := by rw [hW1]; simp
    rw [← hW1]
    have g : ∀ a : Addr, a.block < W1.heap.size → (grow (W1.drewN q) os).cell? a = W1.cell? a := fun a ha => (cell?_grow (W1.drewN q) os a ha).trans rfl
    rw [g _ (by simp; omega), g _ (by simp; omega), g _ (by simp; omega), g _ (by simp; omega), hW1]
    simp [go_sem]
  cases l1 with
  | true =>
    go_enter Tryd.func74, Tryd.ntmps74
    go_wp2_with fail
    refine (HL1.out _).mono ?_
    rintro e w1 ⟨rfl, q, os, rfl⟩
    go_wp2_with fail
    go_ret
    exact ⟨by rw [HR2.out]; rfl, q, _, by rw [alloc_eq_grow, alloc_eq_grow, grow_grow, grow_drewN, grow_grow]⟩
  | false =>
    cases l2 with
    | true =>
      go_enter Tryd.func74, Tryd.ntmps74
      go_wp2_with fail
      refine (HL1.out _).mono ?_
      rintro e w1 ⟨rfl, q, os, hw1⟩
      have cc := HQ.out q os
      rw [← hw1] at cc
      obtain ⟨c0, c1, c2, c3⟩ := cc
      have HW1 := Lib.hid hw1
      clear hw1
      go_wp2_with fail
      refine (HL2.out _).mono ?_
      rintro e w2 ⟨rfl, q', os', hw2⟩
      have HW2 := Lib.hid hw2
      clear hw2 c0 c1 c2 c3
      go_wp2_with fail
      go_ret
      exact ⟨by rw [HR2.out]; rfl, q + q', #[.cells x.cells 61] ++ #[.cells y.cells 61] ++ os ++ os', by rw [HW2.out, HW1.out]; simp only [alloc_eq_grow, grow_grow, grow_drewN, drewN_drewN, Array.append_assoc]⟩
    | false =>
      go_enter Tryd.func74, Tryd.ntmps74
      go_wp2_with fail
      refine (HL1.out _).mono ?_
      rintro e w1 ⟨rfl, q, os, hw1⟩
      have cc := HQ.out q os
      rw [← hw1] at cc
      obtain ⟨c0, c1, c2, c3⟩ := cc
      have HW1 := Lib.hid hw1
      clear hw1
      go_wp2_with fail
      refine (HL2.out _).mono ?_
      rintro e w2 ⟨rfl, q', os', hw2⟩
      have HW2 := Lib.hid hw2
      clear hw2 c0 c1 c2 c3
      go_wp2_with fail
      go_ret
      exact ⟨by rw [HR2.out]; rfl, q + q', #[.cells x.cells 61] ++ #[.cells y.cells 61] ++ os ++ os', by rw [HW2.out, HW1.out]; simp only [alloc_eq_grow, grow_grow, grow_drewN, drewN_drewN, Array.append_assoc]⟩

theorem opsClone_any (v : Value) (L : List OpT) (w : World) (hs : SlV opE w v L) (hn : L.length ≤ 100000) :
    Calls Tryd.prog 72 #[v] w fun e w' => ∃ v', e = .returned v' ∧ Rw opE 61 w.heap.size v' L w' ∧ Below w.heap.size w w' := by
  have q22 : ∀ (w : World) (a : Option Addr) (n c n' c' : Nat), (binOp .eql 56 (.slice a n c) (.slice none n' c')).run Tryd.prog w = .ok (.bool a.isNone) w := fun w a n c n' c' => Lib.run_eql_slice_nil w _ _ a n c n' c' Tryd.underlying56
  rcases hs with ⟨rfl, rfl⟩ | ⟨p, c, rfl, h1, h3⟩
  · go_enter Tryd.func72, Tryd.ntmps72
    go_wp2_with fail
    go_ret
    exact ⟨_, rfl, Rw.nil _ _ _ _, by go_grown⟩
  · obtain ⟨n, hn1⟩ : ∃ n, n = L.length := ⟨_, rfl⟩
    have HN := Lib.hid hn1
    have hs : SlV opE w (.slice (some p) n c) L := .inr ⟨p, c, by rw [hn1], h1, h3⟩
    have HS := Lib.hid hs
    rw [← hn1] at hn h1 ⊢
    clear h3 hs hn1
    go_enter Tryd.func72, Tryd.ntmps72
    go_wp2_with (at_builtin; refine wpList_append_rows rfl _ _ 56 rfl opE w.heap.size 61 (opV ⟨0, 0, 0, 0, 0, 0, ⟨#[]⟩, ⟨#[]⟩⟩) 80 Tryd.underlying56 infoOp rfl (by decide) _ _ [] L rfl rfl (World.ownsRow_made w #[] 0 (Nat.le_refl _) (Nat.zero_le _) (by simp)) (HS.out.below ((Below.refl _ _).alloc (Nat.le_refl _) _)) ?e1 ?e2 ?e3 ?_)
    case e1 => have := HN.out; simp [maxLen]; omega
    case e2 => have := HN.out; simp; omega
    case e3 => simp
    intro v1 w1 hr1 hg1
    have HR1 := Lib.hid hr1
    have HB1 : Hid (Below w.heap.size w w1) := Lib.hid (((Below.refl _ _).alloc (Nat.le_refl _) _).grown hg1 (by simp) (fun k hk => by simp [Value.ownBlock] at hk; omega))
    clear hr1 hg1 q22
    go_wp2_with fail
    go_ret
    exact ⟨_, rfl, by have := HR1.out; simpa using this, HB1.out⟩

theorem rw_addr {T : Type} {E : Enc T} {ty : TypeId} {base : Nat} {v : Value} {L : List T} {w : World} (h : Rw E ty base v L w) : (v = .slice none 0 0 ∧ L = []) ∨ ∃ g cap, v = .slice (some ⟨g, 0, none⟩) L.length cap ∧ base ≤ g := by
  rcases h.form with h | ⟨g, cap, h1, _, _, h2, _⟩
  · exact .inl h
  · exact .inr ⟨g, cap, h1, h2⟩

theorem opStable_nil (w : World) (fv : Value) : Calls Tryd.prog 110 #[.slice none 0 0, .int .i64 0, fv] w fun e w' => e = .returned (.tuple #[]) ∧ w' = w := by
  have HC : Hid (∀ w, Calls Tryd.prog 144 #[.slice none 0 0, .int .i64 0, .int .i64 0, fv] w fun e w' => e = .returned (.tuple #[]) ∧ w' = w) := Lib.hid fun w => AnyF.insertionSortCmpFunc_none stbL.ins none 0 fv w
  go_enter Tryd.func110, Tryd.ntmps110
  go_wp2_with fail
  go_loopw [7, 8] (fun v7 v8 wr => v7 = .int .i64 0 ∧ v8 = .int .i64 20 ∧ wr = w) (fun _ _ _ => 0)
  case atStart => exact ⟨rfl, rfl, rfl⟩
  case round =>
    obtain ⟨rfl, rfl, rfl⟩ := hrel
    go_wp2_with fail
    refine (HC.out _).mono ?_
    rintro e w1 ⟨rfl, rfl⟩
    go_wp2_with fail
    go_loopw [6] (fun v6 wr => v6 = .int .i64 20 ∧ wr = w1) (fun _ _ => 0)
    case atStart => exact ⟨rfl, rfl⟩
    case round =>
      obtain ⟨rfl, rfl⟩ := hrel
      go_wp2_with fail
      go_end0
      exact ⟨rfl, rfl⟩

/-- the library's stable sort at operations -/
theorem opsStable_any (base : Nat) (v : Value) (L : List OpT) (w : World) (h : Rw opE 61 base v L w) (hb : base ≤ w.heap.size) (hn : L.length ≤ 100000) :
    Calls Tryd.prog 110 #[v, .int .i64 L.length, .func (.func 74) #[] #[]] w fun e w' => e = .returned (.tuple #[]) ∧ Rw opE 61 base v (sortOps L) w' ∧ Below base w w' := by
  rcases rw_addr h with ⟨rfl, rfl⟩ | ⟨g, cap, rfl, hg⟩
  · refine (opStable_nil w _).mono ?_
    rintro e w' ⟨rfl, rfl⟩
    exact ⟨rfl, h, Below.refl _ _⟩
  · obtain ⟨d, hd⟩ : ∃ d : Array (OpT × Nat), d = L.zipIdx.toArray := ⟨_, rfl⟩
    have hdl : d.toList.map Prod.fst = L := by rw [hd]; simp
    have hds : d.size = L.length := by rw [hd]; simp
    have R := h.rowK (f := Prod.fst) hdl
    have hS : SWO (ltOf cmpTag) := by rw [ltOf_cmpTag]; exact swo_fst swo_opLt
    have eg : ∀ args w, (callFunc 74 args).run Tryd.prog w = .ok (.enter 74 args) w := enters_of Tryd.func74 (by kernel_rfl) rfl
    have hC : CmpLays Tryd.prog 74 #[] (encBy opE Prod.fst) 8 cmpTag g 0 d.size w := fun m os dk hk x y => opCmp_any x.1 y.1 _
    have hE : ∀ p q, p < q → q < d.size → Ear Prod.snd d[p]! d[q]! := fun p q h1 h2 => by
      unfold Ear
      rw [getElem!_pos d p (by omega), getElem!_pos d q h2]
      have h3 : q < L.length := by omega
      subst hd
      simpa using h1
    have := stable_any stbL cmpTag hS Prod.snd 74 #[] g 0 cap d w R eg hC (by omega) hE
    rw [hds] at this
    refine this.mono ?_
    rintro e w' ⟨rfl, d', hp, ht, hW⟩
    have hs' := hp.1
    obtain ⟨hr, hbb⟩ := h.sorted (f := Prod.fst) hdl hs' hW
    have hst : StS opLt L (d'.toList.map Prod.fst) := by
      refine ⟨d'.toList, rfl, ?_, ?_⟩
      · have := hp.2.2
        rw [show L.length = d'.size by omega, Array.extract_size, show d'.size = d.size by omega, Array.extract_size, hd] at this
        simpa using this
      · rw [List.pairwise_iff_getElem]
        intro i j hi hj hij
        simp at hi hj
        have := ht i j (by omega) hij (by omega)
        rw [getElem!_pos d' i hi, getElem!_pos d' j hj] at this
        unfold TL at this
        rw [ltOf_cmpTag] at this
        simpa using this
    have e := StS.unique swo_opLt hst (sortL_sts swo_opLt L)
    rw [e] at hr
    exact ⟨rfl, hr, hbb hb⟩

theorem opsSortStable_any (base : Nat) (v : Value) (L : List OpT) (w : World) (h : Rw opE 61 base v L w) (hb : base ≤ w.heap.size) (hn : L.length ≤ 100000) :
    Calls Tryd.prog 73 #[v, .func (.func 74) #[] #[]] w fun e w' => e = .returned (.tuple #[]) ∧ Rw opE 61 base v (sortOps L) w' ∧ Below base w w' := by
  have HC := Lib.hid (opsStable_any base v L w h hb hn)
  obtain ⟨A, m, c, rfl⟩ := h.slice
  obtain rfl : m = L.length := h.sl.len
  clear h
  go_enter Tryd.func73, Tryd.ntmps73
  go_wp2_with fail
  refine HC.out.mono ?_
  rintro e w1 ⟨rfl, h1, h2⟩
  go_wp2_with fail
  go_end0
  exact ⟨rfl, h1, h2⟩

/-- op.Sort -/
theorem opSort_any (v : Value) (L : List OpT) (w : World) (hs : SlV opE w v L) (hn : L.length ≤ 100000) :
    Calls Tryd.prog 36 #[v] w fun e w' => ∃ v', e = .returned v' ∧ Rw opE 61 w.heap.size v' (sortOps L) w' ∧ Below w.heap.size w w' := by
  have HC := Lib.hid (opsClone_any v L w hs hn)
  clear hs
  go_enter Tryd.func36, Tryd.ntmps36
  go_wp2_with fail
  refine HC.out.mono ?_
  rintro e w1 ⟨v1, rfl, h1, h2⟩
  have HS := Lib.hid (opsSortStable_any w.heap.size v1 L w1 h1 h2.size hn)
  have HB := Lib.hid h2
  clear h1 h2 HC
  go_wp2_with fail
  refine HS.out.mono ?_
  rintro e w2 ⟨rfl, h3, h4⟩
  have HR := Lib.hid h3
  have HB2 := Lib.hid h4
  clear h3 h4 HS
  go_wp2_with fail
  go_ret
  exact ⟨_, rfl, HR.out, HB.out.trans HB2.out⟩
end Go.Proofs.YthlojjknpfijmaaDoor
