/- TreeTurned: the walk of the law. -/
import Derived.Test.YtneggbhjekklhaaDoorTreeMovesW
namespace Go.Proofs.YtneggbhjekklhaaDoor
open Go Go.RowKit Go.Maps Tree
set_option linter.unusedVariables false
set_option linter.unusedSimpArgs false
set_option maxHeartbeats 4000000
set_option maxRecDepth 100000
/-- those that are marked -/
def pick : List OpT → List Bool → List OpT
  | x :: O, true :: fl => x :: pick O fl
  | _ :: O, false :: fl => pick O fl
  | _, _ => []
theorem pick_set : ∀ {O : List OpT} {fl : List Bool} {k : Nat} {x : OpT}, O[k]? = some x → fl[k]? = some false → (pick O (fl.set k true)).Perm (x :: pick O fl)
  | [], _, _, _, h, _ => by simp at h
  | _ :: _, [], _, _, _, h => by simp at h
  | y :: O, b :: fl, 0, x, h, h' => by
    simp at h h'
    subst h; subst h'
    exact List.Perm.refl _
  | y :: O, b :: fl, k + 1, x, h, h' => by
    have ih := pick_set (O := O) (fl := fl) (k := k) (x := x) (by simpa using h) (by simpa using h')
    cases b with
    | true => exact (ih.cons y).trans (List.Perm.swap x y _)
    | false => exact ih
theorem pick_all : ∀ {O : List OpT} {fl : List Bool}, fl.length = O.length → (∀ j, j < O.length → fl[j]? = some true) → pick O fl = O
  | [], fl, _, _ => by cases fl <;> rfl
  | x :: O, [], h, _ => by simp at h
  | x :: O, b :: fl, h, h' => by
    have h0 : b = true := by simpa using h' 0 (by simp)
    subst h0
    show x :: pick O fl = x :: O
    rw [pick_all (by simpa using h) (fun j hj => by simpa using h' (j + 1) (by simpa using hj))]
theorem pick_none : ∀ (O : List OpT) (n : Nat), pick O (List.replicate n false) = []
  | [], n => by cases n <;> rfl
  | x :: O, 0 => rfl
  | x :: O, n + 1 => pick_none O n
theorem pick_mem : ∀ {O : List OpT} {fl : List Bool} {y : OpT}, y ∈ pick O fl → ∃ j : Nat, O[j]? = some y ∧ fl[j]? = some true
  | [], fl, y, h => by cases fl <;> cases h
  | x :: O, [], y, h => by cases h
  | x :: O, b :: fl, y, h => by
    cases b with
    | true =>
      rcases List.mem_cons.1 h with rfl | h
      · exact ⟨0, rfl, rfl⟩
      · obtain ⟨j, h1, h2⟩ := pick_mem h
        exact ⟨j + 1, by simpa using h1, by simpa using h2⟩
    | false =>
      obtain ⟨j, h1, h2⟩ := pick_mem (show y ∈ pick O fl from h)
      exact ⟨j + 1, by simpa using h1, by simpa using h2⟩
/-- moves that are well, each with a stamp of its own -/
structure OwnOk (O : List OpT) : Prop where
  ok : ∀ o ∈ O, o.Wf ∧ opErr o = 0 ∧ o.k = 109
  ap : O.Pairwise fun x y => ¬ SameS x y
theorem OwnOk.nil : OwnOk [] := ⟨(fun o h => by cases h), List.Pairwise.nil⟩
theorem SameS.symm {x y : OpT} (h : SameS x y) : SameS y x := ⟨h.1.symm, h.2.symm⟩
theorem OwnOk.apart {O : List OpT} (h : OwnOk O) {i j : Nat} {x y : OpT} (hx : O[i]? = some x) (hy : O[j]? = some y) (hij : i ≠ j) : ¬ SameS x y := by
  obtain ⟨hi, rfl⟩ := List.getElem?_eq_some_iff.1 hx
  obtain ⟨hj, rfl⟩ := List.getElem?_eq_some_iff.1 hy
  rcases Nat.lt_or_ge i j with hl | hl
  · exact (List.pairwise_iff_getElem.1 h.ap) i j hi hj hl
  · exact fun hs => (List.pairwise_iff_getElem.1 h.ap) j i hj hi (by omega) hs.symm
theorem OwnOk.err {O M : List OpT} (h : OwnOk O) {k : Nat} {x : OpT} (hx : O[k]? = some x) (hM : ∀ y ∈ M, ∃ j : Nat, O[j]? = some y ∧ j ≠ k) : applyErr (sortOps M) x = 0 := by
  obtain ⟨_, h1, h2⟩ := h.ok x (List.mem_of_getElem? hx)
  unfold applyErr
  rw [if_neg (by omega), if_neg (by omega), if_neg]
  rintro ⟨y, hy, hs⟩
  obtain ⟨j, hj, hjk⟩ := hM y (mem_sortOps.1 hy)
  exact h.apart hj hx hjk hs
theorem OwnOk.taken {O : List OpT} {x : OpT} (h : OwnOk O) (hw : x.Wf) : OwnOk (takenM O x) := by
  unfold takenM
  split
  · rename_i h0
    obtain ⟨h1, h2, h3⟩ := applyErr_zero h0
    refine ⟨fun o ho => ?_, ?_⟩
    · rcases List.mem_append.1 ho with ho | ho
      · exact h.ok o ho
      · rw [List.mem_singleton.1 ho]; exact ⟨hw, h1, h2⟩
    · rw [List.pairwise_append]
      refine ⟨h.ap, by simp, fun a ha b hb => ?_⟩
      rw [List.mem_singleton.1 hb]
      exact fun hs => h3 ⟨a, mem_sortOps.2 ha, hs⟩
  · exact h
theorem rising_fold : ∀ (M acc : List OpT), Rising acc → (∀ x ∈ M, ∀ y ∈ acc, ¬ SameS y x) → (M.Pairwise fun x y => ¬ SameS x y) → Rising (M.foldl (laidIn opLt) acc)
  | [], acc, h, _, _ => h
  | x :: M, acc, h, h1, h2 => by
    rw [List.pairwise_cons] at h2
    refine rising_fold M (laidIn opLt acc x) (h.laid (fun ⟨y, hy, hs⟩ => h1 x (by simp) y hy hs)) (fun z hz y hy => ?_) h2.2
    rcases List.mem_cons.1 ((laidIn_perm (lt := opLt) acc x).mem_iff.1 hy) with rfl | hy
    · exact h2.1 z hz
    · exact h1 z (List.mem_cons_of_mem _ hz) y hy
/-- a log of what was picked -/
theorem OwnOk.log {O M : List OpT} (h : OwnOk O) (hM : ∀ y ∈ M, y ∈ O) (hp : M.Pairwise fun x y => ¬ SameS x y) : LogOk (sortOps M) := by
  refine ⟨rising_fold M [] List.Pairwise.nil (fun _ _ y hy => by cases hy) hp, fun o ho => ?_⟩
  have hw := (h.ok o (hM o (mem_sortOps.1 ho))).1
  exact ⟨⟨hw.nd1, hw.nd2⟩, ⟨hw.ot1, hw.ot2⟩⟩
/-- two logs of the same moves are one -/
theorem sort_eq {M N : List OpT} (h : LogOk (sortOps M)) (h' : LogOk (sortOps N)) (hp : M.Perm N) : sortOps M = sortOps N :=
  h.up.eq h'.up ((sortL_perm swo_opLt M).trans (hp.trans (sortL_perm swo_opLt N).symm))
/-- rows of two types are two -/
theorem rw_two {T T' : Type} {E : Enc T} {E' : Enc T'} {ty ty' : TypeId} {base base' : Nat} {v v' : Value} {L : List T} {L' : List T'} {w : World} (hne : ty ≠ ty') (h : Rw E ty base v L w) (h' : Rw E' ty' base' v' L' w) : ∀ k, v.ownBlock = some k → v'.ownBlock = some k → False := by
  intro k h1 h2
  rcases h.2 with ⟨e, _⟩ | ⟨g, c, cur, e, _, hg, _⟩
  · rw [e] at h1; cases h1
  · rcases h'.2 with ⟨e', _⟩ | ⟨g', c', cur', e', _, hg', _⟩
    · rw [e'] at h2; cases h2
    · rw [e] at h1
      rw [e'] at h2
      have q1 : g = k := Option.some.inj h1
      have q2 : g' = k := Option.some.inj h2
      rw [q1] at hg
      rw [q2, hg] at hg'
      have h3 := Option.some.inj hg'
      injection h3 with _ h4 _
      exact hne h4
/-- a log that holds something lies apart from another tree -/
theorem row_apart {base base' TB TB' b b' n n' : Nat} {lv lv' : Value} {L L' : List OpT} {w : World} (h : TrS base TB b n lv L w) (hL : L ≠ []) (h' : TrS base' TB' b' n' lv' L' w) : ∀ k, lv.ownBlock = some k → k ≠ TB' ∧ k ≠ b' := by
  intro k hk
  rcases h.row.2 with ⟨e, _⟩ | ⟨g, c, cur, e, _, hg, _⟩
  · rw [e] at hk; cases hk
  · have q1 : g = k := by rw [e] at hk; exact Option.some.inj hk
    subst q1
    constructor
    · rintro rfl
      cases L with
      | nil => exact hL rfl
      | cons o L =>
        have hd := done_at h.row e (i := 0) (d := noteO p00 o) rfl 0 _ rfl
        have h0 := h'.p0
        rw [Nat.zero_mul, Nat.add_zero] at hd
        rw [hd] at h0
        cases h0
    · rintro rfl
      obtain ⟨f, ⟨D, ⟨es, clock, hb, _⟩, _⟩, _⟩ := h'.mp
      rw [hg] at hb
      cases hb

/-- two trees, what they are to take, and the marks -/
structure TT (w0 : World) (TBa ba na : Nat) (lva : Value) (Ma : List OpT) (TBb bb nb : Nat) (lvb : Value) (Mb : List OpT) (ov : Value) (O : List OpT) (fv : Value) (fl : List Bool) (w : World) : Prop where
  a : TrS w0.heap.size TBa ba na lva (sortOps Ma) w
  b : TrS w0.heap.size TBb bb nb lvb (sortOps Mb) w
  d : TBa ≠ TBb ∧ TBa ≠ bb ∧ ba ≠ TBb ∧ ba ≠ bb
  o : Rw opE 28 w0.heap.size ov O w
  on : ∀ k, ov.ownBlock = some k → k ≠ TBa ∧ k ≠ ba ∧ k ≠ TBb ∧ k ≠ bb
  f : Rw boolE 4 w0.heap.size fv fl w
  fn : ∀ k, fv.ownBlock = some k → k ≠ TBa ∧ k ≠ ba ∧ k ≠ TBb ∧ k ≠ bb
  ra : ∀ k, lva.ownBlock = some k → k ≠ TBb ∧ k ≠ bb
  rb : ∀ k, lvb.ownBlock = some k → k ≠ TBa ∧ k ≠ ba
  bel : Below w0.heap.size w0 w
section
variable {w0 w w1 : World} {TBa ba na n' TBb bb nb : Nat} {lva lvb lv' ov fv : Value} {Ma Mb Ma' O : List OpT} {fl : List Bool}
theorem TT.below (h : TT w0 TBa ba na lva Ma TBb bb nb lvb Mb ov O fv fl w) (hb : Below w.heap.size w w1) : TT w0 TBa ba na lva Ma TBb bb nb lvb Mb ov O fv fl w1 :=
  ⟨h.a.below hb, h.b.below hb, h.d, h.o.below hb, h.on, h.f.below hb, h.fn, h.ra, h.rb, h.bel.trans (hb.mono h.bel.size)⟩
theorem TT.swap (h : TT w0 TBa ba na lva Ma TBb bb nb lvb Mb ov O fv fl w) : TT w0 TBb bb nb lvb Mb TBa ba na lva Ma ov O fv fl w :=
  ⟨h.b, h.a, ⟨Ne.symm h.d.1, Ne.symm h.d.2.2.1, Ne.symm h.d.2.1, Ne.symm h.d.2.2.2⟩, h.o, fun k hk => by have := h.on k hk; exact ⟨this.2.2.1, this.2.2.2, this.1, this.2.1⟩, h.f, fun k hk => by have := h.fn k hk; exact ⟨this.2.2.1, this.2.2.2, this.1, this.2.1⟩, h.rb, h.ra, h.bel⟩
/-- the first one has taken a move -/
theorem TT.applied (h : TT w0 TBa ba na lva Ma TBb bb nb lvb Mb ov O fv fl w) (ht : TrS w0.heap.size TBa ba n' lv' (sortOps Ma') w1) (hF : Fr (fun k => k = TBa ∨ k = ba) w w1) (hne : sortOps Ma' ≠ []) : TT w0 TBa ba n' lv' Ma' TBb bb nb lvb Mb ov O fv fl w1 := by
  have hb1 : TrS w0.heap.size TBb bb nb lvb (sortOps Mb) w1 := h.b.fr hF (by have := h.d; omega) (by have := h.d; omega) (fun k hk => by have := h.rb k hk; omega)
  exact ⟨ht, hb1, h.d, h.o.fr (X := fun k => k = TBa ∨ k = ba) (fun k hk hx => hF.block k hk hx) (fun k hk e => by have := h.on k hk; omega), h.on,
    h.f.fr (X := fun k => k = TBa ∨ k = ba) (fun k hk hx => hF.block k hk hx) (fun k hk e => by have := h.fn k hk; omega), h.fn, row_apart ht hne hb1, h.rb,
    h.bel.trans (hF.below h.bel.size (fun k hk => by have := h.a.geT; have := h.a.geb; omega))⟩
/-- a mark is set -/
theorem TT.mark (h : TT w0 TBa ba na lva Ma TBb bb nb lvb Mb ov O fv fl w) {g : Nat} (hv : fv.ownBlock = some g) {fl' : List Bool} (hf : Rw boolE 4 w0.heap.size fv fl' w1) (hF : Fr (· = g) w w1) : TT w0 TBa ba na lva Ma TBb bb nb lvb Mb ov O fv fl' w1 := by
  have hg := h.fn g hv
  have o1 : ∀ k, lva.ownBlock = some k → ¬ k = g := fun k hk e => rw_two (by decide) h.a.row h.f k hk (by rw [e]; exact hv)
  have o2 : ∀ k, lvb.ownBlock = some k → ¬ k = g := fun k hk e => rw_two (by decide) h.b.row h.f k hk (by rw [e]; exact hv)
  have o3 : ∀ k, ov.ownBlock = some k → ¬ k = g := fun k hk e => rw_two (by decide) h.o h.f k hk (by rw [e]; exact hv)
  exact ⟨h.a.fr hF (Ne.symm hg.1) (Ne.symm hg.2.1) o1, h.b.fr hF (Ne.symm hg.2.2.1) (Ne.symm hg.2.2.2) o2, h.d, h.o.fr (X := (· = g)) (fun k hk hx => hF.block k hk hx) o3, h.on, hf, h.fn, h.ra, h.rb,
    h.bel.trans (hF.below h.bel.size (fun k hk => by rw [hk]; exact (h.f.lt g hv).1))⟩
end
theorem infoBoolT : (Tryd.prog.info? 4).map (fun i => (i.zero, i.size, i.bytes)) = some (some (.bool false), 1, 1) := by kernel_rfl
theorem TrS.lower {base base' TB b n : Nat} {lv : Value} {L : List OpT} {w : World} (h : TrS base' TB b n lv L w) (hb : base ≤ base') : TrS base TB b n lv L w := ⟨h.p0, h.p1, h.f1, h.mp, h.row.lower hb, Nat.le_trans hb h.geT, Nat.le_trans hb h.geb, h.ne, h.ner⟩
theorem pick_sub : ∀ (O : List OpT) (fl : List Bool), (pick O fl).Sublist O
  | [], fl => by cases fl <;> exact List.Sublist.refl _
  | x :: O, [] => List.nil_sublist _
  | x :: O, b :: fl => by
    cases b with
    | true => exact (pick_sub O fl).cons_cons x
    | false => exact (pick_sub O fl).cons x
theorem OwnOk.picked {O M : List OpT} {fl : List Bool} (h : OwnOk O) (hp : M.Perm (pick O fl)) : LogOk (sortOps M) :=
  h.log (fun y hy => (pick_sub O fl).subset (hp.mem_iff.1 hy)) ((hp.pairwise_iff (fun h hs => h hs.symm)).2 (h.ap.sublist (pick_sub O fl)))
theorem OwnOk.took {O : List OpT} (h : OwnOk O) (j : Nat) : LogOk (sortOps (O.take j)) :=
  h.log (fun y hy => List.mem_of_mem_take hy) (h.ap.sublist (List.take_sublist j O))
/-- two new trees, and no mark -/
theorem TT.start {w0 wr w3 w4 : World} {TBa ba TBb bb n : Nat} {ov : Value} {O : List OpT} (hO : Rw opE 28 w0.heap.size ov O wr) (hb : Below w0.heap.size w0 wr) (ha : TrS wr.heap.size TBa ba 0 (.slice none 0 0) [] w3) (hba : Below wr.heap.size wr w3) (hb' : TrS w3.heap.size TBb bb 0 (.slice none 0 0) [] w4) (hbb : Below w3.heap.size w3 w4) (hn : n ≤ maxLen) :
    TT w0 TBa ba 0 (.slice none 0 0) [] TBb bb 0 (.slice none 0 0) [] ov O (.slice (some ⟨w4.heap.size, 0, none⟩) n n) (List.replicate n false) (w4.alloc (.cells (madeCells #[.bool false] n) 4)) := by
  have s0 := hb.size
  have s1 := hba.size
  have s2 := hbb.size
  have hal : Below w4.heap.size w4 (w4.alloc (.cells (madeCells #[.bool false] n) 4)) := (Below.refl _ _).alloc (Nat.le_refl _) _
  have a1 := ha.lt
  have a2 : ba < w3.heap.size := ha.mp.lt
  have a3 := ha.geT
  have a4 := ha.geb
  have b1 := hb'.lt
  have b2 : bb < w4.heap.size := hb'.mp.lt
  have b3 := hb'.geT
  have b4 := hb'.geb
  refine ⟨((ha.lower s0).below hbb).below hal, (hb'.lower (by omega)).below hal, ⟨by omega, by omega, by omega, by omega⟩, ((hO.below hba).below hbb).below hal, fun k hk => ?_, Rw.madeBools _ _ n w4 (by omega) hn, fun k hk => ?_, fun k hk => by simp [Value.ownBlock] at hk, fun k hk => by simp [Value.ownBlock] at hk, ((hb.trans (hba.mono s0)).trans (hbb.mono (by omega))).trans (hal.mono (by omega))⟩
  · have := (hO.lt k hk).2
    exact ⟨by omega, by omega, by omega, by omega⟩
  · simp [Value.ownBlock] at hk
    exact ⟨by omega, by omega, by omega, by omega⟩
/-- a mark -/
theorem TT.done {w0 w : World} {TBa ba na TBb bb nb FB n c : Nat} {lva lvb ov : Value} {Ma Mb O : List OpT} {fl : List Bool} (h : TT w0 TBa ba na lva Ma TBb bb nb lvb Mb ov O (.slice (some ⟨FB, 0, none⟩) n c) fl w) (k : Nat) : TT w0 TBa ba na lva Ma TBb bb nb lvb Mb ov O (.slice (some ⟨FB, 0, none⟩) n c) (fl.set k true) (w.setCell ⟨FB, k, none⟩ (.bool true)) := by
  obtain ⟨h1, h2⟩ := h.f.stored (L' := fl.set k true) k (.bool true) (by simp) (boolE_set _ _ _)
  exact h.mark rfl h1 (fr_set w FB k _)
theorem cells_keep6 {p0 p1 p2 p3 p4 p5 : Addr} {v0 v1 v2 v3 v4 v5 : Value} {w w' : World} (hb : Below w.heap.size w w') (h : w.cell? p0 = some v0 ∧ w.cell? p1 = some v1 ∧ w.cell? p2 = some v2 ∧ w.cell? p3 = some v3 ∧ w.cell? p4 = some v4 ∧ w.cell? p5 = some v5) :
    w'.cell? p0 = some v0 ∧ w'.cell? p1 = some v1 ∧ w'.cell? p2 = some v2 ∧ w'.cell? p3 = some v3 ∧ w'.cell? p4 = some v4 ∧ w'.cell? p5 = some v5 :=
  ⟨cell_keep' hb h.1, cell_keep' hb h.2.1, cell_keep' hb h.2.2.1, cell_keep' hb h.2.2.2.1, cell_keep' hb h.2.2.2.2.1, cell_keep' hb h.2.2.2.2.2⟩
namespace treeTurned
theorem walk_early {F : Nat → Bool} (ea : Nat → Addr) (A B : Option Addr) (n c m d : Nat) (L : List OpT) (w : World) (hG : Gd F ea w) (f2 : F 2 = true) (f3 : F 3 = true) (f4 : F 4 = true) (f5 : F 5 = true) (f7 : F 7 = true)
    (hs : SlV opE w (.slice A n c) L) (hc : c ≤ maxLen) (h : longOps 40 L = true ∨ 60 < m) :
    Calls Tryd.prog 5 #[.slice A n c, .slice B m d] w fun e w' => e = .returned (.bool true) ∧ Below w.heap.size w w' := by
  have hcap := hs.cap
  have HC := Lib.hid (grown_any ea w hG f2 f3 f4 f5 f7)
  obtain ⟨lb, hlb⟩ : ∃ lb, longOps 40 L = lb := ⟨_, rfl⟩
  have HL : Hid (∀ w', Below w.heap.size w w' → Calls Tryd.prog 10 #[.slice A n c, .int .i64 (40 : Nat)] w' fun e w'' => e = .returned (.int .i64 (if lb then 1 else 0)) ∧ w'' = w') := Lib.hid fun w' hb => by
    have := longOps_any A n c 40 L w' (hs.below hb) (by omega) (by omega)
    rw [hlb] at this
    exact this
  rw [hlb] at h
  clear hG hs hcap hlb
  cases lb with
  | true =>
    clear h
    go_enter Tryd.func5, Tryd.ntmps5
    go_wp2_with fail
    refine HC.out.mono ?_
    rintro r w1 ⟨rfl, hb⟩
    have HB1 := Lib.hid hb
    clear hb
    go_wp2_with fail
    refine (HL.out _ HB1.out).mono ?_
    rintro r w2 ⟨rfl, rfl⟩
    go_wp2_with fail
    go_ret
    exact ⟨rfl, HB1.out⟩
  | false =>
    have hm : (60 : Int) < (m : Int) := by
      have : 60 < m := by simpa using h
      omega
    clear h
    go_enter Tryd.func5, Tryd.ntmps5
    go_wp2_with fail
    refine HC.out.mono ?_
    rintro r w1 ⟨rfl, hb⟩
    have HB1 := Lib.hid hb
    clear hb
    go_wp2_with fail
    refine (HL.out _ HB1.out).mono ?_
    rintro r w2 ⟨rfl, rfl⟩
    go_wp2_with fail
    go_ret
    exact ⟨rfl, HB1.out⟩

open Classical in
theorem walk {F : Nat → Bool} (ea : Nat → Addr) (A B : Option Addr) (n c m d : Nat) (L : List OpT) (ord : List Int) (w : World) (hG : Gd F ea w) (f2 : F 2 = true) (f3 : F 3 = true) (f4 : F 4 = true) (f5 : F 5 = true) (f7 : F 7 = true)
    (hs : SlV opE w (.slice A n c) L) (hc : c ≤ maxLen) (hwf : ∀ x ∈ L, (x.nm.size ≤ 100000 → x.vl.size ≤ 100000 → x.Wf)) (hm : ord.length = m) (hB : SlV intE w (.slice B m d) ord) :
    Calls Tryd.prog 5 #[.slice A n c, .slice B m d] w fun e w' => e = .returned (.bool true) ∧ Below w.heap.size w w' := by
  by_cases hE : longOps 40 L = true ∨ 60 < m
  · exact walk_early ea A B n c m d L w hG f2 f3 f4 f5 f7 hs hc hE
  have hlo : longOps 40 L = false := by
    cases h : longOps 40 L with
    | true => exact absurd (.inl h) hE
    | false => rfl
  have hm60 : ¬ (60 : Int) < (m : Int) := by omega
  have hcap := hs.cap
  have HC := Lib.hid (grown_any ea w hG f2 f3 f4 f5 f7)
  have HLo : Hid (∀ w', Below w.heap.size w w' → Calls Tryd.prog 10 #[.slice A n c, .int .i64 (40 : Nat)] w' fun e w'' => e = .returned (.int .i64 0) ∧ w'' = w') := Lib.hid fun w' hb => by
    have := longOps_any A n c 40 L w' (hs.below hb) (by omega) (by omega)
    rw [hlo] at this
    exact this
  have hlen : n = L.length := hs.len
  have hno : L.length ≤ 40 ∧ ∀ x ∈ L, longOp x = false := by
    unfold longOps at hlo
    rw [Bool.or_eq_false_iff, decide_eq_false_iff_not, List.any_eq_false] at hlo
    exact ⟨by omega, fun x hx => by simpa using hlo.2 x hx⟩
  have HW : Hid (∀ x ∈ L, x.Wf) := Lib.hid fun x hx => by
    have h := hno.2 x hx
    simp only [longOp, Bool.or_eq_false_iff, decide_eq_false_iff_not] at h
    exact hwf x hx (by omega) (by omega)
  have hn40 : n ≤ 40 := by omega
  have hm6 : m ≤ 60 := by omega
  have HN := Lib.hid hlen
  have HS := Lib.hid hs
  have HG := Lib.hid hG
  have HOr := Lib.hid hB
  have HOm := Lib.hid hm
  clear hG hs hlo hcap hE hwf hno hlen hm hB
  go_enter Tryd.func5, Tryd.ntmps5
  go_wp2_with fail
  refine HC.out.mono ?_
  rintro r w1 ⟨rfl, hb⟩
  have HB1 := Lib.hid hb
  clear hb HC
  go_wp2_with fail
  refine (HLo.out _ HB1.out).mono ?_
  rintro r w2 ⟨rfl, rfl⟩
  clear HLo
  go_wp2_with fail
  go_loopw [6, 7] (fun v6 v7 wr => ∃ (i : Nat) (O : List OpT), i ≤ n ∧ v7 = .int .i64 i ∧ Hid (Rw opE 28 w.heap.size v6 O wr) ∧ Hid (OwnOk O) ∧ O.length ≤ i ∧ Hid (Below w.heap.size w wr)) (fun _ v7 _ => n - (intOf v7).toNat)
  case atStart => exact ⟨0, [], by omega, rfl, Lib.hid (Rw.nil _ _ _ _), Lib.hid OwnOk.nil, by simp, HB1⟩
  case round =>
    clear HB1
    obtain ⟨i, O, hi, rfl, HR, HO, hOi, HB⟩ := hrel
    obtain ⟨oA, om, oc, rfl⟩ := HR.out.slice
    have hom : om = O.length := HR.out.sl.len
    have HOM := Lib.hid hom
    have hom40 : om ≤ 40 := by omega
    clear hom
    by_cases hlt : i < n
    · obtain ⟨x, hx⟩ : ∃ x, L[i]? = some x := ⟨_, List.getElem?_eq_getElem (by have := HN.out; omega)⟩
      have hxw := HW.out x (List.mem_of_getElem? hx)
      have HCx : Hid (∀ w', Below w.heap.size w w' → ∃ xb xo, A = some ⟨xb, xo, none⟩ ∧ w'.cell? ⟨xb, xo + i * 8, none⟩ = some (.int .i64 x.t) ∧ w'.cell? ⟨xb, xo + i * 8 + 1, none⟩ = some (.int .i64 x.b) ∧ w'.cell? ⟨xb, xo + i * 8 + 2, none⟩ = some (.int .i64 x.n) ∧ w'.cell? ⟨xb, xo + i * 8 + 3, none⟩ = some (.int .u8 x.k) ∧
          w'.cell? ⟨xb, xo + i * 8 + 4, none⟩ = some (.int .i64 x.nd) ∧ w'.cell? ⟨xb, xo + i * 8 + 5, none⟩ = some (.int .i64 x.ot) ∧ w'.cell? ⟨xb, xo + i * 8 + 6, none⟩ = some (.string x.nm) ∧ w'.cell? ⟨xb, xo + i * 8 + 7, none⟩ = some (.string x.vl)) := Lib.hid fun w' hb => by
        obtain ⟨xb, xo, e, _, h⟩ := ops_at (HS.out.below hb) hx
        exact ⟨xb, xo, e, h⟩
      obtain ⟨xb, xo, rfl, c0, c1, c2, c3, c4, c5, c6, c7⟩ := HCx.out wr HB.out
      have HX := Lib.hid hx
      have HXw := Lib.hid hxw
      have i1 : (0 : Int) ≤ (i : Int) := by omega
      have i2 : (i : Int) < (n : Int) := by omega
      obtain ⟨e0, he0⟩ : ∃ e0, e0 = opErr x := ⟨_, rfl⟩
      have hoe := opError_any x wr hxw
      rw [← he0] at hoe
      have HOE := Lib.hid hoe
      have HE0 := Lib.hid he0
      obtain ⟨tb, htb⟩ : ∃ tb : Bool, (tb = true ↔ e0 = 0 ∧ x.k = 109) := ⟨decide (e0 = 0 ∧ x.k = 109), by simp⟩
      have HTb := Lib.hid htb
      clear hx hxw hoe he0 htb
      go_upto_region 8 with fail
      go_cut [8] (fun v8 wc => v8 = .bool tb ∧ Hid (Rw opE 28 w.heap.size (.slice oA om oc) O wc) ∧ Hid (Below w.heap.size w wc))
      case first =>
        go_wp2_with fail
        refine HOE.out.mono ?_
        rintro r w4 ⟨rfl, hb4⟩
        have HB4 := Lib.hid (HB.out.trans (hb4.mono HB.out.size))
        have HR4 := Lib.hid (HR.out.below hb4)
        clear hb4 HOE HB HR c0 c1 c2 c3 c4 c5 c6 c7
        obtain ⟨yb, yo, ey, c0, c1, c2, c3, c4, c5, c6, c7⟩ := HCx.out w4 HB4.out
        cases ey
        clear c0 c1 c2 c4 c5 c6 c7
        by_cases h0 : e0 = 0
        · subst h0
          by_cases hk : x.k = 109
          · have hkb : (x.k == 109) = true := by simp [hk]
            obtain rfl : tb = true := HTb.out.2 ⟨rfl, hk⟩
            clear hk
            go_wp2_with fail
            go_meet
            case rel => exact ⟨rfl, HR4, HB4⟩
          · have hkb : (x.k == 109) = false := by simp [hk]
            obtain rfl : tb = false := by
              cases tb with
              | false => rfl
              | true => exact absurd (HTb.out.1 rfl).2 hk
            clear hk
            go_wp2_with fail
            go_meet
            case rel => exact ⟨rfl, HR4, HB4⟩
        · have hb0 : ((e0 : Int) == 0) = false := by simp; omega
          obtain rfl : tb = false := by
            cases tb with
            | false => rfl
            | true => exact absurd (HTb.out.1 rfl).1 h0
          clear h0
          go_wp2_with fail
          go_meet
          case rel => exact ⟨rfl, HR4, HB4⟩
      case rest =>
        obtain ⟨rfl, HR4, HB4⟩ := hcut
        clear HR HB HOE c0 c1 c2 c3 c4 c5 c6 c7
        go_wp2_with fail
        go_loopw [8, 9] (fun v8 v9 w5 => ∃ (k : Nat) (nb : Bool), v8 = .bool nb ∧ v9 = .int .i64 k ∧ k ≤ om ∧ Hid (nb = true ↔ (opErr x = 0 ∧ x.k = 109 ∧ ∀ j y, j < k → O[j]? = some y → ¬ SameS y x)) ∧ Hid (Rw opE 28 w.heap.size (.slice oA om oc) O w5) ∧ Hid (Below w.heap.size w w5)) (fun _ v9 _ => om - (intOf v9).toNat)
        case atStart => exact ⟨0, tb, rfl, rfl, by omega, Lib.hid (by rw [HTb.out, HE0.out]; exact ⟨fun h => ⟨h.1, h.2, fun j y h => by omega⟩, fun h => ⟨h.1, h.2.1⟩⟩), HR4, HB4⟩
        case round =>
          clear HR4 HB4 HTb HE0
          obtain ⟨k, nb, rfl, rfl, hk, HNb, HR5, HB5⟩ := hrel
          have HMq : ∀ nq, Hid (Rw opE 28 w.heap.size (.slice oA om oc) O (wr.drewN nq)) ∧ Hid (Below w.heap.size w (wr.drewN nq)) := fun nq => ⟨Lib.hid (HR5.out.below (below_drawn (Below.refl _ _) nq)), Lib.hid (below_drawn HB5.out nq)⟩
          by_cases hkm : k < om
          · have k2 : (k : Int) < (om : Int) := by omega
            have k1 : (0 : Int) ≤ (k : Int) := by omega
            obtain ⟨y, hy⟩ : ∃ y, O[k]? = some y := ⟨_, List.getElem?_eq_getElem (by have := HOM.out; omega)⟩
            obtain ⟨gb, go, rfl, _, d0, d1, _, _, _, _, _, _⟩ := ops_at HR5.out.sl hy
            obtain ⟨yb, yo, ey, c0, c1, c2, c3, c4, c5, c6, c7⟩ := HCx.out wr HB5.out
            cases ey
            obtain ⟨ts, hts⟩ : ∃ ts, ts = (y.t == x.t && y.b == x.b) := ⟨_, rfl⟩
            have hes : ∀ w, (Op.equalIn 10000 26 (.agg #[.int .i64 y.t, .int .i64 y.b]) (.agg #[.int .i64 x.t, .int .i64 x.b])).run Tryd.prog w = .ok ts w := fun w => by rw [eqStamp_run, hts]
            have HTs : Hid (ts = true ↔ SameS y x) := Lib.hid (by rw [hts]; simp [SameS])
            have HY := Lib.hid hy
            clear hy hts c2 c3 c4 c5 c6 c7 hkm
            cases ts with
            | true =>
              have HNc : Hid (false = true ↔ (opErr x = 0 ∧ x.k = 109 ∧ ∀ j y, j < k + 1 → O[j]? = some y → ¬ SameS y x)) := Lib.hid ⟨(fun h => by cases h), fun h => absurd (HTs.out.1 rfl) (h.2.2 k y (by omega) HY.out)⟩
              go_wp2_with fail
              go_quiet (fail)
              rename_i nq
              obtain ⟨HR6, HB6⟩ := HMq nq
              clear HMq d0 d1 c0 c1 hes
              generalize wr.drewN nq = wq at HR6 HB6 ⊢
              go_wp2_with fail
              go_roundw
              case rel => exact ⟨k + 1, false, rfl, by go_num, by omega, Lib.hid (by first | exact HNc.out | simpa using HNc.out), HR6, HB6⟩
              case measure => simp [intOf] <;> omega
            | false =>
              have HNc : Hid (nb = true ↔ (opErr x = 0 ∧ x.k = 109 ∧ ∀ j y, j < k + 1 → O[j]? = some y → ¬ SameS y x)) := Lib.hid (HNb.out.trans ⟨fun h => ⟨h.1, h.2.1, fun j z h1 h2 => by
                by_cases hj : j = k
                · subst hj
                  rw [HY.out] at h2
                  cases h2
                  intro h3
                  have := HTs.out.2 h3
                  cases this
                · exact h.2.2 j z (by omega) h2⟩, fun h => ⟨h.1, h.2.1, fun j z h1 h2 => h.2.2 j z (by omega) h2⟩⟩)
              go_wp2_with fail
              go_quiet (fail)
              rename_i nq
              obtain ⟨HR6, HB6⟩ := HMq nq
              clear HMq d0 d1 c0 c1 hes
              generalize wr.drewN nq = wq at HR6 HB6 ⊢
              go_wp2_with fail
              go_roundw
              case rel => exact ⟨k + 1, nb, rfl, by go_num, by omega, HNc, HR6, HB6⟩
              case measure => simp [intOf] <;> omega
          · have hkm2 : ¬ (k : Int) < (om : Int) := by omega
            have HNc : Hid (nb = true ↔ applyErr (sortOps O) x = 0) := Lib.hid (by
              rw [HNb.out]
              constructor
              · rintro ⟨h1, h2, h3⟩
                unfold applyErr
                rw [if_neg (by omega), if_neg (by omega), if_neg]
                rintro ⟨y, h4, h5⟩
                obtain ⟨j, hj, rfl⟩ := List.getElem_of_mem (mem_sortOps.1 h4)
                exact h3 j _ (by have := HOM.out; omega) (List.getElem?_eq_getElem hj) h5
              · intro h
                obtain ⟨h1, h2, h3⟩ := applyErr_zero h
                exact ⟨h1, h2, fun j y _ hj hs => h3 ⟨y, mem_sortOps.2 (List.mem_of_getElem? hj), hs⟩⟩)
            clear hkm HNb HMq
            cases nb with
            | false =>
              have HTk : Hid (takenM O x = O) := Lib.hid (by unfold takenM; rw [if_neg (fun h => by have := HNc.out.2 h; cases this)])
              go_wp2_with fail
              go_roundw
              case rel => exact ⟨i + 1, O, by omega, by go_num, HR5, HO, by omega, HB5⟩
              case measure => simp [intOf] <;> omega
            | true =>
              have HTk : Hid (takenM O x = O ++ [x]) := Lib.hid (by unfold takenM; rw [if_pos (HNc.out.1 rfl)])
              obtain ⟨yb, yo, ey, c0, c1, c2, c3, c4, c5, c6, c7⟩ := HCx.out wr HB5.out
              cases ey
              have HMa := Lib.hid (HR5.out.below ((Below.refl wr.heap.size wr).alloc (Nat.le_refl _) (.cells x.cells 28)))
              have HO1 : Hid (SlV opE (wr.alloc (.cells x.cells 28)) (.slice (some ⟨wr.heap.size, 0, none⟩) 1 1) [x]) := Lib.hid (SlV.one wr x _ _ rfl)
              have hO40 : O.length ≤ 40 := by have := HOM.out; omega
              go_wp2_with (at_builtin; refine wpList_append_rows rfl _ _ 22 rfl opE w.heap.size 28 (opV ⟨0, 0, 0, 0, 0, 0, ⟨#[]⟩, ⟨#[]⟩⟩) 80 Tryd.underlying22 infoOp rfl (by decide) _ _ O [x] rfl rfl HMa.out HO1.out ?za1 ?za2 ?za3 ?_)
              case za1 => unfold maxLen; simp <;> omega
              case za2 => first | omega | (simp <;> omega) | (simp only [List.length_cons, List.length_nil]; omega)
              case za3 => have := HB5.out.size; first | omega | (simp; omega)
              intro v8 w8 hr8 hg8
              have HR8 : Hid (Rw opE 28 w.heap.size v8 (takenM O x) w8) := Lib.hid (by rw [HTk.out]; exact hr8)
              have HB8 : Hid (Below w.heap.size w w8) := Lib.hid ((HB5.out.alloc HB5.out.size _).grown hg8 (by have := HB5.out.size; simp; omega) (fun k hk => (HR5.out.lt k hk).1))
              clear hr8 hg8 c0 c1 c2 c3 c4 c5 c6 c7 HMa HO1
              go_wp2_with fail
              go_roundw
              case rel => exact ⟨i + 1, takenM O x, by omega, by go_num, HR8, Lib.hid (HO.out.taken HXw.out), by have := takenM_len O x; omega, HB8⟩
              case measure => simp [intOf] <;> omega
    · have hlt2 : ¬ (i : Int) < (n : Int) := by omega
      have HMB := Lib.hid (run_make_row' (P := Tryd.prog) 48 4 (.bool false) 1 Tryd.underlying48 infoBoolT rfl .i64 .i64 om (by omega) (by omega))
      clear hlt
      go_wp2_with fail
      refine (treeNew_any _).mono ?_
      rintro r w3 ⟨TBa, ba, rfl, hSa, hba⟩
      have HSa := Lib.hid hSa
      have HBa := Lib.hid hba
      clear hSa hba
      go_wp2_with fail
      refine (treeNew_any _).mono ?_
      rintro r w4 ⟨TBb, bb, rfl, hSb, hbb⟩
      have hTT := TT.start (n := om) HR.out HB.out HSa.out HBa.out hSb hbb (by unfold maxLen; omega)
      have hmk := HMB.out
      clear hSb hbb HSa HBa HMB HR HB
      go_wp2_with fail
      clear hmk
      obtain ⟨FB, hFB⟩ : ∃ FB, FB = w4.heap.size := ⟨_, rfl⟩
      obtain ⟨W3, hW3⟩ : ∃ W3, W3 = w4.alloc (.cells (madeCells #[.bool false] om) 4) := ⟨_, rfl⟩
      rw [← hW3, ← hFB] at hTT
      rw [← hW3, ← hFB]
      have HT := Lib.hid hTT
      clear hTT hW3 hFB
      go_loopw [13] (fun v13 wr => ∃ (i : Nat) (fl : List Bool) (na : Nat) (lva : Value) (Ma : List OpT), i ≤ m + om ∧ v13 = .int .i64 i ∧ Hid (TT w TBa ba na lva Ma TBb bb 0 (.slice none 0 0) [] (.slice oA om oc) O (.slice (some ⟨FB, 0, none⟩) om om) fl wr) ∧ Hid (Ma.Perm (pick O fl)) ∧ Hid (∀ j, j < om → j + m < i → fl[j]? = some true) ∧ Hid (fl.length = om) ∧ Hid (na ≤ i * 100)) (fun v13 _ => m + om - (intOf v13).toNat)
      case atStart => exact ⟨0, _, 0, _, [], by omega, rfl, HT, Lib.hid (by rw [pick_none]), Lib.hid (fun j _ h => by omega), Lib.hid (by simp), Lib.hid (by omega)⟩
      case round =>
        clear HT
        obtain ⟨i2, fl, na, lva, Ma, hi2, rfl, HT, HP, HD, HFl2, HNa⟩ := hrel
        by_cases hlt : i2 < m + om
        · have i0 : (0 : Int) ≤ (i2 : Int) := by omega
          have i1 : (i2 : Int) < (m : Int) + (om : Int) := by omega
          go_upto_if 105 with (fail)
          go_cut [14] (fun v14 wc => ∃ kk : Int, v14 = .int .i64 kk ∧ wr = wc ∧ Hid (m ≤ i2 → kk = (i2 : Int) - m))
          case first =>
            by_cases him : i2 < m
            · obtain ⟨y, hy⟩ : ∃ y, ord[i2]? = some y := ⟨_, List.getElem?_eq_getElem (by have := HOm.out; omega)⟩
              obtain ⟨b, off, rfl, hbl, hcc⟩ := (HOr.out.below (HT.out.bel.mono (Nat.le_refl _))).at' (by decide) hy
              have q0 : wr.cell? ⟨b, off + i2, none⟩ = some (.int .i64 y) := by have := hcc 0 _ rfl; simpa [intE] using this
              have i2m : (i2 : Int) < (m : Int) := by omega
              clear hy hcc
              go_wp2_with fail
              go_meet
              case rel => exact ⟨y, rfl, rfl, Lib.hid (fun h => by omega)⟩
            · have i2m : ¬ (i2 : Int) < (m : Int) := by omega
              go_wp2_with fail
              go_meet
              case rel => exact ⟨(i2 : Int) - m, rfl, rfl, Lib.hid (fun _ => rfl)⟩
          case rest =>
            obtain ⟨kk, rfl, rfl, HKi⟩ := hcut
            by_cases hk : 0 ≤ kk ∧ kk < om
            · obtain ⟨k, rfl⟩ : ∃ k : Nat, kk = k := ⟨kk.toNat, by omega⟩
              have hkn : k < om := by omega
              have k0 : (0 : Int) ≤ (k : Int) := by omega
              have k1 : (k : Int) < (om : Int) := by omega
              have HKK : Hid (m ≤ i2 → k = i2 - m) := Lib.hid (fun h => by have := HKi.out h; omega)
              clear hk HKi
              obtain ⟨bk, hbk⟩ : ∃ x, fl[k]? = some x := ⟨_, List.getElem?_eq_getElem (by have := HFl2.out; omega)⟩
              have cb : wr.cell? ⟨FB, k, none⟩ = some (.bool bk) := by
                have := HT.out.f.at' rfl hbk (j := 0) rfl
                simpa [boolE] using this
              have zb := HT.out.f.fz k
              have HBk := Lib.hid hbk
              clear hbk
              cases bk with
              | true =>
                go_wp2_with fail
                go_roundw
                case rel => exact ⟨i2 + 1, fl, na, lva, Ma, by omega, by go_num, HT, HP, Lib.hid (fun k' hk' hkm => by
                  by_cases e : k' + m < i2
                  · exact HD.out k' hk' e
                  · have := HKK.out (by omega)
                    have e2 : k' = k := by omega
                    rw [e2]; exact HBk.out), HFl2, Lib.hid (by have := HNa.out; omega)⟩
                case measure => simp [intOf]; omega
              | false =>
                obtain ⟨x, hx⟩ : ∃ x, O[k]? = some x := ⟨_, List.getElem?_eq_getElem (by have := HOM.out; omega)⟩
                have HX := Lib.hid hx
                have hT1 := HT.out.done k
                obtain ⟨xb, xo, rfl, _, c0, c1, c2, c3, c4, c5, c6, c7⟩ := ops_at hT1.o.sl hx
                have hM : ∀ y ∈ Ma, ∃ j : Nat, O[j]? = some y ∧ j ≠ k := fun y hy => by
                  obtain ⟨j, h1, h2⟩ := pick_mem (HP.out.mem_iff.1 hy)
                  exact ⟨j, h1, fun e => by rw [e, HBk.out] at h2; cases h2⟩
                have he0 := HO.out.err hx hM
                have htk : takenM Ma x = Ma ++ [x] := by unfold takenM; rw [if_pos he0]
                have hln : (sortOps Ma).length = Ma.length := sortL_len swo_opLt Ma
                have hl40 : Ma.length ≤ 40 := by
                  have h1 := HP.out.length_eq
                  have h2 := (pick_sub O fl).length_le
                  have := HOM.out
                  omega
                have hap := apply_any ea w.heap.size TBa ba na lva (sortOps Ma) x _ ((HO.out.ok x (List.mem_of_getElem? hx)).1) (HG.out.below hT1.bel) f2 f3 f4 f5 f7 hT1.a (HO.out.picked HP.out) (by omega) (by have := HNa.out; unfold maxLen; omega)
                rw [applyL_sort, he0, htk, hln] at hap
                have HAp : Hid (Calls Tryd.prog 23 #[.pointer (some ⟨TBa, 0, none⟩), opV x] (wr.setCell ⟨FB, k, none⟩ (.bool true)) fun e w' => e = .returned .nilIface ∧ ∃ lv' n', TrS w.heap.size TBa ba n' lv' (sortOps (Ma ++ [x])) w' ∧ n' ≤ na + 2 * Ma.length + 1 ∧ Fr (fun k => k = TBa ∨ k = ba) (wr.setCell ⟨FB, k, none⟩ (.bool true)) w') := Lib.hid hap
                have HP2 : Hid ((Ma ++ [x]).Perm (pick O (fl.set k true))) := Lib.hid (((List.perm_append_singleton x Ma).trans (HP.out.cons x)).trans (pick_set hx HBk.out).symm)
                have HT1 := Lib.hid hT1
                clear hx hT1 hM he0 htk hln hap HP HT
                go_wp2_with fail
                refine HAp.out.mono ?_
                rintro r w5 ⟨rfl, lv2, n2, ht5, hn5, hF5⟩
                have HT5 := Lib.hid (HT1.out.applied (Ma' := Ma ++ [x]) ht5 hF5 (by
                  intro e
                  have h1 : (sortOps (Ma ++ [x])).length = (Ma ++ [x]).length := sortL_len swo_opLt _
                  rw [e] at h1
                  simp at h1))
                clear ht5 hF5 HAp HT1 c0 c1 c2 c3 c4 c5 c6 c7 cb zb
                go_wp2_with fail
                go_roundw
                case rel => exact ⟨i2 + 1, fl.set k true, n2, lv2, Ma ++ [x], by omega, by go_num, HT5, HP2, Lib.hid (fun k' hk' hkm => by
                  rw [List.getElem?_set]
                  by_cases e : k = k'
                  · subst e
                    simp [HFl2.out, hkn]
                  · rw [if_neg e]
                    exact HD.out k' hk' (by
                      by_cases e2 : k' + m < i2
                      · exact e2
                      · have := HKK.out (by omega)
                        omega)), Lib.hid (by simp [HFl2.out]), Lib.hid (by have := HNa.out; omega)⟩
                case measure => simp [intOf]; omega
            · have hk2 : kk < 0 ∨ (0 ≤ kk ∧ (om : Int) ≤ kk) := by omega
              have HD2 : Hid (∀ j, j < om → j + m < i2 + 1 → fl[j]? = some true) := Lib.hid (fun k' hk' hkm => by
                by_cases e : k' + m < i2
                · exact HD.out k' hk' e
                · have := HKi.out (by omega)
                  omega)
              clear HKi hk
              rcases hk2 with hk2 | ⟨hk3, hk2⟩
              · go_wp2_with fail
                go_roundw
                case rel => exact ⟨i2 + 1, fl, na, lva, Ma, by omega, by go_num, HT, HP, HD2, HFl2, Lib.hid (by have := HNa.out; omega)⟩
                case measure => simp [intOf]; omega
              · go_wp2_with fail
                go_roundw
                case rel => exact ⟨i2 + 1, fl, na, lva, Ma, by omega, by go_num, HT, HP, HD2, HFl2, Lib.hid (by have := HNa.out; omega)⟩
                case measure => simp [intOf]; omega
        · have hge : ¬ (i2 : Int) < (m : Int) + (om : Int) := by omega
          have HPa : Hid (Ma.Perm O) := Lib.hid (by
            have h := HP.out
            rw [pick_all (by rw [HFl2.out]; exact HOM.out) (fun j hj => HD.out j (by have := HOM.out; omega) (by have := HOM.out; omega))] at h
            exact h)
          have HNa2 : Hid (na ≤ 10000) := Lib.hid (by have := HNa.out; omega)
          clear HP HD HFl2 hlt HNa
          go_wp2_with fail
          go_loopw [15] (fun v15 wr => ∃ (j nb : Nat) (lvb : Value), j ≤ om ∧ v15 = .int .i64 j ∧ Hid (TT w TBb bb nb lvb (O.take j) TBa ba na lva Ma (.slice oA om oc) O (.slice (some ⟨FB, 0, none⟩) om om) fl wr) ∧ Hid (nb ≤ j * 100)) (fun v15 _ => om - (intOf v15).toNat)
          case atStart => exact ⟨0, 0, _, by omega, rfl, Lib.hid (by exact HT.out.swap), Lib.hid (by omega)⟩
          case round =>
            clear HT
            obtain ⟨j, nb, lvb, hj, rfl, HT, HNb⟩ := hrel
            by_cases hjn : j < om
            · have j0 : (0 : Int) ≤ (j : Int) := by omega
              have j1 : (j : Int) < (om : Int) := by omega
              obtain ⟨x, hx⟩ : ∃ x, O[j]? = some x := ⟨_, List.getElem?_eq_getElem (by have := HOM.out; omega)⟩
              obtain ⟨xb, xo, rfl, _, c0, c1, c2, c3, c4, c5, c6, c7⟩ := ops_at HT.out.o.sl hx
              have hM : ∀ y ∈ O.take j, ∃ j' : Nat, O[j']? = some y ∧ j' ≠ j := fun y hy => by
                obtain ⟨q, hq, e⟩ := List.getElem_of_mem hy
                have hq2 : q < j ∧ q < O.length := by rw [List.length_take] at hq; omega
                refine ⟨q, ?_, by omega⟩
                rw [← e, List.getElem_take]
                exact List.getElem?_eq_getElem hq2.2
              have he0 := HO.out.err hx hM
              have htk : takenM (O.take j) x = O.take (j + 1) := by
                unfold takenM
                rw [if_pos he0]
                obtain ⟨h1, h2⟩ := List.getElem?_eq_some_iff.1 hx
                rw [← h2]
                exact List.take_append_getElem h1
              have hln : (sortOps (O.take j)).length = (O.take j).length := sortL_len swo_opLt _
              have hl40 : (O.take j).length ≤ 40 := by rw [List.length_take]; omega
              have hap := apply_any ea w.heap.size TBb bb nb lvb (sortOps (O.take j)) x wr ((HO.out.ok x (List.mem_of_getElem? hx)).1) (HG.out.below HT.out.bel) f2 f3 f4 f5 f7 HT.out.a (HO.out.took j) (by omega) (by have := HNb.out; unfold maxLen; omega)
              rw [applyL_sort, he0, htk, hln] at hap
              have HAp : Hid (Calls Tryd.prog 23 #[.pointer (some ⟨TBb, 0, none⟩), opV x] wr fun e w' => e = .returned .nilIface ∧ ∃ lv' n', TrS w.heap.size TBb bb n' lv' (sortOps (O.take (j + 1))) w' ∧ n' ≤ nb + 2 * (O.take j).length + 1 ∧ Fr (fun k => k = TBb ∨ k = bb) wr w') := Lib.hid hap
              have HNe : Hid (sortOps (O.take (j + 1)) ≠ []) := Lib.hid (by
                intro e
                have h1 : (sortOps (O.take (j + 1))).length = (O.take (j + 1)).length := sortL_len swo_opLt _
                rw [e, List.length_take] at h1
                have h2 := (List.getElem?_eq_some_iff.1 hx).1
                simp only [List.length_nil] at h1
                omega)
              clear hx hM he0 htk hln hap
              go_wp2_with fail
              refine HAp.out.mono ?_
              rintro r w5 ⟨rfl, lv2, n2, ht5, hn5, hF5⟩
              have HT5 := Lib.hid (HT.out.applied (Ma' := O.take (j + 1)) ht5 hF5 HNe.out)
              clear ht5 hF5 HAp HT c0 c1 c2 c3 c4 c5 c6 c7
              go_wp2_with fail
              go_roundw
              case rel => exact ⟨j + 1, n2, lv2, by omega, by go_num, HT5, Lib.hid (by have := HNb.out; omega)⟩
              case measure => simp [intOf]; omega
            · have hjn2 : ¬ (j : Int) < (om : Int) := by omega
              have htO : O.take j = O := List.take_of_length_le (by have := HOM.out; omega)
              have hT := HT.out
              have hlo := HO.out.took j
              rw [htO] at hT hlo
              have hloA : LogOk (sortOps Ma) := HO.out.log (fun y hy => HPa.out.mem_iff.1 hy) ((HPa.out.pairwise_iff (fun h hs => h hs.symm)).2 HO.out.ap)
              have heq : sortOps Ma = sortOps O := sort_eq hloA hlo HPa.out
              have HLo := Lib.hid hlo
              have HA : Hid (TrS w.heap.size TBa ba na lva (sortOps O) wr) := Lib.hid (by rw [← heq]; exact hT.b)
              have HB := Lib.hid hT.a
              have HBl := Lib.hid hT.bel
              have HNb2 : Hid (nb ≤ 10000) := Lib.hid (by have := HNb.out; omega)
              have HPl := Lib.hid (treePlaces_any w.heap.size TBa ba na lva (sortOps O) wr HA.out (by have := HNa2.out; omega) (run_keys hlo.nd))
              clear htO hT hlo hloA heq HT HNb HPa HO HOM hjn
              go_wp2_with fail
              refine HPl.out.mono ?_
              rintro r w5 ⟨v5, Q, rfl, hr5, hq5, hl5, hb5⟩
              obtain ⟨pA, pm, pc, rfl⟩ := hr5.slice
              have HQ5 := Lib.hid hq5
              have HR5 := Lib.hid hr5
              have hl51 : Q.length ≤ 10000 := by have := HNa2.out; omega
              have HA5 := Lib.hid (HA.out.below hb5)
              have HB5 := Lib.hid (HB.out.below hb5)
              have HBl5 := Lib.hid (HBl.out.trans (hb5.mono HBl.out.size))
              have HPl2 := Lib.hid (treePlaces_any w.heap.size TBb bb nb lvb (sortOps O) w5 HB5.out (by have := HNb2.out; omega) (run_keys HLo.out.nd))
              clear hr5 hq5 hl5 hb5 HPl HA HB HBl
              go_wp2_with fail
              refine HPl2.out.mono ?_
              rintro r w6 ⟨v6, Q2, rfl, hr6, hq6, hl6, hb6⟩
              obtain rfl : Q2 = Q := hq6.unique HQ5.out
              obtain ⟨tA, tm, tc, rfl⟩ := hr6.slice
              have h1 : pm = Q2.length := HR5.out.sl.len
              have h2 : tm = Q2.length := hr6.sl.len
              obtain rfl : tm = pm := by omega
              have HPm := Lib.hid h1
              have ht10 : tm ≤ 10000 := by omega
              have HR6 := Lib.hid (HR5.out.below hb6).sl
              have HS6 := Lib.hid hr6.sl
              have HA6 := Lib.hid (HA5.out.below hb6)
              have HBl6 := Lib.hid (HBl5.out.trans (hb6.mono HBl5.out.size))
              have hne : ((tm : Int) != (tm : Int)) = false := by simp
              clear hr6 hq6 hl6 hb6 h1 h2 HR5 HA5 HB5 HBl5 HPl2
              go_wp2_with fail
              go_loopw [18] (fun v18 wr => ∃ k : Nat, k ≤ tm ∧ v18 = .int .i64 k ∧ Hid (Below w6.heap.size w6 wr)) (fun v18 _ => tm - (intOf v18).toNat)
              case atStart => exact ⟨0, by omega, rfl, Lib.hid (Below.refl _ _)⟩
              case round =>
                obtain ⟨k, hk, rfl, HB7⟩ := hrel
                by_cases hkt : k < tm
                · have k0 : (0 : Int) ≤ (k : Int) := by omega
                  have k1 : (k : Int) < (tm : Int) := by omega
                  obtain ⟨y, hy⟩ : ∃ y, Q2[k]? = some y := ⟨_, List.getElem?_eq_getElem (by have := HPm.out; omega)⟩
                  have HBd := Lib.hid HB7.out.drew
                  obtain ⟨ga, oa, rfl, _, c0, c1, c2⟩ := pl_at (HR6.out.below HBd.out) hy
                  obtain ⟨gb, ob, rfl, _, d0, d1, d2⟩ := pl_at (HS6.out.below HBd.out) hy
                  have HF := Lib.hid (⟨c0, c1, c2, d0, d1, d2⟩ : _ ∧ _ ∧ _ ∧ _ ∧ _ ∧ _)
                  have hA7 := HA6.out.below HBd.out
                  have hyn : I64 y.nd := run_keys HLo.out.nd y.nd _ (HQ5.out.have' hy)
                  have hin := inside_any TBa ba na (runO p00 (sortOps O)) y.nd y.nd wr.drew hA7.p0 hA7.mp (plOk_run HLo.out.nd) hyn
                  rw [decide_eq_false ((plOk_run HLo.out.nd).1.irr y.nd)] at hin
                  have HIn := Lib.hid hin
                  have heq : ∀ w, (Op.equalIn 10000 53 (.agg #[.int .i64 y.nd, .int .i64 y.into, .string y.nm]) (.agg #[.int .i64 y.nd, .int .i64 y.into, .string y.nm])).run Tryd.prog w = .ok true w := fun w => by rw [eqPl_run]; simp
                  have HKt := Lib.hid hkt
                  clear hy c0 c1 c2 d0 d1 d2 hA7 hyn hin hkt
                  go_upto_region 43 with fail
                  go_region_held3 (fun w' => w'.cell? ⟨ga, oa + k * 3, none⟩ = some (.int .i64 y.nd) ∧ w'.cell? ⟨ga, oa + k * 3 + 1, none⟩ = some (.int .i64 y.into) ∧ w'.cell? ⟨ga, oa + k * 3 + 2, none⟩ = some (.string y.nm) ∧ w'.cell? ⟨gb, ob + k * 3, none⟩ = some (.int .i64 y.nd) ∧ w'.cell? ⟨gb, ob + k * 3 + 1, none⟩ = some (.int .i64 y.into) ∧ w'.cell? ⟨gb, ob + k * 3 + 2, none⟩ = some (.string y.nm))
                    ((first | (with_reducible exact HF.out) | (with_reducible exact cells_keep6 (by assumption) (by assumption))))
                    ((go_at_call 25; refine HIn.out.mono ?_; rintro e wA ⟨rfl, hbA⟩))
                  all_goals
                    have HB8 : Hid (Below w6.heap.size w6 wA) := Lib.hid (HBd.out.trans (hbA.mono HBd.out.size))
                    rename_i hH
                    clear hH hbA HF HIn HBd
                    go_wp2_with fail
                    have hkt := HKt.out
                    have k2 : (k : Int) < 10000 := by omega
                    go_roundw
                    case rel => exact ⟨k + 1, by omega, by go_num, HB8⟩
                    case measure => simp [intOf]; omega
                · have hkt2 : ¬ (k : Int) < (tm : Int) := by omega
                  go_wp2_with fail
                  go_ret
                  exact ⟨rfl, HBl6.out.trans (HB7.out.mono HBl6.out.size)⟩
end treeTurned
end Go.Proofs.YtneggbhjekklhaaDoor
