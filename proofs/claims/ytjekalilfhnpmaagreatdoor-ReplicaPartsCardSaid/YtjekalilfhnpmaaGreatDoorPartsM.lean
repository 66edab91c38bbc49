/- Operations that are joined in parts (plain); four replicas, two more beside them, and all operations of the first one as a slice. -/
import Derived.Test.YtjekalilfhnpmaaGreatDoorTurn
import Derived.Test.YtjekalilfhnpmaaGreatDoorPlayed
namespace Go.Proofs.YtjekalilfhnpmaaGreatDoor
open Go Go.RowKit Go.Maps Go.Shelf LineOrd Tree
set_option linter.unusedVariables false
set_option linter.unusedSimpArgs false
set_option maxHeartbeats 2000000
set_option maxRecDepth 100000

theorem DOk.take {K : List OpT} (hK : DOk K) (hup : Rising K) (i : Nat) : DOk (K.take i) := by
  have := DOk.cut (L := []) (G := K) DOk.nil (by simpa using hK) hup i
  simpa using this
/-- one who has some of them joins the others, or all, or some again -/
theorem join_more {L K l : List OpT} (hL : DOk L) (hLr : Rising L) (hK : DOk K) (hKr : Rising K) (hm : ∀ o, o ∈ K ↔ o ∈ L ∨ o ∈ l) (hlen : K.length ≤ 400) :
    ∃ G, joinP L l = .inr G ∧ sortOps (L ++ G) = K ∧ L.length + G.length = K.length := by
  obtain ⟨G, h1, h2⟩ := join_all (l := l) hL K hK hm hlen
  obtain ⟨h3, _⟩ := join_ok hL hLr (fun o ho => hK.wf o ((hm o).2 (.inr ho))) h1
  have h4 := sort_eq h3 hK h2
  rw [sort_self hKr] at h4
  refine ⟨G, h1, h4, ?_⟩
  have := (sortOps_perm (L ++ G)).length_eq
  rw [h4, List.length_append] at this
  omega
theorem fresh_all {D : List OpT} (hD : DOk D) : ∀ (l F : List OpT) (i : Nat), (∀ o ∈ F ++ l, o ∈ D) → (F ++ l).Nodup → freshG [] F i l = .inr (F ++ l)
  | [], F, i, _, _ => by unfold freshG; simp
  | o :: l, F, i, h1, h2 => by
    have ho : o ∈ D := h1 o (by simp)
    unfold freshG
    rw [if_neg (by rw [hD.er o ho]; simp)]
    have hn : findOwn ([] ++ F) o.b o.n = none := by
      cases hf : findOwn ([] ++ F) o.b o.n with
      | none => rfl
      | some p =>
        obtain ⟨hp, hb, hn⟩ := findOwn_some hf
        have hpF : p ∈ F := by simpa using hp
        have e := hD.num p (h1 p (by simp [hpF])) o ho hb hn
        subst e
        exact absurd rfl ((List.pairwise_append.1 h2).2.2 p hpF p (by simp))
    rw [hn]
    simp only
    have := fresh_all hD l (F ++ [o]) (i + 1) (by simpa using h1) (by simpa using h2)
    rw [this]
    simp
/-- what comes late is in the later part -/
theorem late_in {K : List OpT} (hup : Rising K) {i : Nat} {o p : OpT} (ho : o ∈ K) (hp : p ∈ K.drop i) (h : opLt p o = true) : o ∈ K.drop i := by
  rw [← List.take_append_drop i K] at ho hup
  rcases List.mem_append.1 ho with h1 | h1
  · have := (List.pairwise_append.1 hup).2.2 o h1 p hp
    exact absurd ⟨rfl, rfl⟩ (opLt_irr (opLt_tr h this))
  · exact h1
/-- a part that is missing is told -/
theorem gap_told {K : List OpT} (hK : DOk K) (hup : Rising K) (i : Nat) {p q : OpT} (hp : p ∈ K.drop i) (hq : q ∈ K.take i) (hb : p.b = q.b) : joinP [] (K.drop i) = .inl (9, -1) := by
  have hsub : ∀ o ∈ K.drop i, o ∈ K := fun o ho => List.mem_of_mem_drop ho
  have hfr : freshG [] [] 0 (K.drop i) = .inr (K.drop i) := by
    have := fresh_all hK (K.drop i) [] 0 (by simpa using hsub) (by simpa using hK.nod.sublist (List.drop_sublist i K))
    simpa using this
  have hpK := hsub p hp
  have hcnt : cntB K p.b = cntB (K.take i) p.b + cntB (K.drop i) p.b := by rw [← cntB_app, List.take_append_drop]
  have hc1 : 1 ≤ cntB (K.take i) p.b := by
    unfold cntB
    exact List.countP_pos_iff.2 ⟨q, hq, by simp [hb]⟩
  obtain ⟨n1, n2⟩ := (nums_are hK p.b p.n).1 ⟨p, hpK, rfl, rfl⟩
  obtain ⟨o, hoK, hob, hon⟩ := (nums_are hK p.b (cntB K p.b)).2 ⟨by omega, Int.le_refl _⟩
  have hoD : o ∈ K.drop i := by
    by_cases e : p.n = o.n
    · rw [← hK.num p hpK o hoK hob.symm e]; exact hp
    · exact late_in hup hoK hp (own_lt hK.num hK.low (fun x hx => (hK.fine hx).n1) (o.n - p.n - 1).toNat p o hpK hoK hob.symm (by omega))
  have hgap : gapP [] (K.drop i) = true := by
    unfold gapP
    refine List.any_eq_true.2 ⟨o, hoD, decide_eq_true ?_⟩
    rw [hob, hon]
    have : cntB [] p.b = 0 := rfl
    omega
  unfold joinP
  rw [hfr]
  simp [hgap]
/-- what one who has nothing holds behind a join of the later part -/
theorem late_part {K : List OpT} (hK : DOk K) (hup : Rising K) (i : Nat) {G : List OpT} (h : joinP [] (K.drop i) = .inr G) : DOk (sortOps G) ∧ Rising (sortOps G) ∧ (∀ o ∈ sortOps G, o ∈ K) ∧ G.length ≤ K.length := by
  obtain ⟨h1, _, _, h4, _⟩ := join_ok DOk.nil List.Pairwise.nil (fun o ho => hK.wf o (List.mem_of_mem_drop ho)) h
  have h1' : DOk G := h1
  have hs : ∀ o ∈ G, o ∈ K := fun o ho => List.mem_of_mem_drop (h4 o ho)
  exact ⟨h1'.sorted, h1'.rising, fun o ho => hs o (sortOps_mem.1 ho), nodup_le h1'.nod hs⟩
/-- nothing's state is no text -/
theorem state0 : StateOf [] ⟨#[]⟩ := by
  refine ⟨[], [], fun _ => [], [], fun _ => none, ⟨by simp, fun y => ?_⟩, by simp, fun x => ?_, fun x hx => ?_, fun k hk => ⟨fun _ c h => ?_, fun c h => (by cases h)⟩, List.Pairwise.nil, fun k => ⟨fun h => by simp at h, fun ⟨_, c, h, _⟩ => (by cases h)⟩, ?_⟩
  · constructor
    · intro hy; simp at hy
    · intro hy
      have : runO p00 (logOf []) = p00 := rfl
      rw [this] at hy
      cases hy
  · constructor
    · intro h; simp at h
    · rintro ⟨o, ho, _⟩; simp at ho
  · obtain ⟨o, ho, _⟩ := hx
    cases ho
  · obtain ⟨o, ho, _⟩ := h
    cases ho
  · decide +kernel
/-- operations that are well have one text of their state -/
theorem strOf_ex : ∃ f : List OpT → ByteArray, ∀ K s, DOk K → StateOf K s → s = f K := by
  classical
  refine ⟨fun K => if h : ∃ s, StateOf K s then h.choose else ⟨#[]⟩, fun K s hK hs => ?_⟩
  have h : ∃ s, StateOf K s := ⟨s, hs⟩
  show s = (if h : ∃ s, StateOf K s then h.choose else ⟨#[]⟩)
  rw [dif_pos h]
  exact StateOf.unique hK hs h.choose_spec
end Go.Proofs.YtjekalilfhnpmaaGreatDoor
namespace Go.Proofs.YtjekalilfhnpmaaGreatDoor
open Go Go.RowKit Go.Maps Go.Shelf LineOrd Tree
set_option linter.unusedVariables false
set_option linter.unusedSimpArgs false
set_option maxHeartbeats 2000000
set_option maxRecDepth 100000

/-- two more replicas beside the four; a slice of what the first one holds -/
structure PartsW (R0 RA RB g cg base : Nat) (v : Value) (K LA LB : List OpT) (cs : Nat → Nat → Int) (ids : Nat → Int) (RBs : Nat → Nat) (Ks : Nat → List OpT) (w0 w : World) : Prop where
  reps : RepsW 6 ids cs RBs Ks w0 w
  row : RowW opE 31 6 cs base v K w
  all : RowW repE 23 6 cs w0.heap.size (.slice (some ⟨g, 0, none⟩) 4 cg) [R0, RBs 1, RBs 2, RBs 3] w
  r0 : RBs 0 = R0
  rA : RBs 4 = RA
  rB : RBs 5 = RB
  k0 : Ks 0 = K
  kA : Ks 4 = LA
  kB : Ks 5 = LB
  i0 : ids 0 = 0
  iA : ids 4 = 1
  iB : ids 5 = 2
variable {R0 RA RB g cg base : Nat} {v : Value} {K LA LB : List OpT} {w0 w : World}
/-- .. whatever their blocks -/
def Parts (R0 RA RB g cg base : Nat) (v : Value) (K LA LB : List OpT) (w0 w : World) : Prop := ∃ cs ids RBs Ks, PartsW R0 RA RB g cg base v K LA LB cs ids RBs Ks w0 w
theorem Parts.below {w' : World} (h : Parts R0 RA RB g cg base v K LA LB w0 w) (hb : Below w.heap.size w w') : Parts R0 RA RB g cg base v K LA LB w0 w' := by
  obtain ⟨cs, ids, RBs, Ks, h⟩ := h
  exact ⟨cs, ids, RBs, Ks, { h with reps := h.reps.below hb, row := h.row.below hb, all := h.all.below hb }⟩
theorem Parts.bel (h : Parts R0 RA RB g cg base v K LA LB w0 w) : Below w0.heap.size w0 w := by
  obtain ⟨cs, ids, RBs, Ks, h⟩ := h
  exact h.reps.bel
theorem Parts.sl (h : Parts R0 RA RB g cg base v K LA LB w0 w) : SlV opE w v K := by
  obtain ⟨cs, ids, RBs, Ks, h⟩ := h
  exact h.row.row.sl
theorem Parts.cell (h : Parts R0 RA RB g cg base v K LA LB w0 w) : w.cell? ⟨g, 0, none⟩ = some (.pointer (some ⟨R0, 0, none⟩)) := by
  obtain ⟨cs, ids, RBs, Ks, h⟩ := h
  have := h.all.row.at' rfl (i := 0) (x := R0) rfl (j := 0) (u := ptrV R0) rfl
  simpa [repE, ptrV] using this
/-- their beginning -/
theorem Parts.start {cs : Nat → Nat → Int} {RBs : Nat → Nat} {Ks : Nat → List OpT} {w1 w2 w3 : World} (h : RepsW 4 (fun b => (b : Int)) cs RBs Ks w0 w) (hrow : RowW repE 23 4 cs w0.heap.size (.slice (some ⟨g, 0, none⟩) 4 cg) ((List.range 4).map RBs) w)
    (hr : Rw opE 31 w.heap.size v (Ks 0) w1) (hb1 : Below w.heap.size w w1)
    {cA : Nat → Int} {RA : Nat} (hA : RepD cA RA 1 [] w2) (hb2 : Below w1.heap.size w1 w2) (hcA : ∀ k, cA k ≠ 0 → w1.heap.size ≤ k)
    {cB : Nat → Int} {RB : Nat} (hB : RepD cB RB 2 [] w3) (hb3 : Below w2.heap.size w2 w3) (hcB : ∀ k, cB k ≠ 0 → w2.heap.size ≤ k) : Parts (RBs 0) RA RB g cg w.heap.size v (Ks 0) [] [] w0 w3 := by
  have a1 := h.below hb1
  have a2 := a1.more hA hb2 hcA
  have a3 := a2.more hB hb3 hcB
  have o1 := h.row hr
  have o3 := (o1.more hb2 hcA).more hb3 hcB
  have l3 := ((hrow.below hb1).more hb2 hcA).more hb3 hcB
  exact ⟨_, _, _, _, ⟨a3, o3, l3, rfl, rfl, rfl, rfl, rfl, rfl, rfl, rfl, rfl⟩⟩
variable {F0 : Nat → Bool} {ea : Nat → Addr}
/-- one of the two joins -/
theorem PartsW.join {b : Nat} (hb : b = 4 ∨ b = 5) {cs : Nat → Nat → Int} {ids : Nat → Int} {RBs : Nat → Nat} {Ks : Nat → List OpT} (h : RepsW 6 ids cs RBs Ks w0 w) (hG : Gd F0 ea w0) (f2 : F0 2 = true) (f3 : F0 3 = true) (f4 : F0 4 = true) (f5 : F0 5 = true) (f6 : F0 6 = true) (f7 : F0 7 = true) (f8 : F0 8 = true) (f9 : F0 9 = true)
    (hk : DOk (Ks b)) (hup : Rising (Ks b)) (hl : (Ks b).length ≤ 400) {A : Option Addr} {n c : Nat} {l : List OpT} (hs : SlV opE w (.slice A n c) l) (hln : l.length ≤ 90000) (hw : ∀ o ∈ l, o.Wf) :
    Calls Tryz.prog 12 #[ptrV (RBs b), .slice A n c] w (JoEnds ea (cs b) (RBs b) (ids b) (Ks b) (joinP (Ks b) l) w) :=
  join_any ea w0 (cs b) (RBs b) (ids b) (Ks b) l A n c w (h.rep b (by omega)) hG h.bel (fun k hk => h.ge b k (by omega) hk) f2 f3 f4 f5 f6 f7 f8 f9 hk hup hl hs hln hw
theorem Parts.joinA (h : Parts R0 RA RB g cg base v K LA LB w0 w) (hG : Gd F0 ea w0) (f2 : F0 2 = true) (f3 : F0 3 = true) (f4 : F0 4 = true) (f5 : F0 5 = true) (f6 : F0 6 = true) (f7 : F0 7 = true) (f8 : F0 8 = true) (f9 : F0 9 = true)
    (hk : DOk LA) (hup : Rising LA) (hl : LA.length ≤ 400) {A : Option Addr} {n c : Nat} {l : List OpT} (hs : SlV opE w (.slice A n c) l) (hln : l.length ≤ 90000) (hw : ∀ o ∈ l, o.Wf) {G : List OpT} (hj : joinP LA l = .inr G) :
    Calls Tryz.prog 12 #[.pointer (some ⟨RA, 0, none⟩), .slice A n c] w fun e w' => e = .returned (.tuple #[.int .i64 G.length, .nilIface]) ∧ Parts R0 RA RB g cg base v K (sortOps (LA ++ G)) LB w0 w' := by
  obtain ⟨cs, ids, RBs, Ks, h⟩ := h
  obtain ⟨h1, h2, h3, r0, rA, rB, k0, kA, kB, i0, iA, iB⟩ := h
  have := PartsW.join (b := 4) (.inl rfl) h1 hG f2 f3 f4 f5 f6 f7 f8 f9 (by rw [kA]; exact hk) (by rw [kA]; exact hup) (by rw [kA]; exact hl) hs hln hw
  rw [kA, hj, rA] at this
  refine Calls.mono this ?_
  rintro e w' ⟨rfl, hRT⟩
  obtain ⟨c', hW, hgr, hfr⟩ := h1.join (b := 4) (by omega) (K := sortOps (LA ++ G)) (by rw [rA]; exact hRT)
  exact ⟨rfl, _, _, _, _, ⟨hW, h2.join (by omega) hgr hfr, h3.join (by omega) hgr hfr, r0, rA, rB, k0, rfl, kB, i0, iA, iB⟩⟩
/-- how the second one's join ends -/
def BEnds (ea : Nat → Addr) (R0 RA RB g cg base : Nat) (v : Value) (K LA LB : List OpT) (w0 : World) (R : (Nat × Int) ⊕ List OpT) (e : Ending) (w' : World) : Prop :=
  match R with
  | .inl p => ∃ ev, e = .returned (.tuple #[.int .i64 0, ev]) ∧ ErrVal ea w' ev p.1 p.2 ∧ p.1 ≠ 0 ∧ Parts R0 RA RB g cg base v K LA LB w0 w'
  | .inr G => e = .returned (.tuple #[.int .i64 G.length, .nilIface]) ∧ Parts R0 RA RB g cg base v K LA (sortOps (LB ++ G)) w0 w'
theorem Parts.joinB (h : Parts R0 RA RB g cg base v K LA LB w0 w) (hG : Gd F0 ea w0) (f2 : F0 2 = true) (f3 : F0 3 = true) (f4 : F0 4 = true) (f5 : F0 5 = true) (f6 : F0 6 = true) (f7 : F0 7 = true) (f8 : F0 8 = true) (f9 : F0 9 = true)
    (hk : DOk LB) (hup : Rising LB) (hl : LB.length ≤ 400) {A : Option Addr} {n c : Nat} {l : List OpT} (hs : SlV opE w (.slice A n c) l) (hln : l.length ≤ 90000) (hw : ∀ o ∈ l, o.Wf) :
    Calls Tryz.prog 12 #[.pointer (some ⟨RB, 0, none⟩), .slice A n c] w (BEnds ea R0 RA RB g cg base v K LA LB w0 (joinP LB l)) := by
  have hP := h
  obtain ⟨cs, ids, RBs, Ks, h⟩ := h
  obtain ⟨h1, h2, h3, r0, rA, rB, k0, kA, kB, i0, iA, iB⟩ := h
  have := PartsW.join (b := 5) (.inr rfl) h1 hG f2 f3 f4 f5 f6 f7 f8 f9 (by rw [kB]; exact hk) (by rw [kB]; exact hup) (by rw [kB]; exact hl) hs hln hw
  rw [kB, rB] at this
  refine Calls.mono this ?_
  cases joinP LB l with
  | inl p =>
    rintro e w' ⟨ev, he, hv, h0, hbl⟩
    exact ⟨ev, he, hv, h0, hP.below hbl⟩
  | inr G =>
    rintro e w' ⟨he, hRT⟩
    obtain ⟨c', hW, hgr, hfr⟩ := h1.join (b := 5) (by omega) (K := sortOps (LB ++ G)) (by rw [rB]; exact hRT)
    exact ⟨he, _, _, _, _, ⟨hW, h2.join (by omega) hgr hfr, h3.join (by omega) hgr hfr, r0, rA, rB, k0, kA, rfl, i0, iA, iB⟩⟩
/-- what their states are -/
theorem Parts.state (h : Parts R0 RA RB g cg base v K LA LB w0 w) (hG : Gd F0 ea w0) (f21 : F0 21 = true) {R : Nat} {L : List OpT} (hR : R = RA ∧ L = LA ∨ R = RB ∧ L = LB ∨ R = R0 ∧ L = K) (hk : DOk L) (hl : L.length ≤ 400) :
    Calls Tryz.prog 18 #[.pointer (some ⟨R, 0, none⟩)] w fun e w' => ∃ str, e = .returned (.string str) ∧ StateOf L str ∧ Below w.heap.size w w' := by
  obtain ⟨cs, ids, RBs, Ks, h1, h2, h3, r0, rA, rB, k0, kA, kB, i0, iA, iB⟩ := h
  rcases hR with ⟨rfl, rfl⟩ | ⟨rfl, rfl⟩ | ⟨rfl, rfl⟩
  · have := h1.rep 4 (by omega)
    rw [rA, kA] at this
    exact state_any ea _ _ _ _ w this (hG.below h1.bel) f21 hk hl
  · have := h1.rep 5 (by omega)
    rw [rB, kB] at this
    exact state_any ea _ _ _ _ w this (hG.below h1.bel) f21 hk hl
  · have := h1.rep 0 (by omega)
    rw [r0, k0] at this
    exact state_any ea _ _ _ _ w this (hG.below h1.bel) f21 hk hl
/-- what they hold -/
theorem Parts.ops (h : Parts R0 RA RB g cg base v K LA LB w0 w) {R : Nat} {L : List OpT} (hR : R = RA ∧ L = LA ∨ R = RB ∧ L = LB) (hl : L.length ≤ 400) :
    Calls Tryz.prog 14 #[.pointer (some ⟨R, 0, none⟩)] w fun e w' => ∃ A n c, e = .returned (.slice A n c) ∧ n = L.length ∧ SlV opE w' (.slice A n c) L ∧ Below w.heap.size w w' := by
  obtain ⟨cs, ids, RBs, Ks, h1, h2, h3, r0, rA, rB, k0, kA, kB, i0, iA, iB⟩ := h
  rcases hR with ⟨rfl, rfl⟩ | ⟨rfl, rfl⟩
  · have := h1.rep 4 (by omega)
    rw [rA, kA] at this
    refine (repOps_any _ _ _ _ w this (by omega)).mono ?_
    rintro e w' ⟨v, rfl, hr, hb⟩
    obtain ⟨A, n, c, rfl⟩ := hr.slice
    exact ⟨A, n, c, rfl, hr.sl.len, hr.sl, hb⟩
  · have := h1.rep 5 (by omega)
    rw [rB, kB] at this
    refine (repOps_any _ _ _ _ w this (by omega)).mono ?_
    rintro e w' ⟨v, rfl, hr, hb⟩
    obtain ⟨A, n, c, rfl⟩ := hr.slice
    exact ⟨A, n, c, rfl, hr.sl.len, hr.sl, hb⟩
end Go.Proofs.YtjekalilfhnpmaaGreatDoor
