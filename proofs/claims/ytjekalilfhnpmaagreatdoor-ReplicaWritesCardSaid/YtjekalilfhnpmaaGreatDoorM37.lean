/- Some replicas side by side in memory. begun: a closed fact. Four replicas of which some join what others have. Turns: what they are, whether they are long; a replica of operations that are joined in one. A slice of turns that comes in, opened. Operations that are joined in parts. Plain. Words that are typed: where their letters stand. Plain. types is walked: a word is typed, letter by letter. -/
import Derived.Test.YtjekalilfhnpmaaGreatDoorM31
import Derived.Test.YtjekalilfhnpmaaGreatDoorM36
namespace Go.Proofs.YtjekalilfhnpmaaGreatDoor
open Go Go.RowKit Go.Maps Go.Shelf LineOrd Tree
set_option linter.unusedVariables false
set_option linter.unusedSimpArgs false
set_option maxHeartbeats 2000000
set_option maxRecDepth 100000
def putT {T : Type} (f : Nat → T) (b : Nat) (x : T) : Nat → T := fun a => if a = b then x else f a
theorem putT_self {T : Type} (f : Nat → T) (b : Nat) (x : T) : putT f b x b = x := if_pos rfl
theorem putT_other {T : Type} {f : Nat → T} {a b : Nat} {x : T} (h : a ≠ b) : putT f b x a = f a := if_neg h
/-- m replicas, none of which has a block of another one's -/
structure RepsW (m : Nat) (ids : Nat → Int) (cs : Nat → Nat → Int) (RBs : Nat → Nat) (Ks : Nat → List OpT) (w0 w : World) : Prop where
  rep : ∀ b, b < m → RepD (cs b) (RBs b) (ids b) (Ks b) w
  apart : ∀ a b k, a < m → b < m → a ≠ b → cs a k ≠ 0 → cs b k = 0
  ge : ∀ b k, b < m → cs b k ≠ 0 → w0.heap.size ≤ k
  bel : Below w0.heap.size w0 w
theorem RepsW.start (ids : Nat → Int) (cs : Nat → Nat → Int) (RBs : Nat → Nat) (Ks : Nat → List OpT) (w : World) : RepsW 0 ids cs RBs Ks w w := ⟨fun b h => by omega, fun a b k h => by omega, fun b k h => by omega, Below.refl _ _⟩
theorem RepsW.below {m : Nat} {ids : Nat → Int} {cs : Nat → Nat → Int} {RBs : Nat → Nat} {Ks : Nat → List OpT} {w0 w w' : World} (h : RepsW m ids cs RBs Ks w0 w) (hb : Below w.heap.size w w') : RepsW m ids cs RBs Ks w0 w' :=
  ⟨fun b hbm => (h.rep b hbm).below hb, h.apart, h.ge, h.bel.trans (hb.mono h.bel.size)⟩
/-- .. beside something that is written and is no replica's -/
theorem RepsW.fr {X : Nat → Prop} {m : Nat} {ids : Nat → Int} {cs : Nat → Nat → Int} {RBs : Nat → Nat} {Ks : Nat → List OpT} {w0 w w' : World} (h : RepsW m ids cs RBs Ks w0 w) (hF : Fr X w w') (hx : ∀ b, b < m → ∀ k, X k → cs b k = 0) (hg : ∀ k, X k → w0.heap.size ≤ k) : RepsW m ids cs RBs Ks w0 w' :=
  ⟨fun b hbm => (h.rep b hbm).fr hF (hx b hbm), h.apart, h.ge, hF.below h.bel.size hg |> h.bel.trans⟩
/-- one of them is behind a join -/
theorem RepsW.join {m : Nat} {ids : Nat → Int} {cs : Nat → Nat → Int} {RBs : Nat → Nat} {Ks : Nat → List OpT} {w0 w w' : World} (h : RepsW m ids cs RBs Ks w0 w) {b : Nat} (hb : b < m) {K : List OpT} (hR : RepDTo (cs b) (RBs b) (ids b) K w w') :
    ∃ c', RepsW m ids (putT cs b c') RBs (putT Ks b K) w0 w' ∧ Grew (cs b) c' w ∧ Fr (InC (cs b)) w w' := by
  obtain ⟨c', h1, h2, h3⟩ := hR
  have hold : ∀ a k, a < m → a ≠ b → cs a k ≠ 0 → c' k = 0 := fun a k ha hab hk => by
    refine Classical.byContradiction fun hn => ?_
    have hl := (h.rep a ha).lt k hk
    have := h2.old k hl hn
    exact this (h.apart a b k ha hb hab hk)
  refine ⟨c', ⟨fun a ha => ?_, fun a d k ha hd had hk => ?_, fun a k ha hk => ?_, h.bel.trans (h3.below h.bel.size fun k hk => h.ge b k hb hk)⟩, h2, h3⟩
  · by_cases e : a = b
    · subst e
      rw [putT_self, putT_self]
      exact h1
    · rw [putT_other e, putT_other e]
      exact (h.rep a ha).fr h3 fun k hk => h.apart b a k hb ha (fun e' => e e'.symm) hk
  · by_cases e : a = b
    · subst e
      rw [putT_self] at hk
      rw [putT_other (fun e' => had e'.symm)]
      refine Classical.byContradiction fun hn => hk (hold d k hd (fun e' => had e'.symm) hn)
    · rw [putT_other e] at hk
      by_cases e2 : d = b
      · subst e2
        rw [putT_self]
        exact hold a k ha e hk
      · rw [putT_other e2]
        exact h.apart a d k ha hd had hk
  · by_cases e : a = b
    · subst e
      rw [putT_self] at hk
      rcases Nat.lt_or_ge k w.heap.size with hl | hl
      · exact h.ge a k ha (h2.old k hl hk)
      · exact Nat.le_trans h.bel.size hl
    · rw [putT_other e] at hk
      exact h.ge a k ha hk
/-- one more, new -/
theorem RepsW.more {m : Nat} {ids : Nat → Int} {cs : Nat → Nat → Int} {RBs : Nat → Nat} {Ks : Nat → List OpT} {w0 w w' : World} (h : RepsW m ids cs RBs Ks w0 w) {c : Nat → Int} {RB : Nat} {i : Int} {K : List OpT} (hR : RepD c RB i K w') (hb : Below w.heap.size w w') (hc : ∀ k, c k ≠ 0 → w.heap.size ≤ k) :
    RepsW (m + 1) (putT ids m i) (putT cs m c) (putT RBs m RB) (putT Ks m K) w0 w' := by
  refine ⟨fun a ha => ?_, fun a d k ha hd had hk => ?_, fun a k ha hk => ?_, h.bel.trans (hb.mono h.bel.size)⟩
  · by_cases e : a = m
    · subst e
      rw [putT_self, putT_self, putT_self, putT_self]
      exact hR
    · rw [putT_other e, putT_other e, putT_other e, putT_other e]
      exact (h.rep a (by omega)).below hb
  · by_cases e : a = m
    · subst e
      rw [putT_self] at hk
      rw [putT_other (fun e' => had e'.symm)]
      refine Classical.byContradiction fun hn => ?_
      have := (h.rep d (by omega)).lt k hn
      have := hc k hk
      omega
    · rw [putT_other e] at hk
      by_cases e2 : d = m
      · subst e2
        rw [putT_self]
        refine Classical.byContradiction fun hn => ?_
        have := (h.rep a (by omega)).lt k hk
        have := hc k hn
        omega
      · rw [putT_other e2]
        exact h.apart a d k (by omega) (by omega) had hk
  · by_cases e : a = m
    · subst e
      rw [putT_self] at hk
      exact Nat.le_trans h.bel.size (hc k hk)
    · rw [putT_other e] at hk
      exact h.ge a k (by omega) hk
/-- a row beside the replicas -/
structure RowW {T : Type} (E : Enc T) (ty : TypeId) (m : Nat) (cs : Nat → Nat → Int) (base : Nat) (v : Value) (L : List T) (w : World) : Prop where
  row : Rw E ty base v L w
  free : ∀ b, b < m → ∀ k, v.ownBlock = some k → cs b k = 0
theorem RowW.below {T : Type} {E : Enc T} {ty : TypeId} {m : Nat} {cs : Nat → Nat → Int} {base : Nat} {v : Value} {L : List T} {w w' : World} (h : RowW E ty m cs base v L w) (hb : Below w.heap.size w w') : RowW E ty m cs base v L w' := ⟨h.row.below hb, h.free⟩
theorem RowW.join {T : Type} {E : Enc T} {ty : TypeId} {m : Nat} {cs : Nat → Nat → Int} {base : Nat} {v : Value} {L : List T} {w w' : World} (h : RowW E ty m cs base v L w) {b : Nat} (hb : b < m) {c' : Nat → Int} (hG : Grew (cs b) c' w) (hF : Fr (InC (cs b)) w w') : RowW E ty m (putT cs b c') base v L w' := by
  refine ⟨h.row.fr (X := InC (cs b)) (fun k h1 h2 => hF.block k h1 h2) (fun k hk hn => hn (h.free b hb k hk)), fun a ha k hk => ?_⟩
  by_cases e : a = b
  · subst e
    rw [putT_self]
    refine Classical.byContradiction fun hn => hG.old k (h.row.lt k hk).2 hn (h.free a ha k hk)
  · rw [putT_other e]
    exact h.free a ha k hk
/-- a new row -/
theorem RepsW.row {T : Type} {E : Enc T} {ty : TypeId} {m : Nat} {ids : Nat → Int} {cs : Nat → Nat → Int} {RBs : Nat → Nat} {Ks : Nat → List OpT} {w0 w w' : World} {v : Value} {L : List T} (h : RepsW m ids cs RBs Ks w0 w) (hr : Rw E ty w.heap.size v L w') : RowW E ty m cs w.heap.size v L w' :=
  ⟨hr, fun b hb k hk => Classical.byContradiction fun hn => by
    have := (h.rep b hb).lt k hn
    have := (hr.lt k hk).1
    omega⟩
/-- rows of replicas -/
def repE : Enc Nat := ⟨fun x => [ptrV x], 1, fun _ => rfl, fun x v hv => by simp at hv; subst hv; rfl⟩
theorem infoRep : (Tryz.prog.info? 23).map (fun i => (i.zero, i.size, i.bytes)) = some (some (.pointer none), 1, 8) := by kernel_rfl
end Go.Proofs.YtjekalilfhnpmaaGreatDoor
namespace Go.Proofs.YtjekalilfhnpmaaGreatDoor
open Go Go.RowKit Go.Maps Go.Shelf LineOrd Tree
set_option linter.unusedVariables false
set_option linter.unusedSimpArgs false
set_option maxHeartbeats 2000000
set_option maxRecDepth 100000
abbrev o6 : OpT := ⟨1, 2, 1, 109, 6, 0, ⟨#[97]⟩, ⟨#[]⟩⟩
theorem next6 : nextP 2 [] true ⟨0, 0, 0, 109, 0, 0, ⟨#[97]⟩, ⟨#[]⟩⟩ = (o6, 0) := by rfl
theorem made6 : MadeOk 2 [] o6 := next_made next6 DOk.nil (by omega) (by omega) (by simp) (by simp) i64_0 i64_0 (show (1 : Nat) ≤ 100000 by omega) nil_le fun _ =>
  ⟨fun _ => ⟨.inl rfl, .inl rfl⟩, fun h => (by cases h), fun h => (by cases h), fun h => (by cases h)⟩
theorem ins_p00 {x o : Int} (h : Ins p00 x o) : False := by
  induction h with
  | here h => cases h
  | up h _ _ => cases h
theorem state6 : StateOf [o6] ⟨#[54, 32, 105, 110, 32, 48, 32, 97]⟩ := by
  refine ⟨[⟨6, 0, ⟨#[97]⟩⟩], [6], fun _ => [], [], fun _ => none, ⟨by simp, fun y => ?_⟩, by simp, fun x => ?_, fun x hx => ?_, fun k hk => ⟨fun _ c h => ?_, fun c h => (by cases h)⟩, List.Pairwise.nil, fun k => ⟨fun h => by simp at h, fun ⟨_, c, h, _⟩ => (by cases h)⟩, ?_⟩
  · have e : runO p00 (logOf [o6]) = Tree.move p00 (mvO o6) := by
      have : logOf [o6] = [o6] := rfl
      rw [this]
      rfl
    rw [e]
    have hg : Tree.move p00 (mvO o6) = Tree.put p00 6 (some (0, ⟨#[97]⟩)) := by
      unfold Tree.move
      rw [if_pos]
      · rfl
      · unfold Tree.goes
        have hh : (mvO o6).node ≠ (mvO o6).into ∧ ¬ Tree.Ins p00 (mvO o6).into (mvO o6).node := ⟨by decide, fun h => ins_p00 h⟩
        exact @decide_eq_true _ (_) hh
    rw [hg]
    unfold Tree.put
    constructor
    · intro hy
      rw [List.mem_singleton.1 hy]
      rfl
    · intro hy
      split at hy
      · rename_i e
        cases y with | mk nd into nm =>
        simp only at e hy
        cases hy
        subst e
        simp
      · cases hy
  · constructor
    · intro h
      rw [List.mem_singleton.1 h]
      exact ⟨o6, by simp, rfl, rfl, rfl⟩
    · rintro ⟨o, ho, _, rfl, _⟩
      rw [List.mem_singleton.1 ho]
      simp
  · refine ⟨[], LineOf.nil x fun z ⟨o, ho, hk, _⟩ => ?_, rfl⟩
    rw [List.mem_singleton.1 ho] at hk
    cases hk
  · obtain ⟨o, ho, _, hk, _⟩ := h
    rw [List.mem_singleton.1 ho] at hk
    cases hk
  · decide +kernel
theorem begun_any {F0 : Nat → Bool} (ea : Nat → Addr) (w : World) (hG : Gd F0 ea w) (f2 : F0 2 = true) (f3 : F0 3 = true) (f4 : F0 4 = true) (f5 : F0 5 = true) (f6 : F0 6 = true) (f7 : F0 7 = true) (f8 : F0 8 = true) (f9 : F0 9 = true) (f21 : F0 21 = true) :
    Calls Tryz.prog 9 #[] w fun e w' => e = .returned (.bool true) ∧ Below w.heap.size w w' := by
  have HG := Lib.hid hG
  have HN := Lib.hid (newB_any ea 2 w hG f2 (by constructor <;> omega))
  clear hG
  go_enter Tryz.func9, Tryz.ntmps9
  go_wp2_with fail
  refine HN.out.mono ?_
  rintro e w1 hN
  obtain ⟨col, RB, rfl, hR, hb1, hge⟩ : ∃ col RB, e = .returned (.tuple #[ptrV RB, .nilIface]) ∧ RepD col RB 2 [] w1 ∧ Below w.heap.size w w1 ∧ ∀ k, col k ≠ 0 → w.heap.size ≤ k := by
    rcases hN with ⟨_, h⟩ | ⟨h, _⟩
    · exact h
    · exact absurd ⟨by omega, by omega⟩ h
  have HR1 := Lib.hid hR
  have HB1 := Lib.hid hb1
  have HGe := Lib.hid hge
  have HMk := Lib.hid (make_any ea col RB 2 [] 0 ⟨#[97]⟩ w1 hR (HG.out.below hb1) f2 f3 f4 f5 f6 f8 DOk.nil (by simp) (by omega) (by omega) i64_0 (show (1 : Nat) ≤ 100000 by omega) true ⟨fun _ => .inl rfl, fun _ => rfl⟩)
  rw [next6] at HMk
  clear hR hb1 hge HN
  unfold ptrV at *
  go_wp2_with fail
  refine HMk.out.mono ?_
  rintro e w2 ⟨rfl, hb2⟩
  have HR2 := Lib.hid (HR1.out.below hb2)
  have HB2 := Lib.hid (HB1.out.trans (hb2.mono HB1.out.size))
  have he : errW ea (o6, 0).2 = .nilIface := rfl
  rw [he]
  clear hb2 HMk HR1 HB1 he
  go_upto_region 5 with (fail)
  obtain ⟨W, hW⟩ : ∃ W, W = w2.alloc (.cells #[.int .i64 1, .int .i64 2, .int .i64 1, .int .u8 109, .int .i64 6, .int .i64 0, .string ⟨#[97]⟩, .string ⟨#[]⟩] 31) := ⟨_, rfl⟩
  have hbW : Below w2.heap.size w2 W := by rw [hW]; exact (Below.refl _ _).alloc (Nat.le_refl _) _
  have hOW : OpAt W w2.heap.size o6 := by rw [hW]; exact OpAt.start w2 o6 _
  rw [show _ = W from hW.symm]
  have HOW := Lib.hid hOW
  have HRW := Lib.hid (HR2.out.below hbW)
  have HBW := Lib.hid (HB2.out.trans (hbW.mono HB2.out.size))
  have HOp := Lib.hid (repOps_any col RB 2 [] W (HR2.out.below hbW) (by simp))
  clear hW hbW hOW HR2 HB2
  unfold ptrV at HOp
  go_wp2_with fail
  refine HOp.out.mono ?_
  rintro e w3 ⟨v3, rfl, hr3, hb3⟩
  obtain ⟨A3, n3, c3, rfl⟩ := hr3.slice
  obtain rfl : n3 = 0 := hr3.sl.len
  have HR3 := Lib.hid (HRW.out.below hb3)
  have HB3 := Lib.hid (HBW.out.trans (hb3.mono HBW.out.size))
  have hO3 := HOW.out.below hb3
  clear hr3 hb3 HOp HRW HBW HOW
  obtain ⟨j0, j1, j2, j3, j4, j5, j6, j7⟩ := hO3
  simp only at j0 j1 j2 j3 j4 j5 j6 j7
  have HJn := Lib.hid (fun W' (hb : Below w3.heap.size w3 W') A (hs : SlV opE W' (.slice A 1 1) [o6]) => join_any ea w col RB 2 [] [o6] A 1 1 W' (HR3.out.below hb) HG.out (HB3.out.trans (hb.mono HB3.out.size)) HGe.out f2 f3 f4 f5 f6 f7 f8 f9 DOk.nil List.Pairwise.nil (by simp) hs (by simp) (fun o ho => by rw [List.mem_singleton.1 ho]; exact made6.ok.wf o6 (by simp)))
  obtain ⟨jn1, jn2⟩ := join_one DOk.nil made6.ok (List.pairwise_singleton _ _) (by simp)
  rw [jn1] at HJn
  have HJe := Lib.hid jn2
  unfold ptrV at HJn
  clear jn1 jn2
  go_wp2_with fail
  refine (HJn.out _ ((Below.refl _ _).alloc (Nat.le_refl _) _) _ (SlV.one w3 o6 _ _ rfl)).mono ?_
  rintro e w5 ⟨rfl, col', hR5, hgr, hF⟩
  have hB4 : Below w.heap.size w (w3.alloc (.cells o6.cells 31)) := HB3.out.alloc HB3.out.size _
  have HB5 := Lib.hid (hB4.trans (hF.below hB4.size (fun k hk => HGe.out k hk)))
  rw [HJe.out] at hR5
  have hR5' : RepD col' RB 2 [o6] w5 := hR5
  have hdk : DOk [o6] := made6.ok
  have HSt := Lib.hid (state_any ea col' RB 2 [o6] w5 hR5' (HG.out.below HB5.out) f21 hdk (by simp))
  obtain ⟨y, s, hRL, hO⟩ := hR5'
  have HRL := Lib.hid hRL
  have ht : s.t = 1 := by rw [hO.t]; rfl
  have HT := Lib.hid ht
  have HD := Lib.hid hdk
  clear hR5 hgr hF hB4 hRL hO hdk ht HJn HJe HR3 j0 j1 j2 j3 j4 j5 j6 j7 HGe
  unfold ptrV at HSt
  go_wp2_with fail
  refine HSt.out.mono ?_
  rintro e w6 ⟨str, rfl, hso, hb6⟩
  obtain rfl := StateOf.unique HD.out hso state6
  have hR6 := HRL.out.below hb6
  have HBy := Lib.hid (repBy_any hR6)
  have c0 := hR6.a.c0
  have k0 := hR6.b'.k0
  rw [HT.out] at k0
  have HTm := Lib.hid (clockTime_any y.CB 1 w6 k0)
  have HB6 := Lib.hid (HB5.out.trans (hb6.mono HB5.out.size))
  unfold ptrV at HBy c0
  clear hb6 hR6 hso k0
  go_wp2_with fail
  refine HBy.out.mono ?_
  rintro e w7 ⟨rfl, rfl⟩
  go_wp2_with fail
  refine HTm.out.mono ?_
  rintro e w8 ⟨rfl, rfl⟩
  go_wp2_with fail
  go_ret
  exact ⟨rfl, HB6.out⟩
end Go.Proofs.YtjekalilfhnpmaaGreatDoor
namespace Go.Proofs.YtjekalilfhnpmaaGreatDoor
open Go Go.RowKit Go.Maps Go.Shelf LineOrd Tree
set_option linter.unusedVariables false
set_option linter.unusedSimpArgs false
set_option maxHeartbeats 2000000
set_option maxRecDepth 100000
theorem RowW.ptr {cs : Nat → Nat → Int} {base g c : Nat} {RBs : Nat → Nat} {w : World} (h : RowW repE 23 4 cs base (.slice (some ⟨g, 0, none⟩) 4 c) ((List.range 4).map RBs) w) {a : Nat} (ha : a < 4) : w.cell? ⟨g, a, none⟩ = some (.pointer (some ⟨RBs a, 0, none⟩)) := by
  have := h.row.at' rfl (i := a) (x := RBs a) (by rcases (show a = 0 ∨ a = 1 ∨ a = 2 ∨ a = 3 by omega) with rfl | rfl | rfl | rfl <;> rfl) (j := 0) (u := ptrV (RBs a)) rfl
  simpa [repE, ptrV] using this
/-- a replica's vector, by what it holds -/
theorem vecD_any (col : Nat → Int) (RB : Nat) (b : Int) (K : List OpT) (w : World) (h : RepD col RB b K w) : Calls Tryz.prog 19 #[ptrV RB] w fun e w' => e = .returned (vecV (cntB K)) ∧ Below w.heap.size w w' := by
  obtain ⟨y, s, hR, hO⟩ := h
  have hv : s.v = cntB K := funext hO.v
  have := repVector_any hR
  rwa [hv] at this
/-- four replicas in memory, a row of pointers to them, and all that was made -/
structure MeetW (g cg : Nat) (cs : Nat → Nat → Int) (RBs : Nat → Nat) (H : List OpT) (Ks : Nat → List OpT) (w0 w : World) : Prop where
  reps : RepsW 4 (fun b => (b : Int)) cs RBs Ks w0 w
  row : RowW repE 23 4 cs w0.heap.size (.slice (some ⟨g, 0, none⟩) 4 cg) ((List.range 4).map RBs) w
  four : FourR H Ks
  len : H.length ≤ 60
theorem MeetW.below {g cg : Nat} {cs : Nat → Nat → Int} {RBs : Nat → Nat} {H : List OpT} {Ks : Nat → List OpT} {w0 w w' : World} (h : MeetW g cg cs RBs H Ks w0 w) (hb : Below w.heap.size w w') : MeetW g cg cs RBs H Ks w0 w' :=
  ⟨h.reps.below hb, h.row.below hb, h.four, h.len⟩
/-- what a joins from b -/
def Got (a b : Nat) (Ks Ks' : Nat → List OpT) : Prop := (∀ o, o ∈ Ks' a ↔ o ∈ Ks a ∨ o ∈ Ks b) ∧ ∀ d, d ≠ a → Ks' d = Ks d
theorem MeetW.ops {g cg : Nat} {cs : Nat → Nat → Int} {RBs : Nat → Nat} {H : List OpT} {Ks : Nat → List OpT} {w0 w : World} (h : MeetW g cg cs RBs H Ks w0 w) {b : Nat} (hb : b < 4) :
    Calls Tryz.prog 14 #[.pointer (some ⟨RBs b, 0, none⟩)] w fun e w' => ∃ v', e = .returned v' ∧ Rw opE 31 w.heap.size v' (Ks b) w' ∧ Below w.heap.size w w' :=
  repOps_any _ _ _ _ w (h.reps.rep b hb) (by have := h.four.len hb; have := h.len; omega)
theorem MeetW.join {g cg : Nat} {cs : Nat → Nat → Int} {RBs : Nat → Nat} {H : List OpT} {Ks : Nat → List OpT} {w0 w : World} {F0 : Nat → Bool} {ea : Nat → Addr} (h : MeetW g cg cs RBs H Ks w0 w) (hG : Gd F0 ea w0) (f2 : F0 2 = true) (f3 : F0 3 = true) (f4 : F0 4 = true) (f5 : F0 5 = true) (f6 : F0 6 = true) (f7 : F0 7 = true) (f8 : F0 8 = true) (f9 : F0 9 = true)
    {a b : Nat} (ha : a < 4) (hb : b < 4) {A : Option Addr} {n c : Nat} (hs : SlV opE w (.slice A n c) (Ks b)) :
    Calls Tryz.prog 12 #[.pointer (some ⟨RBs a, 0, none⟩), .slice A n c] w fun e w' => (∃ k : Nat, e = .returned (.tuple #[.int .i64 k, .nilIface])) ∧ ∃ cs' Ks', MeetW g cg cs' RBs H Ks' w0 w' ∧ Got a b Ks Ks' := by
  have l1 := h.four.len ha
  have l2 := h.four.len hb
  have l3 := h.len
  obtain ⟨G, g1, g2, g3⟩ := h.four.join hb ha (l := Ks b) (fun o => Iff.rfl) (by omega)
  have HJ := join_any ea w0 (cs a) (RBs a) a (Ks a) (Ks b) A n c w (h.reps.rep a ha) hG h.reps.bel (fun k hk => h.reps.ge a k ha hk) f2 f3 f4 f5 f6 f7 f8 f9 (h.four.ok a ha) (h.four.rise a ha) (by omega) hs (by omega) (fun o ho => (h.four.ok b hb).wf o ho)
  rw [g1] at HJ
  refine HJ.mono ?_
  rintro e w' ⟨rfl, hRT⟩
  obtain ⟨c', hW, hgr, hfr⟩ := h.reps.join ha hRT
  exact ⟨⟨_, rfl⟩, _, _, ⟨hW, h.row.join ha hgr hfr, g2, l3⟩, fun o => by rw [putT_self]; exact g3 o, fun d hd => putT_other hd⟩
/-- who knows what of whom at first -/
def KnowM (M : Nat → Nat → Bool) (K0 Ks : Nat → List OpT) : Prop := ∀ x y, x < 4 → y < 4 → M x y = true → ∀ o ∈ K0 y, o ∈ Ks x
def jnM (a b : Nat) (M : Nat → Nat → Bool) : Nat → Nat → Bool := fun x y => if x = a then M a y || M b y else M x y
theorem KnowM.got {M : Nat → Nat → Bool} {K0 Ks Ks' : Nat → List OpT} {a b : Nat} (h : KnowM M K0 Ks) (ha : a < 4) (hb : b < 4) (hg : Got a b Ks Ks') : KnowM (jnM a b M) K0 Ks' := by
  intro x y hx hy hM o ho
  unfold jnM at hM
  split at hM
  · rename_i e
    subst e
    rw [hg.1]
    rcases Bool.or_eq_true_iff.1 hM with h1 | h1
    · exact .inl (h x y hx hy h1 o ho)
    · exact .inr (h b y hb hy h1 o ho)
  · rename_i e
    rw [hg.2 x e]
    exact h x y hx hy hM o ho
/-- behind s steps of gossip -/
def mat : Nat → Nat → Nat → Bool
  | 0 => fun x y => x == y
  | s + 1 => jnM ((s % 4 + 1) % 4) (s % 4) (jnM (s % 4) ((s % 4 + 1) % 4) (mat s))
theorem mat8 : ∀ x, x < 4 → ∀ y, y < 4 → mat 8 x y = true := by decide +kernel
theorem KnowM.start (K0 : Nat → List OpT) : KnowM (mat 0) K0 K0 := fun x y _ _ h o ho => by
  have : x = y := by simpa [mat] using h
  exact this ▸ ho
theorem FourR.allSame {H : List OpT} {K0 Ks : Nat → List OpT} (h0 : FourR H K0) (h : FourR H Ks) (hM : KnowM (mat 8) K0 Ks) {a b : Nat} (ha : a < 4) (hb : b < 4) : Ks a = Ks b := by
  have hall : ∀ c, c < 4 → ∀ o ∈ H, o ∈ Ks c := fun c hc o ho => by
    obtain ⟨d, hd, _, h1⟩ := h0.own o ho
    exact hM c d hc hd (mat8 c hc d hd) o h1
  exact h.same ha hb (hall a ha) (hall b hb)
end Go.Proofs.YtjekalilfhnpmaaGreatDoor
namespace Go.Proofs.YtjekalilfhnpmaaGreatDoor
open Go Go.RowKit Go.Maps Go.Shelf LineOrd Tree
set_option linter.unusedVariables false
set_option linter.unusedSimpArgs false
set_option maxHeartbeats 2000000
set_option maxRecDepth 100000
/-- a turn -/
structure TurnT where
  b : Int
  f : Int
  o : OpT
def TurnT.cells (x : TurnT) : Array Value := #[.int .i64 x.b, .int .i64 x.f, .int .i64 x.o.t, .int .i64 x.o.b, .int .i64 x.o.n, .int .u8 x.o.k, .int .i64 x.o.nd, .int .i64 x.o.ot, .string x.o.nm, .string x.o.vl]
def turnE : Enc TurnT := ⟨fun x => x.cells.toList, 10, fun _ => rfl, fun x v hv => by
  simp [TurnT.cells] at hv
  rcases hv with rfl | rfl | rfl | rfl | rfl | rfl | rfl | rfl | rfl | rfl <;> rfl⟩
structure TurnT.Wf (x : TurnT) : Prop where
  b1 : I64 x.b
  f1 : I64 x.f
  o1 : x.o.Wf
theorem turns_at {w : World} {A : Option Addr} {n c : Nat} {L : List TurnT} (h : SlV turnE w (.slice A n c) L) {i : Nat} {x : TurnT} (hx : L[i]? = some x) :
    ∃ b off, A = some ⟨b, off, none⟩ ∧ ∀ q u, (turnE.cells x)[q]? = some u → w.cell? ⟨b, off + i * 10 + q, none⟩ = some u := by
  obtain ⟨b, off, e, hb, hc⟩ := h.at' (by decide) hx
  exact ⟨b, off, e, fun q u hu => by rw [Nat.add_assoc]; exact hc q u hu⟩
def shortTurn (x : TurnT) : Prop := x.o.nm.size ≤ 60 ∧ x.o.vl.size ≤ 60
/-- how longTurns ends -/
def LongEnds (n : Nat) (L : List TurnT) (w : World) (e : Ending) (w' : World) : Prop := ∃ b, e = .returned (.bool b) ∧ w' = w ∧ (b = false → n ≤ 60 ∧ ∀ x ∈ L, shortTurn x)
theorem longTurns_any (A : Option Addr) (n c : Nat) (L : List TurnT) (w : World) (hs : SlV turnE w (.slice A n c) L) (hc : n ≤ maxLen) :
    Calls Tryz.prog 16 #[.slice A n c] w (LongEnds n L w) := by
  have HN := Lib.hid hs.len
  have HS := Lib.hid hs
  have hmx : n ≤ 9223372036854775807 := by unfold maxLen at hc; omega
  clear hs hc
  by_cases hlong : 60 < n
  · have i0 : (60 : Int) < (n : Int) := by omega
    go_enter Tryz.func16, Tryz.ntmps16
    go_wp2_with fail
    go_ret
    exact ⟨true, rfl, rfl, fun h => (by cases h)⟩
  · have i0 : ¬ (60 : Int) < (n : Int) := by omega
    go_enter Tryz.func16, Tryz.ntmps16
    go_wp2_with fail
    go_loopw [3] (fun v3 wr => ∃ j : Nat, j ≤ n ∧ v3 = .int .i64 j ∧ wr = w ∧ Hid (∀ i x, i < j → L[i]? = some x → shortTurn x)) (fun v3 _ => n - (RowKit.intOf v3).toNat)
    case atStart => exact ⟨0, by omega, rfl, rfl, Lib.hid (fun i x h => by omega)⟩
    case round =>
      obtain ⟨j, hj, rfl, rfl, HA⟩ := hrel
      by_cases hlt : j < n
      · obtain ⟨x, hx⟩ : ∃ x, L[j]? = some x := ⟨_, List.getElem?_eq_getElem (by have := HN.out; omega)⟩
        obtain ⟨b, off, rfl, hc⟩ := turns_at HS.out hx
        have c8 : wr.cell? ⟨b, off + j * 10 + 8, none⟩ = some (.string x.o.nm) := hc 8 _ rfl
        have c9 : wr.cell? ⟨b, off + j * 10 + 9, none⟩ = some (.string x.o.vl) := hc 9 _ rfl
        have HX := Lib.hid hx
        clear hx hc
        have i1 : (0 : Int) ≤ (j : Int) := by omega
        have i2 : (j : Int) < (n : Int) := by omega
        by_cases h6 : 60 < x.o.nm.size
        · have k6 : (60 : Int) < (x.o.nm.size : Int) := by omega
          go_wp2_with fail
          go_ret
          exact ⟨true, rfl, rfl, fun h => (by cases h)⟩
        · have k6 : ¬ (60 : Int) < (x.o.nm.size : Int) := by omega
          by_cases h7 : 60 < x.o.vl.size
          · have k7 : (60 : Int) < (x.o.vl.size : Int) := by omega
            go_wp2_with fail
            go_ret
            exact ⟨true, rfl, rfl, fun h => (by cases h)⟩
          · have k7 : ¬ (60 : Int) < (x.o.vl.size : Int) := by omega
            have HL : Hid (shortTurn x) := Lib.hid ⟨by omega, by omega⟩
            go_wp2_with fail
            go_roundw
            case rel => exact ⟨j + 1, by omega, by go_num, trivial, Lib.hid (fun i y h1 h2 => by
              by_cases he : i = j
              · subst he; rw [HX.out] at h2; cases h2; exact HL.out
              · exact HA.out i y (by omega) h2)⟩
            case measure => simp [RowKit.intOf]; omega
      · have i2 : ¬ (j : Int) < (n : Int) := by omega
        go_wp2_with fail
        go_ret
        refine ⟨false, rfl, rfl, fun _ => ⟨by omega, fun x hx => ?_⟩⟩
        obtain ⟨i, hi, rfl⟩ := List.getElem_of_mem hx
        exact HA.out i _ (by have := HN.out; omega) (List.getElem?_eq_getElem hi)
/-- how replicaOf ends -/
def OfEnds (i : Int) (R : (Nat × Int) ⊕ List OpT) (w : World) (e : Ending) (w' : World) : Prop :=
  match R with
  | .inl _ => e = .returned (.pointer none) ∧ Below w.heap.size w w'
  | .inr G => ∃ col RB, e = .returned (ptrV RB) ∧ RepD col RB i (sortOps G) w' ∧ Below w.heap.size w w'
theorem replicaOf_any {F0 : Nat → Bool} (ea : Nat → Addr) (i : Int) (l : List OpT) (A : Option Addr) (n c : Nat) (w : World) (hG : Gd F0 ea w) (f2 : F0 2 = true) (f3 : F0 3 = true) (f4 : F0 4 = true) (f5 : F0 5 = true) (f6 : F0 6 = true) (f7 : F0 7 = true) (f8 : F0 8 = true) (f9 : F0 9 = true)
    (i0 : 0 ≤ i) (i4 : i < 4) (hs : SlV opE w (.slice A n c) l) (hln : l.length ≤ 90000) (hw : ∀ o ∈ l, o.Wf) :
    Calls Tryz.prog 21 #[.int .i64 i, .slice A n c] w (OfEnds i (joinP [] l) w) := by
  have HG := Lib.hid hG
  have HS := Lib.hid hs
  have HL := Lib.hid hln
  have HW := Lib.hid hw
  have HNw := Lib.hid (newB_any ea i w hG f2 (by constructor <;> omega))
  obtain ⟨R, hR⟩ : ∃ R, joinP [] l = R := ⟨_, rfl⟩
  rw [hR]
  have HR := Lib.hid hR
  clear hG hs hln hw hR
  go_enter Tryz.func21, Tryz.ntmps21
  go_wp2_with fail
  refine HNw.out.mono ?_
  rintro e w1 hN
  obtain ⟨col, RB, rfl, hR1, hb1, hge⟩ : ∃ col RB, e = .returned (.tuple #[ptrV RB, .nilIface]) ∧ RepD col RB i [] w1 ∧ Below w.heap.size w w1 ∧ ∀ k, col k ≠ 0 → w.heap.size ≤ k := by
    rcases hN with ⟨_, h⟩ | ⟨h, _⟩
    · exact h
    · exact absurd ⟨by omega, by omega⟩ h
  have HR1 := Lib.hid hR1
  have HB1 := Lib.hid hb1
  have HGe := Lib.hid hge
  have HO := Lib.hid (ownOps_any A n c l w1 (HS.out.below hb1) (by have := HL.out; omega))
  clear hR1 hb1 hge hN HNw
  unfold ptrV
  go_wp2_with fail
  refine HO.out.mono ?_
  rintro e w2 ⟨v2, rfl, hr2, hb2⟩
  obtain ⟨A2, n2, c2, rfl⟩ := hr2.slice
  have hB2 := HB1.out.trans (hb2.mono HB1.out.size)
  have HB2 := Lib.hid hB2
  have HJ := Lib.hid (join_any ea w col RB i [] l A2 n2 c2 w2 (HR1.out.below hb2) HG.out hB2 (fun k hk => HGe.out k hk) f2 f3 f4 f5 f6 f7 f8 f9 DOk.nil List.Pairwise.nil (by simp) hr2.sl HL.out HW.out)
  rw [HR.out] at HJ
  unfold ptrV at HJ
  clear hr2 hb2 hB2 HO
  cases R with
  | inl p =>
    go_wp2_with fail
    refine HJ.out.mono ?_
    rintro e w3 ⟨ev, rfl, hev, hp0, hb3⟩
    obtain ⟨t, u, rfl⟩ := errVal_ne hev hp0
    have HB3 := Lib.hid (HB2.out.trans (hb3.mono HB2.out.size))
    clear hev hb3 HJ
    go_wp2_with fail
    go_ret
    exact ⟨rfl, HB3.out⟩
  | inr G =>
    go_wp2_with fail
    refine HJ.out.mono ?_
    rintro e w3 ⟨rfl, col', hR3, hgr, hF⟩
    have HR3 := Lib.hid hR3
    have HB3 := Lib.hid (HB2.out.trans (hF.below HB2.out.size (fun k hk => HGe.out k hk)))
    clear hR3 hgr hF HJ
    go_wp2_with fail
    go_ret
    exact ⟨col', RB, rfl, HR3.out, HB3.out⟩
end Go.Proofs.YtjekalilfhnpmaaGreatDoor
namespace Go.Proofs.YtjekalilfhnpmaaGreatDoor
open Go Go.RowKit Go.Joins Go.ChangeShapes Go.WideShapes Go.Deep
set_option linter.unusedVariables false
set_option linter.unusedSimpArgs false
set_option maxHeartbeats 1000000
set_option maxRecDepth 100000
theorem open_turns {H : Type} {enc : TypeId × Value → H} {W : World} {r : Reach} {b0 base : Nat} {v : Value} {d : DataW H} {p : List MemPlace}
    (o : Value.okWide Tryz.prog W r b0 41 v) (h : DataW.Trod enc Tryz.prog W base (fun _ => true) true 41 v d p) :
    ∃ A n c L, v = .slice A n c ∧ L.length = n ∧ SlV turnE W (.slice A n c) L ∧ c ≤ maxLen ∧ ∀ x ∈ L, (x.o.nm.size ≤ 100000 → x.o.vl.size ≤ 100000 → x.Wf) :=
  open_rowsP turnE _ Tryz.underlying41 (by kernel_rfl) (fun fuel cs y hl ht => by
    match cs, hl with
    | [c0, c1, c2, c3, c4, c5, c6, c7, c8, c9], _ =>
      have k3 : Tryz.prog.cellsOf 3 = 1 := by kernel_rfl
      have k8 : Tryz.prog.cellsOf 31 = 8 := by kernel_rfl
      obtain ⟨xs, n, _, hx, _, hlen, hg⟩ := DataW.trod_struct Tryz.underlying121 ht
      have g0 : DataW.trod enc Tryz.prog W base (fun _ => true) true n 3 (([c0, c1, c2, c3, c4, c5, c6, c7, c8, c9].drop 0).take (Tryz.prog.cellsOf 3)) = xs[0]? := hg 0 _ rfl
      have g1 : DataW.trod enc Tryz.prog W base (fun _ => true) true n 3 (([c0, c1, c2, c3, c4, c5, c6, c7, c8, c9].drop 1).take (Tryz.prog.cellsOf 3)) = xs[1]? := hg 1 _ rfl
      have g2 : DataW.trod enc Tryz.prog W base (fun _ => true) true n 31 (([c0, c1, c2, c3, c4, c5, c6, c7, c8, c9].drop 2).take (Tryz.prog.cellsOf 31)) = xs[2]? := hg 2 _ rfl
      rw [k3] at g0 g1
      rw [k8] at g2
      match xs, hlen with
      | [y0, y1, y2], _ =>
        obtain ⟨z0, q0, _, w0⟩ := DataW.trod_int Tryz.underlying3 g0
        obtain ⟨z1, q1, _, w1⟩ := DataW.trod_int Tryz.underlying3 g1
        obtain ⟨x2, q2, w2⟩ := open_op_cells (c0 := c2) (c1 := c3) (c2 := c4) (c3 := c5) (c4 := c6) (c5 := c7) (c6 := c8) (c7 := c9) g2
        simp at q0 q1
        simp only [OpT.cells, List.cons.injEq, and_true] at q2
        obtain ⟨rfl, rfl, rfl, rfl, rfl, rfl, rfl, rfl⟩ := q2
        subst q0 q1
        exact ⟨⟨z0, z1, x2⟩, rfl, fun h1 h2 => ⟨wf_i64 w0, wf_i64 w1, w2 h1 h2⟩⟩) o h
end Go.Proofs.YtjekalilfhnpmaaGreatDoor
namespace Go.Proofs.YtjekalilfhnpmaaGreatDoor
open Go Go.RowKit Go.Maps Go.Shelf LineOrd Tree
set_option linter.unusedVariables false
set_option linter.unusedSimpArgs false
set_option maxHeartbeats 2000000
set_option maxRecDepth 100000
theorem DOk.take {K : List OpT} (hK : DOk K) (hup : Rising K) (i : Nat) : DOk (K.take i) := by
  have := DOk.cut (L := []) (G := K) DOk.nil (by simpa using hK) hup i
  simpa using this
/-- one who has some of them joins the others, or all, or some again -/
theorem join_more {L K l : List OpT} (hL : DOk L) (hLr : Rising L) (hK : DOk K) (hKr : Rising K) (hm : ∀ o, o ∈ K ↔ o ∈ L ∨ o ∈ l) (hlen : K.length ≤ 400) :
    ∃ G, joinP L l = .inr G ∧ sortOps (L ++ G) = K ∧ L.length + G.length = K.length := by
  obtain ⟨G, h1, h2⟩ := join_all (l := l) hL K hK hm hlen
  obtain ⟨h3, _⟩ := join_ok hL hLr (fun o ho => hK.wf o ((hm o).2 (.inr ho))) h1
  have h4 := sort_eq h3 hK h2
  rw [sort_self hKr] at h4
  refine ⟨G, h1, h4, ?_⟩
  have := (sortOps_perm (L ++ G)).length_eq
  rw [h4, List.length_append] at this
  omega
theorem fresh_all {D : List OpT} (hD : DOk D) : ∀ (l F : List OpT) (i : Nat), (∀ o ∈ F ++ l, o ∈ D) → (F ++ l).Nodup → freshG [] F i l = .inr (F ++ l)
  | [], F, i, _, _ => by unfold freshG; simp
  | o :: l, F, i, h1, h2 => by
    have ho : o ∈ D := h1 o (by simp)
    unfold freshG
    rw [if_neg (by rw [hD.er o ho]; simp)]
    have hn : findOwn ([] ++ F) o.b o.n = none := by
      cases hf : findOwn ([] ++ F) o.b o.n with
      | none => rfl
      | some p =>
        obtain ⟨hp, hb, hn⟩ := findOwn_some hf
        have hpF : p ∈ F := by simpa using hp
        have e := hD.num p (h1 p (by simp [hpF])) o ho hb hn
        subst e
        exact absurd rfl ((List.pairwise_append.1 h2).2.2 p hpF p (by simp))
    rw [hn]
    simp only
    have := fresh_all hD l (F ++ [o]) (i + 1) (by simpa using h1) (by simpa using h2)
    rw [this]
    simp
/-- what comes late is in the later part -/
theorem late_in {K : List OpT} (hup : Rising K) {i : Nat} {o p : OpT} (ho : o ∈ K) (hp : p ∈ K.drop i) (h : opLt p o = true) : o ∈ K.drop i := by
  rw [← List.take_append_drop i K] at ho hup
  rcases List.mem_append.1 ho with h1 | h1
  · have := (List.pairwise_append.1 hup).2.2 o h1 p hp
    exact absurd ⟨rfl, rfl⟩ (opLt_irr (opLt_tr h this))
  · exact h1
/-- a part that is missing is told -/
theorem gap_told {K : List OpT} (hK : DOk K) (hup : Rising K) (i : Nat) {p q : OpT} (hp : p ∈ K.drop i) (hq : q ∈ K.take i) (hb : p.b = q.b) : joinP [] (K.drop i) = .inl (9, -1) := by
  have hsub : ∀ o ∈ K.drop i, o ∈ K := fun o ho => List.mem_of_mem_drop ho
  have hfr : freshG [] [] 0 (K.drop i) = .inr (K.drop i) := by
    have := fresh_all hK (K.drop i) [] 0 (by simpa using hsub) (by simpa using hK.nod.sublist (List.drop_sublist i K))
    simpa using this
  have hpK := hsub p hp
  have hcnt : cntB K p.b = cntB (K.take i) p.b + cntB (K.drop i) p.b := by rw [← cntB_app, List.take_append_drop]
  have hc1 : 1 ≤ cntB (K.take i) p.b := by
    unfold cntB
    exact List.countP_pos_iff.2 ⟨q, hq, by simp [hb]⟩
  obtain ⟨n1, n2⟩ := (nums_are hK p.b p.n).1 ⟨p, hpK, rfl, rfl⟩
  obtain ⟨o, hoK, hob, hon⟩ := (nums_are hK p.b (cntB K p.b)).2 ⟨by omega, Int.le_refl _⟩
  have hoD : o ∈ K.drop i := by
    by_cases e : p.n = o.n
    · rw [← hK.num p hpK o hoK hob.symm e]; exact hp
    · exact late_in hup hoK hp (own_lt hK.num hK.low (fun x hx => (hK.fine hx).n1) (o.n - p.n - 1).toNat p o hpK hoK hob.symm (by omega))
  have hgap : gapP [] (K.drop i) = true := by
    unfold gapP
    refine List.any_eq_true.2 ⟨o, hoD, decide_eq_true ?_⟩
    rw [hob, hon]
    have : cntB [] p.b = 0 := rfl
    omega
  unfold joinP
  rw [hfr]
  simp [hgap]
/-- what one who has nothing holds behind a join of the later part -/
theorem late_part {K : List OpT} (hK : DOk K) (hup : Rising K) (i : Nat) {G : List OpT} (h : joinP [] (K.drop i) = .inr G) : DOk (sortOps G) ∧ Rising (sortOps G) ∧ (∀ o ∈ sortOps G, o ∈ K) ∧ G.length ≤ K.length := by
  obtain ⟨h1, _, _, h4, _⟩ := join_ok DOk.nil List.Pairwise.nil (fun o ho => hK.wf o (List.mem_of_mem_drop ho)) h
  have h1' : DOk G := h1
  have hs : ∀ o ∈ G, o ∈ K := fun o ho => List.mem_of_mem_drop (h4 o ho)
  exact ⟨h1'.sorted, h1'.rising, fun o ho => hs o (sortOps_mem.1 ho), nodup_le h1'.nod hs⟩
/-- nothing's state is no text -/
theorem state0 : StateOf [] ⟨#[]⟩ := by
  refine ⟨[], [], fun _ => [], [], fun _ => none, ⟨by simp, fun y => ?_⟩, by simp, fun x => ?_, fun x hx => ?_, fun k hk => ⟨fun _ c h => ?_, fun c h => (by cases h)⟩, List.Pairwise.nil, fun k => ⟨fun h => by simp at h, fun ⟨_, c, h, _⟩ => (by cases h)⟩, ?_⟩
  · constructor
    · intro hy; simp at hy
    · intro hy
      have : runO p00 (logOf []) = p00 := rfl
      rw [this] at hy
      cases hy
  · constructor
    · intro h; simp at h
    · rintro ⟨o, ho, _⟩; simp at ho
  · obtain ⟨o, ho, _⟩ := hx
    cases ho
  · obtain ⟨o, ho, _⟩ := h
    cases ho
  · decide +kernel
end Go.Proofs.YtjekalilfhnpmaaGreatDoor
namespace Go.Proofs.YtjekalilfhnpmaaGreatDoor
open Go Go.RowKit Go.Maps Go.Shelf LineOrd Tree
set_option linter.unusedVariables false
set_option linter.unusedSimpArgs false
set_option maxHeartbeats 2000000
set_option maxRecDepth 100000
def letOf (x : OpT) : Lt := ⟨x.id, x.vl.data.toList.headD 0, false⟩
def lets (M : List OpT) : List Lt := M.map letOf
theorem lets_app (M N : List OpT) : lets (M ++ N) = lets M ++ lets N := List.map_append
/-- a letter that is put behind another one, and is greater than the next one -/
theorem insL_at {id ot : Int} {c : UInt8} {P Q : List Lt} (hP : (P = [] ∧ ot = 0) ∨ ∃ P' y, P = P' ++ [y] ∧ y.id = ot ∧ 0 < ot ∧ ∀ z ∈ P', z.id ≠ ot) (hQ : ∀ y, Q[0]? = some y → y.id < id) : insL id ot c (P ++ Q) = P ++ ⟨id, c, false⟩ :: Q := by
  have hf : insFrom ot (P ++ Q) = P.length := by
    rcases hP with ⟨rfl, rfl⟩ | ⟨P', y, rfl, hy, h0, hne⟩
    · unfold insFrom; simp
    · unfold insFrom
      rw [if_pos h0]
      have : ixOf ot (P' ++ [y] ++ Q) = P'.length := ixOf_some (x := y) (j := P'.length) (by simp) hy fun i z hi hz => by
        rw [List.append_assoc, List.getElem?_append_left hi] at hz
        exact hne z (List.mem_of_getElem? hz)
      rw [this, List.length_append]
      simp
  have ha : insAt (P ++ Q) P.length id = P.length := by
    unfold insAt
    rw [List.drop_left]
    cases Q with
    | nil => simp
    | cons q Q =>
      have := hQ q rfl
      rw [List.takeWhile_cons_of_neg (by simp; omega)]
      simp
  unfold insL
  rw [hf, ha, List.take_left, List.drop_left]
/-- the letters of a line are told apart -/
theorem LineOf.ids {D : List OpT} (hD : LinesOk D) {nd : Int} {L : List Lt} (h : LineOf D nd L) : (idsL L).Nodup := by
  obtain ⟨l, rfl, hg, hm⟩ := h.l
  have := goodNodup (parD_lt hD nd) hg
  unfold idsL
  rw [List.map_map]
  refine List.pairwise_map.2 (this.imp fun {a b} hab e => hab ?_)
  have e' : (a : Int) = (b : Int) := e
  omega
theorem ids_ne {P' Q : List Lt} {y : Lt} (h : (idsL (P' ++ [y] ++ Q)).Nodup) : ∀ z ∈ P', z.id ≠ y.id := fun z hz e => by
  unfold idsL at h
  rw [List.append_assoc, List.map_append] at h
  exact (List.pairwise_append.1 h).2.2 z.id (List.mem_map_of_mem hz) y.id (by simp) e
/-- one more letter, made behind all that is there -/
theorem LineOf.put {D : List OpT} {x : OpT} (hD : DOk D) (hx : DOk (D ++ [x])) {nd : Int} {P Q : List Lt} (hL : LineOf D nd (P ++ Q)) (hk : x.k = 105) (hn : x.nd = nd) (hnew : x ∉ D)
    (hP : (P = [] ∧ x.ot = 0) ∨ ∃ P' y, P = P' ++ [y] ∧ y.id = x.ot) (hQ : ∀ y, Q[0]? = some y → y.id < x.id) : LineOf (D ++ [x]) nd (P ++ letOf x :: Q) := by
  have h1 : OneMore x D (D ++ [x]) := ⟨hD.lines, hx.lines, fun p => by rw [List.mem_append, List.mem_singleton]; exact or_comm, hnew⟩
  obtain ⟨_, h2⟩ := hL.ins h1 hk hn
  have h3 := hL.ids hD.lines
  rw [insL_at (by
    rcases hP with h | ⟨P', y, rfl, hy⟩
    · exact .inl h
    · refine .inr ⟨P', y, rfl, hy, ?_, ?_⟩
      · obtain ⟨o, ho, _, _, hid⟩ := hL.has (x := y) (by simp)
        have := hD.lines.lo o ho
        omega
      · rw [← hy]; exact ids_ne h3) hQ] at h2
  exact h2
/-- a word so far -/
structure Typed (b : Int) (K0 : List OpT) (nd : Int) (A B : List Lt) (ws : List UInt8) (M : List OpT) : Prop where
  ok : DOk (K0 ++ M)
  rise : Rising (K0 ++ M)
  line : LineOf (K0 ++ M) nd (A ++ lets M ++ B)
  ch : M.map (fun x => x.vl.data.toList.headD 0) = ws
  k : ∀ x ∈ M, x.k = 105 ∧ x.nd = nd ∧ x.b = b
  t : ∀ (i : Nat) (x : OpT), M[i]? = some x → x.t = timeOf K0 + i + 1
  tm : timeOf (K0 ++ M) = timeOf K0 + M.length
  ot : ∀ (i : Nat) (x : OpT), M[i]? = some x → (A ++ lets (M.take i) = [] ∧ x.ot = 0) ∨ ∃ P' y, A ++ lets (M.take i) = P' ++ [y] ∧ y.id = x.ot
theorem Typed.start {b : Int} {K0 : List OpT} {nd : Int} {A B : List Lt} (h : DOk K0) (hr : Rising K0) (hl : LineOf K0 nd (A ++ B)) : Typed b K0 nd A B [] [] :=
  ⟨by simpa using h, by simpa using hr, by simpa [lets] using hl, rfl, by simp, by simp, by simp, by simp⟩
theorem old_id {D : List OpT} (hD : DOk D) {nd y : Int} (h : HasLet D nd y) : y ≤ timeOf D * 4 + 3 := by
  obtain ⟨p, hp, _, _, rfl⟩ := h
  have h1 := (timeOf_ge D).2.1 p hp
  have h2 := (hD.fine hp).b2
  unfold OpT.id
  omega
theorem seen_all {L : List Lt} (h : ∀ x ∈ L, x.gone = false) : seenL L = L := List.filter_eq_self.2 fun x hx => by simp [h x hx]
theorem lets_seen (M : List OpT) : ∀ x ∈ lets M, x.gone = false := fun x hx => by
  obtain ⟨y, _, rfl⟩ := List.mem_map.1 hx
  rfl
/-- the letter that one stands behind -/
theorem last_at {L : List Lt} {k : Nat} {P Q : List Lt} (hL : L = P ++ Q) (hk : P.length = k + 1) {x : Lt} (hx : L[k]? = some x) : ∃ P' y, P = P' ++ [y] ∧ y = x := by
  have hne : P ≠ [] := by intro e; rw [e] at hk; simp at hk
  refine ⟨P.dropLast, P.getLast hne, (List.dropLast_concat_getLast hne).symm, ?_⟩
  rw [hL, List.getElem?_append_left (by omega)] at hx
  have := List.getLast_eq_getElem hne
  rw [this]
  have h2 : P[P.length - 1]? = some x := by rw [hk]; exact hx
  exact Option.some.inj ((List.getElem?_eq_getElem (by omega)).symm.trans h2)
/-- what Write makes -/
theorem wrote_made {b : Int} {K : List OpT} {nd at' id : Int} {kb is : Bool} {c : UInt8} {x : OpT} (hWA : WrAt K nd at' kb id is) (h : nextP b K is ⟨0, 0, 0, 105, nd, id, ⟨#[]⟩, ⟨#[c]⟩⟩ = (x, 0)) (hK : DOk K) (hkb : Known K nd) (hb0 : 0 ≤ b) (hb4 : b < 4) (hnd : I64 nd) : MadeOk b K x := by
  refine next_made h hK hb0 hb4 (by simp) (by simp) hnd (hWA.rg hK) nil_le (show (1 : Nat) ≤ 100000 by omega) fun his => ?_
  obtain ⟨_, _, _, _, h5⟩ := nextP_ok h
  have e1 : x.k = 105 := by rw [h5]; rfl
  have e2 : x.nd = nd := by rw [h5]; rfl
  have e3 : x.ot = id := by rw [h5]; rfl
  refine ⟨fun hk => by omega, fun _ => ?_, fun hk => by omega, fun hk => by omega⟩
  rw [e2, e3]
  rcases hWA with ⟨_, h0, h1⟩ | ⟨_, k', hLA, _⟩
  · exact ⟨hkb.mono sub_snoc, .inl h0⟩
  · rw [his] at hLA
    exact ⟨hkb.mono sub_snoc, .inr (hLA.let.2.mono sub_snoc)⟩
/-- one more letter is typed -/
theorem Typed.step {b : Int} {K0 : List OpT} {nd : Int} {A B : List Lt} {ws : List UInt8} {M : List OpT} (h : Typed b K0 nd A B ws M) (hAB : ∀ x ∈ A ++ B, x.gone = false) {kb : Bool} {id : Int} {is : Bool} {c : UInt8} {x : OpT}
    (hW : WrAt (K0 ++ M) nd ((A.length + M.length : Nat) : Int) kb id is) (hx : nextP b (K0 ++ M) is ⟨0, 0, 0, 105, nd, id, ⟨#[]⟩, ⟨#[c]⟩⟩ = (x, 0)) (hm : MadeOk b (K0 ++ M) x) : Typed b K0 nd A B (ws ++ [c]) (M ++ [x]) := by
  obtain ⟨h1, _, _, _, h5⟩ := nextP_ok hx
  have xk : x.k = 105 := by rw [h5]; rfl
  have xn : x.nd = nd := by rw [h5]; rfl
  have xo : x.ot = id := by rw [h5]; rfl
  have xt : x.t = timeOf (K0 ++ M) + 1 := by rw [h5]; rfl
  have xv : x.vl = ⟨#[c]⟩ := by rw [h5]; rfl
  have hok : DOk ((K0 ++ M) ++ [x]) := hm.ok
  have hfx := hok.fine (o := x) (by simp)
  have hnew : x ∉ K0 ++ M := fun hin => by have := (timeOf_ge (K0 ++ M)).2.1 x hin; omega
  have hLs : seenL (A ++ lets M ++ B) = A ++ lets M ++ B := seen_all fun y hy => by
    rcases List.mem_append.1 hy with hy | hy
    · rcases List.mem_append.1 hy with hy | hy
      · exact hAB y (by simp [hy])
      · exact lets_seen M y hy
    · exact hAB y (by simp [hy])
  have hP : (A ++ lets M = [] ∧ x.ot = 0) ∨ ∃ P' y, A ++ lets M = P' ++ [y] ∧ y.id = x.ot := by
    have hlen : (A ++ lets M).length = A.length + M.length := by unfold lets; simp
    rcases hW with ⟨h0, hid, _⟩ | ⟨h0, k, hLA, hkk, _⟩
    · refine .inl ⟨List.eq_nil_of_length_eq_zero (by omega), by rw [xo, hid]⟩
    · rcases hLA with ⟨_, hk0, L, hL, y, hy, hid, _⟩ | ⟨_, _, hf⟩
      · obtain rfl := LineOf.unique h.ok.lines (fun _ => Iff.rfl) hL h.line
        rw [hLs] at hy
        have hk := hkk h1
        obtain ⟨P', z, e1, e2⟩ := last_at (k := k.toNat) rfl (by omega) hy
        exact .inr ⟨P', z, e1, by rw [e2, xo, hid]⟩
      · rw [hf] at h1; cases h1
  have hQ : ∀ y, B[0]? = some y → y.id < x.id := fun y hy => by
    have hb := List.mem_of_getElem? hy
    have := old_id h.ok (h.line.has (x := y) (by simp [hb]))
    have := hfx.b1
    unfold OpT.id
    omega
  have hline := LineOf.put h.ok hok h.line xk xn hnew hP hQ
  have etm : timeOf (K0 ++ (M ++ [x])) = timeOf K0 + (M ++ [x]).length := by
    rw [← List.append_assoc, timeOf_snoc, if_pos (by omega), xt, h.tm]
    simp
    omega
  refine ⟨by rw [← List.append_assoc]; exact hok, by rw [← List.append_assoc]; exact rising_snoc h.rise (by omega), ?_, ?_, fun y hy => ?_, fun i y hy => ?_, etm, fun i y hy => ?_⟩
  · rw [← List.append_assoc, lets_app, ← List.append_assoc]
    have e : A ++ lets M ++ lets [x] ++ B = A ++ lets M ++ letOf x :: B := by simp [lets]
    rw [e]
    exact hline
  · rw [List.map_append, h.ch]
    simp [xv]
  · rcases List.mem_append.1 hy with hy | hy
    · exact h.k y hy
    · rw [List.mem_singleton.1 hy]; exact ⟨xk, xn, hm.by'⟩
  · rcases Nat.lt_or_ge i M.length with hi | hi
    · rw [List.getElem?_append_left hi] at hy; exact h.t i y hy
    · have hi2 : i = M.length := by
        have := (List.getElem?_eq_some_iff.1 hy).1
        simp at this
        omega
      subst hi2
      simp at hy
      subst hy
      rw [xt, h.tm]
  · rcases Nat.lt_or_ge i M.length with hi | hi
    · rw [List.getElem?_append_left hi] at hy
      rw [List.take_append_of_le_length (by omega)]
      exact h.ot i y hy
    · have hi2 : i = M.length := by
        have := (List.getElem?_eq_some_iff.1 hy).1
        simp at this
        omega
      subst hi2
      simp at hy
      subst hy
      rw [List.take_left]
      exact hP
theorem DOk.cut0 {L G : List OpT} (h : DOk (L ++ G)) (hL : DOk L) (hG : Rising G) (i : Nat) : DOk (L ++ G.take i) := DOk.cut hL h hG i
theorem Typed.all {K0 : List OpT} {nd : Int} {A B : List Lt} {ws wt : List UInt8} {M T : List OpT} (ha : Typed 0 K0 nd A B ws M) (hb : Typed 1 K0 nd A B wt T) {D : List OpT} (hD : DOk D) (hm : ∀ o, o ∈ D ↔ o ∈ K0 ++ M ∨ o ∈ T) : DOk ((K0 ++ M) ++ T) := by
  refine hD.of_mem ?_ fun o => by rw [hm, List.mem_append]
  refine List.pairwise_append.2 ⟨ha.ok.nod, (List.pairwise_append.1 hb.ok.nod).2.1, fun x hx y hy e => ?_⟩
  subst e
  rcases List.mem_append.1 hx with h1 | h1
  · exact (List.pairwise_append.1 hb.ok.nod).2.2 x h1 x hy rfl
  · have := (ha.k x h1).2.2
    have := (hb.k x hy).2.2
    omega
theorem Typed.merge {K0 : List OpT} {nd : Int} {A B : List Lt} {ws wt : List UInt8} {M T : List OpT} (ha : Typed 0 K0 nd A B ws M) (hb : Typed 1 K0 nd A B wt T) (hD : DOk ((K0 ++ M) ++ T)) : ∀ i, i ≤ T.length → LineOf ((K0 ++ M) ++ T.take i) nd (A ++ lets (T.take i) ++ (lets M ++ B))
  | 0, _ => by
    have := ha.line
    rw [List.append_assoc] at this
    simpa [lets] using this
  | i + 1, hi => by
    have ih := Typed.merge ha hb hD i (by omega)
    have hr : Rising T := (List.pairwise_append.1 hb.rise).2.1
    obtain ⟨x, hx⟩ : ∃ x, T[i]? = some x := ⟨_, List.getElem?_eq_getElem (by omega)⟩
    have htk : T.take (i + 1) = T.take i ++ [x] := by rw [List.take_add_one, hx]; rfl
    have hd1 := hD.cut0 ha.ok hr i
    have hd2 := hD.cut0 ha.ok hr (i + 1)
    rw [htk, ← List.append_assoc] at hd2
    have hxT := List.mem_of_getElem? hx
    have hnew : x ∉ (K0 ++ M) ++ T.take i := fun hin => by
      have := hd2.nod
      exact (List.pairwise_append.1 this).2.2 x hin x (by simp) rfl
    obtain ⟨xk, xn, xb⟩ := hb.k x hxT
    have xt := hb.t i x hx
    have hQ : ∀ y, (lets M ++ B)[0]? = some y → y.id < x.id := fun y hy => by
      cases hM : M with
      | nil =>
        have hb' : y ∈ B := by rw [hM] at hy; exact List.mem_of_getElem? hy
        have h1 := old_id ha.ok (ha.line.has (x := y) (by simp [hb']))
        have h2 := ha.tm
        rw [hM] at h1 h2
        simp at h1 h2
        unfold OpT.id
        omega
      | cons m M' =>
        have hm0 : M[0]? = some m := by rw [hM]; rfl
        have hy' : y = letOf m := by rw [hM] at hy; simp [lets] at hy; exact hy.symm
        have h1 := ha.t 0 m hm0
        have h2 := (ha.k m (List.mem_of_getElem? hm0)).2.2
        rw [hy']
        show m.id < x.id
        unfold OpT.id
        simp at h1
        omega
    have hP := hb.ot i x hx
    have := LineOf.put hd1 hd2 ih xk xn hnew hP hQ
    rw [htk, ← List.append_assoc, lets_app]
    have e : A ++ (lets (T.take i) ++ lets [x]) ++ (lets M ++ B) = A ++ lets (T.take i) ++ letOf x :: (lets M ++ B) := by simp [lets]
    rw [e]
    exact this
/-- what both have, in whatever order it came -/
theorem Typed.both {K0 : List OpT} {nd : Int} {A B : List Lt} {ws wt : List UInt8} {M T : List OpT} (ha : Typed 0 K0 nd A B ws M) (hb : Typed 1 K0 nd A B wt T) {D : List OpT} (hD : DOk D) (hm : ∀ o, o ∈ D ↔ o ∈ K0 ++ M ∨ o ∈ T) {L : List Lt} (hL : LineOf D nd L) : L = A ++ lets T ++ (lets M ++ B) := by
  have h1 := ha.all hb hD hm
  have h2 := ha.merge hb h1 T.length (Nat.le_refl _)
  rw [List.take_length] at h2
  exact LineOf.unique hD.lines (fun o => (hm o).trans List.mem_append.symm) hL h2
theorem txt_lets (M : List OpT) : txtL (lets M) = M.map fun x => x.vl.data.toList.headD 0 := by
  rw [show txtL (lets M) = (seenL (lets M)).map (·.c) from rfl, seen_all (lets_seen M)]
  unfold lets
  rw [List.map_map]
  rfl
end Go.Proofs.YtjekalilfhnpmaaGreatDoor
namespace Go.Proofs.YtjekalilfhnpmaaGreatDoor
open Go Go.RowKit Go.Maps Go.Shelf LineOrd Tree
set_option linter.unusedVariables false
set_option linter.unusedSimpArgs false
set_option maxHeartbeats 20000000
set_option maxRecDepth 100000
theorem putT_same {T : Type} (f : Nat → T) (b : Nat) : putT f b (f b) = f := by
  funext a; unfold putT; split <;> simp_all
theorem putT_two {T : Type} (f : Nat → T) (b : Nat) (x y : T) : putT (putT f b x) b y = putT f b y := by
  funext a; unfold putT; split <;> rfl
/-- how types ends -/
def TypesEnds (b : Nat) (K0 : List OpT) (nd : Int) (A B : List Lt) (ws : List UInt8) (RBs : Nat → Nat) (Ks : Nat → List OpT) (w0 : World) (e : Ending) (w' : World) : Prop :=
  (e = .returned (.bool false) ∧ Below w0.heap.size w0 w') ∨ (e = .returned (.bool true) ∧ ∃ cs M, RepsW 2 (fun b => (b : Int)) cs RBs (putT Ks b (K0 ++ M)) w0 w' ∧ Typed b K0 nd A B ws M)
theorem types_any {F0 : Nat → Bool} (ea : Nat → Addr) (b : Nat) (K0 : List OpT) (nd : Int) (A B : List Lt) (s : ByteArray) (cs : Nat → Nat → Int) (RBs : Nat → Nat) (Ks : Nat → List OpT) (w0 w : World) (hG : Gd F0 ea w0) (f2 : F0 2 = true) (f3 : F0 3 = true) (f4 : F0 4 = true) (f5 : F0 5 = true) (f6 : F0 6 = true) (f7 : F0 7 = true) (f8 : F0 8 = true) (f9 : F0 9 = true)
    (hb : b < 2) (h : RepsW 2 (fun b => (b : Int)) cs RBs Ks w0 w) (hK : Ks b = K0) (hok : DOk K0) (hup : Rising K0) (hl : K0.length ≤ 300) (hs : s.size ≤ 40) (hA : A.length ≤ 40) (hkn : Known K0 nd) (hnd : I64 nd) (hL : LineOf K0 nd (A ++ B)) (hgo : ∀ x ∈ A ++ B, x.gone = false) :
    Calls Tryz.prog 13 #[.pointer (some ⟨RBs b, 0, none⟩), .int .i64 nd, .int .i64 A.length, .string s] w (TypesEnds b K0 nd A B s.data.toList RBs Ks w0) := by
  have HG := Lib.hid hG
  have HT0 : Hid (RepsW 2 (fun b => (b : Int)) cs RBs (putT Ks b (K0 ++ [])) w0 w ∧ Typed b K0 nd A B (s.data.toList.take 0) []) := Lib.hid ⟨by rw [List.append_nil, ← hK, putT_same]; exact h, Typed.start hok hup hL⟩
  have HGo := Lib.hid hgo
  have HKn := Lib.hid hkn
  have hn : s.size = s.data.toList.length := by rw [Array.length_toList]; rfl
  have HN := Lib.hid hn
  clear hG h hK hok hup hL hgo hkn hn
  go_enter Tryz.func13, Tryz.ntmps13
  go_wp2_with fail
  go_loopw [9, 10, 11] (fun v9 _ _ wr => ∃ i : Nat, i ≤ s.size ∧ v9 = .int .i64 i ∧ ∃ cs M, Hid (RepsW 2 (fun b => (b : Int)) cs RBs (putT Ks b (K0 ++ M)) w0 wr ∧ Typed b K0 nd A B (s.data.toList.take i) M)) (fun v9 _ _ _ => s.size - (RowKit.intOf v9).toNat)
  case atStart => exact ⟨0, by omega, rfl, cs, [], HT0⟩
  case round =>
    clear HT0
    obtain ⟨i, hi, rfl, cs2, M, HT⟩ := hrel
    by_cases hlt : i < s.size
    · have i0 : (0 : Int) ≤ (i : Int) := by omega
      have i1 : (i : Int) < (s.size : Int) := by omega
      obtain ⟨c, hc⟩ : ∃ c, s.data.toList[i]? = some c := ⟨_, List.getElem?_eq_getElem (by have := HN.out; omega)⟩
      have hMl : M.length = i := by
        have := congrArg List.length HT.out.2.ch
        simp at this
        have := HN.out
        simp at this
        omega
      have i2 : (0 : Int) ≤ (A.length : Int) + (i : Int) := by omega
      have i3 : (A.length : Int) + (i : Int) ≤ 9223372036854775807 := by omega
      have HC := Lib.hid hc
      have hci : s.data.toList[i]? = some (s[i]'hlt) := by
        rw [Array.getElem?_toList]
        exact Array.getElem?_eq_getElem hlt
      obtain ⟨cc, hcc⟩ : ∃ cc, s[i]'hlt = cc := ⟨_, rfl⟩
      rw [hcc] at hci
      have hlK : (K0 ++ M).length ≤ 400 := by rw [List.length_append]; omega
      have HWr := Lib.hid (write_any ea (cs2 b) (RBs b) b (K0 ++ M) nd ((A.length : Int) + (i : Int)) cc wr (by have := HT.out.1.rep b hb; rwa [putT_self] at this) (HG.out.below HT.out.1.bel) f2 f3 f4 f5 f6 f8 HT.out.2.ok hlK (by omega) (by omega) hnd (by constructor <;> omega) true ⟨fun _ => HKn.out.mono (fun o ho => List.mem_append.2 (.inl ho)), fun _ => rfl⟩)
      have HCI := Lib.hid hci
      have HML := Lib.hid hMl
      have HLK := Lib.hid hlK
      clear hci hMl hc HC hlK
      unfold ptrV at HWr
      go_upto_region 4 with (fail)
      go_wp2_with fail
      refine HWr.out.mono ?_
      rintro e w1 ⟨id, is, hWA, rfl, hb1⟩
      obtain ⟨⟨nx, er⟩, hnp⟩ : ∃ p : OpT × Nat, nextP b (K0 ++ M) is ⟨0, 0, 0, 105, nd, id, ⟨#[]⟩, ⟨#[cc]⟩⟩ = p := ⟨_, rfl⟩
      rw [hnp]
      have HR1 := Lib.hid (HT.out.1.below hb1)
      have HTy := Lib.hid HT.out.2
      have HB1 := Lib.hid hb1
      by_cases her : er = 0
      · subst her
        have he : errW ea ((nx, 0) : OpT × Nat).2 = .nilIface := rfl
        simp only [he]
        have hmd := wrote_made hWA hnp HTy.out.ok (HKn.out.mono fun o ho => List.mem_append.2 (.inl ho)) (by omega) (by omega) hnd
        obtain ⟨jn1, jn2⟩ := join_one HTy.out.ok hmd.ok (rising_snoc HTy.out.rise hmd.time) hmd.len
        have HTn : Hid (Typed b K0 nd A B (s.data.toList.take (i + 1)) (M ++ [nx])) := Lib.hid (by
          have := HTy.out.step HGo.out (by rw [HML.out]; exact hWA) hnp hmd
          rwa [show s.data.toList.take i ++ [cc] = s.data.toList.take (i + 1) by rw [List.take_add_one, HCI.out]; rfl] at this)
        have HJ2 := Lib.hid jn2
        have HWf := Lib.hid (hmd.ok.wf nx (by simp))
        have hrB := HR1.out.rep b hb
        rw [putT_self] at hrB
        have HRB := Lib.hid hrB
        have HJo := Lib.hid (fun W' (hbW : Below w1.heap.size w1 W') A (hs : SlV opE W' (.slice A 1 1) [nx]) => join_any ea w0 (cs2 b) (RBs b) b (K0 ++ M) [nx] A 1 1 W' (HRB.out.below hbW) HG.out (bel2 HR1.out.bel hbW) (fun k hk => HR1.out.ge b k hb hk) f2 f3 f4 f5 f6 f7 f8 f9 HTy.out.ok HTy.out.rise HLK.out hs (by simp) (fun o ho => by rw [List.mem_singleton.1 ho]; exact HWf.out))
        rw [jn1] at HJo
        unfold ptrV at HJo
        clear jn1 jn2 hmd hWA hnp hb1 HWr HT he hrB
        go_upto_region 7 with (fail)
        obtain ⟨W, hW⟩ : ∃ W, W = w1.alloc (.cells #[.int .i64 nx.t, .int .i64 nx.b, .int .i64 nx.n, .int .u8 nx.k, .int .i64 nx.nd, .int .i64 nx.ot, .string nx.nm, .string nx.vl] 31) := ⟨_, rfl⟩
        have hbW : Below w1.heap.size w1 W := by rw [hW]; exact (Below.refl _ _).alloc (Nat.le_refl _) _
        have hOW : OpAt W w1.heap.size nx := by rw [hW]; exact OpAt.start w1 nx _
        rw [show _ = W from hW.symm]
        have HBW := Lib.hid hbW
        clear hW hbW
        obtain ⟨j0, j1, j2, j3, j4, j5, j6, j7⟩ := hOW
        go_wp2_with fail
        refine (HJo.out _ (HBW.out.alloc HBW.out.size _) _ (SlV.one (E := opE) W nx 31 #[.int .i64 nx.t, .int .i64 nx.b, .int .i64 nx.n, .int .u8 nx.k, .int .i64 nx.nd, .int .i64 nx.ot, .string nx.nm, .string nx.vl] rfl)).mono ?_
        rintro e w5 ⟨rfl, hRT⟩
        rw [HJ2.out] at hRT
        have HR5 := Lib.hid ((HR1.out.below (HBW.out.alloc HBW.out.size (.cells #[.int .i64 nx.t, .int .i64 nx.b, .int .i64 nx.n, .int .u8 nx.k, .int .i64 nx.nd, .int .i64 nx.ot, .string nx.nm, .string nx.vl] 31))).join hb hRT)
        clear hRT HJo j0 j1 j2 j3 j4 j5 j6 j7
        go_wp2_with fail
        go_roundw
        case rel =>
          obtain ⟨c', h1, _, _⟩ := HR5.out
          rw [putT_two, List.append_assoc] at h1
          exact ⟨i + 1, by omega, by go_num, _, M ++ [nx], Lib.hid ⟨h1, HTn.out⟩⟩
        case measure => simp [RowKit.intOf]; omega
      · have he : errW ea ((nx, er) : OpT × Nat).2 = errV (ea er) := by show errW ea er = _; rw [errW, if_neg her]
        simp only [he]
        clear hWA hnp hb1 HWr HT he
        go_wp2_with fail
        go_ret
        exact .inl ⟨rfl, HR1.out.bel.alloc HR1.out.bel.size _⟩
    · have i1 : ¬ (i : Int) < (s.size : Int) := by omega
      have HTe : Hid (Typed b K0 nd A B s.data.toList M) := Lib.hid (by
        have := HT.out.2
        rwa [List.take_of_length_le (by have := HN.out; omega)] at this)
      go_wp2_with fail
      go_ret
      exact .inr ⟨rfl, _, M, HT.out.1, HTe.out⟩
end Go.Proofs.YtjekalilfhnpmaaGreatDoor
