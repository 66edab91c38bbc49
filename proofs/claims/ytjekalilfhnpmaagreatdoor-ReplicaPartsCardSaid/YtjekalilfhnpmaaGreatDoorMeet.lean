/- Four replicas of which some join what others have. -/
import Derived.Test.YtjekalilfhnpmaaGreatDoorM37
namespace Go.Proofs.YtjekalilfhnpmaaGreatDoor
open Go Go.RowKit Go.Maps Go.Shelf LineOrd Tree
set_option linter.unusedVariables false
set_option linter.unusedSimpArgs false
set_option maxHeartbeats 2000000
set_option maxRecDepth 100000

theorem RowW.ptr {cs : Nat → Nat → Int} {base g c : Nat} {RBs : Nat → Nat} {w : World} (h : RowW repE 23 4 cs base (.slice (some ⟨g, 0, none⟩) 4 c) ((List.range 4).map RBs) w) {a : Nat} (ha : a < 4) : w.cell? ⟨g, a, none⟩ = some (.pointer (some ⟨RBs a, 0, none⟩)) := by
  have := h.row.at' rfl (i := a) (x := RBs a) (by rcases (show a = 0 ∨ a = 1 ∨ a = 2 ∨ a = 3 by omega) with rfl | rfl | rfl | rfl <;> rfl) (j := 0) (u := ptrV (RBs a)) rfl
  simpa [repE, ptrV] using this
/-- a replica's vector, by what it holds -/
theorem vecD_any (col : Nat → Int) (RB : Nat) (b : Int) (K : List OpT) (w : World) (h : RepD col RB b K w) : Calls Tryz.prog 19 #[ptrV RB] w fun e w' => e = .returned (vecV (cntB K)) ∧ Below w.heap.size w w' := by
  obtain ⟨y, s, hR, hO⟩ := h
  have hv : s.v = cntB K := funext hO.v
  have := repVector_any hR
  rwa [hv] at this
/-- four replicas in memory, a row of pointers to them, and all that was made -/
structure MeetW (g cg : Nat) (cs : Nat → Nat → Int) (RBs : Nat → Nat) (H : List OpT) (Ks : Nat → List OpT) (w0 w : World) : Prop where
  reps : RepsW 4 (fun b => (b : Int)) cs RBs Ks w0 w
  row : RowW repE 23 4 cs w0.heap.size (.slice (some ⟨g, 0, none⟩) 4 cg) ((List.range 4).map RBs) w
  four : FourR H Ks
  len : H.length ≤ 60
theorem MeetW.below {g cg : Nat} {cs : Nat → Nat → Int} {RBs : Nat → Nat} {H : List OpT} {Ks : Nat → List OpT} {w0 w w' : World} (h : MeetW g cg cs RBs H Ks w0 w) (hb : Below w.heap.size w w') : MeetW g cg cs RBs H Ks w0 w' :=
  ⟨h.reps.below hb, h.row.below hb, h.four, h.len⟩
/-- what a joins from b -/
def Got (a b : Nat) (Ks Ks' : Nat → List OpT) : Prop := (∀ o, o ∈ Ks' a ↔ o ∈ Ks a ∨ o ∈ Ks b) ∧ ∀ d, d ≠ a → Ks' d = Ks d
theorem MeetW.ops {g cg : Nat} {cs : Nat → Nat → Int} {RBs : Nat → Nat} {H : List OpT} {Ks : Nat → List OpT} {w0 w : World} (h : MeetW g cg cs RBs H Ks w0 w) {b : Nat} (hb : b < 4) :
    Calls Tryz.prog 14 #[.pointer (some ⟨RBs b, 0, none⟩)] w fun e w' => ∃ v', e = .returned v' ∧ Rw opE 31 w.heap.size v' (Ks b) w' ∧ Below w.heap.size w w' :=
  repOps_any _ _ _ _ w (h.reps.rep b hb) (by have := h.four.len hb; have := h.len; omega)
theorem MeetW.join {g cg : Nat} {cs : Nat → Nat → Int} {RBs : Nat → Nat} {H : List OpT} {Ks : Nat → List OpT} {w0 w : World} {F0 : Nat → Bool} {ea : Nat → Addr} (h : MeetW g cg cs RBs H Ks w0 w) (hG : Gd F0 ea w0) (f2 : F0 2 = true) (f3 : F0 3 = true) (f4 : F0 4 = true) (f5 : F0 5 = true) (f6 : F0 6 = true) (f7 : F0 7 = true) (f8 : F0 8 = true) (f9 : F0 9 = true)
    {a b : Nat} (ha : a < 4) (hb : b < 4) {A : Option Addr} {n c : Nat} (hs : SlV opE w (.slice A n c) (Ks b)) :
    Calls Tryz.prog 12 #[.pointer (some ⟨RBs a, 0, none⟩), .slice A n c] w fun e w' => (∃ k : Nat, e = .returned (.tuple #[.int .i64 k, .nilIface])) ∧ ∃ cs' Ks', MeetW g cg cs' RBs H Ks' w0 w' ∧ Got a b Ks Ks' := by
  have l1 := h.four.len ha
  have l2 := h.four.len hb
  have l3 := h.len
  obtain ⟨G, g1, g2, g3⟩ := h.four.join hb ha (l := Ks b) (fun o => Iff.rfl) (by omega)
  have HJ := join_any ea w0 (cs a) (RBs a) a (Ks a) (Ks b) A n c w (h.reps.rep a ha) hG h.reps.bel (fun k hk => h.reps.ge a k ha hk) f2 f3 f4 f5 f6 f7 f8 f9 (h.four.ok a ha) (h.four.rise a ha) (by omega) hs (by omega) (fun o ho => (h.four.ok b hb).wf o ho)
  rw [g1] at HJ
  refine HJ.mono ?_
  rintro e w' ⟨rfl, hRT⟩
  obtain ⟨c', hW, hgr, hfr⟩ := h.reps.join ha hRT
  exact ⟨⟨_, rfl⟩, _, _, ⟨hW, h.row.join ha hgr hfr, g2, l3⟩, fun o => by rw [putT_self]; exact g3 o, fun d hd => putT_other hd⟩
/-- who knows what of whom at first -/
def KnowM (M : Nat → Nat → Bool) (K0 Ks : Nat → List OpT) : Prop := ∀ x y, x < 4 → y < 4 → M x y = true → ∀ o ∈ K0 y, o ∈ Ks x
def jnM (a b : Nat) (M : Nat → Nat → Bool) : Nat → Nat → Bool := fun x y => if x = a then M a y || M b y else M x y
theorem KnowM.got {M : Nat → Nat → Bool} {K0 Ks Ks' : Nat → List OpT} {a b : Nat} (h : KnowM M K0 Ks) (ha : a < 4) (hb : b < 4) (hg : Got a b Ks Ks') : KnowM (jnM a b M) K0 Ks' := by
  intro x y hx hy hM o ho
  unfold jnM at hM
  split at hM
  · rename_i e
    subst e
    rw [hg.1]
    rcases Bool.or_eq_true_iff.1 hM with h1 | h1
    · exact .inl (h x y hx hy h1 o ho)
    · exact .inr (h b y hb hy h1 o ho)
  · rename_i e
    rw [hg.2 x e]
    exact h x y hx hy hM o ho
/-- behind s steps of gossip -/
def mat : Nat → Nat → Nat → Bool
  | 0 => fun x y => x == y
  | s + 1 => jnM ((s % 4 + 1) % 4) (s % 4) (jnM (s % 4) ((s % 4 + 1) % 4) (mat s))
theorem mat8 : ∀ x, x < 4 → ∀ y, y < 4 → mat 8 x y = true := by decide +kernel
theorem KnowM.start (K0 : Nat → List OpT) : KnowM (mat 0) K0 K0 := fun x y _ _ h o ho => by
  have : x = y := by simpa [mat] using h
  exact this ▸ ho
theorem FourR.allSame {H : List OpT} {K0 Ks : Nat → List OpT} (h0 : FourR H K0) (h : FourR H Ks) (hM : KnowM (mat 8) K0 Ks) {a b : Nat} (ha : a < 4) (hb : b < 4) : Ks a = Ks b := by
  have hall : ∀ c, c < 4 → ∀ o ∈ H, o ∈ Ks c := fun c hc o ho => by
    obtain ⟨d, hd, _, h1⟩ := h0.own o ho
    exact hM c d hc hd (mat8 c hc d hd) o h1
  exact h.same ha hb (hall a ha) (hall b hb)
end Go.Proofs.YtjekalilfhnpmaaGreatDoor
