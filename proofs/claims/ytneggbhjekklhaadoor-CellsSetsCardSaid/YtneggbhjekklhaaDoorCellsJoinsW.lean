/- CellsJoins: the walk of the law. -/
import Derived.Test.YtneggbhjekklhaaDoorCelled
import Derived.Test.YtneggbhjekklhaaDoorOpRows
namespace Go.Proofs.YtneggbhjekklhaaDoor
open Go Go.RowKit Go.Maps
set_option linter.unusedVariables false
set_option linter.unusedSimpArgs false
set_option maxHeartbeats 4000000
set_option maxRecDepth 100000

theorem eqStamp_run (t b t' b' : Int) (w : World) : (Op.equalIn 10000 26 (.agg #[.int .i64 t, .int .i64 b]) (.agg #[.int .i64 t', .int .i64 b'])).run Tryd.prog w = .ok (t == t' && b == b') w := by
  have u3 := Tryd.underlying3
  have a3 := Tryd.isAgg3
  have z3 := Tryd.sizeOf3
  rw [show (10000 : Nat) = 9999 + 1 from rfl, Op.equalIn]
  simp only [Sem.run_bind, run_underlying Tryd.underlying26, Result.andThen_ok]
  go_simp
  (repeat' split) <;> simp_all
theorem eqMark_run (x y : MarkT) (w : World) : (Op.equalIn 10000 39 (.agg x.cells) (.agg y.cells)).run Tryd.prog w = .ok (x.nd == y.nd && x.nm.toList == y.nm.toList && x.vl.toList == y.vl.toList) w := by
  have u3 := Tryd.underlying3
  have a3 := Tryd.isAgg3
  have z3 := Tryd.sizeOf3
  have u9 := Tryd.underlying9
  have a9 := Tryd.isAgg9
  have z9 := Tryd.sizeOf9
  rw [show (10000 : Nat) = 9999 + 1 from rfl, Op.equalIn]
  simp only [Sem.run_bind, run_underlying Tryd.underlying39, Result.andThen_ok, MarkT.cells]
  go_simp
  (repeat' split) <;> simp_all

/-- two cells of the call's own, apart -/
structure Ap (C b C' b' : Nat) : Prop where
  h1 : C' ≠ b
  h2 : b' ≠ b
  h3 : C ≠ b'
/-- three cells beside each other -/
structure J3 (w0 : World) (C1 b1 C2 b2 C3 b3 n1 n2 n3 : Nat) (m1 m2 m3 : MapC) (w : World) : Prop where
  s1 : CSt w0.heap.size C1 b1 n1 m1 w
  s2 : CSt w0.heap.size C2 b2 n2 m2 w
  s3 : CSt w0.heap.size C3 b3 n3 m3 w
  a12 : Ap C1 b1 C2 b2
  a13 : Ap C1 b1 C3 b3
  a23 : Ap C2 b2 C3 b3
  bel : Below w0.heap.size w0 w
section
variable {w0 w w' : World} {C1 b1 C2 b2 C3 b3 n1 n2 n3 n' : Nat} {m1 m2 m3 m' : MapC}
theorem CSt.bel {base C b n : Nat} {m : MapC} {w w' : World} (h : CSt base C b n m w) (hF : Fr (· = b) w w') (hb : Below base w0 w) (hs : base ≤ w.heap.size) : Below base w0 w' := hb.trans (hF.below hs (fun k hk => by rw [hk]; exact h.geb))
theorem J3.below (h : J3 w0 C1 b1 C2 b2 C3 b3 n1 n2 n3 m1 m2 m3 w) (hb : Below w.heap.size w w') : J3 w0 C1 b1 C2 b2 C3 b3 n1 n2 n3 m1 m2 m3 w' :=
  ⟨h.s1.below hb, h.s2.below hb, h.s3.below hb, h.a12, h.a13, h.a23, h.bel.trans (hb.mono h.bel.size)⟩
theorem J3.set1 (h : J3 w0 C1 b1 C2 b2 C3 b3 n1 n2 n3 m1 m2 m3 w) (h' : CSt w0.heap.size C1 b1 n' m' w') (hF : Fr (· = b1) w w') : J3 w0 C1 b1 C2 b2 C3 b3 n' n2 n3 m' m2 m3 w' :=
  ⟨h', h.s2.fr hF h.a12.h1 h.a12.h2, h.s3.fr hF h.a13.h1 h.a13.h2, h.a12, h.a13, h.a23, h.s1.bel hF h.bel h.bel.size⟩
theorem J3.set2 (h : J3 w0 C1 b1 C2 b2 C3 b3 n1 n2 n3 m1 m2 m3 w) (h' : CSt w0.heap.size C2 b2 n' m' w') (hF : Fr (· = b2) w w') : J3 w0 C1 b1 C2 b2 C3 b3 n1 n' n3 m1 m' m3 w' :=
  ⟨h.s1.fr hF h.a12.h3 (fun e => h.a12.h2 e.symm), h', h.s3.fr hF h.a23.h1 h.a23.h2, h.a12, h.a13, h.a23, h.s2.bel hF h.bel h.bel.size⟩
theorem J3.set3 (h : J3 w0 C1 b1 C2 b2 C3 b3 n1 n2 n3 m1 m2 m3 w) (h' : CSt w0.heap.size C3 b3 n' m' w') (hF : Fr (· = b3) w w') : J3 w0 C1 b1 C2 b2 C3 b3 n1 n2 n' m1 m2 m' w' :=
  ⟨h.s1.fr hF h.a13.h3 (fun e => h.a13.h2 e.symm), h.s2.fr hF h.a23.h3 (fun e => h.a23.h2 e.symm), h', h.a12, h.a13, h.a23, h.s3.bel hF h.bel h.bel.size⟩
end
/-- of those ahead, two with one stamp are one -/
def OneTo (L : List OpT) (i k : Nat) : Prop := ∀ p q x y, L[p]? = some x → L[q]? = some y → p < q → (q < i ∨ q = i ∧ p < k) → x.t = y.t → x.b = y.b → x = y
theorem OneTo.start (L : List OpT) : OneTo L 0 0 := fun p q x y _ _ _ h => by omega
theorem OneTo.next {L : List OpT} {i : Nat} (h : OneTo L i i) : OneTo L (i + 1) 0 := fun p q x y h1 h2 h3 h4 => h p q x y h1 h2 h3 (by omega)
theorem OneTo.step {L : List OpT} {i k : Nat} {x y : OpT} (h : OneTo L i k) (hx : L[k]? = some x) (hy : L[i]? = some y) (e : x.t = y.t → x.b = y.b → x = y) : OneTo L i (k + 1) := fun p q x' y' h1 h2 h3 h4 => by
  by_cases hp : q = i ∧ p = k
  · obtain ⟨rfl, rfl⟩ := hp
    rw [hx] at h1; rw [hy] at h2
    cases h1; cases h2
    exact e
  · exact h p q x' y' h1 h2 h3 (by omega)
theorem OneTo.all {L : List OpT} (h : OneTo L L.length 0) : OneStamp L := fun x hx y hy e1 e2 => by
  obtain ⟨p, hp⟩ := List.mem_iff_getElem?.1 hx
  obtain ⟨q, hq⟩ := List.mem_iff_getElem?.1 hy
  have lp := (List.getElem?_eq_some_iff.1 hp).1
  have lq := (List.getElem?_eq_some_iff.1 hq).1
  rcases Nat.lt_trichotomy p q with hlt | heq | hgt
  · exact h p q x y hp hq hlt (.inl lq) e1 e2
  · subst heq; rw [hp] at hq; cases hq; rfl
  · exact (h q p y x hq hp hgt (.inl lp) e1.symm e2.symm).symm

theorem CSt.lower {base base' C b n : Nat} {m : MapC} {w : World} (h : CSt base C b n m w) (hb : base' ≤ base) : CSt base' C b n m w := ⟨h.ptr, h.mt, Nat.le_trans hb h.ge, Nat.le_trans hb h.geb, h.ne⟩
theorem Ap.new {base C b n : Nat} {m : MapC} {w w' : World} {C' b' n' : Nat} {m' : MapC} (h : CSt base C b n m w) (h' : CSt w.heap.size C' b' n' m' w') : Ap C b C' b' := by
  have h1 := h.lt
  have h2 := h.mt.lt
  have h3 := h'.ge
  have h4 := h'.geb
  exact ⟨by omega, by omega, by omega⟩
theorem J3.made {w0 w w1 w2 w3 : World} {C1 b1 C2 b2 C3 b3 n1 n2 n3 : Nat} {m1 m2 m3 : MapC} (hb : Below w0.heap.size w0 w) (h1 : CSt w.heap.size C1 b1 n1 m1 w1) (g1 : Below w.heap.size w w1) (h2 : CSt w1.heap.size C2 b2 n2 m2 w2) (g2 : Below w1.heap.size w1 w2)
    (h3 : CSt w2.heap.size C3 b3 n3 m3 w3) (g3 : Below w2.heap.size w2 w3) : J3 w0 C1 b1 C2 b2 C3 b3 n1 n2 n3 m1 m2 m3 w3 := by
  have s0 := hb.size
  have s1 := g1.size
  have s2 := g2.size
  exact ⟨((h1.below g2).below g3).lower s0, (h2.below g3).lower (by omega), h3.lower (by omega), Ap.new h1 h2, Ap.new (h1.below g2) h3, Ap.new h2 h3, ((hb.trans (g1.mono s0)).trans (g2.mono (by omega))).trans (g3.mono (by omega))⟩
theorem drop_at {L : List OpT} {i : Nat} {x : OpT} (h : L[i]? = some x) : L.drop i = x :: L.drop (i + 1) := by
  obtain ⟨hl, he⟩ := List.getElem?_eq_some_iff.1 h
  rw [List.drop_eq_getElem_cons hl, he]
theorem best_drop {L : List OpT} {i : Nat} {x : OpT} {m : MapC} (h : BestAll (InL (L.drop (i + 1))) m) (hx : L[i]? = some x) : BestAll (InL (L.drop i)) (setC m x).1 :=
  (h.set (o := x)).congr (fun k c => by rw [drop_at hx, show x :: L.drop (i + 1) = [x] ++ L.drop (i + 1) from rfl, InL.app]; exact Or.comm)
theorem best_take {L : List OpT} {i : Nat} {x : OpT} {m : MapC} (h : BestAll (InL (L.take i)) m) (hx : L[i]? = some x) : BestAll (InL (L.take (i + 1))) (setC m x).1 :=
  (h.set (o := x)).congr (fun k c => by rw [List.take_add_one, hx, Option.toList_some, InL.app])
theorem inl_cut (L : List OpT) (ct : Nat) (k : KeyT) (c : CellT) : InL L k c ↔ InL (L.take ct) k c ∨ InL (L.drop ct) k c := by rw [← InL.app, List.take_append_drop]
/-- the two parts, so far -/
structure Parts (L : List OpT) (ct i : Nat) (m2 m3 : MapC) : Prop where
  a : BestAll (InL (L.take (min i ct))) m2
  b : BestAll (InL ((L.drop ct).take (i - ct))) m3
theorem Parts.start (L : List OpT) (ct : Nat) : Parts L ct 0 (fun _ => none) (fun _ => none) := ⟨by rw [Nat.zero_min]; exact BestAll.start, by rw [Nat.zero_sub]; exact BestAll.start⟩
theorem Parts.step1 {L : List OpT} {ct i : Nat} {m2 m3 : MapC} {x : OpT} (h : Parts L ct i m2 m3) (hi : i < ct) (hx : L[i]? = some x) : Parts L ct (i + 1) (setC m2 x).1 m3 := by
  refine ⟨?_, ?_⟩
  · have := h.a
    rw [Nat.min_eq_left (by omega)] at this ⊢
    exact best_take this hx
  · have := h.b
    rw [show i - ct = 0 by omega] at this
    rw [show i + 1 - ct = 0 by omega]
    exact this
theorem Parts.step2 {L : List OpT} {ct i : Nat} {m2 m3 : MapC} {x : OpT} (h : Parts L ct i m2 m3) (hi : ¬ i < ct) (hx : L[i]? = some x) : Parts L ct (i + 1) m2 (setC m3 x).1 := by
  refine ⟨?_, ?_⟩
  · have := h.a
    rw [Nat.min_eq_right (by omega)] at this ⊢
    exact this
  · rw [show i + 1 - ct = (i - ct) + 1 by omega]
    exact best_take h.b (by rw [List.getElem?_drop, show ct + (i - ct) = i by omega]; exact hx)
theorem Parts.all {L : List OpT} {ct : Nat} {m1 m2 m3 : MapC} (h : Parts L ct L.length m2 m3) (hc : ct ≤ L.length) (h1 : BestAll (InL (L.drop 0)) m1) (hu : OneStamp L) :
    (∀ k, KeyOk k → m1 k = joinC m2 m3 k) ∧ (∀ k, KeyOk k → m1 k = joinC m3 (joinC m2 m3) k) := by
  have ha := h.a
  have hb := h.b
  rw [Nat.min_eq_right hc] at ha
  rw [List.take_of_length_le (by rw [List.length_drop]; omega)] at hb
  have hx : BestAll (InL L) (joinC m2 m3) := (ha.join hb).congr (inl_cut L ct)
  have hy : BestAll (InL L) (joinC m3 (joinC m2 m3)) := (hb.join hx).congr (fun k c => ⟨fun h => .inr h, fun h => h.elim (fun h => (inl_cut L ct k c).2 (.inr h)) id⟩)
  have h1' : BestAll (InL L) m1 := h1
  exact ⟨fun k hk => (h1' k hk).one (hu.inl k) (hx k hk), fun k hk => (h1' k hk).one (hu.inl k) (hy k hk)⟩

namespace cellsJoins
theorem walk_early {F : Nat → Bool} (ea : Nat → Addr) (A : Option Addr) (n c : Nat) (L : List OpT) (cut : Int) (w : World) (hG : Gd F ea w) (f2 : F 2 = true) (f3 : F 3 = true) (f4 : F 4 = true) (f5 : F 5 = true)
    (hs : SlV opE w (.slice A n c) L) (hc : c ≤ maxLen) (h : longOps 60 L = true ∨ longOps 60 L = false ∧ cut < 0 ∨ longOps 60 L = false ∧ ¬ cut < 0 ∧ (n : Int) < cut) :
    Calls Tryd.prog 3 #[.slice A n c, .int .i64 cut] w fun e w' => e = .returned (.bool true) ∧ Below w.heap.size w w' := by
  have hcap := hs.cap
  have HC := Lib.hid (celled_any ea w hG f2 f3 f4 f5)
  have HL : Hid (∀ w', Below w.heap.size w w' → Calls Tryd.prog 10 #[.slice A n c, .int .i64 (60 : Nat)] w' fun e w'' => e = .returned (.int .i64 (if longOps 60 L then 1 else 0)) ∧ w'' = w') := Lib.hid fun w' hb => longOps_any A n c 60 L w' (hs.below hb) (by omega) (by omega)
  obtain ⟨lo, hlo⟩ : ∃ lo, longOps 60 L = lo := ⟨_, rfl⟩
  rw [hlo] at HL h
  clear hG hs hlo hcap
  rcases h with rfl | ⟨rfl, hn⟩ | ⟨rfl, hn, hn2⟩
  all_goals
    go_enter Tryd.func3, Tryd.ntmps3
    go_wp2_with fail
    refine HC.out.mono ?_
    rintro r w1 ⟨rfl, hb⟩
    have HB1 := Lib.hid hb
    clear hb
    go_wp2_with fail
    refine (HL.out _ HB1.out).mono ?_
    rintro r w2 ⟨rfl, rfl⟩
    go_wp2_with fail
    go_ret
    exact ⟨rfl, HB1.out⟩

theorem walk {F : Nat → Bool} (ea : Nat → Addr) (A : Option Addr) (n c : Nat) (L : List OpT) (cut : Int) (w : World) (hG : Gd F ea w) (f2 : F 2 = true) (f3 : F 3 = true) (f4 : F 4 = true) (f5 : F 5 = true)
    (hs : SlV opE w (.slice A n c) L) (hc : c ≤ maxLen) (hwf : ∀ x ∈ L, (x.nm.size ≤ 100000 → x.vl.size ≤ 100000 → x.Wf)) :
    Calls Tryd.prog 3 #[.slice A n c, .int .i64 cut] w fun e w' => e = .returned (.bool true) ∧ Below w.heap.size w w' := by
  by_cases hE : longOps 60 L = true ∨ longOps 60 L = false ∧ cut < 0 ∨ longOps 60 L = false ∧ ¬ cut < 0 ∧ (n : Int) < cut
  · exact walk_early ea A n c L cut w hG f2 f3 f4 f5 hs hc hE
  obtain ⟨lo, hlo⟩ : ∃ lo, longOps 60 L = lo := ⟨_, rfl⟩
  have hlof : lo = false := by cases lo <;> simp_all
  subst hlof
  have hcut0 : ¬ cut < 0 := fun h => hE (.inr (.inl ⟨hlo, h⟩))
  have hcut1 : ¬ (n : Int) < cut := fun h => hE (.inr (.inr ⟨hlo, hcut0, h⟩))
  obtain ⟨ct, rfl⟩ : ∃ ct : Nat, cut = ct := ⟨cut.toNat, by omega⟩
  have hcap := hs.cap
  have HC := Lib.hid (celled_any ea w hG f2 f3 f4 f5)
  have HLo : Hid (∀ w', Below w.heap.size w w' → Calls Tryd.prog 10 #[.slice A n c, .int .i64 (60 : Nat)] w' fun e w'' => e = .returned (.int .i64 0) ∧ w'' = w') := Lib.hid fun w' hb => by
    have := longOps_any A n c 60 L w' (hs.below hb) (by omega) (by omega)
    rw [hlo] at this
    exact this
  have hlen : n = L.length := hs.len
  have hno : L.length ≤ 60 ∧ ∀ x ∈ L, longOp x = false := by
    unfold longOps at hlo
    rw [Bool.or_eq_false_iff, decide_eq_false_iff_not, List.any_eq_false] at hlo
    exact ⟨by omega, fun x hx => by simpa using hlo.2 x hx⟩
  have HW : Hid (∀ x ∈ L, x.Wf) := Lib.hid fun x hx => by
    have h := hno.2 x hx
    simp only [longOp, Bool.or_eq_false_iff, decide_eq_false_iff_not] at h
    exact hwf x hx (by omega) (by omega)
  have hn60 : n ≤ 60 := by omega
  have HN := Lib.hid hlen
  have HS := Lib.hid hs
  have HG := Lib.hid hG
  clear hG hs hlo hcap hE hwf hno hlen
  go_enter Tryd.func3, Tryd.ntmps3
  go_wp2_with fail
  refine HC.out.mono ?_
  rintro r w1 ⟨rfl, hb⟩
  have HB1 := Lib.hid hb
  clear hb HC
  go_wp2_with fail
  refine (HLo.out _ HB1.out).mono ?_
  rintro r w2 ⟨rfl, rfl⟩
  clear HLo
  go_wp2_with fail
  go_loopw [6] (fun v6 wr => ∃ i : Nat, i ≤ n ∧ v6 = .int .i64 i ∧ Hid (OneTo L i 0) ∧ Hid (Below w.heap.size w wr)) (fun v6 _ => n - (intOf v6).toNat)
  case atStart => exact ⟨0, by omega, rfl, Lib.hid (OneTo.start L), HB1⟩
  case round =>
    clear HB1
    obtain ⟨i, hi, rfl, HO, HB⟩ := hrel
    by_cases hlt : i < n
    · obtain ⟨y, hy⟩ : ∃ y, L[i]? = some y := ⟨_, List.getElem?_eq_getElem (by have := HN.out; omega)⟩
      have HY := Lib.hid hy
      have i1 : (0 : Int) ≤ (i : Int) := by omega
      have i2 : (i : Int) < (n : Int) := by omega
      clear hy
      go_wp2_with fail
      go_loopw [7] (fun v7 wq => ∃ k : Nat, k ≤ i ∧ v7 = .int .i64 k ∧ Hid (OneTo L i k) ∧ Hid (Below w.heap.size w wq)) (fun v7 _ => i - (intOf v7).toNat)
      case atStart => exact ⟨0, by omega, rfl, HO, HB⟩
      case round =>
        clear HO HB
        obtain ⟨k, hk, rfl, HO, HB⟩ := hrel
        by_cases hlt2 : k < i
        · obtain ⟨x, hx⟩ : ∃ x, L[k]? = some x := ⟨_, List.getElem?_eq_getElem (by have := HN.out; omega)⟩
          obtain ⟨b, off, rfl, hbl, c0, c1, c2, c3, c4, c5, c6, c7⟩ := ops_at (HS.out.below HB.out) hx
          obtain ⟨b', off', he', _, d0, d1, d2, d3, d4, d5, d6, d7⟩ := ops_at (HS.out.below HB.out) HY.out
          cases he'
          have HX := Lib.hid hx
          have k1 : (0 : Int) ≤ (k : Int) := by omega
          have k2 : (k : Int) < (i : Int) := by omega
          have k3 : (k : Int) < (n : Int) := by omega
          clear hx hbl
          obtain ⟨ts, hts⟩ : ∃ ts, (x.t == y.t && x.b == y.b) = ts := ⟨_, rfl⟩
          have hes : ∀ w, (Op.equalIn 10000 26 (.agg #[.int .i64 x.t, .int .i64 x.b]) (.agg #[.int .i64 y.t, .int .i64 y.b])).run Tryd.prog w = .ok ts w := fun w => by rw [eqStamp_run, hts]
          have HTs := Lib.hid hts
          have HBq := Lib.hid (fun nq => below_drawn HB.out nq)
          clear hts
          cases ts with
          | false =>
            have HO1 := Lib.hid (HO.out.step HX.out HY.out (fun e1 e2 => by have := HTs.out; rw [e1, e2] at this; simp at this))
            go_wp2_with fail
            go_quiet (fail)
            rename_i nq
            have HB2 := Lib.hid (HBq.out nq)
            clear c0 c1 c2 c3 c4 c5 c6 c7 d0 d1 d2 d3 d4 d5 d6 d7 hes
            go_wp2_with fail
            go_roundw
            case rel => exact ⟨k + 1, by omega, by go_num, HO1, HB2⟩
            case measure => simp [intOf]; omega
          | true =>
            obtain ⟨te, hte⟩ : ∃ te, opEqB x y = te := ⟨_, rfl⟩
            have heo : ∀ w, (Op.equalIn 10000 28 (opV x) (opV y)).run Tryd.prog w = .ok te w := fun w => by rw [eqOp_run, hte]
            have HTe := Lib.hid hte
            clear hte
            cases te with
            | false =>
              go_wp2_with fail
              go_quiet (fail)
              rename_i nq
              have HB2 := Lib.hid (HBq.out nq)
              clear c0 c1 c2 c3 c4 c5 c6 c7 d0 d1 d2 d3 d4 d5 d6 d7 hes heo
              go_wp2_with fail
              go_ret
              exact ⟨rfl, HB2.out⟩
            | true =>
              have HO1 := Lib.hid (HO.out.step HX.out HY.out (fun _ _ => (opEqB_iff x y).1 HTe.out))
              go_wp2_with fail
              go_quiet (fail)
              rename_i nq
              have HB2 := Lib.hid (HBq.out nq)
              clear c0 c1 c2 c3 c4 c5 c6 c7 d0 d1 d2 d3 d4 d5 d6 d7 hes heo
              go_wp2_with fail
              go_roundw
              case rel => exact ⟨k + 1, by omega, by go_num, HO1, HB2⟩
              case measure => simp [intOf]; omega
        · have hki : k = i := by omega
          subst hki
          have HO1 := Lib.hid HO.out.next
          go_wp2_with fail
          go_roundw
          case rel => exact ⟨k + 1, by omega, by go_num, HO1, HB⟩
          case measure => simp [intOf]; omega
    · have hin : i = n := by omega
      have hlt3 : ¬ (i : Int) < (n : Int) := by omega
      have HOne : Hid (OneStamp L) := Lib.hid (OneTo.all (by have := HO.out; rw [hin, HN.out] at this; exact this))
      clear HO
      go_wp2_with fail
      refine (cellsNew_any _).mono ?_
      rintro r w2 ⟨C1, b1, rfl, hS1, hb1⟩
      have HS1 := Lib.hid hS1
      have HBa := Lib.hid hb1
      clear hS1 hb1
      go_wp2_with fail
      refine (cellsNew_any _).mono ?_
      rintro r w3 ⟨C2, b2, rfl, hS2, hb2⟩
      have HS2 := Lib.hid hS2
      have HBb := Lib.hid hb2
      clear hS2 hb2
      go_wp2_with fail
      refine (cellsNew_any _).mono ?_
      rintro r w4 ⟨C3, b3, rfl, hS3, hb3⟩
      have HJ := Lib.hid (J3.made HB.out HS1.out HBa.out HS2.out HBb.out hS3 hb3)
      clear hS3 hb3 HS1 HBa HS2 HBb HB
      have HSet : Hid (∀ base C b k m x w', Below w.heap.size w w' → x ∈ L → k ≤ 200 → CSt base C b k m w' → Calls Tryd.prog 12 #[.pointer (some ⟨C, 0, none⟩), opV x] w' fun e w'' =>
          e = .returned (.tuple #[.bool (setC m x).2.1, errW ea (setC m x).2.2]) ∧ CSt base C b (k + 1) (setC m x).1 w'' ∧ Fr (· = b) w' w'') := Lib.hid fun base C b k m x w' hb hx hk hS => cset_any ea base C b k m x w' (HW.out x hx) (HG.out.below hb) f2 f3 f4 f5 hS (by unfold maxLen; omega)
      go_wp2_with fail
      go_loopw [11] (fun v11 wq => ∃ (j : Nat) (m1 : MapC), j ≤ n ∧ v11 = .int .i64 ((j : Int) - 1) ∧ J3 w C1 b1 C2 b2 C3 b3 (n - j) 0 0 m1 (fun _ => none) (fun _ => none) wq ∧ Hid (BestAll (InL (L.drop j)) m1)) (fun v11 _ => (intOf v11 + 1).toNat)
      case atStart =>
        refine ⟨n, fun _ => none, Nat.le_refl _, by go_num, ?_, Lib.hid (by rw [HN.out, List.drop_length]; exact BestAll.start)⟩
        rw [Nat.sub_self]; exact HJ.out
      case round =>
        clear HJ
        obtain ⟨j, m1, hj, rfl, hJ, HBe⟩ := hrel
        have HJ := Lib.hid hJ
        clear hJ
        cases j with
        | succ i2 =>
          obtain ⟨x, hx⟩ : ∃ x, L[i2]? = some x := ⟨_, List.getElem?_eq_getElem (by have := HN.out; omega)⟩
          obtain ⟨b, off, rfl, hbl, c0, c1, c2, c3, c4, c5, c6, c7⟩ := ops_at (HS.out.below HJ.out.bel) hx
          have HX := Lib.hid hx
          have HC := Lib.hid (HSet.out w.heap.size C1 b1 (n - (i2 + 1)) m1 x _ HJ.out.bel (List.mem_of_getElem? hx) (by omega) HJ.out.s1)
          have HBe1 := Lib.hid (best_drop HBe.out hx)
          have e1 : ((i2 + 1 : Nat) : Int) - 1 = (i2 : Int) := by omega
          have i3 : (0 : Int) ≤ (i2 : Int) := by omega
          have i4 : (i2 : Int) < (n : Int) := by omega
          have i5 : ¬ (i2 : Int) < 0 := by omega
          rw [e1]
          clear hx hbl e1
          go_wp2_with fail
          refine HC.out.mono ?_
          rintro r w5 ⟨rfl, hS5, hF5⟩
          have HJ5 := Lib.hid (HJ.out.set1 hS5 hF5)
          clear hS5 hF5 HC c0 c1 c2 c3 c4 c5 c6 c7
          go_wp2_with fail
          go_roundw
          case rel => exact ⟨i2, _, by omega, by go_num, by rw [show n - i2 = n - (i2 + 1) + 1 by omega]; exact HJ5.out, HBe1⟩
          case measure => simp [intOf] <;> omega
        | zero =>
          have e1 : ((0 : Nat) : Int) - 1 = -1 := by omega
          rw [e1]
          clear e1
          go_wp2_with fail
          go_loopw [12] (fun v12 wq => ∃ (i : Nat) (m2 m3 : MapC), i ≤ n ∧ v12 = .int .i64 i ∧ J3 w C1 b1 C2 b2 C3 b3 n i i m1 m2 m3 wq ∧ Hid (Parts L ct i m2 m3)) (fun v12 _ => n - (intOf v12).toNat)
          case atStart => exact ⟨0, _, _, by omega, rfl, HJ.out, Lib.hid (Parts.start L ct)⟩
          case round =>
            clear HJ
            obtain ⟨i2, m2, m3, hi2, rfl, hJ, HP⟩ := hrel
            have HJ := Lib.hid hJ
            clear hJ
            by_cases hlt2 : i2 < n
            · obtain ⟨x, hx⟩ : ∃ x, L[i2]? = some x := ⟨_, List.getElem?_eq_getElem (by have := HN.out; omega)⟩
              obtain ⟨b, off, rfl, hbl, c0, c1, c2, c3, c4, c5, c6, c7⟩ := ops_at (HS.out.below HJ.out.bel) hx
              have i3 : (0 : Int) ≤ (i2 : Int) := by omega
              have i4 : (i2 : Int) < (n : Int) := by omega
              by_cases hct : i2 < ct
              · have HC := Lib.hid (HSet.out w.heap.size C2 b2 i2 m2 x _ HJ.out.bel (List.mem_of_getElem? hx) (by omega) HJ.out.s2)
                have HP1 := Lib.hid (HP.out.step1 hct hx)
                have i6 : (i2 : Int) < (ct : Int) := by omega
                clear hx hbl hct
                go_wp2_with fail
                refine HC.out.mono ?_
                rintro r w5 ⟨rfl, hS5, hF5⟩
                have hJ5 := HJ.out.set2 hS5 hF5
                have HJ5 : Hid (J3 w C1 b1 C2 b2 C3 b3 n (i2 + 1) (i2 + 1) m1 (setC m2 x).1 m3 w5) := Lib.hid ⟨hJ5.s1, hJ5.s2, hJ5.s3.mono (by omega), hJ5.a12, hJ5.a13, hJ5.a23, hJ5.bel⟩
                clear hS5 hF5 hJ5 HC c0 c1 c2 c3 c4 c5 c6 c7
                go_wp2_with fail
                go_roundw
                case rel => exact ⟨i2 + 1, _, _, by omega, by go_num, HJ5.out, HP1⟩
                case measure => simp [intOf]; omega
              · have HC := Lib.hid (HSet.out w.heap.size C3 b3 i2 m3 x _ HJ.out.bel (List.mem_of_getElem? hx) (by omega) HJ.out.s3)
                have HP1 := Lib.hid (HP.out.step2 hct hx)
                have i6 : ¬ (i2 : Int) < (ct : Int) := by omega
                clear hx hbl hct
                go_wp2_with fail
                refine HC.out.mono ?_
                rintro r w5 ⟨rfl, hS5, hF5⟩
                have hJ5 := HJ.out.set3 hS5 hF5
                have HJ5 : Hid (J3 w C1 b1 C2 b2 C3 b3 n (i2 + 1) (i2 + 1) m1 m2 (setC m3 x).1 w5) := Lib.hid ⟨hJ5.s1, hJ5.s2.mono (by omega), hJ5.s3, hJ5.a12, hJ5.a13, hJ5.a23, hJ5.bel⟩
                clear hS5 hF5 hJ5 HC c0 c1 c2 c3 c4 c5 c6 c7
                go_wp2_with fail
                go_roundw
                case rel => exact ⟨i2 + 1, _, _, by omega, by go_num, HJ5.out, HP1⟩
                case measure => simp [intOf]; omega
            · have hi2n : i2 = n := by omega
              have hlt4 : ¬ (i2 : Int) < (n : Int) := by omega
              have HSame : Hid ((∀ k, KeyOk k → m1 k = joinC m2 m3 k) ∧ (∀ k, KeyOk k → m1 k = joinC m3 (joinC m2 m3) k)) := Lib.hid (Parts.all (ct := ct) (by have := HP.out; rw [hi2n, HN.out] at this; exact this) (by have := HN.out; omega) HBe.out HOne.out)
              clear HP HBe HOne
              have HX := Lib.hid (join2_any w.heap.size C2 b2 i2 C3 b3 i2 m2 m3 _ HJ.out.s2 HJ.out.s3 (by unfold maxLen; omega))
              go_wp2_with fail
              refine HX.out.mono ?_
              rintro r w5 ⟨Cx, bx, rfl, hSx, hbx⟩
              have HJ5 := Lib.hid (HJ.out.below hbx)
              have HSx := Lib.hid hSx
              have HY := Lib.hid (join2_any w.heap.size C3 b3 i2 Cx bx (i2 + i2) m3 (joinC m2 m3) w5 (HJ.out.below hbx).s3 (hSx.lower HJ.out.bel.size) (by unfold maxLen; omega))
              clear hSx hbx HX HJ
              go_wp2_with fail
              refine HY.out.mono ?_
              rintro r w6 ⟨Cy, by', rfl, hSy, hby⟩
              have HJ6 := Lib.hid (HJ5.out.below hby)
              have HSx6 := Lib.hid (HSx.out.below hby)
              have HZ := Lib.hid (join1_any w5.heap.size Cy by' (i2 + (i2 + i2)) (joinC m3 (joinC m2 m3)) w6 hSy (by unfold maxLen; omega))
              clear hSy hby HY HJ5 HSx
              go_wp2_with fail
              refine HZ.out.mono ?_
              rintro r w7 ⟨Cz, bz, rfl, hSz, hbz⟩
              have HJ7 := Lib.hid (HJ6.out.below hbz)
              have HSx7 := Lib.hid (HSx6.out.below hbz)
              have HSz7 := Lib.hid hSz
              clear hSz hbz HZ HJ6 HSx6
              have HM1 := Lib.hid (marks_any w.heap.size C1 b1 n m1 w7 HJ7.out.s1 (by omega))
              go_wp2_with fail
              refine HM1.out.mono ?_
              rintro r w8 ⟨v8, k8, rfl, hR8, p8, q8, l8, hb8⟩
              have HR8 := Lib.hid hR8
              have HJ8 := Lib.hid (HJ7.out.below hb8)
              have HSz8 := Lib.hid (HSz7.out.below hb8)
              have HM2 := Lib.hid (marks_any _ Cx bx (i2 + i2) (joinC m2 m3) w8 (HSx7.out.below hb8) (by omega))
              clear hR8 hb8 HM1 HJ7 HSx7 HSz7
              go_wp2_with fail
              refine HM2.out.mono ?_
              rintro r w9 ⟨v9, k9, rfl, hR9, p9, q9, l9, hb9⟩
              have HR9 := Lib.hid hR9
              have HR89 := Lib.hid (HR8.out.below hb9)
              have HJ9 := Lib.hid (HJ8.out.below hb9)
              have HM3 := Lib.hid (marks_any _ Cz bz (i2 + (i2 + i2)) (joinC m3 (joinC m2 m3)) w9 (HSz8.out.below hb9) (by omega))
              clear hR9 hb9 HM2 HJ8 HR8 HSz8
              go_wp2_with fail
              refine HM3.out.mono ?_
              rintro r wa ⟨va, ka, rfl, hRa, pa, qa, la, hba⟩
              have he1 := marks_same HSame.out.1 p8 q8 p9 q9
              have he2 := marks_same HSame.out.2 p8 q8 pa qa
              have hRa1 := HR89.out.below hba
              have hRa2 := HR9.out.below hba
              rw [he1] at hRa2
              rw [he2] at hRa
              obtain ⟨A1, g1, h1, rfl⟩ := hRa1.slice
              obtain ⟨A2, g2, h2, rfl⟩ := hRa2.slice
              obtain ⟨A3, g3, h3, rfl⟩ := hRa.slice
              obtain rfl : g1 = g2 := hRa1.sl.len.trans hRa2.sl.len.symm
              obtain rfl : g1 = g3 := hRa1.sl.len.trans hRa.sl.len.symm
              have HL1 : Hid (g1 = (k8.map (markOf m1)).length) := Lib.hid hRa1.sl.len
              have HT1 := Lib.hid hRa1.sl
              have HT2 := Lib.hid hRa2.sl
              have HT3 := Lib.hid hRa.sl
              have HBw := Lib.hid (HJ9.out.below hba).bel
              have hg1 : g1 ≤ 1000 := by have := HL1.out; rw [List.length_map] at this; omega
              generalize k8.map (markOf m1) = ms at HL1 HT1 HT2 HT3
              clear hRa1 hRa2 hRa he1 he2 hba HM3 HR89 HR9 HJ9 HSame p8 q8 p9 q9 pa qa l8 l9 la
              go_wp2_with fail
              go_loopw [18] (fun v18 wq => ∃ j : Nat, j ≤ g1 ∧ v18 = .int .i64 j ∧ Hid (Below wa.heap.size wa wq)) (fun v18 _ => g1 - (intOf v18).toNat)
              case atStart => exact ⟨0, by omega, rfl, Lib.hid (Below.refl _ _)⟩
              case round =>
                obtain ⟨j, hj, rfl, HBq⟩ := hrel
                by_cases hlt5 : j < g1
                · obtain ⟨x, hx⟩ : ∃ x, ms[j]? = some x := ⟨_, List.getElem?_eq_getElem (by have := HL1.out; omega)⟩
                  obtain ⟨b4, o4, rfl, _, cc⟩ := (HT1.out.below HBq.out).at' (by decide) hx
                  obtain ⟨b5, o5, rfl, _, dd⟩ := (HT2.out.below HBq.out).at' (by decide) hx
                  obtain ⟨b6, o6, rfl, _, ee⟩ := (HT3.out.below HBq.out).at' (by decide) hx
                  have c0 := cc 0 (.int .i64 x.nd) rfl
                  have c1 := cc 1 (.string x.nm) rfl
                  have c2 := cc 2 (.string x.vl) rfl
                  have d0 := dd 0 (.int .i64 x.nd) rfl
                  have d1 := dd 1 (.string x.nm) rfl
                  have d2 := dd 2 (.string x.vl) rfl
                  have e0 := ee 0 (.int .i64 x.nd) rfl
                  have e1 := ee 1 (.string x.nm) rfl
                  have e2 := ee 2 (.string x.vl) rfl
                  rw [show markE.k = 3 from rfl] at c0 c1 c2 d0 d1 d2 e0 e1 e2
                  rw [Nat.add_zero] at c0 d0 e0
                  rw [← Nat.add_assoc] at c1 c2 d1 d2 e1 e2
                  have j1 : (0 : Int) ≤ (j : Int) := by omega
                  have j2 : (j : Int) < (g1 : Int) := by omega
                  have heq : ∀ w, (Op.equalIn 10000 39 (.agg #[.int .i64 x.nd, .string x.nm, .string x.vl]) (.agg #[.int .i64 x.nd, .string x.nm, .string x.vl])).run Tryd.prog w = .ok true w := fun w => (eqMark_run x x w).trans (by simp)
                  have HBn := Lib.hid (fun nq => below_drawn HBq.out nq)
                  clear hx cc dd ee
                  go_wp2_with fail
                  go_quiet (fail)
                  rename_i nq
                  have HB2 := Lib.hid (HBn.out nq)
                  clear c0 c1 c2 d0 d1 d2 e0 e1 e2 heq
                  go_wp2_with fail
                  go_roundw
                  case rel => exact ⟨j + 1, by omega, by go_num, HB2⟩
                  case measure => simp [intOf] <;> omega
                · have j2 : ¬ (j : Int) < (g1 : Int) := by omega
                  have HBf := Lib.hid (HBw.out.trans (HBq.out.mono HBw.out.size))
                  go_wp2_with fail
                  go_ret
                  exact ⟨rfl, HBf.out⟩
end cellsJoins
end Go.Proofs.YtneggbhjekklhaaDoor
