/- VectorPairs: the walk. -/
import Derived.Test.YthlojjknpfijmaaGreatDoorVpA
import Derived.Test.YthlojjknpfijmaaGreatDoorVpP
namespace Go.Proofs.YthlojjknpfijmaaGreatDoor
open Go Go.RowKit
namespace vectorPairs
set_option linter.unusedVariables false
set_option linter.unusedSimpArgs false
set_option maxHeartbeats 8000000
set_option maxRecDepth 100000

/-- is one of the first so many greater? -/
def anyGt (x y : Nat → Int) : Nat → Bool | 0 => false | j + 1 => anyGt x y j || decide (y j < x j)
def mx (x y : Nat → Int) (i k : Nat) : Int := if k < i then max (x k) (y k) else 0

/-- in the loop: the state, the join in the making -/
structure Lp (F : Nat → Bool) (ea : Nat → Addr) (w0 : World) (L : List Vb) (J : Nat) (f : Nat → Int) (w : World) : Prop where
  p : Pw F ea w0 L w
  j : ∀ k, k < 4 → w.cell? ⟨J, k, none⟩ = some (.int .i64 (f k))
  fz : ∀ o, w.frozen? ⟨J, o, none⟩ = false
  lt : J < w.heap.size
  ge : w0.heap.size ≤ J
  ne : ∀ y ∈ L, y.1 ≠ J
theorem Lp.drew {F : Nat → Bool} {ea : Nat → Addr} {w0 w : World} {L : List Vb} {J : Nat} {f : Nat → Int} (h : Lp F ea w0 L J f w) : Lp F ea w0 L J f w.drew :=
  ⟨h.p.below (Below.refl _ _).drew, h.j, h.fz, h.lt, h.ge, h.ne⟩
theorem Lp.below {F : Nat → Bool} {ea : Nat → Addr} {w0 w w' : World} {L : List Vb} {J : Nat} {f : Nat → Int} (h : Lp F ea w0 L J f w) (hb : Below w.heap.size w w') : Lp F ea w0 L J f w' :=
  ⟨h.p.below hb, fun k hk => (hb.cell h.lt).trans (h.j k hk), fun o => (hb.frozen h.lt).trans (h.fz o), Nat.lt_of_lt_of_le h.lt hb.size, h.ge, h.ne⟩
theorem Lp.set {F : Nat → Bool} {ea : Nat → Addr} {w0 w : World} {L : List Vb} {J : Nat} {f f' : Nat → Int} (h : Lp F ea w0 L J f w) (hG0 : Gd F ea w0) (i : Nat) (x : Int) (hi : i < 4) (hf : ∀ k, k < 4 → f' k = if k = i then x else f k) : Lp F ea w0 L J f' (w.setCell ⟨J, i, none⟩ (.int .i64 x)) := by
  refine ⟨h.p.set hG0 J i _ h.ge h.ne, ?_, fun o => by have := h.fz o; simpa using this, by have := h.lt; simpa using this, h.ge, h.ne⟩
  intro k hk
  rw [hf k hk]
  by_cases e : k = i
  · subst e
    rw [if_pos rfl]
    exact World.cell?_setCell_same _ _ _ (h.j k hk)
  · rw [if_neg e, World.cell?_setCell_other _ _ _ _ (by simp [e])]
    exact h.j k hk

theorem nth_at {w : World} {B : Nat} {a b c d : Int} (h : VecAt w B a b c d) (i : Nat) (hi : i < 4) : w.cell? ⟨B, i, none⟩ = some (.int .i64 (nth a b c d i)) := by
  match i, hi with
  | 0, _ => exact h.1
  | 1, _ => exact h.2.1
  | 2, _ => exact h.2.2.1
  | 3, _ => exact h.2.2.2

theorem faulted_ok (a : Nat → Addr) (v : Value) (k : Nat) (pl c : Int) (w : World) (hv : ErrVal a w v k pl) (hE : Errs a allErrs w) (hT : TypeVar w) (hk : (k : Int) = c) :
    Calls Tryz.prog 12 #[v, faultS c pl] w fun e w' => e = .returned (.bool true) ∧ Below w.heap.size w w' :=
  (faulted_any a v k pl c pl w hv hE hT).mono fun _ _ ⟨he, hb⟩ => ⟨by rw [he]; simp [hk], hb⟩

theorem vfK_code (a b c d : Int) : ((vfK a b c d : Nat) : Int) = vfCode a b c d := by
  unfold vfK vfCode
  split <;> rfl

/-- the fault's own block -/
structure Fb (FB w0s : Nat) (fc fa : Int) (w : World) : Prop where
  c0 : w.cell? ⟨FB, 0, none⟩ = some (.int .i64 fc)
  c1 : w.cell? ⟨FB, 1, none⟩ = some (.int .i64 fa)
  fz : ∀ o, w.frozen? ⟨FB, o, none⟩ = false
  lt : FB < w.heap.size
  ge : w0s ≤ FB
theorem Fb.below {FB w0s : Nat} {fc fa : Int} {w w' : World} (h : Fb FB w0s fc fa w) (hb : Below w.heap.size w w') : Fb FB w0s fc fa w' :=
  ⟨(hb.cell h.lt).trans h.c0, (hb.cell h.lt).trans h.c1, fun o => (hb.frozen h.lt).trans (h.fz o), Nat.lt_of_lt_of_le h.lt hb.size, h.ge⟩
structure P2 (F : Nat → Bool) (ea : Nat → Addr) (w0 : World) (L : List Vb) (FB : Nat) (fc fa : Int) (w : World) : Prop where
  p : Pw F ea w0 L w
  fb : Fb FB w0.heap.size fc fa w
theorem P2.below {F : Nat → Bool} {ea : Nat → Addr} {w0 w w' : World} {L : List Vb} {FB : Nat} {fc fa : Int} (h : P2 F ea w0 L FB fc fa w) (hb : Below w.heap.size w w') : P2 F ea w0 L FB fc fa w' := ⟨h.p.below hb, h.fb.below hb⟩
structure Sd (F : Nat → Bool) (ea : Nat → Addr) (w0 : World) (L : List Vb) (v : Value) (k : Nat) (pl : Int) (w : World) : Prop where
  pw : Pw F ea w0 L w
  e : ErrVal ea w v k pl
theorem errval_set {a : Nat → Addr} {w : World} {v : Value} {k : Nat} {pl : Int} (h : ErrVal a w v k pl) (FB o : Nat) (x : Value) (hn : ∀ pb po, v = faultV ⟨pb, po, none⟩ → pb ≠ FB) : ErrVal a (w.setCell ⟨FB, o, none⟩ x) v k pl := by
  rcases h with h | h | ⟨h1, h2, pb, po, rfl, p0, p1⟩
  · exact .inl h
  · exact .inr (.inl h)
  · have := hn pb po rfl
    exact .inr (.inr ⟨h1, h2, pb, po, rfl, (World.cell?_setCell_other _ _ _ _ (by simp [this])).trans p0, (World.cell?_setCell_other _ _ _ _ (by simp [this])).trans p1⟩)
theorem Pw.sub {F : Nat → Bool} {ea : Nat → Addr} {w0 w : World} {L L' : List Vb} (h : Pw F ea w0 L w) (hs : ∀ x ∈ L', x ∈ L) : Pw F ea w0 L' w := ⟨fun x hx => h.vs x (hs x hx), h.gd, h.bel⟩

theorem walk {F : Nat → Bool} (ea : Nat → Addr) (a b c d e f g h : Int) (s : ByteArray) (w : World) (hG : Gd F ea w) (hF : ∀ k, 1 ≤ k → k ≤ 12 → F k = true) (f20 : F 20 = true) (f21 : F 21 = true) (f22 : F 22 = true)
    (hs : s.size ≤ 100) (ht1 : tameB a b c d = true) (ht2 : tameB e f g h = true) :
    Calls Tryz.prog 3 #[vecV a b c d, vecV e f g h, .string s] w fun r w' => r = .returned (.bool true) ∧ Below w.heap.size w w' := by
  have f2 := hF 2 (by omega) (by omega)
  have f1 := hF 1 (by omega) (by omega)
  have hP : Pw F ea w [(w.heap.size + 1, e, f, g, h), (w.heap.size, a, b, c, d)] ((w.alloc (.cells #[.int .i64 a, .int .i64 b, .int .i64 c, .int .i64 d] 22)).alloc (.cells #[.int .i64 e, .int .i64 f, .int .i64 g, .int .i64 h] 22)) := by
    have := ((Pw.mk (w0 := w) (L := []) (by simp) hG (Below.refl _ _)).new a b c d 22).new e f g h 22
    simpa using this
  have HP := Lib.hid hP
  have HG := Lib.hid hG
  have HF := Lib.hid hF
  have HT1 := Lib.hid ht1
  have HT2 := Lib.hid ht2
  clear hP hG hF ht1 ht2
  have d1 : decide (100 < (s.size : Int)) = false := by simp; omega
  go_enter Tryz.func3, Tryz.ntmps3
  go_wp2_with fail
  refine (counted_any ea _ HP.out.gd f2 f21).mono ?_
  rintro r w1 ⟨rfl, hb⟩
  have hP := HP.out.below hb
  obtain ⟨x0, x1, x2, x3⟩ := hP.at w.heap.size a b c d (by simp)
  have HP1 := Lib.hid hP
  clear hb HP hP
  go_wp2_with fail
  refine (tame_is true a b c d _ HT1.out).mono ?_
  rintro r w2 ⟨rfl, hb⟩
  have hP := HP1.out.below hb
  clear x0 x1 x2 x3
  obtain ⟨y0, y1, y2, y3⟩ := hP.at (w.heap.size + 1) e f g h (by simp)
  have HP := Lib.hid hP
  clear hb HP1 hP
  go_wp2_with fail
  refine (tame_is true e f g h _ HT2.out).mono ?_
  rintro r w3 ⟨rfl, hb⟩
  have hP := HP.out.below hb
  clear y0 y1 y2 y3
  obtain ⟨y0, y1, y2, y3⟩ := hP.at (w.heap.size + 1) e f g h (by simp)
  obtain ⟨x0, x1, x2, x3⟩ := hP.at w.heap.size a b c d (by simp)
  have la := hP.lt (B := w.heap.size) (a := a) (b := b) (c := c) (d := d) (by simp)
  have lb := hP.lt (B := w.heap.size + 1) (a := e) (b := f) (c := g) (d := h) (by simp)
  have n0 : w.heap.size ≠ w3.heap.size := by omega
  have n1 : w.heap.size + 1 ≠ w3.heap.size := by omega
  have HP1 := Lib.hid hP
  clear hb HP hP
  go_wp2_with fail
  clear x0 x1 x2 x3 y0 y1 y2 y3 la lb n0 n1 d1
  have hP3 := ((HP1.out.new a b c d 25).new e f g h 25).below ((Below.refl _ _).alloc (Nat.le_refl _) (.cells #[.int .i64 0, .int .i64 0, .int .i64 0, .int .i64 0] 22))
  obtain ⟨W, hW⟩ : ∃ W, W = (((w3.alloc (.cells #[.int .i64 a, .int .i64 b, .int .i64 c, .int .i64 d] 25)).alloc (.cells #[.int .i64 e, .int .i64 f, .int .i64 g, .int .i64 h] 25)).alloc (.cells #[.int .i64 0, .int .i64 0, .int .i64 0, .int .i64 0] 22)) := ⟨_, rfl⟩
  have hL : Lp F ea w [(w3.heap.size + 1, e, f, g, h), (w3.heap.size, a, b, c, d), (w.heap.size + 1, e, f, g, h), (w.heap.size, a, b, c, d)] (w3.heap.size + 1 + 1) (mx (nth a b c d) (nth e f g h) 0) W := by
    have hge := HP1.out.bel.size
    have hla := HP1.out.lt (B := w.heap.size) (a := a) (b := b) (c := c) (d := d) (by simp)
    have hlb := HP1.out.lt (B := w.heap.size + 1) (a := e) (b := f) (c := g) (d := h) (by simp)
    subst hW
    refine ⟨by simpa using hP3, ?_, fun o => by simp [go_sem], by simp, by omega, ?_⟩
    · intro k hk
      match k, hk with
      | 0, _ => simp [go_sem, mx]
      | 1, _ => simp [go_sem, mx]
      | 2, _ => simp [go_sem, mx]
      | 3, _ => simp [go_sem, mx]
    · intro y hy
      simp only [List.mem_cons, List.not_mem_nil, or_false] at hy
      rcases hy with rfl | rfl | rfl | rfl <;> simp <;> omega
  rw [← hW]
  obtain ⟨X, hX⟩ : ∃ X, X = w3.heap.size := ⟨_, rfl⟩
  rw [← hX] at hL ⊢
  clear hW hP3 HP1 hX
  have HL := Lib.hid hL
  clear hL
  have bx : ∀ j, -1099511627776 ≤ nth a b c d j ∧ nth a b c d j ≤ 1099511627776 := by
    have := HT1.out
    unfold tameB at this
    obtain ⟨⟨p1, p2⟩, ⟨p3, p4⟩, ⟨p5, p6⟩, ⟨p7, p8⟩⟩ := of_decide_eq_true this
    intro j
    match j with
    | 0 => exact ⟨p1, p2⟩
    | 1 => exact ⟨p3, p4⟩
    | 2 => exact ⟨p5, p6⟩
    | _ + 3 => exact ⟨p7, p8⟩
  have bY : ∀ j, -1099511627776 ≤ nth e f g h j ∧ nth e f g h j ≤ 1099511627776 := by
    have := HT2.out
    unfold tameB at this
    obtain ⟨⟨p1, p2⟩, ⟨p3, p4⟩, ⟨p5, p6⟩, ⟨p7, p8⟩⟩ := of_decide_eq_true this
    intro j
    match j with
    | 0 => exact ⟨p1, p2⟩
    | 1 => exact ⟨p3, p4⟩
    | 2 => exact ⟨p5, p6⟩
    | _ + 3 => exact ⟨p7, p8⟩
  have HX := Lib.hid bx
  have HY := Lib.hid bY
  clear bx bY
  obtain ⟨xs, hxs⟩ : ∃ xs, xs = nth a b c d := ⟨_, rfl⟩
  obtain ⟨ys, hys⟩ : ∃ ys, ys = nth e f g h := ⟨_, rfl⟩
  rw [← hxs] at HL HX
  rw [← hys] at HL HY
  have HXS := Lib.hid hxs
  have HYS := Lib.hid hys
  clear hxs hys
  go_loopw [11, 12, 13, 14] (fun v11 v12 v13 v14 wr => ∃ i : Nat, v14 = .int .i64 i ∧ i ≤ 4 ∧ v11 = .int .i64 (lk xs ys i) ∧ v12 = .bool (anyGt xs ys i) ∧ v13 = .bool (anyGt ys xs i) ∧ Lp F ea w [(X + 1, e, f, g, h), (X, a, b, c, d), (w.heap.size + 1, e, f, g, h), (w.heap.size, a, b, c, d)] (X + 1 + 1) (mx xs ys i) wr) (fun _ _ _ v14 _ => 4 - (intOf v14).toNat)
  case atStart => exact ⟨0, rfl, by omega, rfl, rfl, rfl, HL.out⟩
  case round =>
    clear HL
    obtain ⟨i, rfl, hi, rfl, rfl, rfl, hL⟩ := hrel
    by_cases hlt : i < 4
    · have i0 : (0 : Int) ≤ (i : Int) := by omega
      have i1 : (i : Int) < 4 := by omega
      have x1 := (HX.out i).1
      have x2 := (HX.out i).2
      have y1 := (HY.out i).1
      have y2 := (HY.out i).2
      have b1 := (lk_bd xs ys (fun j => by have := HX.out j; have := HY.out j; omega) i).1
      have b2 := (lk_bd xs ys (fun j => by have := HX.out j; have := HY.out j; omega) i).2
      have HL := Lib.hid hL
      clear hL
      by_cases hg : xs i < ys i
      · have hng : ¬ ys i < xs i := by omega
        have c0 := nth_at (HL.out.p.at w.heap.size a b c d (by simp)) i hlt
        have c1 := nth_at (HL.out.p.at (w.heap.size + 1) e f g h (by simp)) i hlt
        rw [← HXS.out] at c0
        rw [← HYS.out] at c1
        have cj := HL.out.j i hlt
        have fj := HL.out.fz i
        have nj0 : w.heap.size ≠ X + 1 + 1 := HL.out.ne (w.heap.size, a, b, c, d) (by simp)
        have nj1 : w.heap.size + 1 ≠ X + 1 + 1 := HL.out.ne (w.heap.size + 1, e, f, g, h) (by simp)
        have HN := Lib.hid hng
        have HGT := Lib.hid hg
        go_wp2_with fail
        go_region
        go_wp2_with fail
        go_region
        go_wp2_with fail
        go_region
        go_wp2_with fail
        go_roundw
        case rel => exact ⟨i + 1, by go_num, by omega, by simp only [lk]; rw [show max 0 (ys i - xs i) = ys i - xs i by have := HGT.out; omega]; refine congrArg (Value.int .i64) ?_; omega, by simp only [anyGt]; rw [decide_eq_false (by have := HN.out; omega)]; simp, by simp only [anyGt]; rw [decide_eq_true HGT.out]; simp,
          (((HL.out.set HG.out (f' := fun k => if k = i then xs i else mx xs ys i k) i (xs i) hlt (fun k _ => rfl)).set HG.out (f' := mx xs ys (i + 1)) i (ys i) hlt (fun k _ => by
            have := HGT.out
            unfold mx
            by_cases e : k = i
            · subst e; rw [if_pos (by omega), if_pos rfl]; omega
            · rw [if_neg e, if_neg e]
              by_cases e2 : k < i
              · rw [if_pos e2, if_pos (by omega)]
              · rw [if_neg e2, if_neg (by omega)])).drew).drew.drew⟩
        case measure => simp [intOf]; omega
      · have HGT := Lib.hid hg
        by_cases hg2 : ys i < xs i
        · have HN := Lib.hid hg2
          have c0 := nth_at (HL.out.p.at w.heap.size a b c d (by simp)) i hlt
          have c1 := nth_at (HL.out.p.at (w.heap.size + 1) e f g h (by simp)) i hlt
          rw [← HXS.out] at c0
          rw [← HYS.out] at c1
          have cj := HL.out.j i hlt
          have fj := HL.out.fz i
          have nj0 : w.heap.size ≠ X + 1 + 1 := HL.out.ne (w.heap.size, a, b, c, d) (by simp)
          have nj1 : w.heap.size + 1 ≠ X + 1 + 1 := HL.out.ne (w.heap.size + 1, e, f, g, h) (by simp)
          go_wp2_with fail
          go_region
          go_wp2_with fail
          go_region
          go_wp2_with fail
          go_roundw
          case rel => exact ⟨i + 1, by go_num, by omega, by simp only [lk]; rw [show max 0 (ys i - xs i) = 0 by have := HGT.out; omega]; simp, by simp only [anyGt]; rw [decide_eq_true HN.out]; simp, by simp only [anyGt]; rw [decide_eq_false (by have := HGT.out; omega)]; simp,
            (HL.out.set HG.out (f' := mx xs ys (i + 1)) i (xs i) hlt (fun k _ => by
              have := HGT.out
              unfold mx
              by_cases e : k = i
              · subst e; rw [if_pos (by omega), if_pos rfl]; omega
              · rw [if_neg e]
                by_cases e2 : k < i
                · rw [if_pos e2, if_pos (by omega)]
                · rw [if_neg e2, if_neg (by omega)])).drew.drew⟩
          case measure => simp [intOf]; omega
        · have HN := Lib.hid hg2
          have c0 := nth_at (HL.out.p.at w.heap.size a b c d (by simp)) i hlt
          have c1 := nth_at (HL.out.p.at (w.heap.size + 1) e f g h (by simp)) i hlt
          rw [← HXS.out] at c0
          rw [← HYS.out] at c1
          have cj := HL.out.j i hlt
          have fj := HL.out.fz i
          have nj0 : w.heap.size ≠ X + 1 + 1 := HL.out.ne (w.heap.size, a, b, c, d) (by simp)
          have nj1 : w.heap.size + 1 ≠ X + 1 + 1 := HL.out.ne (w.heap.size + 1, e, f, g, h) (by simp)
          go_wp2_with fail
          go_region
          go_wp2_with fail
          go_region
          go_wp2_with fail
          go_roundw
          case rel => exact ⟨i + 1, by go_num, by omega, by simp only [lk]; rw [show max 0 (ys i - xs i) = 0 by have := HGT.out; omega]; simp, by simp only [anyGt]; rw [decide_eq_false (by have := HN.out; omega)]; simp, by simp only [anyGt]; rw [decide_eq_false (by have := HGT.out; omega)]; simp,
            (HL.out.set HG.out (f' := mx xs ys (i + 1)) i (xs i) hlt (fun k _ => by
              have := HGT.out
              unfold mx
              by_cases e : k = i
              · subst e; rw [if_pos (by omega), if_pos rfl]; omega
              · rw [if_neg e]
                by_cases e2 : k < i
                · rw [if_pos e2, if_pos (by omega)]
                · rw [if_neg e2, if_neg (by omega)])).drew.drew⟩
          case measure => simp [intOf]; omega
    · have hi4 : i = 4 := by omega
      have HI := Lib.hid hi4
      have hge : ¬ (i : Int) < 4 := by omega
      have HL := Lib.hid hL
      clear hL hi4 hlt
      obtain ⟨m, hm⟩ : ∃ m, mx xs ys i 0 = m := ⟨_, rfl⟩
      obtain ⟨n, hn⟩ : ∃ m, mx xs ys i 1 = m := ⟨_, rfl⟩
      obtain ⟨o, ho⟩ : ∃ m, mx xs ys i 2 = m := ⟨_, rfl⟩
      obtain ⟨p, hp⟩ : ∃ m, mx xs ys i 3 = m := ⟨_, rfl⟩
      have HM := Lib.hid hm
      have HN := Lib.hid hn
      have HO := Lib.hid ho
      have HPP := Lib.hid hp
      clear hm hn ho hp
      have limS : Hid (∀ w', Lp F ea w [(X + 1, e, f, g, h), (X, a, b, c, d), (w.heap.size + 1, e, f, g, h), (w.heap.size, a, b, c, d)] (X + 1 + 1) (mx xs ys i) w' → w'.cell? ⟨X, 0, none⟩ = some (.int .i64 a) ∧ w'.cell? ⟨X, 1, none⟩ = some (.int .i64 b) ∧ w'.cell? ⟨X, 2, none⟩ = some (.int .i64 c) ∧ w'.cell? ⟨X, 3, none⟩ = some (.int .i64 d) ∧ w'.cell? ⟨X + 1, 0, none⟩ = some (.int .i64 e) ∧ w'.cell? ⟨X + 1, 1, none⟩ = some (.int .i64 f) ∧ w'.cell? ⟨X + 1, 2, none⟩ = some (.int .i64 g) ∧ w'.cell? ⟨X + 1, 3, none⟩ = some (.int .i64 h) ∧ w'.cell? ⟨X + 1 + 1, 0, none⟩ = some (.int .i64 m) ∧ w'.cell? ⟨X + 1 + 1, 1, none⟩ = some (.int .i64 n) ∧ w'.cell? ⟨X + 1 + 1, 2, none⟩ = some (.int .i64 o) ∧ w'.cell? ⟨X + 1 + 1, 3, none⟩ = some (.int .i64 p) ∧ Lp F ea w [(X + 1, e, f, g, h), (X, a, b, c, d), (w.heap.size + 1, e, f, g, h), (w.heap.size, a, b, c, d)] (X + 1 + 1) (mx xs ys i) w') := fun w' h' => by
        have x := h'.p.at X a b c d (by simp)
        have y := h'.p.at (X + 1) e f g h (by simp)
        have j0 := h'.j 0 (by omega)
        have j1 := h'.j 1 (by omega)
        have j2 := h'.j 2 (by omega)
        have j3 := h'.j 3 (by omega)
        rw [HM.out] at j0
        rw [HN.out] at j1
        rw [HO.out] at j2
        rw [HPP.out] at j3
        exact ⟨x.1, x.2.1, x.2.2.1, x.2.2.2, y.1, y.2.1, y.2.2.1, y.2.2.2, j0, j1, j2, j3, h'⟩
      have JC : Hid (∀ w, Calls Tryz.prog 7 #[vecV a b c d, vecV e f g h] w fun r w' => r = .returned (vecV m n o p) ∧ Below w.heap.size w w') := fun w => (join_any a b c d e f g h w).mono fun _ _ ⟨he, hb⟩ => ⟨by
        rw [he, ← HM.out, ← HN.out, ← HO.out, ← HPP.out, HI.out, HXS.out, HYS.out]
        rfl, hb⟩
      have LC : Hid (∀ w, Calls Tryz.prog 10 #[vecV a b c d, vecV e f g h] w fun r w' => r = .returned (.int .i64 (lk xs ys i)) ∧ Below w.heap.size w w') := fun w => (lacks_any a b c d e f g h w HT1.out HT2.out).mono fun _ _ ⟨he, hb⟩ => ⟨by
        rw [he, HI.out, HXS.out, HYS.out]
        refine ret_int ?_
        simp only [lk, nth]
        omega, hb⟩
      have AB : Hid (anyGt xs ys i = decide (e < a ∨ f < b ∨ g < c ∨ h < d)) := by
        show anyGt xs ys i = _
        rw [HI.out, HXS.out, HYS.out, Bool.eq_iff_iff]
        simp only [anyGt, nth, Bool.or_eq_true, decide_eq_true_iff, Bool.false_eq_true, false_or]
        omega
      have UN : Hid (anyGt ys xs i = decide (a < e ∨ b < f ∨ c < g ∨ d < h)) := by
        show anyGt ys xs i = _
        rw [HI.out, HXS.out, HYS.out, Bool.eq_iff_iff]
        simp only [anyGt, nth, Bool.or_eq_true, decide_eq_true_iff, Bool.false_eq_true, false_or]
        omega
      generalize hab : anyGt xs ys i = ab
      generalize hun : anyGt ys xs i = un
      rw [hab] at AB
      rw [hun] at UN
      clear hab hun
      obtain ⟨want, hwant⟩ : ∃ q : Int, q = (if ab then (if un then 2 else 1) else (if un then -1 else 0)) := ⟨_, rfl⟩
      have CC : Hid (∀ w, Calls Tryz.prog 8 #[vecV a b c d, vecV e f g h] w fun r w' => r = .returned (.bool (!un)) ∧ Below w.heap.size w w') := fun w => covers_b _ _ _ _ _ _ _ _ _ w (by
        have := UN.out
        rw [this, Bool.eq_iff_iff]
        simp [coversB])
      have OC : Hid (∀ w, Calls Tryz.prog 9 #[vecV a b c d, vecV e f g h] w fun r w' => r = .returned (.int .i64 want) ∧ Below w.heap.size w w') := fun w => (order_any a b c d e f g h w).mono fun _ _ ⟨he, hb⟩ => ⟨by
        rw [he]
        refine ret_int ?_
        have q1 := AB.out
        have q2 := UN.out
        rw [hwant]
        unfold ordV
        cases ab <;> cases un <;> simp at q1 q2
        · show _ = (0 : Int)
          rw [if_pos (by omega)]
        · show _ = (-1 : Int)
          rw [if_neg (by omega), if_neg (by omega), if_pos (by omega)]
        · show _ = (1 : Int)
          rw [if_neg (by omega), if_pos (by omega)]
        · show _ = (2 : Int)
          rw [if_neg (by omega), if_neg (by omega), if_neg (by omega)], hb⟩
      have HW := Lib.hid hwant
      clear hwant
      cases ab <;> cases un
      all_goals
        (try have hwv : want = 0 := HW.out); (try have hwv : want = -1 := HW.out); (try have hwv : want = 1 := HW.out); (try have hwv : want = 2 := HW.out)
        subst hwv
        clear AB UN HW
        go_wp2_with fail
        go_region_held3 (fun w' => w'.cell? ⟨X, 0, none⟩ = some (.int .i64 a) ∧ w'.cell? ⟨X, 1, none⟩ = some (.int .i64 b) ∧ w'.cell? ⟨X, 2, none⟩ = some (.int .i64 c) ∧ w'.cell? ⟨X, 3, none⟩ = some (.int .i64 d) ∧ w'.cell? ⟨X + 1, 0, none⟩ = some (.int .i64 e) ∧ w'.cell? ⟨X + 1, 1, none⟩ = some (.int .i64 f) ∧ w'.cell? ⟨X + 1, 2, none⟩ = some (.int .i64 g) ∧ w'.cell? ⟨X + 1, 3, none⟩ = some (.int .i64 h) ∧ w'.cell? ⟨X + 1 + 1, 0, none⟩ = some (.int .i64 m) ∧ w'.cell? ⟨X + 1 + 1, 1, none⟩ = some (.int .i64 n) ∧ w'.cell? ⟨X + 1 + 1, 2, none⟩ = some (.int .i64 o) ∧ w'.cell? ⟨X + 1 + 1, 3, none⟩ = some (.int .i64 p) ∧ Lp F ea w [(X + 1, e, f, g, h), (X, a, b, c, d), (w.heap.size + 1, e, f, g, h), (w.heap.size, a, b, c, d)] (X + 1 + 1) (mx xs ys i) w') (first | exact limS.out _ (HL.out.below (Below.drew (Below.refl _ _))) | exact limS.out _ (Lp.below (And.right (And.right (And.right (And.right (And.right (And.right (And.right (And.right (And.right (And.right (And.right (And.right (by assumption))))))))))))) (by assumption)))
          (first | (go_at_call 7; refine (JC.out _).mono ?_; rintro r wB ⟨rfl, hbB⟩) | (go_at_call 8; refine (CC.out _).mono ?_; rintro r wB ⟨rfl, hbB⟩) | (go_at_call 9; refine (OC.out _).mono ?_; rintro r wB ⟨rfl, hbB⟩) | (go_at_call 10; refine (LC.out _).mono ?_; rintro r wB ⟨rfl, hbB⟩))
        rename_i hH
        have hP : Pw F ea w [(X, a, b, c, d), (w.heap.size, a, b, c, d)] _ := (fun hx : Lp F ea w [(X + 1, e, f, g, h), (X, a, b, c, d), (w.heap.size + 1, e, f, g, h), (w.heap.size, a, b, c, d)] (X + 1 + 1) (mx xs ys i) _ => ⟨fun x hx' => hx.p.vs x (by simp only [List.mem_cons, List.not_mem_nil, or_false] at hx' ⊢; rcases hx' with rfl | rfl <;> simp), hx.p.gd, hx.p.bel⟩) (And.right (And.right (And.right (And.right (And.right (And.right (And.right (And.right (And.right (And.right (And.right (And.right hH))))))))))))
        have HP := Lib.hid hP
        obtain ⟨x0, x1, x2, x3⟩ := hP.at w.heap.size a b c d (by simp)
        clear hH hP limS JC LC CC OC HL
        go_wp2_with fail
        refine (vectorFault_any a b c d _).mono ?_
        rintro r w5 ⟨rfl, hb5⟩
        have hP := HP.out.below hb5
        have HP5 := Lib.hid hP
        clear HP x0 x1 x2 x3 hb5 hP
        go_wp2_with fail
        have bb := HT1.out
        unfold tameB at bb
        obtain ⟨bA, bB, bC, bD⟩ := of_decide_eq_true bb
        replace bA : -9223372036854775808 ≤ a ∧ a ≤ 9223372036854775807 := by omega
        replace bB : -9223372036854775808 ≤ b ∧ b ≤ 9223372036854775807 := by omega
        replace bC : -9223372036854775808 ≤ c ∧ c ≤ 9223372036854775807 := by omega
        replace bD : -9223372036854775808 ≤ d ∧ d ≤ 9223372036854775807 := by omega
        clear bb
        obtain ⟨FB, hFB⟩ : ∃ FB, FB = w5.heap.size := ⟨_, rfl⟩
        obtain ⟨fc, hfc⟩ : ∃ fc, vfCode a b c d = fc := ⟨_, rfl⟩
        obtain ⟨fa, hfa⟩ : ∃ fa, vfAt a b c d = fa := ⟨_, rfl⟩
        obtain ⟨W6, hW6⟩ : ∃ W6, W6 = w5.alloc (.cells #[.int .i64 (vfCode a b c d), .int .i64 (vfAt a b c d)] 30) := ⟨_, rfl⟩
        have hP := HP5.out.below ((Below.refl _ _).alloc (Nat.le_refl _) (.cells #[.int .i64 (vfCode a b c d), .int .i64 (vfAt a b c d)] 30))
        have u0 : W6.cell? ⟨w5.heap.size, 0, none⟩ = some (.int .i64 (vfCode a b c d)) := by rw [hW6]; simp [go_sem]
        have u1 : W6.cell? ⟨w5.heap.size, 1, none⟩ = some (.int .i64 (vfAt a b c d)) := by rw [hW6]; simp [go_sem]
        have hfb : Fb w5.heap.size w.heap.size (vfCode a b c d) (vfAt a b c d) W6 := ⟨u0, u1, fun o => by rw [hW6]; simp [go_sem], by rw [hW6]; simp, HP5.out.bel.size⟩
        rw [← hW6] at hP ⊢
        rw [← hFB] at hfb ⊢
        rw [hfc, hfa] at hfb
        rw [hfc, hfa]
        have HFC := Lib.hid hfc
        have HFA := Lib.hid hfa
        have HP := Lib.hid (P2.mk hP hfb)
        clear hW6 HP5 hFB hfc hfa u0 u1 hP hfb
        have lim2 : Hid (∀ w', P2 F ea w [(X, a, b, c, d), (w.heap.size, a, b, c, d)] FB fc fa w' → w'.cell? ⟨X, 0, none⟩ = some (.int .i64 a) ∧ w'.cell? ⟨X, 1, none⟩ = some (.int .i64 b) ∧ w'.cell? ⟨X, 2, none⟩ = some (.int .i64 c) ∧ w'.cell? ⟨X, 3, none⟩ = some (.int .i64 d) ∧ w'.cell? ⟨w.heap.size, 0, none⟩ = some (.int .i64 a) ∧ w'.cell? ⟨w.heap.size, 1, none⟩ = some (.int .i64 b) ∧ w'.cell? ⟨w.heap.size, 2, none⟩ = some (.int .i64 c) ∧ w'.cell? ⟨w.heap.size, 3, none⟩ = some (.int .i64 d) ∧ w'.cell? ⟨FB, 0, none⟩ = some (.int .i64 fc) ∧ w'.cell? ⟨FB, 1, none⟩ = some (.int .i64 fa) ∧ P2 F ea w [(X, a, b, c, d), (w.heap.size, a, b, c, d)] FB fc fa w') := fun w' h' => by
          have x := h'.p.at X a b c d (by simp)
          have y := h'.p.at w.heap.size a b c d (by simp)
          exact ⟨x.1, x.2.1, x.2.2.1, x.2.2.2, y.1, y.2.1, y.2.2.1, y.2.2.2, h'.fb.c0, h'.fb.c1, h'⟩
        have gd0 : Hid (∀ w', (w'.cell? ⟨X, 0, none⟩ = some (.int .i64 a) ∧ w'.cell? ⟨X, 1, none⟩ = some (.int .i64 b) ∧ w'.cell? ⟨X, 2, none⟩ = some (.int .i64 c) ∧ w'.cell? ⟨X, 3, none⟩ = some (.int .i64 d) ∧ w'.cell? ⟨w.heap.size, 0, none⟩ = some (.int .i64 a) ∧ w'.cell? ⟨w.heap.size, 1, none⟩ = some (.int .i64 b) ∧ w'.cell? ⟨w.heap.size, 2, none⟩ = some (.int .i64 c) ∧ w'.cell? ⟨w.heap.size, 3, none⟩ = some (.int .i64 d) ∧ w'.cell? ⟨FB, 0, none⟩ = some (.int .i64 fc) ∧ w'.cell? ⟨FB, 1, none⟩ = some (.int .i64 fa) ∧ P2 F ea w [(X, a, b, c, d), (w.heap.size, a, b, c, d)] FB fc fa w') → Gd F ea w') := fun w' h' => (And.right (And.right (And.right (And.right (And.right (And.right (And.right (And.right (And.right (And.right h')))))))))).p.gd
        obtain ⟨kk, hkk⟩ : ∃ kk, vfK a b c d = kk := ⟨_, rfl⟩
        have hkc : (kk : Int) = fc := by rw [← hkk, vfK_code, HFC.out]
        have CK : Hid (∀ w, Gd F ea w → Calls Tryz.prog 13 #[vecV a b c d] w fun r w' => ∃ v, r = .returned v ∧ Hid (ErrVal ea w' v kk fa) ∧ Below w.heap.size w w') := fun w hg => (check_any ea a b c d w hg f2).mono fun e w' ⟨v, he, hv, hb, _⟩ => ⟨v, he, by rw [hkk, HFA.out] at hv; exact hv, hb⟩
        have TC : Hid (∀ w, Gd F ea w → Calls Tryz.prog 14 #[vecV a b c d] w fun r w' => r = .returned (.string (S (vecT a b c d))) ∧ Below w.heap.size w w') := fun w hg => text_any ea a b c d w hg f21 bA bB bC bD
        have VC : Hid (∀ w, Calls Tryz.prog 15 #[vecV a b c d] w fun r w' => r = .returned (.string (S (vecT a b c d))) ∧ Below w.heap.size w w') := fun w => vectorText_any a b c d w bA bB bC bD
        have HKC := Lib.hid hkc
        have HKK := Lib.hid hkk
        obtain ⟨tx, htx⟩ : ∃ tx, S (vecT a b c d) = tx := ⟨_, rfl⟩
        rw [htx] at TC VC
        have HTX := Lib.hid htx
        clear hkc hkk bA bB bC bD htx
        go_region_held3 (fun w' => w'.cell? ⟨X, 0, none⟩ = some (.int .i64 a) ∧ w'.cell? ⟨X, 1, none⟩ = some (.int .i64 b) ∧ w'.cell? ⟨X, 2, none⟩ = some (.int .i64 c) ∧ w'.cell? ⟨X, 3, none⟩ = some (.int .i64 d) ∧ w'.cell? ⟨w.heap.size, 0, none⟩ = some (.int .i64 a) ∧ w'.cell? ⟨w.heap.size, 1, none⟩ = some (.int .i64 b) ∧ w'.cell? ⟨w.heap.size, 2, none⟩ = some (.int .i64 c) ∧ w'.cell? ⟨w.heap.size, 3, none⟩ = some (.int .i64 d) ∧ w'.cell? ⟨FB, 0, none⟩ = some (.int .i64 fc) ∧ w'.cell? ⟨FB, 1, none⟩ = some (.int .i64 fa) ∧ P2 F ea w [(X, a, b, c, d), (w.heap.size, a, b, c, d)] FB fc fa w') (first | exact lim2.out _ (HP.out.below (Below.drew (Below.refl _ _))) | exact lim2.out _ (P2.below (And.right (And.right (And.right (And.right (And.right (And.right (And.right (And.right (And.right (And.right (by assumption))))))))))) (by assumption)))
          (first
            | (go_at_call 13; refine (CK.out _ ?_).mono ?_; (exact gd0.out _ (by assumption)); rintro r wB ⟨v, rfl, hv, hbB⟩)
            | (go_at_call 12; refine (faulted_ok ea _ kk fa fc _ ?_ ?_ ?_ HKC.out).mono ?_; (first | exact Hid.out (by assumption) | exact ErrVal.below (Hid.out (by assumption)) (Below.drew (Below.refl _ _))); (exact (gd0.out _ (by assumption)).all HF.out); (exact (gd0.out _ (by assumption)).tv f20); rintro r wB ⟨rfl, hbB⟩)
            | (go_at_call 14; refine (TC.out _ ?_).mono ?_; (exact gd0.out _ (by assumption)); rintro r wB ⟨rfl, hbB⟩)
            | (go_at_call 15; refine (VC.out _).mono ?_; rintro r wB ⟨rfl, hbB⟩))
        rename_i hH
        have HP7 := Lib.hid (And.right (And.right (And.right (And.right (And.right (And.right (And.right (And.right (And.right (And.right hH))))))))))
        clear hH lim2 gd0 HP CK VC
        have RC : Hid (vfAt a b c d < 0 → ∀ w, Gd F ea w → Calls Tryz.prog 16 #[.string tx] w fun r w' => r = .returned (.tuple #[vecV a b c d, .nilIface]) ∧ Below w.heap.size w w') := fun hv w hg => by
          have hsz : tx.size ≤ 1000 := by
            rw [← HTX.out, S_size]
            have la := itoa_len20 a
            have lb := itoa_len20 b
            have lc := itoa_len20 c
            have ld := itoa_len20 d
            have bb := HT1.out
            unfold tameB at bb
            obtain ⟨b1, b2, b3, b4⟩ := of_decide_eq_true bb
            replace la := la (by omega) (by omega)
            replace lb := lb (by omega) (by omega)
            replace lc := lc (by omega) (by omega)
            replace ld := ld (by omega) (by omega)
            rw [S_size] at la lb lc ld
            simp only [vecT, Lib.join, List.intercalate, List.intersperse, List.flatten_cons, List.length_append, List.length_cons, List.length_nil, List.flatten_nil]
            omega
          refine (read_any ea tx w hg f1 f2 f21 f22 hsz).mono ?_
          rintro r w' ⟨v, he, hv', hb, _⟩
          rw [← HTX.out, S_list, vecRd_self a b c d hv] at he hv'
          refine ⟨?_, hb⟩
          rcases hv' with ⟨h1, _⟩ | ⟨h1, _⟩ | ⟨h1, _⟩
          · rw [he, h1]
          · exact absurd (show 1 ≤ 0 from h1) (by omega)
          · exact absurd (show 1 ≤ 0 from h1) (by omega)
        obtain ⟨rr, hrr⟩ : ∃ rr, vecRdOf (Num.cutL 46 s.data.toList) = rr := ⟨_, rfl⟩
        have RS : Hid (∀ w, Gd F ea w → Calls Tryz.prog 16 #[.string s] w fun r w' => ∃ v, r = .returned (.tuple #[vecW rr, v]) ∧ Hid (ErrVal ea w' v rr.2.1 rr.2.2) ∧ Below w.heap.size w w' ∧ Hid (∀ pb po, v = faultV ⟨pb, po, none⟩ → w.heap.size ≤ pb)) := fun w hg => by
          rw [← hrr]
          exact read_any ea s w hg f1 f2 f21 f22 (by omega)
        have VS : Hid (∀ w, Calls Tryz.prog 17 #[.string s] w fun r w' => r = .returned (.tuple #[vecW rr, faultS rr.2.1 rr.2.2]) ∧ Below w.heap.size w w') := fun w => by
          rw [← hrr]
          exact vectorOf_any s w (by omega)
        obtain ⟨⟨r1, r2, r3, r4⟩, rk, rp⟩ := rr
        have RS' : Hid (∀ w, Gd F ea w → Calls Tryz.prog 16 #[.string s] w fun r w' => ∃ v, r = .returned (.tuple #[vecV r1 r2 r3 r4, v]) ∧ Hid (ErrVal ea w' v rk rp) ∧ Below w.heap.size w w' ∧ Hid (∀ pb po, v = faultV ⟨pb, po, none⟩ → w.heap.size ≤ pb)) := RS.out
        have VS' : Hid (∀ w, Calls Tryz.prog 17 #[.string s] w fun r w' => r = .returned (.tuple #[vecV r1 r2 r3 r4, faultS rk rp]) ∧ Below w.heap.size w w') := VS.out
        clear RS VS hrr
        by_cases hf : vfAt a b c d < 0
        · have hfc : fc = 0 := by rw [← HFC.out]; unfold vfCode; rw [if_pos hf]
          have HFF := Lib.hid hf
          subst hfc
          clear hf
          have u0 := HP7.out.fb.c0
          obtain ⟨x0, x1, x2, x3⟩ := HP7.out.p.at X a b c d (by simp)
          go_wp2_with fail
          refine (TC.out _ HP7.out.p.gd).mono ?_
          rintro r w8 ⟨rfl, hb⟩
          have hP := HP7.out.below hb
          have HP8 := Lib.hid hP
          clear x0 x1 x2 x3 u0 HP7 hb hP
          go_wp2_with fail
          refine (RC.out HFF.out _ HP8.out.p.gd).mono ?_
          rintro r w9 ⟨rfl, hb⟩
          have hP := HP8.out.below hb
          obtain ⟨x0, x1, x2, x3⟩ := hP.p.at X a b c d (by simp)
          have hlx := hP.p.lt (B := X) (a := a) (b := b) (c := c) (d := d) (by simp)
          have nx : X ≠ w9.heap.size := by omega
          have HPC := Lib.hid (hP.below ((Below.refl _ _).alloc (Nat.le_refl _) (.cells #[.int .i64 a, .int .i64 b, .int .i64 c, .int .i64 d] 25)))
          clear HP8 hb hP
          have hPc := HPC.out
          go_wp2_with fail
          refine (RS'.out _ hPc.p.gd).mono ?_
          rintro r wc ⟨v, rfl, hv, hb, hfr⟩
          have hP := (hPc.p.below hb).new r1 r2 r3 r4 25
          have HP := Lib.hid hP
          have hlc := hPc.fb.lt
          have HFB := Lib.hid (hPc.fb.below hb)
          have HFR := hfr
          have hgc := hPc.p.bel.size
          clear hPc HPC hb hfr hP
          go_wp2_with fail
          refine (VS'.out _).mono ?_
          rintro r wd ⟨rfl, hb⟩
          have hP := HP.out.below hb
          have hFB := (HFB.out.below ((Below.refl _ _).alloc (Nat.le_refl _) (.cells #[.int .i64 r1, .int .i64 r2, .int .i64 r3, .int .i64 r4] 25))).below hb
          have HV2 := Lib.hid ((hv.out.below ((Below.refl _ _).alloc (Nat.le_refl _) (.cells #[.int .i64 r1, .int .i64 r2, .int .i64 r3, .int .i64 r4] 25))).below hb)
          have HPD := Lib.hid hP
          have hszc : wc.heap.size + 1 ≤ wd.heap.size := by have := hb.size; simp at this; exact this
          have hlw := HFB.out.lt
          have n0 : FB ≠ wd.heap.size := by omega
          have HFD := Lib.hid hFB
          obtain ⟨q0, q1, hq, hql, hqg⟩ := hFB
          clear HP HFB hb hP hv
          go_wp2_with fail
          have n1 : FB ≠ wc.heap.size := by omega
          have hnn : ∀ pb po, v = faultV ⟨pb, po, none⟩ → pb ≠ FB := fun pb po e => by have := HFR.out pb po e; omega
          have hS : Sd F ea w [(wd.heap.size, r1, r2, r3, r4), (wc.heap.size, r1, r2, r3, r4)] v rk rp (((wd.setCell ⟨FB, 0, none⟩ (.int .i64 rk)).setCell ⟨FB, 1, none⟩ (.int .i64 rp)).alloc (.cells #[.int .i64 r1, .int .i64 r2, .int .i64 r3, .int .i64 r4] 22)) := by
            have hq1 : ∀ y ∈ [(wc.heap.size, r1, r2, r3, r4)], y.1 ≠ FB := by
              intro y hy
              simp only [List.mem_cons, List.not_mem_nil, or_false] at hy
              rcases hy with rfl
              exact Ne.symm n1
            refine ⟨?_, (errval_set (errval_set HV2.out FB 0 _ hnn) FB 1 _ hnn).below ((Below.refl _ _).alloc (Nat.le_refl _) _)⟩
            have := (((HPD.out.sub (L' := [(wc.heap.size, r1, r2, r3, r4)]) (fun x hx => by
              simp only [List.mem_cons, List.not_mem_nil, or_false] at hx ⊢
              rcases hx with rfl
              simp)).set HG.out FB 0 (.int .i64 rk) hqg hq1).set HG.out FB 1 (.int .i64 rp) hqg hq1).new r1 r2 r3 r4 22
            simpa using this
          refine (faulted_ok ea v rk rp rk _ hS.e (hS.pw.gd.all HF.out) (hS.pw.gd.tv f20) rfl).mono ?_
          rintro r we ⟨rfl, hb⟩
          have hP := hS.pw.below hb
          obtain ⟨z0, z1, z2, z3⟩ := hP.at wc.heap.size r1 r2 r3 r4 (by simp)
          obtain ⟨v0, v1, v2, v3⟩ := hP.at wd.heap.size r1 r2 r3 r4 (by simp)
          have hbel := hP.bel
          clear hS hb hP hnn hq HPD HFD HV2 HFR
          go_wp2_with fail
          go_ret
          exact ⟨by simp, hbel⟩
        · have hfc : fc = 2 := by rw [← HFC.out]; unfold vfCode; rw [if_neg hf]
          subst hfc
          clear hf RC TC
          have u0 := HP7.out.fb.c0
          have HPC := HP7
          clear HP7
          have hPc := HPC.out
          go_wp2_with fail
          refine (RS'.out _ hPc.p.gd).mono ?_
          rintro r wc ⟨v, rfl, hv, hb, hfr⟩
          have hP := (hPc.p.below hb).new r1 r2 r3 r4 25
          have HP := Lib.hid hP
          have hlc := hPc.fb.lt
          have HFB := Lib.hid (hPc.fb.below hb)
          have HFR := hfr
          have hgc := hPc.p.bel.size
          clear hPc HPC hb hfr hP
          go_wp2_with fail
          refine (VS'.out _).mono ?_
          rintro r wd ⟨rfl, hb⟩
          have hP := HP.out.below hb
          have hFB := (HFB.out.below ((Below.refl _ _).alloc (Nat.le_refl _) (.cells #[.int .i64 r1, .int .i64 r2, .int .i64 r3, .int .i64 r4] 25))).below hb
          have HV2 := Lib.hid ((hv.out.below ((Below.refl _ _).alloc (Nat.le_refl _) (.cells #[.int .i64 r1, .int .i64 r2, .int .i64 r3, .int .i64 r4] 25))).below hb)
          have HPD := Lib.hid hP
          have hszc : wc.heap.size + 1 ≤ wd.heap.size := by have := hb.size; simp at this; exact this
          have hlw := HFB.out.lt
          have n0 : FB ≠ wd.heap.size := by omega
          have HFD := Lib.hid hFB
          obtain ⟨q0, q1, hq, hql, hqg⟩ := hFB
          clear HP HFB hb hP hv
          go_wp2_with fail
          have n1 : FB ≠ wc.heap.size := by omega
          have hnn : ∀ pb po, v = faultV ⟨pb, po, none⟩ → pb ≠ FB := fun pb po e => by have := HFR.out pb po e; omega
          have hS : Sd F ea w [(wd.heap.size, r1, r2, r3, r4), (wc.heap.size, r1, r2, r3, r4)] v rk rp (((wd.setCell ⟨FB, 0, none⟩ (.int .i64 rk)).setCell ⟨FB, 1, none⟩ (.int .i64 rp)).alloc (.cells #[.int .i64 r1, .int .i64 r2, .int .i64 r3, .int .i64 r4] 22)) := by
            have hq1 : ∀ y ∈ [(wc.heap.size, r1, r2, r3, r4)], y.1 ≠ FB := by
              intro y hy
              simp only [List.mem_cons, List.not_mem_nil, or_false] at hy
              rcases hy with rfl
              exact Ne.symm n1
            refine ⟨?_, (errval_set (errval_set HV2.out FB 0 _ hnn) FB 1 _ hnn).below ((Below.refl _ _).alloc (Nat.le_refl _) _)⟩
            have := (((HPD.out.sub (L' := [(wc.heap.size, r1, r2, r3, r4)]) (fun x hx => by
              simp only [List.mem_cons, List.not_mem_nil, or_false] at hx ⊢
              rcases hx with rfl
              simp)).set HG.out FB 0 (.int .i64 rk) hqg hq1).set HG.out FB 1 (.int .i64 rp) hqg hq1).new r1 r2 r3 r4 22
            simpa using this
          refine (faulted_ok ea v rk rp rk _ hS.e (hS.pw.gd.all HF.out) (hS.pw.gd.tv f20) rfl).mono ?_
          rintro r we ⟨rfl, hb⟩
          have hP := hS.pw.below hb
          obtain ⟨z0, z1, z2, z3⟩ := hP.at wc.heap.size r1 r2 r3 r4 (by simp)
          obtain ⟨v0, v1, v2, v3⟩ := hP.at wd.heap.size r1 r2 r3 r4 (by simp)
          have hbel := hP.bel
          clear hS hb hP hnn hq HPD HFD HV2 HFR
          go_wp2_with fail
          go_ret
          exact ⟨by simp, hbel⟩

theorem whole {F : Nat → Bool} (ea : Nat → Addr) (a b c d e f g h : Int) (s : ByteArray) (w : World) (hG : Gd F ea w) (hF : ∀ k, 1 ≤ k → k ≤ 12 → F k = true) (f20 : F 20 = true) (f21 : F 21 = true) (f22 : F 22 = true) :
    Calls Tryz.prog 3 #[vecV a b c d, vecV e f g h, .string s] w fun r w' => r = .returned (.bool true) ∧ Below w.heap.size w w' := by
  by_cases h1 : 100 < s.size
  · exact walk_off ea a b c d e f g h s w hG (hF 2 (by omega) (by omega)) f21 (.inl h1)
  cases h2 : tameB a b c d with
  | false => exact walk_off ea a b c d e f g h s w hG (hF 2 (by omega) (by omega)) f21 (.inr (.inl ⟨by omega, h2⟩))
  | true =>
    cases h3 : tameB e f g h with
    | false => exact walk_off ea a b c d e f g h s w hG (hF 2 (by omega) (by omega)) f21 (.inr (.inr ⟨by omega, h2, h3⟩))
    | true => exact walk ea a b c d e f g h s w hG hF f20 f21 f22 (by omega) h2 h3
end vectorPairs
end Go.Proofs.YthlojjknpfijmaaGreatDoor
