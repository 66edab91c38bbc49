/- What the program's own and the library's variables hold: the ground of all walks. Numerals and cuts by the library. -/
import Derived.Test.YtneggbhjekklhaaDoorCode
import Derived.Test.YtneggbhjekklhaaDoorStr
import Derived.Test.YtneggbhjekklhaaDoorShelf
import Derived.Sort.Grow
import Derived.ShapedOpen
namespace Go.Proofs.YtneggbhjekklhaaDoor
open Go Go.RowKit Go.Shelf
set_option linter.unusedVariables false
set_option linter.unusedSimpArgs false
set_option maxHeartbeats 1000000
set_option maxRecDepth 100000

theorem var_below {P : Program} {w w' : World} {n : String} {cs : Array Value} (h : w.var? P n = some cs) (hb : Below w.heap.size w w') : w'.var? P n = some cs := by
  unfold World.var? at h ⊢
  cases hg : P.globalNamed n with
  | none => rw [hg] at h; cases h
  | some g =>
    rw [hg] at h
    simp only [Option.bind_some] at h ⊢
    have hlt : g < w.heap.size := by
      rcases Nat.lt_or_ge g w.heap.size with h1 | h1
      · exact h1
      · rw [Array.getElem?_eq_none (by omega)] at h
        cases h
    rw [hb.block g hlt]
    exact h

def dbTab : List Int := [0, 1, 56, 2, 57, 49, 28, 3, 61, 58, 42, 50, 38, 29, 17, 4, 62, 47, 59, 36, 45, 43, 51, 22, 53, 39, 33, 30, 24, 18, 12, 5, 63, 55, 48, 27, 60, 41, 37, 16, 46, 35, 44, 21, 52, 32, 23, 11, 54, 26, 40, 15, 34, 20, 31, 10, 25, 14, 19, 9, 13, 8, 7, 6]
/-- the ground: what the variables hold, of those that F names (1 to 12: errors; 20: errors.errorType; 21: the powers of ten; 22: what Atoi and Split read; 23: the table of math/bits.TrailingZeros64) -/
structure Gd (F : Nat → Bool) (a : Nat → Addr) (w : World) : Prop where
  errs : ∀ k, 1 ≤ k → k ≤ 12 → F k = true → ErrAt w (errG k) (errT k) (a k)
  tv : F 20 = true → TypeVar w
  tab : F 21 = true → Lib.TabIs Tryd.prog w "internal/strconv.uint64pow10" .u64 Lib.pow10Tab
  syn : F 22 = true → ∃ tp p, w.var? Tryd.prog "strconv.ErrSyntax" = some #[.iface tp p]
  rng : F 22 = true → ∃ tp p, w.var? Tryd.prog "strconv.ErrRange" = some #[.iface tp p]
  len : F 22 = true → ∃ m, w.cell? ⟨15, 0, none⟩ = some (.int .i64 m)
  db : F 23 = true → Lib.TabIs Tryd.prog w "math/bits.deBruijn64tab" .u8 dbTab
theorem Gd.below {F : Nat → Bool} {a : Nat → Addr} {w w' : World} (h : Gd F a w) (hb : Below w.heap.size w w') : Gd F a w' where
  errs := fun k h1 h2 hf => (h.errs k h1 h2 hf).below hb
  tv := fun hf => (h.tv hf).below hb
  tab := fun hf => var_below (h.tab hf) hb
  syn := fun hf => let ⟨tp, p, e⟩ := h.syn hf; ⟨tp, p, var_below e hb⟩
  rng := fun hf => let ⟨tp, p, e⟩ := h.rng hf; ⟨tp, p, var_below e hb⟩
  len := fun hf => let ⟨m, e⟩ := h.len hf; ⟨m, (hb.cell (World.block_lt_of_cell? _ _ e)).trans e⟩
  db := fun hf => var_below (h.db hf) hb
theorem Gd.alloc {F : Nat → Bool} {a : Nat → Addr} {w : World} (h : Gd F a w) (o : Obj) : Gd F a (w.alloc o) := h.below ((Below.refl _ _).alloc (Nat.le_refl _) _)
theorem Gd.drew {F : Nat → Bool} {a : Nat → Addr} {w : World} (h : Gd F a w) : Gd F a w.drew := h.below (Below.refl _ _).drew
theorem Gd.all {F : Nat → Bool} {a : Nat → Addr} {w : World} (h : Gd F a w) (hF : ∀ k, 1 ≤ k → k ≤ 12 → F k = true) : Errs a allErrs w := by
  intro k hk
  have : 1 ≤ k ∧ k ≤ 12 := by
    simp only [allErrs, List.mem_cons, List.not_mem_nil, or_false] at hk
    omega
  exact h.errs k this.1 this.2 (hF k this.1 this.2)

theorem below_drewN (B : Nat) (w : World) (k : Nat) : Below B w (w.drewN k) := by
  induction k with
  | zero => exact Below.refl _ _
  | succ k ih => exact ⟨ih.os, ih.tape, ih.output, ih.size, ih.block⟩
theorem below_grow (w : World) (os : Array Obj) : Below w.heap.size w (Go.Sort.grow w os) :=
  ⟨rfl, rfl, rfl, by simp [Go.Sort.grow], fun k hk => by show (w.heap ++ os)[k]? = _; rw [Array.getElem?_append, if_pos hk]⟩

theorem size_drewN (w : World) (k : Nat) : (w.drewN k).heap.size = w.heap.size := by
  induction k with
  | zero => rfl
  | succ k ih => exact ih

theorem itoa_any {F : Nat → Bool} (a : Nat → Addr) (n : Int) (w : World) (hG : Gd F a w) (f21 : F 21 = true) (h0 : -9223372036854775808 ≤ n) (h1 : n ≤ 9223372036854775807) :
    Calls Tryd.prog 63 #[.int .i64 n] w fun e w' => e = .returned (.string (S (Lib.itoa n))) ∧ Below w.heap.size w w' :=
  (Tryd.strconv_Itoa n h0 h1 w (hG.tab f21)).mono fun _ _ ⟨he, k, os, hw⟩ => ⟨he, by
    subst hw
    have h1 := below_drewN w.heap.size w k
    have h2 := below_grow (w.drewN k) os
    have h3 : (w.drewN k).heap.size = w.heap.size := size_drewN w k
    rw [h3] at h2
    exact h1.trans h2⟩

theorem below_bytesWorld (w : World) (e : TypeId) (t : ByteArray) : Below w.heap.size w (Lib.bytesWorld w e t) := by
  refine ⟨rfl, rfl, rfl, ?_, fun k hk => ?_⟩
  · simp [Lib.bytesWorld, World.freeze]
  · simp only [Lib.bytesWorld, World.freeze]
    rw [if_neg (by omega)]
    show (Array.modify _ _ _)[k]? = _
    rw [Array.getElem?_modify, if_neg (by omega)]
    exact Below.heap_alloc _ _ k hk

/-- how Atoi ends: a number and no error, or some error -/
def AtoiEnds (s : List UInt8) (w : World) (e : Ending) (w' : World) : Prop :=
  Below w.heap.size w w' ∧ ((∃ v, Lib.atoiAll s = .ok v ∧ e = .returned (.tuple #[.int .i64 v, .nilIface])) ∨ ((∀ v, Lib.atoiAll s ≠ .ok v) ∧ ∃ v t p, e = .returned (.tuple #[.int .i64 v, .iface t p])))

theorem atoi_any {F : Nat → Bool} (a : Nat → Addr) (s : ByteArray) (w : World) (hG : Gd F a w) (f22 : F 22 = true) (hs : s.size ≤ 140737488355328) :
    Calls Tryd.prog 67 #[.string s] w (AtoiEnds s.data.toList w) := by
  obtain ⟨t1, p1, e1⟩ := hG.syn f22
  obtain ⟨t2, p2, e2⟩ := hG.rng f22
  rcases h : Lib.atoiAll s.data.toList with v | _ | _
  · refine (Tryd.strconv_Atoi_ok s (by omega) v h w).mono fun _ _ ⟨he, hw⟩ => ⟨?_, .inl ⟨v, h, he⟩⟩
    rcases hw with rfl | ⟨t, rfl⟩
    · exact Below.refl _ _
    · exact below_bytesWorld w _ t
  · exact (Any.strconv_Atoi_syntax_var Tryd.laysC172 s (by omega) h t1 p1 w e1).mono fun _ _ ⟨N, he, _, _, hb⟩ => ⟨hb, .inr ⟨fun v hv => (by rw [h] at hv; cases hv), _, _, _, he⟩⟩
  · exact (Any.strconv_Atoi_range_var Tryd.laysC172 s (by omega) h t2 p2 w e2).mono fun _ _ ⟨N, he, _, _, hb⟩ => ⟨hb, .inr ⟨fun v hv => (by rw [h] at hv; cases hv), _, _, _, he⟩⟩

end Go.Proofs.YtneggbhjekklhaaDoor
