/- Common ground of this seat: the program's closed facts, what the listed error variables give, small words on worlds. -/
import Derived.Test.YtneggbhjekklhaaDoorCards
import Derived.Test.YtneggbhjekklhaaDoorTie
import Derived.WalkKit
import Derived.WalkSpells
import Derived.WalkLawsBesides
import Derived.ProofKit
import Derived.OpenShut
import Derived.ChangeOld
import Derived.Below
import Derived.LaidMore
import Derived.LaidSub
import Derived.Stop.Joined
import Derived.Stop.LaidErr
import Derived.SevenTiedAt
import Derived.Lib.SmallJoins
import Derived.Lib.Hide
import Derived.Deep.RegionWith
import Derived.Deep.RegionHeld3
import Derived.Deep.QuietTactic
import Derived.BigQuiet
import Derived.Deep.DeepMust
import Derived.Deep.DeepFit
import Derived.Deep.LoopGhost
import Derived.Deep.DeepCutAuto
import Derived.Handy
namespace Go.Proofs.YtneggbhjekklhaaDoor
open Go Go.ChangeShapes Go.WideShapes Go.ChangeAt Go.RowKit
set_option linter.unusedVariables false
set_option linter.unusedSimpArgs false

theorem own : ownKnob Tryd.prog.godebug = none := by kernel_rfl
theorem laidOut : laidOutB Tryd.prog = true := by kernel_rfl

theorem errType : ∀ u, Tryd.prog.typeName? 3 u = some "*errors.errorString" → u = 252 :=
  typeName_ptr_named (nm := "errors.errorString") (by kernel_rfl) (by kernel_rfl) (by decide)

/-- the error that a package-level variable holds: a pointer to its text -/
abbrev errV (a : Addr) : Value := .iface 252 (.pointer (some a))

/-- the variable g holds an error at a, of this text -/
structure ErrAt (w : World) (g : Nat) (txt : List UInt8) (a : Addr) : Prop where
  var : w.cell? ⟨g, 0, none⟩ = some (.iface 252 (.pointer (some a)))
  cell : ∃ s : ByteArray, w.cell? a = some (.string s) ∧ s.data.toList = txt
  blk : ∃ c t, w.heap[a.block]? = some (.cells c t (0, 0))

theorem ErrAt.lt {w : World} {g : Nat} {txt : List UInt8} {a : Addr} (h : ErrAt w g txt a) : g < w.heap.size := World.block_lt_of_cell? w _ h.var
theorem ErrAt.lta {w : World} {g : Nat} {txt : List UInt8} {a : Addr} (h : ErrAt w g txt a) : a.block < w.heap.size := by
  obtain ⟨s, hs, _⟩ := h.cell
  exact World.block_lt_of_cell? w _ hs
theorem ErrAt.frame {w w' : World} {g : Nat} {txt : List UInt8} {a : Addr} (h : ErrAt w g txt a) (hb : ∀ k, k < w.heap.size → (k = g ∨ k = a.block) → w'.heap[k]? = w.heap[k]?) : ErrAt w' g txt a :=
  ⟨(World.cell?_of_block (w := w) (hb g h.lt (.inl rfl))).trans h.var,
   by obtain ⟨s, hs, e⟩ := h.cell; exact ⟨s, (World.cell?_of_block (w := w) (hb _ h.lta (.inr rfl))).trans hs, e⟩,
   by obtain ⟨c, t, hc⟩ := h.blk; exact ⟨c, t, (hb _ h.lta (.inr rfl)).trans hc⟩⟩
theorem ErrAt.below {w w' : World} {g : Nat} {txt : List UInt8} {a : Addr} (h : ErrAt w g txt a) (hb : Below w.heap.size w w') : ErrAt w' g txt a :=
  h.frame fun k hk _ => hb.block k hk
theorem ErrAt.alloc {w : World} {g : Nat} {txt : List UInt8} {a : Addr} (h : ErrAt w g txt a) (o : Obj) : ErrAt (w.alloc o) g txt a :=
  h.below ((Below.refl _ _).alloc (Nat.le_refl _) _)
theorem ErrAt.ne {w : World} {g g' : Nat} {txt txt' : List UInt8} {a a' : Addr} (h : ErrAt w g txt a) (h' : ErrAt w g' txt' a') (hne : txt ≠ txt') : a ≠ a' := by
  rintro rfl
  obtain ⟨s, hs, rfl⟩ := h.cell
  obtain ⟨s', hs', rfl⟩ := h'.cell
  rw [hs] at hs'
  cases hs'
  exact hne rfl

/-- the package-level variable of an error's number, and its text -/
def errG : Nat → Nat
  | 1 => 2
  | 2 => 3
  | 3 => 4
  | 4 => 5
  | 5 => 0
  | 6 => 6
  | 7 => 1
  | 8 => 7
  | 9 => 8
  | 10 => 9
  | 11 => 10
  | 12 => 11
  | _ => 0
def errT : Nat → List UInt8
  | 1 => [99, 111, 110, 99, 111, 114, 100, 97, 116, 58, 32, 116, 101, 120, 116]
  | 2 => [99, 111, 110, 99, 111, 114, 100, 97, 116, 58, 32, 98, 111, 117, 110, 100]
  | 3 => [99, 111, 110, 99, 111, 114, 100, 97, 116, 58, 32, 115, 104, 97, 112, 101]
  | 4 => [99, 111, 110, 99, 111, 114, 100, 97, 116, 58, 32, 110, 97, 109, 101]
  | 5 => [99, 111, 110, 99, 111, 114, 100, 97, 116, 58, 32, 107, 105, 110, 100]
  | 6 => [99, 111, 110, 99, 111, 114, 100, 97, 116, 58, 32, 110, 111, 110, 101]
  | 7 => [99, 111, 110, 99, 111, 114, 100, 97, 116, 58, 32, 101, 120, 105, 115, 116]
  | 8 => [99, 111, 110, 99, 111, 114, 100, 97, 116, 58, 32, 102, 117, 108, 108]
  | 9 => [99, 111, 110, 99, 111, 114, 100, 97, 116, 58, 32, 103, 97, 112]
  | 10 => [99, 111, 110, 99, 111, 114, 100, 97, 116, 58, 32, 99, 121, 99, 108, 101]
  | 11 => [99, 111, 110, 99, 111, 114, 100, 97, 116, 58, 32, 111, 102, 102]
  | 12 => [99, 111, 110, 99, 111, 114, 100, 97, 116, 58, 32, 115, 117, 109]
  | _ => []

/-- the errors of these numbers lie where their variables say -/
def Errs (a : Nat → Addr) (S : List Nat) (w : World) : Prop := ∀ k ∈ S, ErrAt w (errG k) (errT k) (a k)
theorem Errs.sub {a : Nat → Addr} {S S' : List Nat} {w : World} (h : Errs a S w) (hs : ∀ k ∈ S', k ∈ S) : Errs a S' w := fun k hk => h k (hs k hk)
theorem Errs.below {a : Nat → Addr} {S : List Nat} {w w' : World} (h : Errs a S w) (hb : Below w.heap.size w w') : Errs a S w' := fun k hk => (h k hk).below hb
theorem Errs.alloc {a : Nat → Addr} {S : List Nat} {w : World} (h : Errs a S w) (o : Obj) : Errs a S (w.alloc o) := fun k hk => (h k hk).alloc o
theorem errs_of {S : List Nat} {w : World} (h : ∀ k ∈ S, ∃ a, ErrAt w (errG k) (errT k) a) : ∃ a, Errs a S w := by
  classical
  refine ⟨fun k => if hk : k ∈ S then (h k hk).choose else ⟨0, 0, none⟩, fun k hk => ?_⟩
  simp only [hk, dif_pos]
  exact (h k hk).choose_spec

theorem laid_sentinel' {P : Program} {n nm : String} {text : List UInt8} {r : List (String × DataW Unit)} {W : World} {g : Nat} {ti tp te ts : TypeId} {ms : Array (String × TypeId)} {f : Field}
    (h : laidMet P ((n, .iface nm (.ptr (.agg [.lit (.string text)]))) :: r) W)
    (hg : P.globalNamed n = some g) (ht : (P.globals[g]?).map (·.type) = some ti) (hi : P.underlying ti = some (.interface ms)) (hrow : ∀ u, P.typeName? 3 u = some nm → u = tp)
    (hp : P.underlying tp = some (.pointer te)) (he : P.underlying te = some (.struct #[f])) (hft : f.type = ts) (hfo : f.offset = 0) (hs : P.underlying ts = some .string) (hc : P.cellsOf te = 1) (hcs : P.cellsOf ts = 1) :
    ∃ (a : Addr) (s : ByteArray), W.var? P n = some #[.iface tp (.pointer (some a))] ∧ W.cell? a = some (.string s) ∧ s.data.toList = text ∧ ∃ c t, W.heap[a.block]? = some (.cells c t (0, 0)) := by
  obtain ⟨ps, ⟨g0, t0, cs0, f0, p0, q0, hg0, ht0, hv0, hd0, _, e0⟩, _, hrows⟩ := h
  obtain rfl := Option.some.inj (hg.symm.trans hg0)
  obtain rfl := Option.some.inj (ht.symm.trans ht0)
  subst e0
  obtain ⟨l0⟩ := cs0
  have ok0 : ∀ u v, l0 = [.iface u v] → Value.okWide P W .any 0 u v := fun u v e => by
    subst e
    exact (hrows g 0 (by simp [MemPlace.row])).2 u v (by simpa using World.var?_cell hg0 hv0 0)
  obtain ⟨a0, s0, rfl, hc0, hs0, hz0, hp0⟩ := errorString_of_trod hi hrow hp he hft hfo hs hc hcs hd0 ok0
  refine ⟨a0, s0, hv0, hc0, hs0, (hrows a0.block a0.off ?_).1⟩
  subst hp0
  simp [MemPlace.row]

theorem errAt_of_laid {W : World} {n : String} {text : List UInt8} {g : Nat} {l : List (String × DataW Unit)} (h : laidMetH Tryd.prog l W)
    (hl : (l.filter fun x => x.1 == n) = [(n, .iface "*errors.errorString" (.ptr (.agg [.lit (.string text)])))])
    (hg : Tryd.prog.globalNamed n = some g) (ht : (Tryd.prog.globals[g]?).map (·.type) = some 32) : ∃ a, ErrAt W g text a := by
  have h1 := laidMetH.filter (fun x => x.1 == n) h
  rw [hl] at h1
  have h2 : laidMet Tryd.prog [(n, .iface "*errors.errorString" (.ptr (.agg [.lit (.string text)])))] W := (laidMetH_iff.1 h1).1
  obtain ⟨a, s, hv, hc, hs, hb⟩ := laid_sentinel' (g := g) (tp := 252) (te := 254) (ts := 9) h2 hg ht Tryd.underlying32 errType Tryd.underlying252 Tryd.underlying254 rfl rfl Tryd.underlying9 (by kernel_rfl) (by kernel_rfl)
  refine ⟨a, ⟨?_, ⟨s, hc, hs⟩, hb⟩⟩
  simpa using World.var?_cell hg hv 0

set_option maxRecDepth 100000 in
theorem open_stamp {H : Type} {enc : TypeId × Value → H} {W : World} {r : Reach} {b0 base : Nat} {sp : Nat → Bool} {held : Bool} {v : Value} {d : DataW H} {p : List MemPlace}
    (o : Value.okWide Tryd.prog W r b0 26 v) (h : DataW.Trod enc Tryd.prog W base sp held 26 v d p) :
    ∃ t b : Int, v = .agg #[.int .i64 t, .int .i64 b] ∧ (Lit.int .i64 t).wf = true ∧ (Lit.int .i64 b).wf = true := by
  obtain ⟨c0, c1, y0, y1, m, rfl, _, _, hy0, hy1⟩ := Joins.open_agg2 Tryd.underlying26 (by kernel_rfl) (by kernel_rfl) o h
  obtain ⟨t, et, _, wt⟩ := DataW.trod_int Tryd.underlying3 hy0
  obtain ⟨b, eb, _, wb⟩ := DataW.trod_int Tryd.underlying3 hy1
  simp at et eb
  subst et eb
  exact ⟨t, b, rfl, wt, wb⟩

theorem bcell {W w1 : World} (hb : Below W.heap.size W w1) : (∀ b o, b < W.heap.size → w1.cell? ⟨b, o, none⟩ = W.cell? ⟨b, o, none⟩) ∧ (∀ b o, b < W.heap.size → w1.frozen? ⟨b, o, none⟩ = W.frozen? ⟨b, o, none⟩) :=
  ⟨fun b o h => hb.cell (p := ⟨b, o, none⟩) h, fun b o h => hb.frozen (p := ⟨b, o, none⟩) h⟩

/-- how a law's row is closed: true, and what came in reads as it did -/
theorem law_post {H : Type} {enc : TypeId × Value → H} {params : List TypeId} {W W' : World} {args : List Value} {ds : List (DataW H)} {p : List MemPlace}
    (hread : ∀ t ∈ params, Tryd.prog.readableRec t = true ∧ t < Tryd.prog.types.size) (hA : DataW.TrodAll enc Tryd.prog W 0 (fun _ => true) true params args ds p) (bel : Below W.heap.size W W') :
    DataW.TrodAll enc Tryd.prog W' 0 (fun b => decide (b < W.heap.size)) true params args ds p := by
  induction params generalizing args ds p with
  | nil =>
    obtain ⟨rfl, rfl, rfl⟩ := trodAll_nil hA
    exact trodAll_mk0
  | cons t ts ih =>
    obtain ⟨v, vs, d, es, p0, q0, rfl, rfl, rfl, h0, r0⟩ := trodAll_cons hA
    have hr := hread t (by simp)
    have lt0 : ∀ x ∈ p0, x.block < W.heap.size := by obtain ⟨m, hm⟩ := h0; exact DataW.trod_lt m _ _ _ hm
    exact trodAll_cons_mk (Below.trod laidOut hr.1 hr.2 h0 bel lt0) (ih (fun t ht => hread t (by simp [ht])) r0)

end Go.Proofs.YtneggbhjekklhaaDoor
