/- A map of the call's own, as a function from its keys to the values that it holds. Of no program. -/
import Derived.Test.YtneggbhjekklhaaDoorFr
import Derived.Maps.OwnSet
import Derived.Maps.Ext
namespace Go.Proofs.YtneggbhjekklhaaDoor
open Go Go.RowKit Go.Maps
set_option linter.unusedVariables false
set_option linter.unusedSimpArgs false
set_option maxRecDepth 100000

/-- an element reads as itself -/
def heldR : Value → Option (DataW Value × List MemPlace) := fun v => some (.held v, [])
/-- what a map holds at a key -/
def mlook (D : DataW Value) (l : Lit) : Option Value := if Maps.has D l = true then (match D.atKey l .nil with | .held v => some v | _ => none) else none
theorem atKey_has {D : DataW Value} {l : Lit} (h : Maps.has D l = true) (z z' : DataW Value) : D.atKey l z = D.atKey l z' := by
  cases D with
  | map es =>
    simp only [Maps.has, List.any_eq_true] at h
    simp only [DataW.atKey]
    cases hf : es.find? (fun p => p.1.sameKey l) with
    | some p => rfl
    | none =>
      obtain ⟨p, hp, hs⟩ := h
      have := List.find?_eq_none.1 hf p hp
      rw [hs] at this
      exact absurd rfl this
  | _ => cases h
open Classical in
/-- turned at one key -/
noncomputable def upd (f : Lit → Option Value) (kl : Lit) (v : Option Value) : Lit → Option Value := fun l => if l = kl then v else f l
theorem upd_same (f : Lit → Option Value) (kl : Lit) (v : Option Value) : upd f kl v kl = v := by unfold upd; rw [if_pos rfl]
theorem upd_other (f : Lit → Option Value) {kl l : Lit} (v : Option Value) (h : l ≠ kl) : upd f kl v l = f l := by unfold upd; rw [if_neg h]
/-- a map of the call's own -/
def MapV (P : Program) (kt : TypeId) (b n : Nat) (f : Lit → Option Value) (w : World) : Prop := ∃ D : DataW Value, w.ownsMap P kt heldR b n D ∧ ∀ l, f l = mlook D l
section
variable {P : Program} {kt : TypeId} {b n : Nat} {f : Lit → Option Value} {w : World}
theorem MapV.made (w : World) (P : Program) (kt : TypeId) : MapV P kt w.heap.size 0 (fun _ => none) (w.alloc (.map #[] 0)) :=
  ⟨_, World.ownsMap_made w P kt heldR, fun l => by simp [mlook, Maps.has]⟩
theorem MapV.lt (h : MapV P kt b n f w) : b < w.heap.size := by obtain ⟨D, h, _⟩ := h; exact h.lt
theorem MapV.mono (h : MapV P kt b n f w) {n' : Nat} (hn : n ≤ n') : MapV P kt b n' f w := by obtain ⟨D, h, e⟩ := h; exact ⟨D, h.mono hn, e⟩
theorem MapV.block {w' : World} (h : MapV P kt b n f w) (hb : w'.heap[b]? = w.heap[b]?) : MapV P kt b n f w' := by
  obtain ⟨D, ⟨es, clock, h1, h2⟩, e⟩ := h
  exact ⟨D, ⟨es, clock, hb.trans h1, h2⟩, e⟩
theorem MapV.below {w' : World} (h : MapV P kt b n f w) (hb : Below w.heap.size w w') : MapV P kt b n f w' := h.block (hb.block b h.lt)
theorem MapV.fr {X : Nat → Prop} {w' : World} (h : MapV P kt b n f w) (hF : Fr X w w') (hx : ¬ X b) : MapV P kt b n f w' := h.block (hF.block b h.lt hx)
theorem MapV.ext {g : Lit → Option Value} (h : MapV P kt b n f w) (e : ∀ l, g l = f l) : MapV P kt b n g w := by obtain ⟨D, h, e'⟩ := h; exact ⟨D, h, fun l => (e l).trans (e' l)⟩
/-- a look-up, with 'ok' or without -/
theorem MapV.look (h : MapV P kt b n f w) (K : Keyed P kt) {t e : TypeId} (ht : P.underlying t = some (.map kt e)) {z : Value} (hz : (zeroValue e).run P w = .ok z w) {key : Value} {kl : Lit} (hkey : keyOf P kt key = some kl) :
    (Instr.lookup t (.map (some b)) key true).run P w = .ok (.tuple #[(f kl).getD z, .bool (f kl).isSome]) w ∧ (Instr.lookup t (.map (some b)) key false).run P w = .ok ((f kl).getD z) w := by
  obtain ⟨D, h, ef⟩ := h
  obtain ⟨v, ps, hr, hv⟩ := h.look_ok K ht hz (zd := .held z) (zp := []) rfl hkey
  obtain ⟨v2, ps2, hr2, hv2⟩ := h.lookup K ht hz (zd := .held z) (zp := []) rfl hkey
  have e1 : DataW.held v = D.atKey kl (.held z) := congrArg Prod.fst (Option.some.inj hv)
  have e2 : DataW.held v2 = D.atKey kl (.held z) := congrArg Prod.fst (Option.some.inj hv2)
  have e3 : v2 = v := by have := e2.trans e1.symm; cases this; rfl
  subst e3
  rw [hr, hr2, ef kl, mlook]
  cases hh : Maps.has D kl with
  | true => rw [if_pos rfl, atKey_has hh .nil (.held z), ← e1]; exact ⟨rfl, rfl⟩
  | false =>
    rw [Maps.atKey_of_not_has hh] at e1
    cases e1
    exact ⟨rfl, rfl⟩
/-- a store -/
theorem MapV.store (h : MapV P kt b n f w) (K : Keyed P kt) {t e : TypeId} (ht : P.underlying t = some (.map kt e)) (hn : n < maxLen) {key val : Value} {kl : Lit} (hkey : keyOf P kt key = some kl) :
    ∃ w', (Instr.mapUpdate t (.map (some b)) key val).run P w = .ok () w' ∧ MapV P kt b (n + 1) (upd f kl (some val)) w' ∧ w.grownBy w' (some b) := by
  obtain ⟨D, h, ef⟩ := h
  have hm := h.isMap
  have hk := K.key hkey
  obtain ⟨w', hr, h', hg⟩ := h.update K ht hn (val := val) (d := .held val) (ps := []) hkey rfl
  refine ⟨w', hr, ⟨_, h', fun l => ?_⟩, hg⟩
  by_cases hl : l = kl
  · subst hl
    rw [upd_same, mlook, Maps.has_put_same hm hk, if_pos rfl, Maps.atKey_put_same hm hk]
  · rw [upd_other f _ hl, ef l, mlook, mlook, Maps.has_put_other hl, Maps.atKey_put_other hl]
/-- 'delete' -/
theorem MapV.drop (h : MapV P kt b n f w) (K : Keyed P kt) {t e : TypeId} (ht : P.underlying t = some (.map kt e)) {key : Value} {kl : Lit} (hkey : keyOf P kt key = some kl) (ty : TypeId) :
    ∃ w', (Builtin.delete_ #[t, kt] ty #[.map (some b), key]).run P w = .ok (.tuple #[]) w' ∧ MapV P kt b n (upd f kl none) w' ∧ w.grownBy w' (some b) := by
  obtain ⟨D, h, ef⟩ := h
  obtain ⟨w', hr, h', hg⟩ := h.drop K ht hkey ty
  refine ⟨w', hr, ⟨_, h', fun l => ?_⟩, hg.grown⟩
  by_cases hl : l = kl
  · subst hl
    rw [upd_same, mlook, Maps.has_del_same]
    rfl
  · rw [upd_other f _ hl, ef l, mlook, mlook, Maps.has_del_other hl, Maps.atKey_del_other hl]
end

/-- a look-up, at the operation -/
theorem wpList_look_ok {P : Program} (w : World) {ops : Array Oper} {rest : List Oper} {o : Oper} {a : Act} {Q : Exit → Act → World → Prop}
    (hg : o.guard = none) (m x : Operand) (t : TypeId) (hop : o.op = Op.lookup t m x true)
    (k e : TypeId) (K : Keyed P k) (ht : P.underlying t = some (.map k e)) (z : Value) (hz : (zeroValue e).run P w = .ok z w) (b n : Nat) (f : Lit → Option Value)
    (hm : a.eval m = .map (some b)) (hown : MapV P k b n f w) (key : Value) (kl : Lit) (hx : a.eval x = key) (hkey : keyOf P k key = some kl) (r : Option Value) (hr : f kl = r)
    (hK : wpList P ops Q rest (a.put o.dst (.tuple #[r.getD z, .bool r.isSome])) w) :
    wpList P ops Q (o :: rest) a w := by
  refine wpList_plain hg fun K' hK' => ?_
  have hrun := (hown.look K ht hz hkey).1
  rw [hr] at hrun
  unfold Oper.wp
  simp [execOp, hop, hm, hx, hrun, Result.andThen]
  exact hK' _ _ hK
theorem wpList_look {P : Program} (w : World) {ops : Array Oper} {rest : List Oper} {o : Oper} {a : Act} {Q : Exit → Act → World → Prop}
    (hg : o.guard = none) (m x : Operand) (t : TypeId) (hop : o.op = Op.lookup t m x false)
    (k e : TypeId) (K : Keyed P k) (ht : P.underlying t = some (.map k e)) (z : Value) (hz : (zeroValue e).run P w = .ok z w) (b n : Nat) (f : Lit → Option Value)
    (hm : a.eval m = .map (some b)) (hown : MapV P k b n f w) (key : Value) (kl : Lit) (hx : a.eval x = key) (hkey : keyOf P k key = some kl) (r : Option Value) (hr : f kl = r)
    (hK : wpList P ops Q rest (a.put o.dst (r.getD z)) w) :
    wpList P ops Q (o :: rest) a w := by
  refine wpList_plain hg fun K' hK' => ?_
  have hrun := (hown.look K ht hz hkey).2
  rw [hr] at hrun
  unfold Oper.wp
  simp [execOp, hop, hm, hx, hrun, Result.andThen]
  exact hK' _ _ hK
/-- a store, at the operation -/
theorem wpList_put {P : Program} (w : World) {ops : Array Oper} {rest : List Oper} {o : Oper} {a : Act} {Q : Exit → Act → World → Prop}
    (hg : o.guard = none) (m x v : Operand) (t : TypeId) (hop : o.op = Op.mapUpdate t m x v)
    (k e : TypeId) (K : Keyed P k) (ht : P.underlying t = some (.map k e)) (b n : Nat) (f : Lit → Option Value)
    (hm : a.eval m = .map (some b)) (hown : MapV P k b n f w) (hn : n < maxLen) (key val : Value) (kl : Lit) (hx : a.eval x = key) (hv : a.eval v = val) (hkey : keyOf P k key = some kl)
    (hK : ∀ w', MapV P k b (n + 1) (upd f kl (some val)) w' → w.grownBy w' (some b) → wpList P ops Q rest (a.put o.dst undef) w') :
    wpList P ops Q (o :: rest) a w := by
  refine wpList_plain hg fun K' hK' => ?_
  obtain ⟨w', hrun, r1, r2⟩ := hown.store K ht hn (val := val) hkey
  unfold Oper.wp
  simp [execOp, hop, hm, hx, hv, hrun, Result.andThen]
  exact hK' _ _ (hK w' r1 r2)
/-- 'delete', at the operation -/
theorem wpList_del {P : Program} (w : World) {ops : Array Oper} {rest : List Oper} {o : Oper} {a : Act} {Q : Exit → Act → World → Prop}
    (hg : o.guard = none) (m x : Operand) (t k : TypeId) (hop : o.op = Op.call { callee := Callee.builtin Builtin.delete, args := #[m, x], argTypes := #[t, k] })
    (e : TypeId) (K : Keyed P k) (ht : P.underlying t = some (.map k e)) (b n : Nat) (f : Lit → Option Value)
    (hm : a.eval m = .map (some b)) (hown : MapV P k b n f w) (key : Value) (kl : Lit) (hx : a.eval x = key) (hkey : keyOf P k key = some kl)
    (hK : ∀ w', MapV P k b n (upd f kl none) w' → w.grownBy w' (some b) → wpList P ops Q rest (a.put o.dst (.tuple #[])) w') :
    wpList P ops Q (o :: rest) a w := by
  refine wpList_plain hg fun K' hK' => ?_
  obtain ⟨w', hrun, r1, r2⟩ := hown.drop K ht hkey o.type
  unfold Oper.wp
  simp [execOp, hop, resolve, invoke, builtin, hm, hx, hrun, Result.andThen]
  exact hK' _ _ (hK w' r1 r2)
/-- what a store or a 'delete' leaves -/
theorem fr_of_grown {w w' : World} {b : Nat} {X : Nat → Prop} (h : w.grownBy w' (some b)) (hx : X b) : Fr X w w' :=
  ⟨h.os, h.tape, h.output, h.size, fun k hk hn => h.block k hk (fun e => hn (by cases e; exact hx))⟩
end Go.Proofs.YtneggbhjekklhaaDoor
