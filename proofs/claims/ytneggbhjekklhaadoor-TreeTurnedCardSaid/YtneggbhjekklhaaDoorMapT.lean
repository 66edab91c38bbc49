/- A map of the call's own, between two types of plain Lean: look-up, store, 'delete', a range over it. Of no program. -/
import Derived.Test.YtneggbhjekklhaaDoorMapV
import Derived.Maps.RangeWalk
namespace Go.Proofs.YtneggbhjekklhaaDoor
open Go Go.RowKit Go.Maps
set_option linter.unusedVariables false
set_option linter.unusedSimpArgs false
set_option maxRecDepth 100000

open Classical in
/-- turned at one key -/
noncomputable def updT {K V : Type} (m : K → Option V) (x : K) (v : Option V) : K → Option V := fun y => if y = x then v else m y
theorem updT_same {K V : Type} (m : K → Option V) (x : K) (v : Option V) : updT m x v x = v := by unfold updT; rw [if_pos rfl]
theorem updT_other {K V : Type} (m : K → Option V) {x y : K} (v : Option V) (h : y ≠ x) : updT m x v y = m y := by unfold updT; rw [if_neg h]

section
variable {K V : Type} (P : Program) (kt : TypeId) (ek : K → Value) (ev : V → Value)
/-- a map of the call's own -/
def MT (b n : Nat) (m : K → Option V) (w : World) : Prop := ∃ f, MapV P kt b n f w ∧ ∀ x kl, keyOf P kt (ek x) = some kl → f kl = (m x).map ev
/-- .. over which a loop ranges -/
def RT (b r n : Nat) (m : K → Option V) (todo : K → Prop) (cnt : Nat) (w : World) : Prop :=
  ∃ D lf, w.ranges P kt heldR b r n D lf cnt ∧ ∀ x kl, keyOf P kt (ek x) = some kl → mlook D kl = (m x).map ev ∧ (todo x ↔ lf kl = true)
end
section
variable {K V : Type} {P : Program} {kt : TypeId} {ek : K → Value} {ev : V → Value} {b r n cnt : Nat} {m : K → Option V} {todo : K → Prop} {w : World}
theorem MT.made (w : World) (P : Program) (kt : TypeId) (ek : K → Value) (ev : V → Value) : MT P kt ek ev w.heap.size 0 (fun _ => none) (w.alloc (.map #[] 0)) := ⟨_, MapV.made w P kt, fun _ _ _ => rfl⟩
theorem MT.lt (h : MT P kt ek ev b n m w) : b < w.heap.size := by obtain ⟨f, h, _⟩ := h; exact h.lt
theorem MT.mono (h : MT P kt ek ev b n m w) {n' : Nat} (hn : n ≤ n') : MT P kt ek ev b n' m w := by obtain ⟨f, h, e⟩ := h; exact ⟨f, h.mono hn, e⟩
theorem MT.block {w' : World} (h : MT P kt ek ev b n m w) (hb : w'.heap[b]? = w.heap[b]?) : MT P kt ek ev b n m w' := by obtain ⟨f, h, e⟩ := h; exact ⟨f, h.block hb, e⟩
theorem MT.below {w' : World} (h : MT P kt ek ev b n m w) (hb : Below w.heap.size w w') : MT P kt ek ev b n m w' := h.block (hb.block b h.lt)
theorem MT.fr {X : Nat → Prop} {w' : World} (h : MT P kt ek ev b n m w) (hF : Fr X w w') (hx : ¬ X b) : MT P kt ek ev b n m w' := h.block (hF.block b h.lt hx)
theorem MT.of_eq {m' : K → Option V} (h : MT P kt ek ev b n m w) (e : ∀ x kl, keyOf P kt (ek x) = some kl → m' x = m x) : MT P kt ek ev b n m' w := by obtain ⟨f, h, e'⟩ := h; exact ⟨f, h, fun x kl hx => by rw [e' x kl hx, e x kl hx]⟩
theorem MT.upd {f : Lit → Option Value} {x : K} {kl : Lit} {v : Option V} {w' : World} {n' : Nat} (hk : Keyed P kt) (hinj : ∀ x y, ek x = ek y → x = y) (hf : ∀ x kl, keyOf P kt (ek x) = some kl → f kl = (m x).map ev) (hkey : keyOf P kt (ek x) = some kl)
    (h : MapV P kt b n' (Proofs.YtneggbhjekklhaaDoor.upd f kl (v.map ev)) w') : MT P kt ek ev b n' (updT m x v) w' := by
  refine ⟨_, h, fun y kl' hy => ?_⟩
  by_cases e : y = x
  · subst e
    rw [hkey] at hy
    cases hy
    rw [upd_same, updT_same]
  · have hne : kl' ≠ kl := fun e2 => e (hinj _ _ (hk.inj hy (by rw [e2]; exact hkey)))
    rw [upd_other f _ hne, updT_other m _ e]
    exact hf y kl' hy
theorem RT.owns (h : RT P kt ek ev b r n m todo cnt w) : MT P kt ek ev b n m w := by
  obtain ⟨D, lf, h, e⟩ := h
  exact ⟨mlook D, ⟨D, h.owns, fun _ => rfl⟩, fun x kl hx => (e x kl hx).1⟩
theorem RT.left_eq (h : RT P kt ek ev b r n m todo cnt w) : w.rangeLeft b r = cnt := by obtain ⟨D, lf, h, e⟩ := h; exact h.left_eq
theorem RT.ne (h : RT P kt ek ev b r n m todo cnt w) : r ≠ b := by obtain ⟨D, lf, h, e⟩ := h; exact h.ne
theorem RT.lt (h : RT P kt ek ev b r n m todo cnt w) : r < w.heap.size := by obtain ⟨D, lf, h, e⟩ := h; exact h.lt
theorem RT.grown {w' : World} {row : Option Nat} (h : RT P kt ek ev b r n m todo cnt w) (hg : w.grownBy w' row) (hb : some b ≠ row) (hr : some r ≠ row) : RT P kt ek ev b r n m todo cnt w' := by obtain ⟨D, lf, h, e⟩ := h; exact ⟨D, lf, h.kept hg hb hr, e⟩
theorem RT.fr {X : Nat → Prop} {w' : World} (h : RT P kt ek ev b r n m todo cnt w) (hF : Fr X w w') (hb : ¬ X b) (hr : ¬ X r) : RT P kt ek ev b r n m todo cnt w' := by
  have h1 := h.owns.lt
  have h2 := h.lt
  obtain ⟨D, lf, h, e⟩ := h
  have e1 := hF.block b h1 hb
  have e2 := hF.block r h2 hr
  refine ⟨D, lf, ?_, e⟩
  unfold World.ranges at h ⊢
  rw [e1, e2]
  exact h
end

section
variable {K V : Type} {P : Program} (w : World) {ops : Array Oper} {rest : List Oper} {o : Oper} {a : Act} {Q : Exit → Act → World → Prop}
theorem wpList_lookT_ok (hg : o.guard = none) (om ox : Operand) (t : TypeId) (hop : o.op = Op.lookup t om ox true)
    (k e : TypeId) (hk : Keyed P k) (ht : P.underlying t = some (.map k e)) (z : Value) (hz : (zeroValue e).run P w = .ok z w) (ek : K → Value) (ev : V → Value) (b n : Nat) (m : K → Option V)
    (hm : a.eval om = .map (some b)) (hown : MT P k ek ev b n m w) (x : K) (hx : a.eval ox = ek x) (hkey : ∃ kl, keyOf P k (ek x) = some kl) (r : Option V) (hr : m x = r)
    (hK : wpList P ops Q rest (a.put o.dst (.tuple #[(r.map ev).getD z, .bool r.isSome])) w) :
    wpList P ops Q (o :: rest) a w := by
  obtain ⟨f, hf, e⟩ := hown
  obtain ⟨kl, hkl⟩ := hkey
  refine wpList_look_ok w hg om ox t hop k _ hk ht z hz b n f hm hf _ kl hx hkl ((m x).map ev) (e x kl hkl) ?_
  rw [hr]
  cases r <;> exact hK
theorem wpList_lookT (hg : o.guard = none) (om ox : Operand) (t : TypeId) (hop : o.op = Op.lookup t om ox false)
    (k e : TypeId) (hk : Keyed P k) (ht : P.underlying t = some (.map k e)) (z : Value) (hz : (zeroValue e).run P w = .ok z w) (ek : K → Value) (ev : V → Value) (b n : Nat) (m : K → Option V)
    (hm : a.eval om = .map (some b)) (hown : MT P k ek ev b n m w) (x : K) (hx : a.eval ox = ek x) (hkey : ∃ kl, keyOf P k (ek x) = some kl) (r : Option V) (hr : m x = r)
    (hK : wpList P ops Q rest (a.put o.dst ((r.map ev).getD z)) w) :
    wpList P ops Q (o :: rest) a w := by
  obtain ⟨f, hf, e⟩ := hown
  obtain ⟨kl, hkl⟩ := hkey
  refine wpList_look w hg om ox t hop k _ hk ht z hz b n f hm hf _ kl hx hkl ((m x).map ev) (e x kl hkl) ?_
  rw [hr]
  exact hK
theorem wpList_putT (hg : o.guard = none) (om ox ov : Operand) (t : TypeId) (hop : o.op = Op.mapUpdate t om ox ov)
    (k e : TypeId) (hk : Keyed P k) (ht : P.underlying t = some (.map k e)) (ek : K → Value) (ev : V → Value) (hinj : ∀ x y, ek x = ek y → x = y) (b n : Nat) (m : K → Option V)
    (hm : a.eval om = .map (some b)) (hown : MT P k ek ev b n m w) (hn : n < maxLen) (x : K) (v : V) (hx : a.eval ox = ek x) (hv : a.eval ov = ev v) (hkey : ∃ kl, keyOf P k (ek x) = some kl)
    (hK : ∀ w', MT P k ek ev b (n + 1) (updT m x (some v)) w' → w.grownBy w' (some b) → wpList P ops Q rest (a.put o.dst undef) w') :
    wpList P ops Q (o :: rest) a w := by
  obtain ⟨f, hf, e⟩ := hown
  obtain ⟨kl, hkl⟩ := hkey
  exact wpList_put w hg om ox ov t hop k _ hk ht b n f hm hf hn _ _ kl hx hv hkl (fun w' h1 h2 => hK w' (MT.upd hk hinj e hkl h1) h2)
theorem wpList_delT (hg : o.guard = none) (om ox : Operand) (t k : TypeId) (hop : o.op = Op.call { callee := Callee.builtin Builtin.delete, args := #[om, ox], argTypes := #[t, k] })
    (e : TypeId) (hk : Keyed P k) (ht : P.underlying t = some (.map k e)) (ek : K → Value) (ev : V → Value) (hinj : ∀ x y, ek x = ek y → x = y) (b n : Nat) (m : K → Option V)
    (hm : a.eval om = .map (some b)) (hown : MT P k ek ev b n m w) (x : K) (hx : a.eval ox = ek x) (hkey : ∃ kl, keyOf P k (ek x) = some kl)
    (hK : ∀ w', MT P k ek ev b n (updT m x none) w' → w.grownBy w' (some b) → wpList P ops Q rest (a.put o.dst (.tuple #[])) w') :
    wpList P ops Q (o :: rest) a w := by
  obtain ⟨f, hf, e⟩ := hown
  obtain ⟨kl, hkl⟩ := hkey
  exact wpList_del w hg om ox t k hop _ hk ht b n f hm hf _ kl hx hkl (fun w' h1 h2 => hK w' (MT.upd (v := none) hk hinj e hkl h1) h2)
theorem wpList_rangeT (hg : o.guard = none) (om : Operand) (t : TypeId) (hop : o.op = Op.range t om) (k e : TypeId) (hk : Keyed P k) (ht : P.underlying t = some (.map k e)) (ek : K → Value) (ev : V → Value) (b n : Nat) (m : K → Option V)
    (hm : a.eval om = .map (some b)) (hown : MT P k ek ev b n m w)
    (hK : ∀ w' cnt, RT P k ek ev b w.heap.size n m (fun x => (m x).isSome = true) cnt w' → cnt ≤ n → w.grownBy w' none → w'.heap.size = w.heap.size + 1 → wpList P ops Q rest (a.put o.dst (.pointer (some ⟨w.heap.size, 0, none⟩))) w') :
    wpList P ops Q (o :: rest) a w := by
  obtain ⟨f, ⟨D, hD, ef⟩, e⟩ := hown
  refine wpList_range_own w hg om t hop k _ hk ht heldR b n D hm hD (fun w' h1 h2 h3 => hK w' _ ⟨D, _, h1, fun x kl hx => ?_⟩ hD.size_le h2 h3)
  have h4 : mlook D kl = (m x).map ev := (ef kl).symm.trans (e x kl hx)
  refine ⟨h4, ?_⟩
  unfold mlook at h4
  cases hh : Maps.has D kl with
  | true =>
    rw [hh, if_pos rfl] at h4
    obtain ⟨es, clock, hb, F, hs, rfl⟩ := hD
    have : ∃ v, mlook (DataW.map ((es.toList.map (WideElems.rg P k heldR)).foldr DataW.insert [])) kl = some v := by
      rw [mlook, hh, if_pos rfl]
      simp only [Maps.has, List.any_eq_true] at hh
      simp only [DataW.atKey]
      cases hf : List.find? (fun p => p.1.sameKey kl) ((es.toList.map (WideElems.rg P k heldR)).foldr DataW.insert []) with
      | none =>
        obtain ⟨p, hp, hs2⟩ := hh
        have := List.find?_eq_none.1 hf p hp
        rw [hs2] at this
        exact absurd rfl this
      | some p =>
        have hp := mem_sorted.1 (List.mem_of_find?_eq_some hf)
        obtain ⟨y, hy, rfl⟩ := List.mem_map.1 hp
        obtain ⟨q, hq⟩ := F.reads y hy
        rw [WideElems.rg_of hq]
        obtain ⟨z, hz, hz2⟩ := WideElems.rd_val hq
        refine ⟨y.val, ?_⟩
        have hz3 : z = (DataW.held y.val, []) := (Option.some.inj hz).symm
        first | (rw [hz2, hz3]; done) | (rw [← hz2, hz3]; done) | (simp [← hz2, hz3]; done) | (simp [hz2, hz3]; done) | (subst hz3; simp [← hz2])
    obtain ⟨v, hv⟩ := this
    rw [mlook, hh, if_pos rfl, h4] at hv
    cases hmx : m x with
    | none => rw [hmx] at hv; cases hv
    | some c => show (m x).isSome = true ↔ _; rw [hmx]; exact ⟨fun _ => rfl, fun _ => rfl⟩
  | false =>
    rw [hh, if_neg (by simp)] at h4
    cases hmx : m x with
    | none => show (m x).isSome = true ↔ _; rw [hmx]; exact ⟨fun h => (by cases h), fun h => (by cases h)⟩
    | some c => rw [hmx] at h4; cases h4
theorem wpList_nextT (hg : o.guard = none) (it : Operand) (hop : o.op = Op.next it false) (k : TypeId) (hk : Keyed P k) (ek : K → Value) (ev : V → Value) (hinj : ∀ x y, ek x = ek y → x = y) (hK' : ∀ key kl, keyOf P k key = some kl → ∃ x, key = ek x)
    (b r n : Nat) (m : K → Option V) (todo : K → Prop) (cnt : Nat) (hit : a.eval it = .pointer (some ⟨r, 0, none⟩)) (h : RT P k ek ev b r n m todo cnt w)
    (hDone : (∀ x kl, keyOf P k (ek x) = some kl → ¬ todo x) → wpList P ops Q rest (a.put o.dst (.tuple #[.bool false])) w)
    (hMore : ∀ (x : K) (c : V) (w' : World) (cnt' : Nat), (∃ kl, keyOf P k (ek x) = some kl) → m x = some c → todo x → RT P k ek ev b r n m (fun y => todo y ∧ y ≠ x) cnt' w' → cnt' < cnt → w.grownBy w' (some r) → w'.heap.size = w.heap.size →
      (Instr.entry (.pointer (some ⟨r, 0, none⟩))).run P w' = .ok (.tuple #[ek x, ev c]) w' → wpList P ops Q rest (a.put o.dst (.tuple #[.bool true, ek x, ev c])) w') :
    wpList P ops Q (o :: rest) a w := by
  obtain ⟨D, lf, h, e⟩ := h
  refine wpList_plain hg fun K0 hK0 => ?_
  unfold Oper.wp
  rcases h.next hk o.type with ⟨h0, hl, hrun⟩ | ⟨key, v, kl, y, w', cnt', hkey, hlk, hv, hat, hrun, hrg, hlt, hgr, hsz, hen⟩
  · simp [execOp, hop, hit, hrun, Result.andThen]
    exact hK0 _ _ (hDone (fun x kl hx ht => by rw [(e x kl hx).2, hl kl] at ht; cases ht))
  · obtain ⟨x, rfl⟩ := hK' key kl hkey
    have hy : y.1 = .held v := by cases hv; rfl
    have h1 : mlook D kl = some v := by
      rw [mlook, Maps.has_true_of_atKey (y := y.1) (fun z => hat z), if_pos rfl, hat, hy]
    have h2 := (e x kl hkey).1
    rw [h1] at h2
    obtain ⟨c, hc, rfl⟩ := Option.map_eq_some_iff.1 h2.symm
    simp [execOp, hop, hit, hrun, Result.andThen]
    refine hK0 _ _ (hMore x c w' cnt' ⟨kl, hkey⟩ hc ((e x kl hkey).2.2 hlk) ⟨D, _, hrg, fun y kl' hy' => ⟨(e y kl' hy').1, ?_⟩⟩ hlt hgr hsz hen)
    show todo y ∧ y ≠ x ↔ _
    rw [(e y kl' hy').2, Bool.and_eq_true]
    by_cases hyx : y = x
    · subst hyx
      rw [hkey] at hy'
      cases hy'
      rw [WideAt.sameKey_self (hk.key hkey)]
      simp
    · have hne : kl' ≠ kl := fun e2 => hyx (hinj _ _ (hk.inj hy' (by rw [e2]; exact hkey)))
      rw [Maps.sameKey_ne hne]
      simp [hyx]
end
end Go.Proofs.YtneggbhjekklhaaDoor
