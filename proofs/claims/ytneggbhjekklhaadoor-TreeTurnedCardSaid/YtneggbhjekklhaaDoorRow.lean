/- Rows of structs: how they lie, what append makes of them; nothing of the program. -/
import Derived.Test.YtneggbhjekklhaaDoorBase
import Derived.Laws.AppendOwn
import Derived.Laws.AppendOwnNone
import Derived.Laws.OwnMore
import Derived.Deep.OwnRows
import Derived.Deep.AppendLies
namespace Go.Proofs.YtneggbhjekklhaaDoor
open Go Go.RowKit
set_option linter.unusedVariables false
set_option linter.unusedSimpArgs false
set_option maxHeartbeats 1000000

/-- how one thing lies in cells -/
structure Enc (T : Type) where
  cells : T → List Value
  k : Nat
  len : ∀ x, (cells x).length = k
  one : ∀ x, ∀ v ∈ cells x, v.oneCell' = true

section
variable {T : Type} (E : Enc T)
def Enc.row (L : List T) : List Value := L.flatMap E.cells
theorem Enc.row_len (L : List T) : (E.row L).length = L.length * E.k := by
  induction L with
  | nil => simp [Enc.row]
  | cons x r ih => unfold Enc.row at ih ⊢; rw [List.flatMap_cons, List.length_append, ih, E.len, List.length_cons, Nat.add_mul, Nat.one_mul, Nat.add_comm]
theorem Enc.row_app (A B : List T) : E.row (A ++ B) = E.row A ++ E.row B := List.flatMap_append
theorem Enc.row_cons (x : T) (B : List T) : E.row (x :: B) = E.cells x ++ E.row B := rfl
theorem Enc.row_at {L : List T} {i : Nat} {x : T} (h : L[i]? = some x) {j : Nat} {v : Value} (hv : (E.cells x)[j]? = some v) : (E.row L)[i * E.k + j]? = some v := by
  have hj : j < E.k := by rw [← E.len x]; exact (List.getElem?_eq_some_iff.1 hv).1
  induction L generalizing i with
  | nil => simp at h
  | cons y r ih =>
    rw [Enc.row_cons]
    cases i with
    | zero =>
      simp at h
      subst h
      rw [Nat.zero_mul, Nat.zero_add, List.getElem?_append_left (by rw [E.len]; exact hj)]
      exact hv
    | succ i =>
      have := ih (i := i) (by simpa using h)
      rw [List.getElem?_append_right (by rw [E.len, Nat.add_mul]; omega), E.len, show (i + 1) * E.k + j - E.k = i * E.k + j by rw [Nat.add_mul]; omega]
      exact this
theorem Enc.row_one (L : List T) : ∀ v ∈ E.row L, v.oneCell' = true := fun v hv => by
  obtain ⟨x, _, hx⟩ := List.mem_flatMap.1 hv
  exact E.one x v hx
theorem Enc.row_take (L : List T) (n : Nat) : (E.row L).take (n * E.k) = E.row (L.take n) := by
  induction L generalizing n with
  | nil => simp [Enc.row]
  | cons x r ih =>
    cases n with
    | zero => simp [Enc.row]
    | succ n =>
      rw [List.take_succ_cons, Enc.row_cons, Enc.row_cons, show (n + 1) * E.k = (E.cells x).length + n * E.k by rw [E.len, Nat.add_mul, Nat.one_mul, Nat.add_comm], List.take_length_add_append, ih]
theorem Enc.row_drop (L : List T) (n : Nat) : (E.row L).drop (n * E.k) = E.row (L.drop n) := by
  induction L generalizing n with
  | nil => simp [Enc.row]
  | cons x r ih =>
    cases n with
    | zero => simp [Enc.row]
    | succ n =>
      rw [List.drop_succ_cons, Enc.row_cons, show (n + 1) * E.k = (E.cells x).length + n * E.k by rw [E.len, Nat.add_mul, Nat.one_mul, Nat.add_comm], List.drop_length_add_append, ih]

/-- a slice that reads as L -/
def SlV (w : World) (v : Value) (L : List T) : Prop :=
  (v = .slice none 0 0 ∧ L = []) ∨ ∃ p c, v = .slice (some p) L.length c ∧ L.length ≤ c ∧ ∀ j u, (E.row L)[j]? = some u → w.cell? (p.add j) = some u
variable {E}
theorem add_block (p : Addr) (j : Nat) : (p.add j).block = p.block := by unfold Addr.add; split <;> rfl
theorem SlV.nil {w : World} : SlV E w (.slice none 0 0) [] := .inl ⟨rfl, rfl⟩
theorem SlV.empty {w : World} (p : Addr) (c : Nat) : SlV E w (.slice (some p) 0 c) [] := .inr ⟨p, c, rfl, Nat.zero_le _, fun j u hu => by simp [Enc.row] at hu⟩
theorem SlV.kept {w w' : World} {v : Value} {L : List T} (h : SlV E w v L) (hk : ∀ k, v.ownBlock = some k → k < w.heap.size → w'.heap[k]? = w.heap[k]?) : SlV E w' v L := by
  rcases h with h | ⟨p, c, rfl, h1, h3⟩
  · exact .inl h
  · refine .inr ⟨p, c, rfl, h1, fun j u hu => ?_⟩
    have hc := h3 j u hu
    have hl := World.block_lt_of_cell? w _ hc
    rw [add_block] at hl
    exact (World.cell?_of_block (w := w) (by rw [add_block]; exact hk p.block rfl hl)).trans hc
theorem SlV.below {w w' : World} {v : Value} {L : List T} (h : SlV E w v L) (hb : Below w.heap.size w w') : SlV E w' v L :=
  h.kept (fun k _ hk => hb.block k hk)
theorem SlV.form {w : World} {v : Value} {L : List T} (h : SlV E w v L) : ∃ A c, v = .slice A L.length c ∧ L.length ≤ c := by
  rcases h with ⟨rfl, rfl⟩ | ⟨p, c, rfl, h1, _⟩
  · exact ⟨none, 0, rfl, by simp⟩
  · exact ⟨_, c, rfl, h1⟩
/-- the cells of one that stands there -/
theorem SlV.at' {w : World} {A : Option Addr} {n c : Nat} {L : List T} (h : SlV E w (.slice A n c) L) (hk : 0 < E.k) {i : Nat} {x : T} (hx : L[i]? = some x) :
    ∃ b off, A = some ⟨b, off, none⟩ ∧ b < w.heap.size ∧ ∀ j u, (E.cells x)[j]? = some u → w.cell? ⟨b, off + (i * E.k + j), none⟩ = some u := by
  rcases h with ⟨_, rfl⟩ | ⟨⟨b, off, s⟩, c', he, h1, h3⟩
  · simp at hx
  · cases he
    have hs : s = none := by
      obtain ⟨x0, hx0⟩ : ∃ x0, L[0]? = some x0 := ⟨_, List.getElem?_eq_getElem (by have := (List.getElem?_eq_some_iff.1 hx).1; omega)⟩
      obtain ⟨u, hu⟩ : ∃ u, (E.cells x0)[0]? = some u := ⟨_, List.getElem?_eq_getElem (by rw [E.len]; exact hk)⟩
      have hc := h3 _ _ (E.row_at hx0 hu)
      cases s with
      | none => rfl
      | some q => simp [World.cell?, Addr.add] at hc; split at hc <;> simp_all
    subst hs
    obtain ⟨u, hu⟩ : ∃ u, (E.cells x)[0]? = some u := ⟨_, List.getElem?_eq_getElem (by rw [E.len]; exact hk)⟩
    have hl := World.block_lt_of_cell? w _ (h3 _ _ (E.row_at hx hu))
    rw [add_block] at hl
    exact ⟨b, off, rfl, hl, fun j u hu => by have := h3 _ _ (E.row_at hx hu); rw [Addr.add_lit] at this; exact this⟩
theorem SlV.len {w : World} {A : Option Addr} {n c : Nat} {L : List T} (h : SlV E w (.slice A n c) L) : n = L.length := by
  rcases h with ⟨he, rfl⟩ | ⟨p, c', he, h1, h3⟩ <;> cases he <;> rfl
theorem SlV.cap {w : World} {A : Option Addr} {n c : Nat} {L : List T} (h : SlV E w (.slice A n c) L) : n ≤ c := by
  rcases h with ⟨he, rfl⟩ | ⟨p, c', he, h1, h3⟩ <;> cases he
  · exact Nat.le_refl _
  · exact h1
/-- the first ones -/
theorem SlV.take {w : World} {p : Addr} {n c : Nat} {L : List T} (h : SlV E w (.slice (some p) n c) L) {m : Nat} (hm : m ≤ n) (c' : Nat) (hc : m ≤ c') : SlV E w (.slice (some p) m c') (L.take m) := by
  have hl := h.len
  rcases h with ⟨he, rfl⟩ | ⟨p', c'', he, h1, h3⟩
  · cases he
  · cases he
    refine .inr ⟨p, c', by rw [List.length_take]; congr 1; omega, by rw [List.length_take]; omega, fun j u hu => h3 j u ?_⟩
    rw [← Enc.row_take, List.getElem?_take] at hu
    split at hu
    · exact hu
    · cases hu
/-- those from there on -/
theorem SlV.drop {w : World} {b off n c : Nat} {L : List T} (h : SlV E w (.slice (some ⟨b, off, none⟩) n c) L) {m : Nat} (hm : m ≤ n) (c' : Nat) (hc : n - m ≤ c') : SlV E w (.slice (some ⟨b, off + m * E.k, none⟩) (n - m) c') (L.drop m) := by
  have hl := h.len
  rcases h with ⟨he, rfl⟩ | ⟨p', c'', he, h1, h3⟩
  · cases he
  · cases he
    refine .inr ⟨⟨b, off + m * E.k, none⟩, c', by rw [List.length_drop], by rw [List.length_drop]; omega, fun j u hu => ?_⟩
    rw [← Enc.row_drop, List.getElem?_drop] at hu
    have := h3 _ _ hu
    rw [Addr.add_lit] at this ⊢
    rw [Nat.add_assoc]
    exact this
/-- what came in, read element by element -/
theorem SlV.of_each {w : World} {p : Addr} {n c : Nat} (hc : n ≤ c) (h : ∀ i, i < n → ∃ x : T, ∀ j u, (E.cells x)[j]? = some u → w.cell? (p.add (i * E.k + j)) = some u) : ∃ L : List T, L.length = n ∧ SlV E w (.slice (some p) n c) L := by
  obtain ⟨L, hl, hL⟩ : ∃ L : List T, L.length = n ∧ ∀ i x, L[i]? = some x → ∀ j u, (E.cells x)[j]? = some u → w.cell? (p.add (i * E.k + j)) = some u := by
    clear hc
    induction n with
    | zero => exact ⟨[], rfl, fun i x hx => by simp at hx⟩
    | succ n ih =>
      obtain ⟨L, hl, hL⟩ := ih (fun i hi => h i (by omega))
      obtain ⟨x, hx⟩ := h n (by omega)
      refine ⟨L ++ [x], by simp [hl], fun i y hy j u hu => ?_⟩
      by_cases hi : i < n
      · rw [List.getElem?_append_left (by omega)] at hy
        exact hL i y hy j u hu
      · rw [List.getElem?_append_right (by omega)] at hy
        have e : i - L.length = 0 := by
          rcases Nat.eq_zero_or_pos (i - L.length) with h | h
          · exact h
          · rw [List.getElem?_eq_none (by simp; omega)] at hy; cases hy
        rw [e] at hy
        simp at hy
        subst hy
        have e2 : i = n := by omega
        subst e2
        exact hx j u hu
  refine ⟨L, hl, .inr ⟨p, c, by rw [hl], by omega, fun j u hu => ?_⟩⟩
  have hj : j < L.length * E.k := by rw [← E.row_len]; exact (List.getElem?_eq_some_iff.1 hu).1
  have hk : 0 < E.k := by rcases Nat.eq_zero_or_pos E.k with h0 | h0; · rw [h0] at hj; omega
                          · exact h0
  have hq : j / E.k < L.length := (Nat.div_lt_iff_lt_mul hk).2 hj
  obtain ⟨x, hx⟩ : ∃ x, L[j / E.k]? = some x := ⟨_, List.getElem?_eq_getElem hq⟩
  have hr : j % E.k < E.k := Nat.mod_lt _ hk
  obtain ⟨v, hv⟩ : ∃ v, (E.cells x)[j % E.k]? = some v := ⟨_, List.getElem?_eq_getElem (by rw [E.len]; exact hr)⟩
  have e := E.row_at hx hv
  have ej : j / E.k * E.k + j % E.k = j := by rw [Nat.mul_comm]; exact Nat.div_add_mod j E.k
  rw [ej] at e
  rw [hu] at e
  cases e
  have := hL _ _ hx _ _ hv
  rw [ej] at this
  exact this

/-- a row of the call's own -/
def Rw (E : Enc T) (ty : TypeId) (base : Nat) (v : Value) (L : List T) (w : World) : Prop := w.ownsRow base ty E.k v L.length (E.row L)
theorem Rw.nil (E : Enc T) (ty : TypeId) (base : Nat) (w : World) : Rw E ty base (.slice none 0 0) [] w := World.ownsRow_nil _ _ _ _
theorem Rw.lt {ty : TypeId} {base : Nat} {v : Value} {L : List T} {w : World} (h : Rw E ty base v L w) : ∀ k, v.ownBlock = some k → base ≤ k ∧ k < w.heap.size := World.ownsRow.lt h
theorem Rw.below {ty : TypeId} {base : Nat} {v : Value} {L : List T} {w w' : World} (h : Rw E ty base v L w) (hb : Below w.heap.size w w') : Rw E ty base v L w' :=
  World.ownsRow.kept (row := none) h ⟨hb.os, hb.tape, hb.output, hb.size, fun k hk _ => hb.block k hk⟩ (by cases hv : v.ownBlock <;> simp)
theorem Rw.kept {ty : TypeId} {base : Nat} {v : Value} {L : List T} {w w' : World} (h : Rw E ty base v L w) (hk : ∀ k, v.ownBlock = some k → w'.heap[k]? = w.heap[k]?) : Rw E ty base v L w' := by
  refine ⟨h.1, ?_⟩
  rcases h.2 with hn | ⟨g, cap, cur, rfl, hb, hgg, rest⟩
  · exact .inl hn
  · exact .inr ⟨g, cap, cur, rfl, hb, (hk g rfl).trans hgg, rest⟩
theorem Rw.sl {ty : TypeId} {base : Nat} {v : Value} {L : List T} {w : World} (h : Rw E ty base v L w) : SlV E w v L := by
  have hown := h
  rcases h.2 with ⟨hv, h0⟩ | ⟨g, cap, cur, hv, hg, hh, hcap, hm, hsz, hcs⟩
  · exact .inl ⟨hv, List.eq_nil_of_length_eq_zero h0⟩
  · exact .inr ⟨⟨g, 0, none⟩, cap, hv, hcap, fun j u hu => World.ownsRow.cells hown (g := g) (by rw [hv]; rfl) j u hu⟩
theorem Rw.form {ty : TypeId} {base : Nat} {v : Value} {L : List T} {w : World} (h : Rw E ty base v L w) : (v = .slice none 0 0 ∧ L = []) ∨ ∃ g cap, v = .slice (some ⟨g, 0, none⟩) L.length cap ∧ L.length ≤ cap ∧ cap ≤ maxLen ∧ base ≤ g ∧ g < w.heap.size := by
  rcases h.2 with ⟨hv, h0⟩ | ⟨g, cap, cur, hv, hg, hh, hcap, hm, hsz, hcs⟩
  · exact .inl ⟨hv, List.eq_nil_of_length_eq_zero h0⟩
  · exact .inr ⟨g, cap, hv, hcap, hm, hg, (Array.getElem?_eq_some_iff.1 hh).1⟩
theorem Rw.slice {ty : TypeId} {base : Nat} {v : Value} {L : List T} {w : World} (h : Rw E ty base v L w) : ∃ A m c, v = .slice A m c := by
  rcases h.form with ⟨rfl, _⟩ | ⟨g, c, rfl, _⟩
  · exact ⟨_, _, _, rfl⟩
  · exact ⟨_, _, _, rfl⟩
/-- one thing that has just been laid is a slice of one -/
theorem SlV.one (w : World) (x : T) (ty : TypeId) (cs : Array Value) (h : cs.toList = E.cells x) : SlV E (w.alloc (.cells cs ty)) (.slice (some ⟨w.heap.size, 0, none⟩) 1 1) [x] := by
  refine .inr ⟨⟨w.heap.size, 0, none⟩, 1, rfl, by simp, fun j u hu => ?_⟩
  rw [Addr.add_lit, cell_of_row _ w.heap.size (0 + j) cs ty (0, 0) (heap_alloc_new w _)]
  have : E.row [x] = E.cells x := by simp [Enc.row]
  rw [this, ← h] at hu
  simpa using hu

variable {P : Program}
/-- append, whatever is appended -/
theorem wpList_append_rows {w : World} {ops : Array Oper} {rest : List Oper} {o : Oper} {a : Act} {Q : Exit → Act → World → Prop} (hgd : o.guard = none) (s x : Operand) (t : TypeId)
    (ho : o.op = .call { callee := .builtin .append, args := #[s, x], argTypes := #[t, t] })
    (E : Enc T) (base : Nat) (e : TypeId) (z : Value) (bytes : Nat) (ht : P.underlying t = some (.slice e)) (hi : (P.info? e).map (fun i => (i.zero, i.size, i.bytes)) = some (some z, E.k, bytes))
    (hzs : z.cells.size = E.k) (hsz : 0 < E.k)
    (v u : Value) (L X : List T) (hs : a.eval s = v) (hx : a.eval x = u) (hown : Rw E e base v L w) (hu : SlV E w u X)
    (h63 : L.length + X.length ≤ maxLen) (hbytes : (L.length + X.length) * bytes ≤ 140737488355328) (hbase : base ≤ w.heap.size)
    (h : ∀ v' w', Rw E e base v' (L ++ X) w' → w.grownBy w' v.ownBlock → wpList P ops Q rest (a.put o.dst v') w') : wpList P ops Q (o :: rest) a w := by
  obtain ⟨i, hi0, hz0, hz1, hz2⟩ : ∃ i, P.info? e = some i ∧ i.zero = some z ∧ i.size = E.k ∧ i.bytes = bytes := by
    cases hq : P.info? e with
    | none => simp [hq] at hi
    | some i => simp [hq] at hi; exact ⟨i, rfl, hi.1, hi.2.1, hi.2.2⟩
  rcases hu with ⟨rfl, rfl⟩ | ⟨p, c, rfl, h1, h3⟩
  · refine wpList_append_own_none hgd s x t ho base e i E.k ht hi0 v L.length (E.row L) hs hown hx (h v w ?_ ⟨rfl, rfl, rfl, Nat.le_refl _, fun _ _ _ => rfl⟩)
    rw [List.append_nil]
    exact hown
  · refine wpList_append_own w hgd s x t ho base e i z E.k bytes ht hi0 hz0 hz1 hz2 hzs hsz v L.length (E.row L) hs hown p X.length c (E.row X) hx (E.row_len X) h3 (E.row_one X) h63 hbytes hbase (fun v' w' h4 h5 _ => h v' w' ?_ h5)
    unfold Rw
    rw [List.length_append, Enc.row_app]
    exact h4
/-- a cell of a row of the call's own is written -/
theorem Rw.stored {ty : TypeId} {base g n cap : Nat} {L L' : List T} {w : World} (h : Rw E ty base (.slice (some ⟨g, 0, none⟩) n cap) L w) (j : Nat) (u : Value) (hl : L'.length = L.length) (hr : E.row L' = (E.row L).set j u) :
    Rw E ty base (.slice (some ⟨g, 0, none⟩) n cap) L' (w.setCell ⟨g, j, none⟩ u) ∧ w.grownBy (w.setCell ⟨g, j, none⟩ u) (some g) := by
  have hn : n = L.length := h.sl.len
  subst hn
  have := World.ownsRow.stored h j u
  unfold Rw
  rw [hl, hr]
  exact this
end

/-- numbers, and truths -/
def intE : Enc Int := ⟨fun x => [.int .i64 x], 1, fun _ => rfl, fun x v hv => by simp at hv; subst hv; rfl⟩
def boolE : Enc Bool := ⟨fun x => [.bool x], 1, fun _ => rfl, fun x v hv => by simp at hv; subst hv; rfl⟩
theorem intE_row (L : List Int) : intE.row L = L.map (Value.int .i64) := by
  induction L with
  | nil => rfl
  | cons x r ih => rw [Enc.row_cons, ih]; rfl
theorem boolE_row (L : List Bool) : boolE.row L = L.map Value.bool := by
  induction L with
  | nil => rfl
  | cons x r ih => rw [Enc.row_cons, ih]; rfl
theorem intE_set (L : List Int) (i : Nat) (x : Int) : intE.row (L.set i x) = (intE.row L).set i (.int .i64 x) := by rw [intE_row, intE_row, List.map_set]
theorem boolE_set (L : List Bool) (i : Nat) (x : Bool) : boolE.row (L.set i x) = (boolE.row L).set i (.bool x) := by rw [boolE_row, boolE_row, List.map_set]
theorem Rw.madeInts (ty : TypeId) (base n : Nat) (w : World) (hb : base ≤ w.heap.size) (hn : n ≤ maxLen) : Rw intE ty base (.slice (some ⟨w.heap.size, 0, none⟩) n n) (List.replicate n 0) (w.alloc (.cells (madeCells #[.int .i64 0] n) ty)) := by
  have h := World.ownsRow_lit (e := ty) (base := base) (size := 1) w (madeCells #[.int .i64 0] n) n hb hn (by simp [size_madeCells])
  unfold Rw
  rw [List.length_replicate, intE_row, List.map_replicate]
  rw [toList_madeCells_one] at h
  exact h
theorem Rw.madeBools (ty : TypeId) (base n : Nat) (w : World) (hb : base ≤ w.heap.size) (hn : n ≤ maxLen) : Rw boolE ty base (.slice (some ⟨w.heap.size, 0, none⟩) n n) (List.replicate n false) (w.alloc (.cells (madeCells #[.bool false] n) ty)) := by
  have h := World.ownsRow_lit (e := ty) (base := base) (size := 1) w (madeCells #[.bool false] n) n hb hn (by simp [size_madeCells])
  unfold Rw
  rw [List.length_replicate, boolE_row, List.map_replicate]
  rw [toList_madeCells_one] at h
  exact h
theorem Rw.fr {T : Type} {E : Enc T} {ty : TypeId} {base : Nat} {v : Value} {L : List T} {w w' : World} {X : Nat → Prop} (h : Rw E ty base v L w) (hb : ∀ k, k < w.heap.size → ¬ X k → w'.heap[k]? = w.heap[k]?) (hx : ∀ k, v.ownBlock = some k → ¬ X k) : Rw E ty base v L w' :=
  h.kept (fun k hk => hb k (h.lt k hk).2 (hx k hk))
/-- a cell of a row that is a slice -/
theorem Rw.at' {T : Type} {E : Enc T} {ty : TypeId} {base : Nat} {v : Value} {g n c : Nat} {L : List T} {w : World} (h : Rw E ty base v L w) (hv : v = .slice (some ⟨g, 0, none⟩) n c) {i : Nat} {x : T} (hx : L[i]? = some x) {j : Nat} {u : Value} (hu : (E.cells x)[j]? = some u) : w.cell? ⟨g, i * E.k + j, none⟩ = some u := by
  have := h.sl
  rw [hv] at this
  rcases this with ⟨e, _⟩ | ⟨p, c', e, h1, h3⟩
  · cases e
  · cases e
    have := h3 _ _ (E.row_at hx hu)
    rw [Addr.add_lit] at this
    simpa using this
theorem Rw.fz {T : Type} {E : Enc T} {ty : TypeId} {base : Nat} {g n c : Nat} {L : List T} {w : World} (h : Rw E ty base (.slice (some ⟨g, 0, none⟩) n c) L w) (j : Nat) : w.frozen? ⟨g, j, none⟩ = false := by
  have hn : n = L.length := h.sl.len
  subst hn
  exact World.ownsRow.frozenAt h j
end Go.Proofs.YtneggbhjekklhaaDoor
