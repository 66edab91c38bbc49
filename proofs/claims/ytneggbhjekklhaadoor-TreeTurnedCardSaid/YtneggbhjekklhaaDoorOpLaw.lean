/- An operation's text and back: plain laws, no program. -/
import Derived.Test.YtneggbhjekklhaaDoorOpText
import Derived.Lib.Join
namespace Go.Proofs.YtneggbhjekklhaaDoor
open Go Go.RowKit
set_option linter.unusedVariables false
set_option linter.unusedSimpArgs false
set_option maxHeartbeats 1000000
set_option maxRecDepth 100000

theorem join_two (w v : List UInt8) (r : List (List UInt8)) (b : UInt8) : Lib.join (w :: v :: r) [b] = w ++ b :: Lib.join (v :: r) [b] := by
  simp [Lib.join, List.intercalate, List.intersperse]
theorem cut_join (b : UInt8) : ∀ (ws : List (List UInt8)), ws ≠ [] → (∀ w ∈ ws, ∀ c ∈ w, c ≠ b) → Num.cutL b (Lib.join ws [b]) = ws
  | [], h, _ => (h rfl).elim
  | [w], _, h => by rw [Lib.join_one, Num.cutL_none b w (h w (by simp))]
  | w :: v :: r, _, h => by
    rw [join_two, Num.cutL_hit b w _ (h w (by simp)), cut_join b (v :: r) (by simp) (fun x hx => h x (by simp [hx]))]
theorem join_cut (b : UInt8) : ∀ (l : List UInt8), Lib.join (Num.cutL b l) [b] = l
  | [] => rfl
  | c :: r => by
    have ih := join_cut b r
    obtain ⟨x, xs, hx⟩ : ∃ x xs, Num.cutL b r = x :: xs := by
      cases hc : Num.cutL b r with
      | nil => exact (Num.cutL_ne b r hc).elim
      | cons x xs => exact ⟨x, xs, rfl⟩
    unfold Num.cutL
    split
    · next h => subst h; rw [hx, join_two, ← hx, ih]; rfl
    · rw [hx] at ih ⊢
      simp only [List.headD_cons, List.tail_cons]
      cases xs with
      | nil => rw [Lib.join_one] at ih ⊢; rw [ih]
      | cons y ys => rw [join_two] at ih ⊢; rw [← ih]; rfl

theorem hexD_un : ∀ n : Nat, n < 16 → unD (hexD n) = n := by decide +kernel
theorem un_hexD : ∀ n : Nat, n < 256 → 0 ≤ unD n.toUInt8 → hexD (unD n.toUInt8).toNat = n.toUInt8 := by decide +kernel
theorem un_hexD' (c : UInt8) (h : 0 ≤ unD c) : hexD (unD c).toNat = c := by
  have := un_hexD c.toNat c.toNat_lt
  rw [show c.toNat.toUInt8 = c from UInt8.ofNat_toNat] at this
  exact this h
theorem hexL_cons (c : UInt8) (r : List UInt8) : hexL (c :: r) = hexD (c.toNat / 16) :: hexD (c.toNat % 16) :: hexL r := rfl
theorem unhex_hex : ∀ l : List UInt8, unhexL (hexL l) = some l
  | [] => rfl
  | c :: r => by
    have hc := c.toNat_lt
    have h1 := hexD_un (c.toNat / 16) (by omega)
    have h2 := hexD_un (c.toNat % 16) (by omega)
    rw [hexL_cons, unhexL, h1, h2, if_neg (by omega), unhex_hex r]
    simp only [Option.map_some, Option.some.injEq, List.cons.injEq, and_true]
    rw [show 16 * ((c.toNat / 16 : Nat) : Int).toNat + ((c.toNat % 16 : Nat) : Int).toNat = c.toNat by omega]
    exact UInt8.ofNat_toNat
theorem hex_unhex : ∀ (l v : List UInt8), unhexL l = some v → hexL v = l
  | [], v, h => by simp [unhexL] at h; subst h; rfl
  | [_], v, h => by simp [unhexL] at h
  | a :: b :: r, v, h => by
    unfold unhexL at h
    split at h
    · cases h
    · next hx =>
      cases hr : unhexL r with
      | none => rw [hr] at h; cases h
      | some u =>
        rw [hr] at h
        simp only [Option.map_some, Option.some.injEq] at h
        subst h
        have ra := unD_range a
        have rb := unD_range b
        have e : (UInt8.ofNat (16 * (unD a).toNat + (unD b).toNat)).toNat = 16 * (unD a).toNat + (unD b).toNat := by
          rw [UInt8.toNat_ofNat']
          omega
        rw [hexL_cons, e, hex_unhex r u hr, show (16 * (unD a).toNat + (unD b).toNat) / 16 = (unD a).toNat by omega, show (16 * (unD a).toNat + (unD b).toNat) % 16 = (unD b).toNat by omega,
          un_hexD' a (by omega), un_hexD' b (by omega)]

def wd (xs : List (List UInt8)) (j : Nat) : List UInt8 := xs.getD j []
def zeroOp : OpT := ⟨0, 0, 0, 0, 0, 0, ⟨#[]⟩, ⟨#[]⟩⟩
def numsOk (xs : List (List UInt8)) : Bool := decide (0 ≤ Num.numOf (wd xs 1) 10 ∧ 0 ≤ Num.numOf (wd xs 2) 10 ∧ 0 ≤ Num.numOf (wd xs 3) 10 ∧ 0 ≤ Num.numOf (wd xs 4) 10 ∧ 0 ≤ Num.numOf (wd xs 5) 10)
theorem numsOk_iff (xs : List (List UInt8)) : numsOk xs = true ↔ ∀ j, j < 5 → 0 ≤ Num.numOf (wd xs (j + 1)) 10 := by
  unfold numsOk
  rw [decide_eq_true_eq]
  constructor
  · rintro ⟨h1, h2, h3, h4, h5⟩ j hj
    match j, hj with
    | 0, _ => exact h1
    | 1, _ => exact h2
    | 2, _ => exact h3
    | 3, _ => exact h4
    | 4, _ => exact h5
  · intro h
    exact ⟨h 0 (by omega), h 1 (by omega), h 2 (by omega), h 3 (by omega), h 4 (by omega)⟩
/-- an operation of its words -/
def opOfW (xs : List (List UInt8)) : Option OpT :=
  if xs.length = 8 ∧ (wd xs 0).length = 1 ∧ numsOk xs = true then
    (unhexL (wd xs 7)).map fun v => ⟨Num.numOf (wd xs 1) 10, Num.numOf (wd xs 2) 10, Num.numOf (wd xs 3) 10, ((wd xs 0).headD 0).toNat, Num.numOf (wd xs 4) 10, Num.numOf (wd xs 5) 10, S (wd xs 6), S v⟩
  else none
/-- what reading answers: an operation, an error's number -/
def opRdW (xs : List (List UInt8)) : OpT × Nat := match opOfW xs with | none => (zeroOp, 1) | some o => if opErr o = 0 then (o, 0) else (zeroOp, opErr o)

theorem dig_ne {c : UInt8} (h : Num.isDig c = true) : c ≠ 124 := by rintro rfl; revert h; decide
theorem itoa_dig (n : Int) (h : 0 ≤ n) : (Lib.itoa n).all Num.isDig = true := by
  rw [itoa_nonneg n h]
  obtain ⟨_, _, _, ha, _⟩ := Num.dec_head n.toNat
  exact ha
theorem name_ne {c : UInt8} (h : nameB c = true) : c ≠ 124 := by rintro rfl; revert h; decide
theorem hexD_ne : ∀ n : Nat, n < 16 → hexD n ≠ 124 := by decide +kernel
theorem hexL_no : ∀ (l : List UInt8), ∀ c ∈ hexL l, c ≠ 124
  | [], c, h => by simp [hexL] at h
  | d :: r, c, h => by
    have hd := d.toNat_lt
    rw [hexL_cons] at h
    rcases List.mem_cons.1 h with rfl | h
    · exact hexD_ne _ (by omega)
    · rcases List.mem_cons.1 h with rfl | h
      · exact hexD_ne _ (by omega)
      · exact hexL_no r c h
theorem numOf_itoa (n : Int) (h0 : 0 ≤ n) (h1 : n < 10000000000) : Num.numOf (Lib.itoa n) 10 = n := by
  have hid := itoa_nonneg n h0
  obtain ⟨c, r, e, ha, hp⟩ := Num.dec_head n.toNat
  have hl := dec_len 10 n.toNat (by omega) (by omega)
  have h2 : 1 ≤ (Lib.decDigits n.toNat).length := by rw [e]; simp
  have hb : Num.digVal 0 (Lib.decDigits n.toNat) < 9223372036854775808 := by
    have := Num.digVal_lt (Lib.decDigits n.toNat) 0 ha
    have h3 : 10 ^ (Lib.decDigits n.toNat).length ≤ 10 ^ 10 := Nat.pow_le_pow_right (by omega) (by omega)
    omega
  have h0' : ¬ (1 < (Lib.decDigits n.toNat).length ∧ (Lib.decDigits n.toNat).head? = some 48) := by
    rintro ⟨h3, h4⟩
    rw [e] at h4
    simp at h4
    by_cases hz : 0 < n.toNat
    · exact hp hz h4
    · rw [show n.toNat = 0 by omega, Lib.decDigits_one (by omega)] at h3
      simp at h3
  have hv := Num.dec_val _ ha h2 h0'
  have hinj : ∀ a b : Nat, Lib.decDigits a = Lib.decDigits b → a = b := by
    intro a
    induction a using Nat.strongRecOn with
    | _ a ih =>
      intro b hab
      have val1 : ∀ k : Nat, k < 10 → (UInt8.ofNat (48 + k)).toNat = 48 + k := fun k hk => by rw [UInt8.toNat_ofNat']; omega
      have ne : ∀ k, Lib.decDigits k ≠ [] := fun k hk => by obtain ⟨c, r, e, _⟩ := Num.dec_head k; rw [hk] at e; cases e
      by_cases ha : a < 10
      · by_cases hb : b < 10
        · rw [Lib.decDigits_one ha, Lib.decDigits_one hb] at hab
          have := congrArg UInt8.toNat (List.cons.inj hab).1
          rw [val1 a ha, val1 b hb] at this
          omega
        · rw [Lib.decDigits_one ha, Lib.decDigits.eq_1 b, dif_neg hb] at hab
          have := congrArg List.length hab
          have h3 := List.length_pos_iff.2 (ne (b / 10))
          rw [List.length_append, List.length_singleton, List.length_singleton] at this
          omega
      · by_cases hb : b < 10
        · rw [Lib.decDigits_one hb, Lib.decDigits.eq_1 a, dif_neg ha] at hab
          have := congrArg List.length hab
          have h3 := List.length_pos_iff.2 (ne (a / 10))
          rw [List.length_append, List.length_singleton, List.length_singleton] at this
          omega
        · rw [Lib.decDigits.eq_1 a, Lib.decDigits.eq_1 b, dif_neg ha, dif_neg hb] at hab
          obtain ⟨h1, h2⟩ := List.append_inj' hab rfl
          have := ih (a / 10) (by omega) (b / 10) h1
          have := congrArg UInt8.toNat (List.cons.inj h2).1
          rw [val1 _ (Nat.mod_lt a (by omega)), val1 _ (Nat.mod_lt b (by omega))] at this
          omega
  have hn := hinj _ _ hv
  have hat := Num.atoi_digits _ h2 ha hb
  have := (Num.numOf_spec (Lib.itoa n) 10 (by omega) n).1 ⟨by rw [hid, hat, hn, Int.toNat_of_nonneg h0], h0, by rw [hid]; exact hl, rfl⟩
  exact this.1

/-- what a right operation's parts are -/
theorem op_good {o : OpT} (h : opErr o = 0) : StampOk o.t o.b ∧ ¬ (o.n < 1 ∨ 400 < o.n) ∧ (o.k = 109 ∨ o.k = 105 ∨ o.k = 100 ∨ o.k = 115) ∧ numB o.k o.nd o.ot o.id = true ∧ nmB o = true ∧ vlB o.k o.vl = true := by
  unfold opErr at h
  split at h
  · cases h
  · next h1 =>
    split at h
    · cases h
    · next h2 =>
      split at h
      · cases h
      · next h3 =>
        split at h
        · cases h
        · next h4 =>
          split at h
          · cases h
          · next h5 =>
            refine ⟨Decidable.of_not_not fun hn => h1 (.inl hn), fun hn => h1 (.inr hn), Decidable.of_not_not h2, by simpa using h3, by simpa using h4, by simpa using h5⟩
theorem op_nums {o : OpT} (h : opErr o = 0) : ∀ j, 0 ≤ opNums o j ∧ opNums o j < 10000000000 := by
  obtain ⟨hs, hn, hk, hN, _, _⟩ := op_good h
  have hN' := of_decide_eq_true hN
  unfold StampOk at hs
  unfold OpT.id at hN'
  intro j
  match j with
  | 0 => show 0 ≤ o.t ∧ o.t < _; omega
  | 1 => show 0 ≤ o.b ∧ o.b < _; omega
  | 2 => show 0 ≤ o.n ∧ o.n < _; omega
  | 3 => show 0 ≤ o.nd ∧ o.nd < _; omega
  | _ + 4 => show 0 ≤ o.ot ∧ o.ot < _; omega
theorem op_name {o : OpT} (h : opErr o = 0) : ∀ c ∈ o.nm.data.toList, c ≠ 124 := by
  obtain ⟨_, _, _, _, hM, _⟩ := op_good h
  unfold nmB at hM
  split at hM
  · unfold isNmB at hM
    rw [Bool.and_eq_true] at hM
    intro c hc
    exact name_ne (List.all_eq_true.1 hM.2 c hc)
  · have h0 : o.nm.size = 0 := by simpa using hM
    intro c hc
    rw [List.eq_nil_of_length_eq_zero (show o.nm.data.toList.length = 0 from h0)] at hc
    cases hc
theorem cut_text {o : OpT} (h : opErr o = 0) : Num.cutL 124 (opTextL o) = opWords o := by
  refine cut_join 124 _ (by simp [opWords]) ?_
  obtain ⟨_, _, hk, _, _, _⟩ := op_good h
  have hN := op_nums h
  intro w hw c hc
  have hnum : ∀ n : Int, 0 ≤ n → c ∈ Lib.itoa n → c ≠ 124 := fun n hn hc => dig_ne (List.all_eq_true.1 (itoa_dig n hn) c hc)
  simp only [opWords, List.mem_cons, List.not_mem_nil, or_false] at hw
  rcases hw with rfl | rfl | rfl | rfl | rfl | rfl | rfl | rfl
  · simp only [List.mem_cons, List.not_mem_nil, or_false] at hc
    subst hc
    rcases hk with hk | hk | hk | hk <;> rw [hk] <;> decide
  · exact hnum o.t (hN 0).1 hc
  · exact hnum o.b (hN 1).1 hc
  · exact hnum o.n (hN 2).1 hc
  · exact hnum o.nd (hN 3).1 hc
  · exact hnum o.ot (hN 4).1 hc
  · exact op_name h c hc
  · exact hexL_no _ c hc
/-- what is written is read again -/
theorem op_back {o : OpT} (h : opErr o = 0) : opRdW (Num.cutL 124 (opTextL o)) = (o, 0) := by
  have hN := op_nums h
  obtain ⟨_, _, hk, _, _, _⟩ := op_good h
  have e : opOfW (opWords o) = some o := by
    unfold opOfW
    rw [if_pos]
    · show (unhexL (hexL o.vl.data.toList)).map _ = _
      rw [unhex_hex]
      have hk2 : ((UInt8.ofNat o.k.toNat).toNat : Int) = o.k := by rcases hk with hk | hk | hk | hk <;> rw [hk] <;> decide
      obtain ⟨t, b, n, k, nd, ot, nm, vl⟩ := o
      simp only [Option.map_some, Option.some.injEq, wd, opWords, List.getD_cons_zero, List.getD_cons_succ, List.headD_cons, S_of, OpT.mk.injEq]
      exact ⟨numOf_itoa t (hN 0).1 (hN 0).2, numOf_itoa b (hN 1).1 (hN 1).2, numOf_itoa n (hN 2).1 (hN 2).2, hk2, numOf_itoa nd (hN 3).1 (hN 3).2, numOf_itoa ot (hN 4).1 (hN 4).2, by trivial⟩
    · refine ⟨rfl, rfl, (numsOk_iff _).2 ?_⟩
      intro j hj
      match j, hj with
      | 0, _ => have := numOf_itoa o.t (hN 0).1 (hN 0).2; show 0 ≤ Num.numOf (Lib.itoa o.t) 10; rw [this]; exact (hN 0).1
      | 1, _ => have := numOf_itoa o.b (hN 1).1 (hN 1).2; show 0 ≤ Num.numOf (Lib.itoa o.b) 10; rw [this]; exact (hN 1).1
      | 2, _ => have := numOf_itoa o.n (hN 2).1 (hN 2).2; show 0 ≤ Num.numOf (Lib.itoa o.n) 10; rw [this]; exact (hN 2).1
      | 3, _ => have := numOf_itoa o.nd (hN 3).1 (hN 3).2; show 0 ≤ Num.numOf (Lib.itoa o.nd) 10; rw [this]; exact (hN 3).1
      | 4, _ => have := numOf_itoa o.ot (hN 4).1 (hN 4).2; show 0 ≤ Num.numOf (Lib.itoa o.ot) 10; rw [this]; exact (hN 4).1
  rw [cut_text h]
  unfold opRdW
  rw [e]
  simp [h]
/-- one text alone is an operation's -/
theorem op_text_back {s : List UInt8} {o : OpT} (h : opOfW (Num.cutL 124 s) = some o) : opTextL o = s := by
  unfold opOfW at h
  split at h
  · next hc =>
    obtain ⟨h8, h1, hn⟩ := hc
    have hn := (numsOk_iff _).1 hn
    generalize hx : Num.cutL 124 s = xs at h h8 h1 hn
    have hj : Lib.join xs [124] = s := by rw [← hx]; exact join_cut 124 s
    match xs, h8 with
    | [w0, w1, w2, w3, w4, w5, w6, w7], _ =>
      have hi : ∀ w, 0 ≤ Num.numOf w 10 → Lib.itoa (Num.numOf w 10) = w := fun w hw => ((Num.numOf_spec w 10 (by omega) _).2 ⟨rfl, hw⟩).2.2.2
      cases hu : unhexL w7 with
      | none => rw [show wd [w0, w1, w2, w3, w4, w5, w6, w7] 7 = w7 from rfl, hu] at h; cases h
      | some v =>
        rw [show wd [w0, w1, w2, w3, w4, w5, w6, w7] 7 = w7 from rfl, hu] at h
        simp only [Option.map_some, Option.some.injEq] at h
        subst h
        match w0, h1 with
        | [c], _ =>
          rw [← hj]
          unfold opTextL opWords
          simp only [wd, List.getD_cons_zero, List.getD_cons_succ, List.headD_cons, S_list]
          rw [hi w1 (hn 0 (by omega)), hi w2 (hn 1 (by omega)), hi w3 (hn 2 (by omega)), hi w4 (hn 3 (by omega)), hi w5 (hn 4 (by omega)), hex_unhex w7 v hu]
          simp
  · cases h
theorem op_rd_ok {s : List UInt8} {o : OpT} (h : opRdW (Num.cutL 124 s) = (o, 0)) : opErr o = 0 ∧ opTextL o = s := by
  unfold opRdW at h
  split at h
  · cases h
  · next o' ho =>
    split at h
    · next he =>
      injection h with h1 h2
      subst h1
      exact ⟨he, op_text_back ho⟩
    · next he =>
      injection h with h1 h2
      exact (he h2).elim
end Go.Proofs.YtneggbhjekklhaaDoor
