/- Slices of operations: are they long; a copy; are two the same. Operations in order, by the document: the walk of SortedOf. A replica's operations by whose, and number: the walk of byOwn. -/
import Derived.Deep.CutBlock
import Derived.Test.YtjekalilfhnpmaaGreatDoorM05
import Derived.Test.YtjekalilfhnpmaaGreatDoorM06
import Derived.Test.YtjekalilfhnpmaaGreatDoorM09
namespace Go.Proofs.YtjekalilfhnpmaaGreatDoor
open Go Go.RowKit Go.Shelf Go.Lib Go.Sort
set_option linter.unusedVariables false
set_option linter.unusedSimpArgs false
set_option maxHeartbeats 4000000
set_option maxRecDepth 100000
theorem ops_at {w : World} {A : Option Addr} {n c : Nat} {L : List OpT} (h : SlV opE w (.slice A n c) L) {i : Nat} {x : OpT} (hx : L[i]? = some x) :
    ∃ b off, A = some ⟨b, off, none⟩ ∧ b < w.heap.size ∧ w.cell? ⟨b, off + i * 8, none⟩ = some (.int .i64 x.t) ∧ w.cell? ⟨b, off + i * 8 + 1, none⟩ = some (.int .i64 x.b) ∧ w.cell? ⟨b, off + i * 8 + 2, none⟩ = some (.int .i64 x.n) ∧ w.cell? ⟨b, off + i * 8 + 3, none⟩ = some (.int .u8 x.k) ∧
      w.cell? ⟨b, off + i * 8 + 4, none⟩ = some (.int .i64 x.nd) ∧ w.cell? ⟨b, off + i * 8 + 5, none⟩ = some (.int .i64 x.ot) ∧ w.cell? ⟨b, off + i * 8 + 6, none⟩ = some (.string x.nm) ∧ w.cell? ⟨b, off + i * 8 + 7, none⟩ = some (.string x.vl) := by
  obtain ⟨b, off, e, hb, hc⟩ := h.at' (by decide) hx
  refine ⟨b, off, e, hb, ?_⟩
  have g : ∀ j u, (opE.cells x)[j]? = some u → w.cell? ⟨b, off + i * 8 + j, none⟩ = some u := fun j u hu => by rw [Nat.add_assoc]; exact hc j u hu
  exact ⟨g 0 _ rfl, g 1 _ rfl, g 2 _ rfl, g 3 _ rfl, g 4 _ rfl, g 5 _ rfl, g 6 _ rfl, g 7 _ rfl⟩
theorem below_drawn {b : Nat} {w w' : World} (h : Below b w w') (q : Nat) : Below b w (w'.drewN q) := ⟨h.os, h.tape, h.output, h.size, fun k hk => h.block k hk⟩
def longOp (x : OpT) : Bool := decide (60 < x.nm.size) || decide (60 < x.vl.size)
def longOps (most : Nat) (L : List OpT) : Bool := decide (most < L.length) || L.any longOp
theorem any_of_at {L : List OpT} {i : Nat} {x : OpT} (hx : L[i]? = some x) (h : longOp x = true) : L.any longOp = true := List.any_eq_true.2 ⟨x, List.mem_of_getElem? hx, h⟩
theorem any_none {L : List OpT} {n : Nat} (hn : n = L.length) (h : ∀ j x, j < n → L[j]? = some x → longOp x = false) : L.any longOp = false := by
  rw [List.any_eq_false]
  intro x hx
  obtain ⟨j, hj, rfl⟩ := List.getElem_of_mem hx
  simp [h j _ (by omega) (List.getElem?_eq_getElem hj)]
theorem longOps_any (A : Option Addr) (n c most : Nat) (L : List OpT) (w : World) (hs : SlV opE w (.slice A n c) L) (hc : n ≤ maxLen) (hm : most ≤ 1000) :
    Calls Tryz.prog 37 #[.slice A n c, .int .i64 most] w fun e w' => e = .returned (.int .i64 (if longOps most L then 1 else 0)) ∧ w' = w := by
  have hn := hs.len
  have HN := Lib.hid hn
  have HS := Lib.hid hs
  obtain ⟨R, hR⟩ : ∃ R : Int, (if longOps most L then 1 else 0) = R := ⟨_, rfl⟩
  have HR := Lib.hid hR
  rw [hR]
  have hmx : n ≤ 9223372036854775807 := by unfold maxLen at hc; omega
  clear hs hn hR hc
  by_cases hlong : most < n
  · have i0 : (most : Int) < (n : Int) := by omega
    go_enter Tryz.func37, Tryz.ntmps37
    go_wp2_with fail
    go_ret
    have := HN.out
    exact ⟨by rw [← HR.out]; simp [longOps, show most < L.length by omega], rfl⟩
  · have i0 : ¬ (most : Int) < (n : Int) := by omega
    go_enter Tryz.func37, Tryz.ntmps37
    go_wp2_with fail
    go_loopw [5] (fun v5 wr => ∃ j : Nat, j ≤ n ∧ v5 = .int .i64 j ∧ wr = w ∧ Hid (∀ i x, i < j → L[i]? = some x → longOp x = false)) (fun v5 _ => n - (RowKit.intOf v5).toNat)
    case atStart => exact ⟨0, by omega, rfl, rfl, Lib.hid (fun i x h => by omega)⟩
    case round =>
      obtain ⟨j, hj, rfl, rfl, HA⟩ := hrel
      by_cases hlt : j < n
      · obtain ⟨x, hx⟩ : ∃ x, L[j]? = some x := ⟨_, List.getElem?_eq_getElem (by have := HN.out; omega)⟩
        obtain ⟨b, off, rfl, hbl, c0, c1, c2, c3, c4, c5, c6, c7⟩ := ops_at HS.out hx
        have HX := Lib.hid hx
        clear hx c0 c1 c2 c3 c4 c5 hbl
        have i1 : (0 : Int) ≤ (j : Int) := by omega
        have i2 : (j : Int) < (n : Int) := by omega
        by_cases h6 : 60 < x.nm.size
        · have k6 : (60 : Int) < (x.nm.size : Int) := by omega
          have HL : Hid (longOp x = true) := Lib.hid (by simp [longOp, h6])
          go_wp2_with fail
          go_ret
          have := any_of_at HX.out HL.out
          exact ⟨by rw [← HR.out]; simp [longOps, this], rfl⟩
        · have k6 : ¬ (60 : Int) < (x.nm.size : Int) := by omega
          by_cases h7 : 60 < x.vl.size
          · have k7 : (60 : Int) < (x.vl.size : Int) := by omega
            have HL : Hid (longOp x = true) := Lib.hid (by simp [longOp, h7])
            go_wp2_with fail
            go_ret
            have := any_of_at HX.out HL.out
            exact ⟨by rw [← HR.out]; simp [longOps, this], rfl⟩
          · have k7 : ¬ (60 : Int) < (x.vl.size : Int) := by omega
            have HL : Hid (longOp x = false) := Lib.hid (by simp [longOp]; omega)
            go_wp2_with fail
            go_roundw
            case rel => exact ⟨j + 1, by omega, by go_num, trivial, Lib.hid (fun i y h1 h2 => by
              by_cases he : i = j
              · subst he; rw [HX.out] at h2; cases h2; exact HL.out
              · exact HA.out i y (by omega) h2)⟩
            case measure => simp [RowKit.intOf]; omega
      · have i2 : ¬ (j : Int) < (n : Int) := by omega
        go_wp2_with fail
        go_ret
        have h1 : j = n := by omega
        have := any_none HN.out (by rw [← h1]; exact HA.out)
        have h2 := HN.out
        exact ⟨by rw [← HR.out]; simp [longOps, this]; omega, rfl⟩
theorem ownOps_any (A : Option Addr) (n c : Nat) (L : List OpT) (w : World) (hs : SlV opE w (.slice A n c) L) (hn : L.length ≤ 100000) :
    Calls Tryz.prog 35 #[.slice A n c] w fun e w' => ∃ v', e = .returned v' ∧ Rw opE 31 w.heap.size v' L w' ∧ Below w.heap.size w w' := by
  have HS := Lib.hid hs
  have HN := Lib.hid hn
  clear hs hn
  go_enter Tryz.func35, Tryz.ntmps35
  go_wp2_with (at_builtin; refine wpList_append_rows rfl _ _ 36 rfl opE w.heap.size 31 (opV ⟨0, 0, 0, 0, 0, 0, ⟨#[]⟩, ⟨#[]⟩⟩) 80 Tryz.underlying36 infoOp rfl (by decide) _ _ [] L rfl rfl (Rw.nil _ _ _ _) HS.out ?e1 ?e2 ?e3 ?_)
  case e1 => have := HN.out; simp [maxLen]; omega
  case e2 => have := HN.out; simp; omega
  case e3 => exact Nat.le_refl _
  intro v1 w1 hr1 hg1
  have HR1 := Lib.hid hr1
  have HB1 : Hid (Below w.heap.size w w1) := Lib.hid ((Below.refl _ _).grown hg1 (Nat.le_refl _) (fun k hk => by simp [Value.ownBlock] at hk))
  clear hr1 hg1
  go_wp2_with fail
  go_ret
  exact ⟨_, rfl, by have := HR1.out; simpa using this, HB1.out⟩
theorem sameOps_any (A A' : Option Addr) (n c n' c' : Nat) (L : List OpT) (w : World) (hs : SlV opE w (.slice A n c) L) (hs' : SlV opE w (.slice A' n' c') L) (hn : L.length ≤ 100000) :
    Calls Tryz.prog 20 #[.slice A n c, .slice A' n' c'] w fun e w' => e = .returned (.bool true) ∧ Below w.heap.size w w' := by
  obtain rfl : n = n' := hs.len.trans hs'.len.symm
  have hl := hs.len
  rw [← hl] at hn
  have HN := Lib.hid hl
  have HS := Lib.hid hs
  have HS' := Lib.hid hs'
  clear hs hs' hl
  go_enter Tryz.func20, Tryz.ntmps20
  go_wp2_with fail
  go_loopw [5] (fun v5 wr => ∃ j : Nat, j ≤ n ∧ v5 = .int .i64 j ∧ Hid (Below w.heap.size w wr)) (fun v5 _ => n - (RowKit.intOf v5).toNat)
  case atStart => exact ⟨0, by omega, rfl, Lib.hid (Below.refl _ _)⟩
  case round =>
    obtain ⟨j, hj, rfl, HB⟩ := hrel
    by_cases hlt : j < n
    · obtain ⟨x, hx⟩ : ∃ x, L[j]? = some x := ⟨_, List.getElem?_eq_getElem (by have := HN.out; omega)⟩
      obtain ⟨b, off, rfl, hbl, c0, c1, c2, c3, c4, c5, c6, c7⟩ := ops_at (HS.out.below HB.out) hx
      obtain ⟨b', off', rfl, hbl', d0, d1, d2, d3, d4, d5, d6, d7⟩ := ops_at (HS'.out.below HB.out) hx
      have i1 : (0 : Int) ≤ (j : Int) := by omega
      have i2 : (j : Int) < (n : Int) := by omega
      clear hx hbl hbl'
      have heq : ∀ w, (Op.equalIn 10000 31 (opV x) (opV x)).run Tryz.prog w = .ok true w := fun w => (eqOp_run x x w).trans (by rw [opEqB_refl])
      have HW : ∀ nq, Hid (Below w.heap.size w (wr.drewN nq)) := fun nq => Lib.hid (below_drawn HB.out nq)
      go_wp2_with fail
      go_quiet (fail)
      rename_i nq
      have HB2 := HW nq
      clear c0 c1 c2 c3 c4 c5 c6 c7 d0 d1 d2 d3 d4 d5 d6 d7 heq HW
      generalize wr.drewN nq = wq at HB2 ⊢
      go_wp2_with fail
      go_roundw
      case rel => exact ⟨j + 1, by omega, by go_num, HB2⟩
      case measure => simp [RowKit.intOf]; omega
    · have i2 : ¬ (j : Int) < (n : Int) := by omega
      go_wp2_with fail
      go_ret
      exact ⟨rfl, HB.out⟩
end Go.Proofs.YtjekalilfhnpmaaGreatDoor
namespace Go.Proofs.YtjekalilfhnpmaaGreatDoor
open Go Go.RowKit Go.Shelf Go.Lib Go.Sort
set_option linter.unusedVariables false
set_option linter.unusedSimpArgs false
set_option maxHeartbeats 4000000
set_option maxRecDepth 100000
theorem Rw.lower {T : Type} {E : Enc T} {ty : TypeId} {base b : Nat} {v : Value} {L : List T} {w : World} (h : Rw E ty base v L w) (hb : b ≤ base) : Rw E ty b v L w := ⟨h.1, by
  rcases h.2 with hn | ⟨g, cap, cur, e1, e2, e3⟩
  · exact .inl hn
  · exact .inr ⟨g, cap, cur, e1, by omega, e3⟩⟩
theorem kOf_succ {x y : OpT} {O : List OpT} {k : Nat} (hy : O[k]? = some y) : kOf opLt x O (k + 1) = if opLt x y then kOf opLt x O k else k + 1 := by
  conv => lhs; unfold kOf
  rw [hy]
end Go.Proofs.YtjekalilfhnpmaaGreatDoor
namespace Go.Proofs.YtjekalilfhnpmaaGreatDoor
open Go Go.RowKit Go.Maps Go.Shelf
set_option linter.unusedVariables false
set_option linter.unusedSimpArgs false
set_option maxHeartbeats 4000000
set_option maxRecDepth 100000
/-- operations in a map of the call's own, by whose, and number -/
def ownM (K : List OpT) : Int × Int → Option OpT := fun k => findOwn K k.1 k.2
abbrev MO (mb n : Nat) (K : List OpT) (w : World) : Prop := MT Tryz.prog 195 pairV opV mb n (ownM K) w
theorem ownM_snoc (K : List OpT) (o : OpT) : ownM (K ++ [o]) = updT (ownM K) (o.b, o.n) (some o) := by
  funext k
  unfold ownM updT
  rw [findOwn_snoc]
  obtain ⟨a, c⟩ := k
  by_cases h : o.b = a ∧ o.n = c
  · obtain ⟨rfl, rfl⟩ := h
    simp
  · rw [if_neg h, if_neg]
    rintro ⟨⟩
    exact h ⟨rfl, rfl⟩
theorem wf_own {o : OpT} (h : o.Wf) : ∃ kl, keyOf Tryz.prog 195 (pairV (o.b, o.n)) = some kl := ownK_reads ⟨h.b1, h.b2⟩ ⟨h.n1, h.n2⟩
theorem byOwn_any (RB : Nat) (A : Option Addr) (n c : Nat) (K : List OpT) (w : World) (hc : w.cell? ⟨RB, 6, none⟩ = some (.slice A n c)) (hs : SlV opE w (.slice A n c) K) (hn : K.length ≤ 100000) (hw : ∀ o ∈ K, o.Wf) :
    Calls Tryz.prog 109 #[.pointer (some ⟨RB, 0, none⟩)] w fun e w' => ∃ mb, e = .returned (.map (some mb)) ∧ w.heap.size ≤ mb ∧ MO mb K.length K w' ∧ Below w.heap.size w w' := by
  have hl := hs.len
  have HS := Lib.hid hs
  have HW := Lib.hid hw
  have HN := Lib.hid hl
  rw [← hl] at hn
  have hRB := World.block_lt_of_cell? w _ hc
  have hmm := @run_makeMap Tryz.prog
  clear hs hw hl
  go_enter Tryz.func109, Tryz.ntmps109
  go_wp2_with fail
  go_loopw [12] (fun v12 wr => ∃ i : Nat, i ≤ n ∧ v12 = .int .i64 i ∧ Hid (MO w.heap.size i (K.take i) wr) ∧ Hid (Below w.heap.size w wr)) (fun v12 _ => n - (intOf v12).toNat)
  case atStart => exact ⟨0, by omega, rfl, Lib.hid (by rw [List.take_zero]; exact MT.made w _ _ _ _), Lib.hid ((Below.refl _ _).alloc (Nat.le_refl _) _)⟩
  case round =>
    obtain ⟨i, hi, rfl, HM, HB⟩ := hrel
    by_cases hlt : i < n
    · obtain ⟨x, hx⟩ : ∃ x, K[i]? = some x := ⟨_, List.getElem?_eq_getElem (by have := HN.out; omega)⟩
      obtain ⟨b, off, rfl, hbl, c0, c1, c2, c3, c4, c5, c6, c7⟩ := ops_at (HS.out.below HB.out) hx
      have i1 : (0 : Int) ≤ (i : Int) := by omega
      have i2 : (i : Int) < (n : Int) := by omega
      have HT : Hid (ownM (K.take (i + 1)) = updT (ownM (K.take i)) (x.b, x.n) (some x)) := Lib.hid (by
        obtain ⟨h1, h2⟩ := List.getElem?_eq_some_iff.1 hx
        rw [← List.take_append_getElem h1, h2, ownM_snoc])
      have HK := Lib.hid (wf_own (HW.out x (List.mem_of_getElem? hx)))
      have HMa := Lib.hid (fun o' => HM.out.below ((Below.refl wr.heap.size wr).alloc (Nat.le_refl _) o'))
      have HBa := Lib.hid (fun o' => HB.out.alloc HB.out.size o')
      have hnm : i < maxLen := by unfold maxLen; omega
      have hwr : w.heap.size < wr.heap.size := HM.out.lt
      clear hx hlt hbl HM
      go_wp2_with (at_mapUpdate; refine wpList_putT _ rfl _ _ _ 189 rfl 195 31 ownK Tryz.underlying189 pairV opV pairV_inj w.heap.size i (ownM (K.take i)) rfl (HMa.out _) hnm (x.b, x.n) x rfl rfl HK.out ?_; intro w4 hm4 hg4)
      have HM4 : Hid (MO w.heap.size (i + 1) (K.take (i + 1)) w4) := Lib.hid (by show MT _ _ _ _ _ _ (ownM (K.take (i + 1))) _; rw [HT.out]; exact hm4)
      have HB4 : Hid (Below w.heap.size w w4) := Lib.hid ((HBa.out _).grown hg4 (by have := HB.out.size; simp; omega) (fun k hk => by have := Option.some.inj hk; omega))
      clear hm4 hg4
      go_wp2_with fail
      go_roundw
      case rel => exact ⟨i + 1, by omega, by go_num, HM4, HB4⟩
      case measure => simp [intOf] <;> omega
    · have i2 : ¬ (i : Int) < (n : Int) := by omega
      obtain rfl : i = n := by omega
      have HM7 : Hid (MO w.heap.size K.length K wr) := Lib.hid (by have := HM.out; rw [HN.out, List.take_length] at this; exact this)
      go_wp2_with fail
      go_ret
      exact ⟨_, rfl, Nat.le_refl _, HM7.out, HB.out⟩
end Go.Proofs.YtjekalilfhnpmaaGreatDoor
