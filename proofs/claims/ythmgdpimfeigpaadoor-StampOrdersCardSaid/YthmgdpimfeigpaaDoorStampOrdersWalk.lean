/- StampOrders: the walk of the law over any two stamps and any id. -/
import Derived.Test.YthmgdpimfeigpaaDoorStampRef
import Derived.Test.YthmgdpimfeigpaaDoorCode
namespace Go.Proofs.YthmgdpimfeigpaaDoor
open Go Go.RowKit
namespace stampOrders
set_option linter.unusedVariables false
set_option linter.unusedSimpArgs false
set_option maxHeartbeats 4000000
set_option maxRecDepth 100000

theorem idOf_zero (w : World) : Calls Tryd.prog 31 #[stampV 0 0] w fun e w' => e = .returned (.int .i64 0) ∧ Below w.heap.size w w' := idOf_bad 0 0 w (by unfold StampOk; omega)

/-- what a law over two boxed stamps knows all along -/
structure St (a : Nat → Addr) (w0 : World) (t b t' b' : Int) (w : World) : Prop where
  c1 : w.cell? ⟨w0.heap.size, 0, none⟩ = some (.int .i64 t)
  c2 : w.cell? ⟨w0.heap.size, 1, none⟩ = some (.int .i64 b)
  c3 : w.cell? ⟨w0.heap.size + 1, 0, none⟩ = some (.int .i64 t')
  c4 : w.cell? ⟨w0.heap.size + 1, 1, none⟩ = some (.int .i64 b')
  errs : Errs a allErrs w
  tv : TypeVar w
  bel : Below w0.heap.size w0 w
  size : w0.heap.size + 1 + 1 ≤ w.heap.size
theorem St.below {a : Nat → Addr} {w0 w w' : World} {t b t' b' : Int} (h : St a w0 t b t' b' w) (hb : Below w.heap.size w w') : St a w0 t b t' b' w' :=
  have hz := h.size
  have hz' := hb.size
  ⟨(hb.cell (by show w0.heap.size < _; omega)).trans h.c1, (hb.cell (by show w0.heap.size < _; omega)).trans h.c2, (hb.cell (by show w0.heap.size + 1 < _; omega)).trans h.c3, (hb.cell (by show w0.heap.size + 1 < _; omega)).trans h.c4,
    h.errs.below hb, h.tv.below hb, h.bel.trans (hb.mono (by omega)), by omega⟩
theorem St.drew {a : Nat → Addr} {w0 w : World} {t b t' b' : Int} (h : St a w0 t b t' b' w) : St a w0 t b t' b' w.drew := h.below ((Below.refl _ _).drew)
theorem St.of5 {a : Nat → Addr} {w0 w : World} {t b t' b' : Int} {p1 p2 p3 p4 : Prop} (h : p1 ∧ p2 ∧ p3 ∧ p4 ∧ St a w0 t b t' b' w) : St a w0 t b t' b' w := h.2.2.2.2
theorem St.five {a : Nat → Addr} {w0 w : World} {t b t' b' : Int} (h : St a w0 t b t' b' w) : w.cell? ⟨w0.heap.size, 0, none⟩ = some (.int .i64 t) ∧ w.cell? ⟨w0.heap.size, 1, none⟩ = some (.int .i64 b) ∧ w.cell? ⟨w0.heap.size + 1, 0, none⟩ = some (.int .i64 t') ∧ w.cell? ⟨w0.heap.size + 1, 1, none⟩ = some (.int .i64 b') ∧ St a w0 t b t' b' w := ⟨h.c1, h.c2, h.c3, h.c4, h⟩

theorem St.next {a : Nat → Addr} {w0 w w' : World} {t b t' b' : Int} {p1 p2 p3 p4 : Prop} (hb : Below w.heap.size w w') (h : p1 ∧ p2 ∧ p3 ∧ p4 ∧ St a w0 t b t' b' w) : w'.cell? ⟨w0.heap.size, 0, none⟩ = some (.int .i64 t) ∧ w'.cell? ⟨w0.heap.size, 1, none⟩ = some (.int .i64 b) ∧ w'.cell? ⟨w0.heap.size + 1, 0, none⟩ = some (.int .i64 t') ∧ w'.cell? ⟨w0.heap.size + 1, 1, none⟩ = some (.int .i64 b') ∧ St a w0 t b t' b' w' := (h.2.2.2.2.below hb).five

theorem walk_ok_mid (a : Nat → Addr) (t b t' b' id : Int) (w : World) (hE : Errs a allErrs w) (hT : TypeVar w) (h : StampOk t b) (i1 : 4 ≤ id) (i2 : id < 4294967300) :
    Calls Tryd.prog 7 #[stampV t b, stampV t' b', .int .i64 id] w fun e w' => e = .returned (.bool true) ∧ Below w.heap.size w w' := by
  have hid : StampOk (id / 4) (id % 4) := by unfold StampOk; omega
  have hq : id / 4 * 4 + id % 4 = id := by omega
  have hE0 : Errs a allErrs ((w.alloc (.cells #[.int .i64 t, .int .i64 b] 23)).alloc (.cells #[.int .i64 t', .int .i64 b'] 23)) := (hE.alloc _).alloc _
  have hT0 : TypeVar ((w.alloc (.cells #[.int .i64 t, .int .i64 b] 23)).alloc (.cells #[.int .i64 t', .int .i64 b'] 23)) := (hT.alloc _).alloc _
  have hB0 : Below w.heap.size w ((w.alloc (.cells #[.int .i64 t, .int .i64 b] 23)).alloc (.cells #[.int .i64 t', .int .i64 b'] 23)) := by go_grown
  clear hE hT
  go_enter Tryd.func7, Tryd.ntmps7
  go_wp2_with fail
  refine (stamped_any _).mono ?_
  rintro e w1 ⟨rfl, hb1⟩
  have hz1 := hb1.size
  simp at hz1
  have l0 : w.heap.size < w1.heap.size := by omega
  have l1 : w.heap.size + 1 < w1.heap.size := by omega
  have c1 := hb1.cell (p := ⟨w.heap.size, 0, none⟩) (by simp <;> omega)
  have c2 := hb1.cell (p := ⟨w.heap.size, 1, none⟩) (by simp <;> omega)
  have c3 := hb1.cell (p := ⟨w.heap.size + 1, 0, none⟩) (by simp <;> omega)
  have c4 := hb1.cell (p := ⟨w.heap.size + 1, 1, none⟩) (by simp <;> omega)
  simp [go_sem] at c1 c2 c3 c4
  have hE1 := hE0.below hb1
  have hT1 := hT0.below hb1
  have hB1 := hB0.trans (hb1.mono (by simp; omega))
  clear hE0 hT0 hB0 hb1
  go_wp2_with fail
  have hS : St a w t b t' b' w1 := ⟨c1, c2, c3, c4, hE1, hT1, hB1, hz1⟩
  clear c1 c2 c3 c4 hE1 hT1 hB1 hz1
  go_region_held3 (fun w' => w'.cell? ⟨w.heap.size, 0, none⟩ = some (.int .i64 t) ∧ w'.cell? ⟨w.heap.size, 1, none⟩ = some (.int .i64 b) ∧ w'.cell? ⟨w.heap.size + 1, 0, none⟩ = some (.int .i64 t') ∧ w'.cell? ⟨w.heap.size + 1, 1, none⟩ = some (.int .i64 b') ∧ St a w t b t' b' w')
    ((first | exact St.five (by assumption) | exact St.five (St.drew (by assumption)) | exact St.next (by assumption) (by assumption)))
    (first
      | (go_at_call 17; refine (less_any t b t' b' _).mono ?_; rintro e w' ⟨rfl, hb⟩)
      | (go_at_call 28; refine (isLess_any t b t' b' _).mono ?_; rintro e w' ⟨rfl, hb⟩)
      | (go_at_call 29; refine (check_ok t b _ h).mono ?_; rintro e w' ⟨rfl, hb⟩)
      | (go_at_call 30; refine (stampError_ok t b _ h).mono ?_; rintro e w' ⟨rfl, hb⟩)
      | (go_at_call 26; refine (coded1_any a .nilIface 0 (-1) 0 _ .nil ?_ ?_).mono ?_; (exact (St.of5 (by assumption)).errs); (exact (St.of5 (by assumption)).tv); rintro e w' ⟨rfl, hb⟩))
  have hS2 : St a w t b t' b' w' := St.of5 (by assumption)
  clear hS
  have c1 := hS2.c1
  have c2 := hS2.c2
  go_wp2_with fail
  refine (id_ok t b _ h).mono ?_
  rintro e w3 ⟨rfl, hb⟩
  have hS3 := hS2.below hb
  clear hS2 c1 c2 hb
  have c1 := hS3.c1
  have c2 := hS3.c2
  go_wp2_with fail
  refine (stampError_ok t b _ h).mono ?_
  rintro e w4 ⟨rfl, hb⟩
  have hS4 := hS3.below hb
  clear hS3 c1 c2 hb
  have c1 := hS4.c1
  have c2 := hS4.c2
  go_wp2_with fail
  refine (coded1_any a .nilIface 0 (-1) 0 _ .nil hS4.errs hS4.tv).mono ?_
  rintro e w5 ⟨rfl, hb⟩
  have hS5 := hS4.below hb
  clear hS4 c1 c2 hb
  have c1 := hS5.c1
  have c2 := hS5.c2
  go_wp2_with fail
  refine (idOf_ok t b _ h).mono ?_
  rintro e w6 ⟨rfl, hb⟩
  have hS6 := hS5.below hb
  clear hS5 c1 c2 hb
  have c1 := hS6.c1
  have c2 := hS6.c2
  go_wp2_with fail
  refine (of_ok id _ i1 i2).mono ?_
  rintro e w7 ⟨rfl, hb⟩
  have hS7 := hS6.below hb
  clear hS6 c1 c2 hb
  go_wp2_with fail
  refine (idOf_ok (id / 4) (id % 4) _ hid).mono ?_
  rintro e w8 ⟨rfl, hb⟩
  have hB8 := (hS7.bel.alloc (by have := hS7.size; omega) _).trans (hb.mono (by have := hS7.size; simp; omega))
  clear hS7 hb
  go_wp2
  go_ret
  exact ⟨by simp [hq], hB8⟩

theorem walk_ok_low (a : Nat → Addr) (t b t' b' id : Int) (w : World) (hE : Errs a allErrs w) (hT : TypeVar w) (h : StampOk t b) (i1 : id < 4) (i2 : -9223372036854775808 ≤ id) :
    Calls Tryd.prog 7 #[stampV t b, stampV t' b', .int .i64 id] w fun e w' => e = .returned (.bool true) ∧ Below w.heap.size w w' := by
  have hE0 : Errs a allErrs ((w.alloc (.cells #[.int .i64 t, .int .i64 b] 23)).alloc (.cells #[.int .i64 t', .int .i64 b'] 23)) := (hE.alloc _).alloc _
  have hT0 : TypeVar ((w.alloc (.cells #[.int .i64 t, .int .i64 b] 23)).alloc (.cells #[.int .i64 t', .int .i64 b'] 23)) := (hT.alloc _).alloc _
  have hB0 : Below w.heap.size w ((w.alloc (.cells #[.int .i64 t, .int .i64 b] 23)).alloc (.cells #[.int .i64 t', .int .i64 b'] 23)) := by go_grown
  clear hE hT
  go_enter Tryd.func7, Tryd.ntmps7
  go_wp2_with fail
  refine (stamped_any _).mono ?_
  rintro e w1 ⟨rfl, hb1⟩
  have hz1 := hb1.size
  simp at hz1
  have l0 : w.heap.size < w1.heap.size := by omega
  have l1 : w.heap.size + 1 < w1.heap.size := by omega
  have c1 := hb1.cell (p := ⟨w.heap.size, 0, none⟩) (by simp <;> omega)
  have c2 := hb1.cell (p := ⟨w.heap.size, 1, none⟩) (by simp <;> omega)
  have c3 := hb1.cell (p := ⟨w.heap.size + 1, 0, none⟩) (by simp <;> omega)
  have c4 := hb1.cell (p := ⟨w.heap.size + 1, 1, none⟩) (by simp <;> omega)
  simp [go_sem] at c1 c2 c3 c4
  have hE1 := hE0.below hb1
  have hT1 := hT0.below hb1
  have hB1 := hB0.trans (hb1.mono (by simp; omega))
  clear hE0 hT0 hB0 hb1
  go_wp2_with fail
  have hS : St a w t b t' b' w1 := ⟨c1, c2, c3, c4, hE1, hT1, hB1, hz1⟩
  clear c1 c2 c3 c4 hE1 hT1 hB1 hz1
  go_region_held3 (fun w' => w'.cell? ⟨w.heap.size, 0, none⟩ = some (.int .i64 t) ∧ w'.cell? ⟨w.heap.size, 1, none⟩ = some (.int .i64 b) ∧ w'.cell? ⟨w.heap.size + 1, 0, none⟩ = some (.int .i64 t') ∧ w'.cell? ⟨w.heap.size + 1, 1, none⟩ = some (.int .i64 b') ∧ St a w t b t' b' w')
    ((first | exact St.five (by assumption) | exact St.five (St.drew (by assumption)) | exact St.next (by assumption) (by assumption)))
    (first
      | (go_at_call 17; refine (less_any t b t' b' _).mono ?_; rintro e w' ⟨rfl, hb⟩)
      | (go_at_call 28; refine (isLess_any t b t' b' _).mono ?_; rintro e w' ⟨rfl, hb⟩)
      | (go_at_call 29; refine (check_ok t b _ h).mono ?_; rintro e w' ⟨rfl, hb⟩)
      | (go_at_call 30; refine (stampError_ok t b _ h).mono ?_; rintro e w' ⟨rfl, hb⟩)
      | (go_at_call 26; refine (coded1_any a .nilIface 0 (-1) 0 _ .nil ?_ ?_).mono ?_; (exact (St.of5 (by assumption)).errs); (exact (St.of5 (by assumption)).tv); rintro e w' ⟨rfl, hb⟩))
  have hS2 : St a w t b t' b' w' := St.of5 (by assumption)
  clear hS
  have c1 := hS2.c1
  have c2 := hS2.c2
  go_wp2_with fail
  refine (id_ok t b _ h).mono ?_
  rintro e w3 ⟨rfl, hb⟩
  have hS3 := hS2.below hb
  clear hS2 c1 c2 hb
  have c1 := hS3.c1
  have c2 := hS3.c2
  go_wp2_with fail
  refine (stampError_ok t b _ h).mono ?_
  rintro e w4 ⟨rfl, hb⟩
  have hS4 := hS3.below hb
  clear hS3 c1 c2 hb
  have c1 := hS4.c1
  have c2 := hS4.c2
  go_wp2_with fail
  refine (coded1_any a .nilIface 0 (-1) 0 _ .nil hS4.errs hS4.tv).mono ?_
  rintro e w5 ⟨rfl, hb⟩
  have hS5 := hS4.below hb
  clear hS4 c1 c2 hb
  have c1 := hS5.c1
  have c2 := hS5.c2
  go_wp2_with fail
  refine (idOf_ok t b _ h).mono ?_
  rintro e w6 ⟨rfl, hb⟩
  have hS6 := hS5.below hb
  clear hS5 c1 c2 hb
  have c1 := hS6.c1
  have c2 := hS6.c2
  go_wp2_with fail
  refine (of_low id _ (a 2) (hS6.errs 2 (by simp)) i1 i2).mono ?_
  rintro e w7 ⟨rfl, hb⟩
  have hS7 := hS6.below hb
  clear hS6 c1 c2 hb
  have hz7 := hS7.size
  have hS8 := hS7.below ((Below.refl _ _).alloc (Nat.le_refl _) (.cells #[.int .i64 0, .int .i64 0] 23))
  clear hS7
  go_wp2_with fail
  refine (coded1_any a (errV (a 2)) 2 (-1) 2 _ (.bare 2 (by omega) (by omega)) hS8.errs hS8.tv).mono ?_
  rintro e w8 ⟨rfl, hb⟩
  have d1 := hb.cell (p := ⟨w7.heap.size, 0, none⟩) (by simp)
  have d2 := hb.cell (p := ⟨w7.heap.size, 1, none⟩) (by simp)
  simp [go_sem] at d1 d2
  have hB8 := hS8.bel.trans (hb.mono (by have := hS8.size; omega))
  clear hS8 hb
  go_wp2
  go_ret
  exact ⟨by simp, hB8⟩

theorem walk_ok_high (a : Nat → Addr) (t b t' b' id : Int) (w : World) (hE : Errs a allErrs w) (hT : TypeVar w) (h : StampOk t b) (i1 : 4294967300 ≤ id) (i2 : id ≤ 9223372036854775807) :
    Calls Tryd.prog 7 #[stampV t b, stampV t' b', .int .i64 id] w fun e w' => e = .returned (.bool true) ∧ Below w.heap.size w w' := by
  have hE0 : Errs a allErrs ((w.alloc (.cells #[.int .i64 t, .int .i64 b] 23)).alloc (.cells #[.int .i64 t', .int .i64 b'] 23)) := (hE.alloc _).alloc _
  have hT0 : TypeVar ((w.alloc (.cells #[.int .i64 t, .int .i64 b] 23)).alloc (.cells #[.int .i64 t', .int .i64 b'] 23)) := (hT.alloc _).alloc _
  have hB0 : Below w.heap.size w ((w.alloc (.cells #[.int .i64 t, .int .i64 b] 23)).alloc (.cells #[.int .i64 t', .int .i64 b'] 23)) := by go_grown
  clear hE hT
  go_enter Tryd.func7, Tryd.ntmps7
  go_wp2_with fail
  refine (stamped_any _).mono ?_
  rintro e w1 ⟨rfl, hb1⟩
  have hz1 := hb1.size
  simp at hz1
  have l0 : w.heap.size < w1.heap.size := by omega
  have l1 : w.heap.size + 1 < w1.heap.size := by omega
  have c1 := hb1.cell (p := ⟨w.heap.size, 0, none⟩) (by simp <;> omega)
  have c2 := hb1.cell (p := ⟨w.heap.size, 1, none⟩) (by simp <;> omega)
  have c3 := hb1.cell (p := ⟨w.heap.size + 1, 0, none⟩) (by simp <;> omega)
  have c4 := hb1.cell (p := ⟨w.heap.size + 1, 1, none⟩) (by simp <;> omega)
  simp [go_sem] at c1 c2 c3 c4
  have hE1 := hE0.below hb1
  have hT1 := hT0.below hb1
  have hB1 := hB0.trans (hb1.mono (by simp; omega))
  clear hE0 hT0 hB0 hb1
  go_wp2_with fail
  have hS : St a w t b t' b' w1 := ⟨c1, c2, c3, c4, hE1, hT1, hB1, hz1⟩
  clear c1 c2 c3 c4 hE1 hT1 hB1 hz1
  go_region_held3 (fun w' => w'.cell? ⟨w.heap.size, 0, none⟩ = some (.int .i64 t) ∧ w'.cell? ⟨w.heap.size, 1, none⟩ = some (.int .i64 b) ∧ w'.cell? ⟨w.heap.size + 1, 0, none⟩ = some (.int .i64 t') ∧ w'.cell? ⟨w.heap.size + 1, 1, none⟩ = some (.int .i64 b') ∧ St a w t b t' b' w')
    ((first | exact St.five (by assumption) | exact St.five (St.drew (by assumption)) | exact St.next (by assumption) (by assumption)))
    (first
      | (go_at_call 17; refine (less_any t b t' b' _).mono ?_; rintro e w' ⟨rfl, hb⟩)
      | (go_at_call 28; refine (isLess_any t b t' b' _).mono ?_; rintro e w' ⟨rfl, hb⟩)
      | (go_at_call 29; refine (check_ok t b _ h).mono ?_; rintro e w' ⟨rfl, hb⟩)
      | (go_at_call 30; refine (stampError_ok t b _ h).mono ?_; rintro e w' ⟨rfl, hb⟩)
      | (go_at_call 26; refine (coded1_any a .nilIface 0 (-1) 0 _ .nil ?_ ?_).mono ?_; (exact (St.of5 (by assumption)).errs); (exact (St.of5 (by assumption)).tv); rintro e w' ⟨rfl, hb⟩))
  have hS2 : St a w t b t' b' w' := St.of5 (by assumption)
  clear hS
  have c1 := hS2.c1
  have c2 := hS2.c2
  go_wp2_with fail
  refine (id_ok t b _ h).mono ?_
  rintro e w3 ⟨rfl, hb⟩
  have hS3 := hS2.below hb
  clear hS2 c1 c2 hb
  have c1 := hS3.c1
  have c2 := hS3.c2
  go_wp2_with fail
  refine (stampError_ok t b _ h).mono ?_
  rintro e w4 ⟨rfl, hb⟩
  have hS4 := hS3.below hb
  clear hS3 c1 c2 hb
  have c1 := hS4.c1
  have c2 := hS4.c2
  go_wp2_with fail
  refine (coded1_any a .nilIface 0 (-1) 0 _ .nil hS4.errs hS4.tv).mono ?_
  rintro e w5 ⟨rfl, hb⟩
  have hS5 := hS4.below hb
  clear hS4 c1 c2 hb
  have c1 := hS5.c1
  have c2 := hS5.c2
  go_wp2_with fail
  refine (idOf_ok t b _ h).mono ?_
  rintro e w6 ⟨rfl, hb⟩
  have hS6 := hS5.below hb
  clear hS5 c1 c2 hb
  have c1 := hS6.c1
  have c2 := hS6.c2
  go_wp2_with fail
  refine (of_high id _ (a 2) (hS6.errs 2 (by simp)) i1 i2).mono ?_
  rintro e w7 ⟨rfl, hb⟩
  have hS7 := hS6.below hb
  clear hS6 c1 c2 hb
  have hz7 := hS7.size
  have hS8 := hS7.below ((Below.refl _ _).alloc (Nat.le_refl _) (.cells #[.int .i64 0, .int .i64 0] 23))
  clear hS7
  go_wp2_with fail
  refine (coded1_any a (errV (a 2)) 2 (-1) 2 _ (.bare 2 (by omega) (by omega)) hS8.errs hS8.tv).mono ?_
  rintro e w8 ⟨rfl, hb⟩
  have d1 := hb.cell (p := ⟨w7.heap.size, 0, none⟩) (by simp)
  have d2 := hb.cell (p := ⟨w7.heap.size, 1, none⟩) (by simp)
  simp [go_sem] at d1 d2
  have hB8 := hS8.bel.trans (hb.mono (by have := hS8.size; omega))
  clear hS8 hb
  go_wp2
  go_ret
  exact ⟨by simp, hB8⟩

theorem walk_bad_mid (a : Nat → Addr) (t b t' b' id : Int) (w : World) (hE : Errs a allErrs w) (hT : TypeVar w) (h : ¬ StampOk t b) (i1 : 4 ≤ id) (i2 : id < 4294967300) :
    Calls Tryd.prog 7 #[stampV t b, stampV t' b', .int .i64 id] w fun e w' => e = .returned (.bool true) ∧ Below w.heap.size w w' := by
  have hid : StampOk (id / 4) (id % 4) := by unfold StampOk; omega
  have hq : id / 4 * 4 + id % 4 = id := by omega
  have hE0 : Errs a allErrs ((w.alloc (.cells #[.int .i64 t, .int .i64 b] 23)).alloc (.cells #[.int .i64 t', .int .i64 b'] 23)) := (hE.alloc _).alloc _
  have hT0 : TypeVar ((w.alloc (.cells #[.int .i64 t, .int .i64 b] 23)).alloc (.cells #[.int .i64 t', .int .i64 b'] 23)) := (hT.alloc _).alloc _
  have hB0 : Below w.heap.size w ((w.alloc (.cells #[.int .i64 t, .int .i64 b] 23)).alloc (.cells #[.int .i64 t', .int .i64 b'] 23)) := by go_grown
  clear hE hT
  go_enter Tryd.func7, Tryd.ntmps7
  go_wp2_with fail
  refine (stamped_any _).mono ?_
  rintro e w1 ⟨rfl, hb1⟩
  have hz1 := hb1.size
  simp at hz1
  have l0 : w.heap.size < w1.heap.size := by omega
  have l1 : w.heap.size + 1 < w1.heap.size := by omega
  have c1 := hb1.cell (p := ⟨w.heap.size, 0, none⟩) (by simp <;> omega)
  have c2 := hb1.cell (p := ⟨w.heap.size, 1, none⟩) (by simp <;> omega)
  have c3 := hb1.cell (p := ⟨w.heap.size + 1, 0, none⟩) (by simp <;> omega)
  have c4 := hb1.cell (p := ⟨w.heap.size + 1, 1, none⟩) (by simp <;> omega)
  simp [go_sem] at c1 c2 c3 c4
  have hE1 := hE0.below hb1
  have hT1 := hT0.below hb1
  have hB1 := hB0.trans (hb1.mono (by simp; omega))
  clear hE0 hT0 hB0 hb1
  go_wp2_with fail
  have hS : St a w t b t' b' w1 := ⟨c1, c2, c3, c4, hE1, hT1, hB1, hz1⟩
  clear c1 c2 c3 c4 hE1 hT1 hB1 hz1
  go_region_held3 (fun w' => w'.cell? ⟨w.heap.size, 0, none⟩ = some (.int .i64 t) ∧ w'.cell? ⟨w.heap.size, 1, none⟩ = some (.int .i64 b) ∧ w'.cell? ⟨w.heap.size + 1, 0, none⟩ = some (.int .i64 t') ∧ w'.cell? ⟨w.heap.size + 1, 1, none⟩ = some (.int .i64 b') ∧ St a w t b t' b' w')
    ((first | exact St.five (by assumption) | exact St.five (St.drew (by assumption)) | exact St.next (by assumption) (by assumption)))
    (first
      | (go_at_call 17; refine (less_any t b t' b' _).mono ?_; rintro e w' ⟨rfl, hb⟩)
      | (go_at_call 28; refine (isLess_any t b t' b' _).mono ?_; rintro e w' ⟨rfl, hb⟩)
      | (go_at_call 29; refine (check_bad t b _ (a 2) (errT 2) ?_ h).mono ?_; (exact (St.of5 (by assumption)).errs 2 (by simp)); rintro e w' ⟨rfl, hb⟩)
      | (go_at_call 30; refine (stampError_bad t b _ h).mono ?_; rintro e w' ⟨rfl, hb⟩)
      | (go_at_call 26; refine (coded1_any a (errV (a 2)) 2 (-1) 2 _ (.bare 2 (by omega) (by omega)) ?_ ?_).mono ?_; (exact (St.of5 (by assumption)).errs); (exact (St.of5 (by assumption)).tv); rintro e w' ⟨rfl, hb⟩))
  have hS2 : St a w t b t' b' w' := St.of5 (by assumption)
  clear hS
  have c1 := hS2.c1
  have c2 := hS2.c2
  go_wp2_with fail
  refine (id_bad t b _ (a 2) (errT 2) (hS2.errs 2 (by simp)) h).mono ?_
  rintro e w3 ⟨rfl, hb⟩
  have hS3 := hS2.below hb
  clear hS2 c1 c2 hb
  have c1 := hS3.c1
  have c2 := hS3.c2
  go_wp2_with fail
  refine (stampError_bad t b _ h).mono ?_
  rintro e w4 ⟨rfl, hb⟩
  have hS4 := hS3.below hb
  clear hS3 c1 c2 hb
  have c1 := hS4.c1
  have c2 := hS4.c2
  go_wp2_with fail
  refine (coded1_any a (errV (a 2)) 2 (-1) 2 _ (.bare 2 (by omega) (by omega)) hS4.errs hS4.tv).mono ?_
  rintro e w5 ⟨rfl, hb⟩
  have hS5 := hS4.below hb
  clear hS4 c1 c2 hb
  have c1 := hS5.c1
  have c2 := hS5.c2
  go_wp2_with fail
  refine (idOf_bad t b _ h).mono ?_
  rintro e w6 ⟨rfl, hb⟩
  have hS6 := hS5.below hb
  clear hS5 c1 c2 hb
  have c1 := hS6.c1
  have c2 := hS6.c2
  go_wp2_with fail
  refine (of_ok id _ i1 i2).mono ?_
  rintro e w7 ⟨rfl, hb⟩
  have hS7 := hS6.below hb
  clear hS6 c1 c2 hb
  go_wp2_with fail
  refine (idOf_ok (id / 4) (id % 4) _ hid).mono ?_
  rintro e w8 ⟨rfl, hb⟩
  have hB8 := (hS7.bel.alloc (by have := hS7.size; omega) _).trans (hb.mono (by have := hS7.size; simp; omega))
  clear hS7 hb
  go_wp2
  go_ret
  exact ⟨by simp [hq], hB8⟩

theorem walk_bad_low (a : Nat → Addr) (t b t' b' id : Int) (w : World) (hE : Errs a allErrs w) (hT : TypeVar w) (h : ¬ StampOk t b) (i1 : id < 4) (i2 : -9223372036854775808 ≤ id) :
    Calls Tryd.prog 7 #[stampV t b, stampV t' b', .int .i64 id] w fun e w' => e = .returned (.bool true) ∧ Below w.heap.size w w' := by
  have hE0 : Errs a allErrs ((w.alloc (.cells #[.int .i64 t, .int .i64 b] 23)).alloc (.cells #[.int .i64 t', .int .i64 b'] 23)) := (hE.alloc _).alloc _
  have hT0 : TypeVar ((w.alloc (.cells #[.int .i64 t, .int .i64 b] 23)).alloc (.cells #[.int .i64 t', .int .i64 b'] 23)) := (hT.alloc _).alloc _
  have hB0 : Below w.heap.size w ((w.alloc (.cells #[.int .i64 t, .int .i64 b] 23)).alloc (.cells #[.int .i64 t', .int .i64 b'] 23)) := by go_grown
  clear hE hT
  go_enter Tryd.func7, Tryd.ntmps7
  go_wp2_with fail
  refine (stamped_any _).mono ?_
  rintro e w1 ⟨rfl, hb1⟩
  have hz1 := hb1.size
  simp at hz1
  have l0 : w.heap.size < w1.heap.size := by omega
  have l1 : w.heap.size + 1 < w1.heap.size := by omega
  have c1 := hb1.cell (p := ⟨w.heap.size, 0, none⟩) (by simp <;> omega)
  have c2 := hb1.cell (p := ⟨w.heap.size, 1, none⟩) (by simp <;> omega)
  have c3 := hb1.cell (p := ⟨w.heap.size + 1, 0, none⟩) (by simp <;> omega)
  have c4 := hb1.cell (p := ⟨w.heap.size + 1, 1, none⟩) (by simp <;> omega)
  simp [go_sem] at c1 c2 c3 c4
  have hE1 := hE0.below hb1
  have hT1 := hT0.below hb1
  have hB1 := hB0.trans (hb1.mono (by simp; omega))
  clear hE0 hT0 hB0 hb1
  go_wp2_with fail
  have hS : St a w t b t' b' w1 := ⟨c1, c2, c3, c4, hE1, hT1, hB1, hz1⟩
  clear c1 c2 c3 c4 hE1 hT1 hB1 hz1
  go_region_held3 (fun w' => w'.cell? ⟨w.heap.size, 0, none⟩ = some (.int .i64 t) ∧ w'.cell? ⟨w.heap.size, 1, none⟩ = some (.int .i64 b) ∧ w'.cell? ⟨w.heap.size + 1, 0, none⟩ = some (.int .i64 t') ∧ w'.cell? ⟨w.heap.size + 1, 1, none⟩ = some (.int .i64 b') ∧ St a w t b t' b' w')
    ((first | exact St.five (by assumption) | exact St.five (St.drew (by assumption)) | exact St.next (by assumption) (by assumption)))
    (first
      | (go_at_call 17; refine (less_any t b t' b' _).mono ?_; rintro e w' ⟨rfl, hb⟩)
      | (go_at_call 28; refine (isLess_any t b t' b' _).mono ?_; rintro e w' ⟨rfl, hb⟩)
      | (go_at_call 29; refine (check_bad t b _ (a 2) (errT 2) ?_ h).mono ?_; (exact (St.of5 (by assumption)).errs 2 (by simp)); rintro e w' ⟨rfl, hb⟩)
      | (go_at_call 30; refine (stampError_bad t b _ h).mono ?_; rintro e w' ⟨rfl, hb⟩)
      | (go_at_call 26; refine (coded1_any a (errV (a 2)) 2 (-1) 2 _ (.bare 2 (by omega) (by omega)) ?_ ?_).mono ?_; (exact (St.of5 (by assumption)).errs); (exact (St.of5 (by assumption)).tv); rintro e w' ⟨rfl, hb⟩))
  have hS2 : St a w t b t' b' w' := St.of5 (by assumption)
  clear hS
  have c1 := hS2.c1
  have c2 := hS2.c2
  go_wp2_with fail
  refine (id_bad t b _ (a 2) (errT 2) (hS2.errs 2 (by simp)) h).mono ?_
  rintro e w3 ⟨rfl, hb⟩
  have hS3 := hS2.below hb
  clear hS2 c1 c2 hb
  have c1 := hS3.c1
  have c2 := hS3.c2
  go_wp2_with fail
  refine (stampError_bad t b _ h).mono ?_
  rintro e w4 ⟨rfl, hb⟩
  have hS4 := hS3.below hb
  clear hS3 c1 c2 hb
  have c1 := hS4.c1
  have c2 := hS4.c2
  go_wp2_with fail
  refine (coded1_any a (errV (a 2)) 2 (-1) 2 _ (.bare 2 (by omega) (by omega)) hS4.errs hS4.tv).mono ?_
  rintro e w5 ⟨rfl, hb⟩
  have hS5 := hS4.below hb
  clear hS4 c1 c2 hb
  have c1 := hS5.c1
  have c2 := hS5.c2
  go_wp2_with fail
  refine (idOf_bad t b _ h).mono ?_
  rintro e w6 ⟨rfl, hb⟩
  have hS6 := hS5.below hb
  clear hS5 c1 c2 hb
  have c1 := hS6.c1
  have c2 := hS6.c2
  go_wp2_with fail
  refine (of_low id _ (a 2) (hS6.errs 2 (by simp)) i1 i2).mono ?_
  rintro e w7 ⟨rfl, hb⟩
  have hS7 := hS6.below hb
  clear hS6 c1 c2 hb
  have hz7 := hS7.size
  have hS8 := hS7.below ((Below.refl _ _).alloc (Nat.le_refl _) (.cells #[.int .i64 0, .int .i64 0] 23))
  clear hS7
  go_wp2_with fail
  refine (coded1_any a (errV (a 2)) 2 (-1) 2 _ (.bare 2 (by omega) (by omega)) hS8.errs hS8.tv).mono ?_
  rintro e w8 ⟨rfl, hb⟩
  have d1 := hb.cell (p := ⟨w7.heap.size, 0, none⟩) (by simp)
  have d2 := hb.cell (p := ⟨w7.heap.size, 1, none⟩) (by simp)
  simp [go_sem] at d1 d2
  have hB8 := hS8.bel.trans (hb.mono (by have := hS8.size; omega))
  clear hS8 hb
  go_wp2
  go_ret
  exact ⟨by simp, hB8⟩

theorem walk_bad_high (a : Nat → Addr) (t b t' b' id : Int) (w : World) (hE : Errs a allErrs w) (hT : TypeVar w) (h : ¬ StampOk t b) (i1 : 4294967300 ≤ id) (i2 : id ≤ 9223372036854775807) :
    Calls Tryd.prog 7 #[stampV t b, stampV t' b', .int .i64 id] w fun e w' => e = .returned (.bool true) ∧ Below w.heap.size w w' := by
  have hE0 : Errs a allErrs ((w.alloc (.cells #[.int .i64 t, .int .i64 b] 23)).alloc (.cells #[.int .i64 t', .int .i64 b'] 23)) := (hE.alloc _).alloc _
  have hT0 : TypeVar ((w.alloc (.cells #[.int .i64 t, .int .i64 b] 23)).alloc (.cells #[.int .i64 t', .int .i64 b'] 23)) := (hT.alloc _).alloc _
  have hB0 : Below w.heap.size w ((w.alloc (.cells #[.int .i64 t, .int .i64 b] 23)).alloc (.cells #[.int .i64 t', .int .i64 b'] 23)) := by go_grown
  clear hE hT
  go_enter Tryd.func7, Tryd.ntmps7
  go_wp2_with fail
  refine (stamped_any _).mono ?_
  rintro e w1 ⟨rfl, hb1⟩
  have hz1 := hb1.size
  simp at hz1
  have l0 : w.heap.size < w1.heap.size := by omega
  have l1 : w.heap.size + 1 < w1.heap.size := by omega
  have c1 := hb1.cell (p := ⟨w.heap.size, 0, none⟩) (by simp <;> omega)
  have c2 := hb1.cell (p := ⟨w.heap.size, 1, none⟩) (by simp <;> omega)
  have c3 := hb1.cell (p := ⟨w.heap.size + 1, 0, none⟩) (by simp <;> omega)
  have c4 := hb1.cell (p := ⟨w.heap.size + 1, 1, none⟩) (by simp <;> omega)
  simp [go_sem] at c1 c2 c3 c4
  have hE1 := hE0.below hb1
  have hT1 := hT0.below hb1
  have hB1 := hB0.trans (hb1.mono (by simp; omega))
  clear hE0 hT0 hB0 hb1
  go_wp2_with fail
  have hS : St a w t b t' b' w1 := ⟨c1, c2, c3, c4, hE1, hT1, hB1, hz1⟩
  clear c1 c2 c3 c4 hE1 hT1 hB1 hz1
  go_region_held3 (fun w' => w'.cell? ⟨w.heap.size, 0, none⟩ = some (.int .i64 t) ∧ w'.cell? ⟨w.heap.size, 1, none⟩ = some (.int .i64 b) ∧ w'.cell? ⟨w.heap.size + 1, 0, none⟩ = some (.int .i64 t') ∧ w'.cell? ⟨w.heap.size + 1, 1, none⟩ = some (.int .i64 b') ∧ St a w t b t' b' w')
    ((first | exact St.five (by assumption) | exact St.five (St.drew (by assumption)) | exact St.next (by assumption) (by assumption)))
    (first
      | (go_at_call 17; refine (less_any t b t' b' _).mono ?_; rintro e w' ⟨rfl, hb⟩)
      | (go_at_call 28; refine (isLess_any t b t' b' _).mono ?_; rintro e w' ⟨rfl, hb⟩)
      | (go_at_call 29; refine (check_bad t b _ (a 2) (errT 2) ?_ h).mono ?_; (exact (St.of5 (by assumption)).errs 2 (by simp)); rintro e w' ⟨rfl, hb⟩)
      | (go_at_call 30; refine (stampError_bad t b _ h).mono ?_; rintro e w' ⟨rfl, hb⟩)
      | (go_at_call 26; refine (coded1_any a (errV (a 2)) 2 (-1) 2 _ (.bare 2 (by omega) (by omega)) ?_ ?_).mono ?_; (exact (St.of5 (by assumption)).errs); (exact (St.of5 (by assumption)).tv); rintro e w' ⟨rfl, hb⟩))
  have hS2 : St a w t b t' b' w' := St.of5 (by assumption)
  clear hS
  have c1 := hS2.c1
  have c2 := hS2.c2
  go_wp2_with fail
  refine (id_bad t b _ (a 2) (errT 2) (hS2.errs 2 (by simp)) h).mono ?_
  rintro e w3 ⟨rfl, hb⟩
  have hS3 := hS2.below hb
  clear hS2 c1 c2 hb
  have c1 := hS3.c1
  have c2 := hS3.c2
  go_wp2_with fail
  refine (stampError_bad t b _ h).mono ?_
  rintro e w4 ⟨rfl, hb⟩
  have hS4 := hS3.below hb
  clear hS3 c1 c2 hb
  have c1 := hS4.c1
  have c2 := hS4.c2
  go_wp2_with fail
  refine (coded1_any a (errV (a 2)) 2 (-1) 2 _ (.bare 2 (by omega) (by omega)) hS4.errs hS4.tv).mono ?_
  rintro e w5 ⟨rfl, hb⟩
  have hS5 := hS4.below hb
  clear hS4 c1 c2 hb
  have c1 := hS5.c1
  have c2 := hS5.c2
  go_wp2_with fail
  refine (idOf_bad t b _ h).mono ?_
  rintro e w6 ⟨rfl, hb⟩
  have hS6 := hS5.below hb
  clear hS5 c1 c2 hb
  have c1 := hS6.c1
  have c2 := hS6.c2
  go_wp2_with fail
  refine (of_high id _ (a 2) (hS6.errs 2 (by simp)) i1 i2).mono ?_
  rintro e w7 ⟨rfl, hb⟩
  have hS7 := hS6.below hb
  clear hS6 c1 c2 hb
  have hz7 := hS7.size
  have hS8 := hS7.below ((Below.refl _ _).alloc (Nat.le_refl _) (.cells #[.int .i64 0, .int .i64 0] 23))
  clear hS7
  go_wp2_with fail
  refine (coded1_any a (errV (a 2)) 2 (-1) 2 _ (.bare 2 (by omega) (by omega)) hS8.errs hS8.tv).mono ?_
  rintro e w8 ⟨rfl, hb⟩
  have d1 := hb.cell (p := ⟨w7.heap.size, 0, none⟩) (by simp)
  have d2 := hb.cell (p := ⟨w7.heap.size, 1, none⟩) (by simp)
  simp [go_sem] at d1 d2
  have hB8 := hS8.bel.trans (hb.mono (by have := hS8.size; omega))
  clear hS8 hb
  go_wp2
  go_ret
  exact ⟨by simp, hB8⟩

theorem walk (a : Nat → Addr) (t b t' b' id : Int) (w : World) (hE : Errs a allErrs w) (hT : TypeVar w) (i1 : -9223372036854775808 ≤ id) (i2 : id ≤ 9223372036854775807) :
    Calls Tryd.prog 7 #[stampV t b, stampV t' b', .int .i64 id] w fun e w' => e = .returned (.bool true) ∧ Below w.heap.size w w' := by
  by_cases h : StampOk t b
  · by_cases h1 : id < 4
    · exact walk_ok_low a t b t' b' id w hE hT h h1 i1
    · by_cases h2 : id < 4294967300
      · exact walk_ok_mid a t b t' b' id w hE hT h (by omega) h2
      · exact walk_ok_high a t b t' b' id w hE hT h (by omega) i2
  · by_cases h1 : id < 4
    · exact walk_bad_low a t b t' b' id w hE hT h h1 i1
    · by_cases h2 : id < 4294967300
      · exact walk_bad_mid a t b t' b' id w hE hT h (by omega) h2
      · exact walk_bad_high a t b t' b' id w hE hT h (by omega) i2

end stampOrders
end Go.Proofs.YthmgdpimfeigpaaDoor
