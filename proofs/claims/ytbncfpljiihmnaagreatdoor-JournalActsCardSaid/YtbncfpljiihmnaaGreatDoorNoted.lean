/- The closed fact on a journal: noted. -/
import Derived.Test.YtbncfpljiihmnaaGreatDoorJLaw
import Derived.Test.YtbncfpljiihmnaaGreatDoorMCrc
import Derived.Test.YtbncfpljiihmnaaGreatDoorOpRows
namespace Go.Proofs.YtbncfpljiihmnaaGreatDoor
open Go Go.RowKit
set_option linter.unusedVariables false
set_option linter.unusedSimpArgs false
set_option maxHeartbeats 4000000
set_option maxRecDepth 100000

theorem wrOp_rec : recO wrOp = recL [109, 124, 49, 124, 48, 124, 49, 124, 52, 124, 48, 124, 97, 124] := by rw [recO, wr_text]
theorem wrOp_len : (recO wrOp).length = 24 := by rw [wrOp_rec, recL_len]; rfl
/-- in noted: the disk, the operation, its copy -/
structure NoSt (w0 : World) (D OB g : Nat) (v : Value) (bs : List UInt8) (w : World) : Prop where
  d : DSt w0.heap.size D v bs false (-1) w
  a : OpAt w OB wrOp
  b : OpAt w g wrOp
  bel : Below w0.heap.size w0 w
theorem NoSt.below {w0 w w' : World} {D OB g : Nat} {v : Value} {bs : List UInt8} (h : NoSt w0 D OB g v bs w) (hb : Below w.heap.size w w') : NoSt w0 D OB g v bs w' :=
  ⟨h.d.below hb, h.a.below hb, h.b.below hb, h.bel.trans (hb.mono h.bel.size)⟩

theorem noted_any {F : Nat → Bool} (ea : Nat → Addr) (w : World) (hG : Gd F ea w) (f1 : F 1 = true) (f2 : F 2 = true) (f3 : F 3 = true) (f4 : F 4 = true) (f5 : F 5 = true) (f8 : F 8 = true) (f11 : F 11 = true) (f21 : F 21 = true) (f22 : F 22 = true) (f23 : F 23 = true) :
    Calls Tryz.prog 6 #[] w fun e w' => e = .returned (.bool true) ∧ Below w.heap.size w w' := by
  have HN := Lib.hid (newDisk_any ⟨#[]⟩ w (by decide))
  have HA : Hid (∀ D v w2, Below w.heap.size w w2 → DSt w.heap.size D v [] false (-1) w2 → Calls Tryz.prog 15 #[.pointer (some ⟨D, 0, none⟩), .agg #[.int .i64 1, .int .i64 0, .int .i64 1, .int .u8 109, .int .i64 4, .int .i64 0, .string ⟨#[97]⟩, .string ⟨#[]⟩]] w2 fun e w3 => ∃ v', e = .returned .nilIface ∧ DSt w.heap.size D v' (recO wrOp) false (-1) w3 ∧ Fr (Own D v) w2 w3 ∧ NewRow v v' w2.heap.size) := Lib.hid fun D v w2 hb hD => by
    refine (append_any ea w D v [] false (-1) wrOp w2 wr_wf hG f2 f3 f4 f5 f8 f11 f21 f23 hb hD (by simp)).mono ?_
    rintro e w3 ⟨v', h1, h2, h3, h4⟩
    rw [apD_pos wr_ok (by rw [wrOp_len]; simp)] at h1 h2
    exact ⟨v', h1, h2, h3, h4⟩
  have HR : Hid (∀ D v w3, Below w.heap.size w w3 → DSt w.heap.size D v (recO wrOp) false (-1) w3 → Calls Tryz.prog 8 #[.pointer (some ⟨D, 0, none⟩)] w3 fun e w4 => ∃ g c v', e = .returned (.tuple #[.slice (some ⟨g, 0, none⟩) 1 c, .nilIface]) ∧ 1 ≤ c ∧ OpAt w4 g wrOp ∧ DSt w.heap.size D v' (recO wrOp) false (-1) w4 ∧ Fr (Own D v) w3 w4) := Lib.hid fun D v w3 hb hD => by
    refine (recover_any ea w D v (recO wrOp) false (-1) w3 hG f1 f2 f3 f4 f5 f21 f22 f23 hb hD (by rw [wrOp_len]; omega)).mono ?_
    rintro e w4 ⟨u, L, n, v', rfl, hRw, hRd, hLn, hD4, hF4, _⟩
    have hone := read_back (L := [wrOp]) (r := []) (fun o ho => by rw [List.mem_singleton.1 ho]; exact wr_ok) (by simp) (by rw [cat_one, List.append_nil]; exact hRd)
    obtain ⟨rfl, hn⟩ := hone
    rw [cat_one] at hn
    rw [hn, List.take_length] at hD4
    rcases hRw.form with ⟨_, h⟩ | ⟨g, c, rfl, hc, _⟩
    · cases h
    · have k : ∀ j u, (opE.cells wrOp)[j]? = some u → w4.cell? ⟨g, 0 * 8 + j, none⟩ = some u := fun j u hu => hRw.at' rfl (i := 0) rfl hu
      exact ⟨g, c, v', rfl, hc, ⟨by simpa using k 0 _ rfl, by simpa using k 1 _ rfl, by simpa using k 2 _ rfl, by simpa using k 3 _ rfl, by simpa using k 4 _ rfl, by simpa using k 5 _ rfl, by simpa using k 6 _ rfl, by simpa using k 7 _ rfl⟩, hD4, hF4⟩
  have HTx : Hid (∀ w, Calls Tryz.prog 12 #[.agg #[.int .i64 1, .int .i64 0, .int .i64 1, .int .u8 109, .int .i64 4, .int .i64 0, .string ⟨#[97]⟩, .string ⟨#[]⟩]] w fun e w' => e = .returned (.string (S (opTextL wrOp))) ∧ Below w.heap.size w w') := Lib.hid fun w => refOpText_any wrOp w wr_wf
  have HRc : Hid (∀ w, Calls Tryz.prog 11 #[.string (S (opTextL wrOp))] w fun e w' => e = .returned (.string (S (recO wrOp))) ∧ Below w.heap.size w w') := Lib.hid fun w => by
    have := mrecord_any (S (opTextL wrOp)) w (by rw [S_size, wr_text]; decide)
    rwa [S_list] at this
  clear hG
  go_enter Tryz.func6, Tryz.ntmps6
  go_wp2_with fail
  refine HN.out.mono ?_
  rintro e w1 ⟨D, v, rfl, hD, hb⟩
  have hD2 := hD.below ((Below.refl _ w1).alloc (Nat.le_refl _) (.cells wrOp.cells 38))
  have hb2 := hb.alloc hb.size (.cells wrOp.cells 38)
  have HA2 := Lib.hid (HA.out D v _ hb2 hD2)
  have HO2 := Lib.hid (OpAt.start w1 wrOp 38)
  have HD2 := Lib.hid hD2
  have HB2 := Lib.hid hb2
  have hDl : D < w1.heap.size := hD.lt
  have HV := Lib.hid (fun k hk => (hD.row.lt k hk).2)
  clear hD hb hD2 hb2 HA HN
  go_wp2_with fail
  refine HA2.out.mono ?_
  rintro e w3 ⟨v3, rfl, hD3, hF3, hN3⟩
  have hO3 := HO2.out.fr hF3 (by rintro (h | h); omega; have := HV.out _ h; omega)
  have hb3 := HD2.out.fb hF3 HB2.out
  have hn3 : ¬ Own D v3 w1.heap.size := by
    rintro (h | h)
    · omega
    · rcases hN3 _ h with h | h
      · have := HV.out _ h; omega
      · simp at h; omega
  have HR3 := Lib.hid (HR.out D v3 w3 hb3 hD3)
  have HO3 := Lib.hid hO3
  have HD3 := Lib.hid hD3
  have HB3 := Lib.hid hb3
  clear hO3 hb3 hD3 hF3 hN3 HA2 HR HD2 HB2 HV
  go_wp2_with fail
  refine HR3.out.mono ?_
  rintro e w4 ⟨g, c, v4, rfl, hc, hO4, hD4, hF4⟩
  have hS4 : NoSt w D w1.heap.size g v4 (recO wrOp) w4 := ⟨hD4, HO3.out.fr hF4 hn3, hO4, HD3.out.fb hF4 HB3.out⟩
  have HS4 := Lib.hid hS4
  have heq : ∀ w, (Op.equalIn 10000 38 (.agg #[.int .i64 1, .int .i64 0, .int .i64 1, .int .u8 109, .int .i64 4, .int .i64 0, .string ⟨#[97]⟩, .string ⟨#[]⟩]) (.agg #[.int .i64 1, .int .i64 0, .int .i64 1, .int .u8 109, .int .i64 4, .int .i64 0, .string ⟨#[97]⟩, .string ⟨#[]⟩])).run Tryz.prog w = .ok true w := fun w => (eqOp_run wrOp wrOp w).trans (by rw [opEqB_refl])
  clear hO4 hD4 hF4 hS4 HO3 HD3 HB3 HR3
  have lim : Hid (∀ w', NoSt w D w1.heap.size g v4 (recO wrOp) w' → w'.cell? ⟨w1.heap.size, 0, none⟩ = some (.int .i64 1) ∧ w'.cell? ⟨w1.heap.size, 1, none⟩ = some (.int .i64 0) ∧ w'.cell? ⟨w1.heap.size, 2, none⟩ = some (.int .i64 1) ∧ w'.cell? ⟨w1.heap.size, 3, none⟩ = some (.int .u8 109) ∧ w'.cell? ⟨w1.heap.size, 4, none⟩ = some (.int .i64 4) ∧ w'.cell? ⟨w1.heap.size, 5, none⟩ = some (.int .i64 0) ∧ w'.cell? ⟨w1.heap.size, 6, none⟩ = some (.string ⟨#[97]⟩) ∧ w'.cell? ⟨w1.heap.size, 7, none⟩ = some (.string ⟨#[]⟩) ∧ w'.cell? ⟨g, 0, none⟩ = some (.int .i64 1) ∧ w'.cell? ⟨g, 1, none⟩ = some (.int .i64 0) ∧ w'.cell? ⟨g, 2, none⟩ = some (.int .i64 1) ∧ w'.cell? ⟨g, 3, none⟩ = some (.int .u8 109) ∧ w'.cell? ⟨g, 4, none⟩ = some (.int .i64 4) ∧ w'.cell? ⟨g, 5, none⟩ = some (.int .i64 0) ∧ w'.cell? ⟨g, 6, none⟩ = some (.string ⟨#[97]⟩) ∧ w'.cell? ⟨g, 7, none⟩ = some (.string ⟨#[]⟩) ∧ NoSt w D w1.heap.size g v4 (recO wrOp) w') := Lib.hid fun w' h => ⟨h.a.c0, h.a.c1, h.a.c2, h.a.c3, h.a.c4, h.a.c5, h.a.c6, h.a.c7, h.b.c0, h.b.c1, h.b.c2, h.b.c3, h.b.c4, h.b.c5, h.b.c6, h.b.c7, h⟩
  have pr : Hid (∀ w', (w'.cell? ⟨w1.heap.size, 0, none⟩ = some (.int .i64 1) ∧ w'.cell? ⟨w1.heap.size, 1, none⟩ = some (.int .i64 0) ∧ w'.cell? ⟨w1.heap.size, 2, none⟩ = some (.int .i64 1) ∧ w'.cell? ⟨w1.heap.size, 3, none⟩ = some (.int .u8 109) ∧ w'.cell? ⟨w1.heap.size, 4, none⟩ = some (.int .i64 4) ∧ w'.cell? ⟨w1.heap.size, 5, none⟩ = some (.int .i64 0) ∧ w'.cell? ⟨w1.heap.size, 6, none⟩ = some (.string ⟨#[97]⟩) ∧ w'.cell? ⟨w1.heap.size, 7, none⟩ = some (.string ⟨#[]⟩) ∧ w'.cell? ⟨g, 0, none⟩ = some (.int .i64 1) ∧ w'.cell? ⟨g, 1, none⟩ = some (.int .i64 0) ∧ w'.cell? ⟨g, 2, none⟩ = some (.int .i64 1) ∧ w'.cell? ⟨g, 3, none⟩ = some (.int .u8 109) ∧ w'.cell? ⟨g, 4, none⟩ = some (.int .i64 4) ∧ w'.cell? ⟨g, 5, none⟩ = some (.int .i64 0) ∧ w'.cell? ⟨g, 6, none⟩ = some (.string ⟨#[97]⟩) ∧ w'.cell? ⟨g, 7, none⟩ = some (.string ⟨#[]⟩) ∧ NoSt w D w1.heap.size g v4 (recO wrOp) w') → NoSt w D w1.heap.size g v4 (recO wrOp) w') := Lib.hid fun w' h => ((((((((((((((((h.2).2).2).2).2).2).2).2).2).2).2).2).2).2).2).2)
  have HBy : Hid (∀ w', NoSt w D w1.heap.size g v4 (recO wrOp) w' → Calls Tryz.prog 9 #[.pointer (some ⟨D, 0, none⟩)] w' fun e w'' => e = .returned (.string (S (recO wrOp))) ∧ Below w'.heap.size w' w'') := Lib.hid fun w' h => (diskBytes_any w.heap.size D v4 (recO wrOp) false (-1) w' h.d).mono fun e w'' ⟨h1, h2⟩ => ⟨h1, h2 ▸ Below.refl _ _⟩
  obtain ⟨q0, q1, q2, q3, q4, q5, q6, q7, r0, r1, r2, r3, r4, r5, r6, r7, _⟩ := lim.out _ HS4.out
  go_wp2_with fail
  go_region_held3 (fun w' => w'.cell? ⟨w1.heap.size, 0, none⟩ = some (.int .i64 1) ∧ w'.cell? ⟨w1.heap.size, 1, none⟩ = some (.int .i64 0) ∧ w'.cell? ⟨w1.heap.size, 2, none⟩ = some (.int .i64 1) ∧ w'.cell? ⟨w1.heap.size, 3, none⟩ = some (.int .u8 109) ∧ w'.cell? ⟨w1.heap.size, 4, none⟩ = some (.int .i64 4) ∧ w'.cell? ⟨w1.heap.size, 5, none⟩ = some (.int .i64 0) ∧ w'.cell? ⟨w1.heap.size, 6, none⟩ = some (.string ⟨#[97]⟩) ∧ w'.cell? ⟨w1.heap.size, 7, none⟩ = some (.string ⟨#[]⟩) ∧ w'.cell? ⟨g, 0, none⟩ = some (.int .i64 1) ∧ w'.cell? ⟨g, 1, none⟩ = some (.int .i64 0) ∧ w'.cell? ⟨g, 2, none⟩ = some (.int .i64 1) ∧ w'.cell? ⟨g, 3, none⟩ = some (.int .u8 109) ∧ w'.cell? ⟨g, 4, none⟩ = some (.int .i64 4) ∧ w'.cell? ⟨g, 5, none⟩ = some (.int .i64 0) ∧ w'.cell? ⟨g, 6, none⟩ = some (.string ⟨#[97]⟩) ∧ w'.cell? ⟨g, 7, none⟩ = some (.string ⟨#[]⟩) ∧ NoSt w D w1.heap.size g v4 (recO wrOp) w')
    (first | exact lim.out _ (HS4.out.below (Below.drew (Below.refl _ _))) | exact lim.out _ (NoSt.below (pr.out _ (by assumption)) (by assumption)))
    (first
      | (go_at_call 9; refine (HBy.out _ ?_).mono ?_; (exact pr.out _ (by assumption)); rintro r wB ⟨rfl, hbB⟩)
      | (go_at_call 12; refine (HTx.out _).mono ?_; rintro r wB ⟨rfl, hbB⟩)
      | (go_at_call 11; refine (HRc.out _).mono ?_; rintro r wB ⟨rfl, hbB⟩))
  rename_i hH
  have HF := Lib.hid (pr.out _ hH).bel
  clear hH lim pr HBy HTx HRc HS4 q0 q1 q2 q3 q4 q5 q6 q7 r0 r1 r2 r3 r4 r5 r6 r7
  go_wp2_with fail
  go_ret
  exact ⟨rfl, HF.out⟩
end Go.Proofs.YtbncfpljiihmnaaGreatDoor
