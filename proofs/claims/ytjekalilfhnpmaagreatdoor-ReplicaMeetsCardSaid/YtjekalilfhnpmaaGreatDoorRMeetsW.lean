/- ReplicaMeets is walked: whoever joins whom, who knows all has one state. -/
import Derived.Test.YtjekalilfhnpmaaGreatDoorPlayed
namespace Go.Proofs.YtjekalilfhnpmaaGreatDoor
open Go Go.RowKit Go.Maps Go.Shelf LineOrd Tree
set_option linter.unusedVariables false
set_option linter.unusedSimpArgs false
set_option maxHeartbeats 20000000
set_option maxRecDepth 100000

theorem mat_step (k s d : Nat) (hs : s < 4) (hd : d = (s + 1) % 4) : mat (4 * k + (s + 1)) = jnM d s (jnM s d (mat (4 * k + s))) := by
  have h : (4 * k + s) % 4 = s := by omega
  show jnM (((4 * k + s) % 4 + 1) % 4) ((4 * k + s) % 4) (jnM ((4 * k + s) % 4) (((4 * k + s) % 4 + 1) % 4) (mat (4 * k + s))) = _
  rw [h, ← hd]
/-- all of them anew -/
theorem join_self {K : List OpT} (hK : DOk K) (hup : Rising K) (hl : K.length ≤ 400) : ∃ G, joinP [] K = .inr G ∧ sortOps G = K := by
  obtain ⟨G, h1, h2⟩ := join_all (l := K) DOk.nil K hK (fun o => by simp) hl
  obtain ⟨h3, _⟩ := join_ok DOk.nil List.Pairwise.nil hK.wf h1
  refine ⟨G, h1, ?_⟩
  have := sort_eq (D := G) h3 hK (fun o => by simpa using h2 o)
  rwa [sort_self hup] at this
/-- a vector is itself -/
theorem eqVecS (v : Int → Nat) (w : World) : (Op.equalIn 10000 48 (.agg #[.int .i64 (v 0 : Nat), .int .i64 (v 1 : Nat), .int .i64 (v 2 : Nat), .int .i64 (v 3 : Nat)]) (.agg #[.int .i64 (v 0 : Nat), .int .i64 (v 1 : Nat), .int .i64 (v 2 : Nat), .int .i64 (v 3 : Nat)])).run Tryz.prog w = .ok true w := by
  have u3 := Tryz.underlying3
  have a3 := Tryz.isAgg3
  have z3 := Tryz.sizeOf3
  rw [show (10000 : Nat) = 9999 + 1 from rfl, Op.equalIn]
  simp only [Sem.run_bind, run_underlying Tryz.underlying48, Result.andThen_ok]
  simp only [Std.Legacy.Range.forIn_eq_forIn_range', Std.Legacy.Range.size, Nat.sub_zero, Nat.add_sub_cancel, Nat.div_one, List.range'_succ, List.range'_zero, List.forIn_cons, List.forIn_nil]
  go_simp
/-- operations that are well have one text of their state -/
theorem strOf_ex : ∃ f : List OpT → ByteArray, ∀ K s, DOk K → StateOf K s → s = f K := by
  classical
  refine ⟨fun K => if h : ∃ s, StateOf K s then h.choose else ⟨#[]⟩, fun K s hK hs => ?_⟩
  have h : ∃ s, StateOf K s := ⟨s, hs⟩
  show s = (if h : ∃ s, StateOf K s then h.choose else ⟨#[]⟩)
  rw [dif_pos h]
  exact StateOf.unique hK hs h.choose_spec
/-- one joins what another one has: what is needed of it in a region -/
theorem MeetW.joins {g cg : Nat} {cs : Nat → Nat → Int} {RBs : Nat → Nat} {H : List OpT} {Ks : Nat → List OpT} {w0 w : World} {F0 : Nat → Bool} {ea : Nat → Addr} (h : MeetW g cg cs RBs H Ks w0 w) (hG : Gd F0 ea w0) (f2 : F0 2 = true) (f3 : F0 3 = true) (f4 : F0 4 = true) (f5 : F0 5 = true) (f6 : F0 6 = true) (f7 : F0 7 = true) (f8 : F0 8 = true) (f9 : F0 9 = true)
    {a b : Nat} (ha : a < 4) (hb : b < 4) :
    (∀ w', Below w.heap.size w w' → w'.cell? ⟨g, a, none⟩ = some (.pointer (some ⟨RBs a, 0, none⟩)) ∧ w'.cell? ⟨g, b, none⟩ = some (.pointer (some ⟨RBs b, 0, none⟩))) ∧
    (∀ w', Below w.heap.size w w' → Calls Tryz.prog 14 #[.pointer (some ⟨RBs b, 0, none⟩)] w' fun e w'' => ∃ A n c, e = .returned (.slice A n c) ∧ SlV opE w'' (.slice A n c) (Ks b) ∧ Below w'.heap.size w' w'') ∧
    (∀ w' A n c, Below w.heap.size w w' → SlV opE w' (.slice A n c) (Ks b) → Calls Tryz.prog 12 #[.pointer (some ⟨RBs a, 0, none⟩), .slice A n c] w' fun e w'' => ∃ k : Nat, e = .returned (.tuple #[.int .i64 k, .nilIface]) ∧ (w''.cell? ⟨g, a, none⟩ = some (.pointer (some ⟨RBs a, 0, none⟩)) ∧ w''.cell? ⟨g, b, none⟩ = some (.pointer (some ⟨RBs b, 0, none⟩))) ∧ ∃ cs' Ks', MeetW g cg cs' RBs H Ks' w0 w'' ∧ Got a b Ks Ks') := by
  refine ⟨fun w' hb' => ⟨(h.row.below hb').ptr ha, (h.row.below hb').ptr hb⟩, fun w' hb' => ?_, fun w' A n c hb' hs => ?_⟩
  · refine ((h.below hb').ops hb).mono ?_
    rintro e w'' ⟨v, rfl, hr, hbl⟩
    obtain ⟨A, n, c, rfl⟩ := hr.slice
    exact ⟨A, n, c, rfl, hr.sl, hbl⟩
  · refine ((h.below hb').join hG f2 f3 f4 f5 f6 f7 f8 f9 ha hb hs).mono ?_
    rintro e w'' ⟨⟨k, rfl⟩, cs', Ks', hM, hg⟩
    exact ⟨k, rfl, ⟨hM.row.ptr ha, hM.row.ptr hb⟩, cs', Ks', hM, hg⟩
theorem replicaMeets_any {F0 : Nat → Bool} (ea : Nat → Addr) (A A' : Option Addr) (n c n' c' : Nat) (Ts : List TurnT) (xs : List Int) (w : World) (hG : Gd F0 ea w) (f2 : F0 2 = true) (f3 : F0 3 = true) (f4 : F0 4 = true) (f5 : F0 5 = true) (f6 : F0 6 = true) (f7 : F0 7 = true) (f8 : F0 8 = true) (f9 : F0 9 = true) (f10 : F0 10 = true) (f21 : F0 21 = true)
    (hs : SlV turnE w (.slice A n c) Ts) (hc : n ≤ maxLen) (hw : ∀ x ∈ Ts, x.o.nm.size ≤ 100000 → x.o.vl.size ≤ 100000 → x.Wf) (hs' : SlV intE w (.slice A' n' c') xs) (hc' : n' ≤ maxLen) :
    Calls Tryz.prog 4 #[.slice A n c, .slice A' n' c'] w fun e w' => e = .returned (.bool true) ∧ Below w.heap.size w w' := by
  have HG := Lib.hid hG
  have HS := Lib.hid hs
  have HS' := Lib.hid hs'
  have HN' := Lib.hid hs'.len
  have HW := Lib.hid hw
  have HBg := Lib.hid (begun_any ea w hG f2 f3 f4 f5 f6 f7 f8 f9 f21)
  obtain ⟨stF, hstF⟩ := strOf_ex
  have HstF := Lib.hid hstF
  have hm1 : n ≤ 9223372036854775807 := by unfold maxLen at hc; omega
  have hm2 : n' ≤ 9223372036854775807 := by unfold maxLen at hc'; omega
  have HC := Lib.hid hc
  clear hG hs hs' hw hstF hc hc'
  go_enter Tryz.func4, Tryz.ntmps4
  go_wp2_with fail
  refine HBg.out.mono ?_
  rintro e w1 ⟨rfl, hb1⟩
  have HB1 := Lib.hid hb1
  have HLg := Lib.hid (longTurns_any A n c Ts w1 (HS.out.below hb1) HC.out)
  clear hb1 HBg
  go_wp2_with fail
  refine HLg.out.mono ?_
  rintro e w1' ⟨lb, rfl, rfl, hsh⟩
  have HSh := Lib.hid hsh
  clear hsh HLg
  cases lb with
  | true =>
    go_wp2_with fail
    go_ret
    exact ⟨rfl, HB1.out⟩
  | false =>
    by_cases h30 : 30 < n'
    · have i0 : (30 : Int) < (n' : Int) := by omega
      go_wp2_with fail
      go_ret
      exact ⟨rfl, HB1.out⟩
    have i0 : ¬ (30 : Int) < (n' : Int) := by omega
    have HPl := Lib.hid (played_any ea A n c Ts w1' (HG.out.below HB1.out) f2 f3 f4 f5 f6 f7 f8 f9 f10 (HS.out.below HB1.out) (HSh.out (by first | exact rfl | trivial)).1 (fun x hx => HW.out x hx (by have := ((HSh.out (by first | exact rfl | trivial)).2 x hx).1; omega) (by have := ((HSh.out (by first | exact rfl | trivial)).2 x hx).2; omega)))
    have HGp := Lib.hid (HG.out.below HB1.out)
    have q22 : ∀ (w : World) (a : Option Addr) (n c n' c' : Nat), (binOp .eql 44 (.slice a n c) (.slice none n' c')).run Tryz.prog w = .ok (.bool a.isNone) w := fun w a n c n' c' => Lib.run_eql_slice_nil w _ _ a n c n' c' Tryz.underlying44
    go_wp2_with fail
    refine HPl.out.mono ?_
    rintro e w2 ⟨v, cs, RBs, Ks, H, rfl, hR, hrow, hF, hH⟩
    obtain ⟨g, cg, rfl⟩ : ∃ g cg, v = .slice (some ⟨g, 0, none⟩) 4 cg := by
      rcases hrow.row.form with ⟨_, h⟩ | ⟨g, cap, h, _⟩
      · simp at h
      · exact ⟨g, cap, h⟩
    have HM : Hid (MeetW g cg cs RBs H Ks w1' w2) := Lib.hid ⟨hR, hrow, hF, by have := (HSh.out (by first | exact rfl | trivial)).1; omega⟩
    clear hR hrow hF hH HPl
    go_wp2_with fail
    go_loopw [7, 8, 9, 10, 11] (fun v7 _ _ _ _ wr => ∃ j : Nat, j ≤ n' ∧ v7 = .int .i64 j ∧ ∃ cs Ks, Hid (MeetW g cg cs RBs H Ks w1' wr)) (fun v7 _ _ _ _ _ => n' - (RowKit.intOf v7).toNat)
    case atStart => exact ⟨0, by omega, rfl, cs, Ks, HM⟩
    case round =>
      clear HM
      obtain ⟨j, hj, rfl, cs2, Ks2, HM⟩ := hrel
      by_cases hlt : j + 1 < n'
      · have j1 : (0 : Int) ≤ (j : Int) := by omega
        have j2 : (j : Int) < (n' : Int) := by omega
        have j3 : (0 : Int) ≤ (j : Int) + 1 := by omega
        have j4 : (j : Int) + 1 < (n' : Int) := by omega
        obtain ⟨x, hx⟩ : ∃ x, xs[j]? = some x := ⟨_, List.getElem?_eq_getElem (by have := HN'.out; omega)⟩
        obtain ⟨y, hy⟩ : ∃ y, xs[j + 1]? = some y := ⟨_, List.getElem?_eq_getElem (by have := HN'.out; omega)⟩
        obtain ⟨gb, off, rfl, _, hcx⟩ := ((HS'.out.below HB1.out).below HM.out.reps.bel).at' (by decide) hx
        obtain ⟨gb2, off2, e2, _, hcy⟩ := ((HS'.out.below HB1.out).below HM.out.reps.bel).at' (by decide) hy
        cases e2
        have q0 : wr.cell? ⟨gb, off + j, none⟩ = some (.int .i64 x) := by have := hcx 0 _ rfl; simpa [intE] using this
        have q1 : wr.cell? ⟨gb, off + (j + 1), none⟩ = some (.int .i64 y) := by have := hcy 0 _ rfl; simpa [intE] using this
        clear hcx hcy hx hy
        by_cases ha0 : x < 0
        · go_wp2_with fail
          go_roundw
          case rel => exact ⟨j + 1, by omega, by go_num, cs2, Ks2, HM⟩
          case measure => simp [RowKit.intOf]; omega
        by_cases ha4 : 4 ≤ x
        · go_wp2_with fail
          go_roundw
          case rel => exact ⟨j + 1, by omega, by go_num, cs2, Ks2, HM⟩
          case measure => simp [RowKit.intOf]; omega
        by_cases hb0 : y < 0
        · go_wp2_with fail
          go_roundw
          case rel => exact ⟨j + 1, by omega, by go_num, cs2, Ks2, HM⟩
          case measure => simp [RowKit.intOf]; omega
        by_cases hb4 : 4 ≤ y
        · go_wp2_with fail
          go_roundw
          case rel => exact ⟨j + 1, by omega, by go_num, cs2, Ks2, HM⟩
          case measure => simp [RowKit.intOf]; omega
        obtain ⟨an, rfl⟩ : ∃ an : Nat, x = an := ⟨x.toNat, by omega⟩
        obtain ⟨bn, rfl⟩ : ∃ bn : Nat, y = bn := ⟨y.toNat, by omega⟩
        have han : an < 4 := by omega
        have hbn : bn < 4 := by omega
        have k1 : (0 : Int) ≤ (an : Int) := by omega
        have k2 : (an : Int) < 4 := by omega
        have k3 : (0 : Int) ≤ (bn : Int) := by omega
        have k4 : (bn : Int) < 4 := by omega
        obtain ⟨hSC, hOp, hJo⟩ := HM.out.joins HGp.out f2 f3 f4 f5 f6 f7 f8 f9 han hbn
        have HSC := Lib.hid hSC
        have HOp := Lib.hid hOp
        have HJo := Lib.hid hJo
        clear hSC hOp hJo
        go_upto_region 13 with (fail)
        go_cut [10, 11] (fun v10 v11 wc => v11 = .nilIface ∧ ∃ cs' Ks', Hid (MeetW g cg cs' RBs H Ks' w1' wc))
        case first =>
          go_region_held_law (fun w' => w'.cell? ⟨g, an, none⟩ = some (.pointer (some ⟨RBs an, 0, none⟩)) ∧ w'.cell? ⟨g, bn, none⟩ = some (.pointer (some ⟨RBs bn, 0, none⟩))) (first | (with_reducible exact hSC) | exact HSC.out _ (by go_grown))
            (first
              | (go_at_call 14; refine (HOp.out _ (by go_grown)).mono ?_; rintro e wA ⟨A2, n2, c2, rfl, hs2, hbA⟩; have hA := bel2 (w0 := wr) (by go_grown) hbA; have sA := hA.size)
              | (go_at_call 12; refine (HJo.out _ _ _ _ hA hs2).mono ?_; rintro e wB ⟨k, rfl, hSC, cs3, Ks3, hM3, hg3⟩))
          all_goals
            rename_i hH
            clear hH hSC
            go_wp2_with fail
            go_meet
            case rel => exact ⟨rfl, cs3, Ks3, Lib.hid hM3⟩
        case rest =>
          obtain ⟨rfl, cs3, Ks3, HM3⟩ := hcut
          go_wp2_with fail
          go_roundw
          case rel => exact ⟨j + 1, by omega, by go_num, cs3, Ks3, HM3⟩
          case measure => simp [RowKit.intOf]; omega
      · have j2 : ¬ (j : Int) + 1 < (n' : Int) := by omega
        have j1 : (0 : Int) ≤ (j : Int) + 1 := by omega
        have j9 : (j : Int) + 1 ≤ 9223372036854775807 := by omega
        clear hlt
        go_wp2_with fail
        have HM0 : Hid (MeetW g cg cs2 RBs H Ks2 w1' wr) := HM
        go_loopw [12, 13, 14, 15] (fun v12 _ _ _ wr2 => ∃ k : Nat, k ≤ 2 ∧ v12 = .int .i64 k ∧ ∃ cs Ks, Hid (MeetW g cg cs RBs H Ks w1' wr2 ∧ KnowM (mat (4 * k)) Ks2 Ks)) (fun v12 _ _ _ _ => 2 - (RowKit.intOf v12).toNat)
        case atStart => exact ⟨0, by omega, rfl, cs2, Ks2, Lib.hid ⟨HM.out, KnowM.start Ks2⟩⟩
        case round =>
          clear HM
          obtain ⟨k, hk, rfl, cs4, Ks4, H4⟩ := hrel
          by_cases hk2 : k < 2
          · have k1 : (k : Int) < 2 := by omega
            go_wp2_with fail
            go_loopw [13, 14, 15] (fun v13 _ _ wr3 => ∃ s : Nat, s ≤ 4 ∧ v13 = .int .i64 s ∧ ∃ cs Ks, Hid (MeetW g cg cs RBs H Ks w1' wr3 ∧ KnowM (mat (4 * k + s)) Ks2 Ks)) (fun v13 _ _ _ => 4 - (RowKit.intOf v13).toNat)
            case atStart => exact ⟨0, by omega, rfl, cs4, Ks4, H4⟩
            case round =>
              clear H4
              obtain ⟨s, hs4, rfl, cs5, Ks5, H5⟩ := hrel
              by_cases hs : s < 4
              · have s1 : (0 : Int) ≤ (s : Int) := by omega
                have s2 : (s : Int) < 4 := by omega
                have s3 : (0 : Int) ≤ (s : Int) + 1 := by omega
                have s9 : (s : Int) + 1 ≤ 9223372036854775807 := by omega
                obtain ⟨d, hd⟩ : ∃ d : Nat, d = (s + 1) % 4 := ⟨_, rfl⟩
                have hd4 : d < 4 := by omega
                have d1 : (0 : Int) ≤ (d : Int) := by omega
                have d2 : (d : Int) < 4 := by omega
                have r1 : ((s : Int) + 1).tmod 4 = (d : Int) := by rw [Int.tmod_eq_emod_of_nonneg (by omega)]; omega
                have a1 : IntKind.i64.wrap ((s : Int) + 1) = (s : Int) + 1 := by simp [IntKind.wrap, IntKind.bits, IntKind.signed]; omega
                have hmat := mat_step k s d hs hd
                have HMat := Lib.hid hmat
                have HD := Lib.hid hd
                clear hmat hd
                obtain ⟨hSC, hOp, hJo⟩ := H5.out.1.joins HGp.out f2 f3 f4 f5 f6 f7 f8 f9 hs hd4
                have HSC := Lib.hid hSC
                have HOp := Lib.hid hOp
                have HJo := Lib.hid hJo
                clear hSC hOp hJo
                go_upto_region 22 with (fail)
                go_cut [14, 15] (fun v14 v15 wc => v15 = .nilIface ∧ ∃ cs' Ks', Hid (MeetW g cg cs' RBs H Ks' w1' wc ∧ KnowM (jnM s d (mat (4 * k + s))) Ks2 Ks'))
                case first =>
                  go_region_held_law (fun w' => w'.cell? ⟨g, s, none⟩ = some (.pointer (some ⟨RBs s, 0, none⟩)) ∧ w'.cell? ⟨g, d, none⟩ = some (.pointer (some ⟨RBs d, 0, none⟩))) (first | (with_reducible exact hSC) | exact HSC.out _ (by go_grown))
                    (first
                      | (go_at_call 14; refine (HOp.out _ (by go_grown)).mono ?_; rintro e wA ⟨A2, n2, c2, rfl, hs2, hbA⟩; have hA := bel2 (w0 := wr) (by go_grown) hbA; have sA := hA.size)
                      | (go_at_call 12; refine (HJo.out _ _ _ _ hA hs2).mono ?_; rintro e wB ⟨k, rfl, hSC, cs3, Ks3, hM3, hg3⟩))
                  all_goals
                    rename_i hH
                    clear hH hSC
                    go_wp2_with fail
                    go_meet
                    case rel => exact ⟨rfl, cs3, Ks3, Lib.hid ⟨hM3, H5.out.2.got hs hd4 hg3⟩⟩
                case rest =>
                  obtain ⟨rfl, cs6, Ks6, H6⟩ := hcut
                  clear H5 HSC HOp HJo
                  obtain ⟨hSC, hOp, hJo⟩ := H6.out.1.joins HGp.out f2 f3 f4 f5 f6 f7 f8 f9 hd4 hs
                  have HSC := Lib.hid hSC
                  have HOp := Lib.hid hOp
                  have HJo := Lib.hid hJo
                  clear hSC hOp hJo
                  go_upto_region 25 with (fail)
                  go_cut [15] (fun v15 wd => v15 = .nilIface ∧ ∃ cs' Ks', Hid (MeetW g cg cs' RBs H Ks' w1' wd ∧ KnowM (mat (4 * k + (s + 1))) Ks2 Ks'))
                  case first =>
                    go_region_held_law (fun w' => w'.cell? ⟨g, d, none⟩ = some (.pointer (some ⟨RBs d, 0, none⟩)) ∧ w'.cell? ⟨g, s, none⟩ = some (.pointer (some ⟨RBs s, 0, none⟩))) (first | (with_reducible exact hSC) | exact HSC.out _ (by go_grown))
                      (first
                        | (go_at_call 14; refine (HOp.out _ (by go_grown)).mono ?_; rintro e wA ⟨A2, n2, c2, rfl, hs2, hbA⟩; have hA := bel2 (w0 := wc) (by go_grown) hbA; have sA := hA.size)
                        | (go_at_call 12; refine (HJo.out _ _ _ _ hA hs2).mono ?_; rintro e wB ⟨k, rfl, hSC, cs3, Ks3, hM3, hg3⟩))
                    all_goals
                      rename_i hH
                      clear hH hSC
                      go_wp2_with fail
                      go_meet
                      case rel => exact ⟨rfl, cs3, Ks3, Lib.hid ⟨hM3, by rw [HMat.out]; exact H6.out.2.got hd4 hs hg3⟩⟩
                  case rest =>
                    obtain ⟨rfl, cs7, Ks7, H7⟩ := hcut
                    go_wp2_with fail
                    go_roundw
                    case rel => exact ⟨s + 1, by omega, by go_num, cs7, Ks7, H7⟩
                    case measure => simp [RowKit.intOf]; omega
              · obtain rfl : s = 4 := by omega
                have s2 : ¬ ((4 : Nat) : Int) < 4 := by omega
                go_wp2_with fail
                go_roundw
                case rel => exact ⟨k + 1, by omega, by go_num, cs5, Ks5, H5⟩
                case measure => simp [RowKit.intOf]; omega
          · obtain rfl : k = 2 := by omega
            have k1 : ¬ ((2 : Nat) : Int) < 2 := by omega
            obtain ⟨wE, K0, HBw, HbE, HD, HSt, HVc, HOp, HSC⟩ : ∃ (wE : World) (K0 : List OpT), Hid (Below w.heap.size w wE) ∧ Hid (Below wE.heap.size wE wr) ∧ Hid (Gd F0 ea wE ∧ DOk K0 ∧ Rising K0 ∧ K0.length ≤ 60) ∧ Hid (∀ a, a < 4 → ∀ w', Below wE.heap.size wE w' → Calls Tryz.prog 18 #[.pointer (some ⟨RBs a, 0, none⟩)] w' fun e w'' => e = .returned (.string (stF K0)) ∧ Below w'.heap.size w' w'') ∧ Hid (∀ a, a < 4 → ∀ w', Below wE.heap.size wE w' → Calls Tryz.prog 19 #[.pointer (some ⟨RBs a, 0, none⟩)] w' fun e w'' => e = .returned (.agg #[.int .i64 (cntB K0 0 : Nat), .int .i64 (cntB K0 1 : Nat), .int .i64 (cntB K0 2 : Nat), .int .i64 (cntB K0 3 : Nat)]) ∧ Below w'.heap.size w' w'') ∧ Hid (∀ a, a < 4 → ∀ w', Below wE.heap.size wE w' → Calls Tryz.prog 14 #[.pointer (some ⟨RBs a, 0, none⟩)] w' fun e w'' => ∃ A n c, e = .returned (.slice A n c) ∧ SlV opE w'' (.slice A n c) K0 ∧ Below w'.heap.size w' w'') ∧ Hid (∀ a, a < 4 → ∀ w', Below wE.heap.size wE w' → w'.cell? ⟨g, a, none⟩ = some (.pointer (some ⟨RBs a, 0, none⟩))) := by
              have hM := H4.out.1
              have hsame : ∀ a, a < 4 → Ks4 a = Ks4 0 := fun a ha => FourR.allSame HM0.out.four hM.four H4.out.2 ha (by omega)
              have hl : ∀ a, a < 4 → (Ks4 a).length ≤ 60 := fun a ha => Nat.le_trans (hM.four.len ha) hM.len
              have hGE : Gd F0 ea wr := HGp.out.below hM.reps.bel
              refine ⟨wr, Ks4 0, Lib.hid (bel2 HB1.out hM.reps.bel), Lib.hid (Below.refl _ _), Lib.hid ⟨hGE, hM.four.ok 0 (by omega), hM.four.rise 0 (by omega), hl 0 (by omega)⟩, Lib.hid fun a ha w' hb => ?_, Lib.hid fun a ha w' hb => ?_, Lib.hid fun a ha w' hb => ?_, Lib.hid fun a ha w' hb => (hM.row.below hb).ptr ha⟩
              · have hb' := hM.below hb
                refine (state_any ea _ _ _ _ w' (hb'.reps.rep a ha) (hGE.below hb) f21 (hM.four.ok a ha) (by have := hl a ha; omega)).mono ?_
                rintro e w'' ⟨str, rfl, hso, hbl⟩
                have := HstF.out _ _ (hM.four.ok a ha) hso
                rw [hsame a ha] at this
                exact ⟨by rw [this], hbl⟩
              · have hb' := hM.below hb
                refine (vecD_any _ _ _ _ w' (hb'.reps.rep a ha)).mono ?_
                rintro e w'' ⟨rfl, hbl⟩
                exact ⟨by rw [hsame a ha]; rfl, hbl⟩
              · refine ((hM.below hb).ops ha).mono ?_
                rintro e w'' ⟨v, rfl, hr, hbl⟩
                obtain ⟨A, n, c, rfl⟩ := hr.slice
                rw [hsame a ha] at hr
                exact ⟨A, n, c, rfl, hr.sl, hbl⟩
            clear HM0 H4 HB1 HSh HS HS' HN' HW HC HG HGp i0 h30 q22 j1 j2 j9 hj hk hk2
            have HL0 := Lib.hid (show K0.length ≤ 100000 by have := HD.out.2.2.2; omega)
            go_wp2_with fail
            go_loopw [16] (fun v16 wq => ∃ j : Nat, 1 ≤ j ∧ j ≤ 4 ∧ v16 = .int .i64 j ∧ Hid (Below wE.heap.size wE wq)) (fun v16 _ => 4 - (RowKit.intOf v16).toNat)
            case atStart => exact ⟨1, by omega, by omega, rfl, HbE⟩
            case round =>
              clear HbE
              obtain ⟨j, hj1, hj4, rfl, HbE⟩ := hrel
              by_cases hj : j < 4
              · have j1 : (0 : Int) ≤ (j : Int) := by omega
                have j2 : (j : Int) < 4 := by omega
                have HSC2 : Hid (∀ w', Below wE.heap.size wE w' → Below wE.heap.size wE w' ∧ w'.cell? ⟨g, j, none⟩ = some (.pointer (some ⟨RBs j, 0, none⟩)) ∧ w'.cell? ⟨g, 0, none⟩ = some (.pointer (some ⟨RBs 0, 0, none⟩))) := Lib.hid fun w' hb => ⟨hb, HSC.out j hj w' hb, HSC.out 0 (by omega) w' hb⟩
                have qv := eqVecS (cntB K0)
                have hB0 := HbE.out
                go_upto_region 31 with (fail)
                go_cut [160] (fun v160 wc => v160 = .bool false ∧ Hid (Below wE.heap.size wE wc))
                case first =>
                  go_region_held_law (fun w' => Below wE.heap.size wE w' ∧ w'.cell? ⟨g, j, none⟩ = some (.pointer (some ⟨RBs j, 0, none⟩)) ∧ w'.cell? ⟨g, 0, none⟩ = some (.pointer (some ⟨RBs 0, 0, none⟩))) (exact HSC2.out _ (by go_grown))
                    (first
                      | (go_at_call 18; refine (HSt.out _ (by omega) _ (by go_grown)).mono ?_; rintro e wA ⟨rfl, hbA⟩; have hA := bel2 (w0 := wE) (by go_grown) hbA; have sA := hA.size)
                      | (go_at_call 19; refine (HVc.out _ (by omega) _ (by go_grown)).mono ?_; rintro e wA ⟨rfl, hbA⟩; have hA := bel2 (w0 := wE) (by go_grown) hbA; have sA := hA.size)
                      | (go_at_call 14; refine (HOp.out _ (by omega) _ (by go_grown)).mono ?_; rintro e wA ⟨A1, n1, c1, rfl, hs1, hbA⟩; have hA := bel2 (w0 := wE) (by go_grown) hbA; have sA := hA.size)
                      | (go_at_call 20; refine (sameOps_any _ _ _ _ _ _ K0 _ (by first | assumption | exact SlV.below (by assumption) (by assumption)) (by first | assumption | exact SlV.below (by assumption) (by assumption)) HL0.out).mono ?_; rintro e wA ⟨rfl, hbA⟩; have hA := bel2 (w0 := wE) (by go_grown) hbA; have sA := hA.size))
                  all_goals
                    rename_i hH
                    clear hH
                    go_wp2_with fail
                    go_meet
                    case rel => exact ⟨rfl, Lib.hid (by assumption)⟩
                case rest =>
                  obtain ⟨rfl, HbE2⟩ := hcut
                  go_wp2_with fail
                  go_roundw
                  case rel => exact ⟨j + 1, by omega, by omega, by go_num, HbE2⟩
                  case measure => simp [RowKit.intOf]; omega
              · obtain rfl : j = 4 := by omega
                have j2 : ¬ ((4 : Nat) : Int) < 4 := by omega
                have c0 := HSC.out 0 (by omega) wr HbE.out
                have HOpW := Lib.hid (HOp.out 0 (by omega) wr HbE.out)
                go_wp2_with fail
                refine HOpW.out.mono ?_
                rintro e w4 ⟨A1, n1, c1, rfl, hs1, hb4⟩
                have HB4 := Lib.hid (bel2 HbE.out hb4)
                obtain ⟨G, hG1, hG2⟩ := join_self HD.out.2.1 HD.out.2.2.1 (by have := HD.out.2.2.2; omega)
                have HRo := Lib.hid (replicaOf_any ea 3 K0 A1 n1 c1 w4 (HD.out.1.below HB4.out) f2 f3 f4 f5 f6 f7 f8 f9 (by omega) (by omega) hs1 (by have := HD.out.2.2.2; omega) HD.out.2.1.wf)
                rw [hG1] at HRo
                have HG2 := Lib.hid hG2
                clear hG1 hG2 hs1 hb4 HOpW c0
                go_wp2_with fail
                refine HRo.out.mono ?_
                rintro e w5 ⟨colx, RBx, rfl, hRx, hb5⟩
                rw [HG2.out] at hRx
                have HB5 := Lib.hid (bel2 HB4.out hb5)
                have HStA : Hid (∀ B, B = RBx ∨ B = RBs 0 → ∀ w', Below w5.heap.size w5 w' → Calls Tryz.prog 18 #[.pointer (some ⟨B, 0, none⟩)] w' fun e w'' => e = .returned (.string (stF K0)) ∧ Below w'.heap.size w' w'') := Lib.hid (by
                  rintro B (rfl | rfl) w' hb
                  · refine (state_any ea colx _ 3 K0 w' (hRx.below hb) (HD.out.1.below (bel2 HB5.out hb)) f21 HD.out.2.1 (by have := HD.out.2.2.2; omega)).mono ?_
                    rintro e w'' ⟨str, rfl, hso, hbl⟩
                    exact ⟨by rw [HstF.out _ _ HD.out.2.1 hso], hbl⟩
                  · exact HSt.out 0 (by omega) w' (bel2 HB5.out hb))
                have HSC5 : Hid (∀ w', Below w5.heap.size w5 w' → Below w5.heap.size w5 w' ∧ w'.cell? ⟨g, 0, none⟩ = some (.pointer (some ⟨RBs 0, 0, none⟩))) := Lib.hid fun w' hb => ⟨hb, HSC.out 0 (by omega) w' (bel2 HB5.out hb)⟩
                clear hRx hb5 HRo HSt HVc HOp HSC
                unfold ptrV
                go_upto_region 34 with (fail)
                go_region_held_law (fun w' => Below w5.heap.size w5 w' ∧ w'.cell? ⟨g, 0, none⟩ = some (.pointer (some ⟨RBs 0, 0, none⟩))) (exact HSC5.out _ (by go_grown))
                  ((go_at_call 18; refine (HStA.out _ (by first | exact Or.inl rfl | exact Or.inr rfl) _ (by go_grown)).mono ?_; rintro e wA ⟨rfl, hbA⟩; have hA := bel2 (w0 := w5) (by go_grown) hbA; have sA := hA.size))
                all_goals
                  rename_i hH
                  clear hH
                  go_wp2_with fail
                  go_ret
                  exact ⟨rfl, bel2 HBw.out (bel2 HB5.out (by assumption))⟩
end Go.Proofs.YtjekalilfhnpmaaGreatDoor
