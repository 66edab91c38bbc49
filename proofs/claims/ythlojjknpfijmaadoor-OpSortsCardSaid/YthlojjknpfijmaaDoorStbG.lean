/- The library's stable sort: two runs merged, the general case: the walk. -/
import Derived.Test.YthlojjknpfijmaaDoorStbT
namespace Go.Proofs.YthlojjknpfijmaaDoor
open Go Go.RowKit Go.Shelf Go.Lib Go.Sort Stb
set_option linter.unusedVariables false
set_option linter.unusedSimpArgs false
set_option maxHeartbeats 4000000
set_option maxRecDepth 1000000
variable {P : Program} {k : Nat} {α : Type} [Inhabited α] {enc : α → List Value}

theorem symMerge_gen (L : StbL P k) (cf : α → α → Int) (tl E : α → α → Prop) (O : Ord (ltOf cf) tl E) (g : Nat) (cb : Array Value) (blk off cap a m b : Nat) (d0 d : Array α) (w0 W : World) (R : RowK enc k w0 blk off d0) (eg : ∀ args w, (callFunc g args).run P w = .ok (.enter g args) w) (hC : CmpLays P g cb enc k cf blk off d0.size w0)
    (hs : d.size = d0.size) (h : SWK enc k w0 blk off d W) (N : Nat) (IH : ∀ (a m b : Nat) (dk : Array α) (wr : World), b - a ≤ N → dk.size = d0.size → SWK enc k w0 blk off dk wr → a < m → m < b → b ≤ dk.size → dk.size ≤ 100000 → Mrg tl E dk a m b →
      Calls P 145 #[.slice (some ⟨blk, off, none⟩) dk.size cap, .int .i64 a, .int .i64 m, .int .i64 b, .func (.func g) #[] cb] wr (SMPost tl enc k w0 blk off a b dk))
    (hN : b - a ≤ N + 1) (ham : a + 1 < m) (hmb : m + 1 < b) (hb : b ≤ d.size) (hsz : d.size ≤ 100000) (hM : Mrg tl E d a m b) :
    Calls P 145 #[.slice (some ⟨blk, off, none⟩) d.size cap, .int .i64 a, .int .i64 m, .int .i64 b, .func (.func g) #[] cb] W (SMPost tl enc k w0 blk off a b d) := by
  have mixed := L.mixed; have t0 := L.t0; have a0 := L.a0; have z0 := L.z0; have v0 := L.v0; have t3 := L.t3; have a3 := L.a3; have z3 := L.z3; have v3 := L.v3; have t4 := L.t4; have a4 := L.a4; have z4 := L.z4; have v4 := L.v4; have ts := L.ts; have asl := L.asl; have zs := L.zs; have vs := L.vs; have tc := L.tc; have ac := L.ac; have zc := L.zc; have vc := L.vc; have tu := L.tu; have au := L.au; have zu := L.zu; have vu := L.vu; have aE := L.aE; have zE := L.zE
  obtain ⟨z, hz⟩ : ∃ z, z = d.size := ⟨_, rfl⟩
  rw [← hz] at hb hsz ⊢
  have HZ := Lib.hid hz
  have HZ0 := Lib.hid hs
  have HZ1 : Hid (z = d0.size) := Lib.hid (by rw [hz]; exact hs)
  have S0 := Lib.hid h
  have HR : Aside (RowK enc k w0 blk off d0) := R
  have HC : Aside (CmpLays P g cb enc k cf blk off d0.size w0) := hC
  have HM := Lib.hid hM
  have HO := Lib.hid O
  have HRo : Hid (∀ (dk : Array α) (wr : World) (s e : Nat), dk.size = z → SWK enc k w0 blk off dk wr → s < m → m < e → e ≤ z → Calls P 170 #[.slice (some ⟨blk, off, none⟩) z cap, .int .i64 s, .int .i64 m, .int .i64 e, .func (.func g) #[] cb] wr fun e' w' => e' = .returned (.tuple #[]) ∧ ∃ d', Rotated dk d' s m e ∧ PermIn s e dk d' ∧ SWK enc k w0 blk off d' w') :=
    Lib.hid fun dk wr s e h1 h2 h3 h4 h5 => by
      have := rotate_any L blk off cap s m e d0 dk w0 wr R (by omega) h2 h3 h4 (by omega) (by omega) (.func (.func g) #[] cb)
      rw [h1] at this
      exact this
  have HIH : Hid (∀ (a' m' b' : Nat) (dk : Array α) (wr : World), b' - a' ≤ N → dk.size = z → SWK enc k w0 blk off dk wr → a' < m' → m' < b' → b' ≤ z → Mrg tl E dk a' m' b' →
      Calls P 145 #[.slice (some ⟨blk, off, none⟩) z cap, .int .i64 a', .int .i64 m', .int .i64 b', .func (.func g) #[] cb] wr (SMPost tl enc k w0 blk off a' b' dk)) :=
    Lib.hid fun a' m' b' dk wr h1 h2 h3 h4 h5 h6 h7 => by
      have := IH a' m' b' dk wr h1 (by omega) h3 h4 h5 (by omega) (by omega) h7
      rw [h2] at this
      exact this
  have ero : ∀ args w, (callFunc 170 args).run P w = .ok (.enter 170 args) w := enters_of L.fro (by kernel_rfl) rfl
  have esm : ∀ args w, (callFunc 145 args).run P w = .ok (.enter 145 args) w := enters_of L.fsm (by kernel_rfl) rfl
  clear h hz hs R hC hM O IH
  have q1 : (((m : Int) - (a : Int)) == 1) = false := by simp; omega
  have q1' : (((b : Int) - (m : Int)) == 1) = false := by simp; omega
  have ab0 : a + 1 < m := ham
  clear ham
  obtain ⟨mid, hmid⟩ : ∃ mid, mid = (a + b) / 2 := ⟨_, rfl⟩
  have em : ((a : Int) + (b : Int)) / 2 = (mid : Int) := by omega
  have EM := Lib.hid em
  have HMID := Lib.hid hmid
  have mid1 : a < mid := by omega
  have mid2 : mid < b := by omega
  clear hmid em
  go_enter L.fsm, Tryd.ntmps145
  go_upto_region 25 with (fail)
  rw [EM.out]
  clear EM
  go_upto_if 140 with (fail)
  go_cut [20, 21] (fun v20 v21 wc => ∃ s0 r0 : Nat, v20 = .int .i64 s0 ∧ v21 = .int .i64 r0 ∧ Hid (Sr a m b mid s0 r0) ∧ W = wc)
  case first =>
    by_cases hlt : mid < m
    · have i1 : (mid : Int) < (m : Int) := by omega
      have e1 : (mid : Int) + (m : Int) - (b : Int) = ((mid + m - b : Nat) : Int) := by have := HMID.out; omega
      have E1 := Lib.hid e1
      clear e1
      go_wp2_with fail
      go_meet
      case rel => exact ⟨mid + m - b, mid, by rw [E1.out], rfl, Lib.hid ⟨by omega, by omega, HMID.out, .inl ⟨hlt, rfl, rfl⟩⟩, rfl⟩
    · have i1 : ¬ (mid : Int) < (m : Int) := by omega
      go_wp2_with fail
      go_meet
      case rel => exact ⟨a, m, rfl, rfl, Lib.hid ⟨by omega, by omega, HMID.out, .inr ⟨by omega, rfl, rfl⟩⟩, rfl⟩
  case rest =>
    obtain ⟨s0, r0, rfl, rfl, HSr, rfl⟩ := hcut
    go_upto_region 33 with (fail)
    obtain ⟨p, hp⟩ : ∃ p, p = mid + m - 1 := ⟨_, rfl⟩
    rw [show (mid : Int) + (m : Int) - 1 = (p : Int) by omega]
    have HPE := Lib.hid hp
    have hp2 : p + 1 = mid + m := by omega
    clear hp
    have hs0 := HSr.out.bounds.2.1
    have hr0 := HSr.out.bounds.2.2.1
    go_loopw [20, 21] (fun v20 v21 wr => ∃ s r : Nat, v20 = .int .i64 s ∧ v21 = .int .i64 r ∧ s0 ≤ s ∧ s ≤ r ∧ r ≤ r0 ∧ Hid (Bin2 tl d s0 r0 (mid + m - 1) s r) ∧ Hid (SWK enc k w0 blk off d wr)) (fun v20 v21 _ => (intOf v21).toNat - (intOf v20).toNat)
    case atStart => exact ⟨s0, r0, rfl, rfl, Nat.le_refl _, hs0, Nat.le_refl _, Lib.hid (Bin2.start tl d s0 r0 _), S0⟩
    case round =>
      clear S0
      obtain ⟨s, r, rfl, rfl, hs1, hsr, hr1, HB, S1⟩ := hrel
      by_cases hlt : s < r
      · have i1 : (s : Int) < (r : Int) := by omega
        go_upto_region 35 with (fail)
        obtain ⟨c, hh⟩ : ∃ c : Nat, c = (s + r) / 2 := ⟨_, rfl⟩
        rw [show ((s : Int) + (r : Int)) / 2 = (c : Int) by omega]
        have h1 : s ≤ c := by omega
        have h2 : c < r := by omega
        have hB := HSr.out.bounds.2.2.2 c (by omega) (by omega)
        have hpe := HPE.out
        have hBb := HSr.out.bounds
        have b0 : (0 : Int) ≤ (c : Int) := by omega
        have b1 : (c : Int) < (z : Int) := by omega
        have b2 : (0 : Int) ≤ (p : Int) - (c : Int) := by omega
        have b3 : (p : Int) - (c : Int) < (z : Int) := by omega
        have b4 : IntKind.i64.wrap ((p : Int) - (c : Int)) = (p : Int) - (c : Int) := by rw [IntKind.wrap_i64]; omega
        have b5 : ((p : Int) - (c : Int)).toNat = p - c := by omega
        have b6 : (c : Int) ≤ (p : Int) := by omega
        have hpc : p - c < z := by omega
        have hmc : m ≤ p - c ∧ p - c < b := by omega
        have hcm : a ≤ c ∧ c < m := by omega
        clear hh hB hpe hBb
        obtain ⟨vx, hvx⟩ : ∃ x, d[p - c]! = x := ⟨_, rfl⟩
        obtain ⟨vy, hvy⟩ : ∃ x, d[c]! = x := ⟨_, rfl⟩
        have lx := S1.out.ld HR.out HZ0.out P (p - c) (by have := HZ.out; omega)
        have ly := S1.out.ld HR.out HZ0.out P (c) (by have := HZ.out; omega)
        rw [hvx] at lx
        rw [hvy] at ly
        have hcg := S1.out.cmp HC.out HZ0.out vx vy
        have CLS : Hid (∀ n os, SWK enc k w0 blk off d (grow (wr.drewN n) os)) := Lib.hid (fun n os => S1.out.grown n os)
        have HVX := Lib.hid hvx
        have HVY := Lib.hid hvy
        clear hvx hvy
        by_cases hlv : cf vx vy < 0
        · have HLT : Hid (ltOf cf d[p - c]! d[c]! = true) := Lib.hid (by rw [HVX.out, HVY.out]; exact decide_eq_true hlv)
          have hld : decide (cf vx vy < 0) = true := decide_eq_true hlv
          clear S1
          go_wp2_with fail
          go_quiet_grown (first | (go_at_fn g; refine Calls.grown_of (hcg _ _)))
          have S2 : Hid (SWK enc k w0 blk off d (grow (wr.drewN nq) osq)) := Lib.hid (CLS.out nq osq)
          clear lx ly hcg CLS HVX HVY
          generalize grow (wr.drewN nq) osq = wt at S2 ⊢
          have HB2 := Lib.hid (HB.out.down HO.out.trans HSr.out HM.out (c := c) (by omega) (by omega) (by rw [← HPE.out]; exact HO.out.yes _ _ (HM.out.e c (p - c) hcm.1 hcm.2 hmc.1 hmc.2) HLT.out))
          clear b4 b5 b6
          go_wp2_with fail
          go_roundw
          case rel => exact ⟨s, c, rfl, rfl, by omega, by omega, by omega, HB2, S2⟩
          case measure => simp [intOf]; omega
        · have HLT : Hid (ltOf cf d[p - c]! d[c]! = false) := Lib.hid (by rw [HVX.out, HVY.out]; exact decide_eq_false hlv)
          have hld : decide (cf vx vy < 0) = false := decide_eq_false hlv
          clear S1
          go_wp2_with fail
          go_quiet_grown (first | (go_at_fn g; refine Calls.grown_of (hcg _ _)))
          have S2 : Hid (SWK enc k w0 blk off d (grow (wr.drewN nq) osq)) := Lib.hid (CLS.out nq osq)
          clear lx ly hcg CLS HVX HVY
          generalize grow (wr.drewN nq) osq = wt at S2 ⊢
          have HB2 := Lib.hid (HB.out.up HO.out.trans HSr.out HM.out (c := c) (by omega) (by omega) (by rw [← HPE.out]; exact HO.out.no _ _ (HM.out.e c (p - c) hcm.1 hcm.2 hmc.1 hmc.2) HLT.out))
          clear b4 b5 b6
          go_wp2_with fail
          go_roundw
          case rel => exact ⟨c + 1, r, by go_num, rfl, by omega, by omega, by omega, HB2, S2⟩
          case measure => simp [intOf]; omega
      · have i1 : ¬ (s : Int) < (r : Int) := by omega
        have hsre : s = r := by omega
        have HT := Lib.hid (fun d1 => Bin2.turn (d1 := d1) (E := E) HO.out.trans HSr.out (by have := HB.out; rw [← hsre] at this; exact this) HM.out hs1 (by omega))
        obtain ⟨e, he⟩ : ∃ e, e = mid + m - s := ⟨_, rfl⟩
        have ht0 := HT.out d
        have ht1 := ht0.1
        have ht2 := ht0.2.1
        have ht3 := ht0.2.2.1
        have ht4 := ht0.2.2.2.1
        have ht5 := ht0.2.2.2.2.1
        have ee : (mid : Int) + (m : Int) - (s : Int) = (e : Int) := by omega
        have EE := Lib.hid ee
        have HEq := Lib.hid he
        have he3 : m ≤ e := by omega
        have he4 : e ≤ b := by omega
        have he5 : s ≤ mid := by omega
        have he6 : mid ≤ e := by omega
        have HPa : Hid (∀ d1, Rotated d d1 s m e → Parts (tl := tl) (E := E) d1 a s mid e b) := Lib.hid fun d1 hr => by
          have h := (HT.out d1).2.2.2.2.2
          rw [← he] at h
          exact h hr
        have hs2 : s ≤ m := ht2
        have has : a ≤ s := ht1
        clear HT he ht0 ht1 ht2 ht3 ht4 ht5 ee HB hsre hr1 hsr
        go_upto_region 39 with (fail)
        rw [EE.out]
        exact tail39 L cf tl E g cb blk off cap a m b mid s e z N d w0 wr _ _ _ _ _ _ _ _ _ _ _ _ _ _ _ _ _ _ _ _ _ _ _ _ _ _ _ _ _ _ _ _ _ _ _ _ _ _ _ _ _ _ _ _ _ _ _ _ _ _ _ _ _ _ _ _ _ _ _ _ _ _ _ _ _ _ _ _ _ _ _ _ _ _ _ _ _ _ _ _ _ _ _ _ _ _ _ _ _ _ _ _ _ _ _ _ _ _ _ _ _ _ _ _ _ _ _ _ _ _ _ _ _ _ _ _ _ _ _ _ _ _ _ _ _ _ _ _ _ _ _ _ _ _ _ _ _ _ _ _ _ _ _ _ _ _ _ _ _ _ _ _ _ _ _ _ _ _ _ _ _ _ _ _ _ _ _ _ _ _ _ _ _ _ _ _ _ _ _ _ _ _ _ _ _ _ _ _ _ _ _ _ _ _ _ _ _ _ _ _ _ _ _ _ _ _ _ _ _ _ _ _ hsz HZ.out.symm hb mid1 mid2 he6 he4 he5 has hs2 he3 hN HIH.out HRo.out HPa.out S1.out _ _ (by assumption) (by assumption)

theorem symMerge_any (L : StbL P k) (cf : α → α → Int) (tl E : α → α → Prop) (O : Ord (ltOf cf) tl E) (g : Nat) (cb : Array Value) (blk off cap : Nat) (d0 : Array α) (w0 : World) (R : RowK enc k w0 blk off d0) (eg : ∀ args w, (callFunc g args).run P w = .ok (.enter g args) w) (hC : CmpLays P g cb enc k cf blk off d0.size w0) :
    ∀ (N a m b : Nat) (d : Array α) (W : World), b - a ≤ N → d.size = d0.size → SWK enc k w0 blk off d W → a < m → m < b → b ≤ d.size → d.size ≤ 100000 → Mrg tl E d a m b →
      Calls P 145 #[.slice (some ⟨blk, off, none⟩) d.size cap, .int .i64 a, .int .i64 m, .int .i64 b, .func (.func g) #[] cb] W (SMPost tl enc k w0 blk off a b d)
  | 0, a, m, b, d, W, hN, _, _, ham, hmb, _, _, _ => by omega
  | N + 1, a, m, b, d, W, hN, hs, h, ham, hmb, hb, hsz, hM => by
    by_cases h1 : m = a + 1
    · exact symMerge_one L cf tl E O g cb blk off cap a m b d0 d w0 W R eg hC hs h h1 hmb hb hsz hM
    · by_cases h2 : b = m + 1
      · exact symMerge_last L cf tl E O g cb blk off cap a m b d0 d w0 W R eg hC hs h (by omega) h2 hb hsz hM
      · exact symMerge_gen L cf tl E O g cb blk off cap a m b d0 d w0 W R eg hC hs h N (symMerge_any L cf tl E O g cb blk off cap d0 w0 R eg hC N) hN (by omega) (by omega) hb hsz hM
end Go.Proofs.YthlojjknpfijmaaDoor
