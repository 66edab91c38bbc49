/- The library's stable sort, whole: the walk. -/
import Derived.Test.YthlojjknpfijmaaDoorStbG
import Derived.Test.YthlojjknpfijmaaDoorSortQ
namespace Go.Proofs.YthlojjknpfijmaaDoor
open Go Go.RowKit Go.Shelf Go.Lib Go.Sort Stb
set_option linter.unusedVariables false
set_option linter.unusedSimpArgs false
set_option maxHeartbeats 4000000
set_option maxRecDepth 1000000

namespace Stb
variable {α : Type} [Inhabited α] {lt : α → α → Bool} {tag : α → Nat}
theorem Dis.of_ear {d : Array α} (h : ∀ p q, p < q → q < d.size → Ear tag d[p]! d[q]!) : Dis tag d := by
  unfold Dis
  rw [List.nodup_iff_pairwise_ne, List.pairwise_map, List.pairwise_iff_getElem]
  intro i j hi hj hij
  have := h i j hij (by simpa using hj)
  unfold Ear at this
  simp at hi hj
  simp [getElem!_pos, hi, hj] at this ⊢
  omega
/-- what the first loop has done at a -/
structure Ins1 (lt : α → α → Bool) (tag : α → Nat) (d0 : Array α) (a : Nat) (d : Array α) : Prop where
  dv : 20 ∣ a
  le : a ≤ d0.size
  beh : Behind (TL lt tag) (Ear tag) 20 a d
  cut : ∀ x, 20 ∣ x → Cut (Ear tag) d x
  ear : ∀ p q, a ≤ p → p < q → q < d0.size → Ear tag d[p]! d[q]!
  dis : Dis tag d
  perm : PermIn 0 d0.size d0 d
theorem Ins1.start (d0 : Array α) (h : ∀ p q, p < q → q < d0.size → Ear tag d0[p]! d0[q]!) : Ins1 lt tag d0 0 d0 :=
  ⟨⟨0, rfl⟩, by omega, Behind.none _ _ _ _, fun x _ i j h1 h2 h3 => h i j (by omega) h3, fun p q _ h2 h3 => h p q h2 h3, Dis.of_ear h, permIn_refl _ _ _⟩
theorem Ins1.step {d0 d : Array α} {a : Nat} (h : Ins1 lt tag d0 a d) (hS : SWO lt) (ha : a + 20 ≤ d0.size) : Ins1 lt tag d0 (a + 20) (insertionSort lt d a (a + 20)) := by
  have hz := h.perm.1
  have hi := insertion_stable (tag := tag) hS d a (a + 20) (by omega) (by omega) h.dis (fun p q h1 h2 h3 => h.ear p q h1 h2 (by omega))
  have e : min (a + 20) d.size = a + 20 := Nat.min_eq_left (by omega)
  refine ⟨Nat.dvd_add h.dv ⟨1, rfl⟩, ha, h.beh.add (by omega) h.dv (h.cut a h.dv) (by rw [e]; exact hi.1) (by rw [e]; exact hi.2), fun x hx => (h.cut x hx).perm (by omega) hi.1 ?_, fun p q h1 h2 h3 => ?_, h.dis.perm (by omega) hi.1, permIn_trans d0 d _ _ _ h.perm (permIn_mono d _ a (a + 20) 0 d0.size (by omega) (by omega) (by omega) hi.1)⟩
  · by_cases hc : x ≤ a
    · exact .inl hc
    · exact .inr (dvd_apart h.dv hx (by omega))
  · rw [hi.1.2.1 p (.inr h1), hi.1.2.1 q (.inr (by omega))]
    exact h.ear p q (by omega) h2 h3
theorem Ins1.last {d0 d : Array α} {a : Nat} (h : Ins1 lt tag d0 a d) (hS : SWO lt) (ha : d0.size < a + 20) : PermIn 0 d0.size d0 (insertionSort lt d a d0.size) ∧ Behind (TL lt tag) (Ear tag) 20 d0.size (insertionSort lt d a d0.size) := by
  have hz := h.perm.1
  have hi := insertion_stable (tag := tag) hS d a d0.size h.le (by omega) h.dis (fun p q h1 h2 h3 => h.ear p q h1 h2 h3)
  have e : min (a + 20) d.size = d0.size := by rw [Nat.min_eq_right (by omega)]; exact hz
  have hb := h.beh.add (by omega) h.dv (h.cut a h.dv) (by rw [e]; exact hi.1) (by rw [e]; exact hi.2)
  have hb2 := hb.all (by rw [hi.1.1]; omega)
  rw [hi.1.1, hz] at hb2
  exact ⟨permIn_trans d0 d _ _ _ h.perm (permIn_mono d _ a d0.size 0 d0.size (by omega) (by omega) (by omega) hi.1), hb2⟩
/-- what a round of the second loop has done at a -/
structure Mid (tl E : α → α → Prop) (d0 : Array α) (s a : Nat) (d : Array α) : Prop where
  dv : 2 * s ∣ a
  le : a ≤ d0.size
  beh : Behind tl E (2 * s) a d
  ahd : Ahead tl E s a d
  perm : PermIn 0 d0.size d0 d
variable {tl E : α → α → Prop}
theorem Mid.start {d0 d : Array α} {s : Nat} (h : Behind tl E s d0.size d) (hP : PermIn 0 d0.size d0 d) : Mid tl E d0 s 0 d :=
  ⟨⟨0, rfl⟩, by omega, Behind.none _ _ _ _, (by rw [← hP.1] at h; exact h.ahead), hP⟩
theorem Mid.half {d0 d : Array α} {s a : Nat} (h : Mid tl E d0 s a d) : s ∣ a := Nat.dvd_trans ⟨2, by omega⟩ h.dv
theorem Mid.mrg {d0 d : Array α} {s a : Nat} (h : Mid tl E d0 s a d) (hs : 0 < s) (hb : a + 2 * s ≤ d0.size) : Mrg tl E d a (a + s) (a + 2 * s) := by
  have hz := h.perm.1
  have := h.ahd.mrg hs h.half (by omega)
  rwa [Nat.min_eq_left (by omega), show a + s + s = a + 2 * s by omega] at this
theorem Mid.mrg2 {d0 d : Array α} {s a : Nat} (h : Mid tl E d0 s a d) (hs : 0 < s) (hb : d0.size < a + 2 * s) (hm : a + s < d0.size) : Mrg tl E d a (a + s) d0.size := by
  have hz := h.perm.1
  have := h.ahd.mrg hs h.half (by omega)
  rwa [Nat.min_eq_right (by omega), hz] at this
theorem Mid.step {d0 d d' : Array α} {s a : Nat} (h : Mid tl E d0 s a d) (hs : 0 < s) (hb : a + 2 * s ≤ d0.size) (hP : PermIn a (a + 2 * s) d d') (hT : Srt tl a (a + 2 * s) d') : Mid tl E d0 s (a + 2 * s) d' := by
  have hz := h.perm.1
  have e : min (a + 2 * s) d.size = a + 2 * s := Nat.min_eq_left (by omega)
  exact ⟨Nat.dvd_add h.dv (Nat.dvd_refl _), hb, h.beh.add (by omega) h.dv (h.ahd.cut h.half (by omega)) (by rw [e]; exact hP) (by rw [e]; exact hT), h.ahd.skip (by omega) (by rw [e]; exact hP), permIn_trans d0 d _ _ _ h.perm (permIn_mono d _ a (a + 2 * s) 0 d0.size (by omega) (by omega) (by omega) hP)⟩
theorem Mid.last {d0 d d' : Array α} {s a : Nat} (h : Mid tl E d0 s a d) (hs : 0 < s) (hb : d0.size < a + 2 * s) (hm : a + s < d0.size) (hP : PermIn a d0.size d d') (hT : Srt tl a d0.size d') : PermIn 0 d0.size d0 d' ∧ Behind tl E (2 * s) d0.size d' := by
  have hz := h.perm.1
  have e : min (a + 2 * s) d.size = d0.size := by rw [Nat.min_eq_right (by omega)]; exact hz
  have hb2 := (h.beh.add (by omega) h.dv (h.ahd.cut h.half (by omega)) (by rw [e]; exact hP) (by rw [e]; exact hT)).all (by rw [hP.1]; omega)
  rw [hP.1, hz] at hb2
  exact ⟨permIn_trans d0 d _ _ _ h.perm (permIn_mono d _ a d0.size 0 d0.size (by omega) (by omega) (by omega) hP), hb2⟩
theorem Mid.done {d0 d : Array α} {s a : Nat} (h : Mid tl E d0 s a d) (hs : 0 < s) (hm : d0.size ≤ a + s) : PermIn 0 d0.size d0 d ∧ Behind tl E (2 * s) d0.size d := by
  have hz := h.perm.1
  have := h.beh.last h.ahd hs h.dv (by omega)
  rw [hz] at this
  exact ⟨h.perm, this⟩
end Stb

variable {P : Program} {k : Nat} {α : Type} [Inhabited α] {enc : α → List Value}
theorem ins_any (L : StbL P k) (cf : α → α → Int) (hS : SWO (ltOf cf)) (g : Nat) (cb : Array Value) (blk off cap a b : Nat) (d0 d : Array α) (w0 W : World) (R : RowK enc k w0 blk off d0) (eg : ∀ args w, (callFunc g args).run P w = .ok (.enter g args) w) (hC : CmpLays P g cb enc k cf blk off d0.size w0)
    (hs : d.size = d0.size) (h : SWK enc k w0 blk off d W) (hab : a ≤ b) (hb : b ≤ d.size) (hsz : d.size ≤ 100000) :
    Calls P 144 #[.slice (some ⟨blk, off, none⟩) d.size cap, .int .i64 a, .int .i64 b, .func (.func g) #[] cb] W fun e w' => e = .returned (.tuple #[]) ∧ SWK enc k w0 blk off (insertionSort (ltOf cf) d a b) w' := by
  have hC2 : CmpLays P g cb enc k cf blk off d.size W := fun m os dk hk x y => by
    obtain ⟨m', os', e⟩ := h.on R.hblk m dk os hk
    rw [e]
    exact hC m' os' dk (by omega) x y
  refine (AnyQ.insertionSortCmpFunc L.ins k L.aE L.zE enc R.hk R.h1 cf g cb blk off cap a b d W eg hC2 (h.holds R.hblk R.hH hs) (h.lt R.hblk) hab hb (by omega)).mono ?_
  rintro e w' ⟨rfl, n, os, rfl⟩
  exact ⟨rfl, h.on R.hblk n _ os (insertionSort_holds hS d a b hab hb).1.1⟩

theorem stable_any (L : StbL P k) (cf : α → α → Int) (hS : SWO (ltOf cf)) (tag : α → Nat) (g : Nat) (cb : Array Value) (blk off cap : Nat) (d0 : Array α) (w0 : World) (R : RowK enc k w0 blk off d0) (eg : ∀ args w, (callFunc g args).run P w = .ok (.enter g args) w) (hC : CmpLays P g cb enc k cf blk off d0.size w0)
    (hsz : d0.size ≤ 100000) (hE : ∀ p q, p < q → q < d0.size → Ear tag d0[p]! d0[q]!) :
    Calls P 110 #[.slice (some ⟨blk, off, none⟩) d0.size cap, .int .i64 d0.size, .func (.func g) #[] cb] w0 fun e w' => e = .returned (.tuple #[]) ∧ ∃ d', PermIn 0 d0.size d0 d' ∧ Srt (TL (ltOf cf) tag) 0 d0.size d' ∧ SWK enc k w0 blk off d' w' := by
  have mixed := L.mixed; have t0 := L.t0; have a0 := L.a0; have z0 := L.z0; have v0 := L.v0; have t3 := L.t3; have a3 := L.a3; have z3 := L.z3; have v3 := L.v3; have t4 := L.t4; have a4 := L.a4; have z4 := L.z4; have v4 := L.v4; have ts := L.ts; have asl := L.asl; have zs := L.zs; have vs := L.vs; have tc := L.tc; have ac := L.ac; have zc := L.zc; have vc := L.vc
  obtain ⟨z, hz⟩ : ∃ z, z = d0.size := ⟨_, rfl⟩
  rw [← hz] at hsz ⊢
  have HZ := Lib.hid hz
  have O : Ord (ltOf cf) (TL (ltOf cf) tag) (Ear tag) := ⟨fun x y z h1 h2 => (swo_tlb hS).trans x y z h1 h2, fun x y _ h => TL.of_lt h, fun x y h1 h2 => TL.of_ear h1 h2⟩
  have HIns : Hid (∀ (dk : Array α) (wr : World) (a b : Nat), dk.size = z → SWK enc k w0 blk off dk wr → a ≤ b → b ≤ z → Calls P 144 #[.slice (some ⟨blk, off, none⟩) z cap, .int .i64 a, .int .i64 b, .func (.func g) #[] cb] wr fun e w' => e = .returned (.tuple #[]) ∧ SWK enc k w0 blk off (insertionSort (ltOf cf) dk a b) w') :=
    Lib.hid fun dk wr a b h1 h2 h3 h4 => by
      have := ins_any L cf hS g cb blk off cap a b d0 dk w0 wr R eg hC (by omega) h2 h3 (by omega) (by omega)
      rw [h1] at this
      exact this
  have HSm : Hid (∀ (dk : Array α) (wr : World) (a m b : Nat), dk.size = z → SWK enc k w0 blk off dk wr → a < m → m < b → b ≤ z → Mrg (TL (ltOf cf) tag) (Ear tag) dk a m b → Calls P 145 #[.slice (some ⟨blk, off, none⟩) z cap, .int .i64 a, .int .i64 m, .int .i64 b, .func (.func g) #[] cb] wr (SMPost (TL (ltOf cf) tag) enc k w0 blk off a b dk)) :=
    Lib.hid fun dk wr a m b h1 h2 h3 h4 h5 h6 => by
      have := symMerge_any L cf _ _ O g cb blk off cap d0 w0 R eg hC _ a m b dk wr (Nat.le_refl _) (by omega) h2 h3 h4 (by omega) (by omega) h6
      rw [h1] at this
      exact this
  have HI0 := Lib.hid (Ins1.start (lt := ltOf cf) d0 hE)
  have S0 : Hid (SWK enc k w0 blk off d0 w0) := Lib.hid (SWK.start R.hH)
  have HS := Lib.hid hS
  have ein : ∀ args w, (callFunc 144 args).run P w = .ok (.enter 144 args) w := L.ins.f20.enters rfl
  have esm : ∀ args w, (callFunc 145 args).run P w = .ok (.enter 145 args) w := enters_of L.fsm (by kernel_rfl) rfl
  clear hz O hE hC R hS
  go_enter L.fst, Tryd.ntmps110
  go_wp2_with fail
  go_loopw [7, 8] (fun v7 v8 wr => ∃ (a : Nat) (dk : Array α), v7 = .int .i64 a ∧ v8 = .int .i64 ((a + 20 : Nat) : Int) ∧ a ≤ z ∧ Hid (Ins1 (ltOf cf) tag d0 a dk) ∧ Hid (SWK enc k w0 blk off dk wr)) (fun v7 _ _ => z - (intOf v7).toNat)
  case atStart => exact ⟨0, d0, rfl, rfl, by omega, HI0, S0⟩
  case round =>
    clear S0 HI0
    obtain ⟨a, dk, rfl, rfl, haz, HI, S1⟩ := hrel
    have hdk : dk.size = z := by have := HI.out.perm.1; have := HZ.out; omega
    by_cases hlt : a + 20 ≤ z
    · have i1 : ((a + 20 : Nat) : Int) ≤ (z : Int) := by omega
      have HCon := Lib.hid (HIns.out dk wr a (a + 20) hdk S1.out (by omega) hlt)
      have HI2 := Lib.hid (HI.out.step HS.out (by have := HZ.out; omega))
      clear HI S1 hdk
      go_wp2_with fail
      refine HCon.out.mono ?_
      rintro e w1 ⟨rfl, hS⟩
      have S2 := Lib.hid hS
      clear hS HCon
      go_wp2_with fail
      go_roundw
      case rel => exact ⟨a + 20, _, rfl, by go_num, hlt, HI2, S2⟩
      case measure => simp [intOf]; omega
    · have i1 : ¬ ((a + 20 : Nat) : Int) ≤ (z : Int) := by omega
      have HCon := Lib.hid (HIns.out dk wr a z hdk S1.out (by omega) (Nat.le_refl _))
      have hI2 := HI.out.last HS.out (by have := HZ.out; omega)
      rw [← HZ.out] at hI2
      have HP2 := Lib.hid hI2.1
      have HB2 := Lib.hid hI2.2
      clear HI S1 hdk hI2
      go_wp2_with fail
      refine HCon.out.mono ?_
      rintro e w1 ⟨rfl, hS⟩
      have S2 := Lib.hid hS
      clear hS HCon
      go_wp2_with fail
      go_loopw [6] (fun v6 wr => ∃ (s : Nat) (dk : Array α), v6 = .int .i64 s ∧ 0 < s ∧ s ≤ 200000 ∧ Hid (PermIn 0 z d0 dk) ∧ Hid (Behind (TL (ltOf cf) tag) (Ear tag) s z dk) ∧ Hid (SWK enc k w0 blk off dk wr)) (fun v6 _ => z - (intOf v6).toNat)
      case atStart => exact ⟨20, _, rfl, by omega, by omega, HP2, HB2, S2⟩
      case round =>
        clear S2 HB2 HP2
        obtain ⟨s, dk, rfl, hs0, hs1, HP, HB, S3⟩ := hrel
        by_cases hlt2 : s < z
        · have i2 : (s : Int) < (z : Int) := by omega
          have hM0 : Mid (TL (ltOf cf) tag) (Ear tag) d0 s 0 dk := Mid.start (by rw [← HZ.out]; exact HB.out) (by rw [← HZ.out]; exact HP.out)
          have HM0 := Lib.hid hM0
          clear hM0 HP HB
          go_wp2_with fail
          go_loopw [7, 8] (fun v7 v8 wr => ∃ (a : Nat) (dk : Array α), v7 = .int .i64 a ∧ v8 = .int .i64 ((a + 2 * s : Nat) : Int) ∧ a ≤ z ∧ Hid (Mid (TL (ltOf cf) tag) (Ear tag) d0 s a dk) ∧ Hid (SWK enc k w0 blk off dk wr)) (fun v7 _ _ => z - (intOf v7).toNat)
          case atStart => exact ⟨0, dk, rfl, by go_num, by omega, HM0, S3⟩
          case round =>
            clear S3 HM0
            obtain ⟨a, dk, rfl, rfl, haz, HM, S4⟩ := hrel
            have hdk : dk.size = z := by have := HM.out.perm.1; have := HZ.out; omega
            by_cases hlt3 : a + 2 * s ≤ z
            · have i3 : ((a + 2 * s : Nat) : Int) ≤ (z : Int) := by omega
              have hcon := HSm.out dk wr a (a + s) (a + 2 * s) hdk S4.out (by omega) (by omega) hlt3 (HM.out.mrg hs0 (by have := HZ.out; omega))
              have i4 : ((a : Int) + (s : Int)) = ((a + s : Nat) : Int) := by omega
              rw [← i4] at hcon
              have HCon3 := Lib.hid hcon
              clear hcon i4 hdk
              go_wp2_with fail
              refine HCon3.out.mono ?_
              rintro e w1 ⟨rfl, d', hp, ht, hS⟩
              have HM2 := Lib.hid (HM.out.step hs0 (by have := HZ.out; omega) hp ht)
              have S5 := Lib.hid hS
              clear hS hp ht HCon3 HM S4
              go_wp2_with fail
              go_roundw
              case rel => exact ⟨a + 2 * s, d', rfl, by go_num, hlt3, HM2, S5⟩
              case measure => simp [intOf]; omega
            · have i3 : ¬ ((a + 2 * s : Nat) : Int) ≤ (z : Int) := by omega
              by_cases hlt4 : a + s < z
              · have i4 : (a : Int) + (s : Int) < (z : Int) := by omega
                have hcon := HSm.out dk wr a (a + s) z hdk S4.out (by omega) (by omega) (Nat.le_refl _) (by have := HM.out.mrg2 hs0 (by have := HZ.out; omega) (by have := HZ.out; omega); rw [← HZ.out] at this; exact this)
                have i5 : ((a : Int) + (s : Int)) = ((a + s : Nat) : Int) := by omega
                rw [← i5] at hcon
                have HCon3 := Lib.hid hcon
                clear hcon i5 hdk
                go_wp2_with fail
                refine HCon3.out.mono ?_
                rintro e w1 ⟨rfl, d', hp, ht, hS⟩
                have hM2 := HM.out.last hs0 (by have := HZ.out; omega) (by have := HZ.out; omega) (by rw [← HZ.out]; exact hp) (by rw [← HZ.out]; exact ht)
                rw [← HZ.out] at hM2
                have HP5 := Lib.hid hM2.1
                have HB5 := Lib.hid hM2.2
                have S5 := Lib.hid hS
                clear hS hp ht HCon3 HM S4 hM2
                go_wp2_with fail
                go_roundw
                case rel => exact ⟨2 * s, d', by go_num, by omega, by omega, HP5, HB5, S5⟩
                case measure => simp [intOf]; omega
              · have i4 : ¬ (a : Int) + (s : Int) < (z : Int) := by omega
                have hM2 := HM.out.done hs0 (by have := HZ.out; omega)
                rw [← HZ.out] at hM2
                have HP5 := Lib.hid hM2.1
                have HB5 := Lib.hid hM2.2
                clear HM hM2 hdk
                go_wp2_with fail
                go_roundw
                case rel => exact ⟨2 * s, dk, by go_num, by omega, by omega, HP5, HB5, S4⟩
                case measure => simp [intOf]; omega
        · have i2 : ¬ (s : Int) < (z : Int) := by omega
          go_wp2_with fail
          go_end0
          have hz2 : dk.size = z := by have := HP.out.1; have := HZ.out; omega
          have hB := HB.out
          rw [← hz2] at hB
          have hW := hB.whole (by omega)
          rw [hz2] at hW
          exact ⟨rfl, dk, HP.out, hW, S3.out⟩
end Go.Proofs.YthlojjknpfijmaaDoor
