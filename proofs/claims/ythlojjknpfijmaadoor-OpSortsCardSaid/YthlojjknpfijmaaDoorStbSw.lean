/- The library's stable sort: places changed, a turn. -/
import Derived.Test.YthlojjknpfijmaaDoorStbL
namespace Go.Proofs.YthlojjknpfijmaaDoor
open Go Go.RowKit Go.Shelf Go.Lib Go.Sort Stb
set_option linter.unusedVariables false
set_option linter.unusedSimpArgs false
set_option maxHeartbeats 4000000
set_option maxRecDepth 1000000
variable {P : Program} {k : Nat} {α : Type} [Inhabited α] {enc : α → List Value}

theorem swapRange_any (L : StbL P k) (blk off cap a b n : Nat) (d0 d : Array α) (w0 W : World) (R : RowK enc k w0 blk off d0) (hs : d.size = d0.size) (h : SWK enc k w0 blk off d W) (hab : a + n ≤ b) (hb : b + n ≤ d.size) (hsz : d.size ≤ 100000) (cv : Value) :
    Calls P 194 #[.slice (some ⟨blk, off, none⟩) d.size cap, .int .i64 a, .int .i64 b, .int .i64 n, cv] W fun e w' => e = .returned (.tuple #[]) ∧ ∃ d', Swapped d d' a b n ∧ PermIn a (b + n) d d' ∧ SWK enc k w0 blk off d' w' := by
  have mixed := L.mixed; have t0 := L.t0; have a0 := L.a0; have z0 := L.z0; have v0 := L.v0; have t3 := L.t3; have a3 := L.a3; have z3 := L.z3; have v3 := L.v3; have t4 := L.t4; have a4 := L.a4; have z4 := L.z4; have v4 := L.v4; have ts := L.ts; have asl := L.asl; have zs := L.zs; have vs := L.vs; have tc := L.tc; have ac := L.ac; have zc := L.zc; have vc := L.vc; have aE := L.aE; have zE := L.zE
  have us := run_underlying L.ts
  obtain ⟨z, hz⟩ : ∃ z, z = d.size := ⟨_, rfl⟩
  rw [← hz] at hs hb hsz ⊢
  have HZ := Lib.hid hz
  have S0 := Lib.hid h
  have HR : Aside (RowK enc k w0 blk off d0) := R
  clear h hz R
  go_enter L.fsr, Tryd.ntmps194
  go_wp2_with fail
  go_loopw [10] (fun v10 wr => ∃ (i : Nat) (dk : Array α), i ≤ n ∧ v10 = .int .i64 i ∧ Hid (Swapped d dk a b i) ∧ Hid (PermIn a (b + n) d dk) ∧ Hid (SWK enc k w0 blk off dk wr)) (fun v10 _ => n - (intOf v10).toNat)
  case atStart => exact ⟨0, d, by omega, rfl, Lib.hid (Swapped.zero d a b), Lib.hid (permIn_refl d a (b + n)), S0⟩
  case round =>
    clear S0
    obtain ⟨i, dk, hi, rfl, HW, HP, S1⟩ := hrel
    by_cases hlt : i < n
    · have i1 : (i : Int) < (n : Int) := by omega
      have hdk : dk.size = z := by have := HW.out.1; have := HZ.out; omega
      have ea : ((a : Int) + (i : Int)).toNat = a + i := by omega
      have pa : (0 : Int) ≤ (a : Int) + (i : Int) := by omega
      have ba : (a : Int) + (i : Int) < (z : Int) := by omega
      have ra : IntKind.i64.wrap ((a : Int) + (i : Int)) = (a : Int) + (i : Int) := by rw [IntKind.wrap_i64]; omega
      have ec : ((b : Int) + (i : Int)).toNat = b + i := by omega
      have pc : (0 : Int) ≤ (b : Int) + (i : Int) := by omega
      have bc : (b : Int) + (i : Int) < (z : Int) := by omega
      have rc : IntKind.i64.wrap ((b : Int) + (i : Int)) = (b : Int) + (i : Int) := by rw [IntKind.wrap_i64]; omega
      have S2 : Aside (SWK enc k w0 blk off (swp dk (a + i) (b + i)) ((wr.drew.setCells blk (off + (a + i) * k) (enc dk[b + i]!)).setCells blk (off + (b + i) * k) (enc dk[a + i]!))) := S1.out.swapped HR.out (a + i) (b + i) (by omega) (by omega)
      have la := S1.out.ld1 HR.out (by omega) P (a + i) (by omega)
      have lb := S1.out.ld1 HR.out (by omega) P (b + i) (by omega)
      have sa := S1.out.st1 HR.out (by omega) P (a + i) (by omega) dk[b + i]!
      have sb := S1.out.st2 HR.out (by omega) P (a + i) (b + i) (by omega) (by omega) dk[b + i]! dk[a + i]!
      have HW2 := Lib.hid (HW.out.step (by omega) (by have := HZ.out; omega))
      have HP2 := Lib.hid (permIn_trans d dk _ a (b + n) HP.out (swp_permIn dk a (b + n) (a + i) (b + i) (by omega) (by omega) (by omega) (by omega) (by omega)))
      have na : (enc dk[a + i]!).length = k := HR.out.hk _
      have nb : (enc dk[b + i]!).length = k := HR.out.hk _
      generalize enc dk[a + i]! = cI at S2 la sb na
      generalize enc dk[b + i]! = cJ at S2 lb sa sb nb
      have hi2 := Lib.hid hi
      have hn5 : n ≤ 100000 := by omega
      clear HW HP S1 hdk hs hb hsz hab hi
      go_wp2_with fail
      go_big_region_o
      clear la lb sa sb
      generalize (wr.drew.setCells blk (off + (a + i) * k) cJ).setCells blk (off + (b + i) * k) cI = w2 at S2 ⊢
      go_wp2_with fail
      go_roundw
      case rel => exact ⟨i + 1, _, by omega, by go_num, HW2, HP2, Lib.hid S2⟩
      case measure => simp [intOf]; omega
    · have i1 : ¬ (i : Int) < (n : Int) := by omega
      obtain rfl : i = n := by omega
      go_wp2_with fail
      go_end0
      exact ⟨rfl, dk, HW.out, HP.out, S1.out⟩

theorem rotate_any (L : StbL P k) (blk off cap a m b : Nat) (d0 d : Array α) (w0 W : World) (R : RowK enc k w0 blk off d0) (hs : d.size = d0.size) (h : SWK enc k w0 blk off d W) (ham : a < m) (hmb : m < b) (hb : b ≤ d.size) (hsz : d.size ≤ 100000) (cv : Value) :
    Calls P 170 #[.slice (some ⟨blk, off, none⟩) d.size cap, .int .i64 a, .int .i64 m, .int .i64 b, cv] W fun e w' => e = .returned (.tuple #[]) ∧ ∃ d', Rotated d d' a m b ∧ PermIn a b d d' ∧ SWK enc k w0 blk off d' w' := by
  have mixed := L.mixed; have t0 := L.t0; have a0 := L.a0; have z0 := L.z0; have v0 := L.v0; have t3 := L.t3; have a3 := L.a3; have z3 := L.z3; have v3 := L.v3; have t4 := L.t4; have a4 := L.a4; have z4 := L.z4; have v4 := L.v4; have ts := L.ts; have asl := L.asl; have zs := L.zs; have vs := L.vs; have tc := L.tc; have ac := L.ac; have zc := L.zc; have vc := L.vc; have tu := L.tu; have au := L.au; have zu := L.zu; have vu := L.vu; have aE := L.aE; have zE := L.zE
  have esr : ∀ args w, (callFunc 194 args).run P w = .ok (.enter 194 args) w := enters_of L.fsr (by kernel_rfl) rfl
  obtain ⟨z, hz⟩ : ∃ z, z = d.size := ⟨_, rfl⟩
  rw [← hz] at hs hb hsz ⊢
  have HZ := Lib.hid hz
  have S0 := Lib.hid h
  have HC : Hid (∀ (dk : Array α) (wr : World) (x y n : Nat), dk.size = z → SWK enc k w0 blk off dk wr → x + n ≤ y → y + n ≤ z → Calls P 194 #[.slice (some ⟨blk, off, none⟩) z cap, .int .i64 x, .int .i64 y, .int .i64 n, cv] wr fun e w' => e = .returned (.tuple #[]) ∧ ∃ d', Swapped dk d' x y n ∧ PermIn x (y + n) dk d' ∧ SWK enc k w0 blk off d' w') :=
    Lib.hid fun dk wr x y n h1 h2 h3 h4 => by
      have := swapRange_any L blk off cap x y n d0 dk w0 wr R (by omega) h2 h3 (by omega) (by omega) cv
      rw [h1] at this
      exact this
  clear h hz R hs
  have e1 : (m : Int) - (a : Int) = ((m - a : Nat) : Int) := by omega
  have e2 : (b : Int) - (m : Int) = ((b - m : Nat) : Int) := by omega
  have E1 := Lib.hid e1
  have E2 := Lib.hid e2
  clear e1 e2
  go_enter L.fro, Tryd.ntmps170
  go_wp2_with fail
  go_loopw [10, 11] (fun v10 v11 wr => ∃ (i j : Nat) (dk : Array α), 0 < i ∧ 0 < j ∧ i ≤ m - a ∧ j ≤ b - m ∧ v10 = .int .i64 i ∧ v11 = .int .i64 j ∧ dk.size = z ∧ Hid (∀ x, rotF dk (m - i) m (m + j) x = rotF d a m b x) ∧ Hid (PermIn a b d dk) ∧ Hid (SWK enc k w0 blk off dk wr)) (fun v10 v11 _ => (intOf v10).toNat + (intOf v11).toNat)
  case atStart => exact ⟨m - a, b - m, d, by omega, by omega, by omega, by omega, by rw [E1.out], by rw [E2.out], HZ.out.symm, Lib.hid (fun x => by rw [show m - (m - a) = a by omega, show m + (b - m) = b by omega]), Lib.hid (permIn_refl d a b), S0⟩
  case round =>
    clear S0
    obtain ⟨i, j, dk, hi, hj, hia, hjb, rfl, rfl, hdk0, HW, HP, S1⟩ := hrel
    have hdk := Lib.hid hdk0
    clear hdk0
    have p1 : (m : Int) - (i : Int) = ((m - i : Nat) : Int) := by omega
    rcases Nat.lt_trichotomy i j with hlt | heq | hgt
    · have q1 : ((i : Int) != (j : Int)) = true := by simp; omega
      have q2 : ¬ (j : Int) < (i : Int) := by omega
      have p2 : (m : Int) + (j : Int) - (i : Int) = ((m + j - i : Nat) : Int) := by omega
      have p3 : (j : Int) - (i : Int) = ((j - i : Nat) : Int) := by omega
      have P3 := Lib.hid p3
      have hcon := HC.out dk wr (m - i) (m + j - i) i hdk.out S1.out (by omega) (by omega)
      rw [← p1, ← p2] at hcon
      have HCon := Lib.hid hcon
      clear hcon p1 p2 p3
      go_wp2_with fail
      refine HCon.out.mono ?_
      rintro e w1 ⟨rfl, d', hw, hp, hS⟩
      have HW2 : Hid (∀ x, rotF d' (m - i) m (m + (j - i)) x = rotF d a m b x) := Lib.hid (fun x => by rw [rot_right (by omega) hlt hw x]; exact HW.out x)
      have HP2 := Lib.hid (permIn_trans d dk d' a b HP.out (permIn_mono dk d' (m - i) (m + j - i + i) a b (by omega) (by omega) (by have := hdk.out; omega) hp))
      have hd' : Hid (d'.size = z) := Lib.hid (by rw [hw.1]; exact hdk.out)
      have S2 := Lib.hid hS
      clear hw hp hS HCon
      go_wp2_with fail
      go_roundw
      case rel => exact ⟨i, j - i, d', by omega, by omega, by omega, by omega, rfl, by rw [P3.out], hd'.out, HW2, HP2, S2⟩
      case measure => simp [intOf]; omega
    · subst heq
      have q1 : ((i : Int) != (i : Int)) = false := by simp
      have hcon := HC.out dk wr (m - i) m i hdk.out S1.out (by omega) (by omega)
      rw [← p1] at hcon
      have HCon := Lib.hid hcon
      clear hcon p1
      go_wp2_with fail
      refine HCon.out.mono ?_
      rintro e w1 ⟨rfl, d', hw, hp, hS⟩
      have HW2 : Hid (Rotated d d' a m b) := Lib.hid ⟨by rw [hw.1, hdk.out]; exact HZ.out, fun x => by rw [rot_same (by omega) hw x]; exact HW.out x⟩
      have HP2 := Lib.hid (permIn_trans d dk d' a b HP.out (permIn_mono dk d' (m - i) (m + i) a b (by omega) (by omega) (by have := hdk.out; omega) hp))
      have S2 := Lib.hid hS
      clear hw hp hS HCon
      go_wp2_with fail
      go_end0
      exact ⟨rfl, d', HW2.out, HP2.out, S2.out⟩
    · have q1 : ((i : Int) != (j : Int)) = true := by simp; omega
      have q2 : (j : Int) < (i : Int) := by omega
      have p3 : (i : Int) - (j : Int) = ((i - j : Nat) : Int) := by omega
      have P3 := Lib.hid p3
      have hcon := HC.out dk wr (m - i) m j hdk.out S1.out (by omega) (by omega)
      rw [← p1] at hcon
      have HCon := Lib.hid hcon
      clear hcon p1 p3
      go_wp2_with fail
      refine HCon.out.mono ?_
      rintro e w1 ⟨rfl, d', hw, hp, hS⟩
      have HW2 : Hid (∀ x, rotF d' (m - (i - j)) m (m + j) x = rotF d a m b x) := Lib.hid (fun x => by rw [rot_left (by omega) hgt hw x]; exact HW.out x)
      have HP2 := Lib.hid (permIn_trans d dk d' a b HP.out (permIn_mono dk d' (m - i) (m + j) a b (by omega) (by omega) (by have := hdk.out; omega) hp))
      have hd' : Hid (d'.size = z) := Lib.hid (by rw [hw.1]; exact hdk.out)
      have S2 := Lib.hid hS
      clear hw hp hS HCon
      go_wp2_with fail
      go_roundw
      case rel => exact ⟨i - j, j, d', by omega, by omega, by omega, by omega, by rw [P3.out], rfl, hd'.out, HW2, HP2, S2⟩
      case measure => simp [intOf]; omega
end Go.Proofs.YthlojjknpfijmaaDoor
