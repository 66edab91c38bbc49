/- strconv.FormatUint at base 16. -/
import Derived.Test.YtbncfpljiihmnaaGreatDoorGd
import Derived.Test.YtbncfpljiihmnaaGreatDoorCrc
import Derived.Laws.BitsAllLaws
import Derived.Deep.CutBlock
namespace Go.Proofs.YtbncfpljiihmnaaGreatDoor
open Go Go.RowKit
set_option linter.unusedVariables false
set_option linter.unusedSimpArgs false
set_option maxHeartbeats 4000000
set_option maxRecDepth 100000

theorem tz64_16 (w : World) (hdb : w.cell? ⟨20, 15, none⟩ = some (.int .u8 4)) :
    Calls Tryz.prog 129 #[.int .u64 16] w fun e w' => e = .returned (.int .i64 4) ∧ w' = w := by
  have e1 : IntKind.u64.wrap (-16) = 18446744073709551600 := by decide
  have e2 : bits .and .u64 16 18446744073709551600 = 16 := by decide +kernel
  have e3 : IntKind.u64.wrap (16 * 285870213051353865) = 4573923408821661840 := by decide
  have e4 : (4573923408821661840 : Int) / 288230376151711744 = 15 := by decide
  go_enter Tryz.func129, Tryz.ntmps129
  go_wp2
  go_ret
  exact ⟨rfl, rfl⟩
theorem tz_16 (w : World) (hdb : w.cell? ⟨20, 15, none⟩ = some (.int .u8 4)) :
    Calls Tryz.prog 124 #[.int .u64 16] w fun e w' => e = .returned (.int .i64 4) ∧ w' = w := by
  go_enter Tryz.func124, Tryz.ntmps124
  go_wp2_with (go_at_call 129; refine (tz64_16 _ hdb).mono ?_; rintro e w' ⟨rfl, rfl⟩)
  go_ret
  exact ⟨rfl, rfl⟩
theorem isPow_16 (w : World) : Calls Tryz.prog 123 #[.int .i64 16] w fun e w' => e = .returned (.bool true) ∧ w' = w := by
  have e2 : bits .and .i64 16 15 = 0 := by decide +kernel
  go_enter Tryz.func123, Tryz.ntmps123
  go_wp2
  go_ret
  exact ⟨rfl, rfl⟩

/-- in formatBits' loop: the block of digits -/
structure FmtSt (w0 : World) (B u k c : Nat) (w : World) : Prop where
  val : c = u / 16 ^ k
  pos : k = 0 ∨ 1 ≤ c
  cell : ∀ j, j < k → w.cell? ⟨B, 64 - j, none⟩ = some (.int .u8 (Crc.hexD (u / 16 ^ j % 16)).toNat)
  all : ∀ t, t < 65 → ∃ x, w.cell? ⟨B, t, none⟩ = some x
  fz : ∀ o, w.frozen? ⟨B, o, none⟩ = false
  lt : B < w.heap.size
  ge : w0.heap.size ≤ B
  bel : Below w0.heap.size w0 w
theorem FmtSt.k7 {w0 w : World} {B u k c : Nat} (h : FmtSt w0 B u k c w) (hu : u < 4294967296) : k ≤ 7 := by
  rcases h.pos with h1 | h1
  · omega
  · rw [h.val] at h1
    rcases Nat.lt_or_ge 7 k with h2 | h2
    · have h3 : 16 ^ 8 ≤ 16 ^ k := Nat.pow_le_pow_right (by omega) h2
      have h4 : u / 16 ^ k = 0 := Nat.div_eq_of_lt (by omega)
      omega
    · exact h2
theorem FmtSt.put {w0 w : World} {B u k c i : Nat} (h : FmtSt w0 B u k c w) (hi : i + k = 64) :
    (∀ j, j < k + 1 → (w.setCell ⟨B, i, none⟩ (.int .u8 (Crc.hexD (c % 16)).toNat)).cell? ⟨B, 64 - j, none⟩ = some (.int .u8 (Crc.hexD (u / 16 ^ j % 16)).toNat)) ∧
    (∀ t, t < 65 → ∃ x, (w.setCell ⟨B, i, none⟩ (.int .u8 (Crc.hexD (c % 16)).toNat)).cell? ⟨B, t, none⟩ = some x) ∧
    (∀ o, (w.setCell ⟨B, i, none⟩ (.int .u8 (Crc.hexD (c % 16)).toNat)).frozen? ⟨B, o, none⟩ = false) ∧
    B < (w.setCell ⟨B, i, none⟩ (.int .u8 (Crc.hexD (c % 16)).toNat)).heap.size ∧ Below w0.heap.size w0 (w.setCell ⟨B, i, none⟩ (.int .u8 (Crc.hexD (c % 16)).toNat)) := by
  obtain ⟨x, hx⟩ := h.all i (by omega)
  refine ⟨fun j hj => ?_, fun t ht => ?_, fun o => by simpa using h.fz o, by simpa using h.lt, ?_⟩
  · by_cases hjk : j = k
    · subst hjk
      rw [show 64 - j = i by omega, World.cell?_setCell_same _ _ _ hx, h.val]
    · rw [World.cell?_setCell_other _ _ _ _ (by simp <;> omega)]
      exact h.cell j (by omega)
  · by_cases hti : t = i
    · subst hti; exact ⟨_, World.cell?_setCell_same _ _ _ hx⟩
    · obtain ⟨y, hy⟩ := h.all t ht
      exact ⟨y, by rw [World.cell?_setCell_other _ _ _ _ (by simp <;> omega)]; exact hy⟩
  · exact h.bel.setCell h.ge _
theorem FmtSt.step {w0 w : World} {B u k c i : Nat} (h : FmtSt w0 B u k c w) (hi : i + k = 64) (hc : 16 ≤ c) : FmtSt w0 B u (k + 1) (c / 16) (w.setCell ⟨B, i, none⟩ (.int .u8 (Crc.hexD (c % 16)).toNat)) := by
  obtain ⟨h1, h2, h3, h4, h5⟩ := h.put hi
  exact ⟨by rw [h.val, Nat.div_div_eq_div_mul, Nat.pow_succ], .inr (by omega), h1, h2, h3, h4, h.ge, h5⟩
theorem FmtSt.done {w0 w : World} {B u k c i : Nat} (h : FmtSt w0 B u k c w) (hi : i + k = 64) (hc : c < 16) :
    (∀ j (hj : j < (Crc.digs k u).length), (w.setCell ⟨B, i, none⟩ (.int .u8 (Crc.hexD (c % 16)).toNat)).cell? ((⟨B, i, none⟩ : Addr).add j) = some (.int .u8 ((Crc.digs k u)[j].toNat : Int))) ∧
    (Crc.digs k u).length = 65 - i ∧ Below w0.heap.size w0 (w.setCell ⟨B, i, none⟩ (.int .u8 (Crc.hexD (c % 16)).toNat)) := by
  obtain ⟨h1, h2, h3, h4, h5⟩ := h.put hi
  refine ⟨fun j hj => ?_, by rw [Crc.digs_len]; omega, h5⟩
  have hj2 := hj
  rw [Crc.digs_len] at hj2
  have h6 := h1 (k - j) (by omega)
  have h7 := Crc.digs_at k u j (by omega)
  rw [List.getElem?_eq_getElem hj] at h7
  rw [Option.some.inj h7, Addr.add_lit]
  rw [show 64 - (k - j) = i + j by omega] at h6
  exact h6
theorem FmtSt.start (w : World) (u : Nat) (cs : Array Value) (t : TypeId) (hcs : ∀ j, j < 65 → ∃ x, cs[j]? = some x) : FmtSt w w.heap.size u 0 u (w.alloc (.cells cs t)) := by
  refine ⟨by simp, .inl rfl, fun j hj => by omega, fun j hj => ?_, fun o => by simp [go_sem], by simp, Nat.le_refl _, (Below.refl _ _).alloc (Nat.le_refl _) _⟩
  obtain ⟨x, hx⟩ := hcs j hj
  exact ⟨x, by simp [go_sem, hx]⟩
theorem digD_at : ∀ (q : Nat) (h : q < 36), q < 16 → (ByteArray.mk #[48, 49, 50, 51, 52, 53, 54, 55, 56, 57, 97, 98, 99, 100, 101, 102, 103, 104, 105, 106, 107, 108, 109, 110, 111, 112, 113, 114, 115, 116, 117, 118, 119, 120, 121, 122])[q]'h = Crc.hexD q := by decide +kernel
theorem zeros65 : ∀ j, j < 65 → ∃ x, (Tryz.zeroCells177)[j]? = some x := by
  intro j hj
  have : (Tryz.zeroCells177).size = 65 := by kernel_rfl
  exact ⟨_, Array.getElem?_eq_getElem (by omega)⟩

theorem slice65 (a : Addr) (h : a.spot = none) (i : Nat) (hi : i < 65) (w : World) : (Instr.sliceAt 177 (.pointer (some a)) (some (.int .i64 i)) none none).run Tryz.prog w = .ok (.slice (some (a.add i)) (65 - i) (65 - i)) w := by
  have e : Tryz.prog.arrayLen 177 = 65 := by kernel_rfl
  have hu : Tryz.prog.underlying 177 = some (.array (Tryz.prog.arrayLen 177) (Tryz.prog.elem 177)) := by kernel_rfl
  have hs : ∀ w, (sizeOf (Tryz.prog.elem 177)).run Tryz.prog w = .ok 1 w := by intro w; simp [go_sem]
  rw [run_sliceAt_array_l w _ a hu .i64 i (by omega) (by omega), hs, e]
  have : ¬ 65 = i := by omega
  simp [slicedAt, this]

theorem fmtBits_any (u : Nat) (w : World) (hu : u < 4294967296) (hdb : w.cell? ⟨20, 15, none⟩ = some (.int .u8 4)) :
    Calls Tryz.prog 107 #[.slice none 0 0, .int .u64 u, .int .i64 16, .bool false, .bool false] w fun e w' => e = .returned (.tuple #[.slice none 0 0, .string (S (Crc.hexN 8 u))]) ∧ Below w.heap.size w w' := by
  have hS := FmtSt.start w u Tryz.zeroCells177 177 zeros65
  have hdb2 := ((Below.refl w.heap.size w).alloc (Nat.le_refl _) (.cells Tryz.zeroCells177 177)).cell (World.block_lt_of_cell? _ _ hdb) |>.trans hdb
  have HT := Lib.hid (tz_16 _ hdb2)
  have HS := Lib.hid hS
  have HU := Lib.hid hu
  clear hdb hdb2 hS hu
  go_enter Tryz.func107, Tryz.ntmps107
  go_wp2_with (first | (go_at_call 123; refine (isPow_16 _).mono ?_; rintro e w' ⟨rfl, rfl⟩) | (go_at_call 124; refine HT.out.mono ?_; rintro e w' ⟨rfl, rfl⟩))
  clear HT
  obtain ⟨W, hW⟩ : ∃ W, W = w.alloc (.cells Tryz.zeroCells177 177) := ⟨_, rfl⟩
  rw [← hW] at HS ⊢
  clear hW
  go_loopw [1, 13] (fun v1 v13 wr => ∃ k c i : Nat, v1 = .int .u64 c ∧ v13 = .int .i64 i ∧ i + k = 65 ∧ FmtSt w w.heap.size u k c wr) (fun v1 _ _ => (intOf v1).toNat)
  case atStart => exact ⟨0, u, 65, rfl, rfl, rfl, HS.out⟩
  case round =>
    obtain ⟨k, c, i, rfl, rfl, hik, hF⟩ := hrel
    have hk := hF.k7 HU.out
    obtain ⟨i', rfl⟩ : ∃ i', i = i' + 1 := ⟨i - 1, by omega⟩
    have hik' : i' + k = 64 := by omega
    have e1 : (((i' + 1 : Nat) : Int)) - 1 = (i' : Int) := by omega
    have b1 : (i' : Int) < 65 := by omega
    have b0 : (0 : Int) ≤ (i' : Int) := by omega
    have HI := Lib.hid hik'
    have hcu : c ≤ u := by rw [hF.val]; exact Nat.div_le_self _ _
    have hu := HU.out
    have hFx := hF.all i' (by omega)
    have hfz := hF.fz i'
    have HF := Lib.hid hF
    obtain ⟨x, hx⟩ := hFx
    clear hF hik' hik
    by_cases hc : 16 ≤ c
    · have hc1 : (16 : Int) ≤ (c : Int) := by omega
      obtain ⟨r, hr⟩ : ∃ r : Nat, r = c % 16 := ⟨_, rfl⟩
      have hand : bits .and .u64 (c : Int) 15 = (r : Int) := by
        have := u64_and_nat c 15 (by omega) (by omega)
        rw [hr]
        have h2 := Nat.and_two_pow_sub_one_eq_mod c 4
        simp at h2
        rw [h2] at this
        exact this
      obtain ⟨c', hc'⟩ : ∃ c' : Nat, c' = c / 16 := ⟨_, rfl⟩
      have hsh : (c : Int) / 16 = (c' : Int) := by omega
      have r0 : (0 : Int) ≤ (r : Int) := by omega
      have r1 : (r : Int) < 36 := by omega
      have r2 : r < 36 := by omega
      have HR := Lib.hid hr
      have HC := Lib.hid hc'
      have hd := digD_at r r2 (by omega)
      clear hr hc'
      go_wp2_with fail
      go_roundw
      case rel =>
        refine ⟨k + 1, c', i', rfl, rfl, by have := HI.out; omega, ?_⟩
        rw [HR.out, HC.out]
        exact HF.out.step HI.out hc
      case measure => simp [intOf]; have := HC.out; omega
    · have hc1 : ¬ (16 : Int) ≤ (c : Int) := by omega
      have hc2 : c < 36 := by omega
      have c0 : (0 : Int) ≤ (c : Int) := by omega
      have c1 : (c : Int) < 36 := by omega
      have hd := digD_at c hc2 (by omega)
      have hdone := HF.out.done HI.out (by omega)
      rw [Nat.mod_eq_of_lt (by omega : c < 16)] at hdone
      have hl := hdone.2.1
      have hlen : (65 : Int) - (i' : Int) = (((Crc.digs k u).length : Nat) : Int) := by omega
      have kc := run_convert_bytes_back (P := Tryz.prog) _ 57 9 5 ⟨w.heap.size, i', none⟩ (Crc.digs k u).length (Crc.digs k u) Tryz.underlying57 Tryz.underlying5 Tryz.underlying9 hdone.1
      have hx16 : Crc.hexN 8 u = Crc.digs k u := by
        have := Crc.hexN_digs k (7 - k) u (by rw [← HF.out.val]; omega) (by rw [← HF.out.val]; exact HF.out.pos)
        rwa [show k + 1 + (7 - k) = 8 by omega] at this
      rw [hl] at kc
      have HD := Lib.hid hdone.2.2
      have HX := Lib.hid hx16
      have ks := slice65 ⟨w.heap.size, 0, none⟩ rfl i' (by omega)
      rw [Addr.add_lit, Nat.zero_add] at ks
      clear hdone hx16
      go_wp2_with fail
      go_ret2
      exact ⟨by rw [HX.out]; rfl, HD.out⟩

theorem intFmt_16 (u : Nat) (w : World) (hu : u < 4294967296) (hdb : w.cell? ⟨20, 15, none⟩ = some (.int .u8 4)) :
    Calls Tryz.prog 84 #[.int .u64 u, .int .i64 16] w fun e w' => e = .returned (.string (S (Crc.hexN 8 u))) ∧ Below w.heap.size w w' := by
  have H := Lib.hid (fmtBits_any u w hu hdb)
  clear hu hdb
  go_enter Tryz.func84, Tryz.ntmps84
  go_wp2_with (go_at_call 107; refine H.out.mono ?_; rintro e w' ⟨rfl, hb⟩)
  go_ret
  exact ⟨rfl, hb⟩
theorem fmt_16 (u : Nat) (w : World) (hu : u < 4294967296) (hdb : w.cell? ⟨20, 15, none⟩ = some (.int .u8 4)) :
    Calls Tryz.prog 64 #[.int .u64 u, .int .i64 16] w fun e w' => e = .returned (.string (S (Crc.hexN 8 u))) ∧ Below w.heap.size w w' := by
  have H := Lib.hid (intFmt_16 u w hu hdb)
  clear hu hdb
  go_enter Tryz.func64, Tryz.ntmps64
  go_wp2_with (go_at_call 84; refine H.out.mono ?_; rintro e w' ⟨rfl, hb⟩)
  go_ret
  exact ⟨rfl, hb⟩
end Go.Proofs.YtbncfpljiihmnaaGreatDoor
