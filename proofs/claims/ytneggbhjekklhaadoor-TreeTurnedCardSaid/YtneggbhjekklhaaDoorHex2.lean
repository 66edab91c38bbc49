/- The document's Hex. -/
import Derived.Test.YtneggbhjekklhaaDoorHex
namespace Go.Proofs.YtneggbhjekklhaaDoor
open Go Go.RowKit
set_option linter.unusedVariables false
set_option linter.unusedSimpArgs false
set_option maxHeartbeats 4000000
set_option maxRecDepth 100000

theorem hexD_cut : ∀ (q : Nat), q < 16 → (ByteArray.mk #[48, 49, 50, 51, 52, 53, 54, 55, 56, 57, 97, 98, 99, 100, 101, 102]).extract q (q + 1) = S [hexD q] := by decide +kernel

theorem unD_ix : ∀ n, n < 256 → Lib.indexByte [48, 49, 50, 51, 52, 53, 54, 55, 56, 57, 97, 98, 99, 100, 101, 102] n.toUInt8 = unD n.toUInt8 := by decide +kernel
theorem digit_at (c : UInt8) (w : World) :
    Calls Tryd.prog 70 #[.string ⟨#[48, 49, 50, 51, 52, 53, 54, 55, 56, 57, 97, 98, 99, 100, 101, 102]⟩, .int .u8 c.toNat] w fun e w' => e = .returned (.int .i64 (unD c)) ∧ w' = w := by
  have h := unD_ix c.toNat c.toNat_lt
  rw [show c.toNat.toUInt8 = c from UInt8.ofNat_toNat] at h
  have := Tryd.strings_IndexByte ⟨#[48, 49, 50, 51, 52, 53, 54, 55, 56, 57, 97, 98, 99, 100, 101, 102]⟩ (c.toNat : Int) w
  rw [show ((c.toNat : Int).toNat.toUInt8) = c from UInt8.ofNat_toNat, h] at this
  exact this
theorem unD_range (c : UInt8) : -1 ≤ unD c ∧ unD c ≤ 15 := by
  unfold unD
  split
  · omega
  · split <;> omega

/-- where the way back from hex stands -/
structure UnIs (s : List UInt8) (done : List UInt8) (i : Nat) : Prop where
  eq : unhexL s = (unhexL (s.drop i)).map (done ++ ·)
  len : 2 * done.length = i
theorem UnIs.start (s : List UInt8) : UnIs s [] 0 := ⟨by simp, rfl⟩
theorem drop_two {s : List UInt8} {i : Nat} {a b : UInt8} (ha : s[i]? = some a) (hb : s[i + 1]? = some b) : s.drop i = a :: b :: s.drop (i + 2) := by
  have h1 : i < s.length := (List.getElem?_eq_some_iff.1 ha).1
  have h2 : i + 1 < s.length := (List.getElem?_eq_some_iff.1 hb).1
  rw [List.drop_eq_getElem_cons h1, List.drop_eq_getElem_cons h2, (List.getElem?_eq_some_iff.1 ha).2, (List.getElem?_eq_some_iff.1 hb).2]
theorem UnIs.bad {s done : List UInt8} {i : Nat} {a b : UInt8} (h : UnIs s done i) (ha : s[i]? = some a) (hb : s[i + 1]? = some b) (hx : unD a < 0 ∨ unD b < 0) : unhexL s = none := by
  rw [h.eq, drop_two ha hb, unhexL, if_pos hx]
  rfl
theorem UnIs.step {s done : List UInt8} {i : Nat} {a b : UInt8} (h : UnIs s done i) (ha : s[i]? = some a) (hb : s[i + 1]? = some b) (hx : ¬ (unD a < 0 ∨ unD b < 0)) : UnIs s (done ++ [UInt8.ofNat (16 * (unD a).toNat + (unD b).toNat)]) (i + 2) := by
  refine ⟨?_, by have := h.len; simp; omega⟩
  rw [h.eq, drop_two ha hb, unhexL, if_neg hx]
  cases unhexL (s.drop (i + 2)) <;> simp
theorem UnIs.done {s done : List UInt8} {i : Nat} (h : UnIs s done i) (hi : s.length ≤ i) : unhexL s = some done := by
  rw [h.eq, List.drop_eq_nil_of_le hi]
  simp [unhexL]
theorem unhex_odd : ∀ (s : List UInt8), s.length % 2 = 1 → unhexL s = none
  | [], h => by simp at h
  | [_], _ => rfl
  | a :: b :: r, h => by
    rw [unhexL, unhex_odd r (by simp at h; omega)]
    split <;> rfl

/-- how unhex ends -/
def UnEnds (s : List UInt8) (w : World) (e : Ending) (w' : World) : Prop :=
  e = .returned (.tuple #[.string (S ((unhexL s).getD [])), .bool (unhexL s).isSome]) ∧ Below w.heap.size w w'

theorem or16n : ∀ a : Nat, a < 16 → ∀ b : Nat, b < 16 → bits BinOp.or IntKind.i64 ((a : Int) * 16) (b : Int) = 16 * (a : Int) + (b : Int) := by decide +kernel
theorem or16 (a b : Int) (h1 : 0 ≤ a) (h2 : a < 16) (h3 : 0 ≤ b) (h4 : b < 16) : bits BinOp.or IntKind.i64 (a * 16) b = 16 * a + b := by
  obtain ⟨m, rfl⟩ := Int.eq_ofNat_of_zero_le h1
  obtain ⟨n, rfl⟩ := Int.eq_ofNat_of_zero_le h3
  exact or16n m (by omega) n (by omega)

theorem unhex_any (s : ByteArray) (w : World) (hs : s.size ≤ 100000) :
    Calls Tryd.prog 68 #[.string s] w (UnEnds s.data.toList w) := by
  obtain ⟨n, hn⟩ : ∃ n, s.size = n := ⟨_, rfl⟩
  have hl : s.data.toList.length = n := by rw [← hn]; rfl
  by_cases hodd : n % 2 = 1
  · have H := Lib.hid (unhex_odd s.data.toList (by rw [hl]; exact hodd))
    have hm : (s.size : Int) % 2 = 1 := by omega
    clear hl hn hodd
    go_enter Tryd.func68, Tryd.ntmps68
    go_wp2_with fail
    go_ret2
    unfold UnEnds
    rw [H.out]
    exact ⟨rfl, Below.refl _ _⟩
  obtain ⟨z, hm⟩ : ∃ z : Int, (s.size : Int) % 2 = z := ⟨_, rfl⟩
  have hz : ¬ 0 < z := by omega
  have HN := Lib.hid hn
  have HL := Lib.hid hl
  have HO := Lib.hid hodd
  have hs' : n ≤ 100000 := by omega
  clear hn hl hs hodd
  go_enter Tryd.func68, Tryd.ntmps68
  go_wp2_with fail
  clear hm hz
  go_loopw [4, 5] (fun v4 v5 wr => ∃ (i : Nat) (done : List UInt8), v5 = .int .i64 i ∧ i ≤ n ∧ UnIs s.data.toList done i ∧ BSt w v4 done wr) (fun _ v5 _ => n - (intOf v5).toNat)
  case atStart => exact ⟨0, [], rfl, by omega, UnIs.start _, BSt.start _⟩
  case round =>
    obtain ⟨i, done, rfl, hi, hU, hB⟩ := hrel
    have HB := Lib.hid hB
    have HU := Lib.hid hU
    clear hB hU
    by_cases hlt : i < n
    · have hlt1 : i + 1 < s.size := by have := HN.out; have := HO.out; have := HU.out.len; omega
      have hlt0 : i < s.size := by omega
      have hc1 : (i : Int) + 1 < (s.size : Int) := by omega
      have hc0 : (0 : Int) ≤ (i : Int) + 1 := by omega
      have ha := byte_at s i hlt0
      have hb := byte_at s (i + 1) hlt1
      have HA := Lib.hid (fun w => digit_at s[i] w)
      have HD := Lib.hid (fun w => digit_at s[i+1] w)
      have HX := Lib.hid (HU.out.bad ha hb)
      have HY := Lib.hid (HU.out.step ha hb)
      have ra := unD_range s[i]
      have rb := unD_range s[i+1]
      have hdl := HU.out.len
      have hsz := HB.out.bel.size
      clear ha hb
      generalize unD s[i] = a at HA HX HY ra
      generalize unD s[i+1] = b at HD HX HY rb
      have hw1 : IntKind.i64.wrap ((i : Int) + 1) = (i : Int) + 1 := by simp [IntKind.wrap, IntKind.bits, IntKind.signed]; omega
      go_wp2_with fail
      go_quiet (first | (go_at_call 70; refine Calls.quiet_of_same (HA.out _)) | (go_at_call 70; refine Calls.quiet_of_same (HD.out _)))
      rename_i nq
      obtain ⟨W, hW⟩ : ∃ W, W = wr.drewN nq := ⟨_, rfl⟩
      have hBW : BSt w u4 done W := by rw [hW]; exact HB.out.below (below_drewN _ _ _)
      rw [← hW]
      have hszW : w.heap.size ≤ W.heap.size := hBW.bel.size
      have HBW := Lib.hid hBW
      clear hW hBW HB hsz
      by_cases hx : a < 0 ∨ b < 0
      · have H := Lib.hid (HX.out hx)
        have hc : a < 0 ∨ (¬ a < 0 ∧ b < 0) := by omega
        clear hx
        rcases hc with hc | ⟨hc, hc'⟩
        all_goals
          go_wp2_with fail
          go_ret2
          unfold UnEnds
          rw [H.out]
          exact ⟨rfl, HBW.out.bel⟩
      · have hx1 : ¬ a < 0 := by omega
        have hx2 : ¬ b < 0 := by omega
        have hx3 : 0 ≤ a := by omega
        have hx4 : 0 ≤ b := by omega
        have hor : bits BinOp.or IntKind.i64 (a * 16) b = 16 * a + b := or16 a b hx3 (by omega) hx4 (by omega)
        have hwr : IntKind.u8.wrap (16 * a + b) = 16 * a + b := by simp [IntKind.wrap, IntKind.bits, IntKind.signed]; omega
        have hS := HY.out hx
        obtain ⟨c, hc⟩ : ∃ c : UInt8, c = UInt8.ofNat (16 * a.toNat + b.toNat) := ⟨_, rfl⟩
        have hnew : 16 * a + b = (c.toNat : Int) := by
          rw [hc, UInt8.toNat_ofNat']
          omega
        rw [← hc] at hS
        have HS := Lib.hid hS
        have HNew := Lib.hid hnew
        clear hnew hx hS HY HX hc
        obtain ⟨i0', hi0, hz0, hz1, hz2⟩ := info_parts infoByte
        go_wp2_with (at_builtin; refine wpList_append_own _ rfl _ _ 152 rfl w.heap.size 5 i0' (.int .u8 0) 1 1 Tryd.underlying152 hi0 hz0 hz1 hz2 rfl (by decide) _ _ _ rfl (HBW.out.own.alloc _) ⟨W.heap.size, 0, none⟩ 1 1 (bytesV [c]) rfl rfl ?a1 ?a2 ?a3 ?a4 ?a5 ?_)
        case a1 => intro jj u hjj; match jj, hjj with | 0, hjj => simp [bytesV] at hjj; subst hjj; simp [Addr.add, HNew.out]
        case a2 => intro u hu; simp [bytesV] at hu; subst hu; rfl
        case a3 => unfold maxLen; omega
        case a4 => omega
        case a5 => first | omega | (simp; omega)
        intro v' wF hown' hgrow _
        have hb2 := HBW.out.app (ys := [c]) hown' hgrow
        have HB2 := Lib.hid hb2
        clear hown' hgrow hb2
        go_wp2_with fail
        go_roundw
        case rel => exact ⟨i + 2, _, by go_num, by have := HN.out; omega, HS.out, HB2.out⟩
        case measure => simp [intOf]; omega
    · have hge : ¬ i < s.size := by have := HN.out; omega
      have kc := HB.out.text
      have H := Lib.hid (HU.out.done (by have := HL.out; omega))
      clear hlt
      go_wp2_with fail
      go_ret2
      unfold UnEnds
      rw [H.out]
      exact ⟨rfl, HB.out.bel⟩
end Go.Proofs.YtneggbhjekklhaaDoor
