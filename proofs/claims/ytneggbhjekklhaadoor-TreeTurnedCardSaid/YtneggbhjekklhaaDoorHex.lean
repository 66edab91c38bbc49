/- Bytes as hex digits, and back. -/
import Derived.Test.YtneggbhjekklhaaDoorTexts
import Derived.Lib.BufferRead
import Derived.Deep.AppendLies
import Derived.Deep.RegionHeldLaw
namespace Go.Proofs.YtneggbhjekklhaaDoor
open Go Go.RowKit
set_option linter.unusedVariables false
set_option linter.unusedSimpArgs false
set_option maxHeartbeats 4000000
set_option maxRecDepth 100000

def hexD (n : Nat) : UInt8 := if n < 10 then UInt8.ofNat (48 + n) else UInt8.ofNat (87 + n)
def hexL (l : List UInt8) : List UInt8 := l.flatMap fun c => [hexD (c.toNat / 16), hexD (c.toNat % 16)]
def unD (c : UInt8) : Int := if 48 ≤ c.toNat ∧ c.toNat ≤ 57 then (c.toNat : Int) - 48 else if 97 ≤ c.toNat ∧ c.toNat ≤ 102 then (c.toNat : Int) - 87 else -1
def unhexL : List UInt8 → Option (List UInt8)
  | [] => some []
  | [_] => none
  | a :: b :: r => if unD a < 0 ∨ unD b < 0 then none else (unhexL r).map (UInt8.ofNat (16 * (unD a).toNat + (unD b).toNat) :: ·)

theorem infoByte : (Tryd.prog.info? 5).map (fun i => (i.zero, i.size, i.bytes)) = some (some (.int .u8 0), 1, 1) := by kernel_rfl
def bytesV (xs : List UInt8) : List Value := xs.map fun x => Value.int .u8 x.toNat

/-- bytes of the call's own, in the making -/
structure BSt (w0 : World) (v : Value) (xs : List UInt8) (w : World) : Prop where
  own : w.ownsRow w0.heap.size 5 1 v xs.length (bytesV xs)
  bel : Below w0.heap.size w0 w
theorem BSt.below {w0 w w' : World} {v : Value} {xs : List UInt8} (h : BSt w0 v xs w) (hb : Below w.heap.size w w') : BSt w0 v xs w' :=
  ⟨h.own.kept (row := none) ⟨hb.os, hb.tape, hb.output, hb.size, fun k hk _ => hb.block k hk⟩ (by cases hv : v.ownBlock <;> simp), h.bel.trans (hb.mono h.bel.size)⟩
theorem BSt.app {w0 w w' : World} {v v' : Value} {xs ys : List UInt8} {o : Obj} (h : BSt w0 v xs w)
    (hown : w'.ownsRow w0.heap.size 5 1 v' (xs.length + ys.length) (bytesV xs ++ bytesV ys)) (hg : (w.alloc o).grownBy w' v.ownBlock) : BSt w0 v' (xs ++ ys) w' := by
  have hb : Below w0.heap.size w0 w' := (h.bel.alloc h.bel.size o).grown hg (by have := h.bel.size; simp; omega) (fun k hk => (h.own.lt k hk).1)
  exact ⟨by simpa [bytesV] using hown, hb⟩
theorem BSt.start (w : World) : BSt w (.slice none 0 0) [] w := ⟨World.ownsRow_nil _ _ _ _, Below.refl _ _⟩
theorem BSt.text {w0 w : World} {v : Value} {xs : List UInt8} (h : BSt w0 v xs w) : (convert 152 9 v).run Tryd.prog w = .ok (.string (S xs)) w := by
  have hown := h.own
  rcases h.own.2 with ⟨hv, hn⟩ | ⟨g, cap, cur, hv, hg, hh, hcap, hm, hsz, hcs⟩
  · have : xs = [] := List.eq_nil_of_length_eq_zero hn
    subst this
    rw [hv]
    exact Lib.run_convert_nil_bytes (P := Tryd.prog) w 152 9 5 0 Tryd.underlying152 Tryd.underlying5 Tryd.underlying9
  · rw [hv]
    refine run_convert_bytes_back (P := Tryd.prog) _ 152 9 5 ⟨g, 0, none⟩ cap xs Tryd.underlying152 Tryd.underlying5 Tryd.underlying9 ?_
    intro j hj
    have := hown.cells (g := g) (by rw [hv]; rfl) j (.int .u8 (xs[j].toNat : Int)) (by rw [bytesV, List.getElem?_map, List.getElem?_eq_getElem hj]; rfl)
    rw [Addr.add_lit] at this
    rw [Addr.add_lit]
    simpa using this

theorem hexL_take (s : ByteArray) (i : Nat) (hi : i < s.size) : hexL (s.data.toList.take (i + 1)) = hexL (s.data.toList.take i) ++ [hexD (s[i].toNat / 16), hexD (s[i].toNat % 16)] := by
  rw [List.take_add_one, byte_at s i hi]
  simp [hexL]
theorem hexL_len (l : List UInt8) : (hexL l).length = 2 * l.length := by
  induction l with
  | nil => rfl
  | cons c r ih => simp only [hexL, List.flatMap_cons, List.length_append, List.length_cons, List.length_nil] at ih ⊢; omega

theorem and15 : ∀ n : Nat, n < 256 → bits BinOp.and IntKind.u8 (n : Int) 15 = ((n % 16 : Nat) : Int) := by decide +kernel
theorem hexD_at : ∀ (q : Nat) (h : q < 16), (ByteArray.mk #[48, 49, 50, 51, 52, 53, 54, 55, 56, 57, 97, 98, 99, 100, 101, 102])[q]'h = hexD q := by decide
theorem opHex_any (s : ByteArray) (w : World) (hs : s.size ≤ 100000) :
    Calls Tryd.prog 65 #[.string s] w fun e w' => e = .returned (.string (S (hexL s.data.toList))) ∧ Below w.heap.size w w' := by
  obtain ⟨n, hn⟩ : ∃ n, s.size = n := ⟨_, rfl⟩
  have hl : s.data.toList.length = n := by rw [← hn]; rfl
  have HN := Lib.hid hn
  have HL := Lib.hid hl
  have hs' : n ≤ 100000 := by omega
  clear hn hl hs
  go_enter Tryd.func65, Tryd.ntmps65
  go_wp2_with fail
  go_loopw [3, 7] (fun v3 v7 wr => ∃ i : Nat, v7 = .int .i64 i ∧ i ≤ n ∧ BSt w v3 (hexL (s.data.toList.take i)) wr) (fun _ v7 _ => n - (intOf v7).toNat)
  case atStart => exact ⟨0, rfl, by omega, BSt.start _⟩
  case round =>
    obtain ⟨i, rfl, hi, hB⟩ := hrel
    have HB := Lib.hid hB
    clear hB
    by_cases hlt : i < n
    · have hlt2 : i < s.size := by have := HN.out; omega
      have HS := Lib.hid (hexL_take s i hlt2)
      have hcb : s[i].toNat < 256 := s[i].toNat_lt
      obtain ⟨q, hq⟩ : ∃ q : Nat, (s[i].toNat : Int) / 16 = (q : Int) := ⟨s[i].toNat / 16, by omega⟩
      obtain ⟨r, hr⟩ : ∃ r : Nat, r = s[i].toNat % 16 := ⟨_, rfl⟩
      have hrb : bits BinOp.and IntKind.u8 (s[i].toNat : Int) 15 = (r : Int) := by rw [hr]; exact and15 _ hcb
      have hr1 : (0 : Int) ≤ (r : Int) := by omega
      have hr2 : (r : Int) < 16 := by omega
      have hq1 : (0 : Int) ≤ (q : Int) := by omega
      have hq2 : (q : Int) < 16 := by omega
      have HR := Lib.hid hr
      have HQ := Lib.hid hq
      clear hr
      go_wp2_with fail
      obtain ⟨i0', hi0, hz0, hz1, hz2⟩ := info_parts infoByte
      have hq3 : q < 16 := by omega
      have hr3 : r < 16 := by omega
      have hsz := HB.out.bel.size
      have hlen : (hexL (s.data.toList.take i)).length ≤ 200000 := by rw [hexL_len, List.length_take]; omega
      go_region_held_law (fun w' => w.heap.size ≤ w'.heap.size) (first | (simp; omega) | (have := hgrow.size; simp at this; omega)) ((refine step_append_lies _ (by rfl) _ _ _ (by rfl) w.heap.size 5 i0' (.int .u8 0) 1 1 Tryd.underlying152 hi0 hz0 hz1 hz2 rfl (by decide) _ _ _ (by rfl) ((HB.out.below (Below.refl _ _).drew).own.alloc _) ⟨wr.heap.size, 0, none⟩ 2 2 (bytesV [hexD q, hexD r]) (by rfl) rfl (by intro jj u hjj; match jj, hjj with | 0, hjj => simp [bytesV] at hjj; subst hjj; simp [Addr.add, hexD_at q hq3] | 1, hjj => simp [bytesV] at hjj; subst hjj; simp [Addr.add, hexD_at r hr3]) (by intro u hu; simp [bytesV] at hu; rcases hu with rfl | rfl <;> rfl) (by decide) (by unfold maxLen; omega) (by omega) (by simp; omega) _ rfl ?_; intro g cap w1 hown1 hgrow hat hltg))
      all_goals
        have hb := (HB.out.below (Below.refl _ _).drew).app (ys := [hexD q, hexD r]) hown1 hgrow
        have hb2 : BSt w (.slice (some ⟨g, 0, none⟩) ((hexL (s.data.toList.take i)).length + 2) cap) (hexL (s.data.toList.take (i + 1))) w1 := by
          rw [HS.out, show s[i].toNat / 16 = q by have := HQ.out; omega, ← HR.out]
          exact hb
        have HB2 := Lib.hid hb2
        clear hb hb2 hown1 hgrow hat hltg
        go_wp2_with fail
        go_roundw
        case rel => exact ⟨i + 1, by go_num, by omega, HB2.out⟩
        case measure => simp [intOf]; omega
    · have hge : ¬ i < s.size := by have := HN.out; omega
      have kc := HB.out.text
      have HE : Hid (s.data.toList.take i = s.data.toList) := List.take_of_length_le (by have := HL.out; omega)
      rw [HE.out] at kc
      clear hlt
      go_wp2_with fail
      go_ret
      exact ⟨rfl, HB.out.bel⟩
end Go.Proofs.YtneggbhjekklhaaDoor
