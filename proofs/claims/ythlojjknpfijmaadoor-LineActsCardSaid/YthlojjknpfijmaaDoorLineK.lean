/- A line of the call's own, led through acts; the closed fact of two letters. -/
import Derived.Test.YthlojjknpfijmaaDoorLineD
namespace Go.Proofs.YthlojjknpfijmaaDoor
open Go Go.RowKit Go.Shelf
set_option linter.unusedVariables false
set_option linter.unusedSimpArgs false
set_option maxHeartbeats 4000000
set_option maxRecDepth 100000

/-- a line that the call made: how it lies, and that nothing older has changed -/
structure LK (w0 : World) (LB : Nat) (v : Value) (L : List Lt) (w : World) : Prop where
  st : LineSt w0.heap.size LB v L w
  bel : Below w0.heap.size w0 w
theorem LK.below {w0 w w' : World} {LB : Nat} {v : Value} {L : List Lt} (h : LK w0 LB v L w) (hb : Below w.heap.size w w') : LK w0 LB v L w' :=
  ⟨h.st.below hb, h.bel.trans (hb.mono h.bel.size)⟩
theorem LK.own_lt {w0 w : World} {LB : Nat} {v : Value} {L : List Lt} (h : LK w0 LB v L w) : ∀ k, Own LB v k → w0.heap.size ≤ k ∧ k < w.heap.size := fun k hk => by
  rcases hk with rfl | hk
  · exact ⟨h.st.ge, h.st.lt⟩
  · exact h.st.own.lt k hk
theorem LK.fr {w0 w w' : World} {LB : Nat} {v v' : Value} {L L' : List Lt} (h : LK w0 LB v L w) (hs : LineSt w0.heap.size LB v' L' w') (hf : Fr (Own LB v) w w') : LK w0 LB v' L' w' :=
  ⟨hs, h.bel.trans (hf.below h.bel.size (fun k hk => (h.own_lt k hk).1))⟩
theorem LK.start {w0 w : World} (h : Below w0.heap.size w0 w) : LK w0 w.heap.size (.slice none 0 0) [] (w.alloc (.cells #[.slice none 0 0] 113)) :=
  ⟨LineSt.new _ w h.size, h.alloc h.size _⟩

/-- what an act makes of a line -/
def LTo (w0 : World) (LB : Nat) (v : Value) (L' : List Lt) (w w' : World) : Prop := ∃ v', LK w0 LB v' L' w' ∧ Fr (Own LB v) w w'

theorem lineInsert_ok {F : Nat → Bool} (ea : Nat → Addr) (w0 : World) (LB : Nat) (v : Value) (id behind : Int) (c : UInt8) (L : List Lt) (w : World) (hG : Gd F ea w0) (f3 : F 3 = true) (f6 : F 6 = true) (f7 : F 7 = true) (h : LK w0 LB v L w) (hn2 : L.length ≤ 1000) (he : insErr id behind L = 0) :
    Calls Tryd.prog 15 #[.pointer (some ⟨LB, 0, none⟩), .int .i64 id, .int .i64 behind, .int .u8 c.toNat] w fun e w' => e = .returned .nilIface ∧ LTo w0 LB v (insL id behind c L) w w' :=
  (lineInsert_any ea w0.heap.size LB v id behind c L w (hG.below h.bel) f3 f6 f7 h.st hn2 h.bel.size).mono fun e w' ⟨h1, v', h2, h3, _⟩ => by
    rw [he, if_pos rfl] at h1
    unfold insAfter at h2
    rw [if_pos he] at h2
    exact ⟨h1, v', h.fr h2 h3, h3⟩
theorem lineInsert_err {F : Nat → Bool} (ea : Nat → Addr) (w0 : World) (LB : Nat) (v : Value) (id behind : Int) (c : UInt8) (L : List Lt) (w : World) (hG : Gd F ea w0) (f3 : F 3 = true) (f6 : F 6 = true) (f7 : F 7 = true) (h : LK w0 LB v L w) (hn2 : L.length ≤ 1000) (k : Nat) (he : insErr id behind L = k) (hk : k ≠ 0) :
    Calls Tryd.prog 15 #[.pointer (some ⟨LB, 0, none⟩), .int .i64 id, .int .i64 behind, .int .u8 c.toNat] w fun e w' => e = .returned (errV (ea k)) ∧ LTo w0 LB v L w w' :=
  (lineInsert_any ea w0.heap.size LB v id behind c L w (hG.below h.bel) f3 f6 f7 h.st hn2 h.bel.size).mono fun e w' ⟨h1, v', h2, h3, _⟩ => by
    rw [he, if_neg hk] at h1
    unfold insAfter at h2
    rw [he, if_neg hk] at h2
    exact ⟨h1, v', h.fr h2 h3, h3⟩
theorem lineInsert_ok2 {F : Nat → Bool} (ea : Nat → Addr) (w0 : World) (LB : Nat) (v : Value) (id behind : Int) (c : UInt8) (L : List Lt) (w : World) (hG : Gd F ea w0) (f3 : F 3 = true) (f6 : F 6 = true) (f7 : F 7 = true) (h : LK w0 LB v L w) (hn2 : L.length ≤ 1000) (he : insErr id behind L = 0) :
    Calls Tryd.prog 15 #[.pointer (some ⟨LB, 0, none⟩), .int .i64 id, .int .i64 behind, .int .u8 c.toNat] w fun e w' => e = .returned .nilIface ∧ ∃ v', LK w0 LB v' (insL id behind c L) w' ∧ Fr (Own LB v) w w' ∧ ∀ k, v'.ownBlock = some k → v.ownBlock = some k ∨ w.heap.size ≤ k :=
  (lineInsert_any ea w0.heap.size LB v id behind c L w (hG.below h.bel) f3 f6 f7 h.st hn2 h.bel.size).mono fun e w' ⟨h1, v', h2, h3, h4⟩ => by
    rw [he, if_pos rfl] at h1
    unfold insAfter at h2
    rw [if_pos he] at h2
    exact ⟨h1, v', h.fr h2 h3, h3, h4⟩
theorem lineDelete_to {F : Nat → Bool} (ea : Nat → Addr) (w0 : World) (LB : Nat) (v : Value) (id : Int) (L : List Lt) (w : World) (hG : Gd F ea w0) (f6 : F 6 = true) (h : LK w0 LB v L w) (hn2 : L.length ≤ 1000) (E : Value) (hE : (if ixOf id L < 0 then errV (ea 6) else .nilIface) = E) :
    Calls Tryd.prog 19 #[.pointer (some ⟨LB, 0, none⟩), .int .i64 id] w fun e w' => e = .returned E ∧ LTo w0 LB v (delL id L) w w' :=
  (line_delete ea w0.heap.size LB v id L w (hG.below h.bel) f6 h.st hn2).mono fun e w' ⟨h1, h2, h3⟩ => by
    rw [hE] at h1
    exact ⟨h1, v, h.fr h2 h3, h3⟩

theorem lined_any {F : Nat → Bool} (ea : Nat → Addr) (w : World) (hG : Gd F ea w) (f3 : F 3 = true) (f6 : F 6 = true) (f7 : F 7 = true) :
    Calls Tryd.prog 13 #[] w fun e w' => e = .returned (.bool true) ∧ Below w.heap.size w w' := by
  have HK := Lib.hid (LK.start (Below.refl w.heap.size w))
  have HG := Lib.hid hG
  clear hG
  go_enter Tryd.func13, Tryd.ntmps13
  go_wp2_with fail
  refine (line_new _).mono ?_
  rintro e w1 ⟨rfl, rfl⟩
  obtain ⟨W1, hW1⟩ : ∃ W1, W1 = w.alloc (.cells #[.slice none 0 0] 113) := ⟨_, rfl⟩
  rw [← hW1] at HK ⊢
  clear hW1
  have HI : Hid (Calls Tryd.prog 15 #[.pointer (some ⟨w.heap.size, 0, none⟩), .int .i64 8, .int .i64 0, .int .u8 98] W1 fun e w' => e = .returned .nilIface ∧ LTo w w.heap.size (.slice none 0 0) (insL 8 0 98 []) W1 w') :=
    Lib.hid (lineInsert_ok ea w w.heap.size (.slice none 0 0) 8 0 98 [] W1 HG.out f3 f6 f7 HK.out (by simp) (by decide))
  go_wp2_with fail
  refine HI.out.mono ?_
  rintro e w2 ⟨rfl, v2, hk2, -⟩
  have HI2 : Hid (Calls Tryd.prog 15 #[.pointer (some ⟨w.heap.size, 0, none⟩), .int .i64 12, .int .i64 0, .int .u8 97] w2 fun e w' => e = .returned .nilIface ∧ LTo w w.heap.size v2 (insL 12 0 97 (insL 8 0 98 [])) w2 w') :=
    Lib.hid (lineInsert_ok ea w w.heap.size v2 12 0 97 _ w2 HG.out f3 f6 f7 hk2 (by rw [insL_len]; simp) (by decide))
  clear hk2 HI HK
  go_wp2_with fail
  refine HI2.out.mono ?_
  rintro e w3 ⟨rfl, v3, hk3, -⟩
  have HT : Hid (Calls Tryd.prog 16 #[.pointer (some ⟨w.heap.size, 0, none⟩)] w3 fun e w' => e = .returned (.string ⟨#[97, 98]⟩) ∧ Below w3.heap.size w3 w') :=
    Lib.hid (line_text w.heap.size _ w3 hk3.st.at' (by rw [insL_len, insL_len]; simp))
  have HB := Lib.hid hk3.bel
  clear hk3 HI2
  go_wp2_with fail
  refine HT.out.mono ?_
  rintro e w4 ⟨rfl, hb4⟩
  have HB4 := Lib.hid (HB.out.trans (hb4.mono HB.out.size))
  clear hb4
  go_wp2_with fail
  go_ret
  exact ⟨rfl, HB4.out⟩
end Go.Proofs.YthlojjknpfijmaaDoor
