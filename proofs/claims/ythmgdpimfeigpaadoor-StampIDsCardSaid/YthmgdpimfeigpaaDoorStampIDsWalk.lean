/- StampIDs: the walk of the law over any two stamps. -/
import Derived.Test.YthmgdpimfeigpaaDoorStamp
namespace Go.Proofs.YthmgdpimfeigpaaDoor
open Go Go.RowKit
namespace stampIDs
set_option linter.unusedVariables false
set_option maxHeartbeats 2000000

theorem walk_ok (t b t' b' : Int) (w : World) (h : StampOk t b) (g : StampOk t' b') :
    Calls Tryd.prog 3 #[stampV t b, stampV t' b'] w fun e w' => e = .returned (.bool true) ∧ Below w.heap.size w w' := by
  obtain ⟨h1, h2, h3, h4⟩ := h
  obtain ⟨g1, g2, g3, g4⟩ := g
  have e1 : (t * 4 + b) / 4 = t := by omega
  have e2 : (t * 4 + b) % 4 = b := by omega
  have e3 : (t' * 4 + b') / 4 = t' := by omega
  have e4 : (t' * 4 + b') % 4 = b' := by omega
  rcases Int.lt_trichotomy t t' with ht | rfl | ht
  · go_enter Tryd.func3, Tryd.ntmps3
    go_wp2
    go_ret
    exact ⟨by simp <;> omega, by go_grown⟩
  · clear e3
    rcases Int.lt_trichotomy b b' with hb | rfl | hb
    · go_enter Tryd.func3, Tryd.ntmps3
      go_wp2
      go_ret
      exact ⟨by simp <;> omega, by go_grown⟩
    · clear e4
      go_enter Tryd.func3, Tryd.ntmps3
      go_wp2
      go_ret
      exact ⟨by simp, by go_grown⟩
    · go_enter Tryd.func3, Tryd.ntmps3
      go_wp2
      go_ret
      exact ⟨by simp <;> omega, by go_grown⟩
  · go_enter Tryd.func3, Tryd.ntmps3
    go_wp2
    go_ret
    exact ⟨by simp <;> omega, by go_grown⟩

set_option maxRecDepth 100000 in
theorem walk_bad1 (t b t' b' : Int) (w : World) (a : Addr) (hE : ErrAt w 1 (errT 2) a) (h : ¬ StampOk t b) :
    Calls Tryd.prog 3 #[stampV t b, stampV t' b'] w fun e w' => e = .returned (.bool true) ∧ Below w.heap.size w w' := by
  have HS := stamped_any
  go_enter Tryd.func3, Tryd.ntmps3
  go_wp2_with fail
  refine (stamped_any _).mono ?_
  rintro e w1 ⟨rfl, hb1⟩
  have hE1 := ((hE.alloc (.cells #[.int .i64 t, .int .i64 b] 23)).alloc (.cells #[.int .i64 t', .int .i64 b'] 23)).below hb1
  have c1 := hb1.cell (p := ⟨w.heap.size, 0, none⟩) (by simp <;> omega)
  have c2 := hb1.cell (p := ⟨w.heap.size, 1, none⟩) (by simp <;> omega)
  have c3 := hb1.cell (p := ⟨w.heap.size + 1, 0, none⟩) (by simp <;> omega)
  have c4 := hb1.cell (p := ⟨w.heap.size + 1, 1, none⟩) (by simp <;> omega)
  simp [go_sem] at c1 c2 c3 c4
  go_wp2_with fail
  refine (id_bad t b w1 a _ hE1 h).mono ?_
  rintro e w2 ⟨rfl, hb2⟩
  have hz1 := hb1.size
  simp at hz1
  have d3 := hb2.cell (p := ⟨w.heap.size + 1, 0, none⟩) (by simp; omega)
  have d4 := hb2.cell (p := ⟨w.heap.size + 1, 1, none⟩) (by simp; omega)
  rw [c3] at d3
  rw [c4] at d4
  have hE2 := hE1.below hb2
  have hB2 : Below w.heap.size w w2 := (((Below.refl _ _).alloc (Nat.le_refl _) _).alloc (by simp) _).trans ((hb1.mono (by simp; omega)).trans (hb2.mono (by omega)))
  clear c1 c2 c3 c4
  by_cases g : StampOk t' b'
  · go_wp2_with (go_at_call 15; refine (id_ok t' b' w2 g).mono ?_; rintro e w3 ⟨rfl, hb3⟩)
    go_ret
    exact ⟨rfl, hB2.trans (hb3.mono hB2.size)⟩
  · go_wp2_with (go_at_call 15; refine (id_bad t' b' w2 a _ hE2 g).mono ?_; rintro e w3 ⟨rfl, hb3⟩)
    go_ret
    exact ⟨rfl, hB2.trans (hb3.mono hB2.size)⟩

set_option maxRecDepth 100000 in
theorem walk_bad2 (t b t' b' : Int) (w : World) (a : Addr) (hE : ErrAt w 1 (errT 2) a) (h : StampOk t b) (g : ¬ StampOk t' b') :
    Calls Tryd.prog 3 #[stampV t b, stampV t' b'] w fun e w' => e = .returned (.bool true) ∧ Below w.heap.size w w' := by
  go_enter Tryd.func3, Tryd.ntmps3
  go_wp2_with fail
  refine (stamped_any _).mono ?_
  rintro e w1 ⟨rfl, hb1⟩
  have hE1 := ((hE.alloc (.cells #[.int .i64 t, .int .i64 b] 23)).alloc (.cells #[.int .i64 t', .int .i64 b'] 23)).below hb1
  have c1 := hb1.cell (p := ⟨w.heap.size, 0, none⟩) (by simp <;> omega)
  have c2 := hb1.cell (p := ⟨w.heap.size, 1, none⟩) (by simp <;> omega)
  have c3 := hb1.cell (p := ⟨w.heap.size + 1, 0, none⟩) (by simp <;> omega)
  have c4 := hb1.cell (p := ⟨w.heap.size + 1, 1, none⟩) (by simp <;> omega)
  simp [go_sem] at c1 c2 c3 c4
  go_wp2_with fail
  refine (id_ok t b w1 h).mono ?_
  rintro e w2 ⟨rfl, hb2⟩
  have hz1 := hb1.size
  simp at hz1
  have d3 := hb2.cell (p := ⟨w.heap.size + 1, 0, none⟩) (by simp; omega)
  have d4 := hb2.cell (p := ⟨w.heap.size + 1, 1, none⟩) (by simp; omega)
  rw [c3] at d3
  rw [c4] at d4
  have hE2 := hE1.below hb2
  have hB2 : Below w.heap.size w w2 := (((Below.refl _ _).alloc (Nat.le_refl _) _).alloc (by simp) _).trans ((hb1.mono (by simp; omega)).trans (hb2.mono (by omega)))
  clear c1 c2 c3 c4
  go_wp2_with (go_at_call 15; refine (id_bad t' b' w2 a _ hE2 g).mono ?_; rintro e w3 ⟨rfl, hb3⟩)
  go_ret
  exact ⟨rfl, hB2.trans (hb3.mono hB2.size)⟩

theorem walk (t b t' b' : Int) (w : World) (a : Addr) (hE : ErrAt w 1 (errT 2) a) :
    Calls Tryd.prog 3 #[stampV t b, stampV t' b'] w fun e w' => e = .returned (.bool true) ∧ Below w.heap.size w w' := by
  by_cases h : StampOk t b
  · by_cases g : StampOk t' b'
    · exact walk_ok t b t' b' w h g
    · exact walk_bad2 t b t' b' w a hE h g
  · exact walk_bad1 t b t' b' w a hE h

end stampIDs
end Go.Proofs.YthmgdpimfeigpaaDoor
