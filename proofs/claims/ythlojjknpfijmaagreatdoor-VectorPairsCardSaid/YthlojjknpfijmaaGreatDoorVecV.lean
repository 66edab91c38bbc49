/- The document's VectorOf at every text. -/
import Derived.Test.YthlojjknpfijmaaGreatDoorVecF
import Derived.Test.YthlojjknpfijmaaGreatDoorSplit
namespace Go.Proofs.YthlojjknpfijmaaGreatDoor
open Go Go.RowKit
set_option linter.unusedVariables false
set_option linter.unusedSimpArgs false
set_option maxHeartbeats 4000000
set_option maxRecDepth 100000

open Num in
theorem vectorOf_any (s : ByteArray) (w : World) (hs : s.size ≤ 1000) :
    Calls Tryz.prog 17 #[.string s] w (VecOfEnds (cutL 46 s.data.toList) w) := by
  have hcut : ∀ w, Calls Tryz.prog 35 #[.string s, .int .u8 46] w (GivesTexts (cutL 46 s.data.toList) w) := fun w => cut_any 46 46 s w rfl hs
  have hl := cutL_len 46 s.data.toList
  have hm := cutL_mem 46 s.data.toList
  have hsz : s.data.toList.length = s.size := rfl
  by_cases h4 : (cutL 46 s.data.toList).length = 4
  · generalize cutL 46 s.data.toList = xs at hcut hm h4 ⊢
    match xs, h4 with
    | [w0, w1, w2, w3], _ =>
      have k : ∀ x, x ∈ [w0, w1, w2, w3] → TxtGives x (Num.numOf x 4) := fun x hx w => by
        have := numberOf_any (S x) 4 w (by rw [S_size]; have := hm x hx; omega) (by omega)
        rwa [S_list] at this
      exact vectorOf_four s w0 w1 w2 w3 _ _ _ _ w hcut (k _ (by simp)) (k _ (by simp)) (k _ (by simp)) (k _ (by simp)) rfl rfl rfl rfl
  · exact vectorOf_short s _ w h4 (by omega) hcut

end Go.Proofs.YthlojjknpfijmaaGreatDoor
