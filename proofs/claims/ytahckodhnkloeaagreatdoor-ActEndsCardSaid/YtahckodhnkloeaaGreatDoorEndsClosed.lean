/-
  The closed facts of the row actEnds.
-/
import Derived.Test.YtahckodhnkloeaaGreatDoorRows
import Derived.ProofKit
import Derived.SevenTiedAt
namespace Go.Proofs.YtahckodhnkloeaaGreatDoor
open Go Go.RowKit Go.ChangeShapes Go.WideShapes Go.ChangeAt
theorem actEnds_and {a b : Bool} (h : a = true) (k : b = true) : (a && b) = true := by rw [h, k]; rfl
set_option maxHeartbeats 0 in
theorem actEnds_closed : joinedFacts Tryz.pinned.checked.prog 4 Tryz.f4 Rows.actEndsSpec Rows.actEndsRow = true := by
  unfold joinedFacts
  repeat' (with_reducible refine actEnds_and ?_ ?_)
  all_goals (as_aux_lemma => kernel_rfl)
end Go.Proofs.YtahckodhnkloeaaGreatDoor
