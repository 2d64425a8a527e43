/-
  The closed facts of the row actTells.
-/
import Derived.Test.YtahckodhnkloeaaGreatDoorRows
import Derived.ProofKit
import Derived.SevenTiedAt
namespace Go.Proofs.YtahckodhnkloeaaGreatDoor
open Go Go.RowKit Go.ChangeShapes Go.WideShapes Go.ChangeAt
theorem actTells_and {a b : Bool} (h : a = true) (k : b = true) : (a && b) = true := by rw [h, k]; rfl
set_option maxHeartbeats 0 in
theorem actTells_closed : joinedFacts Tryz.pinned.checked.prog 3 Tryz.f3 Rows.actTellsSpec Rows.actTellsRow = true := by
  unfold joinedFacts
  repeat' (with_reducible refine actTells_and ?_ ?_)
  all_goals (as_aux_lemma => kernel_rfl)
end Go.Proofs.YtahckodhnkloeaaGreatDoor
