/- Walks: act.right, act.Right. -/
import Derived.Test.YtahckodhnkloeaaGreatDoorRightE
import Derived.Test.YtahckodhnkloeaaGreatDoorRightT
import Derived.Test.YtahckodhnkloeaaGreatDoorRightN
import Derived.Test.YtahckodhnkloeaaGreatDoorRightL
namespace Go.Proofs.YtahckodhnkloeaaGreatDoor
open Go Go.RowKit
theorem right_calls (a : Act) (ha : a.Ok) (w : World) : Calls Tryz.prog 75 #[a.agg] w fun e w' => e = .returned (.bool (actB a)) ∧ Below w.heap.size w w' := by
  obtain ⟨k, key, value, n⟩ := a
  by_cases hv : value = []
  · subst hv; exact right_empty k n key ha.key w
  · by_cases h20 : value.length ≤ 20
    · by_cases ht : value.all letByte = true
      · exact right_text k n key value ha.key hv ha.value h20 ht w
      · exact right_notext k n key value ha.key hv ha.value h20 ht w
    · exact right_long k n key value ha.key hv ha.value (by omega) w
end Go.Proofs.YtahckodhnkloeaaGreatDoor
