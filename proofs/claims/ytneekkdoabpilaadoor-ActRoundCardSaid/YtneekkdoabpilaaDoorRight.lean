/- Walks: act.right, act.Right. -/
import Derived.Test.YtneekkdoabpilaaDoorRightE
import Derived.Test.YtneekkdoabpilaaDoorRightT
import Derived.Test.YtneekkdoabpilaaDoorRightN
import Derived.Test.YtneekkdoabpilaaDoorRightL
namespace Go.Proofs.YtneekkdoabpilaaDoor
open Go Go.RowKit
theorem right_calls (a : Act) (ha : a.Ok) (w : World) : Calls Tryd.prog 31 #[a.agg] w fun e w' => e = .returned (.bool (actB a)) ∧ Below w.heap.size w w' := by
  obtain ⟨k, key, value, n⟩ := a
  by_cases hv : value = []
  · subst hv; exact right_empty k n key ha.key w
  · by_cases h20 : value.length ≤ 20
    · by_cases ht : value.all letByte = true
      · exact right_text k n key value ha.key hv ha.value h20 ht w
      · exact right_notext k n key value ha.key hv ha.value h20 ht w
    · exact right_long k n key value ha.key hv ha.value (by omega) w
end Go.Proofs.YtneekkdoabpilaaDoor
