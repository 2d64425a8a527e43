/- Walk: act.Older, act.Name: of two names which is older; is a name one. -/
import Derived.Test.YtahckodhnkloeaaGreatDoorDo
namespace Go.Proofs.YtahckodhnkloeaaGreatDoor
open Go Go.RowKit

/-- A name as a value. -/
def nameV (c n : Int) : Value := .agg #[.int .i64 c, .int .i64 n]
def olderB (c n c' n' : Int) : Bool := decide (n < n') || (decide (n = n') && decide (c < c'))

set_option maxRecDepth 100000 in
set_option maxHeartbeats 2000000 in
theorem older_calls (c n c' n' : Int) (w : World) : Calls Tryz.prog 23 #[nameV c n, nameV c' n'] w fun e w' => e = .returned (.bool (olderB c n c' n')) ∧ Below w.heap.size w w' := by
  unfold nameV
  by_cases h1 : n < n'
  · go_enter Tryz.func23, Tryz.ntmps23
    go_wp2_with fail
    go_ret
    exact ⟨ret_bool (by simp [olderB, h1]), up_alloc (up_alloc (Below.refl _ _))⟩
  · by_cases h2 : n = n'
    · subst h2
      go_enter Tryz.func23, Tryz.ntmps23
      go_wp2_with fail
      go_ret
      exact ⟨ret_bool (by simp [olderB]), up_alloc (up_alloc (Below.refl _ _))⟩
    · go_enter Tryz.func23, Tryz.ntmps23
      go_wp2_with fail
      go_ret
      exact ⟨ret_bool (by simp [olderB, h1, h2]), up_alloc (up_alloc (Below.refl _ _))⟩
end Go.Proofs.YtahckodhnkloeaaGreatDoor
