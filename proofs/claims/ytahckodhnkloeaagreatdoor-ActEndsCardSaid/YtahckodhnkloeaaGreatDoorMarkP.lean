/- The mark of a place in a list of acts, in the print's words. -/
import Derived.Test.YtahckodhnkloeaaGreatDoorMark
import Derived.Test.YtahckodhnkloeaaGreatDoorPBaseA
namespace Go.Proofs.YtahckodhnkloeaaGreatDoor
open Go Go.RowKit
/-- A text as bytes; an act as the print has it. -/
def ba (t : Txt) : ByteArray := ⟨t.toArray⟩
def s51 (a : Act) : PAll.S51 := ⟨a.kind, ba a.key, ba a.value, a.num⟩
def PAll.watershedkit_markAct.f (a0 a1 : Int) : Option (Int × ByteArray × ByteArray × Int) := some (0, ba (markT a0 a1), ba [], 0)
theorem PAll.watershedkit_markAct.calls (a0 : Int) (a1 : Int) (r1 : Int) (r2 : ByteArray) (r3 : ByteArray) (r4 : Int) (w : World) (h : PAll.watershedkit_markAct.f a0 a1 = some (r1, r2, r3, r4)) :
    Calls Tryz.prog 68 #[.int .i64 a0, .int .i64 a1] w fun e w' => e = .returned (.agg #[.int .u8 r1, .string r2, .string r3, .int .i64 r4]) ∧ Below w.heap.size w w' := by
  cases h
  exact markAct_calls a0 a1 w
end Go.Proofs.YtahckodhnkloeaaGreatDoor
