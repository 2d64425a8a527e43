/- From the variables that a row lists to what the walks ask of memory. -/
import Derived.Test.YtahckodhnkloeaaGreatDoorRows
import Derived.Test.YtahckodhnkloeaaGreatDoorNum
import Derived.ProofKit
import Derived.Lib.LaidTab
import Derived.Stop.LaidErr
import Derived.LaidOnce
import Derived.Lay
import Derived.OpenShut
import Derived.ShutString
import Derived.SizedLaws
namespace Go.Proofs.YtahckodhnkloeaaGreatDoor
open Go Go.RowKit Go.ChangeShapes Go.WideShapes

theorem own : ownKnob Tryz.prog.godebug = none := by kernel_rfl
def laidL : List (String × DataW Unit) := [("math/bits.deBruijn32tab", Rows.laid_math_bits_deBruijn32tab), ("math/bits.deBruijn64tab", Rows.laid_math_bits_deBruijn64tab), ("internal/strconv.uint64pow10", Rows.laid_internal_strconv_uint64pow10), ("unicode/utf8.acceptRanges", Rows.laid_unicode_utf8_acceptRanges), ("strconv.ErrRange", Rows.laid_strconv_ErrRange), ("strconv.ErrSyntax", Rows.laid_strconv_ErrSyntax), ("unicode/utf8.first", Rows.laid_unicode_utf8_first)]
theorem gPow : Tryz.prog.globalNamed "internal/strconv.uint64pow10" = some 5 := by kernel_rfl
theorem gPowType : (Tryz.prog.globals[5]?).map (·.type) = some 381 := by kernel_rfl
theorem gRange : Tryz.prog.globalNamed "strconv.ErrRange" = some 1 := by kernel_rfl
theorem gRangeType : (Tryz.prog.globals[1]?).map (·.type) = some 133 := by kernel_rfl
theorem pow_data : Rows.laid_internal_strconv_uint64pow10 (H := Unit) = Lib.tabData .u64 Lib.pow10Tab := by kernel_rfl
theorem cellsU64 : Tryz.prog.cellsOf 268 = 1 := by kernel_rfl
theorem cellsTab : Tryz.prog.cellsOf 381 = 20 := by kernel_rfl
theorem cellsErr : Tryz.prog.cellsOf 375 = 1 := by kernel_rfl
theorem cellsStr : Tryz.prog.cellsOf 9 = 1 := by kernel_rfl
theorem star : "*" ++ "errors.errorString" = "*errors.errorString" := by decide
theorem rowErr (u : TypeId) (h : Tryz.prog.typeName? 3 u = some "*errors.errorString") : u = 373 :=
  typeName_ptr_named (nm := "errors.errorString") (by rw [star]; kernel_rfl) (by kernel_rfl) (by decide) u (by rw [star]; exact h)
theorem env_of {W : World} (h : laidMet Tryz.prog laidL W) : Env W := by
  have h1 : laidMet Tryz.prog (("internal/strconv.uint64pow10", Lib.tabData .u64 Lib.pow10Tab) :: _) W := pow_data ▸ h.tail.tail
  obtain ⟨a, s, hv, _⟩ := laid_sentinel h.tail.tail.tail.tail gRange gRangeType Tryz.underlying133 rowErr Tryz.underlying373 Tryz.underlying375 rfl rfl Tryz.underlying9 cellsErr cellsStr
  exact ⟨Lib.tabIs_of_head gPow gPowType Tryz.underlying381 Tryz.underlying268 cellsU64 cellsTab h1, _, _, hv⟩
end Go.Proofs.YtahckodhnkloeaaGreatDoor
