/- The slice types that this program appends to. -/
import Derived.Test.YtmlodhogfejdjaaApp
import Derived.Test.YtmlodhogfejdjaaChecked
namespace Go.Proofs.Ytmlodhogfejdjaa
set_option linter.unusedVariables false
set_option linter.unusedSimpArgs false
open Go.RowKit

theorem appInt : AppT Try.prog 83 3 1 8 := AppT.mk' (z := .int .i64 0) (by kernel_rfl) (by kernel_rfl) rfl (by decide) (by decide)
theorem zeroInt : ZeroT Try.prog 83 3 1 eI (0 : Int) := ZeroT.mk' (z := .int .i64 0) (by kernel_rfl) (by kernel_rfl) rfl (by decide) (bytes := 8) (by decide)
theorem appSlot : AppT Try.prog 23 28 2 16 := AppT.mk' (z := .agg #[.int .i64 0, .int .i64 0]) (by kernel_rfl) (by kernel_rfl) rfl (by decide) (by decide)
theorem zeroSlot : ZeroT Try.prog 23 28 2 eS ((0, 0) : Int × Int) := ZeroT.mk' (z := .agg #[.int .i64 0, .int .i64 0]) (by kernel_rfl) (by kernel_rfl) rfl (by decide) (bytes := 16) (by decide)
theorem appChan : AppT Try.prog 40 45 4 32 := AppT.mk' (z := .agg #[.int .i64 0, .int .i64 0, .int .i64 0, .int .i64 0]) (by kernel_rfl) (by kernel_rfl) rfl (by decide) (by decide)
theorem zeroChan : ZeroT Try.prog 40 45 4 eC ((0, 0, 0, 0) : Int × Int × Int × Int) := ZeroT.mk' (z := .agg #[.int .i64 0, .int .i64 0, .int .i64 0, .int .i64 0]) (by kernel_rfl) (by kernel_rfl) rfl (by decide) (bytes := 32) (by decide)
end Go.Proofs.Ytmlodhogfejdjaa
