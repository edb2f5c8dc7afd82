/- The slice types that this program appends to. -/
import Derived.Test.YtckgdlgdipfgmaaApp
import Derived.Test.YtckgdlgdipfgmaaChecked
namespace Go.Proofs.Ytckgdlgdipfgmaa
set_option linter.unusedVariables false
set_option linter.unusedSimpArgs false
open Go.RowKit

theorem appInt : AppT Try.prog 53 3 1 8 := AppT.mk' (z := .int .i64 0) (by kernel_rfl) (by kernel_rfl) rfl (by decide) (by decide)
theorem zeroInt : ZeroT Try.prog 53 3 1 eI (0 : Int) := ZeroT.mk' (z := .int .i64 0) (by kernel_rfl) (by kernel_rfl) rfl (by decide) (bytes := 8) (by decide)
theorem appSlot : AppT Try.prog 36 110 2 16 := AppT.mk' (z := .agg #[.int .i64 0, .int .i64 0]) (by kernel_rfl) (by kernel_rfl) rfl (by decide) (by decide)
theorem zeroSlot : ZeroT Try.prog 36 110 2 eS ((0, 0) : Int × Int) := ZeroT.mk' (z := .agg #[.int .i64 0, .int .i64 0]) (by kernel_rfl) (by kernel_rfl) rfl (by decide) (bytes := 16) (by decide)
theorem appChan : AppT Try.prog 35 64 4 32 := AppT.mk' (z := .agg #[.int .i64 0, .int .i64 0, .int .i64 0, .int .i64 0]) (by kernel_rfl) (by kernel_rfl) rfl (by decide) (by decide)
theorem zeroChan : ZeroT Try.prog 35 64 4 eC ((0, 0, 0, 0) : Int × Int × Int × Int) := ZeroT.mk' (z := .agg #[.int .i64 0, .int .i64 0, .int .i64 0, .int .i64 0]) (by kernel_rfl) (by kernel_rfl) rfl (by decide) (bytes := 32) (by decide)
theorem appOrd : AppT Try.prog 56 112 3 24 := AppT.mk' (z := .agg #[.int .i64 0, .int .i64 0, .int .i64 0]) (by kernel_rfl) (by kernel_rfl) rfl (by decide) (by decide)
theorem zeroOrd : ZeroT Try.prog 56 112 3 eO ((0, 0, 0) : Int × Int × Int) := ZeroT.mk' (z := .agg #[.int .i64 0, .int .i64 0, .int .i64 0]) (by kernel_rfl) (by kernel_rfl) rfl (by decide) (bytes := 24) (by decide)
end Go.Proofs.Ytckgdlgdipfgmaa
