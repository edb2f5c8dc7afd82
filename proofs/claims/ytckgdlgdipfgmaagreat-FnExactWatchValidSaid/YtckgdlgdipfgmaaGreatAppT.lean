/- The slice types that this program appends to. -/
import Derived.Test.YtckgdlgdipfgmaaGreatApp
import Derived.Test.YtckgdlgdipfgmaaGreatChecked
namespace Go.Proofs.YtckgdlgdipfgmaaGreat
set_option linter.unusedVariables false
set_option linter.unusedSimpArgs false
open Go.RowKit

theorem appInt : AppT Tryz.prog 47 3 1 8 := AppT.mk' (z := .int .i64 0) (by kernel_rfl) (by kernel_rfl) rfl (by decide) (by decide)
theorem zeroInt : ZeroT Tryz.prog 47 3 1 eI (0 : Int) := ZeroT.mk' (z := .int .i64 0) (by kernel_rfl) (by kernel_rfl) rfl (by decide) (bytes := 8) (by decide)
theorem appSlot : AppT Tryz.prog 36 123 2 16 := AppT.mk' (z := .agg #[.int .i64 0, .int .i64 0]) (by kernel_rfl) (by kernel_rfl) rfl (by decide) (by decide)
theorem zeroSlot : ZeroT Tryz.prog 36 123 2 eS ((0, 0) : Int × Int) := ZeroT.mk' (z := .agg #[.int .i64 0, .int .i64 0]) (by kernel_rfl) (by kernel_rfl) rfl (by decide) (bytes := 16) (by decide)
theorem appChan : AppT Tryz.prog 35 78 4 32 := AppT.mk' (z := .agg #[.int .i64 0, .int .i64 0, .int .i64 0, .int .i64 0]) (by kernel_rfl) (by kernel_rfl) rfl (by decide) (by decide)
theorem zeroChan : ZeroT Tryz.prog 35 78 4 eC ((0, 0, 0, 0) : Int × Int × Int × Int) := ZeroT.mk' (z := .agg #[.int .i64 0, .int .i64 0, .int .i64 0, .int .i64 0]) (by kernel_rfl) (by kernel_rfl) rfl (by decide) (bytes := 32) (by decide)
theorem appOrd : AppT Tryz.prog 76 87 3 24 := AppT.mk' (z := .agg #[.int .i64 0, .int .i64 0, .int .i64 0]) (by kernel_rfl) (by kernel_rfl) rfl (by decide) (by decide)
theorem zeroOrd : ZeroT Tryz.prog 76 87 3 eO ((0, 0, 0) : Int × Int × Int) := ZeroT.mk' (z := .agg #[.int .i64 0, .int .i64 0, .int .i64 0]) (by kernel_rfl) (by kernel_rfl) rfl (by decide) (bytes := 24) (by decide)
end Go.Proofs.YtckgdlgdipfgmaaGreat
