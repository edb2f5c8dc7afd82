/- The slice types that this program appends to. -/
import Derived.Test.YtffhcifeccdfjaaDoorApp
import Derived.Test.YtffhcifeccdfjaaDoorChecked
namespace Go.Proofs.YtffhcifeccdfjaaDoor
set_option linter.unusedVariables false
set_option linter.unusedSimpArgs false
open Go.RowKit

theorem appInt : AppT Tryd.prog 34 3 1 8 := AppT.mk' (z := .int .i64 0) (by kernel_rfl) (by kernel_rfl) rfl (by decide) (by decide)
theorem zeroInt : ZeroT Tryd.prog 34 3 1 eI (0 : Int) := ZeroT.mk' (z := .int .i64 0) (by kernel_rfl) (by kernel_rfl) rfl (by decide) (bytes := 8) (by decide)
end Go.Proofs.YtffhcifeccdfjaaDoor
