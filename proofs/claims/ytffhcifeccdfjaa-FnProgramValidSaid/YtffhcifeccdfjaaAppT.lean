/- The slice types that this program appends to. -/
import Derived.Test.YtffhcifeccdfjaaApp
import Derived.Test.YtffhcifeccdfjaaChecked
namespace Go.Proofs.Ytffhcifeccdfjaa
set_option linter.unusedVariables false
set_option linter.unusedSimpArgs false
open Go.RowKit

theorem appInt : AppT Try.prog 38 3 1 8 := AppT.mk' (z := .int .i64 0) (by kernel_rfl) (by kernel_rfl) rfl (by decide) (by decide)
theorem zeroInt : ZeroT Try.prog 38 3 1 eI (0 : Int) := ZeroT.mk' (z := .int .i64 0) (by kernel_rfl) (by kernel_rfl) rfl (by decide) (bytes := 8) (by decide)
theorem appOrd : AppT Try.prog 43 48 3 24 := AppT.mk' (z := .agg #[.int .i64 0, .int .i64 0, .int .i64 0]) (by kernel_rfl) (by kernel_rfl) rfl (by decide) (by decide)
theorem zeroOrd : ZeroT Try.prog 43 48 3 eO ((0, 0, 0) : Int × Int × Int) := ZeroT.mk' (z := .agg #[.int .i64 0, .int .i64 0, .int .i64 0]) (by kernel_rfl) (by kernel_rfl) rfl (by decide) (bytes := 24) (by decide)
end Go.Proofs.Ytffhcifeccdfjaa
