/- Keys and numbers: the draws. -/
import Derived.Test.YtffhcifeccdfjaaPick
import Derived.Test.YtffhcifeccdfjaaAppT
namespace Go.Proofs.Ytffhcifeccdfjaa
set_option linter.unusedVariables false
set_option linter.unusedSimpArgs false
open Go.RowKit

def i64ok (y : Int) : Prop := -9223372036854775808 ≤ y ∧ y < 9223372036854775808
def kvV (x : Int × SV Int) : Value := .tuple #[.int .i64 x.1, x.2.v]
end Go.Proofs.Ytffhcifeccdfjaa