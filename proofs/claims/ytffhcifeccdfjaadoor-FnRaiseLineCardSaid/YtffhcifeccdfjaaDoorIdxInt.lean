/- slices.IndexFunc, slices.ContainsFunc at int. -/
import Derived.Test.YtffhcifeccdfjaaDoorBase
import Derived.Test.YtffhcifeccdfjaaDoorChecked
import Derived.Shelf.Abstract
namespace Go.Proofs.YtffhcifeccdfjaaDoor
set_option linter.unusedVariables false
set_option linter.unusedSimpArgs false
open Go.RowKit Go.Shelf

end Go.Proofs.YtffhcifeccdfjaaDoor