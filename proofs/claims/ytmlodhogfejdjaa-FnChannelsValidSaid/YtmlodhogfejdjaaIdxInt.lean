/- slices.IndexFunc, slices.ContainsFunc at int. -/
import Derived.Test.YtmlodhogfejdjaaBase
import Derived.Test.YtmlodhogfejdjaaChecked
import Derived.Shelf.Abstract
namespace Go.Proofs.Ytmlodhogfejdjaa
open Go.RowKit Go.Shelf

end Go.Proofs.Ytmlodhogfejdjaa