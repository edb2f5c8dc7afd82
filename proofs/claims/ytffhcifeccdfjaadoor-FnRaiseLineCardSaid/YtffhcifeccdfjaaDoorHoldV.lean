/- HoldValid of impl and spec. -/
import Derived.Test.YtffhcifeccdfjaaDoorSel
import Derived.Test.YtffhcifeccdfjaaDoorL1In
import Derived.Test.YtffhcifeccdfjaaDoorIdxInt
namespace Go.Proofs.YtffhcifeccdfjaaDoor
set_option linter.unusedVariables false
set_option linter.unusedSimpArgs false
open Go.RowKit Go.Shelf

def sizedOk (kind size : Int) : Bool := (kind == 1 && size == 1) || ((kind == 2 || kind == 3) && inB size 1 4)
def holdOk (xs : List Int) (kind size : Int) : Bool := sizedOk kind size && (decide ((xs.length : Int) ≤ size) && xs.all fun x => inB x 0 255)
theorem any_notH (p : Int → Bool) (xs : List Int) : (!xs.any fun x => !p x) = xs.all p := by
  induction xs with
  | nil => rfl
  | cons a l ih => simp [← ih]

end Go.Proofs.YtffhcifeccdfjaaDoor