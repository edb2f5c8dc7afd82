/- WindowAt of impl. -/
import Derived.Test.YtckgdlgdipfgmaaGreatIdx
namespace Go.Proofs.YtckgdlgdipfgmaaGreat
set_option linter.unusedVariables false
set_option linter.unusedSimpArgs false
open Go.RowKit Go.Shelf

def atP (place : Int) (wr : Bool) (x : Win) : Bool := x.has place && (x.wr || !wr)

def windowAt (xs : List Win) (place : Int) (wr : Bool) : Int := if winsOk xs then idxP (atP place wr) xs else -1

end Go.Proofs.YtckgdlgdipfgmaaGreat