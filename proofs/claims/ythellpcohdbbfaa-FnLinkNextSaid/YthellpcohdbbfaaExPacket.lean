/- The exact laws' own functions at []Packet: sz, to, eq. -/
import Derived.Test.YthellpcohdbbfaaFill
import Derived.Test.YthellpcohdbbfaaAppT
import Derived.Test.YthellpcohdbbfaaNear
import Derived.Test.YthellpcohdbbfaaList
namespace Go.Proofs.Ythellpcohdbbfaa
set_option linter.unusedVariables false
set_option linter.unusedSimpArgs false
open Go.RowKit

def szOfPacket (n : Nat) (left : Int) : Int := if left - (n : Int) < 0 then -1 else left - n
end Go.Proofs.Ythellpcohdbbfaa