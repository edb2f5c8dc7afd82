/- Partitions in memory: a slice of windows and a number. -/
import Derived.Test.YtckgdlgdipfgmaaGreatApp
import Derived.Test.YtckgdlgdipfgmaaGreatWin
namespace Go.Proofs.YtckgdlgdipfgmaaGreat
set_option linter.unusedVariables false
set_option linter.unusedSimpArgs false
open Go.RowKit

abbrev PartV := SV Win × Int
def eP (x : PartV) : List Value := [x.1.v, .int .i64 x.2]
theorem encP : Enc eP 2 := ⟨fun _ => rfl, fun x u h => by simp [eP] at h; rcases h with rfl | rfl <;> rfl⟩
/-- The windows of all partitions of a list can be read. -/
def PtOk (w : World) (xs : List PartV) : Prop := ∀ x ∈ xs, Sl w 3 Win.cells x.1.A x.1.n x.1.c x.1.xs
theorem PtOk.below {w w' : World} {xs : List PartV} (h : PtOk w xs) (hb : Below w.heap.size w w') : PtOk w' xs := fun x hx => (h x hx).below hb
end Go.Proofs.YtckgdlgdipfgmaaGreat
