/- Tables of slots in memory: slices of slices. -/
import Derived.Test.YtmlodhogfejdjaaApp
namespace Go.Proofs.Ytmlodhogfejdjaa
set_option linter.unusedVariables false
set_option linter.unusedSimpArgs false
open Go.RowKit

abbrev TabV := SV (Int × Int)
def eTb (x : TabV) : List Value := [x.v]
theorem encTb : Enc eTb 1 := ⟨fun _ => rfl, fun x u h => by simp [eTb] at h; subst h; rfl⟩
/-- The slots of all tables of a list can be read. -/
def TbOk (w : World) (xs : List TabV) : Prop := ∀ x ∈ xs, Sl w 2 eS x.A x.n x.c x.xs
theorem TbOk.below {w w' : World} {xs : List TabV} (h : TbOk w xs) (hb : Below w.heap.size w w') : TbOk w' xs := fun x hx => (h x hx).below hb
/-- They lie in the call's own memory. -/
def TbOwn (w : World) (base : Nat) (xs : List TabV) : Prop := ∀ x ∈ xs, Own w base 28 2 eS x.v x.xs
end Go.Proofs.Ytmlodhogfejdjaa
