/- slices.Clip at the types that are met. -/
import Derived.Test.YtmlodhogfejdjaaAppT
import Derived.Test.YtmlodhogfejdjaaList
namespace Go.Proofs.Ytmlodhogfejdjaa
set_option linter.unusedVariables false
set_option linter.unusedSimpArgs false
open Go.RowKit

theorem slN {α : Type} (w : World) (k : Nat) (enc : α → List Value) : Sl w k enc none 0 0 ([] : List α) := ⟨rfl, Nat.le_refl _, by omega, fun h => absurd h (by omega)⟩
theorem okNil {α : Type} (w : World) (b k : Nat) (enc : α → List Value) : SV.ok w b k enc ⟨none, 0, 0, ([] : List α)⟩ := ⟨slN w k enc, (fun b o e => by cases e), (fun _ => rfl), (fun _ e => by cases e)⟩
end Go.Proofs.Ytmlodhogfejdjaa