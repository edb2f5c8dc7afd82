/- Health: the draw, HealthValid. -/
import Derived.Test.YtckgdlgdipfgmaaGreatPick
import Derived.Test.YtckgdlgdipfgmaaGreatSel
import Derived.Test.YtckgdlgdipfgmaaGreatOrd
namespace Go.Proofs.YtckgdlgdipfgmaaGreat
set_option linter.unusedVariables false
set_option linter.unusedSimpArgs false
open Go.RowKit

def healthOk (f : Bool) (x : Int) : Bool := inB x 0 3 && (f || decide (x < 3))
theorem healthValid_any (f : Bool) (x : Int) (w : World) : Calls Tryz.prog 60 #[.agg #[.bool f, .int .i64 x]] w fun e w' => .returned (.bool (healthOk f x)) = e ∧ Below w.heap.size w w' := by
  unfold healthOk
  have h1 := fun W => in_any x 0 3 W
  generalize inB x 0 3 = v1 at *
  by_cases h3 : x < 3
  all_goals
    cases v1 <;> cases f
    all_goals
      go_enter Tryz.func60, Tryz.ntmps60
      go_wp2_with fail
      refine (h1 _).mono ?_; rintro e w' ⟨rfl, rfl⟩
      go_wp2
      go_ret
      exact ⟨by simp [h3], (Below.refl _ _).alloc (Nat.le_refl _) _⟩
theorem specHealthValid_any (f : Bool) (x : Int) (w : World) : Calls Tryz.prog 55 #[.agg #[.bool f, .int .i64 x]] w fun e w' => .returned (.bool (healthOk f x)) = e ∧ Below w.heap.size w w' := by
  unfold healthOk
  have h1 := fun W => l1In_any x 0 3 W
  generalize inB x 0 3 = v1 at *
  by_cases h3 : x < 3
  all_goals
    cases v1 <;> cases f
    all_goals
      go_enter Tryz.func55, Tryz.ntmps55
      go_wp2_with fail
      refine (h1 _).mono ?_; rintro e w' ⟨rfl, rfl⟩
      go_wp2
      go_ret
      exact ⟨by simp [h3], (Below.refl _ _).alloc (Nat.le_refl _) _⟩
end Go.Proofs.YtckgdlgdipfgmaaGreat
