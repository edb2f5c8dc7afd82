/- Transfers: the draw, TransferValid. -/
import Derived.Test.YtmlodhogfejdjaaPick
import Derived.Test.YtmlodhogfejdjaaSel
import Derived.Test.YtmlodhogfejdjaaL1In
namespace Go.Proofs.Ytmlodhogfejdjaa
open Go.RowKit

def trCells (x : Int × Int × Bool) : Value := .agg #[.int .i64 x.1, .int .i64 x.2.1, .bool x.2.2]
def TrB (x : Int × Int × Bool) : Prop := -1 ≤ x.1 ∧ x.1 ≤ 4096 ∧ 0 ≤ x.2.1 ∧ x.2.1 ≤ 65

def trOk (p c : Int) : Bool := inB c 1 64 && inB p 0 (4096 - c)
theorem transferValid_any (p c : Int) (z : Bool) (w : World) : Calls Try.prog 66 #[trCells (p, c, z)] w fun e w' => .returned (.bool (trOk p c)) = e ∧ Below w.heap.size w w' := by
  unfold trOk trCells
  have h1 := fun W => in_any c 1 64 W
  have h2 := fun W => in_any p 0 (4096 - c) W
  have hc := @inB_true c 1 64
  generalize inB c 1 64 = v1 at *
  generalize inB p 0 (4096 - c) = v2 at *
  cases v1 <;> cases v2
  all_goals
    simp only [Bool.false_eq_true, false_iff, true_iff] at hc
    go_enter Try.func66, Try.ntmps66
    go_wp2_with fail
    refine (h1 _).mono ?_; rintro e w' ⟨rfl, rfl⟩
    go_wp2_with fail
    try (refine (h2 _).mono ?_; rintro e w' ⟨rfl, rfl⟩; go_wp2)
    go_ret
    exact ⟨rfl, (Below.refl _ _).alloc (Nat.le_refl _) _⟩
end Go.Proofs.Ytmlodhogfejdjaa