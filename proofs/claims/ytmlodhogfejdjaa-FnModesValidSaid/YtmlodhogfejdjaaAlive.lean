/- alive. -/
import Derived.Test.YtmlodhogfejdjaaWAt
namespace Go.Proofs.Ytmlodhogfejdjaa
set_option linter.unusedVariables false
set_option linter.unusedSimpArgs false
open Go.RowKit Go.Shelf

theorem windowAt_alive : windowAt [⟨5, 2, false⟩] 6 false = 0 := by decide

theorem alive_any (w : World) : Calls Try.prog 18 #[] w fun e w' => .returned (.bool true) = e ∧ Below w.heap.size w w' := by
  have hcall := windowAt_any (some ⟨w.heap.size, 0, none⟩) 1 1 [⟨5, 2, false⟩] 6 false (w.alloc (.cells #[.int .i64 5, .int .i64 2, .bool false] 35)) (by
    refine ⟨rfl, by omega, by omega, fun _ => ⟨_, _, rfl, by simp, fun j x hx i u hu => ?_⟩⟩
    rcases j with _ | j
    · injection hx with hx; subst hx
      rcases i with _ | _ | _ | i
      · injection hu with hu; subst hu; simp
      · injection hu with hu; subst hu; simp
      · injection hu with hu; subst hu; simp
      · cases hu
    · cases hx)
  rw [windowAt_alive] at hcall
  go_enter Try.func18, Try.ntmps18
  go_wp2_with fail
  refine hcall.mono ?_
  rintro e w1 ⟨rfl, hb⟩
  go_wp2
  go_ret
  exact ⟨rfl, ((Below.refl _ _).alloc (Nat.le_refl _) _).trans (hb.mono (by simp))⟩
end Go.Proofs.Ytmlodhogfejdjaa
