/- HoldValid of impl and spec. -/
import Derived.Test.YthellpcohdbbfaaSel
import Derived.Test.YthellpcohdbbfaaL1In
import Derived.Test.YthellpcohdbbfaaIdxInt
namespace Go.Proofs.Ythellpcohdbbfaa
set_option linter.unusedVariables false
set_option linter.unusedSimpArgs false
open Go.RowKit Go.Shelf

def sizedOk (kind size : Int) : Bool := (kind == 1 && size == 1) || ((kind == 2 || kind == 3) && inB size 1 4)
def holdOk (xs : List Int) (kind size : Int) : Bool := sizedOk kind size && (decide ((xs.length : Int) ≤ size) && xs.all fun x => inB x 0 255)
theorem any_notH (p : Int → Bool) (xs : List Int) : (!xs.any fun x => !p x) = xs.all p := by
  induction xs with
  | nil => rfl
  | cons a l ih => simp [← ih]

theorem sized_any (kind size : Int) (w : World) : Calls Try.prog 58 #[.int .i64 kind, .int .i64 size] w fun e w' => .returned (.bool (sizedOk kind size)) = e ∧ w = w' := by
  unfold sizedOk
  by_cases h1 : kind = 1
  · subst h1
    by_cases h2 : size = 1
    · subst h2
      go_enter Try.func58, Try.ntmps58
      go_wp2
      go_ret
      exact ⟨rfl, rfl⟩
    · have h3 : (size == (1 : Int)) = false := by simpa using h2
      rw [h3]
      clear h2
      go_enter Try.func58, Try.ntmps58
      go_wp2
      go_ret
      exact ⟨by simp, rfl⟩
  · have h3 : (kind == (1 : Int)) = false := by simpa using h1
    rw [h3]
    clear h1
    have hc := fun W => in_any size 1 4 W
    generalize inB size 1 4 = v at *
    by_cases h1 : kind = 2
    · subst h1
      go_enter Try.func58, Try.ntmps58
      go_wp2_with fail
      refine (hc _).mono ?_; rintro e w' ⟨rfl, rfl⟩
      go_wp2
      go_ret
      exact ⟨by simp, rfl⟩
    · have h4 : (kind == (2 : Int)) = false := by simpa using h1
      rw [h4]
      clear h1
      by_cases h1 : kind = 3
      · subst h1
        go_enter Try.func58, Try.ntmps58
        go_wp2_with fail
        refine (hc _).mono ?_; rintro e w' ⟨rfl, rfl⟩
        go_wp2
        go_ret
        exact ⟨by simp, rfl⟩
      · have h5 : (kind == (3 : Int)) = false := by simpa using h1
        rw [h5]
        clear h1 hc
        go_enter Try.func58, Try.ntmps58
        go_wp2
        go_ret
        exact ⟨by simp, rfl⟩

theorem isValue_any (n : Int) (w : World) : Calls Try.prog 72 #[.int .i64 n] w fun e w' => .returned (.bool (inB n 0 255)) = e ∧ w = w' := by
  go_enter Try.func72, Try.ntmps72
  go_wp2_with (go_at_call 49; refine (in_any _ _ _ _).mono ?_; rintro e w1 ⟨rfl, rfl⟩)
  go_ret
  exact ⟨rfl, rfl⟩
end Go.Proofs.Ythellpcohdbbfaa