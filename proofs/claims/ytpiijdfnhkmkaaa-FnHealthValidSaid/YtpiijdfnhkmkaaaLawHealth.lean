/- The walk of FnHealthValid. -/
import Derived.Test.YtpiijdfnhkmkaaaHealth
import Derived.Test.YtpiijdfnhkmkaaaAlive
namespace Go.Proofs.Ytpiijdfnhkmkaaa
open Go.RowKit

theorem lawHealthValid (A : Option Addr) (n c : Nat) (zs : List Int) (w : World) (h : Code w A n c zs) :
    Calls Try.prog 7 #[.slice A n c] w fun e w' => .returned (.bool true) = e ∧ Below w.heap.size w w' := by
  have hle := h.le
  have hmax := h.max
  by_cases hn : n ≤ 1048576
  · have hdraw := drawHealthValid_any A n c zs w h
    clear h
    go_enter Try.func7, Try.ntmps7
    go_wp2_with fail
    refine hdraw.mono ?_
    rintro e w1 ⟨⟨f, a⟩, rfl, hb⟩
    clear hdraw
    have hI := fun W => healthValid_any f a W
    have hS := fun W => specHealthValid_any f a W
    have hJ := fun W => healthValid_any false 3 W
    have hK := fun W => healthValid_any true 3 W
    rw [show healthOk false 3 = false from by decide] at hJ
    rw [show healthOk true 3 = true from by decide] at hK
    generalize healthOk f a = v at *
    have B1 := Blk.new w1 38 #[.bool f, .int .i64 a]
    cases v
    all_goals
      go_wp2_with fail
      refine (hI _).mono ?_
      rintro e w2 ⟨rfl, hb2⟩
      replace B1 := B1.below hb2
      have c1 := B1.cell
      have hB := thn (alo hb _) hb2
      go_wp2_with fail
      refine (hS _).mono ?_
      rintro e w3 ⟨rfl, hb3⟩
      replace hB := thn hB hb3
      clear c1
      go_wp2_with fail
      refine (hJ _).mono ?_
      rintro e w4 ⟨rfl, hb4⟩
      replace hB := thn hB hb4
      go_wp2_with fail
      refine (hK _).mono ?_
      rintro e w5 ⟨rfl, hb5⟩
      replace hB := thn hB hb5
      go_wp2_with fail
      refine (alive_any _).mono ?_
      rintro e w6 ⟨rfl, hb6⟩
      replace hB := thn hB hb6
      go_wp2
      go_ret
      exact ⟨rfl, hB⟩
  · clear h
    go_enter Try.func7, Try.ntmps7
    go_wp2
    go_ret
    exact ⟨rfl, Below.refl _ _⟩
end Go.Proofs.Ytpiijdfnhkmkaaa
