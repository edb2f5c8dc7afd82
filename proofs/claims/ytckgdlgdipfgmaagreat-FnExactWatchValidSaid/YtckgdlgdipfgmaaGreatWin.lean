/- Windows: in, valid, has, WindowsValid, WindowAt, alive. -/
import Derived.Test.YtckgdlgdipfgmaaGreatBase
import Derived.Test.YtckgdlgdipfgmaaGreatChecked
namespace Go.Proofs.YtckgdlgdipfgmaaGreat
set_option linter.unusedVariables false
set_option linter.unusedSimpArgs false
open Go.RowKit

def inB (n lo hi : Int) : Bool := decide (lo ≤ n) && decide (n ≤ hi)
theorem inB_true {n lo hi : Int} : inB n lo hi = true ↔ lo ≤ n ∧ n ≤ hi := by simp [inB]
theorem inB_false {n lo hi : Int} : inB n lo hi = false ↔ n < lo ∨ hi < n := by
  rw [← Bool.not_eq_true, inB_true]; omega

theorem in_any (n lo hi : Int) (w : World) : Calls Tryz.prog 79 #[.int .i64 n, .int .i64 lo, .int .i64 hi] w fun e w' => .returned (.bool (inB n lo hi)) = e ∧ w = w' := by
  cases hb : inB n lo hi
  · rw [inB_false] at hb
    by_cases h1 : lo ≤ n
    · have h2 : ¬ n ≤ hi := by omega
      clear hb
      go_enter Tryz.func79, Tryz.ntmps79
      go_wp2
      go_ret
      exact ⟨rfl, rfl⟩
    · clear hb
      go_enter Tryz.func79, Tryz.ntmps79
      go_wp2
      go_ret
      exact ⟨rfl, rfl⟩
  · rw [inB_true] at hb
    obtain ⟨h1, h2⟩ := hb
    go_enter Tryz.func79, Tryz.ntmps79
    go_wp2
    go_ret
    exact ⟨rfl, rfl⟩

/-- A window. -/
structure Win where
  base : Int
  size : Int
  wr : Bool
instance : Inhabited Win := ⟨⟨0, 0, false⟩⟩
def Win.cells (x : Win) : List Value := [.int .i64 x.base, .int .i64 x.size, .bool x.wr]
def Win.ok (x : Win) : Bool := inB x.base 0 4095 && inB x.size 1 (4096 - x.base)
def Win.has (x : Win) (p : Int) : Bool := inB p x.base (x.base + x.size - 1)
theorem Win.ok_true {x : Win} : x.ok = true ↔ 0 ≤ x.base ∧ x.base ≤ 4095 ∧ 1 ≤ x.size ∧ x.size ≤ 4096 - x.base := by
  simp [Win.ok, inB_true, and_assoc]

theorem valid_any (x : Win) (w : World) : Calls Tryz.prog 152 #[.agg #[.int .i64 x.base, .int .i64 x.size, .bool x.wr]] w fun e w' => .returned (.bool x.ok) = e ∧ Below w.heap.size w w' := by
  obtain ⟨b, s, wr⟩ := x
  simp only [Win.ok]
  cases hb : inB b 0 4095
  · have H := Lib.hid hb
    clear hb
    go_enter Tryz.func152, Tryz.ntmps152
    go_wp2_with (go_at_call 79; refine (in_any _ _ _ _).mono ?_; rw [H.out]; rintro e w' ⟨rfl, rfl⟩)
    go_ret
    exact ⟨rfl, (Below.refl _ _).alloc (Nat.le_refl _) _⟩
  · have h := inB_true.1 hb
    have H := Lib.hid hb
    clear hb
    go_enter Tryz.func152, Tryz.ntmps152
    go_wp2_with fail
    refine (in_any _ _ _ _).mono ?_; rw [H.out]; rintro e w' ⟨rfl, rfl⟩
    go_wp2_with (go_at_call 79; refine (in_any _ _ _ _).mono ?_; rintro e w' ⟨rfl, rfl⟩)
    go_ret
    exact ⟨by simp, (Below.refl _ _).alloc (Nat.le_refl _) _⟩

theorem bad_any (x : Win) (w : World) : Calls Tryz.prog 151 #[.agg #[.int .i64 x.base, .int .i64 x.size, .bool x.wr]] w fun e w' => .returned (.bool (!x.ok)) = e ∧ Below w.heap.size w w' := by
  go_enter Tryz.func151, Tryz.ntmps151
  go_wp2_with (go_at_call 152; refine (valid_any _ _).mono ?_; rintro e w1 ⟨rfl, hb⟩)
  go_ret
  exact ⟨rfl, ((Below.refl _ _).alloc (Nat.le_refl _) _).trans (hb.mono (by simp))⟩

end Go.Proofs.YtckgdlgdipfgmaaGreat
