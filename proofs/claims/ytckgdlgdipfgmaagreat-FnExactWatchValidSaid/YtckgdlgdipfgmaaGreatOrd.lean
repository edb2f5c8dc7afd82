/- Orders: OrderNumber, OrderFrom of impl and spec. -/
import Derived.Test.YtckgdlgdipfgmaaGreatWin
namespace Go.Proofs.YtckgdlgdipfgmaaGreat
set_option linter.unusedVariables false
set_option linter.unusedSimpArgs false
open Go.RowKit

theorem l1In_any (n lo hi : Int) (w : World) : Calls Tryz.prog 30 #[.int .i64 n, .int .i64 lo, .int .i64 hi] w fun e w' => .returned (.bool (inB n lo hi)) = e ∧ w = w' := by
  cases hb : inB n lo hi
  · rw [inB_false] at hb
    by_cases h1 : lo ≤ n
    · have h2 : ¬ n ≤ hi := by omega
      clear hb
      go_enter Tryz.func30, Tryz.ntmps30
      go_wp2
      go_ret
      exact ⟨rfl, rfl⟩
    · clear hb
      go_enter Tryz.func30, Tryz.ntmps30
      go_wp2
      go_ret
      exact ⟨rfl, rfl⟩
  · rw [inB_true] at hb
    obtain ⟨h1, h2⟩ := hb
    go_enter Tryz.func30, Tryz.ntmps30
    go_wp2
    go_ret
    exact ⟨rfl, rfl⟩

def ordNum (op a b : Int) : Int := if inB op 0 15 && (inB a 0 255 && inB b 0 255) then op + 16 * (a + 256 * b) else -1

def ordFrom (n : Int) : Int × Int × Int × Bool := if inB n 0 1048575 then (n % 16, n / 16 % 256, n / 4096, true) else (0, 0, 0, false)

end Go.Proofs.YtckgdlgdipfgmaaGreat