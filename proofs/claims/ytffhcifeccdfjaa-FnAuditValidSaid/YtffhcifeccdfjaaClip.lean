/- slices.Clip at the types that are met. -/
import Derived.Test.YtffhcifeccdfjaaAppT
import Derived.Test.YtffhcifeccdfjaaList
namespace Go.Proofs.Ytffhcifeccdfjaa
set_option linter.unusedVariables false
set_option linter.unusedSimpArgs false
open Go.RowKit

theorem slN {α : Type} (w : World) (k : Nat) (enc : α → List Value) : Sl w k enc none 0 0 ([] : List α) := ⟨rfl, Nat.le_refl _, by omega, fun h => absurd h (by omega)⟩
theorem okNil {α : Type} (w : World) (b k : Nat) (enc : α → List Value) : SV.ok w b k enc ⟨none, 0, 0, ([] : List α)⟩ := ⟨slN w k enc, (fun b o e => by cases e), (fun _ => rfl), (fun _ e => by cases e)⟩
theorem clipInt_any (A : Option Addr) (n c : Nat) (hle : n ≤ c) (hmax : c ≤ 9223372036854775807) (hnil : A = none → c = 0) (w : World) :
    Calls Try.prog 96 #[.slice A n c] w fun e w' => .returned (.slice A n n) = e ∧ w = w' := by
  cases A with
  | none =>
    obtain rfl : c = 0 := hnil rfl
    obtain rfl : n = 0 := by omega
    clear hnil
    go_enter Try.func96, Try.ntmps96
    go_wp2
    go_ret
    exact ⟨rfl, rfl⟩
  | some a =>
    clear hnil
    go_enter Try.func96, Try.ntmps96
    go_wp2
    go_ret
    exact ⟨by simp, rfl⟩
theorem clipTr_any (A : Option Addr) (n c : Nat) (hle : n ≤ c) (hmax : c ≤ 9223372036854775807) (hnil : A = none → c = 0) (w : World) :
    Calls Try.prog 44 #[.slice A n c] w fun e w' => .returned (.slice A n n) = e ∧ w = w' := by
  cases A with
  | none =>
    obtain rfl : c = 0 := hnil rfl
    obtain rfl : n = 0 := by omega
    clear hnil
    go_enter Try.func44, Try.ntmps44
    go_wp2
    go_ret
    exact ⟨rfl, rfl⟩
  | some a =>
    clear hnil
    go_enter Try.func44, Try.ntmps44
    go_wp2
    go_ret
    exact ⟨by simp, rfl⟩
end Go.Proofs.Ytffhcifeccdfjaa