/- The walk of FnMixNumbers. -/
import Derived.Test.YtffhcifeccdfjaaKey
import Derived.Test.YtffhcifeccdfjaaMix
import Derived.Test.YtffhcifeccdfjaaAlive
import Derived.BigQuiet
import Derived.Deep.QuietTactic
namespace Go.Proofs.Ytffhcifeccdfjaa
set_option linter.unusedVariables false
set_option linter.unusedSimpArgs false
open Go.RowKit

theorem nat_xor_one (a : Nat) : a ^^^ 1 = if a % 2 = 0 then a + 1 else a - 1 := by
  have h1 := Nat.xor_div_two (a := a) (b := 1)
  have h2 : (a ^^^ 1) % 2 = (a % 2 + 1) % 2 := by
    have := Nat.xor_mod_two_pow (a := a) (b := 1) (n := 1)
    have h3 : a % 2 = 0 ∨ a % 2 = 1 := by omega
    simp at this
    rw [this]
    rcases h3 with h3 | h3 <;> rw [h3] <;> rfl
  simp at h1
  split <;> omega
theorem xor_one (y : Int) (h : i64ok y) : bits .xor .i64 y 1 = if y % 2 = 0 then y + 1 else y - 1 := by
  obtain ⟨h0, h1⟩ := h
  show IntKind.i64.wrap ((BitVec.ofInt 64 y ^^^ BitVec.ofInt 64 1).toNat : Int) = _
  rw [BitVec.toNat_xor, IntKind.wrap_i64]
  have ha : ((BitVec.ofInt 64 y).toNat : Int) = y % 18446744073709551616 := by
    rw [BitVec.toNat_ofInt]; omega
  have hb : (BitVec.ofInt 64 1).toNat = 1 := by decide
  rw [hb, nat_xor_one]
  generalize (BitVec.ofInt 64 y).toNat = a at *
  split <;> split <;> omega
theorem xor_ne (y : Int) (h : i64ok y) : bits .xor .i64 y 1 % 1048573 ≠ y % 1048573 := by
  rw [xor_one y h]
  split <;> omega

theorem mixS_any (k : Int) (A : Option Addr) (n c : Nat) (xs : List Int) (w : World) (hs : Sl w 1 eI A n c xs) (m : Nat) :
    Calls Try.prog 92 #[.int .i64 k, .slice A n c] (w.drewN m) fun e w' => e = .returned (.int .i64 (mix k xs)) ∧ w' = w.drewN m :=
  (mixQ_any k A n c xs (w.drewN m) (hs.drewN m)).mono fun _ _ ⟨a, b⟩ => ⟨a.symm, b.symm⟩

end Go.Proofs.Ytffhcifeccdfjaa