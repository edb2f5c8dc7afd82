/- Lists read element by element. -/
import Derived.Test.YtckgdlgdipfgmaaGreatBase
import Derived.Test.YtckgdlgdipfgmaaGreatChecked
import Derived.Deep.QuietTactic
import Derived.BigQuiet
namespace Go.Proofs.YtckgdlgdipfgmaaGreat
set_option linter.unusedVariables false
set_option linter.unusedSimpArgs false
open Go.RowKit

theorem belowDrewN' {B : Nat} {a w : World} (h : Below B a w) (n : Nat) : Below B a (w.drewN n) := ⟨h.os, h.tape, h.output, h.size, h.block⟩

theorem Sl.nth {α : Type} {w wr : World} {k n c : Nat} {enc : α → List Value} {A : Option Addr} {xs : List α} (hs : Sl w k enc A n c xs) {kk : Nat} (hk : kk < n) (hb : Below w.heap.size w wr) :
    ∃ b o, A = some ⟨b, o, none⟩ ∧ ∃ y, xs[kk]? = some y ∧ ∀ i u, (enc y)[i]? = some u → wr.cell? ⟨b, o + kk * k + i, none⟩ = some u := by
  obtain ⟨b, o, rfl, hbl, hc⟩ := hs.cells (by omega)
  have hlx : kk < xs.length := by have := hs.len; omega
  have hx : xs[kk]? = some xs[kk] := List.getElem?_eq_getElem hlx
  exact ⟨b, o, rfl, xs[kk], hx, fun i u hu => (hb.cell (p := ⟨b, o + kk * k + i, none⟩) hbl).trans (hc kk _ hx i u hu)⟩

theorem Calls.flip {P : Program} {f : FuncId} {args : Array Value} {w : World} {v : Value} (h : Calls P f args w fun e w' => .returned v = e ∧ w = w') : Calls P f args w fun e w' => e = .returned v ∧ w' = w := h.mono fun _ _ ⟨a, b⟩ => ⟨a.symm, b.symm⟩
theorem all_stepF {α : Type} {p : α → Bool} {xs : List α} {kk : Nat} {y : α} (h : ∀ j z, j < kk → xs[j]? = some z → p z = false) (hx : xs[kk]? = some y) (hp : p y = false) : ∀ j z, j < kk + 1 → xs[j]? = some z → p z = false := by
  intro j z hj hz
  by_cases e : j = kk
  · subst e; rw [hx] at hz; injection hz with hz; rw [← hz]; exact hp
  · exact h j z (by omega) hz
theorem same_step {α : Type} {xs ys : List α} {kk : Nat} {y : α} (h : ∀ j, j < kk → xs[j]? = ys[j]?) (hx : xs[kk]? = some y) (hy : ys[kk]? = some y) : ∀ j, j < kk + 1 → xs[j]? = ys[j]? := by
  intro j hj
  by_cases e : j = kk
  · subst e; rw [hx, hy]
  · exact h j (by omega)
theorem same_fails {α : Type} {xs ys : List α} {kk : Nat} {y z : α} (hx : xs[kk]? = some y) (hy : ys[kk]? = some z) (h : ¬ y = z) : ¬ xs = ys := by
  rintro rfl
  rw [hx] at hy
  injection hy with hy
  exact h hy
theorem same_holds {α : Type} {xs ys : List α} {n : Nat} (hn : xs.length = n) (hn' : ys.length = n) (h : ∀ j, j < n → xs[j]? = ys[j]?) : xs = ys := by
  apply List.ext_getElem?
  intro j
  by_cases hj : j < n
  · exact h j hj
  · rw [List.getElem?_eq_none (by omega), List.getElem?_eq_none (by omega)]

end Go.Proofs.YtckgdlgdipfgmaaGreat
