/- Rows of slices apart. -/
import Derived.Test.YtenbpaoelipifaaWSl
namespace Go.Proofs.Ytenbpaoelipifaa
set_option linter.unusedVariables false
set_option linter.unusedSimpArgs false
open Go.RowKit

theorem addr_lt {α : Type} {w : World} {k n c : Nat} {enc : α → List Value} {A : Option Addr} {xs : List α} {row : Option Nat} {G : Nat} (hlt : ∀ b o, A = some ⟨b, o, none⟩ → b < G) (hr : ∀ g, row = some g → G ≤ g) : ∀ b o, A = some ⟨b, o, none⟩ → row ≠ some b := fun b o e e' => by have := hlt b o e; have := hr b e'; omega

theorem row_some {α : Type} {g o n c b : Nat} {xs : List α} (h : SV.row ⟨some ⟨g, o, none⟩, n, c, xs⟩ = some b) : b = g := by
  unfold SV.row at h
  split at h
  · simpa using h.symm
  · cases h
theorem WS.other2 {α β : Type} {w w' : World} {base base' E E' k k' : Nat} {enc : α → List Value} {enc' : β → List Value} {s : SV α} {s' : SV β} (h : WS w base E k enc s) (h' : WS w base' E' k' enc' s') (hE : E ≠ E') (hg : w.grownBy w' s'.row) : WS w' base E k enc s := by
  by_cases hn : 0 < s.n
  · obtain ⟨g, o, cs, e, B, hc⟩ := h.wr hn
    have hne : s'.row ≠ some g := h'.rowNe B hE
    exact h.other hg (fun b o' e' => by
      rw [e] at e'
      injection e' with e'
      injection e' with e1 _
      subst e1
      exact hne)
  · exact ⟨⟨⟨h.ok.sl.len, h.ok.sl.le, h.ok.sl.max, fun h => absurd h hn⟩, h.ok.fresh, h.ok.nil, h.ok.spot⟩, fun h => absurd h hn⟩
end Go.Proofs.Ytenbpaoelipifaa
